/- A value that a slot holds becomes a value of the block that it belongs to. -/
import Derived.Test.YtcdpbkolkeeopaaGreatBd
import Derived.Shelf.SortM.Plain
import Derived.Shelf.SortM.SortNone
import Derived.Sort.MapsRangeIn
import Derived.Sort.KeysCollected
import Derived.Sort.OwnSorted
import Derived.Maps.AppendAt
set_option linter.all false
set_option maxRecDepth 100000
set_option maxHeartbeats 4000000
namespace Go.Hk
open Go.Proofs.Tryz
open Go.Proofs
variable {t:Tm} {st au:St} {I:TA} {w:World} {P:Program} {n i b j:Nat} {F aa Kr:K1} {Q:DQ} {env l:Env} {todo k s:S6} {a:An} {o:Int} {x:Z} {v u:Value} {ks:N4} {r:TT} {μ:Mu} {Pn:V->Prop} {d:D} {y:Prop} {ob:T0}
def po:An->Nat->Option An
 |.mk _ _ _ _ _ ks _ _,i=>ks[i]?
 |.im _ _ _,_=>none
def FG:Tm->Nat->Option Tm
 |.mk _ _ _ ks _,i=>ks[i]?
def CH:Tm->Nat->Tm->Tm
 |.mk e n x ks f,i,k=>.mk e n x (ks.set i k) f
def gV (z:pn a) (A:vA a=dTmc t) {k:Tm} (h:FG t i=some k):∃o n x v ks u m c p e f,a=.mk true o n x v ks u m/\t=.mk o n p e f/\p=x/\ks[i]?=some c/\vA c=dTmc k/\Eg a (false,i)=some (c,BG v,i*5)/\e[i]?=some k/\HK ks=Ci e/\HK m=A3 f:=by rcases a with⟨s,o,n,x,v,ks,u,m⟩|⟨G,B,H⟩;(case im=>exact z.elim);obtain⟨rfl,_⟩:=z;obtain⟨K,L,p,e,f⟩:=t;simp only[vA,dTmc,Cr,V.sl.injEq,V.int.injEq,V.str.injEq,ax,be]at A;obtain⟨rfl,rfl,rfl,q,C⟩:=A;simp only[FG]at h;have D:ks.length=e.length:=by{have:=af List.length q;simpa using this};obtain⟨c,r⟩:∃c,ks[i]?=some c:=Aq (by rw[D];exact(A9.1 h).1);have y:vA c=dTmc k:=by{have:=af (λl=>l[i]?) q;simp only[bH r,Ec h]at this;exact Lk this};exact⟨o,n,x,v,ks,u,m,c,x,e,f,rfl,rfl,rfl,r,y,by simp[Eg,r,Gl],h,q,C⟩
def Tu {z:An} {n:Int} {H:N4} {A B:Int} {C:Z} {p:G1} {q:E1} (r:z=.mk true o n x v ks u H) (K:t=.mk A B C p q) {vs:R0} {L:K1} (h:(DT b z t).P vs I w L):DU I w b 0 [i7 A,i7 B,.Kp<|.str C,.eR v,.eR u]:=by obtain⟨a,m,D,G⟩:=h;rw[r]at m;rcases a with⟨s,W,c,g,i,M,k,N⟩|⟨E,R,F⟩;(case im=>simp[er]at m);simp only[er,An.mk.injEq]at m;obtain⟨rfl,rfl,rfl,_,rfl,_,rfl,_⟩:=m;subst K;simp only[vA,dTmc,Cr,V.int.injEq,V.str.injEq,ax]at D;obtain⟨rfl,rfl,rfl,_⟩:=D;have e:=eT G.2.2.2.2.2;obtain⟨y,S,T,U,l⟩:=G.2.2.2.2.1;refine⟨y,S,T,U,λj d f=>?_⟩;match j with|0=>simp at f;subst f;exact⟨_,l 0 _ O,e _<|by simp[cA],.Kp _ _<|.int _ _⟩|1=>simp at f;subst f;exact⟨_,l 1 _ O,e _<|by simp[cA],.Kp _ _<|.int _ _⟩|2=>simp at f;subst f;exact⟨_,l 2 _ O,e _<|by simp[cA],.Kp _ _<|.encStr _ _⟩|3=>simp at f;subst f;exact⟨_,l 3 _ O,e _<|by simp[cA],.eR _<|e _<|by simp[cA]⟩|4=>simp at f;subst f;exact⟨_,l 4 _ O,e _<|by simp[cA],.eR _<|e _<|by simp[cA]⟩|j+5=>{simp at f}
def zo2 {d:An} {n:Int} {f:N4} (h:er a=er d) (l:d=.mk true o n x v ks u f):∃y mu e,a=.mk true o n y v mu u e/\Re mu=Re ks/\Re e=Re f:=by subst l;rcases a with⟨s,z,A,m,B,mu,C,e⟩|⟨D,p,G⟩;(case im=>simp[er]at h);simp only[er,An.mk.injEq]at h;obtain⟨rfl,rfl,rfl,_,rfl,q,rfl,r⟩:=h;exact⟨m,mu,e,rfl,q,r⟩
abbrev Sc:=L1 (Z×Z)
def zpx (i:Int) (st:Nat×Tm×L1 Z×Sc) (x:Z):Nat×Tm×L1 Z×Sc :=
 (st.1+1,E5 st.2.1 i st.1<|C4 st.2.2.1,st.2.2.1++[C4 st.2.2.1],(x,C4 st.2.2.1)::st.2.2.2)
def zij (i:Int) (e:L1 Z) (T:Tm) (f:L1 Z) (s:Sc):Nat×Tm×L1 Z×Sc:=e.foldl (zpx i) (0,T,f,s)
def l1:Nat->Nat->Tm->L1 Z->Sc->L1 Sc->Tm×L1 Z×L1 Sc
 |0,_,T,f,_,e=>(T,f,e)
 |m+1,i,T,f,s,e=>l1 m (i+1) (zij i (Ai T i) T f s).2.1 (zij i (Ai T i) T f s).2.2.1 s<|e++[(zij i (Ai T i) T f s).2.2.2]
def G8 (t:Tm):Nat->Nat->Nat
 |0,_=>0
 |m+1,i=>(Ai t i).length+G8 t m (i+1)
mutual
def Zz:∀(t:Y) (j:Nat) (x:Z),(DH<|EM t j x).map Fk=((DH t).map Fk).set j x
 |.mk s n y e,j,x=>by by_cases h:s=2;cases j with|zero=>simp[EM,h,DH,Fk]|succ j=>{simp[EM,h,DH,Fk,P5 e j x]};simp[EM,h,DH,P5 e j x]
def P5:∀(l:E1) (j:Nat) (x:Z),(CJ<|EV l j x).map Fk=((CJ l).map Fk).set j x
 |[],j,x=>by simp[EV,CJ]
 |t::r,j,x=>by simp only[EV];split;rename_i h;simp only[CJ,CG,Zz t j x,qO,CD,ae h];rename_i h;simp only[CJ,CG,P5 r _ x,qO,CD,ac h]
end
def Py (t:Y) (j:Nat) (x:Z):BM (EM t j x)=(BM t).set j x:=Zz t j x
def VA (op n:Int) (y:Z) (ks:G1) (ps:E1) (i:Int) (j:Nat) (x:Z):∃f e,E5 (.mk op n y ks ps) i j x=.mk op n f ks e/\e.length=ps.length:=by simp only[E5];split;exact⟨_,_,rfl,rfl⟩;split;split;exact⟨_,_,rfl,by simp⟩;exact⟨_,_,rfl,rfl⟩;exact⟨_,_,rfl,rfl⟩
def L7 {i:Int} (x:Z) (h:j<(Ai t i).length):Ai (E5 t i j x) i=(Ai t i).set j x:=by obtain⟨r,n,y,ks,s⟩:=t;simp only[Ai]at h;simp only[E5];by_cases f:Bv r i=true;simp only[f,aw,Ij]at h;have:j=0:=by{omega};subst this;simp[Ai,f];by_cases l:Ca r i=true;rw[ac f,ae l]at h ⊢;cases m:s[(i-1).toNat]? with|none=>simp only[m]at h;simp at h|some p=>{have q:=(A9.1 m).1;have e:(s.set (i-1).toNat<|EM p j x)[(i-1).toNat]?=some (EM p j x):=by{rw[Jc q]};simp only[Ai];rw[ac f,ae l,ac f,ae l];simp only[e,m];exact Py p j x};rw[ac f,ac l]at h;simp at h
def Pi (t:Tm) (i:Int) (j:Nat) (x:Z) (m:Int):(Ai (E5 t i j x) m).length=(Ai t m).length:=by obtain⟨l,n,y,ks,B⟩:=t;simp only[E5];by_cases s:Bv l i=true;rw[ae s];simp only[Ai];by_cases f:Bv l m=true;simp[f];rw[ac f,ac f];rw[ac s];by_cases z:Ca l i=true;rw[ae z];cases A:B[(i-1).toNat]? with|none=>rfl|some p=>{have r:=(A9.1 A).1;simp only[Ai];by_cases f:Bv l m=true;simp[f];rw[ac f,ac f];by_cases q:Ca l m=true;rw[ae q,ae q];by_cases e:(m-1).toNat=(i-1).toNat;rw[e,Jc r,A];simp only[Py,IV];rw[HQ λh=>e h.symm];rw[ac q,ac q]};rw[ac z]
def zhk {q:An} (h:K5 q t) {i:Int} {p:HN} (G:(bp q i)[j]?=some p) (x:Z):K5 q<|E5 t i j x:=by have r:=Ov h;obtain⟨a,o,n,y,ad,c,ks,u,z,rfl,L,M,N,R,S,T⟩:=h;rw[X4]at G;let⟨s,U,V,w,W,A,b,B,E,H,d,_,f⟩:=UV ((Na a).1 r) L G 0;have K:=UR p a 0 0 _ _ _ (.mk s U V x W A b B) d (by simp[er]);let⟨g,l,e,k,v,C⟩:=zo2 K M;have m:l.length=ks.length:=by{rw[<- JO,v,JO]};have D:e.length=z.length:=by{rw[<- JO,C,JO]};refine⟨_,o,n,g,ad,c,l,u,e,K,f x,by rw[k,m],(Nc e).1 (by rw[C];exact(Nc z).2 N),(Hb e).1 (by rw[C];exact(Hb z).2 R),by rw[m];exact S,by rw[D];exact T⟩
def zl7 {e:An} (h:K5 e t) (i:Int):(bp e i).length=(Ai t i).length:=tY h i
def Ir {t u:Tm} (h:∀m,(Ai t m).length=(Ai u m).length):∀m i,G8 t m i=G8 u m i
 |0,_=>rfl
 |m+1,i=>by simp only[G8,h,Ir h m]
def Qr:Code->Option (Code×Code)
 |.rangeFunc _ _ a b=>some (a,b)
 |.seq x y=>match Qr x with
  |some r=>some r
  |none=>Qr y
 |.block _ c=>Qr c
 |.loop c=>Qr c
 |.scope c=>Qr c
 |.cond _ x y=>match Qr x with
  |some r=>some r
  |none=>Qr y
 |_=>none
def zn7 (f:Func):Code:=match Qr (Ek f 0)with
 |some (a,_)=>a
 |none=>.skip
def zj5 (f:Func):Code:=match Qr (Ek f 0)with
 |some (_,b)=>b
 |none=>.skip
section
variable {a:Act}
end
def zo8 {L:Jj} {b0:g8} {f:K1} (h:(Cl L st b0).P I w b f) {A:jz} (l:lk st i=some (some<|.hp A)):∃vs e,A.P vs I w e:=by obtain⟨r,μ,m,s,y,z,B,C,p,D⟩:=h;let⟨g,_,vs,e,_,q⟩:=p i _ l;exact⟨vs,e,q⟩
end Go.Hk
namespace Go.Proofs
open Go.Shelf
def Tryz.mSort_ren:Go.Shelf.Ren:=⟨fun|6=>227|8=>272|9=>271|19=>297|20=>298|21=>288|22=>289|23=>290|24=>291|25=>292|26=>293|27=>294|28=>295|29=>296|36=>303|31=>304|32=>305|37=>306|38=>307|39=>308|41=>319|n=>n,fun|27=>73|29=>9|3=>3|32=>311|26=>73|0=>0|44=>330|46=>332|4=>4|36=>323|35=>322|41=>204|5=>5|9=>9|53=>335|57=>174|63=>345|64=>346|n=>n,fun|n=>n⟩
theorem Tryz.mSort:Go.Proofs.SlLaysM.n6 Tryz.prog Tryz.mSort_ren:={
 mixed:=by kernel_rfl
 f6:=⟨Tryz.f227.name,by decide,Tryz.func227.trans (congrArg some (by kernel_rfl))⟩
 f8:=Tryz.func272.trans (congrArg some (by kernel_rfl))
 f9:=⟨Tryz.f271.name,by decide,Tryz.func271.trans (congrArg some (by kernel_rfl))⟩
 f19:=Tryz.func297.trans (congrArg some (by kernel_rfl))
 f20:=Tryz.func298.trans (congrArg some (by kernel_rfl))
 f21:=⟨Tryz.f288.name,by decide,Tryz.func288.trans (congrArg some (by kernel_rfl))⟩
 f22:=⟨Tryz.f289.name,by decide,Tryz.func289.trans (congrArg some (by kernel_rfl))⟩
 f23:=⟨Tryz.f290.name,by decide,Tryz.func290.trans (congrArg some (by kernel_rfl))⟩
 f24:=⟨Tryz.f291.name,by decide,Tryz.func291.trans (congrArg some (by kernel_rfl))⟩
 f25:=⟨Tryz.f292.name,by decide,Tryz.func292.trans (congrArg some (by kernel_rfl))⟩
 f26:=⟨Tryz.f293.name,by decide,Tryz.func293.trans (congrArg some (by kernel_rfl))⟩
 f27:=⟨Tryz.f294.name,by decide,Tryz.func294.trans (congrArg some (by kernel_rfl))⟩
 f28:=⟨Tryz.f295.name,by decide,Tryz.func295.trans (congrArg some (by kernel_rfl))⟩
 f29:=⟨Tryz.f296.name,by decide,Tryz.func296.trans (congrArg some (by kernel_rfl))⟩
 f31:=Tryz.func304.trans (congrArg some (by kernel_rfl))
 f32:=Tryz.func305.trans (congrArg some (by kernel_rfl))
 f36:=⟨Tryz.f303.name,by decide,Tryz.func303.trans (congrArg some (by kernel_rfl))⟩
 f37:=⟨Tryz.f306.name,by decide,Tryz.func306.trans (congrArg some (by kernel_rfl))⟩
 f38:=⟨Tryz.f307.name,by decide,Tryz.func307.trans (congrArg some (by kernel_rfl))⟩
 f39:=⟨Tryz.f308.name,by decide,Tryz.func308.trans (congrArg some (by kernel_rfl))⟩
 f41:=⟨Tryz.f319.name,by decide,Tryz.func319.trans (congrArg some (by kernel_rfl))⟩
 t0:=Tryz.underlying0
 a0:=Tryz.isAgg0
 z0:=Tryz.sizeOf0
 v0:=Tryz.zeroValue0
 t3:=Tryz.underlying3
 a3:=Tryz.isAgg3
 z3:=Tryz.sizeOf3
 v3:=Tryz.zeroValue3
 t4:=Tryz.underlying4
 a4:=Tryz.isAgg4
 z4:=Tryz.sizeOf4
 v4:=Tryz.zeroValue4
 t5:=Tryz.underlying5
 a5:=Tryz.isAgg5
 z5:=Tryz.sizeOf5
 v5:=Tryz.zeroValue5
 t9:=Tryz.underlying9
 a9:=Tryz.isAgg9
 z9:=Tryz.sizeOf9
 v9:=Tryz.zeroValue9
 t26:=Tryz.underlying73
 a26:=Tryz.isAgg73
 z26:=Tryz.sizeOf73
 v26:=Tryz.zeroValue73
 t27:=Tryz.underlying73
 a27:=Tryz.isAgg73
 z27:=Tryz.sizeOf73
 v27:=Tryz.zeroValue73
 t29:=Tryz.underlying9
 a29:=Tryz.isAgg9
 z29:=Tryz.sizeOf9
 v29:=Tryz.zeroValue9
 t32:=Tryz.underlying311
 a32:=Tryz.isAgg311
 z32:=Tryz.sizeOf311
 v32:=Tryz.zeroValue311
 t35:=Tryz.underlying322
 a35:=Tryz.isAgg322
 z35:=Tryz.sizeOf322
 v35:=Tryz.zeroValue322
 t36:=Tryz.underlying323
 a36:=Tryz.isAgg323
 z36:=Tryz.sizeOf323
 v36:=Tryz.zeroValue323
 t41:=Tryz.underlying204
 a41:=Tryz.isAgg204
 z41:=Tryz.sizeOf204
 v41:=Tryz.zeroValue204
 t44:=Tryz.underlying330
 a44:=Tryz.isAgg330
 z44:=Tryz.sizeOf330
 v44:=Tryz.zeroValue330
 t46:=Tryz.underlying332
 a46:=Tryz.isAgg332
 z46:=Tryz.sizeOf332
 v46:=Tryz.zeroValue332
 t53:=Tryz.underlying335
 a53:=Tryz.isAgg335
 z53:=Tryz.sizeOf335
 v53:=Tryz.zeroValue335
 t57:=Tryz.underlying174
 a57:=Tryz.isAgg174
 z57:=Tryz.sizeOf174
 v57:=Tryz.zeroValue174
 t63:=Tryz.underlying345
 a63:=Tryz.isAgg345
 z63:=Tryz.sizeOf345
 v63:=Tryz.zeroValue345
 t64:=Tryz.underlying346
 a64:=Tryz.isAgg346
 z64:=Tryz.sizeOf346
 v64:=Tryz.zeroValue346 }
end Go.Proofs
namespace Go.Hk
open Go.Proofs Go.RowKit Go.Maps Go.Sort
def QR:Keyed Tryz.prog 9:=string_keyed Tryz.underlying9
def zk8:(Tryz.prog.info? 9).map (λi=>(i.zero,i.size,i.bytes))=some (some<|.string ⟨#[]⟩,1,16):=by kernel_rfl
def ff:=@callsIn_wide
def zjv (m:Nat) (SB off cap:Nat) (f:L1<|L1 UInt8) (W:World) (p:Holds encStr W SB off f.toArray) (h:SB<W.heap.size) (l:f.length<4611686018427387904):CallsIn Fence.wide m Tryz.prog 227 #[.slice (some ⟨SB,off,none⟩) f.length cap] W λe w'=>e=.returned (.tuple #[])/\∃k os,w'=grow (putRow encStr (Sort.ahead W k) SB off (f.mergeSort λx y=>decide (x<=y)).toArray) os:=ff.2<|AnyM.slices_Sort_string Tryz.mSort SB off cap f W p h l
def zdu (m:Nat) (p:Option Addr) (cap:Nat) (W:World):CallsIn Fence.wide m Tryz.prog 227 #[.slice p 0 cap] W λe w'=>e=.returned (.tuple #[])/\w'=W:=ff.2<|AnyM.slices_Sort_string_none Tryz.mSort p cap W
def bQ {H:Type} (b n:Nat) (D0:DataW H) (w:World) (nx:w.ownsMap Tryz.prog 9 (plainElem Tryz.prog 4) b n D0) (hmax:Maps.size D0<=maxLen) (hbytes:16*Maps.size D0<=140737488355328) :
  CallsIn Fence.wide 68 Tryz.prog 156 #[.map (some b)] w λe w'=>∃(v:Value) (ss:L1 (L1 UInt8)),e=.returned v/\ss.Perm (strKeys D0) /\
   w'.ownsRow w.heap.size 9 1 v ss.length ((ss.mergeSort (λx y=>decide (x<=y))).map encStr)/\(v=.slice none 0 0↔ss=[])/\Below w.heap.size w w':=by
 obtain⟨i0,hi,hz0,sc,hz2⟩:=info_parts zk8;have nc:=nx.lt;have hfn:Fence.wide.fn 227:=trivial;refine callsIn_of_wp Tryz.func156 O trivial ?_ O;simp only[Tryz.ntmps156,dG,C1,Cj,Nat.reduceAdd,Nat.reduceSub,Array.replicate_succ,Array.replicate_zero,List.push_toArray,List.append_toArray,JJ,DV]
 gi_wp2_with (first
  |(gi_at_range;refine wpListIn_range_own _ O _ 139 O 9 4 QR Tryz.underlying139 _ b n _ O nx ?_;intro w0 hrg0 yk hs0)
  |gi_in)
 go_frame
 gi_loopw [3] (λv wr=>∃(left:Lit->Bool) (fH:Nat) (ss:L1 (L1 UInt8)),wr.ranges Tryz.prog 9 (plainElem Tryz.prog 4) b w.heap.size n D0 left fH/\ss.length+fH<=Maps.size D0 /\
   wr.ownsRow w.heap.size 9 1 v ss.length (ss.map encStr)/\(v=.slice none 0 0↔ss=[])/\Collected D0 left ss/\Below w.heap.size w wr)
  (λ_ wr=>wr.rangeLeft b w.heap.size)
 case atStart=>
  exact⟨_,_,[],hrg0,by simp,cb _ _ _ _,by simp,Collected.start D0,(Below.refl _ _).grown yk (B6 _) (λj hj=>by cases hj)⟩
 case round=>
  obtain⟨left,fH,ss,hrg,ov,qo,hnn,hC,sj⟩:=hrel
  gi_wp2_with (first
   |(gi_at_next;refine wpListIn_next_ranges _ rfl _ rfl 9 QR (plainElem Tryz.prog 4) encStr (λv:Value=>v) (λkey kl hk=>by obtain⟨x,hx,_⟩:=Maps.keyOf_str Tryz.underlying9 hk;exact⟨x,hx⟩) (λv y hv=>⟨v,rfl⟩) b w.heap.size n _ _ _ O hrg ?_ ?_)
   |gi_in)
  ·intro hc0 p8;rcases qo.2 with⟨tq,hz⟩|⟨g,cap,bl,hv,sm,hb,h1,h2,h3,h4⟩
   ·have hss:ss=[]:=Jb hz;subst hss;subst tq
    gi_wp2_with (gi_at_call 227;refine(zdu _ none 0 _).mono ?_;rintro e w' ⟨rfl,rfl⟩)
    go_ret
    exact⟨_,[],rfl,hC.perm nx QR Tryz.underlying9 p8,by simpa using qo,by simp,sj⟩
   ·subst hv;have hH:Holds encStr wr g 0 ss.toArray:=holds_of_block hb (by simpa using h4);have hgl:g<wr.heap.size:=(Ht.1 hb).1;have hc:=zjv 67 g 0 cap ss wr hH hgl (by omega)
    gi_wp2_with (gi_at_call 227;refine hc.mono ?_;rintro e w' ⟨rfl,nn,os,rfl⟩)
    go_ret
    exact⟨_,ss,rfl,hC.perm nx QR Tryz.underlying9 p8,ownsRow_sorted (by simp) sm hb h1 h2 h3,hnn,sj.grown (grownBy_sorted _) sj.size (λj hj=>by cases hj;exact sm)⟩
  ·intro x c kl yd yp w2 cnt2 u7 hlk hv hat zj mc sa hs2 hen;obtain⟨x',ex,rfl,_⟩:=Maps.keyOf_str Tryz.underlying9 u7;obtain rfl:x=x':=encStr_inj ex;have nv:=qo.kept sa (Or.inr (row_ne_iter qo hrg).symm);clear hs2
   gi_wp2_with (first
    |(gi_at_builtin;refine wpListIn_append_own _ O _ _ 73 O w.heap.size 9 i0 (.string ⟨#[]⟩) 1 16 Tryz.underlying73 hi hz0 sc hz2 O (by decide) _ _ _ O (nv.alloc _) ⟨w2.heap.size,0,none⟩ 1 1 [encStr x] O O (cell_one_new _ _ _) (by simp[Value.oneCell',encStr]) (by unfold maxLen at *;omega) (by omega) (by have:=sj.size;have:=sa.size;simp;omega) ?_;intro v' w3 zk hg3 zl;go_frame)
    |gi_in)
   have zm:=(zj.alloc _).kept hg3 (row_ne_low nv nc) (row_ne_iter nv zj)
   go_roundw
   case rel=>
    refine⟨_,cnt2,ss++[x],zm,by simp;omega,by simpa using zk,⟨λw6=>by have:=(zl.1 w6).2;omega,λh=>by simp at h⟩,hC.step hlk hat,?_⟩;exact((sj.grown sa sj.size (λj hj=>by cases hj;exact B6 _)).alloc (by have:=sj.size;have:=sa.size;omega) _).grown hg3 (by have:=sj.size;have:=sa.size;simp;omega) (λj hj=>(nv.lt j hj).1)
   case measure=>rw[zm.left_eq,hrg.left_eq];exact mc
end Go.Hk
namespace Go.Hk
open Go.Proofs Go.RowKit Go.Maps Go.Sort Go.MapKept
open Go.WideElems (Fit rd rg rg_of rd_mk)
def zk5:Value->L1 UInt8
 |.string s=>s.data.toList
 |_=>[]
def bP (w:World) (z:Nat) (es:Array MapEntry) (f:Nat) (M:w.heap[z]?=some (.map es f)) (C:Stamped es f) (N:∀e∈es.toList,(∃s:ByteArray,e.key=.string s/\s.size<=maxLen)/\∃c,e.val=.bool c) (R:es.size<=1000000):qj 156 #[.map<|some z] w λe w'=>∃(v:Value) (m:L1<|L1 UInt8),e=.returned v/\m.Perm (es.toList.map λe=>zk5 e.key)/\w'.ownsRow w.heap.size 9 1 v m.length ((m.mergeSort λx y=>decide (x<=y)).map encStr)/\(v=.slice none 0 0↔m=[])/\Below w.heap.size w w':=by have h:∀e∈es.toList,∃d,rd (H:=Unit) Tryz.prog 9 (plainElem Tryz.prog 4) e=some (.string<|zk5 e.key,d):=by{intro e D;let⟨⟨s,A,G⟩,c,B⟩:=N e D;obtain⟨k,v,K⟩:=e;simp only at A B;subst A;subst B;have L:=Tryz.underlying4;have S:plainElem (H:=Unit) Tryz.prog 4 (.bool c)=some (.lit<|.bool c,[]):=by{unfold plainElem;generalize Tryz.prog.underlying 4=u at L;subst L;rfl};exact⟨_,rd_mk (WideMaps.keyOf_string_mk Tryz.underlying9 G) S⟩};have q:Fit (H:=Unit) Tryz.prog 9 (plainElem Tryz.prog 4) es f:=⟨by unfold maxLen;omega,C,λx T=>by let⟨d,H⟩:=h x T;exact⟨_,H⟩⟩;have r:w.ownsMap (H:=Unit) Tryz.prog 9 (plainElem Tryz.prog 4) z es.size<|.map<|(es.toList.map<|rg Tryz.prog 9<|plainElem Tryz.prog 4).foldr DataW.insert []:=⟨es,f,M,q,B6 _,rfl⟩;have l:Maps.size (H:=Unit) (.map<|(es.toList.map<|rg Tryz.prog 9<|plainElem Tryz.prog 4).foldr DataW.insert [])=es.size:=by{show(List.foldr DataW.insert [] _).length=_;rw[length_sorted];simp};refine(ff.1<|bQ z es.size _ w r (by rw[l];unfold maxLen;omega) (by rw[l];omega)).mono ?_;rintro e w' ⟨v,m,A,G,B,U,V⟩;refine⟨v,m,A,G.trans ?_,B,U,V⟩;show(List.map (λp=>strOf p.1)<|List.foldr DataW.insert []<|es.toList.map<|rg Tryz.prog 9<|plainElem Tryz.prog 4).Perm _;refine((WideShapes.sorted_perm _).map _).trans ?_;rw[Wy];refine List.Perm.of_eq<|Mc λe D=>?_;let⟨d,H⟩:=h e D;simp only[Function.comp_apply,rg_of H,strOf]
end Go.Hk
namespace Go.Hk
open Go.Proofs Go.RowKit Go.Maps Go.Sort
def MO (m:L1 Z):L1 Z:=m.mergeSort λx y=>decide (x<=y)
def tF (I:TA) (l:L1 UInt8):PB I (encStr l)<|.str l:=.str _ _ (by simp)
def zC (m:E2) (hm:∀s∈m,s.length<=maxLen) (T:m.length<=1000000) :
  ed 156 [.cf 1] [(1,some<|.map<|Dp m)] (.ret (.Kp<|.sl<|BP<|MO m) [(1,some<|.map<|Dp m)]):=by
 intro I μ w xs f hx;obtain⟨xl⟩:=xs;have xn:xl.length=1:=hx.1
 match xl,xn with
 |[x],_=>
 have hxm:X I μ x<|.cf 1:=hx.2 0 x _ O O;let⟨g,hg,r,es,G,e1,e2,e3,e4,e5⟩:=f.SB 1 _ rfl;subst e1;have hxv:x=.map (some r):=by
  cases hxm with
  |cf _ b h=>rw[hg]at h;cases h;rfl
 subst hxv;have z:es.toList.length=m.length:=by simpa[Dp]using e3
 have D:∀(i:Nat) (e:MapEntry),es.toList[i]?=some e->∃s,m[i]?=some s/\zk5 e.key=s/\(∃b:ByteArray,e.key=.string b/\b.size<=maxLen)/\∃c,e.val=.bool c:=by
  intro i e p;obtain⟨s,U⟩:∃s,m[i]?=some s:=⟨_,Bi (by rw[<- z];exact(A9.1 p).1)⟩
  let⟨t,A⟩:=e5 i e (.str s,.bool true) (by simpa using p) (by simp[Dp,U]);refine⟨s,U,?_⟩;generalize e.key=k at t;generalize e.val=u at A;cases t with
  |str b l hb=>
   cases A with
   |bool c=>
    refine⟨hb,⟨b,rfl,?_⟩,_,rfl⟩;have:=hm s<|AE U;rw[<- hb]at this;show b.data.size<=maxLen;rw[<- QJ];exact this
 have H:es.toList.map (λe=>zk5 e.key)=m:=by
  refine QI λi=>?_;rw[Cx];cases p:es.toList[i]? with
  |none=>
   have:m[i]?=none:=by
    rw[Ni]at p ⊢;omega
   rw[this];rfl
  |some e=>
   let⟨s,t,A,_⟩:=D i e p;rw[t,<- A];rfl
 have W:(callFunc 156 #[.map<|some r]).run Tryz.prog w=.ok (.enter 156 #[.map<|some r]) w:=Hk.cn (Go.Proofs.Tryz.func156) (by decide +kernel) O _;show hG Tryz.prog ((callFunc 156 #[.map<|some r]).run Tryz.prog w) _ _;rw[W];refine(bP w r es G e2 e4 (λe E=>?_) (by rw[<- QJ,z];exact T)).mono ?_
 ·let⟨i,p⟩:=H3 E;let⟨s,_,_,h⟩:=D i e p;exact h
 rintro e w' ⟨v,ss,rfl,A,h3,h4,N⟩;rw[H]at A;have a:ss.mergeSort (λx y=>decide (x<=y))=MO m:=mergeSort_of_perm A;rw[a]at h3;have kq:(MO m).length=ss.length:=by rw[<- a];exact zfy _
 obtain⟨J,hJ,hJr,hJo,d⟩:∃J:TA,I.le J/\PB J v (.sl (BP (MO m)))/\(∀k o,J k=some o->(I k=some o\/(w.heap.size<=k/\w'.heap[k]?=some o)))/\(∀k,k<w.heap.size->J k=I k):=by
  rcases h3.2 with⟨rfl,h0⟩|⟨R,cap,K,rfl,B,L,hle,na,ov,M⟩
  ·have:MO m=[]:=Jb (by omega);rw[this];exact⟨I,TA.le_refl I,.slnil,λk o h=>.inl h,λ_ _=>rfl⟩
  ·have hI:∀k,w.heap.size<=k->I k=none:=λk q=>by
    cases hk':I k with
    |none=>rfl
    |some o=>
     have:=(Ht.1<|f.Kp k o hk').1;omega
   have n:I.le λk=>if k=R then some (.cells K 9 (0,0))else I k:=λk o h=>by
    have:k≠R:=λe=>by rw[e,hI R B]at h;cases h
    simp[this,h]
   refine⟨_,n,?_,λk o h=>?_,λk q=>?_⟩
   ·have C:∀(i:Nat) (c:G2) (j:Nat) (x:V),(BP<|MO m)[i]?=some c->c[j]?=some x->∃s,c=[.str s]/\j=0/\x=.str s/\K[i]?=some (encStr s):=by
     intro i c j x p S;simp only[BP,Cx,E9]at p;obtain⟨s,U,rfl⟩:=p;have hj0:j=0:=by
      cases j with
      |zero=>rfl
      |succ j=>simp at S
     subst hj0;refine⟨s,rfl,rfl,by simpa using S.symm,?_⟩;have F:((MO m).map encStr)[i]?=some (encStr s):=by rw[Cx,U];rfl
     rw[<- M,Ea]at F
     split at F
     ·simpa using F
     ·cases F
    refine .sl R 0 _ cap 1 _ (λi j=>(K[i]?).getD undef) (by simp[BP,kq]) hle na (λe E=>?_) (λi c j x p S=>?_) λi c j x p S=>?_
    ·simp only[BP,CC]at E;obtain⟨s,_,rfl⟩:=E;rfl
    ·obtain⟨s,rfl,rfl,rfl,A⟩:=C i c j x p S;simp[TA.cell,A];rfl
    ·obtain⟨s,rfl,rfl,rfl,A⟩:=C i c j x p S;simp only[A,ID];exact tF _ _
   ·by_cases q:k=R
    ·subst q;simp at h;subst h;exact .inr ⟨B,L⟩
    ·simp[q]at h;exact .inl h
   ·have:k≠R:=by omega
    simp[this]
 have hw:∀k,k<w.heap.size->w'.heap[k]?=w.heap[k]?:=λk q=>N.block k q;refine⟨J,μ,.Kp _ _ hJr,?_,.refl _ _,?_⟩
 ·exact
   {Kp:=λk o h=>(hJo k o h).elim (λh=>by
     have:=f.Kp k o h;rw[hw k (Ht.1 this).1];exact this) λh=>h.2
    SB:=λi b P=>by
     let⟨Q,q1,q2⟩:=f.SB i b P;exact⟨Q,q1,(q2.mono hJ<|Mu.le_refl μ).world λk q=>hw k (f.apart i b Q k P q1 q).2⟩
    apart:=λi b Q k P py q=>by
     let⟨q1,q2⟩:=f.apart i b Q k P py q;exact⟨(d k q2).trans q1,Yj q2 N.size⟩
    inj:=f.inj
    nodup:=f.nodup
    PA:=f.PA }
 ·exact
   {Kp:=hJ,os:=N.os,tape:=N.tape,output:=N.output,size:=N.size
    block:=λk q _=>hw k q
    fresh:=λk _ h=>h
    gz:=λk q _=>d k q }
mutual
def Ua:∀(t:Tm) (s m:E2),Ax t=true->∀x∈EA t s m,x∈m\/x.length<=8
 |.mk f n x ks p,s,m,h,y,hy=>by simp only[Ax,Am]at h;simp only[EA]at hy;by_cases e:f=4;subst e;have l:=h.1.1;simp[Bl,BW]at l;rw[ae O]at hy;split at hy;exact .inl hy;simp only[HM]at hy;split at hy;exact .inl hy;rcases AT.1 hy with hy|hy;exact .inl hy;right;have:y=x:=by{simpa using hy};subst this;omega;rw[ac e]at hy;exact Rb _ 0 ks s m h.2 y hy
def Rb:∀(t:Tm) (i:Nat) (ks:G1) (s m:E2),Bb ks=true->∀x∈HC t i ks s m,x∈m\/x.length<=8
 |_,_,[],_,_,_,x,e=>.inl (by simpa[HC]using e)
 |t,i,k::r,s,m,h,x,e=>by simp only[Bb,Am]at h;simp only[HC]at e;rcases Rb t (i+1) r s _ h.2 x e with h1|h1;exact Ua k _ m h.1 x h1;exact .inr h1
end
mutual
def ZW:∀(t:Tm) (s m:E2),(EA t s m).length<=m.length+DK t
 |.mk f n x ks h,s,m=>by simp only[EA,DK];by_cases e:f=4;rw[ae e];split;omega;simp only[HM];split;omega;simp only[Bo,C1,Cj];omega;rw[ac e];have:=Xg (.mk f n x ks h) 0 ks s m;omega
def Xg:∀(t:Tm) (i:Nat) (ks:G1) (s m:E2),(HC t i ks s m).length<=m.length+Ff ks
 |_,_,[],_,m=>by simp[HC]
 |t,i,k::r,s,m=>by simp only[HC,Ff];have e:=Xg t (i+1) r s<|EA k ((Ai t i).reverse++s) m;have f:=ZW k ((Ai t i).reverse++s) m;omega
end
end Go.Hk
namespace Go.Hk
open Go.Proofs
end Go.Hk
namespace Go.Hk
open Go.Proofs Go.RowKit Go.Maps Go.Sort
end Go.Hk
namespace Go.Hk
open Go.Proofs
mutual
def gJ:∀(t:Y) (j:Nat) (x:Z),BW x=true->BH t=true->BH (EM t j x)=true/\∀l,Cv (EM t j x) l=Cv t l
 |.mk s n y f,j,x,m,h=>by simp only[BH,Am]at h;have r:∀j,EM (.mk s n y f) (j+1) x=.mk s n y (EV f j x)\/s≠2:=λj=>by{by_cases e:s=2;exact .inl (by simp[EM,e]);exact .inr e};by_cases e:s=2;{cases j with|zero=>have p:=h.1;simp[F2,e]at p;simp[EM,BH,F2,Cv,e,p,m,h.2];have:=h.2;rw[p.1.1]at this;exact this|succ j=>{let⟨a,b,c⟩:=RJ f j x m h.2;have q:EM (.mk s n y f) (j+1) x=.mk s n y (EV f j x):=by{simp[EM,e]};rw[q];simp only[BH,Cv,c,h.1,a,b,Ws];exact⟨ab,λ_=>trivial⟩}};{let⟨a,b,c⟩:=RJ f j x m h.2;have q:EM (.mk s n y f) j x=.mk s n y (EV f j x):=by{simp[EM,e]};rw[q];simp only[BH,Cv,c,h.1,a,b,Ws];exact⟨ab,λ_=>trivial⟩}
def RJ:∀(l:E1) (j:Nat) (x:Z),BW x=true->BT l=true->BT (EV l j x)=true/\(∀w,Cw (EV l j x) w=Cw l w)/\(EV l j x).length=l.length
 |[],j,x,f,h=>by simp[EV,BT,Cw]
 |t::r,j,x,f,h=>by simp only[BT,Am]at h;let⟨a,b⟩:=gJ t j x f h.1;let⟨c,d,e⟩:=RJ r (j-(DH t).length) x f h.2;simp only[EV];split;simp[BT,Cw,a,b,h.2];simp[BT,Cw,c,d,e,h.1]
end
def Rn:∀(l f:E2),BZ f l=true↔l.Nodup/\∀x∈l,x∉f
 |[],f=>by simp[BZ]
 |x::r,f=>by have s:AR f x=false↔x∉f:=by{cases h:AR f x with|true=>simp[BN.1 h]|false=>{simp;intro z;rw[BN.2 z]at h;cases h}};simp only[BZ,Am,KN,s,Rn r,GI,AT,Cu,JK,ch,ge];constructor;rintro ⟨p,q,m⟩;refine⟨⟨λh=>(m x h).2 O,q⟩,λy hy=>?_⟩;rcases hy with rfl|hy;exact p;exact(m y hy).1;rintro ⟨⟨p,q⟩,m⟩;exact⟨m x<|.inl O,q,λy hy=>⟨m y<|.inr hy,λe=>p<|e▸hy⟩⟩
def NH (l:E2):K8 l=true↔l.Nodup:=by simp[K8,Rn]
theorem iP {op n:Int} {x y:Z} {k p:Nat} {i:Int} (h:Bv op i=true\/op=4) (e:Bl op n x k p=true) (f:BW y=true):Bl op n y k p=true:=by simp only[Bv,EJ,Am,an]at h;rcases h with((h|h)|⟨h,_⟩)|h<;>subst h<;>simp[Bl,Bs]at e ⊢<;>grind
def zkb {op n:Int} {x:Z} {k p:Nat} (e:Bl op n x k p=true) {i j:Nat} (m:i<k) (q:j<k) (f:Bv op i=true) (l:Bv op j=true):i=j:=by simp only[Bv,EJ,Am,an]at f l;rcases f with(h|h)|⟨h,r⟩;subst h;simp[Bl,Bs]at e;omega;subst h;simp[Bl,Bs]at e;omega;subst h;simp at l;omega
def kQ (t:Tm) (y:Z):∀(ks:G1) (i:Nat),OH t i ks y↔∃k c,ks[k]?=some c/\JM c y/\AR (AX t ((i+k:Nat):Int)) y=false
 |[],i=>by simp[OH]
 |a::r,i=>by simp only[OH];rw[kQ t y r<|i+1];constructor;rintro (⟨e,f⟩|⟨k,c,e,f,h⟩);exact⟨0,a,rfl,e,f⟩;exact⟨k+1,c,e,f,by rw[show i+(k+1)=i+1+k from by omega];exact h⟩;rintro ⟨k,c,e,f,h⟩;cases k with|zero=>simp at e;subst e;exact .inl ⟨f,h⟩|succ k=>{exact .inr ⟨k,c,by simpa using e,f,by rw[show i+1+k=i+(k+1)from by omega];exact h⟩}
def KE {op n:Int} {x:Z} {ks:G1} {ps:E1} (h:ps.all CM=true) (i:Int):AX (.mk op n x ks ps) i=Ai (.mk op n x ks ps) i:=by rw[Um];intro p e;have:=Du.1 h p e;simp only[CM,Am]at this;exact this.1.2
def WU {l:E2} {y:Z}:AR l y=false↔y∉l:=by rw[<- BN];simp
def zni {c:An} (h:er c=.im true [] []):∃cs e,c=.im true cs e:=by rcases c with⟨s,o,n,x,v,ks,u,m⟩|⟨p,f,l⟩;simp[er]at h;simp only[er,An.im.injEq]at h;obtain⟨rfl,_⟩:=h;exact⟨f,l,rfl⟩
def Qq {b:Nat} {q:An} {t k:Tm} {i:Nat} {o n:Int} {x:Z} {len cap r:Nat} {ks:N4} {u:Value} {S:N4} (T:pn q) (f:q=.mk true o n x (.slice (some ⟨r,0,none⟩) len cap) ks u S) (s:po q i=some (.im true [] [])) (U:FG t i=some k) {vs:R0} {I:TA} {w:World} {V:K1} (h:(DT b q t).P vs I w V):DU I w r (i*5)<|(dTmc k).map .Kp:=by obtain⟨a,rfl,W,g⟩:=h;obtain⟨o',n',x',v,E,u',F,c,tx,J,P,rfl,rfl,rfl,D,l,G,Q,e1,e2⟩:=gV ((Na a).1 T) W U;have m:er c=.im true [] []:=by{simp only[er,po]at s;rw[eJ D]at s;exact Lk s};obtain⟨cs,e,rfl⟩:=zni m;have A:v=.slice (some ⟨r,0,none⟩) len cap:=by{simp only[er,An.mk.injEq]at f;exact f.2.2.2.2.1};have H:=g.2.2.2.2.2;simp only[KT]at H;let⟨_,⟨B,ty,kk,K,L⟩,M,p,_⟩:=FA H.1.2 D;simp only[vA]at l;subst l;rw[A]at K;simp only[BU,Gl,cA]at L;refine⟨B,ty,kk,K,λj d N=>?_⟩;rw[Cx]at N;obtain⟨y,R,rfl⟩:=E9.1 N;obtain⟨z,C⟩:∃z,cs[j]?=some z:=⟨_,Bi (by rw[M.1];exact(A9.1 R).1)⟩;exact⟨z,L j z C,p z<|AE C,.Kp _ _<|M.2 j z y C R⟩
def MV {b:Nat} {l:An} {t k:Tm} {i:Nat} {o n:Int} {x:Z} {len cap m:Nat} {ks:N4} {u:Value} {B:N4} (C:pn l) (p:l=.mk true o n x (.slice (some ⟨m,0,none⟩) len cap) ks u B) (r:po l i=some (.im true [] [])) (D:FG t i=some k) (k':Tm):R4 (DT b l t) (DT b l<|CH t i k') m (i*5)<|(dTmc k').map .Kp:=by rintro G I w H ⟨a,rfl,K,L⟩;obtain⟨M,N,x',R,s,S,y,c,T,U,V,rfl,rfl,rfl,W,d,f,g,j,v⟩:=gV ((Na a).1 C) K D;have q:er c=.im true [] []:=by{simp only[er,po]at r;rw[eJ W]at r;exact Lk r};obtain⟨E,e,rfl⟩:=zni q;have z:R=.slice (some ⟨m,0,none⟩) len cap:=by{simp only[er,An.mk.injEq]at p;exact p.2.2.2.2.1};subst z;have h:D3 (.mk true M N T (.slice (some ⟨m,0,none⟩) len cap) s S y) b 0 [(false,i)]=some (.im true E e,m,i*5):=by{simp only[D3];rw[f];rfl};let⟨F,A,J,P,Q,q4⟩:=za7 (dTmc k') (by obtain⟨_,_,_,_,_⟩:=k';rfl) h G I w H L;refine⟨F,A,J,P,Q,λzs hr ho=>?_⟩;let⟨ys,hy⟩:=q4 zs hr ho;refine⟨_,UR [(false,i)] _ b 0 _ _ _ (.im true ys<|dTmc k') h O,?_,hy⟩;simp only[I9];rw[f];simp only[OA,vA,CH,dTmc];congr 4;rw[IQ,IU,<- IQ,j,GQ,GQ,IU];rfl;rw[v]
def SE {f:An} {t k:Tm} {i:Nat} (h:K5 f t) (l:po f i=some (.im true [] [])) (G:FG t i=some k) (k':Tm):K5 f<|CH t i k':=by obtain⟨a,o,n,x,ad,c,ks,u,p,rfl,q,rfl,r,s,y,z⟩:=h;obtain⟨H,K,L,A,B⟩:=t;simp only[vA,dTmc,Cr,V.sl.injEq,V.int.injEq,V.str.injEq,ax,be]at q;obtain⟨rfl,rfl,rfl,C,D⟩:=q;refine⟨.mk true o n x (.slice ad (ks.set i<|.im true []<|dTmc k').length c) (ks.set i<|.im true []<|dTmc k') u p,o,n,x,ad,c,ks.set i<|.im true []<|dTmc k',u,p,?_,?_,rfl,r,s,by simpa using y,z⟩;simp only[er,IV,An.mk.injEq,ax,be];rw[IX,IU,<- IX];simp only[er,po]at l ⊢;apply QI;intro m;by_cases e:i=m;subst e;rw[Jc (A9.1 l).1,l];rw[HQ e];simp only[vA,CH,dTmc];congr 4;rw[IQ,IU,<- IQ,C,GQ,GQ,IU];rfl;rw[D]
def rF (b:Nat) (m:An) (op n:Int) (x:Z) (ks:G1) (ps:E1) (e:Int) (z:e<=1000000) (A:Bv op e=false->Ca op e=true->∃p,ps[(e-1).toNat]?=some p/\(BM p).length<=1000000):ed 164 [.eR<|.pointer<|some ⟨b,0,none⟩,i7 e] [(1,some<|.hp<|DT b m<|.mk op n x ks ps)]<|.ret (.own 4 (BP<|Ai (.mk op n x ks ps) e).length) [(1,some<|.hp<|DT b m<|.mk op n x ks ps),(4,some<|.row 9 1<|BP<|Ai (.mk op n x ks ps) e)]:=by refine Uc (bk:=[]) 1 (DT b m<|.mk op n x ks ps) (jQ op n x ks ps e z A) O ⟨?_,ab⟩ (by simp[CB]) (by simp[CB]) (by simp[GH]) λG I J μ w H h q B K s=>?_;show RL (BP _)=true;generalize Ai _ _=l;induction l with|nil=>rfl|cons a r C=>{exact C};obtain⟨a,_,D,h⟩:=h;refine⟨s.1,λi v d y f=>?_⟩;match i with|0=>simp at f;subst f;rw[<- D];exact zQ h q B (s.2 0 v _ y O)|1=>simp at f;subst f;exact s.2 1 v _ y O|i+2=>{simp at f}
def bN (b:Nat) (f:An) (t:Tm) (m:E2) (o n:Int) (x K:Z) (v:Value) (ks:N4) (u:Value) (ps:N4) (q:G1) (z:E1) (A:f=.mk true o n K v ks u ps) (L:t=.mk o n x q z) (M:Ig t):ed 165 [zms o n x v u,.cf 1] [(2,some<|.hp<|DT b f t),(1,some<|.map<|Dp m)]<|.ret (.cg []) [(2,some<|.hp<|DT b f t),(1,some<|.map<|Dp<|Ef t m)]:=by refine Uc (bk:=[(1,some<|.map<|Dp m)]) 2 (DT b f t) (V0 t m M) O ⟨?_,ab⟩ (by simp[CB]) (by simp[CB]) (by simp[GH,FO]) λc I J μ w g h B N j C=>?_;show VC (Dp _)=true;generalize Ef t m=l;induction l with|nil=>rfl|cons a r R=>{exact R};{obtain⟨a,p,D,h⟩:=h;rw[A]at p;rcases a with⟨s,k,E,S,F,T,P,U⟩|⟨Q,W,c0⟩;(case im=>simp[er]at p);simp only[er,An.mk.injEq]at p;obtain⟨rfl,rfl,rfl,_,rfl,_,rfl,_⟩:=p;subst L;have G:S=x:=by{simp only[vA,dTmc,Cr,V.str.injEq]at D;exact D.2.2.1};subst G;refine⟨C.1,λi y d H e=>?_⟩;match i with|0=>simp at e;subst e;rw[<- D];exact oW h B N (C.2 0 y _ H O)|1=>simp at e;subst e;exact C.2 1 y _ H O|i+2=>{simp at e}}
def zR {b:Nat} {A:An} {t:Tm} {o n:Int} {x G:Z} {v u:Value} {H K:N4} {ks:G1} {ps:E1} (l:A=.mk true o n G v H u K) (L:t=.mk o n x ks ps) {vs:R0} {I J:TA} {w:World} {B:K1} (h:(DT b A t).P vs I w B) (m:I.le J) (M:∀b∈B,J b=w.heap[b]?) (cs:R0) (e:TB J kc cs [i7 o,i7 n,.Kp<|.str x,.eR v,.eR u]):Ts J cs<|dTmc t:=by obtain⟨a,f,p,h⟩:=h;rw[l]at f;rcases a with⟨s,N,R,C,S,q,T,r⟩|⟨s0,U,D⟩;(case im=>simp[er]at f);simp only[er,An.mk.injEq]at f;obtain⟨rfl,rfl,rfl,_,rfl,_,rfl,_⟩:=f;subst L;have y:C=x:=by{simp only[vA,dTmc,Cr,V.str.injEq]at p;exact p.2.2.1};subst y;have W:=ST m h.2.2.2.2.2 λk c=>M k (by rw[h.1];simp[c]);have z:cs=cA (.mk true N R C S q T r):=by{match cs,e.1 with|[D,d,g,i,j],_=>{have E:=(e.2 0 D _ O O).Ks.da;have F:=(e.2 1 d _ O O).Ks.da;have P:=bM<|e.2 2 g _ O O;have Q:=(e.2 3 i _ O O).hM;have e4:=(e.2 4 j _ O O).hM;rw[E,F,P,Q,e4];rfl}};rw[z,<- p];exact W
def U8 (s:Z):Nat->L1 Z->Int
 |_,[]=>-1
 |i,x::r=>if s==x then(i:Int)else U8 s (i+1) r
def kT (s:Z):∀(l:E2) (i:Nat),decide (0<=U8 s i l)=AR l s
 |[],i=>by simp[U8,AR]
 |x::r,i=>by have m:=kT s r<|i+1;by_cases e:s=x;have f:U8 s i (x::r)=i:=by{simp[U8,e]};rw[f];subst e;simp[AR];have f:U8 s i (x::r)=U8 s (i+1) r:=by{simp[U8,e]};rw[f,m];have p:¬x=s:=λh=>e h.symm;simp[AR,p]
def zL (l:E2) (s:Z):ca 235 [.sl<|BP l,.str s]<|.int .i64<|U8 s 0 l:=by refine BJ λq=>?_;simp[DF,GA,maxLen]at q;refine Ae BC Tryz.func235 O [1]<|Cb O<|Ak (λi:Nat=>[(8,i7 i),(7,i7 l.length),(0,.Kp<|.sl<|BP l),(1,.Kp<|.str s)]) (λ_=>[]) [1] (λi=>l.length-i) (λi=>i<=l.length/\U8 s 0 l=U8 s i (l.drop i)) 0 ⟨AK _,rfl⟩ ⟨rfl,B2<|by simp,AL⟩ ab O λi r y=>?_;obtain⟨z,f⟩:=r;refine BD O<|Aa O (λh=>?_) λh=>?_;simp at h;let⟨x,p⟩:=Aq h;rw[Av p]at f;simp only[U8]at f;refine BD O<|o0 O (c:=[.str x]) (λ_=>⟨by simp,by simpa using Gf p,rfl⟩) (by simp[A1])<|lO O<|Aa O (λm=>?_) λm=>?_;have e:(s==x)=true:=by{simpa using m};rw[e]at f;refine BD O<|Ab O O ?_;rw[f];rfl;have e:(s==x)=false:=by{simpa using m};rw[e]at f;exact BD O<|Ad (y (i+1) (by omega) ⟨by omega,by rw[f];rfl⟩) ⟨Bc,AB⟩ ab O;simp at h;rw[Bt<|by omega]at f;refine Aw O<|BD O<|Ab O O ?_;rw[f];rfl
def bY (l:E2) (s:Z):ca 169 [.sl<|BP l,.str s]<|.bool<|AR l s:=by refine Ae BC Tryz.func169 O [1]<|Cb O<|Ac O (zL l s)<|Cb O<|Ab O O (af _ ?_);exact kT s l 0
def Lc (op:Int) (x a b:Z):Z:=if op==4&&x==a then b else x
mutual
def EH:Tm->Z->Z->Tm
 |.mk e n x ks f,a,b=>.mk e n (Lc e x a b) (Ev (.mk e n (Lc e x a b) [] f) 0 ks a b) f
def Ev (t:Tm):Nat->L1 Tm->Z->Z->L1 Tm
 |_,[],_,_=>[]
 |i,k::r,a,b=>(if AR (Ai t i) a then k else EH k a b)::Ev t (i+1) r a b
end
def Yz (e:G2) (r:L1<|G2) (l:∀c∈e::r,c.length=5) (h:(e::r).length<=1000000):ed 228 [.Kp<|.sl<|e::r] []<|.ret (.own 2 (e::r).length) [(2,some<|.row 49 5<|e::r)]:=by refine Ae BC Tryz.func228 O [2,1]<|Cb O<|FE BC O λb f=>?_;have f:b=false:=f (by simp);subst f;exact Mp [.a] O<|B1 BC O ⟨l,by simp only[maxLen,Cj]at *;omega,by simp only[Cj]at *;omega,λc m=>by simp at m,by simp⟩<|Cb O<|Ah ⟨_,AB⟩
def Y0:ca 228 [.sl []]<|.sl []:=by refine Ae BC Tryz.func228 O [1]<|Cb O<|FE BC O λb e=>?_;cases b with|true=>{exact Mp [.a] O<|Ab O O O}|false=>{exact Mp [.a] O<|Lx BC O<|Cb O<|Ab O O O}
def OO (l:E2) (s:Z) (len:Nat):ed 169 [.own 1 len,.Kp<|.str s] [(1,some<|.row 9 1<|BP l)]<|.ret (.Kp<|.bool<|AR l s) [(1,some<|.row 9 1<|BP l)]:=by refine aJ (gh:=[(1,some<|.row 9 1<|BP l)]) (bk:=[]) (a7:=[]) (bY l s) O trivial (by simp[CB,GH]) (λi b h j A=>?_) λI J μ w f m B K p=>?_;rcases A7.1 h with⟨_,rfl⟩|⟨_,h⟩;simp[KU]at A;simp[A2,lk]at h;refine⟨p.1,λi v d q e=>?_⟩;match i with|0=>{simp at e;subst e;have C:=p.2 0 v _ q O;cases C with|own _ _ a D r=>{have y:A2 [(1,some<|.row 9 1<|BP l)] 1<|.row 9 1<|BP l:=A7.2<|.inl ⟨rfl,rfl⟩;let⟨g,z,G⟩:=f.SB 1 _ y;rw[r]at z;cases z;exact .Kp _ _<|W6 G m λb H=>B 1 _ _ b y r H}}|1=>simp at e;subst e;exact p.2 1 v _ q O|i+2=>{simp at e}
def ZF (op n:Int) (x:Z) (ks:L1 Tm) (ps:L1 Y) (len:Nat):St:=[(1,some<|.cells 49 5 [.Kp<|.int .i64 op,.Kp<|.int .i64 n,.Kp<|.str x,.own 2 len,.Kp<|.sl<|A3 ps]),(2,some<|.row 49 5<|Ci ks)]
def zau (op n:Int) (x:Z) (ks:G1) (ps:E1) (len:Nat) (e:Int) (A:e<=1000000) (B:Bv op e=false->Ca op e=true->∃p,ps[(e-1).toNat]?=some p/\(BM p).length<=1000000):ed 164 [.ref 1 0,i7 e] (ZF op n x ks ps len)<|.ret (.own 4 (BP<|Ai (.mk op n x ks ps) e).length)<|ZF op n x ks ps len++[(4,some<|.row 9 1<|BP<|Ai (.mk op n x ks ps) e)]:=by refine aJ (gh:=ZF op n x ks ps len) (bk:=[]) (jQ op n x ks ps e A B) O ⟨?_,ab⟩ (by simp[ZF,CB,GH]) (λi b h j m=>?_) λI J μ w q s C H y=>?_;show RL (BP _)=true;generalize Ai _ _=l;induction l with|nil=>rfl|cons a r D=>{exact D};rcases A7.1 h with⟨_,rfl⟩|⟨_,h⟩;simp[KU,FO,GH]at m;simp[ZF,CB,m];rcases A7.1 h with⟨_,rfl⟩|⟨_,h⟩;simp[KU]at m;simp[A2,lk]at h;refine⟨y.1,λi v d z f=>?_⟩;match i with|0=>simp at f;subst f;have G:=y.2 0 v _ z O;exact zga (k:=1) (r:=2) (e:=49) (sz:=5) (sz2:=5) (es:=Ci ks) q O O s C (by rfl) G|1=>simp at f;subst f;exact y.2 1 v _ z O|i+2=>{simp at f}
def XR (es:L1<|G2) (h:es≠[]) (l:∀c∈es,c.length=5) (f:es.length<=1000000):ed 228 [.Kp<|.sl es] []<|.ret (.own 2 es.length) [(2,some<|.row 49 5 es)]:=by cases es with|nil=>exact absurd rfl h|cons e r=>{exact Yz e r l f}
def zoa:St:=[(6,some<|.cells 49 5 [.Kp<|.int .i64 0,.Kp<|.int .i64 0,.Kp<|.str [],.NB,.NB])]
def Zg:∀(t:Tm) (a b:Z),Ig t->ca 168 [.agg<|dTmc t,.str a,.str b] (.agg<|dTmc<|EH t a b)
 |.mk l n x ks r,a,b,M=>by obtain⟨u,N,R⟩:=M;refine Ae Kg Tryz.func168 O [3,6,9,10,11,12] ?_;have z:∀p,Lc l x a b=p->ia Tryz.f168.ntmps (CB []) (IZ yU Tryz.f168.results.toList<|.ret (.Kp<|.agg<|dTmc<|EH (.mk l n x ks r) a b) []) [.code<|Ek Tryz.f168 2] [(3,.ref 3 0),(6,.ref 6 0),(1,.Kp<|.str a),(2,.Kp<|.str b)] ((3,some<|.NA 49 5<|dTmc<|.mk l n p ks r)::zoa) [9,10,11,12]:=λp D=>by{by_cases W:ks=[];subst W;refine cM O<|Ac O Y0<|cL O<|Ak (λy:Nat=>[(27,i7 0),(26,i7 0),(3,.ref 3 0),(6,.ref 6 0)]) (λ_=>(3,some<|.NA 49 5<|dTmc<|.mk l n p [] r)::zoa) [9,10,11,12] (λy=>y) (λy=>y=0) 0 rfl B9 AL O λy d S=>?_;refine cM O<|Ag O λh=>Aw O<|cM O<|Ab O O ?_;simp[EH,Ev,D,dTmc,Ci];have T:Ci ks≠[]:=λv=>W<|Jb (by have:=af List.length v;simpa using this);have B:∀c∈Ci ks,c.length=5:=λc g=>by{rw[GQ]at g;obtain⟨q,_,rfl⟩:=CC.1 g;simp};refine cM O<|FJ (bk:=[]) (fr:=[9]) [] [(2,9)] O (by simp) (XR (Ci ks) T B (by simp;omega)) ab O O O O<|cL O<|Ak (λy:Nat×G1=>[(27,i7 y.1),(26,i7 ks.length),(25,.own 9 (Ci ks).length),(3,.ref 3 0),(6,.ref 6 0),(1,.Kp<|.str a),(2,.Kp<|.str b)]) (λy=>(3,some<|.cells 49 5 [i7 l,i7 n,.Kp<|.str p,.own 9 (Ci ks).length,.Kp<|.sl<|A3 r])::(9,some<|.row 49 5<|Ci<|y.2++ks.drop y.1)::zoa) [10,11,12] (λy=>ks.length-y.1) (λy=>y.1<=ks.length/\y.2.length=y.1/\Ev (.mk l n p [] r) 0 ks a b=y.2++Ev (.mk l n p [] r) y.1 (ks.drop y.1) a b) (0,[]) ⟨AK _,rfl,rfl⟩ ⟨rfl,B2<|by simp,BA⟩ AB O λy d S=>?_;obtain⟨i,s⟩:=y;obtain⟨U,m,f⟩:=d;simp only at U m f;refine cM O<|Aa O (λh=>?_) λh=>?_;simp at h;let⟨k,G⟩:=Aq h;have j:(s++ks.drop i).length=ks.length:=by{simp[m];omega};have A:(s++ks.drop i)[i]?=some k:=by{rw[Ky<|by omega,m];simpa using G};refine cM O<|GJ Kg O (λ_=>⟨by simp,by simp[m];omega⟩) (by simp)<|cL O<|QZ Kg (e:=dTmc k) O (λ_=>by simpa using Ec A) O (by simp)<|cL O<|FJ (bk:=ZF l n p (s++ks.drop i) r (Ci ks).length) (fr:=[11]) [(3,1),(9,2)] [(4,11)] O (by simp) (zau l n p (s++ks.drop i) r (Ci ks).length i (by omega)<|N i h) oO O O O O<|cL O<|FJ (bk:=[(1,some<|.row 9 1<|BP<|Ai (.mk l n p (s++ks.drop i) r) i)]) (fr:=[]) [(11,1)] [] O (by simp) (OO (Ai (.mk l n p (s++ks.drop i) r) i) a _) Az O O O O<|cL O ?_;have o:Ai (.mk l n p (s++ks.drop i) r) i=Ai (.mk l n p [] r) i:=rfl;refine Aa O (λC=>?_) λC=>?_;have C:AR (Ai (.mk l n p [] r) i) a=false:=by{simpa[o]using C};refine cM O<|CL O (λ_=>Zg k a b<|Kn R<|AE G) (by simp)<|cL O<|GJ Kg O (λ_=>⟨by simp,by simp[m];omega⟩) (by simp)<|cL O<|N7 Kg (e:=dTmc k) (e':=dTmc<|EH k a b) O (by simpa using Ec A) (by show 0+5<=5;decide) (by simp[Bt]) (by simp)<|qg [] O (by refine⟨rfl,?_⟩;simp[A8]) ?_;have H:=Av G;rw[H]at f;have V:(Ci<|s++ks.drop i).set i (dTmc<|EH k a b)=Ci ((s++[EH k a b])++ks.drop (i+1)):=by{rw[<- zh5,H];simp[qO,m]};refine Ad (S (i+1,s++[EH k a b]) (by simp only;omega) ⟨by simp only;omega,by simp[m],by simp only[Ev,C]at f;simpa using f⟩) ⟨B2<|Gi (by simp only;omega) (by simp only;omega),GW⟩ ⟨rfl,?_,AD⟩ O;simp only[<- V];rfl;have C:AR (Ai (.mk l n p [] r) i) a=true:=by{simpa[o]using C};refine Fe<|cM O ?_;have H:=Av G;rw[H]at f;have V:s++ks.drop i=(s++[k])++ks.drop (i+1):=by{rw[H];simp};refine Ad (S (i+1,s++[k]) (by simp only;omega) ⟨by simp only;omega,by simp[m],by simp only[Ev,C,aw]at f;simpa using f⟩) ⟨B2<|Gi (by simp only;omega) (by simp only;omega),GW⟩ ⟨rfl,?_,AD⟩ O;simp only[<- V];rfl;simp at h;have e:ks.drop i=[]:=Bt (by omega);rw[e]at f;have f:Ev (.mk l n p [] r) 0 ks a b=s:=by{simpa[Ev]using f};simp only[e,M1];refine Aw O<|BR 9 O<|cM O<|Ab O O ?_;simp[EH,D,f,dTmc]};refine cL O<|Aa O (λh=>?_) λh=>?_;refine JS Kg mixed 5 [] O (by simp)<|Ad (z b ?_) B9 AL O;cases K:(l==4)<;>cases L:(x==a)<;>simp[K,L]at h;simp[Lc,K,L];refine Fe<|Ad (z x ?_) B9 AL O;cases K:(l==4)<;>cases L:(x==a)<;>simp[K,L]at h<;>simp[Lc,K,L]
termination_by t=>SizeOf.sizeOf t
decreasing_by all_goals(have:=C8<|AE G;simp_wf;omega)
mutual
def pV:Tm->Nat
 |.mk e n x ks f=>(if e=4 then 1 else 0)+OR (.mk e n x ks f) 0 ks
def OR (t:Tm):Nat->L1 Tm->Nat
 |_,[]=>0
 |i,k::r=>(Ai t i).length+pV k+OR t (i+1) r
end
def XF (m:E2) (s:Z):(HM m s).length<=m.length+1:=by unfold HM;split<;>simp
def ND:∀(l m:E2),(l.foldl HM m).length<=m.length+l.length
 |[],m=>by simp
 |x::r,m=>by have e:=ND r<|HM m x;have f:=XF m x;simp only[M3,C1];omega
mutual
def Th:∀(t:Tm) (m:E2),(Ef t m).length<=m.length+pV t
 |.mk e n x ks f,m=>by simp only[Ef,pV];have h:=Qh (.mk e n x ks f) 0 ks (if e=4 then HM m x else m);have l:=XF m x;split at h<;>split<;>omega
def Qh (t:Tm):∀(i:Nat) (ks:G1) (m:E2),(FV t i ks m).length<=m.length+OR t i ks
 |_,[],m=>by simp[FV,OR]
 |i,k::r,m=>by simp only[FV,OR];have e:=Qh t (i+1) r<|Ef k<|(Ai t i).foldl HM m;have f:=Th k<|(Ai t i).foldl HM m;have h:=ND (Ai t i) m;omega
end
def Wk {m:E2} {s y:Z}:y∈HM m s↔y∈m\/y=s:=by unfold HM;split;rename_i h;have:s∈m:=by{have:∀{l:E2},AR l s=true->s∈l:=by{intro l;induction l with|nil=>intro h;simp[AR]at h|cons a r e=>{intro h;simp only[AR,EJ,an]at h;rcases h with h|h;simp[h];exact H4 _<|e h}};exact this h};constructor;exact .inl;rintro (h|rfl);exact h;exact this;simp
def Nf {y:Z}:∀{l m:E2},y∈l.foldl HM m↔y∈m\/y∈l
 |[],m=>by simp
 |x::r,m=>by simp only[M3,Nf (l:=r),Wk,Cu,di]
mutual
def Bx:Tm->L1 Z
 |.mk e n x ks f=>(if e=4 then[x]else[])++Dj (.mk e n x ks f) 0 ks
def Dj (t:Tm):Nat->L1 Tm->L1 Z
 |_,[]=>[]
 |i,k::r=>Ai t i++Bx k++Dj t (i+1) r
end
mutual
def TH {y:Z}:∀(t:Tm) (m:E2),y∈Ef t m↔y∈m\/y∈Bx t
 |.mk e n x ks f,m=>by simp only[Ef,Bx];rw[QC (.mk e n x ks f) 0 ks];by_cases h:e=4;simp only[h,aw,Wk,PG,Cu,di];simp only[h,aq,JJ]
def QC {y:Z} (t:Tm):∀(i:Nat) (ks:G1) (m:E2),y∈FV t i ks m↔y∈m\/y∈Dj t i ks
 |_,[],m=>by simp[FV,Dj]
 |i,k::r,m=>by simp only[FV,Dj];rw[QC t (i+1) r,TH k,Nf];simp only[AT,di]
end
def Fs (T:Tm) (a b:Z):∀(i:Nat) (ks:G1),(Ev T i ks a b).length=ks.length
 |_,[]=>by simp[Ev]
 |i,k::r=>by simp[Ev,Fs T a b (i+1) r]
mutual
def Rt (a b:Z):∀t:Tm,DK (EH t a b)=DK t
 |.mk e n x ks f=>by simp only[EH,DK,aQ a b (.mk e n (Lc e x a b) [] f) 0 ks]
def aQ (a b:Z) (T:Tm):∀(i:Nat) (ks:G1),Ff (Ev T i ks a b)=Ff ks
 |_,[]=>by simp[Ev]
 |i,k::r=>by have e:=Rt a b k;have f:=aQ a b T (i+1) r;simp only[Ev,Ff,f];split;rfl;rw[e]
end
mutual
def Y2 (a b:Z):∀t:Tm,OK t->OK (EH t a b)
 |.mk p n x ks q,h=>by obtain⟨e,f,l,m⟩:=h;simp only[EH];exact⟨by rw[Fs];exact e,f,l,Vb a b _ 0 ks m⟩
def Vb (a b:Z) (T:Tm):∀(i:Nat) (ks:G1),Pm ks->Pm (Ev T i ks a b)
 |_,[],_=>by simp[Ev,Pm]
 |i,k::r,h=>by simp only[Ev];refine⟨?_,Vb a b T (i+1) r h.2⟩;split;exact h.1;exact Y2 a b k h.1
end
mutual
def VW (a b:Z):∀t:Tm,Ig t->Ig (EH t a b)
 |.mk p n x ks q,h=>by obtain⟨f,l,m⟩:=h;simp only[EH];exact⟨by rw[Fs];exact f,λi e=>l i (by rw[Fs]at e;exact e),T7 a b _ 0 ks m⟩
def T7 (a b:Z) (T:Tm):∀(i:Nat) (ks:G1),LT ks->LT (Ev T i ks a b)
 |_,[],_=>by simp[Ev,LT]
 |i,k::r,h=>by simp only[Ev];refine⟨?_,T7 a b T (i+1) r h.2⟩;split;exact h.1;exact VW a b k h.1
end
def FN (fr:L1 Z) (i:Nat) (r:Nat×Tm×L1 Z) (x:Z):Nat×Tm×L1 Z :=
 if AR fr x=true then(r.1+1,E5 (CH r.2.1 i<|EH ((FG r.2.1 i).getD Y1) x<|C4 r.2.2) i r.1<|C4 r.2.2,r.2.2++[C4 r.2.2])else(r.1+1,r.2.1,r.2.2)
def DZ (fr:L1 Z) (i:Nat) (T:Tm) (m:L1 Z) (j:Nat):Nat×Tm×L1 Z:=((Ai T i).take j).foldl (FN fr i) (0,T,m)
def EB (fr:L1 Z) (i:Nat) (T:Tm) (m:L1 Z):Nat×Tm×L1 Z:=(Ai T i).foldl (FN fr i) (0,T,m)
def Z8 (rec:Tm->Tm) (nm:Z) (fr:L1 Z):Nat->Nat->Tm->L1 Z->Tm
 |0,_,T,_=>T
 |k+1,i,T,m=>Z8 rec nm fr k (i+1) (if AR (Ai T i) nm=true then(EB fr i T m).2.1 else CH (EB fr i T m).2.1 i<|rec ((FG (EB fr i T m).2.1 i).getD Y1)) (EB fr i T m).2.2
def Tq (nm:Z) (e:Tm) (fr:L1 Z):Nat->Tm->Tm
 |0,t=>t
 |N+1,.mk f n x ks h=>if AR (EA (.mk f n x ks h) [] []) nm=true then(if f=4 then e else Z8 (Tq nm e fr N) nm fr ks.length 0 (.mk f n x ks h)<|nm::fr++Bx (.mk f n x ks h))else .mk f n x ks h
def Jz {fr:E2} {i:Nat} {T:Tm} {m:E2} {j:Nat} {x:Z} (h:(Ai T i)[j]?=some x):DZ fr i T m (j+1)=FN fr i (DZ fr i T m j) x:=by simp only[DZ,Bm h,qN,M3,qM]
def I8 (fr:E2) (i:Nat) (T:Tm) (m:E2):DZ fr i T m (Ai T i).length=EB fr i T m:=by simp only[DZ,EB,Df<|B6 _]
def CA (T:Tm) (i:Nat) (k:Tm) (m:Int):Ai (CH T i k) m=Ai T m:=by obtain⟨e,n,y,ks,f⟩:=T;rfl
def GC {T:Tm} {i:Nat} {k0:Tm} (h:FG T i=some k0) (k:Tm) (l:Nat):FG (CH T i k) l=if l=i then some k else FG T l:=by obtain⟨m,n,y,ks,p⟩:=T;simp only[CH,FG]at h ⊢;by_cases e:l=i;subst e;rw[ae O,Jc (A9.1 h).1];rw[ac e,HQ λf=>e f.symm]
def Ia (T:Tm) (i:Int) (j:Nat) (x:Z) (l:Nat):FG (E5 T i j x) l=FG T l:=by obtain⟨e,n,y,ks,f⟩:=T;let⟨p,m,h,_⟩:=VA e n y ks f i j x;rw[h];rfl
def M5 (t T:Tm):Prop:=∃h n x ks l p e f,t=.mk h n x ks l/\T=.mk h n p e f/\e.length=ks.length/\f.length=l.length/\∀m,(Ai T m).length=(Ai t m).length
def Mf (t:Tm):M5 t t:=by obtain⟨f,n,x,ks,e⟩:=t;exact⟨f,n,x,ks,e,x,ks,e,rfl,rfl,rfl,rfl,λ_=>rfl⟩
def jR {t T:Tm} (h:M5 t T) (i:Int) (j:Nat) (x:Z):M5 t<|E5 T i j x:=by obtain⟨p,n,y,ks,q,r,e,f,rfl,rfl,s,z,A⟩:=h;let⟨B,l,C,D⟩:=VA p n r e f i j x;refine⟨p,n,y,ks,q,B,e,l,rfl,C,s,D.trans z,λm=>?_⟩;rw[Pi];exact A m
def UO {t T:Tm} (h:M5 t T) (i:Nat) (k:Tm):M5 t<|CH T i k:=by obtain⟨l,n,y,ks,m,p,e,f,rfl,rfl,q,r,s⟩:=h;exact⟨l,n,y,ks,m,p,e.set i k,f,rfl,rfl,by simpa using q,r,s⟩
def VJ {i:Nat} {C:An} {T k:Tm} (M:K5 C T) (N:po C i=some (.im true [] [])) (R:FG T i=some k) (fr m:E2):∀j,j<=(Ai T i).length->(DZ fr i T m j).1=j/\K5 C (DZ fr i T m j).2.1/\(∀l,j<=l->(Ai (DZ fr i T m j).2.1 i)[l]?=(Ai T i)[l]?)/\M5 T (DZ fr i T m j).2.1/\(DZ fr i T m j).2.2.length<=m.length+j/\(∀l,l≠i->FG (DZ fr i T m j).2.1 l=FG T l)/\∃k',FG (DZ fr i T m j).2.1 i=some k'/\DK k'=DK k/\(Ig k->Ig k')/\(OK k->OK k')
 |0,_=>⟨rfl,M,λ_ _=>rfl,Mf T,by simp[DZ],λ_ _=>rfl,k,R,rfl,id,id⟩
 |j+1,g=>by let⟨S,H,K,D,a,L,k',e,U,V,q⟩:=VJ M N R fr m j (by omega);let⟨x,b⟩:=Aq (show j<(Ai T i).length by omega);rw[Jz b];generalize DZ fr i T m j=r at *;obtain⟨W,f,s⟩:=r;simp only at S H K D a L e;subst S;simp only[FN];by_cases y:AR fr x=true;rw[ae y];have z:=SE H N e<|EH ((FG f i).getD Y1) x<|C4 s;have A:(Ai (CH f i<|EH ((FG f i).getD Y1) x<|C4 s) i).length=(Ai T i).length:=by{let⟨_,_,_,_,_,_,_,_,_,_,_,_,c⟩:=UO D i<|EH ((FG f i).getD Y1) x<|C4 s;exact c i};have B:W<(Ai (CH f i<|EH ((FG f i).getD Y1) x<|C4 s) i).length:=by{rw[A];omega};let⟨p,d⟩:=Aq (show W<(bp C i).length by rw[zl7 z];exact B);refine⟨rfl,zhk z d _,λl G=>?_,jR (UO D i _) _ _ _,by simp only[Bo,Ij];omega,λl G=>?_,?_⟩;rw[L7 _ B,HQ<|by omega,CA,K l<|by omega];rw[Ia,GC e,ac G,L l G];refine⟨EH k' x<|C4 s,?_,by rw[Rt,U],λh=>VW _ _ _<|V h,λh=>Y2 _ _ _<|q h⟩;rw[Ia,GC e,ae O,e];rfl;rw[ac y];exact⟨rfl,H,λl G=>K l<|by omega,D,by simp only;omega,L,k',e,U,V,q⟩
def rD (nm:Z):Tm->Nat->L1 D
 |.mk o n x ks e,id=>[.Kp<|.str nm,.Kp<|.int .i64 o,.Kp<|.int .i64 n,.Kp<|.str x,.Kp<|.sl<|Ci ks,.Kp<|.sl<|A3 e,.cf id]
def pq (b:Nat) (h:An) (nm:Z) (f:Tm) (fr:L1 Z) (i:Nat) (e:L1 Z) (r:Nat×Tm×L1 Z):St :=
 [(2,some<|.cells 160 7<|rD nm f 7),(4,some<|.cells 49 5 [.Kp<|.int .i64 0,.Kp<|.int .i64 0,.Kp<|.str [],.NB,.NB]),(7,some<|.map<|Dp fr),(13,some<|.hp<|DT b h r.2.1),
  (20,some<|.map<|Dp r.2.2),(8,some<|.cells 139 1 [.cf 20]),(14,some<|.NA 3 1 [.int .i64 i]),(15,some<|.row 9 1<|BP e)]
def w9 (b n i:Nat) (e:L1 Z):Env:=[(50,.Kp<|.int .i64 i),(49,.Kp<|.int .i64 n),(2,.ref 2 0),(3,.eR<|.pointer<|some ⟨b,0,none⟩),(4,.ref 4 0),(6,.ref 8 0),(8,.ref 14 0),(9,.own 15 (BP e).length)]
def PR (t:Tm):∃o n x ks ps,t=.mk o n x ks ps:=by obtain⟨o,n,x,ks,ps⟩:=t;exact⟨o,n,x,ks,ps,rfl⟩
def pB (b:Nat) (z:An) (nm:Z) (t:Tm) (fr:E2) (B:E2) (i K:Nat) (T k:Tm) (m:E2) {o n:Int} {xx:Z} {c F:Nat} {js:N4} {u:Value} {qs:N4} (hf:K5 z T) (v:z=.mk true o n xx (.slice (some ⟨F,0,none⟩) K c) js u qs) (G:po z i=some (.im true [] [])) (hk:FG T i=some k) (hpk:Ig k) (hi:i<K) (hK:K<=1000000) (H:∀j,j<=(Ai T i).length->∀s∈(DZ fr i T m j).2.2,s.length<=maxLen) (hml:m.length+(Ai T i).length<=699) (j:Nat) (hj:j<(Ai T i).length) (d:D) (hd:((bp z i).map<|w7 b z)[j]?=some d) {L:Jj} (h1:Tryz.prog.funcs[L.fn]?.isSome) (h2:L.tmps.size=Tryz.f109.ntmps) (h3:L.ps = #[57]) (h4:L.m7=zn7 Tryz.f109) (h5:L.body=zj5 Tryz.f109) (h6:L.E=w9 b K i B) (h7:L.F=[7]):LB Tryz.prog [d] (Cl L (pq b z nm t fr i B<|DZ fr i T m j) none) true<|Cl L (pq b z nm t fr i B<|DZ fr i T m<|j+1) none:=by let⟨fc,hfc⟩:=Nj.1 h1;let⟨x,hx⟩:=Aq hj;let⟨i1,i2,i3,i4,i5,i6,k',J,i8,i9,_⟩:=VJ hf G hk fr m j (by omega);have H:=H j (by omega);rw[Jz hx];generalize DZ fr i T m j=r at *;obtain⟨U,M,l⟩:=r;simp only at i1 i2 i3 i4 i5 i6 J H;subst i1;have C:=Ov i2;rw[Cx]at hd;obtain⟨p,hp,rfl⟩:=E9.1 hd;obtain⟨a0,E,e,P,hD⟩:∃a0 E e,D3 z b 0 p=some (a0,E,e)/\w7 b z p=.eR (ptr E (Ez e 2)):=by{obtain⟨a,o,nn,y,ad,c,ks,u,qs,rfl,hv,_⟩:=id i2;rw[X4]at hp;let⟨s,o',n',x',v',mu,u',ps',E,e,P,_,_⟩:=UV ((Na a).1 C) hv hp b;refine⟨_,E,e,by rw[Og,P];rfl,?_⟩;simp only[w7,Og,P,FQ]};have hx2:(Ai M i)[U]?=some x:=by{rw[i3 U<|B6 _];exact hx};have Q:=oX C hp P (b:=b) hx2;have V:∀vs I w bs,(DT b z M).P vs I w bs->DU I w b 3 [.eR<|.slice (some ⟨F,0,none⟩) K c]:=λvs I w bs h=>(LM (by rw[v]at h;exact h)).1;obtain⟨bo,bn,bx,bks,bps⟩:=t;rw[hD];refine Rh (b0:=none) (d:=.eR<|ptr E<|Ez e 2) (aa:=[16,17,18]) (t:=10) (p:=57) hfc h3 (h4.trans O) h2 O O O O (by decide) (by decide) ?_ ?_;rw[h6,h7];refine⟨by decide,?_⟩;simp[pq,w9,rD,OS,GH,DB,KU,FO];rw[h5,h6,h7];refine zpw O<|C6 Dr 13 [.Kp<|.str x] O O (λ_=>Q) O O (by simp)<|Pl O<|CR Dr 7 O O O (Da fr) (by simp[A1]) (z:=.bool false) O (λ_=>.bool _) (Hi fr x)<|xg [] O (by simp[A1];rfl)<|Aa O (λh=>?_) λh=>?_;have l7:¬AR fr x=true:=by{simpa using h};rw[show FN fr i (U,M,l) x=(U+1,M,l) by simp only[FN,ac l7]];exact Aw O<|Bq<|JG;have qq:AR fr x=true:=by{simpa using h};rw[show FN fr i (U,M,l) x=(U+1,E5 (CH M i<|EH k' x<|C4 l) i U<|C4 l,l++[C4 l]) by simp only[FN,ae qq,J,ID]];clear h;refine zpw O<|Ao [] [(20,1)] [] O (zC l H<|by omega) Az O O<|Pl O<|Al O (nZ (MO l) (by simp only[MO,zfy];omega)) ?_;rw[show C4 (MO l)=C4 l from Ra λs=>by simp[MO]];refine Pl O<|Ey Dr O O O (Da l) ?_;rw[Qn l (C4 l) (by have:=(HB l<|by omega).2;rw[<- BN]at this;simpa using this)];refine Pl O ?_;obtain⟨N,R,kx,S,q,rfl⟩:=PR k';have W:∀vs I w bs,(DT b z M).P vs I w bs->DU I w F (i*5) ((dTmc<|.mk N R kx S q).map .Kp):=λvs I w bs h=>Qq C v G J h;have e5:0+((i:Int)).toNat*5=i*5:=by{simp};refine C6 Dr 13 [.eR<|.slice (some ⟨F,0,none⟩) K c] O O (λ_=>V) O O (by simp)<|Pl O<|C6 Dr 13 [.eR<|.slice (some ⟨F,0,none⟩) K c] O O (λ_=>V) O O (by simp)<|Pl O<|Eb Dr O O (λ_=>⟨by simp,by simpa using hi⟩) (by simp)<|Pl O ?_;rw[<- e5]at W;refine C6 Dr 13 [i7 N,i7 R,.Kp<|.str kx,.Kp<|.sl<|Ci S,.Kp<|.sl<|A3 q] O O (λ_=>W) O O (by simp)<|Pl O<|C6 Dr 13 [.Kp<|.str x] O O (λ_=>Q) O O (by simp)<|Pl O ?_;have g:=Zg (.mk N R kx S q) x (C4 l)<|i9 hpk;obtain⟨A,f,xq⟩:∃A f,EH (.mk N R kx S q) x (C4 l)=.mk N R A f q:=⟨_,_,by rw[EH]⟩;rw[xq]at g ⊢;refine Al O g<|Pl O<|Eb Dr O O (λ_=>⟨by simp,by simpa using hi⟩) (by simp) ?_;have lz:=MV (b:=b) C v G J<|.mk N R A f q;rw[<- e5]at lz;refine WX Dr 13 (DT b z<|CH M i<|.mk N R A f q) O O lz<|xg [] O (by simp[A1];rfl) ?_;have hfK:=SE i2 G J<|.mk N R A f q;exact WX Dr 13 (DT b z<|E5 (CH M i<|.mk N R A f q) i U<|C4 l) O O (gW C hp P (b:=b)<|C4 l)<|Pl O<|Bq<|JG
end Go.Hk
namespace Go.Hk
end Go.Hk
namespace Go.Hk
open Go.Proofs
mutual
def jC:∀p:Y,BH p=true->3*(DH p).length<=2*Bn p+1
 |.mk s n x l,h=>by simp only[BH,Am]at h;have A:=Zy l h.2;have f:=h.1;unfold F2 at f;simp only[DH,Bn,Bo];by_cases e:s=2;have m:l.length=0:=by{simp[e]at f;simp[f.1.1]};have:l=[]:=Jb m;subst this;simp[e,CJ,A5];have m:l.length<=3:=by{by_cases q:s=1\/s=5;rw[ae q]at f;simp at f;simp[f.1.1];rw[ac q,ac e]at f;by_cases r:s=3;rw[ae r]at f;simp at f;simp[f.1.1];rw[ac r]at f;by_cases y:s=4;rw[ae y]at f;simp at f;simp[f.1.1];rw[ac y]at f;by_cases z:s=6;rw[ae z]at f;simp at f;omega;rw[ac z]at f;cases f};simp only[e,aq,Cj];omega
def Zy:∀ps:E1,BT ps=true->3*(CJ ps).length<=2*A5 ps+ps.length
 |[],_=>by simp[CJ,A5]
 |p::r,h=>by simp only[BT,Am]at h;have e:=jC p h.1;have f:=Zy r h.2;simp only[CJ,A5,Bo,C1];omega
end
def zof {p:Y} (h:CM p=true):(BM p).length<=8:=by simp only[CM,Am,am]at h;have e:=jC p h.1.2;have f:=EF p 12 h.1.1;simp only[BM,CD];omega
def uB {op n:Int} {x:Z} {ks:G1} {ps:E1} (h:ps.all CM=true) (i:Int):(Ai (.mk op n x ks ps) i).length<=8:=by simp only[Ai];split;simp;split;split;rename_i p e;exact zof<|Du.1 h p<|AE e;simp;simp
def zii {op n:Int} {x:Z} {ks:G1} {ps:E1} (h:ps.all CM=true):∀m i,G8 (.mk op n x ks ps) m i<=8*m
 |0,_=>by simp[G8]
 |m+1,i=>by have:=zii (op:=op) (n:=n) (x:=x) (ks:=ks) h m<|i+1;have:=uB (op:=op) (n:=n) (x:=x) (ks:=ks) h (i:Int);simp only[G8];omega
end Go.Hk
namespace Go.Hk
structure PMr where
 id:Nat
 kv:List (V×V)
 b:Nat
 es:Array MapEntry
 clock:Nat
 iz:Nat
 Kr:List Nat
 dst:Option Nat
 todo:List DI
def vR (r:TT) (n:Nat) (env:Env) (st:St) (aa:L1 Nat) (todo:L1 DI):Option PMr :=
 match U3 todo,aa with
 |some o,f::Kr=>match o.guard,o.op with
  |none,.range t x=>match lk r t,Fi env x with
   |some { sh:=.map _ _,.. },some (.cf i)=>match lk st i,Cs n o.dst,B4 todo ([i],[f])with
    |some (some (.gw h b es e)),true,some (_,_,s)=>some ⟨i,h,b,es,e,f,Kr,o.dst,s⟩
    |_,_,_=>none
   |_,_=>none
  |_,_=>none
 |_,_=>none
structure PMn where
 i:Nat
 kv:List (V×V)
 b:Nat
 b2:Nat
 es:Array MapEntry
 clock:Nat
 wx:Nat
 seen:Array Nat
 c:Nat
 dst:Option Nat
 k:List DI
 all:List Oper
 rest:List Oper
def zer (n:Nat) (env:Env) (st:St) (m:Nat) (todo:L1 DI):Option PMn :=
 match todo with
 |.ops all (o::rest)::k=>match o.guard,o.op with
  |none,.next x false=>match Fi env x,Cs n o.dst,lk st m with
   |some (.iter i),true,some (some (.gw h b es e))=>match lk st i with
    |some (some (.ii l f seen c))=>some ⟨i,h,b,l,es,e,f,seen,c,o.dst,k,all,rest⟩
    |_=>none
   |_,_,_=>none
  |_,_=>none
 |_=>none
structure PMe where
 i:Nat
 kv:List (V×V)
 b:Nat
 b2:Nat
 es:Array MapEntry
 clock:Nat
 seen:Array Nat
 c:Nat
 dst:Option Nat
 todo:List DI
def vS (n:Nat) (env:Env) (st:St) (m:Nat) (todo:L1 DI):Option PMe :=
 match U3 todo with
 |some o=>match o.guard,o.op with
  |none,.entry x=>match Fi env x,Cs n o.dst,lk st m with
   |some (.iter i),true,some (some (.gw f b es e))=>match lk st i,B4 todo ([i,m],[])with
    |some (some (.ii h _ seen c)),some (_,_,s)=>some ⟨i,f,b,h,es,e,seen,c,o.dst,s⟩
    |_,_=>none
   |_,_,_=>none
  |_,_=>none
 |none=>none
section
variable {P:Program} {n:Nat} {F:K1} {Q:DQ} {r:TT} {env l:Env} {st au:St} {aa Kr:K1} {k todo s:S6} {I:TA} {μ:Mu} {w:World} {a:Act} {Pn:V->Prop} {d:D} {y:Prop} {ob:T0}
def zl0 {α:Type} {all rest:L1 Oper} {o:Oper} (d:α->D) (wr:α->St) (S:o.guard=none) (A:∀c,o.op≠.defer c) (m:Cs n o.dst=true) (p:∀I μ a w,No I μ st aa w->Fg I μ env a o.op->hG P ((execOp a.eval o).run P w) (λv w'=>∃x,∃q f,No q f (wr x++st) aa w'/\X q f v (d x)/\μ.le f/\fi I μ st w q f (wr x++st) w') (OF (OE Q) I μ st w)) (h:∀x,ek P n F Q (.ops all rest::k) (Cn o.dst (d x) env) (wr x++st) aa):ek P n F Q (.ops all (o::rest)::k) env st aa:=by have m:∀t,o.dst=some t->t<n:=λt T=>by{unfold Cs at m;rw[T]at m;simpa[Kz]using m};intro b U I μ a w B V l;obtain⟨j,W,rfl,g,i⟩:=KA V;let⟨u,C⟩:=Fm g;have G:M8 (o.looksAt all.toArray) I μ env a:=λt _ d p=>l.env t d p;have r:(o::rest).length=rest.length+1:=rfl;rw[r,OT];have E:Region.wanted o (yielded all.toArray a.tmps)=true:=AO S;refine GF u E A<|hG.upon<|(p I μ a w l.toNo<|B3 G).mono ?_ ?_;rintro v H ⟨x,q,f,K,L,z,s⟩;let⟨J,p2,N⟩:=Iw (n:=n) (w:=H) (dst:=o.dst) (λt d p=>(l.env t d p).mono s.Kp z) l.size m L;have:=h x b U q f (a.put o.dst v) H (.inRegion all.toArray (List.range' (j+1) rest.length)::W) ⟨⟨rfl,j+1,C,rfl⟩,i⟩ {K with size:=p2,env:=by cases y:o.dst<;>simpa[Cn,y]using J,defers:=by rw[N];exact l.defers.ext s };rw[N]at this;exact this.mono λe a' qe hp=>hp.back (.of_le z) s;rintro M H ⟨v,x,I2,K,L,s,z,R⟩;refine⟨.panic x,[],[],[],I2,μ,⟨v,K,s⟩,L,?_,.refl _ _,R,.refl _ _⟩;exact NN z l.size<|l.defers.ext R
def No.n7 {a7:St} (e:No I μ st aa w) (h:∀i b,A2 a7 i b->∃f,A2 st i f/\∀g,μ i=some g->eb I μ w g f->eb I μ w g b):No I μ a7 aa w/\fi I μ st w I μ a7 w:=by
 refine⟨{ Kp:=e.Kp,SB:=λi b r=>?_,apart:=λi b g k r p y=>?_,inj:=λi j s z A B k C D=>?_,nodup:=e.nodup,PA:=e.PA },?_⟩
 ·let⟨f,l,m⟩:=h i b r;let⟨g,p,G⟩:=e.SB i f l;exact⟨g,p,m g p G⟩
 ·let⟨f,l,_⟩:=h i b r;exact e.apart i f g k l p y
 ·let⟨f,l,_⟩:=h i s C;let⟨H,m,_⟩:=h j z D;exact e.inj i j f H A B k l m
 ·exact { Kp:=TA.le_refl I,os:=rfl,tape:=rfl,output:=rfl,size:=B6 _,block:=λ_ _ _=>rfl,gz:=λ_ _ _=>rfl
          fresh:=λb _ ⟨i,s,g,l,m⟩=>let⟨f,q,_⟩:=h i s l;⟨i,f,g,q,m⟩ }
def J6 (id:Nat) {l:c7} (q:lk st id=some (some<|.map l)) (h:∀b es e,es.size=l.length->MapKept.Stamped es e->ek P n F Q todo env ((id,some<|.gw l b es e)::st) aa):ek P n F Q todo env st aa:=by refine EQ λI μ a w m=>?_;obtain⟨g,y,b,es,e,rfl,z,r,s,A⟩:=m.SB id _ q;let⟨B,C⟩:=m.toNo.n7 (a7:=(id,some<|.gw l b es e)::st) λi c p=>by{rcases A7.1 p with⟨rfl,rfl⟩|⟨_,h⟩;exact⟨_,q,λD f _=>by rw[y]at f;cases f;exact⟨rfl,z,r,s,A⟩⟩;exact⟨c,h,λ_ _ h=>h⟩};exact⟨I,μ,env,_,aa,B,m.env,C,.refl _ _,h b es e r s⟩
def Ip (id:Nat) {f:c7} {b e:Nat} {es:Array MapEntry} (p:lk st id=some (some<|.gw f b es e)) (h:ek P n F Q todo env ((id,some<|.map f)::st) aa):ek P n F Q todo env st aa:=by refine EQ λI μ a w m=>?_;let⟨q,r⟩:=m.toNo.n7 (a7:=(id,some<|.map f)::st) λi c l=>by{rcases A7.1 l with⟨rfl,rfl⟩|⟨_,h⟩;exact⟨_,p,λD s ⟨y,z,A,B,C⟩=>⟨b,es,e,y,z,A,B,C⟩⟩;exact⟨c,h,λ_ _ h=>h⟩};exact⟨I,μ,env,_,aa,q,m.env,r,.refl _ _,h⟩
def lH (D:dv P r) {z:Nat} {R:c7} {b:Nat} {es:Array MapEntry} {e f:Nat} {m:K1} {d0:g6} {l:S6} (h:vR r n env st aa todo=some ⟨z,R,b,es,e,f,m,d0,l⟩) (u:G P n F Q l (Cn d0 (.iter f) env) ((f,some<|.ii b e #[] e)::st) m):G P n F Q todo env st aa:=by unfold vR at h;split at h;rename_i o E Kr J;split at h;rename_i t x hg q;split at h;rename_i _ _ _ _ _ _ i ht hx;split at h;rename_i _ _ _ _ all S s hl hd T;cases h;have H:S=o:=E0 J T;subst H;refine Cc (fr:=[f]) (wr:=[(f,some<|.ii b e #[] e)]) (rd:=[z]) T ?_ hd (λc U=>by rw[q]at U;cases U) u;intro I μ a7 W a w K A L;refine⟨λ_=>?_,λd=>by rw[AO hg]at d;cases d⟩;have p:=B3 L;rw[q]at p;have M:A2 a7 z<|.gw R b es e:=by{unfold A2;rw[K z<|by simp];exact hl};obtain⟨g,N,rfl,y,_⟩:=A.SB z _ M;have j:=p x (by simp[Op.operands]) _ hx;have e1:a.eval x=.map (some b):=by{generalize a.eval x=v at j;cases j with|cf _ b' k=>{rw[N]at k;cases k;rfl}};have hu:=D.sh ht;have B:(execOp a.eval S).run P w=.ok (.value<|.pointer<|some ⟨w.heap.size,0,none⟩) (w.alloc<|.mapIter (some b) e #[] e):=by{simp only[execOp,q,e1];exact Ft<|run_range_map w _ _ _ b es e hu y};rw[B];let⟨C,q1,q2,q3,q4⟩:=A.m0 (.mapIter (some b) e #[] e) (.pointer<|some ⟨w.heap.size,0,none⟩) (λ_ h=>dw h) (.ii b e #[] e) λC _=>⟨w.heap.size,rfl,FR w _⟩;exact⟨I,C,q3,.iter _ _ q1,q2,q4⟩;cases h;cases h;cases h;cases h
def No.drew (e:No I μ st aa w):No I μ st aa w.drew:={Kp:=e.Kp,SB:=λi b h=>let⟨g,f,l⟩:=e.SB i b h;⟨g,f,l.world λ_ _=>rfl⟩,apart:=e.apart,inj:=e.inj,nodup:=e.nodup,PA:=e.PA }
def zi5 (es:Array MapEntry) (seen:Array Nat):Option (Nat×MapEntry)->Prop
 |none=>(leftOf es seen).size=0
 |some (j,e)=>es[j]?=some e/\e∈(leftOf es seen).toList
def Wh (e:L1<|V×V):Option (Nat×MapEntry)->D
 |none=>.Kp (.cg [.bool false])
 |some (j,_)=>match e[j]? with
  |some p=>.Kp (.cg [.bool true,p.1,p.2])
  |none=>.undef
def zm6 (i b f:Nat) (seen:Array Nat) (h:Nat):Option (Nat×MapEntry)->St
 |none=>[]
 |some (_,e)=>[(i,some<|.ii b f (seen.push e.born) h)]
def xL (m:Nat) {i:Nat} {g:c7} {b:Nat} {es:Array MapEntry} {l f:Nat} {seen:Array Nat} {c:Nat} {d0:g6} {k0:S6} {all rest:L1 Oper} {G:Nat} (h:zer n env st m todo=some ⟨i,g,b,G,es,l,f,seen,c,d0,k0,all,rest⟩) (J:G=b) (M:∀x∈es.toList,x.born<f) (hsc:f<=c) (od:i≠m) (hk:∀x,zi5 es seen x->ek P n F Q (.ops all rest::k0) (Cn d0 (Wh g x) env) (zm6 i b f seen l x++st) aa):ek P n F Q todo env st aa:=by unfold zer at h;split at h;rename_i zb o rest' k';split at h;rename_i x hg H;split at h;rename_i i' kv' b1 r9 t s hd hm;split at h;rename_i b2 u seen' q hi;cases h;subst J;refine zl0 (α:={ x:Option (Nat×MapEntry) // zi5 es seen x }) (λx=>Wh g x.1) (λx=>zm6 i G f seen l x.1) hg (λc y=>by rw[H]at y;cases y) hd (λI μ a w A C=>?_) λx=>hk x.1 x.2;rw[H]at C;obtain⟨gm,hgm,rfl,K,N,hst2,R⟩:=A.SB m _ hm;obtain⟨gi,S,r,rfl,z⟩:=A.SB i _ hi;obtain⟨r',_,T⟩:=(C x (by simp[Op.operands]) _ s).mn;rw[S]at T;have e1:a.eval x=.pointer (some ⟨r,0,none⟩):=(Lk T).symm;have U:∀v w',(Instr.next (.pointer<|some ⟨r,0,none⟩) false o.type).run P w=.ok v w'->(execOp a.eval o).run P w=.ok (.value v) w':=λv w' W=>by{simp only[execOp,H,e1];exact Ft W};rcases run_next_at w o.type r G f c seen es l z K M hsc with⟨h0,W⟩|⟨e,he,E,d,W⟩;rw[U _ _ W];refine⟨⟨none,h0⟩,I,μ,A,.Kp _ _<|.cg _ _ O λi c x y s=>?_,Mu.le_refl μ,fi.refl _ _ _ _⟩;match i,y,s with|0,y,s=>cases y;cases s;exact .bool _|i+1,y,s=>{simp at s};rw[U _ _ W];let⟨he1,_⟩:=mem_left he;let⟨j,hj⟩:=H3 he1;have L:es[j]?=some e:=by{simpa using hj};obtain⟨p,hp⟩:∃p,g[j]?=some p:=⟨_,Bi (by rw[<- N];exact(Ht.1 L).1)⟩;let⟨k1,k2⟩:=R j e p L hp;have D:No I μ st aa E/\fi I μ st w I μ st E:=by{rcases d with rfl|rfl;exact⟨A,fi.refl _ _ _ _⟩;exact⟨A.drew,fi.drew I μ st w⟩};have B:E.heap[r]?=some (.mapIter (some G) f seen c):=by{rcases d with rfl|rfl<;>exact z};have nc:=C7 B;let⟨q1,q2⟩:=D.1.update (it:=.ii G f (seen.push e.born) l) (w':=ChangeMaps.setBlock E r<|.mapIter (some G) f (seen.push e.born) l) hi S rfl (by simp[ChangeMaps.setBlock]) O O O (λk hk=>H2<|b9 hk) ⟨r,rfl,by simp[ChangeMaps.setBlock,nc]⟩;refine⟨⟨some (j,e),L,he⟩,I,μ,q1,?_,Mu.le_refl μ,D.2.trans q2⟩;simp only[Wh,hp];refine .Kp _ _<|.cg _ _ O λi c x y s=>?_;match i,y,s with|0,y,s=>cases y;cases s;exact .bool _|1,y,s=>cases y;cases s;exact k1|2,y,s=>cases y;cases s;exact k2|i+3,y,s=>{simp at s};cases h;cases h;cases h;cases h
def lI (m:Nat) {i:Nat} {d:c7} {es:Array MapEntry} {l:Array Nat} {d0:g6} {y:S6} {seen:Array Nat} {j:Nat} {e:MapEntry} {p:V×V} {b M z c:Nat} (h:vS n env st m todo=some ⟨i,d,b,M,es,z,l,c,d0,y⟩) (g:M=b) (k:c=z) (hs:l=seen.push e.born) (hj:es[j]?=some e) (hp:d[j]?=some p) (hk:G P n F Q y (Cn d0 (.Kp<|.cg [p.1,p.2]) env) st aa):G P n F Q todo env st aa:=by unfold vS at h;split at h;rename_i o ho;split at h;rename_i x hg H;split at h;rename_i i' kv' b1 r9 W A hd hm;split at h;rename_i b2 f t q all o' s hi h1;cases h;subst g;subst k;subst hs;have u:o'=o:=E0 ho h1;subst u;refine Cc (fr:=[]) (wr:=[]) (rd:=[i,m]) h1 ?_ hd (λc B=>by rw[H]at B;cases B) hk;intro I μ a7 k8 a w N K v;refine⟨λ_=>?_,λhw=>by rw[AO hg]at hw;cases hw⟩;have D:=B3 v;rw[H]at D;have E:A2 a7 m<|.gw d M es c:=by{unfold A2;rw[N m<|by simp];exact hm};have J:A2 a7 i<|.ii M f (seen.push e.born) c:=by{unfold A2;rw[N i<|by simp];exact hi};obtain⟨gm,hgm,rfl,L,hlen,R,S⟩:=K.SB m _ E;obtain⟨gi,py,r,rfl,C⟩:=K.SB i _ J;obtain⟨r',_,T⟩:=(D x (by simp[Op.operands]) _ A).mn;rw[py]at T;have e1:a.eval x=.pointer (some ⟨r,0,none⟩):=(Lk T).symm;have he:e∈es.toList:=AE (by simpa using hj:es.toList[j]?=some e);have U:(execOp a.eval o').run P w=.ok (.value<|.tuple #[e.key,e.val]) w:=by{simp only[execOp,H,e1];exact Ft<|run_entry_at w r M f seen es c e C L he R.2.1};rw[U];let⟨k1,k2⟩:=S j e p hj hp;refine⟨I,μ,K,.Kp _ _<|.cg _ _ O λi c x B A=>?_,Mu.le_refl μ,fi.refl _ _ _ _⟩;match i,B,A with|0,B,A=>cases B;cases A;exact k1|1,B,A=>cases B;cases A;exact k2|i+2,B,A=>{simp at A};cases h;cases h;cases h;cases h
end
end Go.Hk
namespace Go.Hk
open Go.Proofs
def Wg {op n:Int} {x:Z} {k p:Nat} (h:Bl op n x k p=true):k<=6:=by have e:∀c:Int,c<=6->∀b q:Bool,(((k:Int)==c)&&b&&q)=true->k<=6:=λc K b q h=>by{simp at h;omega};have s:∀c:Int,c<=6->∀b:Bool,(((k:Int)==c)&&b)=true->k<=6:=λc K b h=>by{simp at h;omega};unfold Bl at h;by_cases y:op=1;rw[ae y]at h;exact e 0 (by decide) _ _ h;rw[ac y]at h;by_cases z:op=2;rw[ae z]at h;exact e 0 (by decide) _ _ h;rw[ac z]at h;by_cases A:op=3\/op=21\/op=25\/op=28;rw[ae A]at h;exact s 0 (by decide) _ h;rw[ac A]at h;by_cases B:op=4;rw[ae B]at h;exact e 0 (by decide) _ _ h;rw[ac B]at h;by_cases C:op=5\/op=27;rw[ae C]at h;exact e 1 (by decide) _ _ h;rw[ac C]at h;by_cases D:op=7;rw[ae D]at h;exact e 2 (by decide) _ _ h;rw[ac D]at h;by_cases G:op=8;rw[ae G]at h;exact s 3 (by decide) _ h;rw[ac G]at h;by_cases f:op=14;rw[ae f]at h;simp at h;omega;rw[ac f]at h;by_cases l:op=15;rw[ae l]at h;simp[EK]at h;omega;rw[ac l]at h;by_cases m:op=16\/op=17\/op=19\/op=20\/op=23\/op=26;rw[ae m]at h;exact s 1 (by decide) _ h;rw[ac m]at h;by_cases r:op=24;rw[ae r]at h;exact e 1 (by decide) _ _ h;rw[ac r]at h;by_cases H:op=6\/op=9\/op=10\/op=11\/op=12\/op=13\/op=18\/op=22;rw[ae H]at h;exact s 2 (by decide) _ h;rw[ac H]at h;cases h
def Wf {op n:Int} {x:Z} {k p:Nat} (h:Bl op n x k p=true) {i:Int} (e:Bv op i=true\/op=4):BW x=true:=by simp only[Bv,EJ,Am,an]at e;rcases e with((h1|h1)|⟨h1,_⟩)|h1<;>subst h1<;>simp[Bl,Bs]at h<;>exact h.2
def RZ {s:Z} (h:BW s=true):s.length<=8:=by simp only[BW,Am,am]at h;exact h.1.1.2
mutual
def Qt:∀p:Y,BH p=true->∀q∈DH p,BW (Fk q)=true
 |.mk s n x l,h,q,hq=>by simp only[BH,Am]at h;simp only[DH,AT]at hq;rcases hq with hq|hq;by_cases e:s=2;rw[ae e]at hq;rw[AJ.1 hq];have f:=h.1;simp[F2,e]at f;exact f.2;rw[ac e]at hq;cases hq;exact OQ l h.2 q hq
def OQ:∀l:E1,BT l=true->∀q∈CJ l,BW (Fk q)=true
 |[],_,q,hq=>by cases hq
 |p::r,h,q,hq=>by simp only[BT,Am]at h;simp only[CJ,AT]at hq;rcases hq with hq|hq;exact Qt p h.1 q hq;exact OQ r h.2 q hq
end
def mY {op n:Int} {x:Z} {ks:G1} {ps:E1} {k:Nat} (h:Bl op n x k ps.length=true) (r:ps.all CM=true) (i:Int):∀s∈Ai (.mk op n x ks ps) i,BW s=true:=by intro s e;simp only[Ai]at e;by_cases f:Bv op i=true;rw[ae f]at e;rw[AJ.1 e];exact Wf h<|.inl f;rw[ac f]at e;by_cases m:Ca op i=true;rw[ae m]at e;cases l:ps[(i-1).toNat]? with|none=>simp only[l]at e;cases e|some p=>{simp only[l,BM,CC]at e;obtain⟨q,y,rfl⟩:=e;have:=Du.1 r p<|AE l;simp only[CM,Am]at this;exact Qt p this.1.2 q y};rw[ac m]at e;cases e
mutual
def Ti:∀t:Tm,Ax t=true->∀s∈Bx t,BW s=true
 |.mk f n x ks l,h,s,hs=>by simp only[Ax,Am]at h;simp only[Bx,AT]at hs;rcases hs with hs|hs;by_cases e:f=4;rw[ae e]at hs;rw[AJ.1 hs];exact Wf (i:=0) h.1.1<|.inr e;rw[ac e]at hs;cases hs;exact Qg f n x ks l ks.length h.1.1 h.1.2 0 ks h.2 s hs
def Qg (op n:Int) (x:Z) (k0:G1) (ps:E1) (k:Nat) (e:Bl op n x k ps.length=true) (f:ps.all CM=true):∀(i:Nat) (l:G1),Bb l=true->∀s∈Dj (.mk op n x k0 ps) i l,BW s=true
 |_,[],_,s,hs=>by cases hs
 |i,t::r,h,s,hs=>by simp only[Bb,Am]at h;simp only[Dj,AT]at hs;rcases hs with(hs|hs)|hs;exact mY e f i s hs;exact Ti t h.1 s hs;exact Qg op n x k0 ps k e f (i+1) r h.2 s hs
end
mutual
def cU:∀t:Tm,Ax t=true->pV t+8<=9*DK t
 |.mk e n x ks f,h=>by simp only[Ax,Am]at h;have:=iR (.mk e n x ks f) (λi=>uB h.1.2 i) 0 ks h.2;simp only[pV,DK];split<;>omega
def iR (t:Tm) (e:∀i:Int,(Ai t i).length<=8):∀(i:Nat) (l:G1),Bb l=true->OR t i l<=9*Ff l
 |_,[],_=>by simp[OR]
 |i,k::r,h=>by simp only[Bb,Am]at h;have f:=cU k h.1;have m:=iR t e (i+1) r h.2;have p:=e i;simp only[OR,Ff];omega
end
mutual
def Lg (a b:Z) (f:BW b=true):∀t:Tm,Ax t=true->Ax (EH t a b)=true
 |.mk l n x ks m,h=>by simp only[Ax,Am]at h;rw[EH];simp only[Ax,Am,Fs];refine⟨⟨?_,h.1.2⟩,Wa a b f _ 0 ks h.2⟩;unfold Lc;split;rename_i e;simp only[Am,an]at e;exact iP (i:=0) (.inr e.1) h.1.1 f;exact h.1.1
def Wa (a b:Z) (e:BW b=true) (T:Tm):∀(i:Nat) (l:G1),Bb l=true->Bb (Ev T i l a b)=true
 |_,[],h=>h
 |i,k::r,h=>by simp only[Bb,Am]at h;simp only[Ev,Bb,Am];refine⟨?_,Wa a b e T (i+1) r h.2⟩;split;exact h.1;exact Lg a b e k h.1
end
def RN {fr:E2} {i:Nat} {T k:Tm} {m:E2} (l:FG T i=some k) (p:Ax k=true) (hs:∀s∈m,s.length<=8) (f:m.length+(Ai T i).length<=699):∀j,j<=(Ai T i).length->(DZ fr i T m j).2.2.length<=m.length+j/\(∀s∈(DZ fr i T m j).2.2,s.length<=8)/\∃k',FG (DZ fr i T m j).2.1 i=some k'/\Ax k'=true/\DK k'=DK k
 |0,_=>⟨by simp[DZ],hs,k,l,p,rfl⟩
 |j+1,D=>by let⟨B,h,k',e,q,y⟩:=RN (fr:=fr) l p hs f j (by omega);let⟨x,C⟩:=Aq (show j<(Ai T i).length by omega);rw[Jz C];generalize DZ fr i T m j=r at *;obtain⟨G,H,z⟩:=r;simp only at B h e;simp only[FN];split;let⟨A,K⟩:=HB z (by omega);refine⟨by simp only[Bo,Ij];omega,λs hs=>?_,EH k' x<|C4 z,?_,Lg _ _ A k' q,by rw[Rt,y]⟩;rcases AT.1 hs with hs|hs;exact h s hs;rw[AJ.1 hs];exact RZ A;rw[Ia,GC e,ae O,e];rfl;exact⟨by simp only;omega,h,k',e,q,y⟩
def YY (l m:L1 Z):Prop:=∀s,s∈l↔s∈m
def zK {l m:E2} (h:YY l m) (x:Z):YY (l++[x])<|m++[x]:=λs=>by simp[h s]
def MM {fr:E2} {i:Nat}:∀(xs:E2) (j:Nat) (T:Tm) (l m:E2),YY l m->(xs.foldl (FN fr i) (j,T,l)).2.1=(xs.foldl (FN fr i) (j,T,m)).2.1/\YY (xs.foldl (FN fr i) (j,T,l)).2.2 (xs.foldl (FN fr i) (j,T,m)).2.2
 |[],j,T,l,m,h=>⟨rfl,h⟩
 |x::r,j,T,l,m,h=>by simp only[M3,FN];split;rw[Ra h];exact MM r _ _ _ _<|zK h _;exact MM r _ _ _ _ h
def Z7 (rec:Tm->Tm) (nm:Z) (fr:E2):∀(k i:Nat) (T:Tm) (l m:E2),YY l m->Z8 rec nm fr k i T l=Z8 rec nm fr k i T m
 |0,i,T,l,m,h=>rfl
 |k+1,i,T,l,m,h=>by let⟨e,f⟩:=MM (fr:=fr) (i:=i) (Ai T i) 0 T l m h;simp only[Z8,EB];rw[e];exact Z7 rec nm fr k (i+1) _ _ _ f
def zku (es:Array MapEntry) (seen:Array Nat):(leftOf es seen).size<=es.size:=by unfold leftOf;exact Array.size_filter_le
def zav {es:Array MapEntry} {seen:Array Nat} (h:(leftOf es seen).size=0) {j:Nat} {e:MapEntry} (l:es[j]?=some e):seen.contains e.born=true:=by have f:leftOf es seen = #[]:=dC h;unfold leftOf at f;rw[zfx]at f;have:=f e<|zfw l;simpa using this
def TP {t T U:Tm} (h:M5 t T) (k:M5 T U):M5 t U:=by obtain⟨p,n,y,ks,q,K,r,s,rfl,rfl,z,A,B⟩:=h;obtain⟨_,_,_,_,_,C,f,l,e,rfl,D,G,H⟩:=k;cases e;exact⟨p,n,y,ks,q,C,f,l,rfl,rfl,D.trans z,G.trans A,λm=>(H m).trans<|B m⟩
def E6:∀{l:G1} {i:Nat} {k:Tm},Bb l=true->l[i]?=some k->Ax k=true
 |[],i,k,_,h=>by simp at h
 |a::r,0,k,h,e=>by simp at e;subst e;simp only[Bb,Am]at h;exact h.1
 |a::r,i+1,k,h,e=>by simp only[Bb,Am]at h;exact E6 h.2 (by simpa using e)
def Gw:∀{l:G1} {i:Nat} {k:Tm},l[i]?=some k->DK k<=Ff l
 |[],i,k,h=>by simp at h
 |a::r,0,k,h=>by simp at h;subst h;simp only[Ff];omega
 |a::r,i+1,k,h=>by have:=Gw (l:=r) (i:=i) (k:=k) (by simpa using h);simp only[Ff];omega
def zn3 {op n:Int} {x:Z} {v u:Value} {e f:N4} {i:Nat} (h:i<e.length):po (er<|.mk true op n x v (Ml e) u f) i=some (.im true [] []):=by simp only[er,po,IX,Cx,Ml];rw[Bi h];rfl
def dq:=@contains_push
def vI (nm:Z) (by':Tm) (fr:E2) (zn:OK by') (tz:fr.length<=60) (hfs:∀s∈nm::fr,s.length<=8):∀(N:Nat) (t:Tm),DK t<=N->Ax t=true->DK t<=60 ->
  ed 109 [.agg<|rD nm by' 7,.Kp<|.agg<|dTmc t] [(7,some<|.map<|Dp fr)] (.ret (.Kp<|.agg<|dTmc<|Tq nm by' fr N t) [(7,some<|.map<|Dp fr)])
 |0,t,hc,hn,h60=>by have:=Rs t;omega
 |N+1,t,hc,hn,h60=>by
  have hw:=bE t hn (by omega);have hp:=(Kt t hn<|by omega).2;obtain⟨op,n,x,ks,A⟩:=t;obtain⟨K,M,R,p,r⟩:=by';refine Ae Dr Tryz.func109 O [2,3,4,1,5,20,8,9,10,11,12,13,14,15,6,16,17,18,19,21,22]<|Hy O<|Es O<|Hy O<|Af O (eG (.mk op n x ks A) [] [] hp) Az O<|Hy O<|CR Dr 1 O O O (Da _) (by simp[A1]) (z:=.bool false) O (λ_=>.bool _) (Hi _ nm)<|Pl O<|Aa O (λh=>?_) λh=>?_
  ·refine LE O<|Ao [5] [] [(1,5)] O (O2 (.mk op n x ks A) hw) ab O O<|Hy O<|HF (Kr:=[8,9,10,11,12,13,14,15,6,16,17,18,19,21,22]) 5 20 (λy:{ y:Value×N4×Value×N4 // (HK y.2.1=Ci ks/\HK y.2.2.2=A3 A)/\DY y.2.1/\DY y.2.2.2 }=>[y.1.1,y.1.2.2.1]) (λy=>XJ<|.mk true op n x y.1.1 y.1.2.1 y.1.2.2.1 y.1.2.2.2) O (λS I w U h=>SL h) λy=>?_;obtain⟨⟨v,js,u,qs⟩,⟨h5,h6⟩,hf1,hf2⟩:=y;refine Js 20 4 (dTmc<|.mk op n x ks A) O O (λS I J w U h1 V h3 cs hc=>uU h5 h6 h1 V h3 cs hc) O ?_;have l7:AR (EA (.mk op n x ks A) [] []) nm=false:=by simpa using h
   rw[show Tq nm (.mk K M R p r) fr (N+1) (.mk op n x ks A)=.mk op n x ks A by simp only[Tq,l7,En,aq]];exact Ah ⟨_,rfl,tV O,AD⟩
  have qq:AR (EA (.mk op n x ks A) [] []) nm=true:=by simpa using h
  clear h;refine LE O<|Aa O (λh=>?_) λh=>?_
  ·have e:op=4:=by simpa using h
   refine LE O<|Ao [5] [] [(1,5)] O (O2 (.mk K M R p r) zn) ab O O<|Hy O<|HF (Kr:=[8,9,10,11,12,13,14,15,6,16,17,18,19,21,22]) 5 20 (λy:{ y:Value×N4×Value×N4 // (HK y.2.1=Ci p/\HK y.2.2.2=A3 r)/\DY y.2.1/\DY y.2.2.2 }=>[y.1.1,y.1.2.2.1]) (λy=>XJ<|.mk true K M R y.1.1 y.1.2.1 y.1.2.2.1 y.1.2.2.2) O (λS I w U h=>SL h) λy=>?_;obtain⟨⟨v,js,u,qs⟩,⟨h5,h6⟩,hf1,hf2⟩:=y;refine Js 20 4 (dTmc<|.mk K M R p r) O O (λS I J w U h1 V h3 cs hc=>uU h5 h6 h1 V h3 cs hc) O ?_;rw[show Tq nm (.mk K M R p r) fr (N+1) (.mk op n x ks A)=.mk K M R p r by simp only[Tq];rw[ae qq,ae e]];exact Ah ⟨_,rfl,tV O,AD⟩
  have e:op≠4:=by simpa using h
  clear h;refine J6 7 O λbm es o hes lz=>LE O<|Ao [5] [] [(1,5)] O (O2 (.mk op n x ks A) hw) ab O O<|Hy O<|Es O<|Hy O<|Ey Dr O O O (by simp)<|Hy O<|lH Dr O<|Hy O ?_;have hlen:es.size=fr.length:=by simpa[Dp]using hes
  refine Ak (λ_:Array Nat×E2=>[(37,.iter 9),(2,.ref 2 0),(3,.ref 3 0),(4,.ref 4 0),(6,.ref 8 0)])
   (λy=>[(2,some<|.cells 160 7<|rD nm (.mk K M R p r) 7),(3,some<|.cells 49 5 [i7 op,i7 n,.Kp<|.str x,.hv 5 0,.hv 5 1]),(4,some<|.cells 49 5 [i7 0,i7 0,.Kp<|.str [],.NB,.NB]),(5,some<|.hp<|XQ true<|dTmc<|.mk op n x ks A),
    (20,some<|.map<|Dp y.2),(7,some<|.gw (Dp fr) bm es o),(8,some<|.cells 139 1 [.cf 20]),(9,some<|.ii bm o y.1 o)]) [10,11,12,13,14,15,6,16,17,18,19,21,22]
   (λy=>(leftOf es y.1).size) (λy=>y.2.length+(leftOf es y.1).size<=1+fr.length/\∀s,s∈y.2↔s=nm\/∃(j:Nat) (e:MapEntry),es[j]?=some e/\y.1.contains e.born=true/\fr[j]?=some s) (#[],[nm])
   ⟨by simp only[Ij];have:=zku es #[];omega,λs=>by simp⟩ BA JG O λy hi ih=>?_
  obtain⟨seen,m⟩:=y;obtain⟨nr,vf⟩:=hi;simp only at nr vf;refine LE O<|xL 7 O O (λx hx=>lz.1 x hx) (B6 _) (by decide) λz hz=>?_;rcases z with _|⟨j,e1⟩
  rotate_left
  ·obtain⟨sc,hz2⟩:=hz;obtain⟨s,hs⟩:∃s,fr[j]?=some s:=Aq (by rw[<- hlen];exact(Ht.1 sc).1);have rq:(Dp fr)[j]?=some (.str s,.bool true):=by simp[Dp,hs]
   have hD:Wh (Dp fr) (some (j,e1))=.Kp (.cg [.bool true,.str s,.bool true]):=by simp only[Wh,rq]
   rw[hD];refine LE O<|Ap O λh=>LE O<|lI 7 O O O O sc rq<|Hy O<|Ey Dr O O O (Da m) ?_;rw[MR];refine Hy O ?_;have xq:=left_shrinks es seen e1 hz2;have hal:=XF m s;refine Ad (ih (seen.push e1.born,HM m s) xq ⟨by simp only;omega,λy=>?_⟩) BA JG O;simp only[Wk,vf y];constructor
   ·rintro ((h1|⟨j',e',q1,q2,q3⟩)|h1)
    ·exact .inl h1
    ·exact .inr ⟨j',e',q1,by rw[dq,q2,Bool.true_or],q3⟩
    ·subst h1;exact .inr ⟨j,e1,sc,by rw[dq];simp,hs⟩
   ·rintro (h1|⟨j',e',q1,q2,q3⟩)
    ·exact .inl<|.inl h1
    ·rw[dq,EJ]at q2;rcases q2 with q2|q2
     ·exact .inl<|.inr ⟨j',e',q1,q2,q3⟩
     ·right;have hb:e'.born=e1.born:=by simpa using q2
      have hjj:j'=j:=by
       have xe:=lz.2.1;have g1:(es.toList.map (·.born))[j']?=some e'.born:=by simp[q1]
       have g2:(es.toList.map (·.born))[j]?=some e1.born:=by simp[sc]
       rw[hb]at g1;exact(qL (A9.1 g1).1 xe).1 (g1.trans g2.symm)
      subst hjj;rw[q3]at hs;cases hs;rfl
  have hz:(leftOf es seen).size=0:=hz;have hm1:∀s,s∈m↔s=nm\/s∈fr:=λs=>by
   rw[vf s];constructor
   ·rintro (h|⟨j,e,_,_,h⟩)
    ·exact .inl h
    ·exact .inr<|AE h
   ·rintro (h|h)
    ·exact .inl h
    ·let⟨j,hj⟩:=H3 h;obtain⟨e,he⟩:∃e,es[j]?=some e:=⟨_,Si (by rw[hlen];exact(A9.1 hj).1)⟩
     exact .inr ⟨j,e,he,zav hz he,hj⟩
  have hml:m.length<=61:=by omega
  clear ih nr vf;refine LE O<|Ag O λh=>Aw O<|Ip 7 O<|HF (Kr:=[11,12,13,14,15,6,16,17,18,19,21,22]) 5 10 (λy:{ y:Value×N4×Value×N4 // (HK y.2.1=Ci ks/\HK y.2.2.2=A3 A)/\DY y.2.1/\DY y.2.2.2 }=>[y.1.1,y.1.2.2.1]) (λy=>XJ<|.mk true op n x y.1.1 y.1.2.1 y.1.2.2.1 y.1.2.2.2) O (λS I w U h=>SL h) λy=>?_;obtain⟨⟨v,js,u,qs⟩,⟨h5,h6⟩,hf1,hf2⟩:=y;simp only at h5 h6 hf1 hf2;refine eK (Kr:=[12,13,14,15,6,16,17,18,19,21,22]) 3 11 O O λb=>?_;have hva:vA (.mk true op n x v (Ml js) u qs)=dTmc (.mk op n x ks A):=by simp only[vA,dTmc,fN,h5,h6]
  have hjl:js.length=ks.length:=by have:=af List.length h5;simpa using this
  refine xW (Kr:=[13,14,15,6,16,17,18,19,21,22]) 10 11 12 (λ_:Unit=>JW b<|.mk true op n x v js u qs) O O (by decide) (λS us I w b1 b2 h1 V hd=>⟨(),b::b1,λk hk=>?_,?_⟩) λ_=>?_
  ·obtain⟨e,_⟩:=V;rcases Cu.1 hk with rfl|hk
   ·right;simp[e]
   ·exact .inl hk
  ·obtain⟨e1,e2,e3⟩:=h1;obtain⟨e,bl,z1,z2,z3⟩:=V;have ov:bl.toList=cA (.mk true op n x v js u qs):=by
    obtain⟨bl⟩:=bl;have hl:=z2.1
    match bl,hl with
    |[c0,c1,c2,c3,c4],_=>
     have e0:=(z2.2 0 _ _ O O).Ks.da;have e1:=(z2.2 1 _ _ O O).Ks.da;have e2:=(z2.2 2 _ _ O O).Ks.n0;have e3:=(z2.2 3 _ _ O O).hM;have e4:=(z2.2 4 _ _ O O).hM;rw[e0,e1,e2,e3,e4];rfl
   refine⟨by rw[e1],GI.2 ⟨λhb=>hd b hb<|by simp[e],e2⟩,rfl,⟨bl,z1,?_⟩,⟨bl,_,_,z1,λj c hj=>?_⟩,e3⟩
   ·have:=af List.length ov;simpa[cA]using this
   ·rw[<- ov]at hj;simpa using hj
  obtain⟨H,B⟩:∃H,H=er (.mk true op n x v (Ml js) u qs):=⟨_,rfl⟩
  refine tK (Kr:=[14,15,6,16,17,18,19,21,22]) 12 13 (λ_:Unit=>DT b H<|.mk op n x ks A) O (λS I w U h=>by
   let⟨b1,q1,q2⟩:=zj4 h;exact⟨(),b1,q1,λJ hJ hk=>⟨_,B.symm,hva,q2 J hJ hk⟩⟩) λ_=>?_
  have hskK:∀i,i<ks.length->po H i=some (.im true [] []):=λi hi=>by rw[B];exact zn3 (by omega)
  have B:H=.mk true op n [] v (Re<|Ml js) u (Re qs):=B;have hfQ:lJ H:=by rw[B];exact(Hb qs).2 hf2
  have hkl:ks.length<=1000000:=hw.1;refine DS 13 (λ_:{ _y:Unit // K5 H (.mk op n x ks A) }=>DT b H<|.mk op n x ks A) O (λS I w U h=>⟨⟨(),zlk hfQ hw.2.2.1 h⟩,h⟩) λz=>?_;obtain⟨_,sn⟩:=z;have hv:∃ad c,v=.slice ad ks.length c/\(0<ks.length->∃E,ad=some ⟨E,0,none⟩):=by
   obtain⟨a,o',n',x',ad,c,mu,u',qs',h1,V,h3,_,_,h4,_⟩:=sn;let⟨tks,tps,h5,h6,_⟩:=Qv h3 V;cases h5;rw[B,h3]at h1;simp only[er,An.mk.injEq]at h1;exact⟨ad,c,by rw[<- h1.2.2.2.2.1,h6],by rw[<- h6];exact h4⟩
  obtain⟨ad,c,rfl,hadr⟩:=hv;refine LE O<|C6 Dr 13 [i7 op,i7 n,.Kp<|.str x,.eR<|.slice ad ks.length c,.eR u] O O (λ_ S I w U h=>Tu B O h) O O (by simp)<|Hy O<|Ao [] [(13,2),(20,1)] [] O (bN b H (.mk op n x ks A) m op n x [] (.slice ad ks.length c) (Re<|Ml js) u (Re qs) ks A B O hp) oO O O<|Hy O<|C6 Dr 13 [.eR<|.slice ad ks.length c] O O (λ_ S I w U h=>(LM (by rw[B]at h;exact h)).1) O O (by simp)<|Hy O ?_;have F:=hn;simp only[Ax,Am]at F;have hK6:=Wg F.1.1;have hocc:=cU (.mk op n x ks A) hn;have hbnd:=zii (op:=op) (n:=n) (x:=x) (ks:=ks) F.1.2 ks.length 0;have hstl:=Th (.mk op n x ks A) m
  have so:YY (Ef (.mk op n x ks A) m)<|nm::fr++Bx (.mk op n x ks A):=λs=>by
   rw[TH,hm1 s,AT,Cu]
  have hsh1:∀s∈Ef (.mk op n x ks A) m,s.length<=8:=λs hs=>by
   rcases AT.1 ((so s).1 hs)with h|h
   ·exact hfs s h
   ·exact RZ<|Ti _ hn s h
  have tp:Tq nm (.mk K M R p r) fr (N+1) (.mk op n x ks A)=Z8 (Tq nm (.mk K M R p r) fr N) nm fr ks.length 0 (.mk op n x ks A) (Ef (.mk op n x ks A) m):=by
   rw[Tq,ae qq,ac e];exact(Z7 _ nm fr ks.length 0 _ _ _ so).symm
  rw[tp];generalize hm1':Ef (.mk op n x ks A) m=m1 at *;generalize hrp:Z8 (Tq nm (.mk K M R p r) fr N) nm fr ks.length 0 (.mk op n x ks A) m1=res;refine Ak (λy:Nat×Tm×E2=>[(50,i7 y.1),(49,i7 ks.length),(2,.ref 2 0),(3,.eR<|.pointer<|some ⟨b,0,none⟩),(4,.ref 4 0),(6,.ref 8 0)])
   (λy=>[(2,some<|.cells 160 7<|rD nm (.mk K M R p r) 7),(4,some<|.cells 49 5 [i7 0,i7 0,.Kp<|.str [],.NB,.NB]),(7,some<|.map<|Dp fr),(13,some<|.hp<|DT b H y.2.1),(20,some<|.map<|Dp y.2.2),(8,some<|.cells 139 1 [.cf 20])]) [14,15,6,16,17,18,19,21,22]
   (λy=>ks.length-y.1) (λy=>y.1<=ks.length/\K5 H y.2.1/\M5 (.mk op n x ks A) y.2.1/\(∀l k,y.1<=l->ks[l]?=some k->FG y.2.1 l=some k)/\y.2.2.length+G8 (.mk op n x ks A) (ks.length-y.1) y.1<=699/\(∀s∈y.2.2,s.length<=8) /\
    Z8 (Tq nm (.mk K M R p r) fr N) nm fr (ks.length-y.1) y.1 y.2.1 y.2.2=res) (0,.mk op n x ks A,m1)
   ⟨AK _,sn,Mf _,λl k _ h=>h,by simp only[Nat.sub_zero];omega,hsh1,hrp⟩ GW GW O λy hi ih=>?_
  obtain⟨i,T,tm⟩:=y;obtain⟨d1,d2,d3,d4,d5,d6,d7⟩:=hi;simp only at d1 d2 d3 d4 d5 d6 d7;refine LE O<|Aa O (λh=>?_) λh=>?_
  ·simp at h;obtain⟨wc,W⟩:∃wc,ks[i]?=some wc:=Aq h;have hkT:=d4 i wc (B6 _) W;obtain⟨p1,p2,p3,p4,p5,C,G,f,hT1,hT,mf,tu,nc⟩:=d3;cases hT1;subst hT;refine LE O ?_;have hbi:(Ai (.mk op n C G f) i).length<=8:=by rw[nc];exact uB F.1.2 i
   refine Ao [15] [(13,1)] [(4,15)] O (rF b H op n C G f i (by omega) (λho te=>by
    simp only[Ai,ae te]at hbi;cases hg:f[((i:Int)-1).toNat]? with
    |none=>
     exfalso;have:=P4 F.1.1 te h;rw[Ni]at hg;omega
    |some q=>
     refine⟨q,rfl,?_⟩;simp only[hg,ho,En,aq]at hbi;omega)) Az O O ?_
   refine Hy O ?_;obtain⟨E,hrb⟩:∃E,E=DZ fr i (.mk op n C G f) tm (Ai (.mk op n C G f) i).length:=⟨_,rfl⟩
   have g:=hskK i h;have uu:Ax wc=true:=E6 F.2 W;have hbS:G8 (.mk op n x ks A) (ks.length-i) i=(Ai (.mk op n C G f) i).length+G8 (.mk op n x ks A) (ks.length-(i+1)) (i+1):=by
    rw[show ks.length-i=(ks.length-(i+1))+1 by omega,nc];rfl
   have uv:tm.length+(Ai (.mk op n C G f) i).length<=699:=by omega
   let⟨_,b2,b3,b4,_,b6,P,b7,b8,_⟩:=VJ (i:=i) d2 g hkT fr tm _<|B6 _;let⟨c1,c2,kid3,c3,c4,c5⟩:=RN (fr:=fr) hkT uu d6 uv _<|B6 _;rw[<- hrb]at b2 b3 b4 b6 b7 c1 c2 c3;rw[b7]at c3;cases c3;let⟨rbd,uw⟩:=hadr (by omega);subst uw;by_cases hB:Bv op i=true\/(Bv op i=false/\Ca op i=true)
   case' pos=>
    let⟨fB,ty,vB,fcB,cB,q1,q2,q3,q4,q5⟩:=zl9 (b:=b) (i:=i) d2 rfl (by omega) (by
      rcases hB with hB|⟨hB1,hB2⟩
      ·exact .inl hB
      ·refine .inr ⟨hB1,hB2,?_⟩;have:=P4 F.1.1 hB2 h;omega)
    refine Ao [6] [(13,1)] [(6,6)] O q4 Az O O<|Hy O<|E3 (y:=3) (j:=4) (j2:=5) (lp:=mW ty vB) (l5:=mW ty vB) (jm:=pq b H nm (.mk K M R p r) fr i (Ai (.mk op n C G f) i) (0,.mk op n C G f,tm)) (io:=pq b H nm (.mk K M R p r) fr i (Ai (.mk op n C G f) i) E) (b0:=none) (E:=w9 b ks.length i<|Ai (.mk op n C G f) i) (Kr:=[6,16,17,18,19,21,22]) (d:=.cg []) O q1 q2 q3 (show Ze∉[7] by decide) JG
     (Cz VF) (λL h1 V h3 h4 h5 h6 h7=>?_) ?_ ?_ ?_ ?_ ?_
    ·have:=q5 (λj=>Cl L (pq b H nm (.mk K M R p r) fr i (Ai (.mk op n C G f) i)<|DZ fr i (.mk op n C G f) tm j) none) (λj=>⟨(DZ fr i (.mk op n C G f) tm j).2.1,λI w bb U hP=>zo8 (i:=13) hP O⟩) λj d hd=>by
       have hj:j<(Ai (.mk op n C G f) i).length:=by
        have:=(A9.1 hd).1
        rwa [CD,tY d2]at this
       rw[BU];exact pB b H nm (.mk K M R p r) fr (Ai (.mk op n C G f) i) i ks.length (.mk op n C G f) wc tm d2 B g hkT (Kt wc uu (by have:=Gw W;simp only[DK]at h60;omega)).2 h hkl (λj hj s hs=>by
        have:=(RN (fr:=fr) hkT uu d6 uv j hj).2.1 s hs;unfold maxLen;omega) uv j hj d hd h1 V h3 h4 h5 h6 h7
     rw[BU,tY d2,<- hrb]at this;exact this
    ·simp[mW,pq,CB]
    ·simp[mW,CB]
    ·intro i hi;have e:FO (EX (DW<|AZ [(13,1)]++[(6,6)]) []++EX (DW<|AZ [(13,1)]++[(6,6)]) [.ref 6 0])=[6]:=rfl;rw[e]at hi;simpa[mW,CB,DB,KU,FO,GH]using hi
    ·refine⟨by decide,?_⟩;simp[pq,w9,rD,OS,GH,DB,KU,FO,CB]
   case' neg=>
    have hN:Bv op i=false/\Ca op i=false:=by
     cases e1:Bv op i<;>cases e2:Ca op i<;>simp[e1,e2]at hB ⊢
    have yn:(Ai (.mk op n C G f) i).length=0:=by simp[Ai,hN.1,hN.2]
    have uw:E=(0,.mk op n C G f,tm):=by rw[hrb,yn];rfl
    refine Ao [] [(13,1)] [] O (nA (DT b H<|.mk op n C G f) b op i (VH<|Ov d2) hN.1 hN.2) Az O O<|Hy O<|UT 56 O<|E3 (y:=3) (j:=4) (j2:=5) (lp:=[]) (l5:=[]) (jm:=pq b H nm (.mk K M R p r) fr i (Ai (.mk op n C G f) i) (0,.mk op n C G f,tm)) (io:=pq b H nm (.mk K M R p r) fr i (Ai (.mk op n C G f) i) (0,.mk op n C G f,tm)) (b0:=none) (E:=w9 b ks.length i<|Ai (.mk op n C G f) i) (Kr:=[6,16,17,18,19,21,22]) (d:=.cg []) O Tryz.func233 (by decide +kernel) O (show Ze∉[7] by decide) JG
     (Cz JG) (λL h1 V h3 h4 h5 h6 h7=>SR) ?_ ?_ ?_ ?_ ?_
    ·simp[CB]
    ·simp[CB]
    ·intro i hi;have e:FO (([]:R1)++[])=[]:=rfl;rw[e]at hi;simp[DB]at hi
    ·refine⟨by decide,?_⟩;simp[pq,w9,rD,OS,GH,DB,KU,FO,CB]
    rw[<- uw]
   all_goals
    refine LE O<|Ao [] [(15,1)] [] O (OO (Ai (.mk op n C G f) i) nm _) Az O O<|Hy O ?_;have sq:=TP ⟨op,n,x,ks,A,C,G,f,rfl,rfl,mf,tu,nc⟩ b4;have hbs9:E.2.2.length+G8 (.mk op n x ks A) (ks.length-(i+1)) (i+1)<=699:=by omega
    have Q:∀l k,i+1<=l->ks[l]?=some k->FG E.2.1 l=some k:=λl k hl hk=>by
     rw[b6 l<|by omega];exact d4 l k (by omega) hk
    rw[show ks.length-i=(ks.length-(i+1))+1 by omega,Z8,<- I8,<- hrb,b7]at d7;refine Aa O (λV=>?_) λV=>?_
    ·have l7:¬AR (Ai (.mk op n C G f) i) nm=true:=by simpa using V
     rw[ac l7]at d7;simp only[ID]at d7;have IH:=vI nm (.mk K M R p r) fr zn tz hfs N P (by rw[b8];have:=Gw W;simp only[DK]at hc;omega) c4 (by rw[b8];have:=Gw W;simp only[DK]at h60;omega);let⟨ro,rn,rx,rks,rps,uj⟩:=PR<|Tq nm (.mk K M R p r) fr N P;rw[uj]at IH d7;have rq:∀S I w U,(DT b H E.2.1).P S I w U->DU I w rbd (0+((i:Int)).toNat*5) ((dTmc P).map .Kp):=λS I w U h=>by
      have:=Qq (Ov b2) B g b7 h;simpa using this
     have wd:=MV (b:=b) (Ov b2) B g b7<|.mk ro rn rx rks rps;rw[show i*5=0+((i:Int)).toNat*5 by simp]at wd;have hraw:∀S I w U,(DT b H E.2.1).P S I w U->DU I w b 3 [.eR<|.slice (some ⟨rbd,0,none⟩) ks.length c]:=λS I w U h=>(LM (by rw[B]at h;exact h)).1;obtain⟨ko,kn2,kx,kks,kps,rfl⟩:=PR P
     refine LE O<|C6 Dr 13 [.eR<|.slice (some ⟨rbd,0,none⟩) ks.length c] O O (λ_=>hraw) O O (by simp)<|Hy O<|C6 Dr 13 [.eR<|.slice (some ⟨rbd,0,none⟩) ks.length c] O O (λ_=>hraw) O O (by simp)<|Hy O<|Eb Dr O O (λ_=>⟨by simp,by simpa using h⟩) (by simp)<|Hy O<|C6 Dr 13 [i7 ko,i7 kn2,.Kp<|.str kx,.Kp<|.sl<|Ci kks,.Kp<|.sl<|A3 kps] O O (λ_=>rq) O O (by simp)<|Hy O<|Ao [] [(7,7)] [] O IH Az O O<|Hy O<|Eb Dr O O (λ_=>⟨by simp,by simpa using h⟩) (by simp)<|WX Dr 13 (DT b H<|CH E.2.1 i<|.mk ro rn rx rks rps) O O wd<|xg [] O (by simp;rfl)<|Ad (ih (i+1,CH E.2.1 i<|.mk ro rn rx rks rps,E.2.2) (by simp only;omega) ⟨by simp only;omega,SE b2 g b7 _,UO sq i _,λl k hl hk=>?_,hbs9,c2,d7⟩) ⟨Bc,BA⟩ GW O
     simp only at hl ⊢;rw[GC b7,ac<|by omega];exact Q l k hl hk
    ·have hyes2:AR (Ai (.mk op n C G f) i) nm=true:=by simpa using V
     rw[ae hyes2]at d7;exact LE O<|Ad (ih (i+1,E.2.1,E.2.2) (by simp only;omega) ⟨by simp only;omega,b2,sq,Q,hbs9,c2,d7⟩) ⟨Bc,BA⟩ GW O
  ·simp at h;have hi:i=ks.length:=by omega
   subst hi;simp only[Ma,Z8]at d7;subst d7;obtain⟨p1,p2,p3,p4,p5,C,G,f,hT1,hT,_⟩:=d3;cases hT1;subst hT;clear ih;exact Aw O<|LE O<|C6 Dr 13 [i7 op,i7 n,.Kp<|.str C,.eR<|.slice ad ks.length c,.eR u] O O (λ_ S I w U h=>Tu B O h) O O (by simp)<|Hy O<|Js 13 4 (dTmc<|.mk op n C G f) O O (λS I J w U h1 V h3 cs hc=>zR B O h1 V h3 cs hc) O<|Ah ⟨_,rfl,tV O,AD⟩
def VZ {l:E2} {j:Nat} {f:Z} (h:l.Nodup) (e:f∉l):(l.set j f).Nodup:=by induction l generalizing j with|nil=>simp|cons a r p=>{let⟨q,m⟩:=GI.1 h;cases j with|zero=>exact GI.2 ⟨λhm=>e<|by simp[hm],m⟩|succ j=>{refine GI.2 ⟨λhm=>?_,p m λhm=>e<|by simp[hm]⟩;rcases Wu hm with hm|hm;exact q hm;exact e<|by simp[hm]}}
def zah {p:Y} {j:Nat} {f:Z} (h:CM p=true) (l:BW f=true) (m:f∉BM p):CM (EM p j f)=true:=by simp only[CM,Am,am]at h ⊢;let⟨a,b⟩:=gJ p j f l h.1.2;refine⟨⟨by rw[b];exact h.1.1,a⟩,?_⟩;rw[<- Ld _ a,NH];have e:(DH<|EM p j f).map Fk=(BM p).set j f:=Py p j f;rw[e];refine VZ ?_ m;have:=h.2;rw[<- Ld _ h.1.2,NH]at this;exact this
def C5:Tm->Nat
 |.mk _ _ _ ks _=>ks.length
def iS {T:Tm} {i j:Nat} {f:Z} (h:Ax T=true) (r:BW f=true) (e:f∉Ai T i):Ax (E5 T i j f)=true:=by obtain⟨s,n,x,ks,z⟩:=T;simp only[Ax,Am]at h;simp only[Ai]at e;simp only[E5];by_cases l:Bv s i=true;rw[ae l];simp only[Ax,Am];exact⟨⟨iP (.inl l) h.1.1 r,h.1.2⟩,h.2⟩;rw[ac l];by_cases m:Ca s i=true;rw[ae m];rw[ac l,ae m]at e;cases y:z[((i:Int)-1).toNat]? with|none=>simp only[Ax,Am];exact h|some p=>{simp only[y]at e;simp only[Ax,Am,IV];refine⟨⟨h.1.1,?_⟩,h.2⟩;rw[Du];intro q hq;rcases Wu hq with hq|hq;exact Du.1 h.1.2 q hq;rw[hq];exact zah (Du.1 h.1.2 p<|AE y) r e};rw[ac m];simp only[Ax,Am];exact h
def Wc {T k:Tm} {i:Nat} (h:Ax T=true) (e:Ax k=true):Ax (CH T i k)=true:=by obtain⟨f,n,x,ks,l⟩:=T;simp only[CH,Ax,Am,IV]at h ⊢;exact⟨h.1,Q9 h.2 e⟩
def J0 {T k:Tm} {i:Nat} (h:Ax T=true) (e:FG T i=some k):Ax k=true:=by obtain⟨f,n,x,ks,l⟩:=T;simp only[Ax,Am]at h;exact E6 h.2 e
def mX {T:Tm} {i l j:Nat} {f:Z} (h:Ax T=true) (z:i<C5 T) (A:l<C5 T) (r:l≠i):Ai (E5 T i j f) l=Ai T l:=by obtain⟨m,n,x,ks,B⟩:=T;simp only[Ax,Am]at h;simp only[C5]at z A;simp only[E5];by_cases s:Bv m i=true;have e:¬Bv m l=true:=λe=>r<|zkb h.1.1 A z e s;rw[ae s];simp only[Ai,ac e];rw[ac s];by_cases y:Ca m i=true;rw[ae y];cases C:B[((i:Int)-1).toNat]? with|none=>rfl|some p=>{simp only[Ai];by_cases e:Bv m l=true;rw[ae e,ae e];rw[ac e,ac e];by_cases q:Ca m l=true;rw[ae q,ae q];have:((i:Int)-1).toNat≠((l:Int)-1).toNat:=by{simp only[Ca,Am,am]at y q;omega};rw[HQ this];rw[ac q,ac q]};rw[ac y]
def zgk (T:Tm) (i:Int) (j:Nat) (f:Z):C5 (E5 T i j f)=C5 T:=by obtain⟨e,n,x,ks,l⟩:=T;let⟨p,m,h,_⟩:=VA e n x ks l i j f;rw[h];rfl
def QQ (T:Tm) (i:Nat) (k:Tm):C5 (CH T i k)=C5 T:=by obtain⟨e,n,x,ks,f⟩:=T;simp[CH,C5]
def RG {T k:Tm} {i:Nat} (h:FG T i=some k):i<C5 T:=by obtain⟨e,n,x,ks,f⟩:=T;exact(A9.1 h).1
def Qf {T:Tm} {i:Nat} (h:i<C5 T):∃k,FG T i=some k:=by obtain⟨e,n,x,ks,f⟩:=T;exact Aq h
def Gp {fr:E2} {i:Nat} {T:Tm} {m:E2} (b:Ax T=true) (n:i<C5 T) (e:∀s∈Ai T i,s∈m) (N:m.length+(Ai T i).length<=699):∀j,j<=(Ai T i).length->(DZ fr i T m j).1=j/\Ax (DZ fr i T m j).2.1=true/\(∀s∈Ai (DZ fr i T m j).2.1 i,s∈(DZ fr i T m j).2.2)/\(∀l,l<C5 T->l≠i->Ai (DZ fr i T m j).2.1 l=Ai T l)/\(∀s∈m,s∈(DZ fr i T m j).2.2)/\(DZ fr i T m j).2.2.length<=m.length+j/\C5 (DZ fr i T m j).2.1=C5 T/\(Ai (DZ fr i T m j).2.1 i).length=(Ai T i).length/\(∀l,j<=l->(Ai (DZ fr i T m j).2.1 i)[l]?=(Ai T i)[l]?)/\(∀l,l≠i->FG (DZ fr i T m j).2.1 l=FG T l)/\M5 T (DZ fr i T m j).2.1/\(∀k,FG T i=some k->∃k',FG (DZ fr i T m j).2.1 i=some k'/\DK k'=DK k)
 |0,_=>⟨rfl,b,e,λ_ _ _=>rfl,λ_ h=>h,by simp[DZ],rfl,rfl,λ_ _=>rfl,λ_ _=>rfl,Mf T,λk f=>⟨k,f,rfl⟩⟩
 |j+1,I=>by let⟨c,H,K,R,S,o,U,L,V,p,q,y⟩:=Gp (fr:=fr) b n e N j (by omega);let⟨x,t⟩:=Aq (show j<(Ai T i).length by omega);rw[Jz t];generalize DZ fr i T m j=r at *;obtain⟨u,A,M⟩:=r;simp only at c H K R S o U L V p q y;subst c;simp only[FN];by_cases B:AR fr x=true;rw[ae B];let⟨d,v⟩:=HB M (by omega);let⟨k,f⟩:=Qf (show i<C5 A by omega);have W:=J0 H f;have C:Ax (CH A i<|EH ((FG A i).getD Y1) x<|C4 M)=true:=Wc H (by rw[f];exact Lg _ _ d _ W);have D:u<(Ai (CH A i<|EH ((FG A i).getD Y1) x<|C4 M) i).length:=by{rw[CA,L];omega};refine⟨rfl,iS C d (by rw[CA];exact λw=>v<|K _ w),λs hs=>?_,λl z G=>?_,λs hs=>Im _<|S s hs,by simp only[Bo,Ij];omega,?_,?_,λl z=>?_,λl z=>?_,jR (UO q i _) _ _ _,λE a=>?_⟩;rw[L7 _ D,CA]at hs;rcases Wu hs with hs|hs;exact Im _<|K s hs;exact Il _ (by rw[hs];simp);rw[mX C (by rw[QQ];omega) (by rw[QQ];omega) G,CA,R l z G];rw[zgk,QQ,U];rw[Pi,CA,L];rw[L7 _ D,HQ<|by omega,CA,V l<|by omega];rw[Ia,GC f,ac z,p l z];let⟨J,g,F⟩:=y E a;rw[f]at g;cases g;exact⟨EH k x<|C4 M,by rw[Ia,GC f,ae O,f];rfl,by rw[Rt,F]⟩;rw[ac B];exact⟨rfl,H,K,R,S,by simp only;omega,U,L,λl z=>V l<|by omega,p,q,y⟩
def Sj {rec:Tm->Tm} {nm:Z} {fr:E2} {C:Nat} (e:∀k,Ax k=true->DK k<=C->Ax (rec k)=true):∀(k i:Nat) (T:Tm) (m:E2),Ax T=true->i+k=C5 T->(∀l,l<C5 T->i<=l->∀s∈Ai T l,s∈m)->m.length+G8 T k i<=699->(∀l k,i<=l->FG T l=some k->DK k<=C)->Ax (Z8 rec nm fr k i T m)=true
 |0,i,T,m,H,_,_,_,_=>H
 |k+1,i,T,m,H,V,f,K,L=>by simp only[G8]at K;let⟨_,B,c,M,N,d,g,j,_,h,q,y⟩:=Gp (fr:=fr) H (by omega) (f i (by omega)<|B6 _) (by omega) _<|B6 _;rw[I8]at B c M N d g j h q y;simp only[Z8];generalize EB fr i T m=r at *;obtain⟨w,R,W⟩:=r;simp only at *;let⟨a,z⟩:=Qf (show i<C5 T by omega);let⟨n,p,o⟩:=y a z;have t:=L i a (B6 _) z;have b:∀U,(∀l:Int,Ai U l=Ai R l)->G8 U k (i+1)=G8 T k (i+1):=λU u=>Ir (λl=>by{obtain⟨_,_,_,_,_,_,_,_,_,_,_,_,v⟩:=q;rw[u];exact v l}) k<|i+1;split;exact Sj e k (i+1) R W B (by omega) (λl D S s A=>by rw[M l (by omega)<|by omega]at A;exact N s<|f l (by omega) (by omega) s A) (by rw[b _ λ_=>rfl];omega) λl k D G=>L l k (by omega) (by rw[<- h l (by omega)];exact G);refine Sj e k (i+1) _ W (Wc B (by rw[p];exact e n (J0 B p)<|by omega)) (by rw[QQ];omega) (λl D S s A=>?_) (by rw[b _ λl=>CA R i _ l];omega) λl k D G=>?_;rw[QQ]at D;rw[CA,M l (by omega)<|by omega]at A;exact N s<|f l (by omega) (by omega) s A;rw[GC p,ac<|by omega,h l<|by omega]at G;exact L l k (by omega) G
def FC {T:Tm}:∀(i:Nat) (ks:G1) (l:Nat),l<ks.length->∀s∈Ai T ((i+l:Nat):Int),s∈Dj T i ks
 |i,[],l,e,s,f=>by simp at e
 |i,k::r,0,e,s,f=>by simp only[Dj,AT];exact .inl (.inl f)
 |i,k::r,l+1,e,s,f=>by simp only[Dj,AT];refine .inr<|FC (i+1) r l (by simpa using e) s ?_;rw[show i+1+l=i+(l+1) by omega];exact f
mutual
def V1:∀t:Tm,(Bx t).length=pV t
 |.mk e n x ks f=>by simp only[Bx,pV,Bo,Tj];split<;>rfl
def Tj (T:Tm):∀(i:Nat) (l:G1),(Dj T i l).length=OR T i l
 |_,[]=>rfl
 |i,k::r=>by simp only[Dj,OR,Bo,V1 k,Tj T (i+1) r]
end
def Vv {op n:Int} {x:Z} {ks:G1} {ps:E1} (f:Ax (.mk op n x ks ps)=true) (m:DK (.mk op n x ks ps)<=60) {nm:Z} {fr:E2} (p:fr.length<=60):(nm::fr++Bx (.mk op n x ks ps)).length+G8 (.mk op n x ks ps) ks.length 0<=699:=by have e:=f;simp only[Ax,Am]at e;have q:=Wg e.1.1;have h:=cU (.mk op n x ks ps) f;have l:=zii (op:=op) (n:=n) (x:=x) (ks:=ks) e.1.2 ks.length 0;simp only[Bo,C1,V1];omega
def Za {nm:Z} {f:Tm} {fr:E2} (r:Ax f=true) (h:fr.length<=60):∀(N:Nat) (t:Tm),DK t<=60->Ax t=true->Ax (Tq nm f fr N t)=true
 |0,t,_,e=>e
 |N+1,.mk B n x ks C,m,e=>by rw[Tq];split;split;exact r;have p:=e;simp only[Ax,Am]at p;refine Sj (C:=60) (λk q y=>Za r h N k y q) ks.length 0 _ _ e (by simp[C5]) (λl z _ s A=>?_) (Vv e m h) λl k _ q=>?_;refine Il _ ?_;simp only[Bx,AT];exact .inr<|FC 0 ks l z s (by simpa using A);have:=Gw (l:=ks) (i:=l) (k:=k) q;simp only[DK]at m;omega;exact e
def JH {T:Tm} {a b:Z}:∀{l:G1} {i j:Nat} {c:Tm},l[j]?=some c->(Ev T i l a b)[j]?=some (if AR (Ai T ((i+j:Nat):Int)) a=true then c else EH c a b)
 |[],i,j,c,h=>by simp at h
 |x::r,i,0,c,h=>by simp at h;subst h;simp[Ev]
 |x::r,i,j+1,c,h=>by have:=JH (T:=T) (a:=a) (b:=b) (l:=r) (i:=i+1) (j:=j) (c:=c) (by simpa using h);simp only[Ev,Nm];rw[this,show i+1+j=i+(j+1) by omega]
mutual
def Sr:∀(t:Tm) (y:Z),Ax t=true->JM t y->y∈Bx t
 |.mk l n x ks m,y,h,f=>by simp only[Ax,Am]at h;simp only[JM]at f;simp only[Bx,AT];by_cases e:l=4;rw[ae e]at f;left;rw[ae e,f];simp;rw[ac e]at f;right;exact WN (.mk l n x ks m) 0 ks y h.2 f
def WN (T:Tm):∀(i:Nat) (l:G1) (y:Z),Bb l=true->OH T i l y->y∈Dj T i l
 |_,[],_,_,h=>h.elim
 |i,k::r,y,h,hy=>by simp only[Bb,Am]at h;simp only[Dj,AT];rcases hy with⟨hy,_⟩|hy;exact .inl<|.inr<|Sr k y h.1 hy;exact .inr<|WN T (i+1) r y h.2 hy
end
mutual
def RM (a b:Z):∀(t:Tm) (s:Z),s∈Bx (EH t a b)->s∈Bx t\/s=b
 |.mk f n x ks m,s,h=>by rw[EH]at h;simp only[Bx,AT]at h ⊢;rcases h with h|h;by_cases e:f=4;rw[ae e]at h ⊢;unfold Lc at h;split at h;exact .inr<|AJ.1 h;exact .inl<|.inl h;rw[ac e]at h;cases h;rcases VI a b f n (Lc f x a b) [] m _ 0 ks s h with h|h;by_cases l:Lc f x a b=x;rw[l]at h;exact .inl<|.inr<|(KK (T:=.mk f n x [] m) (U:=.mk f n x ks m) (λ_=>rfl) 0 ks s).1 h;have p:f=4:=by{unfold Lc at l;split at l;rename_i q;simp only[Am,an]at q;exact q.1;exact absurd rfl l};refine .inl<|.inr<|(KK (λi=>?_) 0 ks s).1 h;simp[Ai,p,Bv,Ca];exact .inr h
def VI (a b:Z) (op n:Int) (x:Z) (k0:G1) (ps:E1) (e:G1):∀(i:Nat) (l:G1) (s:Z),s∈Dj (.mk op n x e ps) i (Ev (.mk op n x k0 ps) i l a b)->s∈Dj (.mk op n x k0 ps) i l\/s=b
 |_,[],_,h=>by cases h
 |i,k::r,s,h=>by simp only[Ev,Dj,AT]at h ⊢;rcases h with(h|h)|h;exact .inl<|.inl<|.inl h;split at h;exact .inl<|.inl<|.inr h;rcases RM a b k s h with h|h;exact .inl<|.inl<|.inr h;exact .inr h;rcases VI a b op n x k0 ps e (i+1) r s h with h|h;exact .inl<|.inr h;exact .inr h
def KK {T U:Tm} (e:∀i:Int,Ai T i=Ai U i):∀(i:Nat) (l:G1) (s:Z),s∈Dj T i l↔s∈Dj U i l
 |_,[],_=>cm
 |i,k::r,s=>by simp only[Dj,AT,e,KK e (i+1) r s]
end
def I5 {T:Tm}:∀(i:Nat) (l:G1) (k:Nat) (c:Tm),l[k]?=some c->∀s∈Bx c,s∈Dj T i l
 |_,[],_,_,h,_,_=>by simp at h
 |i,x::r,0,c,h,s,e=>by simp at h;subst h;simp only[Dj,AT];exact .inl (.inr e)
 |i,x::r,k+1,c,h,s,e=>by simp only[Dj,AT];exact .inr<|I5 (i+1) r k c (by simpa using h) s e
def sS {T:Tm} (l:∀i:Int,AX T i=Ai T i) (y:Z) (ks:G1) (i:Nat):OH T i ks y↔∃k c,ks[k]?=some c/\JM c y/\y∉Ai T ((i+k:Nat):Int):=by rw[kQ];constructor;rintro ⟨k,c,f,h,e⟩;exact⟨k,c,f,h,by rw[l]at e;exact WU.1 e⟩;rintro ⟨k,c,f,h,e⟩;exact⟨k,c,f,h,by rw[l];exact WU.2 e⟩
def Ls {op n:Int} {x:Z} {ks:G1} {ps:E1} (h:Ax (.mk op n x ks ps)=true) (e:op≠4) (y:Z):JM (.mk op n x ks ps) y↔∃(k:Nat) (c:Tm),ks[k]?=some c/\JM c y/\y∉Ai (.mk op n x ks ps) (k:Int):=by simp only[Ax,Am]at h;rw[JM,ac e,sS (KE h.1.2) y ks 0];simp only[BU]
def cG (a b:Z) (S:BW b=true):∀(N:Nat) (t:Tm),DK t<=N->Ax t=true->b∉Bx t->∀y,JM (EH t a b) y↔(JM t y/\y≠a)\/(y=b/\JM t a)
 |0,t,j,_,_,_=>by have:=Rs t;omega
 |N+1,.mk r n x ks s,j,H,o,y=>by have M:=H;have A:=Lg a b S (.mk r n x ks s) H;simp only[Ax,Am]at H;rw[EH]at A ⊢;by_cases e:r=4;simp only[JM,ae e];unfold Lc;by_cases K:x=a;rw[ae<|by simp[e,K]];constructor;intro h;exact .inr ⟨h,K.symm⟩;rintro (⟨f,p⟩|⟨f,_⟩);exact absurd (f.trans K) p;exact f;rw[ac<|by simp[K]];constructor;intro h;exact .inl ⟨h,λp=>K<|h▸p⟩;rintro (⟨f,_⟩|⟨_,p⟩);exact f;exact absurd p.symm K;have v:Lc r x a b=x:=by{simp[Lc,e]};rw[v]at A ⊢;rw[Ls A e,Ls M e,Ls M e];have B:∀(l:G1) (i:Int),Ai (.mk r n x l s) i=Ai (.mk r n x ks s) i:=λ_ _=>rfl;simp only[B];have C:∀(k:Nat) (c:Tm),ks[k]?=some c->b∉Bx c/\b∉Ai (.mk r n x ks s) (k:Int):=λk c L=>by{constructor;intro h;exact o (by simp only[Bx,AT];exact .inr<|I5 0 ks k c L b h);intro h;exact o (by simp only[Bx,AT];exact .inr<|FC 0 ks k (A9.1 L).1 b<|by simpa using h)};have D:∀(k:Nat) (c:Tm),ks[k]?=some c->DK c<=N:=λk c L=>by{have:=Gw L;simp only[DK]at j;omega};constructor;rintro ⟨k,q,f,p,G⟩;have L:k<ks.length:=by{have:=(A9.1 f).1;rwa [Fs]at this};have m:ks[k]?=some ks[k]:=by{simp[L]};have z:=JH (T:=.mk r n x [] s) (a:=a) (b:=b) (i:=0) m;rw[f]at z;simp only[Co,BU,B]at z;let⟨R,U⟩:=C k _ m;by_cases T:AR (Ai (.mk r n x ks s) (k:Int)) a=true;rw[ae T]at z;subst z;exact .inl ⟨⟨k,_,m,p,G⟩,λw=>G (by rw[w];exact BN.1 T)⟩;rw[ac T]at z;subst z;rcases(cG a b S N _ (D k _ m) (E6 H.2 m) R y).1 p with⟨V,W⟩|⟨V,W⟩;exact .inl ⟨⟨k,_,m,V,G⟩,W⟩;exact .inr ⟨V,k,_,m,W,λd=>T<|BN.2 d⟩;rintro (⟨⟨k,c,f,p,G⟩,z⟩|⟨u,k,c,f,p,G⟩);let⟨R,U⟩:=C k c f;have g:=JH (T:=.mk r n x [] s) (a:=a) (b:=b) (i:=0) f;refine⟨k,_,g,?_,G⟩;split;exact p;exact(cG a b S N c (D k c f) (E6 H.2 f) R y).2 (.inl ⟨p,z⟩);let⟨R,U⟩:=C k c f;have g:=JH (T:=.mk r n x [] s) (a:=a) (b:=b) (i:=0) f;refine⟨k,_,g,?_,by rw[u];exact U⟩;rw[ac (by simp only[BU,B];exact λd=>G<|BN.1 d)];exact(cG a b S N c (D k c f) (E6 H.2 f) R y).2 (.inr ⟨u,p⟩)
def Ul {T:Tm} (h:Ax T=true) (i:Int):(Ai T i).Nodup:=by obtain⟨m,n,x,ks,f⟩:=T;simp only[Ax,Am]at h;simp only[Ai];split;simp;split;cases l:f[(i-1).toNat]? with|none=>simp|some p=>{have:=Du.1 h.1.2 p<|AE l;simp only[CM,Am]at this;have e:=this.2;rw[<- Ld _ this.1.2,NH]at e;exact e};simp
def Yi {l:E2} {j:Nat} {x f y:Z} (s:l.Nodup) (m:l[j]?=some x):y∈l.set j f↔y=f\/(y∈l/\y≠x):=by induction l generalizing j with|nil=>simp at m|cons a r z=>{let⟨q,A⟩:=GI.1 s;cases j with|zero=>simp at m;subst m;simp only[Sf,Cu];constructor;rintro (h|h);exact .inl h;exact .inr ⟨.inr h,λe=>q<|e▸h⟩;rintro (h|⟨h|h,p⟩);exact .inl h;exact absurd h p;exact .inr h|succ j=>{have m:r[j]?=some x:=by{simpa using m};simp only[PC,Cu,z A m];constructor;rintro (h|h|⟨h,p⟩);exact .inr ⟨.inl h,λe=>q (by rw[<- h,e];exact AE m)⟩;exact .inl h;exact .inr ⟨.inr h,p⟩;rintro (h|⟨h|h,p⟩);exact .inr<|.inl h;exact .inl h;exact .inr<|.inr ⟨h,p⟩}}
def gX {fr:E2} {i:Nat} {T k:Tm} {m:E2} (g:Ax T=true) (n:i<C5 T) (z:∀s∈Ai T i,s∈m) (H:∀s∈Bx k,s∈m) (o:FG T i=some k) (K:m.length+(Ai T i).length<=699):∀j,j<=(Ai T i).length->∃k',FG (DZ fr i T m j).2.1 i=some k'/\(∀s∈Bx k',s∈(DZ fr i T m j).2.2)/\(∀y,(JM k' y/\y∉Ai (DZ fr i T m j).2.1 i)↔(JM k y/\y∉Ai T i))/\(∀p,p<j->∃x y,(Ai T i)[p]?=some x/\(Ai (DZ fr i T m j).2.1 i)[p]?=some y/\((AR fr x=false/\y=x)\/(AR fr x=true/\y∉m)))
 |0,_=>⟨k,o,H,λ_=>cm,λp t=>by omega⟩
 |j+1,hj=>by let⟨k',N,V,u,v⟩:=gX (fr:=fr) g n z H o K j (by omega);let⟨J,w,P,e4,Q,e6,e7,E,e9,_⟩:=Gp (fr:=fr) g n z K j (by omega);let⟨x,R⟩:=Aq (show j<(Ai T i).length by omega);rw[Jz R];have l:=e9 j<|B6 _;generalize DZ fr i T m j=r at *;obtain⟨L,G,F⟩:=r;simp only at *;subst J;rw[R]at l;simp only[FN];by_cases S:AR fr x=true;rw[ae S];let⟨q1,W⟩:=HB F (by omega);generalize sb:C4 F=f at *;have A:=J0 w N;have M:f∉Bx k':=λh=>W<|V f h;have a:L<(Ai (CH G i<|EH ((FG G i).getD Y1) x f) i).length:=by{rw[CA,E];omega};have I:Ai (E5 (CH G i<|EH ((FG G i).getD Y1) x f) i L f) i=(Ai G i).set L f:=by{rw[L7 _ a,CA]};have b:=Ul w i;have hfb:f∉Ai G i:=λh=>W<|P f h;have c:=cG x f q1 _ k' (B6 _) A M;refine⟨EH k' x f,by rw[Ia,GC N,ae O,N];rfl,λs hs=>?_,λy=>?_,λp t=>?_⟩;rcases RM x f k' s hs with h|h;exact Im _<|V s h;exact Il _ (by rw[h];simp);rw[I,<- u y,c y,Yi b l];constructor;rintro ⟨⟨B,C⟩|⟨B,C⟩,U⟩;refine⟨B,λq=>U<|.inr ⟨q,C⟩⟩;exact absurd (.inl B) U;rintro ⟨B,C⟩;have d:y≠x:=λe=>C<|e▸AE l;refine⟨.inl ⟨B,d⟩,λq=>?_⟩;rcases q with q|⟨q,_⟩;exact M<|q▸Sr k' y A B;exact C q;rw[I];by_cases D:p=L;subst D;refine⟨x,f,R,?_,.inr ⟨S,λq=>W<|Q f q⟩⟩;rw[Jc (by rw[E];omega)];let⟨x',y',B,C,U⟩:=v p (by omega);exact⟨x',y',B,by rw[HQ<|by omega];exact C,U⟩;rw[ac S];refine⟨k',N,V,u,λp t=>?_⟩;by_cases D:p=L;subst D;exact⟨x,x,R,l,.inl ⟨by simpa using S,rfl⟩⟩;exact v p (by omega)
def zih {fr:E2} {i:Nat} {T k:Tm} {m:E2} (C:Ax T=true) (D:i<C5 T) (f:∀s∈Ai T i,s∈m) (z:∀s∈Bx k,s∈m) (M:FG T i=some k) (h:m.length+(Ai T i).length<=699):∃k',FG (EB fr i T m).2.1 i=some k'/\(∀s∈Bx k',s∈(EB fr i T m).2.2)/\(∀y,(JM k' y/\y∉Ai (EB fr i T m).2.1 i)↔(JM k y/\y∉Ai T i))/\(∀y∈Ai (EB fr i T m).2.1 i,(y∈Ai T i/\AR fr y=false)\/y∉m)/\(∀y∈Ai T i,AR fr y=false->y∈Ai (EB fr i T m).2.1 i):=by let⟨k',G,H,K,A⟩:=gX (fr:=fr) C D f z M h _<|B6 _;let⟨_,_,_,_,_,_,_,L,_⟩:=Gp (fr:=fr) C D f h _<|B6 _;rw[I8]at G H K A L;refine⟨k',G,H,K,λy B=>?_,λy B N=>?_⟩;let⟨p,l⟩:=H3 B;let⟨R,S,q,r,e⟩:=A p (by rw[<- L];exact(A9.1 l).1);rw[l]at r;cases r;rcases e with⟨e,rfl⟩|⟨_,e⟩;exact .inl ⟨AE q,e⟩;exact .inr e;let⟨p,l⟩:=H3 B;let⟨R,S,q,r,e⟩:=A p (A9.1 l).1;rw[l]at q;cases q;rcases e with⟨_,rfl⟩|⟨e,_⟩;exact AE r;rw[N]at e;cases e
mutual
def pr:Y->Y
 |.mk f n x e=>.mk f n (if f=2 then[]else x)<|Hc e
def Hc:L1 Y->L1 Y
 |[]=>[]
 |t::r=>pr t::Hc r
end
def Xj:∀{l r:E1},Hc l=Hc r->l.length=r.length
 |[],[],_=>rfl
 |[],_::_,h=>by simp[Hc]at h
 |_::_,[],h=>by simp[Hc]at h
 |_::l,_::r,h=>by simp only[Hc,Cr]at h;simp[Xj h.2]
mutual
def xR:∀(t:Y) (j:Nat) (x:Z),pr (EM t j x)=pr t
 |.mk s n y e,j,x=>by by_cases h:s=2;cases j with|zero=>simp only[EM,ae h,pr]|succ j=>{simp only[EM,ae h,pr,Xi e j x]};simp only[EM,ac h,pr,Xi e j x]
def Xi:∀(l:E1) (j:Nat) (x:Z),Hc (EV l j x)=Hc l
 |[],_,_=>rfl
 |t::r,j,x=>by simp only[EV];split;simp only[Hc,xR t j x];simp only[Hc,Xi r _ x]
end
def lU:∀{l:E1} {i:Nat} {p q:Y},l[i]?=some p->pr q=pr p->Hc (l.set i q)=Hc l
 |[],_,_,_,h,_=>by simp at h
 |t::r,0,p,q,h,e=>by simp at h;subst h;simp[Hc,e]
 |t::r,i+1,p,q,h,e=>by simp only[PC,Hc];rw[lU (by simpa using h) e]
def we (op:Int):Prop:=op=5\/op=7\/op=27
def QX:Tm->Tm->Prop
 |.mk h n x _ l,.mk e m p _ f=>e=h/\m=n/\(¬we h->p=x)/\Hc f=Hc l
def zbu (T:Tm):QX T T:=by obtain⟨e,n,x,ks,f⟩:=T;exact⟨rfl,rfl,λ_=>rfl,rfl⟩
def zld {T m:Tm} (h:QX T m) (i:Int) (j:Nat) (f:Z):QX T<|E5 m i j f:=by obtain⟨C,n,x,ks,D⟩:=T;obtain⟨e,G,H,z,q⟩:=m;obtain⟨rfl,rfl,r,l⟩:=h;simp only[E5];by_cases s:Bv e i=true;rw[ae s];refine⟨rfl,rfl,λA=>?_,l⟩;exfalso;simp only[Bv,EJ,Am,an]at s;simp only[we]at A;omega;rw[ac s];by_cases y:Ca e i=true;rw[ae y];cases B:q[(i-1).toNat]? with|none=>exact⟨rfl,rfl,r,l⟩|some p=>{exact⟨rfl,rfl,r,(lU B<|xR p j f).trans l⟩};rw[ac y];exact⟨rfl,rfl,r,l⟩
mutual
def vX {m:Md}:∀(p B τ:Y) (Γ l:At),BH p=true->BH B=true->pr B=pr p->Hv m p τ Γ l->∃ts:E1,ts.length=(AN p).length/\(AN B).length=(AN p).length/\l=Γ++(AN p).zip ts/\∀e:At,Hv m B τ e (e++(AN B).zip ts)
 |.mk f n x N,.mk q G R C,τ,Γ,l,K,r,S,h=>by simp only[pr,Y.mk.injEq]at S;obtain⟨rfl,rfl,T,U⟩:=S;by_cases z:q=2;subst z;simp only[Hv,aw]at h ⊢;have D:∀(y:Z) (A:E1),AN (.mk 2 G y A)=[y]:=λy A=>by{simp[AN]};rw[D,D];exact⟨[τ],rfl,rfl,by simpa using h,λe=>by simp⟩;{rw[ac z,ac z]at T;subst T;by_cases H:q=6;subst H;simp[Hv]at h ⊢;obtain⟨c,d,b,g,i,j⟩:=h;simp only[BH,Am]at K r;let⟨ts,k,o,t,u⟩:=iK N C c.args Γ l K.2 r.2 U j;have D:∀(y:Z) (A:E1),AN (.mk 6 G y A)=AH A:=λy A=>by{simp[AN]};rw[D,D];exact⟨ts,k,o,t,λe=>⟨c,d,b,g.trans (Xj U).symm,i,u e⟩⟩;{rw[RX K H z,RX r H z];have L:∀M s:At,Hv m (.mk q G R N) τ M s->s=M/\∀e:At,Hv m (.mk q G R C) τ e e:=λM s h=>by{simp only[Hv,ac z,ac H]at h ⊢;by_cases V:q=3;simp only[ae V]at h ⊢;exact⟨h.2,λ_=>⟨h.1,ab⟩⟩;simp only[ac V]at h ⊢;by_cases W:q=4;simp only[ae W]at h ⊢;exact⟨h.2,λ_=>⟨h.1,ab⟩⟩;simp only[ac W]at h ⊢;by_cases a:q=5;simp only[ae a]at h ⊢;exact⟨h.2,λ_=>⟨h.1,ab⟩⟩;simp only[ac a]at h ⊢;exact⟨h,λ_=>trivial⟩};let⟨v,w⟩:=L Γ l h;exact⟨[],rfl,rfl,by rw[v];simp,λe=>by simpa using w e⟩}}
def iK {m:Md}:∀(ps e ts:E1) (Γ f:At),BT ps=true->BT e=true->Hc e=Hc ps->KG m ps ts Γ f->∃y:E1,y.length=(AH ps).length/\(AH e).length=(AH ps).length/\f=Γ++(AH ps).zip y/\∀l:At,KG m e ts l (l++(AH e).zip y)
 |[],[],[],Γ,f,_,_,_,h=>⟨[],rfl,rfl,by simpa[KG,AH]using h,λl=>by simp[KG,AH]⟩
 |p::ps,C::e,t::ts,Γ,f,z,q,r,⟨s,D,G⟩=>by simp only[BT,Am]at z q;simp only[Hc,Cr]at r;let⟨a,A,B,H,K⟩:=vX p C t Γ s z.1 q.1 r.1 D;let⟨b,L,M,N,R⟩:=iK ps e ts s f z.2 q.2 r.2 G;simp only[AH];refine⟨a++b,by simp[A,L],by simp[B,M],?_,λl=>⟨_,K l,?_⟩⟩;rw[List.zip_append A.symm,N,H,CV];rw[List.zip_append<|B.trans A.symm,<- CV];exact R _
 |[],[],_::_,_,_,_,_,_,h=>h.elim
 |_::_,_,[],_,_,_,_,_,h=>by cases h
 |[],_::_,_,_,_,_,_,r,_=>by simp[Hc]at r
 |_::_,[],_,_,_,_,_,r,_=>by simp[Hc]at r
end
def oV (Γ:At):L1 Y->L1 (L1 Y)->L1 At
 |p::e,t::f=>(Γ++(AN p).zip t)::oV Γ e f
 |_,_=>[]
def gS {m:Md} {τ:Y} {Γ:At}:∀(ps e:E1) (l:L1 At),(∀p∈ps,BH p=true)->(∀p∈e,BH p=true)->Hc e=Hc ps->HU m τ Γ ps l->∃y:L1<|E1,y.length=ps.length/\(∀(i:Nat) p t,ps[i]?=some p->y[i]?=some t->t.length=(AN p).length)/\l=oV Γ ps y/\∀f:At,HU m τ f e (oV f e y)
 |[],[],l,_,_,_,h=>by simp only[HU]at h;exact⟨[],rfl,λi p t h=>by simp at h,by simp[h,oV],λ_=>by simp[HU,oV]⟩
 |p::ps,C::e,l,D,z,r,⟨A,l1,G,H,K⟩=>by simp only[Hc,Cr]at r;let⟨a,L,V,M,N⟩:=vX p C τ Γ A (D p<|by simp) (z C<|by simp) r.1 G;let⟨y,R,S,T,U⟩:=gS ps e l1 (λq s=>D q<|by simp[s]) (λq s=>z q<|by simp[s]) r.2 H;refine⟨a::y,by simp[R],λi q t s B=>?_,by rw[K,M,T];rfl,λf=>⟨_,_,N f,U f,rfl⟩⟩;rcases i with _|i;simp at s B;subst s;subst B;exact L;exact S i q t (by simpa using s) (by simpa using B)
 |[],_::_,_,_,_,r,_=>by simp[Hc]at r
 |_::_,[],_,_,_,r,_=>by simp[Hc]at r
def Nv (T:Tm) (Γ:At):Nat->L1 (L1 Y×Y)->L1 (At×Y)
 |_,[]=>[]
 |i,e::r=>(Γ++(AX T (i:Int)).zip e.1,e.2)::Nv T Γ (i+1) r
def Sn {T:Tm} {Γ:At} (h:∀i:Int,AX T i=[]):∀(e:E1) (i:Nat),Nv T Γ i (e.map λu=>([],u))=e.map λu=>(Γ,u)
 |[],_=>rfl
 |u::r,i=>by simp only[CK,Nv,h,List.zip_nil_left,M1,Sn h r<|i+1]
def Sm {n:Int} {x:Z} {ks:G1} {ps:E1} {Γ:At} {τ:Y}:∀(l:E1) (e:L1<|E1) (j:Nat),ps.drop j=l->e.length=l.length->Nv (.mk 15 n x ks ps) Γ (j+1) (e.map λt=>(t,τ))=(oV Γ l e).map λq=>(q,τ)
 |[],[],_,_,_=>rfl
 |[],_::_,_,_,h=>by simp at h
 |_::_,[],_,_,h=>by simp at h
 |p::l,t::e,j,m,r=>by have s:ps[j]?=some p:=by{rw[<- List.head?_drop,m];rfl};have f:ps.drop (j+1)=l:=by{rw[<- wR,m];rfl};simp only[CK,Nv,oV,SS,s];rw[Sm l e (j+1) f<|by simpa using r]
def zj1 {m:Md} {Γ:At} {op:Int} {x:Z} {ps e:E1} {K:T5} {τ:Y} {S:E1} (h:op≠15) (f:Bd m Γ op x ps K τ S):Bd m Γ op x e K τ S:=by unfold Bd at *;simp only[ac h]at *;exact f
def zd8 {m:Md} {Γ:At} {op n n':Int} {x D:Z} {ks mu:G1} {ps q:E1} {K:T5} {τ:Y} {S:E1} (W:op≠4) (c:¬we op->D=x) (U:Hc q=Hc ps) (d:∀p∈ps,BH p=true) (G:∀p∈q,BH p=true) (r:Bd m Γ op x ps K τ S):∃E:L1<|E1×Y,K=Nv (.mk op n x ks ps) Γ 0 E/\(∀(i:Nat) e,E[i]?=some e->e.1.length=(AX (.mk op n x ks ps) (i:Int)).length)/\∀f:At,Bd m f op D q (Nv (.mk op n' D mu q) f 0 E) τ S:=by by_cases H:op=5;subst H;rw[vD]at r;obtain⟨a,b,s,y,L⟩:=r;refine⟨[([a],b)],by simp[s,Nv,AX,Bv],λi e h=>?_,λf=>by rw[vD];exact⟨a,b,by simp[Nv,AX,Bv],y,L⟩⟩;rcases i with _|i<;>simp at h;simp[<- h,AX,Bv];by_cases M:op=7;subst M;rw[vC]at r;obtain⟨a,s,y⟩:=r;refine⟨[([],a),([a],τ)],by simp[s,Nv,AX,Bv,Ca],λi e h=>?_,λf=>by rw[vC];exact⟨a,by simp[Nv,AX,Bv,Ca],y⟩⟩;rcases i with _|_|i<;>simp at h;simp[<- h,AX,Bv,Ca];simp[<- h,AX,Bv];by_cases A:op=27;subst A;rw[cD]at r;obtain⟨s,y⟩:=r;refine⟨[([By τ Be],Be)],by simp[s,Nv,AX,Bv],λi e h=>?_,λf=>by rw[cD];exact⟨by simp[Nv,AX,Bv],y⟩⟩;rcases i with _|i<;>simp at h;simp[<- h,AX,Bv];by_cases z:op=15;subst z;rw[cE]at r;obtain⟨a,l,s,y,L⟩:=r;let⟨N,R,g,j,k⟩:=gS ps q l d G U s;have T:∀(n:Int) (x:Z) (ks:G1) (ps:E1),AX (.mk 15 n x ks ps) ((0:Nat):Int)=[]:=λn x ks ps=>by{simp[AX,Bv,Ca]};refine⟨([],a)::N.map λt=>(t,τ),?_,λi e h=>?_,λf=>by rw[cE];exact⟨a,_,k f,by rw[Nv,T,Sm q N 0 O<|by rw[R,Xj U]];simp,L⟩⟩;rw[Nv,T,Sm ps N 0 O R,y,j];simp;rcases i with _|i;simp at h;subst h;rw[T];rfl;simp at h;obtain⟨o,V,rfl⟩:=h;rw[SS];have C:i<ps.length:=by{rw[<- R];exact(A9.1 V).1};rw[Bi C];exact g i _ o (Bi C) V;have v:¬we op:=by{simp only[we];omega};obtain rfl:=c v;let⟨w,s,y⟩:=YZ W H M z A r;have B:∀(n:Int) (ks:G1) (ps:E1) (i:Int),AX (.mk op n D ks ps) i=[]:=λn ks ps i=>by{simp[AX,Bv,Ca,H,M,A,z]};refine⟨w.map λu=>([],u),by rw[Sn<|B n ks ps,s],λi e h=>?_,λf=>?_⟩;simp at h;obtain⟨u,_,rfl⟩:=h;rw[B];rfl;rw[Sn<|B n' mu q];exact zj1 z<|y m f O
def pY {b:E2} {ts:E1} (h:ts.length=b.length):Xp (b.zip ts)=b:=by simp only[Xp];exact List.map_fst_zip (by omega)
def rE:∀(b:E2) (ts:E1),b.Nodup->ts.length=b.length->∀(i:Nat) (y:Z),b[i]?=some y->Iz (b.zip ts) y=ts[i]?
 |[],_,_,_,i,y,h=>by simp at h
 |a::r,[],_,m,_,_,_=>by simp at m
 |a::r,t::f,p,m,i,y,h=>by rw[GI]at p;have l:f.length=r.length:=by{simpa using m};simp only[qK,Iz];rcases i with _|i;simp at h;subst h;have:Iz (r.zip f) a=none:=by{cases e:Iz (r.zip f) a with|none=>rfl|some u=>{exact absurd ((pY l)▸(dJ (r.zip f) a).1 (by rw[e];rfl)) p.1}};rw[this];simp;have q:r[i]?=some y:=by{simpa using h};have s:=(A9.1 q).1;rw[rE r f p.2 l i y q,Bi<|by omega];simp[Bi (show i<f.length by omega)]
def GG (fr:L1 Z):Nat->Nat->Tm->L1 Z->Tm×L1 Z
 |0,_,T,m=>(T,m)
 |k+1,i,T,m=>GG fr k (i+1) (EB fr i T m).2.1 (EB fr i T m).2.2
def YU (T:Tm) {i l:Nat} (h:i≠l) (a b:Tm):CH (CH T i a) l b=CH (CH T l b) i a:=by obtain⟨e,n,x,ks,f⟩:=T;simp only[CH,List.set_comm _ _ h]
def zjy (T:Tm) (i:Int) (j:Nat) (f:Z) (l:Nat) (c:Tm):E5 (CH T l c) i j f=CH (E5 T i j f) l c:=by obtain⟨e,n,x,ks,h⟩:=T;simp only[CH,E5];split;rfl;split;split<;>rfl;rfl
def MJ (T:Tm) {i l:Nat} (h:l≠i) (c:Tm):FG (CH T i c) l=FG T l:=by obtain⟨f,n,x,ks,m⟩:=T;simp only[CH,FG,HQ λe=>h e.symm]
def Pu {fr:E2} {i l:Nat} (h:l≠i) (c:Tm):∀(xs:E2) (j:Nat) (T:Tm) (m:E2),xs.foldl (FN fr l) (j,CH T i c,m)=((xs.foldl (FN fr l) (j,T,m)).1,CH (xs.foldl (FN fr l) (j,T,m)).2.1 i c,(xs.foldl (FN fr l) (j,T,m)).2.2)
 |[],j,T,m=>rfl
 |x::r,j,T,m=>by simp only[M3,FN];split;rw[MJ T h,YU T λe=>h e.symm,zjy];exact Pu h c r _ _ _;exact Pu h c r _ _ _
def zcs {fr:E2} {i l:Nat} (h:l≠i) (c:Tm) (T:Tm) (m:E2):EB fr l (CH T i c) m=((EB fr l T m).1,CH (EB fr l T m).2.1 i c,(EB fr l T m).2.2):=by rw[EB,CA];exact Pu h c _ _ _ _
def WR:Tm->Tm
 |.mk e n x _ f=>.mk e n x [] f
def zle (T:Tm) (i:Nat) (c:Tm):WR (CH T i c)=WR T:=by obtain⟨e,n,x,ks,f⟩:=T;rfl
def znt {T U:Tm} (e:WR T=WR U) (f:∀l,FG T l=FG U l):T=U:=by obtain⟨q,n,x,ks,r⟩:=T;obtain⟨h,s,y,m,p⟩:=U;simp only[WR,Tm.mk.injEq,ax]at e;obtain⟨rfl,rfl,rfl,rfl⟩:=e;simp only[FG]at f;rw[QI f]
def If {fr:E2}:∀(k i:Nat) (T:Tm) (m:E2),Ax T=true->i+k=C5 T->(∀l,l<C5 T->i<=l->∀s∈Ai T l,s∈m)->m.length+G8 T k i<=699->Ax (GG fr k i T m).1=true/\C5 (GG fr k i T m).1=C5 T/\(∀l,l<i->FG (GG fr k i T m).1 l=FG T l/\Ai (GG fr k i T m).1 l=Ai T l)/\(∀s∈m,s∈(GG fr k i T m).2)/\M5 T (GG fr k i T m).1/\(GG fr k i T m).2.length<=m.length+G8 T k i
 |0,i,T,m,y,_,_,_=>⟨y,rfl,λ_ _=>⟨rfl,rfl⟩,λ_ h=>h,Mf T,by simp[GG]⟩
 |k+1,i,T,m,y,D,e,z=>by simp only[G8]at z ⊢;let⟨_,G,K,A,B,L,M,N,_,p,f,C⟩:=Gp (fr:=fr) y (by omega) (e i (by omega)<|B6 _) (by omega) _<|B6 _;rw[I8]at G K A B L M N p f C;have H:G8 (EB fr i T m).2.1 k (i+1)=G8 T k (i+1):=Ir (λl=>by{obtain⟨_,_,_,_,_,_,_,_,_,_,_,_,R⟩:=f;exact R l}) k<|i+1;simp only[GG];generalize EB fr i T m=r at *;obtain⟨o,S,U⟩:=r;simp only at *;let⟨V,t,W,a,b,c⟩:=If (fr:=fr) k (i+1) S U G (by omega) (λl d g s q=>by rw[A l (by omega)<|by omega]at q;exact B s<|e l (by omega) (by omega) s q) (by rw[H];omega);refine⟨V,by omega,λl d=>?_,λs q=>a s<|B s q,TP f b,by rw[H]at c;omega⟩;let⟨j,n⟩:=W l (by omega);exact⟨by rw[j,p l<|by omega],by rw[n,A l (by omega)<|by omega]⟩
def W1 {rec:Tm->Tm} {nm:Z} {fr:E2} {i:Nat} (c:Tm):∀(k l:Nat) (T:Tm) (m:E2),i<l->Z8 rec nm fr k l (CH T i c) m=CH (Z8 rec nm fr k l T m) i c
 |0,l,T,m,h=>rfl
 |k+1,l,T,m,h=>by simp only[Z8,zcs (show l≠i by omega),CA,MJ _ (show l≠i by omega)];split;exact W1 c k (l+1) _ _ (by omega);rw[YU _ (show i≠l by omega)];exact W1 c k (l+1) _ _ (by omega)
def jL {rec:Tm->Tm} {nm:Z} {fr:E2}:∀(k i:Nat) (T:Tm) (m:E2),Ax T=true->i+k=C5 T->(∀l,l<C5 T->i<=l->∀s∈Ai T l,s∈m)->m.length+G8 T k i<=699 ->
  WR (Z8 rec nm fr k i T m)=WR (GG fr k i T m).1/\∀l,FG (Z8 rec nm fr k i T m) l=(FG (GG fr k i T m).1 l).map λc=>if i<=l then(if AR (Ai T l) nm=true then c else rec c)else c
 |0,i,T,m,V,B,_,_=>⟨rfl,λl=>by
  simp only[Z8,GG];cases h:FG T l with
  |none=>rfl
  |some c=>
   have:=RG h;simp only[FQ,ac (show¬i<=l by omega)]⟩
 |k+1,i,T,m,V,B,z,H=>by
  simp only[G8]at H;let⟨_,K,g,L,W,j,n,o,_,M,C,N⟩:=Gp (fr:=fr) V (by omega) (z i (by omega)<|B6 _) (by omega) _<|B6 _;rw[I8]at K g L W j n o M C N;have a:G8 (EB fr i T m).2.1 k (i+1)=G8 T k (i+1):=Ir (λl=>by
   obtain⟨_,_,_,_,_,_,_,_,_,_,_,_,t⟩:=C;exact t l) k<|i+1
  simp only[Z8,GG];generalize EB fr i T m=r at *;obtain⟨v,e,p⟩:=r;simp only at *;have q:∀l,l<C5 e->i+1<=l->∀s∈Ai e l,s∈p:=λl y f s b=>by rw[L l (by omega)<|by omega]at b;exact W s<|z l (by omega) (by omega) s b
  let⟨_,w,u,_⟩:=If (fr:=fr) k (i+1) e p K (by omega) q (by rw[a];omega);let⟨d1,d2⟩:=jL (rec:=rec) (nm:=nm) (fr:=fr) k (i+1) e p K (by omega) q (by rw[a];omega);have D:∀l,((FG (GG fr k (i+1) e p).1 l).map λc=>if i+1<=l then(if AR (Ai e l) nm=true then c else rec c)else c)=(FG (GG fr k (i+1) e p).1 l).map λc=>if i+1<=l then(if AR (Ai T l) nm=true then c else rec c)else c:=λl=>by
   cases h:FG (GG fr k (i+1) e p).1 l with
   |none=>rfl
   |some c=>
    simp only[FQ];by_cases y:i+1<=l
    ·rw[ae y,ae y,L l (by have:=RG h;omega)<|by omega]
    ·rw[ac y,ac y]
  split
  ·rename_i R;refine⟨d1,λl=>?_⟩;rw[d2 l,D l];cases h:FG (GG fr k (i+1) e p).1 l with
   |none=>rfl
   |some c=>
    simp only[FQ];by_cases y:i+1<=l
    ·rw[ae y,ae (show i<=l by omega)]
    ·rw[ac y];by_cases f:i<=l
     ·have:l=i:=by omega
      subst this;rw[ae f,ae R]
     ·rw[ac f]
  ·rename_i R;have S:=W1 (rec:=rec) (nm:=nm) (fr:=fr) (rec ((FG e i).getD Y1)) k (i+1) e p<|CN i;rw[S];refine⟨by rw[zle];exact d1,λl=>?_⟩;let⟨d,A⟩:=Qf (show i<C5 (GG fr k (i+1) e p).1 by omega);have U:FG e i=some d:=by rw[<- (u i<|CN i).1];exact A
   by_cases y:l=i
   ·subst y;have G:FG (Z8 rec nm fr k (l+1) e p) l=some d:=by
     rw[d2 l,A];simp only[FQ,ac (show¬l+1<=l by omega)]
    rw[GC G,ae O,A,U];simp only[FQ,ae<|B6 l,ac R,ID]
   ·rw[MJ _ y,d2 l,D l];cases h:FG (GG fr k (i+1) e p).1 l with
    |none=>rfl
    |some c=>
     simp only[FQ];by_cases f:i+1<=l
     ·rw[ae f,ae (show i<=l by omega)]
     ·rw[ac f,ac (show¬i<=l by omega)]
def RQ {fr:E2}:∀(k i:Nat) (T:Tm) (m:E2),Ax T=true->i+k=C5 T->(∀l,l<C5 T->i<=l->∀s∈Ai T l,s∈m)->m.length+G8 T k i<=699->∀(l:Nat) (c:Tm),i<=l->FG T l=some c->(∀s∈Bx c,s∈m)->∃q,FG (GG fr k i T m).1 l=some q/\DK q=DK c/\(∀y,(JM q y/\y∉Ai (GG fr k i T m).1 l)↔(JM c y/\y∉Ai T l))/\(∀y∈Ai (GG fr k i T m).1 l,(y∈Ai T l/\AR fr y=false)\/y∉m)/\(∀y∈Ai T l,AR fr y=false->y∈Ai (GG fr k i T m).1 l)
 |0,i,T,m,U,z,_,_,l,c,d,H,_=>by have:=RG H;omega
 |k+1,i,T,m,U,z,p,V,l,c,d,f,A=>by simp only[G8]at V;have g:=p i (by omega)<|B6 _;let⟨_,W,o,a,K,t,u,v,_,B,C,D⟩:=Gp (fr:=fr) U (by omega) g (by omega) _<|B6 _;rw[I8]at W o a K t u v B C D;have H:G8 (EB fr i T m).2.1 k (i+1)=G8 T k (i+1):=Ir (λl=>by{obtain⟨_,_,_,_,_,_,_,_,_,_,_,_,w⟩:=C;exact w l}) k<|i+1;have e:∀l,l<C5 (EB fr i T m).2.1->i+1<=l->∀s∈Ai (EB fr i T m).2.1 l,s∈(EB fr i T m).2.2:=λl d x s L=>by{rw[a l (by omega)<|by omega]at L;exact K s<|p l (by omega) (by omega) s L};simp only[GG];by_cases r:l=i;subst r;let⟨q,M,j,N,R,S⟩:=zih (fr:=fr) U (by omega) g A f (by omega);let⟨J,n,E⟩:=D c f;rw[M]at n;cases n;let⟨_,_,d3,_⟩:=If (fr:=fr) k (l+1) (EB fr l T m).2.1 (EB fr l T m).2.2 W (by omega) e (by rw[H];omega);let⟨f1,f2⟩:=d3 l<|CN l;rw[f1,f2];exact⟨q,M,E,N,R,S⟩;have G:FG (EB fr i T m).2.1 l=some c:=by{rw[B l r];exact f};let⟨q,M,j,N,R,S⟩:=RQ (fr:=fr) k (i+1) (EB fr i T m).2.1 (EB fr i T m).2.2 W (by omega) e (by rw[H];omega) l c (by omega) G λs L=>K s<|A s L;have b:=a l (by have:=RG f;omega) r;rw[b]at N R S;exact⟨q,M,j,N,λy F=>(R y F).imp id λh I=>h<|K y I,S⟩
def NF (rec:Tm->Tm) (nm:Z) (T:Tm):Nat->L1 Tm->L1 Tm
 |_,[]=>[]
 |i,k::r=>(if AR (Ai T i) nm=true then k else rec k)::NF rec nm T (i+1) r
def zqj (rec:Tm->Tm) (nm:Z):Tm->Tm
 |.mk e n x ks f=>.mk e n x (NF rec nm (.mk e n x ks f) 0 ks) f
def aB (rec:Tm->Tm) (nm:Z) (T:Tm):∀(i:Nat) (l:G1),(NF rec nm T i l).length=l.length
 |_,[]=>rfl
 |i,k::r=>by simp[NF,aB rec nm T (i+1) r]
def SF (rec:Tm->Tm) (nm:Z) (T:Tm):∀(l:G1) (i j:Nat),(NF rec nm T i l)[j]?=(l[j]?).map λc=>if AR (Ai T ((i+j:Nat):Int)) nm=true then c else rec c
 |[],i,j=>by simp[NF]
 |k::r,i,0=>by simp[NF]
 |k::r,i,j+1=>by simp only[NF,Nm];rw[SF rec nm T r (i+1) j,show i+1+j=i+(j+1) by omega]
def Ou {t:Tm} (h:Ax t=true) (y:Z):y∈EA t [] []↔JM t y:=by rw[lL t [] [] y<|Dh t h];simp[AR]
def gR {nm:Z} {e:Tm} {fr:E2}:∀(N:Nat) (t:Tm),Ax t=true->¬JM t nm->Tq nm e fr N t=t
 |0,_,_,_=>rfl
 |N+1,.mk m n x ks p,f,h=>by rw[Tq,ac λl=>h<|(Ou f nm).1 (BN.1 l)]
def zj2 {nm:Z} {p:Tm} {fr:E2} {N:Nat} {op n:Int} {x:Z} {ks:G1} {ps:E1} (D:Ax (.mk op n x ks ps)=true) (L:DK (.mk op n x ks ps)<=60) (M:fr.length<=60) (A:AR (EA (.mk op n x ks ps) [] []) nm=true) (e:¬op=4):Tq nm p fr (N+1) (.mk op n x ks ps)=zqj (Tq nm p fr N) nm (GG fr ks.length 0 (.mk op n x ks ps)<|nm::fr++Bx (.mk op n x ks ps)).1:=by rw[Tq,ae A,ac e];have r:=Vv D L (nm:=nm) M;have m:∀l,l<C5 (.mk op n x ks ps)->0<=l->∀s∈Ai (.mk op n x ks ps) (l:Int),s∈nm::fr++Bx (.mk op n x ks ps):=λl b _ s S=>by{refine Il _ ?_;simp only[Bx,AT];exact .inr<|FC 0 ks l b s<|by simpa using S};have T:∀l c,FG (.mk op n x ks ps) l=some c->∀s∈Bx c,s∈nm::fr++Bx (.mk op n x ks ps):=λl c G s S=>by{refine Il _ ?_;simp only[Bx,AT];exact .inr<|I5 0 ks l c G s S};let⟨d,g⟩:=jL (rec:=Tq nm p fr N) (nm:=nm) (fr:=fr) ks.length 0 (.mk op n x ks ps) (nm::fr++Bx (.mk op n x ks ps)) D (by simp[C5]) m r;let⟨i,j,_,_,_,_⟩:=If (fr:=fr) ks.length 0 (.mk op n x ks ps) (nm::fr++Bx (.mk op n x ks ps)) D (by simp[C5]) m r;have y:=RQ (fr:=fr) ks.length 0 (.mk op n x ks ps) (nm::fr++Bx (.mk op n x ks ps)) D (by simp[C5]) m r;generalize GG fr ks.length 0 (.mk op n x ks ps) (nm::fr++Bx (.mk op n x ks ps))=R at *;obtain⟨k,t⟩:=R;simp only at *;obtain⟨B,W,a,f,C⟩:=k;refine znt (by rw[d];rfl) λl=>?_;rw[g l];show _=(NF _ nm _ 0 f)[l]?;rw[SF,BU];show((f[l]?).map _)=_;cases U:f[l]? with|none=>rfl|some q=>{simp only[FQ,ae<|AK l,Co];let⟨c,G⟩:=Qf (show l<C5 (.mk op n x ks ps) by{have:=(A9.1 U).1;simp only[C5]at j ⊢;omega});let⟨H,f1,_,f2,f3,f4⟩:=y l c (AK _) G<|T l c G;have:H=q:=by{have f1:f[l]?=some H:=f1;rw[U]at f1;exact(Lk f1).symm};subst this;have V:Ax H=true:=J0 (T:=.mk B W a f C) i U;by_cases K:nm∈Ai (.mk op n x ks ps) (l:Int);rw[ae<|BN.2 K];by_cases z:nm∈Ai (.mk B W a f C) (l:Int);rw[ae<|BN.2 z];rw[ac λh=>z<|BN.1 h];refine(gR N H V λo=>?_).symm;exact((f2 nm).1 ⟨o,z⟩).2 K;rw[ac λh=>K<|BN.1 h];rw[ac λh=>?_];rcases f3 nm (BN.1 h)with⟨h3,_⟩|h3;exact K h3;exact h3<|by simp}
def GU (t:Tm) (nm:Z) (e:Tm):Tm:=Tq nm e (EA e [] []) 60 t
def bL (t:Tm) (nm:Z) (e:Tm):Tm×Int:=bif Cy t&&BW nm&&Cy e then(bif Cy (GU t nm e)then(GU t nm e,0)else(Y1,3))else(Y1,2)
def PL {t:Tm} (h:Cy t=true):(EA t [] []).length<=60/\∀s∈EA t [] [],s.length<=8:=by let⟨f,_,_,l⟩:=Hg t h;refine⟨by have:=ZW t [] [];simp at this;omega,λs e=>?_⟩;simp only[Cy,Am]at h;rcases Ua t [] [] h.2 s e with h|h;cases h;exact h
def fT {t:Tm} {nm:Z} {e:Tm} (f:Cy t=true) (h:Cy e=true):Ax (GU t nm e)=true:=by have l:=(Hg t f).2.2.2;have m:=(PL h).1;simp only[Cy,Am]at f h;exact Za h.2 m 60 t l f.2
def ziz (t:Tm) (nm:Z) (e:Tm) (R:G7 t=Cy t) (S:G7 e=Cy e):ca 45 [.agg<|dTmc t,.str nm,.agg<|dTmc e]<|.cg [.agg<|dTmc (bL t nm e).1,.int .i64 (bL t nm e).2]:=by
 refine Ae Dr Tryz.func45 O [1,2,3,4,5,6,7,8,9]<|Hy O<|Ac O (NV t) ?_;rw[R];refine Pl O<|Al O (FU nm)<|Pl O<|Al O (NV e) ?_;rw[S];refine Pl O ?_;cases G:Cy t&&BW nm&&Cy e with
 |false=>
  refine Aa O (λh=>?_) λh=>?_
  ·refine LE O ?_;rw[show bL t nm e=(Y1,2) by simp only[bL,G,bf]];exact Ab O O O
  ·exfalso;cases m:Cy t<;>cases q:BW nm<;>cases p:Cy e<;>simp[m,q,p,UB]at h G
 |true=>
  simp only[Am]at G;obtain⟨⟨m,q⟩,p⟩:=G;rw[m,q,p];refine Aa O (λh=>by simp[UB]at h) λh=>?_;clear h;let⟨f1,f2,f3,f4⟩:=Hg e p;let⟨T,U⟩:=PL p;have y:=(Hg t m).2.2.2;have H:Ax t=true:=by simp only[Cy,Am]at m;exact m.2
  have N:=vI nm e (EA e [] []) (nR p) T (λs V=>by
   rcases Cu.1 V with h|h
   ·rw[h];exact RZ q
   ·exact U s h) 60 t y H y
  have K:=Ui<|fT (nm:=nm) m p;have z:=NV<|GU t nm e;rw[K]at z;have A:GU t nm e=Tq nm e (EA e [] []) 60 t:=rfl;obtain⟨B,C,D,f,l⟩:=e;refine LE O<|Es O<|Hy O<|Ao [] [(4,1)] [] O (eG (.mk B C D f l) [] [] f2) Az O O<|Hy O ?_;rw[<- A]at N;have W:bL t nm (.mk B C D f l)=bif Cy (GU t nm<|.mk B C D f l)then(GU t nm<|.mk B C D f l,0)else(Y1,3):=by simp only[bL,m,q,p,Ws,az]
  rw[W];generalize GU t nm (.mk B C D f l)=r at *;obtain⟨a,b,c,L,M⟩:=r;refine Ao [] [(4,7)] [] O N Az O O<|Hy O<|Ac O z<|Hy O ?_;cases d:Cy (.mk a b c L M)with
  |false=>
   exact Ap O λh=>LE O<|Ab O O O
  |true=>
   exact Ag O λh=>LE O<|Ab O O O
end Go.Hk
namespace Go.Hk
mutual
def D5:Y->L1 Int->L1 Int
 |.mk f n _ e,l=>if f=9 then(if n∈l then l else l++[n])else CF e l
def CF:L1 Y->L1 Int->L1 Int
 |[],l=>l
 |t::r,l=>CF r<|D5 t l
end
mutual
theorem Od {m:Int}:∀(t:Y) (l:K2),m∈D5 t l↔m∈l\/m∈Dv t
 |.mk f n x h,l=>by by_cases e:f=9;{simp only[D5,Dv,ae e];split<;>simp<;>grind};simp only[D5,Dv,ac e];exact jF h l
theorem jF {m:Int}:∀(ps:E1) (l:K2),m∈CF ps l↔m∈l\/m∈D4 ps
 |[],l=>by simp[CF,D4]
 |t::r,l=>by simp only[CF,D4,AT,jF r,Od t];grind
end
mutual
theorem xH {ρ:Int->Int} {η:Int->Y}:∀(t:Y) (l:K2),(∀a b,(a∈l\/a∈Dv t)->(b∈l\/b∈Dv t)->ρ a=ρ b->a=b)->(∀h∈Dv t,η h=Ay (ρ h))->D5 (AI η t) (l.map ρ)=(D5 t l).map ρ
 |.mk f n x s,l,p,m=>by by_cases e:f=9;simp only[Dv,ae e,AJ]at p m;simp only[AI,D5,ae e,m n O,Ay];simp only[aw];by_cases q:n∈l;rw[ae q,ae<|Wz q];rw[ac q,ac,CG];rfl;intro y;let⟨a,r,z⟩:=CC.1 y;have:=p a n (.inl r) (.inr O) z;subst this;exact q r;simp only[Dv,ac e]at p m;simp only[AI,D5,ac e];exact lE s l p m
theorem lE {ρ:Int->Int} {η:Int->Y}:∀(ps:E1) (l:K2),(∀a b,(a∈l\/a∈D4 ps)->(b∈l\/b∈D4 ps)->ρ a=ρ b->a=b)->(∀h∈D4 ps,η h=Ay (ρ h))->CF (Dq η ps) (l.map ρ)=(CF ps l).map ρ
 |[],l,_,_=>rfl
 |t::r,l,m,e=>by simp only[Dq,CF];rw[xH t l (λa b p q=>m a b (by simp only[D4,AT];grind) (by simp only[D4,AT];grind)) λh f=>e h<|by simp[D4,f]];exact lE r (D5 t l) (λa b p q=>m a b (by simp only[D4,AT,Od]at *;grind) (by simp only[D4,AT,Od]at *;grind)) λh f=>e h (by simp[D4,f])
end
def JU (a8:L1 Int) (n:Nat):Nat:=((List.range n).filter λi:Nat=>decide ((i:Int)∉a8)).length
def nh (a8:L1 Int) (k n:Nat):Prop:=(n:Int)∉a8/\JU a8 n=k
def fh:=@List.filter_append
def Ei (a8:K2) (n:Nat):JU a8 (n+1)=JU a8 n+if(n:Int)∈a8 then 0 else 1:=by simp only[JU,cX,fh,Bo];by_cases h:(n:Int)∈a8<;>simp[h]
def O3 {a8:K2} {n m:Nat} (h:n<=m):JU a8 n<=JU a8 m:=by induction h with|refl=>exact B6 _|step _ e=>{rw[Nat.succ_eq_add_one,Ei];omega}
def nh.unique {a8:K2} {k n m:Nat} (h:nh a8 k n) (e:nh a8 k m):n=m:=by rcases P9 n m with hl|hl|hl;have:=O3 (a8:=a8) (show n+1<=m from hl);rw[Ei,ac h.1,h.2,e.2]at this;omega;exact hl;have:=O3 (a8:=a8) (show m+1<=n from hl);rw[Ei,ac e.1,h.2,e.2]at this;omega
def zpg (a8:L1 Int) (T:Y) (ν:Int->Int):Prop:=∀(i:Nat) (h:Int),(D5 T [])[i]?=some h->∃n:Nat,ν h=n/\nh a8 i n
def zbv {η η':Int->Y} {T:Y} (p:∀n,CY (η n)=true):∀h∈Dv T,AI η' (AI η<|Ay h)=Ay h->∃k,η h=Ay k/\η' k=Ay h:=λh _ e=>by{rw[Dn]at e;have m:CS (η h)=9:=by{generalize η h=u at e;obtain⟨f,n,x,q⟩:=u;by_cases l:f=9;exact l;simp only[AI,ac l,Ay,Y.mk.injEq]at e;exact absurd e.1 l};refine⟨num<|η h,Fp (p h) m,?_⟩;rw[IM m]at e;exact e}
mutual
def ziq {η η':Int->Y}:∀(t:Y),AI η t=AI η' t->∀h∈Dv t,η h=η' h
 |.mk f n x p,e,h,l=>by by_cases m:f=9;simp only[AI,Dv,ae m,AJ]at e l;rw[l];exact e;simp only[AI,Dv,ac m,Y.mk.injEq,ax]at e l;exact yG p e h l
def yG {η η':Int->Y}:∀(l:E1),Dq η l=Dq η' l->∀h∈D4 l,η h=η' h
 |[],_,h,f=>by simp[D4]at f
 |t::r,e,h,f=>by simp only[Dq,Cr]at e;simp only[D4,AT]at f;exact f.elim (ziq t e.1 h)<|yG r e.2 h
end
def zaj {a8:K2} {T q:Y} {η η':Int->Y} (D:CY T=true) (G:∀n,CY (η n)=true) (r:AI η T=q) (z:AI η' q=T) {ν m:Int->Int} (s:zpg a8 T ν) (p:zpg a8 q m):AI (λh=>Ay<|ν h) T=AI (λh=>Ay<|m h) q:=by have y:∀h∈Dv T,AI η' (η h)=Ay h:=by{rw[<- r,Mt]at z;exact ziq (η':=Ay) T<|z.trans (nF T D).symm};have H:∀h,∃k,h∈Dv T->η h=Ay k/\η' k=Ay h:=λh=>by{by_cases l:h∈Dv T;let⟨k,K,L⟩:=zbv (η:=η) (η':=η') (T:=T) G h l (by rw[Dn];exact y h l);exact⟨k,λ_=>⟨K,L⟩⟩;exact⟨0,λh=>absurd h l⟩};let⟨ρ,f⟩:=Classical.axiomOfChoice H;have A:=xH (ρ:=ρ) (η:=η) T [] (λa b M N e=>by{have B:=(f a<|by simpa using M).2;have R:=(f b<|by simpa using N).2;rw[e,R]at B;simpa[Ay]using B.symm}) λh l=>(f h l).1;rw[r]at A;rw[<- r,Mt];refine Gg T λh l=>?_;rw[(f h l).1,Dn];let⟨i,C⟩:=EI.1<|(Od T []).2 (.inr l);let⟨n,S,U⟩:=s i h C;let⟨c,V,W⟩:=p i (ρ h) (by rw[show([]:K2)=([]:K2).map ρ from rfl,A,Cx,C];rfl);rw[S,V,U.unique W]
def DA (t:Y):Bool:=CS t==1||CS t==2||CS t==3
def iv.pt {σ:Sb} {θ:Int->Y} (h:fv σ θ) {t u:Y} (l:iv σ t u):CS (AI θ t)=CS u:=by rw[l.ap h.eq];by_cases e:CS u=9;rw[IM e,h.free _<|l.m6 e,e];rfl;let⟨f,n,x,m,_,p⟩:=nE (θ:=θ) e;rw[p,m];rfl
def wL {a8:K2}:∀k:Nat,∃n:Nat,nh a8 k n:=by have l:∀k:Nat,∃n:Nat,k<=JU a8 n:=by{intro k;induction k with|zero=>exact⟨0,AK _⟩|succ k f=>{obtain⟨n,e⟩:=f;have:∃m:Nat,n<=m/\(m:Int)∉a8:=by{obtain⟨b,p⟩:∃b:Int,∀x∈a8,x<=b:=by{clear e;induction a8 with|nil=>exact⟨0,λx h=>nomatch h⟩|cons a r f=>{obtain⟨b,p⟩:=f;refine⟨max a b,λx hx=>?_⟩;rcases Cu.1 hx with rfl|hx;omega;have:=p x hx;omega}};refine⟨max n (b.toNat+1),by omega,λh=>?_⟩;have:=p _ h;omega};obtain⟨m,q,s⟩:=this;refine⟨m+1,?_⟩;rw[Ei,ac s];have:=O3 (a8:=a8) q;omega}};intro k;let⟨n,e⟩:=l<|k+1;induction n with|zero=>simp[JU]at e|succ n f=>{by_cases y:k+1<=JU a8 n;exact f y;rw[Ei]at e;refine⟨n,?_,?_⟩;intro z;rw[ae z]at e;omega;split at e<;>omega}
noncomputable def FI (a8:L1 Int) (k:Nat):Nat:=(wL (a8:=a8) k).choose
def Oc (a8:K2) (k:Nat):nh a8 k<|FI a8 k:=(wL (a8:=a8) k).choose_spec
def aR (a:Int) (r:K2):∀n:Nat,JU r n<=JU (a::r) n+if 0<=a/\a<n then 1 else 0
 |0=>by simp[JU]
 |n+1=>by have f:=aR a r n;rw[Ei,Ei];by_cases e:(n:Int)∈r;rw[ae e,ae<|H4 _ e];split at f<;>split<;>omega;rw[ac e];by_cases h:(n:Int)=a;subst h;rw[ae<|Wv ..,ae ⟨by omega,by omega⟩];rw[ac<|by omega]at f;omega;rw[ac<|by simp[e,h]];split at f<;>split<;>omega
def yB:∀(a8:K2) (n:Nat),n<=JU a8 n+a8.length
 |[],n=>by have:JU [] n=n:=by{induction n with|zero=>rfl|succ n e=>{rw[Ei,e,ac<|by simp]}};omega
 |a::r,n=>by have h:=yB r n;have f:=aR a r n;rw[C1];split at f<;>omega
def zkf (a8:K2) (k:Nat):FI a8 k<=k+a8.length:=by have:=yB a8<|FI a8 k;rw[(Oc a8 k).2]at this;exact this
mutual
def NY:Tm->Nat
 |.mk _ _ _ ks e=>1+E4 ks+Ex e
def E4:L1 Tm->Nat
 |[]=>0
 |t::r=>NY t+E4 r
end
def uT (t:Tm):1<=NY t:=by cases t;simp[NY];omega
def QA:∀{l:G1},Bb l=true↔∀t∈l,Ax t=true
 |[]=>by simp[Bb]
 |t::r=>by simp[Bb,QA (l:=r)]
def Ar (op:Int) (k p:Nat):Prop:=(op=4/\k=0)\/(op=5/\k=1)\/(op=27/\k=1)\/(op=6/\k=2)\/(op=7/\k=2)\/op=14\/(op=15/\k=1+p)\/(CU op/\k=(B8 op<|Ay 0).1.length)
def Ar.jn {op:Int} {k p:Nat} (h:CU op) (e:k=(B8 op<|Ay 0).1.length):Ar op k p:=.inr<|.inr<|.inr<|.inr<|.inr<|.inr<|.inr ⟨h,e⟩
def iV {op n:Int} {x:Z} {k p:Nat} (h:Bl op n x k p=true):Ar op k p:=by unfold Bl at h;by_cases m:op=1;rw[ae m]at h;have e:k=0:=by{simp only[Am,an]at h;omega};subst m;exact Ar.jn (by unfold CU;decide) (by rw[e];rfl);rw[ac m]at h;by_cases q:op=2;rw[ae q]at h;have e:k=0:=by{simp only[Am,an]at h;omega};subst q;exact Ar.jn (by unfold CU;decide) (by rw[e];rfl);rw[ac q]at h;by_cases r:op=3\/op=21\/op=25\/op=28;rw[ae r]at h;have e:k=0:=by{simp only[Am,an]at h;omega};rcases r with rfl|rfl|rfl|rfl;exact Ar.jn (by unfold CU;decide) (by rw[e];rfl);exact Ar.jn (by unfold CU;decide) (by rw[e];rfl);exact Ar.jn (by unfold CU;decide) (by rw[e];rfl);exact Ar.jn (by unfold CU;decide) (by rw[e];rfl);rw[ac r]at h;by_cases s:op=4;rw[ae s]at h;have e:k=0:=by{simp only[Am,an]at h;omega};subst s;exact .inl ⟨rfl,e⟩;rw[ac s]at h;by_cases y:op=5\/op=27;rw[ae y]at h;have e:k=1:=by{simp only[Am,an]at h;omega};rcases y with rfl|rfl;exact .inr<|.inl ⟨rfl,e⟩;exact .inr<|.inr<|.inl ⟨rfl,e⟩;rw[ac y]at h;by_cases z:op=7;rw[ae z]at h;have e:k=2:=by{simp only[Am,an]at h;omega};subst z;exact .inr<|.inr<|.inr<|.inr<|.inl ⟨rfl,e⟩;rw[ac z]at h;by_cases A:op=8;rw[ae A]at h;have e:k=3:=by{simp only[Am,an]at h;omega};subst A;exact Ar.jn (by unfold CU;decide) (by rw[e];rfl);rw[ac A]at h;by_cases B:op=14;rw[ae B]at h;subst B;exact .inr<|.inr<|.inr<|.inr<|.inr<|.inl O;rw[ac B]at h;by_cases C:op=15;rw[ae C]at h;have e:k=1+p:=by{simp only[Am,an]at h;omega};subst C;exact .inr<|.inr<|.inr<|.inr<|.inr<|.inr<|.inl ⟨rfl,e⟩;rw[ac C]at h;by_cases D:op=16\/op=17\/op=19\/op=20\/op=23\/op=26;rw[ae D]at h;have e:k=1:=by{simp only[Am,an]at h;omega};rcases D with rfl|rfl|rfl|rfl|rfl|rfl;exact Ar.jn (by unfold CU;decide) (by rw[e];rfl);exact Ar.jn (by unfold CU;decide) (by rw[e];rfl);exact Ar.jn (by unfold CU;decide) (by rw[e];rfl);exact Ar.jn (by unfold CU;decide) (by rw[e];rfl);exact Ar.jn (by unfold CU;decide) (by rw[e];rfl);exact Ar.jn (by unfold CU;decide) (by rw[e];rfl);rw[ac D]at h;by_cases f:op=24;rw[ae f]at h;have e:k=1:=by{simp only[Am,an]at h;omega};subst f;exact Ar.jn (by unfold CU;decide) (by rw[e];rfl);rw[ac f]at h;by_cases l:op=6\/op=9\/op=10\/op=11\/op=12\/op=13\/op=18\/op=22;rw[ae l]at h;have e:k=2:=by{simp only[Am,an]at h;omega};rcases l with rfl|rfl|rfl|rfl|rfl|rfl|rfl|rfl;exact .inr<|.inr<|.inr<|.inl ⟨rfl,e⟩;exact Ar.jn (by unfold CU;decide) (by rw[e];rfl);exact Ar.jn (by unfold CU;decide) (by rw[e];rfl);exact Ar.jn (by unfold CU;decide) (by rw[e];rfl);exact Ar.jn (by unfold CU;decide) (by rw[e];rfl);exact Ar.jn (by unfold CU;decide) (by rw[e];rfl);exact Ar.jn (by unfold CU;decide) (by rw[e];rfl);exact Ar.jn (by unfold CU;decide) (by rw[e];rfl);rw[ac l]at h;cases h
def zkh {op n:Int} {x:Z} {ks:G1} {ps:E1} (h:Ax (.mk op n x ks ps)=true):Ar op ks.length ps.length:=by simp only[Ax,Am]at h;exact iV h.1.1
def zal {op n:Int} {x:Z} {ks:G1} {ps:E1} (h:Ax (.mk op n x ks ps)=true):∀t∈ks,Ax t=true:=by simp only[Ax,Am]at h;exact QA.1 h.2
end Go.Hk
namespace Go.Hk
open Go.Proofs
def Hw (b:Bool) (m:Md) (t:Tm) (Γ:At) (τ:Y):Prop:=∃S,Do m t Γ τ S/\S.all DA=b
def IG {b:Bool} {m:Md} {t:Tm} {Γ e:At} {τ:Y} (f:LU t) (l:∀y,JM t y->B5 m e y=B5 m Γ y) (h:Hw b m t Γ τ):Hw b m t e τ:=by obtain⟨S,p,q⟩:=h;exact⟨S,xF O t Γ e τ S f l p,q⟩
def ZS {m:Md} {T y:Tm} {Γ p:At}:∀(l f:G1) (i:Nat) (E:L1<|E1×Y) (S:E1),l.length=f.length->(∀(j:Nat) e,E[j]?=some e->e.1.length=(AX T ((i+j:Nat):Int)).length)->(∀(j:Nat) k k',l[j]?=some k->f[j]?=some k'->∀(ts:E1) (τ:Y) (b:Bool),ts.length=(AX T ((i+j:Nat):Int)).length->Hw b m k (Γ++(AX T ((i+j:Nat):Int)).zip ts) τ->Hw b m k' (p++(AX y ((i+j:Nat):Int)).zip ts) τ)->Ee m l (Nv T Γ i E) S->∃S',Ee m f (Nv y p i E) S'/\S'.all DA=S.all DA
 |[],[],_,[],S,_,_,_,h=>⟨S,h,rfl⟩
 |[],[],_,_::_,_,_,_,_,h=>h.elim
 |k::l,k'::f,i,[],_,_,_,_,h=>h.elim
 |k::l,k'::f,i,e::E,S,q,z,A,⟨S1,B,C,D,G⟩=>by let⟨r,H,K⟩:=A 0 k k' rfl rfl e.1 e.2 _ (z 0 e rfl) ⟨S1,C,rfl⟩;obtain⟨s,L,M⟩:=ZS l f (i+1) E B (by simpa using q) (λj N R=>by rw[show i+1+j=i+(j+1) by omega];exact z (j+1) N<|by simpa using R) (λj a b U V=>by rw[show i+1+j=i+(j+1) by omega];exact A (j+1) a b (by simpa using U)<|by simpa using V) D;exact⟨r++s,⟨r,s,H,L,rfl⟩,by rw[G,Ik,Ik,K,M]⟩
 |[],_::_,_,_,_,q,_,_,_=>by simp at q
 |_::_,[],_,_,_,q,_,_,_=>by simp at q
def Ol {b:Bool} {m:Md} {Γ l:At} {op n n':Int} {x q:Z} {ks mu:G1} {ps f:E1} {τ:Y} (z:op≠4) (A:¬we op->q=x) (B:Hc f=Hc ps) (C:∀p∈ps,BH p=true) (r:∀p∈f,BH p=true) (D:ks.length=mu.length) (G:∀(j:Nat) k k',ks[j]?=some k->mu[j]?=some k'->∀(ts:E1) (τ:Y) (b:Bool),ts.length=(AX (.mk op n x ks ps) (j:Int)).length->Hw b m k (Γ++(AX (.mk op n x ks ps) (j:Int)).zip ts) τ->Hw b m k' (l++(AX (.mk op n' q mu f) (j:Int)).zip ts) τ) (h:Hw b m (.mk op n x ks ps) Γ τ):Hw b m (.mk op n' q mu f) l τ:=by obtain⟨S,⟨K,S1,s,H,L,M⟩,N⟩:=h;obtain⟨E,rfl,R,T⟩:=zd8 (n:=n) (n':=n') (ks:=ks) (mu:=mu) z A B C r H;obtain⟨y,U,V⟩:=ZS ks mu 0 E S1 D (λj e W=>by rw[BU];exact R j e W) (λj k k' a b=>by rw[BU];exact G j k k' a b) L;exact⟨y++s,⟨_,y,s,T l,U,rfl⟩,by rw[<- N,M,Ik,Ik,V]⟩
def Sv {b:Bool} {m:Md} {n:Int} {x:Z} {ps:E1} {Γ:At} {τ:Y}:Hw b m (.mk 4 n x [] ps) Γ τ↔B5 m Γ x=some τ/\b=true:=by constructor;rintro ⟨S,⟨K,S1,p,f,e,h⟩,rfl⟩;rw[gO]at f;obtain⟨rfl,l,rfl⟩:=f;have e:S1=[]:=e;subst e;subst h;exact⟨l,rfl⟩;rintro ⟨q,rfl⟩;exact⟨[],⟨[],[],[],gO▸⟨rfl,q,rfl⟩,rfl,rfl⟩,rfl⟩
def ZT {b:Bool} {m:Md} {n:Int} {x:Z} {k:Tm} {r:G1} {ps:E1} {Γ:At} {τ:Y}:¬Hw b m (.mk 4 n x (k::r) ps) Γ τ:=by rintro ⟨S,⟨K,S1,h,e,f,l⟩,_⟩;rw[gO]at e;obtain⟨rfl,_⟩:=e;exact f.elim
def Z9 {m:Md} {Γ f E l:At} {x y:Z} (h:Iz l y=Iz E x) (p:Iz E x=none->B5 m f y=B5 m Γ x):B5 m (f++l) y=B5 m (Γ++E) x:=by cases e:Iz E x with|some t=>simp only[B5,Oi,h,e]|none=>{have:=p e;simp only[B5,Oi,h,e]at this ⊢;exact this}
def ZA:∀{l:E2} {ts:E1} {j:Nat} {x f y:Z},l[j]?=some x->y≠x->y≠f->Iz ((l.set j f).zip ts) y=Iz (l.zip ts) y
 |[],_,_,_,_,_,h,_,_=>by simp at h
 |a::r,[],_,_,_,_,_,_,_=>by simp
 |a::r,t::ts,0,x,f,y,h,e,m=>by simp at h;subst h;simp only[Sf,qK,Iz,ac<|b9 e,ac<|b9 m]
 |a::r,t::ts,j+1,x,f,y,h,e,m=>by simp only[PC,qK,Iz,ZA (ts:=ts) (show r[j]?=some x by simpa using h) e m]
def Ko {l:E1} (h:l.all CM=true):∀p∈l,BH p=true:=λp e=>by
 have:=Du.1 h p e;simp only[CM,Am]at this;exact this.1.2
def xE {m:Md} (a b:Z) (hb:BW b=true):∀(N:Nat) (t:Tm),DK t<=N->Ax t=true->b∉Bx t->∀(Γ z:At),(∀y,JM t y->y≠a->B5 m z y=B5 m Γ y)->(JM t a->B5 m z b=B5 m Γ a)->∀(τ:Y) (c:Bool),Hw c m (EH t a b) z τ↔Hw c m t Γ τ
 |0,t,D,_,_,_,_,_,_,_,_=>by have:=Rs t;omega
 |N+1,.mk f n x ks p,D,B,hs,Γ,z,F,ha,τ,c=>by have I:=B;have R:=Lg a b hb (.mk f n x ks p) B;simp only[Ax,Am]at B;rw[EH]at R ⊢;by_cases e:f=4;subst e;cases ks with|cons k r=>exact⟨λh=>(ZT h).elim,λh=>(ZT h).elim⟩|nil=>{rw[Ev,Sv,Sv];by_cases S:x=a;rw[show Lc 4 x a b=b by simp[Lc,S],S,ha<|by simp[JM,S]];rw[show Lc 4 x a b=x by simp[Lc,S],F x (by simp[JM]) S]};have hX:Lc f x a b=x:=by{simp[Lc,e]};rw[hX]at R ⊢;have T:∀(l:G1) (i:Int),Ai (.mk f n x l p) i=Ai (.mk f n x ks p) i:=λ_ _=>rfl;have J:∀(k:Nat) (c:Tm),ks[k]?=some c->b∉Bx c/\b∉Ai (.mk f n x ks p) (k:Int):=λk c w=>by{constructor;intro h;exact hs (by simp only[Bx,AT];exact .inr<|I5 0 ks k c w b h);intro h;exact hs (by simp only[Bx,AT];exact .inr<|FC 0 ks k (A9.1 w).1 b<|by simpa using h)};have P:∀(k:Nat) (c:Tm),ks[k]?=some c->DK c<=N:=λk c w=>by{have:=Gw w;simp only[DK]at D;omega};have U:∀(l:G1) (k:Nat),AX (.mk f n x l p) (k:Int)=Ai (.mk f n x ks p) (k:Int):=λl k=>by{rw[KE B.1.2,T]};have V:∀(k:Nat) (c q:Tm),ks[k]?=some c->(Ev (.mk f n x [] p) 0 ks a b)[k]?=some q->∀C:E1,C.length=(Ai (.mk f n x ks p) (k:Int)).length->∀(τ:Y) (d:Bool),Hw d m q (z++(Ai (.mk f n x ks p) (k:Int)).zip C) τ↔Hw d m c (Γ++(Ai (.mk f n x ks p) (k:Int)).zip C) τ:=λk c q D Q C s τ d=>by{let⟨q1,q2⟩:=J k c D;have M:=JH (T:=.mk f n x [] p) (a:=a) (b:=b) (i:=0) D;rw[Q]at M;simp only[Co,BU,T]at M;have K:∀y,JM c y->y∉Ai (.mk f n x ks p) (k:Int)->JM (.mk f n x ks p) y:=λy h1 h2=>(Ls I e y).2 ⟨k,c,D,h1,h2⟩;have W:=Dh c<|E6 B.2 D;have G:=pY s;by_cases E:AR (Ai (.mk f n x ks p) (k:Int)) a=true;rw[ae E]at M;subst M;have g:∀y,JM q y->B5 m (z++(Ai (.mk f n x ks p) (k:Int)).zip C) y=B5 m (Γ++(Ai (.mk f n x ks p) (k:Int)).zip C) y:=λy o=>Np λA=>by{rw[G]at A;exact F y (K y o A) λe=>A<|e▸BN.1 E};exact⟨IG W λy o=>(g y o).symm,IG W g⟩;rw[ac E]at M;subst M;have u:a∉Ai (.mk f n x ks p) (k:Int):=λh=>E<|BN.2 h;refine xE a b hb N c (P k c D) (E6 B.2 D) q1 _ _ (λy o hya=>Np λA=>F y (K y o<|by rwa [G]at A) hya) (λhca=>?_) τ d;rw[Nn (by rw[G];exact q2),Nn (by rw[G];exact u)];exact ha<|K a hca u};have H:=Fs (.mk f n x [] p) a b 0 ks;constructor;refine Ol e (λ_=>rfl) O (Ko B.1.2) (Ko B.1.2) H λj k k' hj L C τ d s v=>?_;rw[U]at s v ⊢;exact(V j k' k L hj C s τ d).1 v;refine Ol e (λ_=>rfl) O (Ko B.1.2) (Ko B.1.2) H.symm λj k k' hj L C τ d s v=>?_;rw[U]at s v ⊢;exact(V j k k' hj L C s τ d).2 v
def vG {M:Md} {fr:E2} {i:Nat} {T k:Tm} {m:E2} (V:Ax T=true) (W:i<C5 T) (p:∀s∈Ai T i,s∈m) (A:∀s∈Bx k,s∈m) (a:FG T i=some k) (B:m.length+(Ai T i).length<=699):∀j,j<=(Ai T i).length->∃k',FG (DZ fr i T m j).2.1 i=some k'/\(∀s∈Bx k',s∈(DZ fr i T m j).2.2)/\∀(Γ:At) (ts:E1) (τ:Y) (b:Bool),ts.length=(Ai T i).length->(Hw b M k' (Γ++(Ai (DZ fr i T m j).2.1 i).zip ts) τ↔Hw b M k (Γ++(Ai T i).zip ts) τ)
 |0,_=>⟨k,a,A,λ_ _ _ _ _=>cm⟩
 |j+1,hj=>by let⟨k',N,R,c⟩:=vG (M:=M) (fr:=fr) V W p A a B j (by omega);let⟨E,d,F,e4,e5,e6,e7,g,I,_⟩:=Gp (fr:=fr) V W p B j (by omega);let⟨x,n⟩:=Aq (show j<(Ai T i).length by omega);rw[Jz n];have l:=I j<|B6 _;generalize DZ fr i T m j=r at *;obtain⟨C,z,o⟩:=r;simp only at *;subst E;rw[n]at l;simp only[FN];by_cases t:AR fr x=true;rw[ae t];let⟨J,u⟩:=HB o (by omega);generalize P:C4 o=f at *;have q:=J0 d N;have D:f∉Bx k':=λh=>u<|R f h;have G:C<(Ai (CH z i<|EH ((FG z i).getD Y1) x f) i).length:=by{rw[CA,g];omega};have Q:Ai (E5 (CH z i<|EH ((FG z i).getD Y1) x f) i C f) i=(Ai z i).set C f:=by{rw[L7 _ G,CA]};have H:=Ul d i;have S:f∉Ai z i:=λh=>u<|F f h;refine⟨EH k' x f,by rw[Ia,GC N,ae O,N];rfl,λs hs=>?_,λΓ ts τ b K=>?_⟩;rcases RM x f k' s hs with h|h;exact Im _<|R s h;exact Il _ (by rw[h];simp);rw[Q,<- c Γ ts τ b K];have L:ts.length=(Ai z i).length:=by{rw[g];exact K};refine xE x f J _ k' (B6 _) q D _ _ (λy hy U=>?_) (λ_=>?_) τ b;refine Z9 (ZA l U λe=>D<|e▸Sr k' y q hy) λ_=>rfl;have v:=rE _ ts H L C x l;have g2:=rE _ ts (VZ H S) (by simpa using L) C f<|Jc (A9.1 l).1;refine Z9 (g2.trans v.symm) λw=>?_;have G:=(A9.1 l).1;rw[v,Bi<|by omega]at w;cases w;rw[ac t];exact⟨k',N,R,c⟩
def zl8 {M:Md} {fr:E2} {i:Nat} {T k:Tm} {m:E2} (q:Ax T=true) (r:i<C5 T) (e:∀s∈Ai T i,s∈m) (f:∀s∈Bx k,s∈m) (y:FG T i=some k) (h:m.length+(Ai T i).length<=699):∃k',FG (EB fr i T m).2.1 i=some k'/\∀(Γ:At) (ts:E1) (τ:Y) (b:Bool),ts.length=(Ai T i).length->(Hw b M k' (Γ++(Ai (EB fr i T m).2.1 i).zip ts) τ↔Hw b M k (Γ++(Ai T i).zip ts) τ):=by let⟨k',l,_,p⟩:=vG (M:=M) (fr:=fr) q r e f y h _<|B6 _;rw[I8]at l p;exact⟨k',l,p⟩
def iF {M:Md} {fr:E2}:∀(k i:Nat) (T:Tm) (m:E2),Ax T=true->i+k=C5 T->(∀l,l<C5 T->i<=l->∀s∈Ai T l,s∈m)->m.length+G8 T k i<=699->∀(l:Nat) (c:Tm),i<=l->FG T l=some c->(∀s∈Bx c,s∈m)->∃q,FG (GG fr k i T m).1 l=some q/\∀(Γ:At) (ts:E1) (τ:Y) (b:Bool),ts.length=(Ai T l).length->(Hw b M q (Γ++(Ai (GG fr k i T m).1 l).zip ts) τ↔Hw b M c (Γ++(Ai T l).zip ts) τ)
 |0,i,T,m,H,r,_,_,l,c,W,C,_=>by have:=RG C;omega
 |k+1,i,T,m,H,r,f,K,l,c,W,h,y=>by simp only[G8]at K;have a:=f i (by omega)<|B6 _;let⟨_,L,d,N,R,g,j,n,_,z,A,S⟩:=Gp (fr:=fr) H (by omega) a (by omega) _<|B6 _;rw[I8]at L d N R g j n z A S;have C:G8 (EB fr i T m).2.1 k (i+1)=G8 T k (i+1):=Ir (λl=>by{obtain⟨_,_,_,_,_,_,_,_,_,_,_,_,o⟩:=A;exact o l}) k<|i+1;have e:∀l,l<C5 (EB fr i T m).2.1->i+1<=l->∀s∈Ai (EB fr i T m).2.1 l,s∈(EB fr i T m).2.2:=λl W t s D=>by{rw[N l (by omega)<|by omega]at D;exact R s<|f l (by omega) (by omega) s D};simp only[GG];by_cases p:l=i;subst p;let⟨q,U,G⟩:=zl8 (M:=M) (fr:=fr) H (by omega) a y h (by omega);let⟨_,_,d3,_⟩:=If (fr:=fr) k (l+1) (EB fr l T m).2.1 (EB fr l T m).2.2 L (by omega) e (by rw[C];omega);let⟨f1,f2⟩:=d3 l<|CN l;rw[f1,f2];exact⟨q,U,G⟩;have B:FG (EB fr i T m).2.1 l=some c:=by{rw[z l p];exact h};let⟨q,U,G⟩:=iF (M:=M) (fr:=fr) k (i+1) (EB fr i T m).2.1 (EB fr i T m).2.2 L (by omega) e (by rw[C];omega) l c (by omega) B λs D=>R s<|y s D;have V:=N l (by have:=RG h;omega) p;rw[V]at G;exact⟨q,U,G⟩
def zov {T e:Tm} (h:QX T e) (i:Nat) (k:Tm):QX T<|CH e i k:=by obtain⟨p,n,x,ks,q⟩:=T;obtain⟨f,r,s,l,m⟩:=e;exact h
def kU {fr:E2} {i:Nat} {T:Tm}:∀(l:E2) (r:Nat×Tm×E2),QX T r.2.1->QX T (l.foldl (FN fr i) r).2.1
 |[],_,h=>h
 |x::l,r,h=>kU l _ (by
  simp only[FN]
  split
  ·exact zld (zov h i _) i _ _
  ·exact h)
def kV {fr:E2} {T:Tm}:∀(k i:Nat) (e:Tm) (m:E2),QX T e->QX T (GG fr k i e m).1
 |0,_,_,_,h=>h
 |k+1,i,e,m,h=>kV k (i+1) _ _<|kU _ _ h
def xD {m:Md} {nm:Z} {S:Tm} {fr:E2} {σ:Y} {I:At} (J:Ax S=true) (sb:∀y,y∈fr↔JM S y) (P:fr.length<=60) (zn:∀(τ:Y) (b:Bool),Hw b m S I τ↔some σ=some τ/\b=true):∀(N:Nat) (t:Tm),DK t<=N->Ax t=true->DK t<=60 ->
  ∀(Γ D:At),B5 m Γ nm=some σ->(∀y∈fr,B5 m D y=B5 m I y)->(∀y,JM t y->y≠nm->B5 m D y=B5 m Γ y)->∀(τ:Y) (b:Bool),Hw b m (Tq nm S fr N t) D τ↔Hw b m t Γ τ
 |0,t,hc,_,_,_,_,_,_,_,_,_=>by have:=Rs t;omega
 |N+1,.mk A n x ks r,hc,G,Q,Γ,D,H,u,hl,τ,b=>by
  by_cases U:AR (EA (.mk A n x ks r) [] []) nm=true
  case neg=>
   have v:¬JM (.mk A n x ks r) nm:=λh=>U<|BN.2<|(Ou G nm).2 h;rw[gR (N+1) _ G v];have K:∀y,JM (.mk A n x ks r) y->B5 m D y=B5 m Γ y:=λy B=>hl y B λe=>v<|e▸B;exact⟨IG (Dh _ G) λy B=>(K y B).symm,IG (Dh _ G) K⟩
  have xk:JM (.mk A n x ks r) nm:=(Ou G nm).1 (BN.1 U);by_cases e:A=4
  ·subst e;have hx:nm=x:=by simpa[JM]using xk
   subst hx;have wd:ks=[]:=by
    simp only[Ax,Am]at G;have:=iV G.1.1;simp[Ar]at this;rcases this with h|h
    ·exact h
    ·exact absurd h.1 (by simp[CU])
   subst wd;rw[Tq,ae U,ae O,Sv,H,<- zn];have K:∀y,JM S y->B5 m D y=B5 m I y:=λy B=>u y<|(sb y).2 B;exact⟨IG (Dh _ J) λy B=>(K y B).symm,IG (Dh _ J) K⟩
  ·rw[zj2 G Q P U e];have htk:=Vv G Q (nm:=nm) P;have a:∀l,l<C5 (.mk A n x ks r)->0<=l->∀s∈Ai (.mk A n x ks r) (l:Int),s∈nm::fr++Bx (.mk A n x ks r):=λl hl _ s hs=>by
    refine Il _ ?_;simp only[Bx,AT];exact .inr<|FC 0 ks l hl s (by simpa using hs)
   have lz:∀l c,FG (.mk A n x ks r) l=some c->∀s∈Bx c,s∈nm::fr++Bx (.mk A n x ks r):=λl c hc s hs=>by
    refine Il _ ?_;simp only[Bx,AT];exact .inr<|I5 0 ks l c hc s hs
   let⟨k1,k2,_,_,k5,_⟩:=If (fr:=fr) ks.length 0 (.mk A n x ks r) (nm::fr++Bx (.mk A n x ks r)) G (by simp[C5]) a htk;have m8:=RQ (fr:=fr) ks.length 0 (.mk A n x ks r) (nm::fr++Bx (.mk A n x ks r)) G (by simp[C5]) a htk;have hhas:=iF (M:=m) (fr:=fr) ks.length 0 (.mk A n x ks r) (nm::fr++Bx (.mk A n x ks r)) G (by simp[C5]) a htk;have hhul:=kV (fr:=fr) ks.length 0 (.mk A n x ks r) (nm::fr++Bx (.mk A n x ks r))<|zbu _;have hmem:∀y∈fr,y∈nm::fr++Bx (.mk A n x ks r):=λy B=>Im _<|H4 _ B;have hmnm:nm∈nm::fr++Bx (.mk A n x ks r):=by simp
   generalize nm::fr++Bx (.mk A n x ks r)=M at *;generalize GG fr ks.length 0 (.mk A n x ks r) M=R at *;obtain⟨TR,mR⟩:=R;simp only at *;obtain⟨f,C,W,p,z⟩:=TR;obtain⟨rfl,rfl,u3,u4⟩:=hhul;have g:∀l:Nat,(Ai (.mk f C W p z) (l:Int)).length=(Ai (.mk f C x ks r) (l:Int)).length:=λl=>by
    obtain⟨_,_,_,_,_,_,_,_,_,_,_,_,hb⟩:=k5;exact hb l
   have hn0:=G;have k10:=k1;simp only[Ax,Am]at G k1;have ux:∀(l:G1) (k:Nat),AX (.mk f C W l z) (k:Int)=Ai (.mk f C W p z) (k:Int):=λl k=>by rw[KE k1.1.2];rfl
   have yu:∀(k:Nat),AX (.mk f C x ks r) (k:Int)=Ai (.mk f C x ks r) (k:Int):=λk=>KE G.1.2 _;have key:∀(l:Nat) (c q:Tm),ks[l]?=some c->(NF (Tq nm S fr N) nm (.mk f C W p z) 0 p)[l]?=some q->∀i:E1,i.length=(Ai (.mk f C x ks r) (l:Int)).length->∀(τ:Y) (d:Bool),Hw d m q (D++(Ai (.mk f C W p z) (l:Int)).zip i) τ↔Hw d m c (Γ++(Ai (.mk f C x ks r) (l:Int)).zip i) τ:=λl c q T V i L τ d=>by
    let⟨c2,f1,fc,f2,f3,f4⟩:=m8 l c (AK _) T<|lz l c T;let⟨c3,g1,g2⟩:=hhas l c (AK _) T<|lz l c T;rw[f1]at g1;cases g1;rw[<- g2 Γ i τ d L];rw[SF,BU,show p[l]?=some c2 from f1]at V;simp only[FQ,Co]at V;have hcn:Ax c2=true:=J0 (T:=.mk f C W p z) k10 f1;have o:=pY<|L.trans (g l).symm;have E:∀y,JM c2 y->y∉Ai (.mk f C W p z) (l:Int)->JM (.mk f C x ks r) y:=λy h1 h2=>by
     obtain⟨w1,w2⟩:=(f2 y).1 ⟨h1,h2⟩;exact(Ls hn0 e y).2 ⟨l,c,T,w1,w2⟩
    by_cases hA:AR (Ai (.mk f C W p z) (l:Int)) nm=true
    ·rw[ae hA]at V;subst V;have K:∀y,JM c2 y->B5 m (D++(Ai (.mk f C W p z) (l:Int)).zip i) y=B5 m (Γ++(Ai (.mk f C W p z) (l:Int)).zip i) y:=λy B=>Np λH=>by
      rw[o]at H;exact hl y (E y B H) λe=>H<|e▸BN.1 hA
     exact⟨IG (Dh _ hcn) λy B=>(K y B).symm,IG (Dh _ hcn) K⟩
    ·rw[ac hA]at V;subst V;have hA':nm∉Ai (.mk f C W p z) (l:Int):=λh=>hA<|BN.2 h;have rT:DK c2<=N:=by
      have:=Gw T;simp only[DK]at hc;omega
     refine xD J sb P zn N c2 rT hcn (by simp only[DK]at hc Q;have:=Gw T;omega) _ _ ?_ (λy B=>?_) (λy B hyn=>Np λH=>hl y (E y B<|by rwa [o]at H) hyn) τ d
     ·rw[Nn (by rw[o];exact hA')];exact H
     ·rw[Nn (by
       rw[o];intro hm;rcases f3 y hm with⟨_,w⟩|w
       ·rw[BN.2 B]at w;cases w
       ·exact w<|hmem y B)]
      exact u y B
   have F:(NF (Tq nm S fr N) nm (.mk f C W p z) 0 p).length=ks.length:=by
    rw[aB];simpa[C5]using k2
   simp only[zqj];constructor
   ·refine Ol e (λhb=>(u3 hb).symm) u4.symm (Ko k1.1.2) (Ko G.1.2) F λj k k' hj hj' i τ d L hT=>?_;rw[ux]at L hT;rw[yu];exact(key j k' k hj' hj i (L.trans<|g j) τ d).1 hT
   ·refine Ol e u3 u4 (Ko G.1.2) (Ko k1.1.2) F.symm λj k k' hj hj' i τ d L hT=>?_;rw[yu]at L hT;rw[ux];exact(key j k k' hj hj' i L τ d).2 hT
end Go.Hk
namespace Go.Hk
def MC:Y:=.mk 0 0 [] []
def XZ (L:L1 Y):Sb:=λn=>if 0<=n then(match L[n.toNat]? with
 |some t=>if CS t=0 then none else some t
 |none=>none)else none
def fy:=@Int.toNat_natCast
def zj0 {L:E1} {i:Nat} {t:Y} (h:L[i]?=some t):XZ L (i:Int)=if CS t=0 then none else some t:=by simp only[XZ];rw[ae<|by omega,fy,h]
def YX (L:E1):XZ (L++[MC])=XZ L:=by funext n;simp only[XZ];split;rcases P9 n.toNat L.length with h|h|h;rw[M2 h];rw[h,Ky<|B6 _,Ma,M4<|B6 _];simp[MC,CS];rw[M4 (by simp;omega),M4<|by omega];rfl
def oj (p:Int×Y):V×V:=(.int .i64 p.1,.agg<|As p.2)
def Ck:L1 (Int×Y)->Sb
 |[]=>λ_=>none
 |p::r=>λn=>if p.1=n then some p.2 else Ck r n
def V8:L1 (Int×Y)->Int->Y->L1 (Int×Y)
 |[],n,t=>[(n,t)]
 |p::r,n,t=>if p.1=n then(p.1,t)::r else p::V8 r n t
abbrev L2:=L1 (Int×Y)
def LL (t:Y) (n:Int):∀M:L2,Ck (V8 M n t)=Gj (Ck M) n t
 |[]=>by funext m;simp only[V8,Ck,Gj];by_cases e:n=m<;>simp[e,fq]
 |p::r=>by funext m;simp only[V8];by_cases e:p.1=n;rw[ae e];simp only[Ck,Gj];by_cases f:m=n;subst f;rw[ae e,ae O];rw[ac f,ac<|by omega,ac<|by omega];rw[ac e];simp only[Ck,LL t n r,Gj];by_cases f:m=n;subst f;rw[ac e,ae O,ae O];rw[ac f,ac f]
def Oy (n m:Int):nz (.int .i64 n) (.int .i64 m)=decide (m=n):=by simp only[nz];by_cases e:m=n;subst e;simp;rw[ap e];simp;exact λh=>e h.symm
def J3 (n:Int):∀M:L2,IE (M.map oj) (.int .i64 n)=(Ck M n).map λt=>.agg (As t)
 |[]=>rfl
 |p::r=>by have f:=J3 n r;simp only[CK,oj,IE,Oy,Ck];by_cases e:p.1=n;rw[bg e,ae e];rfl;rw[ap e,ac e];exact f
def MQ (n:Int) (t:Y):∀M:L2,GE (M.map oj) (.int .i64 n) (.agg<|As t)=(V8 M n t).map oj
 |[]=>rfl
 |p::r=>by have f:=MQ n t r;simp only[CK,oj,GE,Oy,V8];by_cases e:p.1=n;rw[bg e,ae e,CK,e];rfl;rw[ap e,ac e,CK,<- f];rfl
def lW {E:Sb->Y->Y->g5->Prop} (h:∀σ a b r f,E σ a b r->E σ a b f->r=f):∀{xs ys:E1} {σ:Sb} {r f:g5},XP E σ xs ys r->XP E σ xs ys f->r=f
 |[],[],_,_,_,e,m=>Eq.trans e (dw m)
 |a::xs,b::ys,σ,r,f,e,m=>by rcases e with⟨p,rfl⟩|⟨s,p,f1⟩;rcases m with⟨_,rfl⟩|⟨q,l,_⟩;rfl;have:=h _ _ _ _ _ p l;cases this;rcases m with⟨l,_⟩|⟨q,l,f2⟩;have:=h _ _ _ _ _ p l;cases this;have:=h _ _ _ _ _ p l;cases this;exact lW h f1 f2
 |[],_::_,_,_,_,e,_=>e.elim
 |_::_,[],_,_,_,e,_=>e.elim
def zcb {E:Sb->Y->Y->g5->Prop} (h:∀σ a b r m,E σ a b r->E σ a b m->r=m) {σ:Sb} {u v:Y} {r m:g5} (p:EC E σ u v r) (q:EC E σ u v m):r=m:=by by_cases l:CS u=9;by_cases f:CS v=9;by_cases e:num u=num v;have a:r=some σ:=by{simpa[EC,l,f,e]using p};have b:m=some σ:=by{simpa[EC,l,f,e]using q};rw[a,b];have a:r=some (Gj σ (max (num u) (num v))<|Ay<|min (num u) (num v)):=by{simpa[EC,l,f,e]using p};have b:m=some (Gj σ (max (num u) (num v))<|Ay<|min (num u) (num v)):=by{simpa[EC,l,f,e]using q};rw[a,b];by_cases o:ow σ (num u) v;have a:r=none:=by{simpa[EC,l,f,o]using p};have b:m=none:=by{simpa[EC,l,f,o]using q};rw[a,b];have a:r=some (Gj σ (num u) v):=by{simpa[EC,l,f,o]using p};have b:m=some (Gj σ (num u) v):=by{simpa[EC,l,f,o]using q};rw[a,b];by_cases f:CS v=9;by_cases o:ow σ (num v) u;have a:r=none:=by{simpa[EC,l,f,o]using p};have b:m=none:=by{simpa[EC,l,f,o]using q};rw[a,b];have a:r=some (Gj σ (num v) u):=by{simpa[EC,l,f,o]using p};have b:m=some (Gj σ (num v) u):=by{simpa[EC,l,f,o]using q};rw[a,b];by_cases o:JF u v;have a:XP E σ (HJ u) (HJ v) r:=by{simpa[EC,l,f,o]using p};have b:XP E σ (HJ u) (HJ v) m:=by{simpa[EC,l,f,o]using q};exact lW h a b;have a:r=none:=by{simpa[EC,l,f,o]using p};have b:m=none:=by{simpa[EC,l,f,o]using q};rw[a,b]
def lZ:∀(k:Nat) (σ:Sb) (a b:Y) (r e:g5),bB k σ a b r->bB k σ a b e->r=e
 |0,_,_,_,_,_,h,_=>h.elim
 |k+1,σ,a,b,r,e,⟨u,v,f,l,m⟩,⟨y,z,p,q,s⟩=>by obtain rfl:=uL f p;obtain rfl:=uL l q;exact zcb (lZ k) m s
def zls {k k':Nat} {σ:Sb} {a b:Y} {r e:g5} (h:bB k σ a b r) (f:bB k' σ a b e):r=e:=lZ (max k k') σ a b r e (Rf (Nat.le_max_left _ _) h)<|Rf (Nat.le_max_right _ _) f
def Xk {H:Nat} {k:Nat} {σ:Sb} {θ:Int->Y} {a b:Y} {r:g5} (h:bB k σ a b r) (e:fv σ θ) (f:mb H σ) (l:CY a=true) (m:CY b=true) (p:gr H a) (q:gr H b):zmc H σ a b r:=by let⟨z,A,s,y⟩:=xU H (YF H σ) (Fz<|AI θ a) σ θ a b e f (B6 _) (λ_=>B6 _) l m p q;rw[zls h s];exact y
def Xz {a:Int} {r:K2} (h:a∉r):∀n:Nat,JU (a::r) n+(if 0<=a/\a<n then 1 else 0)<=JU r n
 |0=>by rw[ac<|by omega];simp[JU]
 |n+1=>by have f:=Xz h n;rw[Ei,Ei];by_cases l:(n:Int)=a;subst l;rw[ae<|Wv ..,ae ⟨by omega,by omega⟩,ac h];rw[ac<|by omega]at f;omega;by_cases e:(n:Int)∈r;rw[ae e,ae<|H4 _ e];split at f<;>split<;>omega;rw[ac e,ac<|by simp[e,l]];split at f<;>split<;>omega
def SN:∀{l:K2} {n:Nat},l.Nodup->(∀x∈l,0<=x/\x<n)->l.length+JU l n<=n
 |[],n,_,_=>by have:∀n,JU [] n=n:=λn=>by{induction n with|zero=>rfl|succ n h=>{rw[Ei,h,ac<|by simp]}};simp[this]
 |a::r,n,e,f=>by rw[GI]at e;have m:=Xz e.1 n;rw[ae<|f a<|by simp]at m;have q:=SN e.2 λx p=>f x (by simp[p]);rw[C1];omega
mutual
def Sx:∀(t:Y) (l:K2),l.Nodup->(D5 t l).Nodup
 |.mk f n x m,l,h=>by simp only[D5];split;split;exact h;rename_i p;rw[D2];exact⟨h,by simp,λa q b r e=>by rw[AJ.1 r]at e;exact p<|e▸q⟩;exact WW m l h
def WW:∀(ts:E1) (l:K2),l.Nodup->(CF ts l).Nodup
 |[],l,h=>h
 |t::r,l,h=>by simp only[CF];exact WW r _<|Sx t l h
end
def G0:At->L1 Int->L1 Int
 |[],l=>l
 |p::r,l=>G0 r<|D5 p.2 l
def Vy:∀(Γ:At) (p:Z×Y) (l:K2),G0 (Γ++[p]) l=D5 p.2 (G0 Γ l)
 |[],p,l=>rfl
 |q::r,p,l=>by simp only[DV,G0,Vy r p]
theorem jD {m:Int}:∀(Γ:At) (l:K2),m∈G0 Γ l↔m∈l\/∃p∈Γ,m∈Dv p.2
 |[],l=>by simp[G0]
 |p::r,l=>by simp only[G0,jD r,Od];grind
def Vx:∀(Γ:At) (l:K2),l.Nodup->(G0 Γ l).Nodup
 |[],l,h=>h
 |p::r,l,h=>Vx r _<|Sx p.2 l h
def oC {B:Nat} {Γ:At} (h:∀p∈Γ,gr B p.2):(G0 Γ []).length<=B:=by have:=SN (n:=B) (Vx Γ []<|by simp) λx e=>by{rcases(jD Γ []).1 e with e|⟨p,f,e⟩;cases e;exact h p f x e};omega
mutual
def eC (op:Int) (s:Z):Tm->Bool
 |.mk o _ x ks _=>(o==op&&x==s)||lB op s ks
def lB (op:Int) (s:Z):L1 Tm->Bool
 |[]=>false
 |t::r=>eC op s t||lB op s r
end
mutual
def Ue (op:Int):Tm->Bool
 |.mk o _ _ ks _=>o==op||PO op ks
def PO (op:Int):L1 Tm->Bool
 |[]=>false
 |t::r=>Ue op t||PO op r
end
inductive qr (m:Md) (a:Nat):Nat->Prop
 |base:qr m a a
 |step {j k:Nat} {f g:Fd}:qr m a j->m.cc[j]?=some f->m.cc[k]?=some g->eC 4 g.name f.body=true->qr m a k
noncomputable def zh0 (m:Md) (a:Nat) (op:Int):Bool:=open Classical in decide (∃j f,qr m a j/\m.cc[j]?=some f/\Ue op f.body=true)
noncomputable def zlw (m:Md) (a:Nat):L1 Int:=((List.range 13).map λi:Nat=>16+(i:Int)).filter<|zh0 m a
def BodS (m:Md) (f:Fd):Prop:=∃N,Do m f.body [(f.il,f.from_)] f.kj N/\(∀S,Do m f.body [(f.il,f.from_)] f.kj S->∃e,N.map (AI e)=S)/\N.all DA=true
noncomputable def PU (m:Md) (f:Fd):Bool:=open Classical in decide (BodS m f)
def Wm:Z:=[109,97,105,110]
def zog (m:Md):Bool:=m.cc.any λf=>f.name==Wm&&CS f.from_==3
def Yr (p:Nat->Bool):Nat->Nat->Option Nat
 |_,0=>none
 |i,n+1=>if p i then some i else Yr p (i+1) n
def pK {η:Int->Y} {t:Y} (h:DA t=true):DA (AI η t)=true:=by have l:CS t≠9:=by{intro e;simp[DA,e]at h};let⟨f,n,x,m,_,p⟩:=nE (θ:=η) l;rw[p];rw[m]at h;exact h
open Classical in
theorem zif {m:Md} {f:Fd} {N:E1} (h:Do m f.body [(f.il,f.from_)] f.kj N) (q:∀S,Do m f.body [(f.il,f.from_)] f.kj S->∃η,N.map (AI η)=S):PU m f=N.all DA:=by unfold PU;cases l:N.all DA with|true=>exact bg ⟨N,h,q,l⟩|false=>{refine ap λ⟨y,z,r,p⟩=>?_;let⟨η,e⟩:=r N h;have:N.all DA=true:=by{rw[<- e,Sg];rw[Du]at p ⊢;exact λt s=>pK<|p t s};rw[l]at this;cases this}
open Classical in
theorem zig {m:Md} {f:Fd} (h:∀S,¬Do m f.body [(f.il,f.from_)] f.kj S):PU m f=false:=by unfold PU;exact ap λ⟨N,e,_⟩=>h N e
def uV {b:Bool} {s n:Int} {x:Z} {k:Nat} (h:Dw b s n x k=true):s≠0/\k<=3/\(s=9->b=true/\x=[]/\k=0/\0<=n/\n<=99)/\(s≠9->n=0):=by unfold Dw at h;by_cases l:s=1\/s=2\/s=3;rw[ae l]at h;simp only[Am,an]at h;refine⟨by omega,by omega,λe=>by omega,λ_=>h.1.2⟩;rw[ac l]at h;by_cases m:s=4;rw[ae m]at h;simp only[Am,an]at h;refine⟨by omega,by omega,λe=>by omega,λ_=>h.1.2⟩;rw[ac m]at h;by_cases p:s=5\/s=6\/s=7;rw[ae p]at h;simp only[Am,an]at h;refine⟨by omega,by omega,λe=>by omega,λ_=>h.1.2⟩;rw[ac p]at h;by_cases q:s=8;rw[ae q]at h;simp only[Am,an]at h;refine⟨by omega,by omega,λe=>by omega,λ_=>h.1.2⟩;rw[ac q]at h;by_cases f:s=9;rw[ae f]at h;simp only[Am,an,EK,am]at h;refine⟨by omega,by omega,λ_=>⟨h.1.1.1,h.1.2,by omega,by omega,by omega⟩,λe=>absurd f e⟩;rw[ac f]at h;cases h
mutual
def I6 {b:Bool}:∀t:Y,DN b t=true->CY t=true/\gr 100 t/\(b=false->Dv t=[])
 |.mk s n x l,h=>by simp only[DN,Am]at h;let⟨p,q,r,y⟩:=uV h.1;let⟨z,A,B⟩:=YP l h.2;by_cases e:s=9;let⟨C,D,G,L,M⟩:=r e;have:l=[]:=Nh.1 G;subst this;subst D;subst e;refine⟨by simp[CY,GT],λm f=>?_,λe=>by rw[C]at e;cases e⟩;simp[Dv]at f;omega;have H:=y e;subst H;refine⟨?_,λm f=>?_,λK=>?_⟩;simp[CY,e,p,q,z];simp only[Dv,ac e]at f;exact A m f;simp only[Dv,ac e];exact B K
def YP {b:Bool}:∀l:E1,DG b l=true->GT l=true/\(∀m∈D4 l,0<=m/\m<100)/\(b=false->D4 l=[])
 |[],_=>by simp[GT,D4]
 |t::r,h=>by simp only[DG,Am]at h;let⟨p,q,s⟩:=I6 t h.1;let⟨y,z,A⟩:=YP r h.2;refine⟨by simp[GT,p,y],λm e=>?_,λf=>by simp[D4,s f,A f]⟩;simp only[D4,AT]at e;exact e.elim (q m)<|z m
end
def nI (w:World):TA:=λb=>w.heap[b]?
def QF (k:D->Option V):L1 D->Option (L1 V)
 |[]=>some []
 |d::r=>match k d,QF k r with
  |some x,some e=>some (x::e)
  |_,_=>none
def Ry (k:D->L1 Nat):L1 D->L1 Nat
 |[]=>[]
 |d::r=>k d++Ry k r
def HO (st:St):Nat->D->Option V
 |0,_=>none
 |f+1,d=>match d with
  |.Kp x=>some x
  |.NB=>some (.sl [])
  |.ip t m e=>some (.ip t m e)
  |.gt es=>some (.sl es)
  |.own id _=>match lk st id with
   |some (some (.row _ _ es))=>some (.sl es)
   |_=>none
  |.cf id=>match lk st id with
   |some (some (.map p))=>some (.l8 p)
   |_=>none
  |.ref id e=>match lk st id with
   |some (some (.NA t _ h))=>some (.ip t h e)
   |some (some (.cells t _ l))=>match QF (HO st f) l with
    |some h=>some (.ip t h e)
    |none=>none
   |_=>none
  |.agg l=>match QF (HO st f) l with
   |some h=>some (.agg h)
   |none=>none
  |.fn g a b=>match QF (HO st f) a,QF (HO st f) b with
   |some h,some q=>some (.lj g h q)
   |_,_=>none
  |_=>none
def HP (st:St):Nat->D->L1 Nat
 |0,_=>[]
 |f+1,d=>match d with
  |.own id _=>[id]
  |.cf id=>[id]
  |.ref id _=>match lk st id with
   |some (some (.cells _ _ e))=>id::Ry (HP st f) e
   |_=>[id]
  |.agg e=>Ry (HP st f) e
  |.fn _ a b=>Ry (HP st f) a++Ry (HP st f) b
  |_=>[]
structure zi6 where
 f:FuncId
 vs:List V
 rd:List Nat
 g:Option (Bool×Bool)
 ob:List Prop
 dst:Option Nat
 todo:List DI
def pL (n:Nat) (st:St) (all:L1 Oper) (o:Oper) (env:Env) (todo:L1 DI) (f:FuncId) (a b:L1 D) (args:L1 Operand):Option zi6 :=
 match CQ all env o with
 |some g=>match KQ (A1 g) env args with
  |some (e,ob)=>match QF (HO st 6) (a++e++b),Cs n o.dst with
   |some h,true=>match B4 todo (Ry (HP st 6)<|a++e++b,[])with
    |some (_,_,s)=>match o.dst with
     |some t=>some ⟨f,h,Ry (HP st 6)<|a++e++b,g,ob,some t,s⟩
     |none=>some ⟨f,h,Ry (HP st 6)<|a++e++b,g,ob,none,s⟩
    |none=>none
   |_,_=>none
  |none=>none
 |none=>none
def zet (n:Nat) (env:Env) (st:St) (todo:L1 DI):Option zi6 :=
 match B4 todo ([],[])with
 |some (all,o,_)=>match o.op with
  |.call { callee:=.value (.func f),args:=⟨args⟩,.. }=>pL n st all o env todo f [] [] args
  |.call { callee:=.value (.tmp t),args:=⟨args⟩,.. }=>match lk env t with
   |some (.Kp (.fn (.func f)))=>pL n st all o env todo f [] [] args
   |some (.Kp (.lj (.func f) a b))=>pL n st all o env todo f (a.map .Kp) (b.map .Kp) args
   |some (.fn (.func f) a b)=>pL n st all o env todo f a b args
   |_=>none
  |_=>none
 |none=>none
def uW:V->Bool
 |.cg e=>H0 e
 |x=>Kk x
section
variable {P:Program} {n:Nat} {F:K1} {Q:DQ} {r:TT} {env l:Env} {st au:St} {aa Kr:K1} {k todo s:S6} {I J:TA} {μ:Mu} {w:World} {a:Act} {Pn:V->Prop} {d:D} {y:Prop} {ob:T0}
def zJ {v:Value} {x:V} (h:uW x=true) (p:PB J v x):PB I v x:=by cases p with|cg q e z A=>refine .cg q e z λi c x B m=>?_;have C:∀{e:G2} {i:Nat} {x:V},H0 e=true->e[i]?=some x->Kk x=true:=by{intro e;induction e with|nil=>intro i x _ h;simp at h|cons y r D=>{intro i x f h;simp only[H0,Am]at f;cases i with|zero=>simp at h;subst h;exact f.1|succ i=>{exact D f.2<|by simpa using h}}};exact Ic (C h m) (A i c x B m)|bool b=>exact .bool b|int k n=>exact .int k n|str s l f=>exact .str s l f|_=>{simp[uW,Kk]at h}
def Lj {q:D->Option V} {μ:Mu} (f:∀d x v,q d=some x->X I μ v d->PB J v x):∀{vs:R0} {ds:R1} {xs:G2},QF q ds=some xs->TB I μ vs ds->Ts J vs xs
 |[],ds,xs,h,e=>by cases ds with|nil=>cases h;exact .nil|cons d ds=>{simp[TB]at e}
 |v::vs,ds,xs,h,e=>by cases ds with|nil=>simp[TB]at e|cons d ds=>{obtain⟨l,m⟩:=e.cons;simp only[QF]at h;split at h;{cases h;exact .mk (f _ _ _ (by assumption) l)<|Lj f (by assumption) m};cases h}
def YA (s:No I μ st aa w):∀(f:Nat) (d:D) (x:V) (v:Value),HO st f d=some x->X I μ v d->PB (nI w) v x
 |0,_,_,_,h,_=>by simp[HO]at h
 |f+1,d,x,v,h,C=>by have r:I.le<|nI w:=λb o h=>s.Kp b o h;have W:=YA s f;simp only[HO]at h;split at h;cases h;exact C.Ks.mono r;cases h;cases C;exact .slnil;cases h;exact C.ipV.mono r;cases h;cases C with|gt a n es h=>{exact h.mono r};split at h;rename_i H;cases h;cases C with|own id n a L M=>{let⟨g,A,P⟩:=s.SB _ _ H;rw[M]at A;cases A;exact W6 P r λb _=>rfl};cases h;split at h;rename_i H;cases h;cases C with|cf id b M=>{obtain⟨g,A,b',es,N,rfl,y,B,Q,F⟩:=s.SB _ _ H;rw[M]at A;cases A;exact .l8 b es N _ y B Q (λi e p S T=>(F i e p S T).1.mono r) λi e p S T=>(F i e p S T).2.mono r};cases h;have U:∀{t:TypeId} {z:Nat} {vs:Array Value} {K:G2} {R:Nat},v=.pointer (some ⟨R,z,none⟩)->w.heap[R]?=some (.cells vs t (0,0))->Ts (nI w) vs.toList K->(∀v∈vs.toList,v.oneCell'=true)->PB (nI w) v (.ip t K z):=by{intro t z vs K R hv l m q;subst hv;have:=PB.ip (I:=nI w) R 0 t K z (λj=>(vs[j]?).getD undef) (λj x G=>?_) λj x G=>?_;simpa using this;have k:j<vs.size:=by{have:=m.1;have:=(A9.1 G).1;simp at *;omega};have:nI w R=some (.cells vs t (0,0)):=l;simp only[TA.cell,this,BU,Si k,ID,ax];exact q _ (by simp);have k:j<vs.size:=by{have:=m.1;have:=(A9.1 G).1;simp at *;omega};simp only[Si k,ID];exact m.2 j _ x (by simp[k]) G};split at h;rename_i H;cases h;cases C with|ref b id z M=>{obtain⟨g,A,hs,R,vs,rfl,l,m,q⟩:=s.SB _ _ H;rw[M]at A;cases A;exact U O l (m.mono r) q};rename_i H;split at h;rename_i K G;cases h;cases C with|ref b id z M=>{obtain⟨g,A,hs,R,vs,rfl,l,m,q⟩:=s.SB _ _ H;rw[M]at A;cases A;exact U O l (Lj W G m) q};cases h;cases h;split at h;rename_i K G;cases h;cases C with|agg J ds H y hh=>{have:=Lj (vs:=J.toList) W G ⟨by simpa using H,λi v d y B=>hh i v d (by simpa using y) B⟩;exact .agg J K (by simpa using this.1) y λi c x y B=>this.2 i c x (by simpa using y) B};cases h;{split at h;{rename_i K ys G hy;cases h;cases C with|fn _ first L df dc hf hc y B=>{have S:=Lj (vs:=first.toList) W G ⟨by simpa using hf,λi v d u E=>y i v d (by simpa using u) E⟩;have T:=Lj (vs:=L.toList) W hy ⟨by simpa using hc,λi v d u E=>B i v d (by simpa using u) E⟩;exact .lj _ first L K ys (by simpa using S.1) (by simpa using T.1) (λi c x y B=>S.2 i c x (by simpa using y) B) λi c x y B=>T.2 i c x (by simpa using y) B}};cases h};cases h
def jf.sub {r s:K1} (h:jf r st au) (e:∀i∈s,i∈r):jf s st au:=λi f=>h i<|e i f
def Ii {q f:D->Option V} {r:D->K1} (h:∀d,jf (r d) st au->f d=q d):∀{ds:R1},jf (Ry r ds) st au->QF f ds=QF q ds
 |[],_=>rfl
 |d::l,m=>by simp only[QF];rw[h d<|m.sub λi e=>by simp[Ry,e],Ii h<|m.sub λi e=>by simp[Ry,e]]
def Ta {st au:St}:∀(f:Nat) (d:D),jf (HP st f d) st au->HO au f d=HO st f d
 |0,_,_=>rfl
 |f+1,d,h=>by have l:=Ta (st:=st) (au:=au) f;cases d with|own id n=>simp only[HO];rw[h id<|by simp[HP]]|cf id=>simp only[HO];rw[h id<|by simp[HP]]|ref id p=>have m:lk au id=lk st id:=h id (by simp only[HP];split<;>simp);simp only[HO];rw[m];split;rfl;rename_i q r;rw[Ii l (h.sub λi e=>by simp only[HP,r];simp[e])];rfl|agg q=>simp only[HO];rw[Ii l (h.sub λi e=>by simp only[HP];exact e)]|fn g a b=>simp only[HO];rw[Ii l (h.sub λi e=>by simp only[HP];simp[e]),Ii l (h.sub λi e=>by simp only[HP];simp[e])]|_=>{rfl}
abbrev j3:=Option (Bool×Bool)
def zkv {all:L1 Oper} {o:Oper} {f:FuncId} {hU:R1} {vs:G2} {v:V} {m:Nat} {g:j3} (C:CQ all env o=some g) (G:Gz P o env f hU<|A1 g) (H:QF (HO st m) hU=some vs) (K:uW v=true) (L:A1 g->Ji P f vs v):LD P Pn all o env st (Ry (HP st m) hU) [] []<|gD g<|.Kp v:=by refine Eo C λI μ a7 B a w y e q r=>?_;let⟨M,N,R⟩:=G I μ a w q r;rw[R];have z:QF (HO a7 m) hU=some vs:=by{rw[Ii (Ta m) y,H]};have S:=Lj (YA e m) z N;have s:No (nI w) μ [] [] w:={ Kp:=λb o h=>h,SB:=λi b h=>by simp[A2,lk]at h,apart:=λi b g k h=>by simp[A2,lk]at h,inj:=λi j T t x E k h=>by simp[A2,lk]at h,nodup:=.nil,PA:=λi h=>by cases h };have p:∀b,¬Ba μ [] b:=λb ⟨i,T,g,h,_⟩=>by{simp[A2,lk]at h};refine(L r (nI w) μ w M s S.Kp).mono (λu w' U=>?_) λ_ _ h=>h.elim;obtain⟨F,W,c,J,Q,l⟩:=U;have A:∀b o,I b=some o->b<w.heap.size:=λb o h=>by{have:=e.Kp b o h;exact(Ht.1 this).1};refine⟨I,μ,e.other l.size (λb o h=>l.block b (A b o h)<|p b) λb d=>l.block b (F3 e d)<|p b,?_,Mu.le_refl μ,{ Kp:=TA.le_refl I,os:=l.os,tape:=l.tape,output:=l.output,size:=l.size,block:=λb n _=>l.block b n<|p b,fresh:=λ_ _ h=>h,gz:=λ_ _ _=>rfl }⟩;exact .Kp _ _<|zJ K c.Ks
def Uj {o:Oper} {t:Nat} {f:FuncId} {args:c8} {ts:Array TypeId} {ds:R1} {df dc:G2} (q:o.op=.call { callee:=.value<|.tmp t,args:=⟨args⟩,argTypes:=ts }) (s:lk env t=some (.Kp<|.lj (.func f) df dc)) (z:KQ y env args=some (ds,ob)) (p:A8 ob):Gz P o env f (df.map .Kp++ds++dc.map .Kp) y:=by intro I μ a w e A;rw[q]at e;have h:=II (I:=I) (μ:=μ) (a:=a) A z p λx B=>e x (by simp[Op.operands,Call.operands,B]);have r:=(e (.tmp t) (by simp[Op.operands,Call.operands]) _ s).Ks;generalize l:a.eval (.tmp t)=v at r;cases r with|lj _ first m _ _ C G H K=>{refine⟨first++(args.map a.eval).toArray++m,?_,?_⟩;{simp only[Nl];have L:Ts I first.toList df:=⟨by simpa using C,λi v d l h=>H i v d (by simpa using l) h⟩;have M:Ts I m.toList dc:=⟨by simpa using G,λi v d l h=>K i v d (by simpa using l) h⟩;exact TB.append (TB.append L.Kp h) M.Kp};simp only[execOp,q,resolve,l,Deferred.ofValue,ak,al,ah,invoke];congr 3;simp}
def zeu {all:L1 Oper} {o:Oper} {f:FuncId} {a b:R1} {args:c8} {c:zi6} (h:pL n st all o env todo f a b args=some c):∃g ds ob vs s,CQ all env o=some g/\KQ (A1 g) env args=some (ds,ob)/\QF (HO st 6) (a++ds++b)=some vs/\Cs n o.dst=true/\(∃p q,B4 todo (Ry (HP st 6)<|a++ds++b,[])=some (p,q,s))/\c=⟨f,vs,Ry (HP st 6)<|a++ds++b,g,ob,o.dst,s⟩:=by unfold pL at h;split at h;rename_i g l;split at h;rename_i ds ob m;split at h;rename_i vs r y;split at h;rename_i p q s z;split at h;rename_i t e;cases h;exact⟨g,ds,ob,vs,s,l,m,r,y,⟨p,q,z⟩,by rw[e]⟩;rename_i e;cases h;exact⟨g,ds,ob,vs,s,l,m,r,y,⟨p,q,z⟩,by rw[e]⟩;cases h;cases h;cases h;cases h
def Oq {f:FuncId} {vs:G2} {rd:K1} {g:j3} {dst:g6} {s:S6} {v:V} (h:zet n env st todo=some ⟨f,vs,rd,g,ob,dst,s⟩) (T:A1 g->Ji P f vs v) (U:uW v=true) (e:A8 ob) (W:G P n F Q s (Cn dst (gD g<|.Kp v) env) st aa):G P n F Q todo env st aa:=by have z:∀{all:L1 Oper} {o:Oper} {C:FuncId} {a b:R1} {l:c8} {t:S6},B4 todo ([],[])=some (all,o,t)->pL n st all o env todo C a b l=some ⟨f,vs,rd,g,ob,dst,s⟩->(∀c,o.op≠.defer c)->(∀{L:R1} {y:Prop} {ob:T0},KQ y env l=some (L,ob)->A8 ob->Gz P o env C (a++L++b) y)->G P n F Q todo env st aa:=by{intro all o C a b l t m d r A;let⟨g',L,i,j,M,k,u,w,x,⟨p,q,N⟩,E⟩:=zeu d;let⟨I,J⟩:=LY m N;subst I;subst J;cases E;exact Cc (fr:=[]) (wr:=[]) N (zkv k (A u e) w U T) x r W};unfold zet at h;split at h;rename_i all o t m;have r:∀R,o.op=.call R->∀c,o.op≠.defer c:=λR h c S=>by{rw[h]at S;cases S};split at h;rename_i C l ts B;exact z m h (r _ B) λH e=>by{simpa using HH B H e};rename_i t' l ts B;split at h;rename_i C K;exact z m h (r _ B) λH e=>by{simpa using GR B K H e};rename_i C a b K;exact z m h (r _ B) λH e=>Uj B K H e;rename_i C a b K;exact z m h (r _ B) λH e=>KR B K H e;cases h;cases h;cases h
end
end Go.Hk
namespace Go.Hk
mutual
def Wj (id:Nat) (es:L1<|V×V):D->D
 |.cf i=>bif Nat.beq i id then .Kp (.l8 es)else .cf i
 |.agg e=>Kv (Yh id es e)
 |.cg e=>.cg (Yh id es e)
 |.fn f a b=>.fn f (Yh id es a) (Yh id es b)
 |.iface t d=>match Wj id es d with
  |.Kp x=>.Kp (.iface t x)
  |d'=>.iface t d'
 |.guard c w d=>.guard c w (Wj id es d)
 |d=>d
def Yh (id:Nat) (es:L1<|V×V):L1 D->L1 D
 |[]=>[]
 |d::r=>Wj id es d::Yh id es r
end
def wg (id:Nat) (es:L1<|V×V):Env->Env
 |[]=>[]
 |(t,d)::r=>(t,Wj id es d)::wg id es r
def zko (id:Nat) (es:L1<|V×V):fp->fp
 |.cells t e f=>TG t e (Yh id es f)
 |b=>b
def Yg (id:Nat) (es:L1<|V×V):St->St
 |[]=>[]
 |(i,some b)::r=>(i,some<|zko id es b)::Yg id es r
 |(i,none)::r=>(i,none)::Yg id es r
def Jp (id:Nat) (es:c7):∀l:R1,Yh id es l=l.map (Wj id es)
 |[]=>rfl
 |d::r=>by simp[Yh,Jp id es r]
section
variable {P:Program} {n:Nat} {F:K1} {Q:DQ} {r:TT} {env:Env} {st:St} {aa:K1} {todo:S6} {I J:TA} {μ:Mu} {w:World} {id:Nat} {es:c7} {g:Value}
def X.mfr {v:Value} {d:D} (h:X I μ v d) (B:I.le J) (j:μ id=some g) (R:PB J g<|.l8 es):X J μ v<|Wj id es d:=by have s:∀{l:R1} {i:Nat} {x:D},(Yh id es l)[i]?=some x->∃y,l[i]?=some y/\x=Wj id es y:=by{intro l i x m;rw[Jp,Cx]at m;cases A:l[i]? with|none=>rw[A]at m;cases m|some y=>{rw[A]at m;cases m;exact⟨y,rfl,rfl⟩}};induction h with|undef v=>exact .undef v|Kp v x m=>exact .Kp v x (m.mono B)|NB=>exact .NB|ref b id r e=>exact .ref b id r e|ip b o t K r S C L=>exact(X.ip b o t K r S C L).mono B (Mu.le_refl μ)|agg K W A G _ z=>have:X J μ (.agg K.toList.toArray)<|Kv<|Yh id es W:=J2 ⟨by rw[Jp,CD,<- A];simp,λi c x M m=>by{obtain⟨y,H,rfl⟩:=s m;exact z i c y (by simpa using M) H}⟩ G;simpa[Wj]using this|cg K W A _ z=>refine .cg K _ (by rw[Jp,CD,A]) λi c x M m=>?_;obtain⟨y,H,rfl⟩:=s m;exact z i c y M H|own i p a q e=>exact .own i p a q e|ky b id p q k n f e=>exact .ky b id p q k n f e|cf i b e=>{simp only[Wj];cases u:Nat.beq i id with|false=>exact .cf i b e|true=>{rw[Dm u,j]at e;cases e;exact .Kp _ _ R}}|iter id b e=>exact .iter id b e|fn f first q Q dc w M _ _ T U=>refine .fn f first q _ _ (by rw[Jp,CD,w]) (by rw[Jp,CD,M]) (λi c x G V=>?_) λi c x G V=>?_;obtain⟨y,H,rfl⟩:=s V;exact T i c y G H;obtain⟨y,H,rfl⟩:=s V;exact U i c y G H|iface t v d _ z=>simp only[Wj];split;rename_i x m;rw[m]at z;exact .Kp _ _<|.iface t v x z.Ks;exact .iface t v _ z|guard c N v d _ E z=>exact .guard c N v _ z E|gt a p es R=>exact .gt a p es (R.mono B)|ml b id r p q e A m=>exact .ml b id r p q e A m|jv b id e=>exact .jv b id e|eR v h=>exact .eR v h|hv v id i S F e P G=>{exact .hv v id i S F e P G}
def eb.mfr {m:Value} {SB:fp} (h:eb I μ w m SB) (e:I.le J) (q:μ id=some g) (r:PB J g<|.l8 es):eb J μ w m<|zko id es SB:=by cases SB with|cells t D s=>{obtain⟨z,b,G,rfl,A,p,B⟩:=h;refine J1 A ⟨by rw[Jp,CD,p.1],λi v x C f=>?_⟩ B (by rw[Jp,CD,z]);rw[Jp,Cx]at f;cases l:s[i]? with|none=>rw[l]at f;cases f|some y=>{rw[l]at f;cases f;exact(p.2 i v y C l).mfr e q r}}|_=>{exact h.mono e<|Mu.le_refl μ}
def Sd {i:Nat} {b:fp}:∀{st:St},A2 (Yg id es st) i b->∃e,A2 st i e/\b=zko id es e
 |[],h=>by simp[Yg,A2,lk]at h
 |(k,some x)::r,h=>by simp only[Yg]at h;rcases A7.1 h with⟨f,l⟩|⟨f,l⟩;exact⟨x,by unfold A2;rw[f,A6],l⟩;let⟨e,m,p⟩:=Sd l;exact⟨e,A7.2<|.inr ⟨f,m⟩,p⟩
 |(k,none)::r,h=>by simp only[Yg]at h;let⟨f,l⟩:=BX.1 h;let⟨e,m,p⟩:=Sd l;exact⟨e,BX.2 ⟨f,m⟩,p⟩
def mE (id:Nat) (hl:lk st id=some (some<|.map es)) (h:ek P n F Q todo (wg id es env) ((id,none)::Yg id es st) aa):ek P n F Q todo env st aa:=by
 intro b cs I μ a w M hd z;have f:A2 st id<|.map es:=hl;obtain⟨g,U,N,ms,A,rfl,R,v,V,K⟩:=z.SB id _ f;have E:=(z.apart id _ _ N f U O).1;obtain⟨J,u,W,S⟩:∃J:TA,I.le J/\PB J (.map (some N)) (.l8 es)/\(∀k o,J k=some o->(I k=some o\/(EY (.map (some N)) k/\w.heap[k]?=some o))):=by
  have B:I.le λk=>if k=N then some (.map ms A)else I k:=λk o h=>by
   have:k≠N:=λe=>by rw[e,E]at h;cases h
   simp[this,h]
  refine⟨_,B,.l8 N ms A es (by simp) v V (λi e p m l=>(K i e p m l).1.mono B) λi e p m l=>(K i e p m l).2.mono B,λk o h=>?_⟩;by_cases c:k=N
  ·subst c;simp at h;subst h;exact .inr ⟨rfl,R⟩
  ·simp[c]at h;exact .inl h
 have C:∀i D,A2 ((id,none)::Yg id es st) i D->i≠id/\∃H,A2 st i H/\D=zko id es H:=λi D h=>by
  let⟨m,l⟩:=BX.1 h;exact⟨m,Sd l⟩
 have hE:fi I μ st w J μ ((id,none)::Yg id es st) w :=
  {Kp:=u,os:=rfl,tape:=rfl,output:=rfl,size:=B6 _
   block:=λ_ _ _=>rfl
   fresh:=λk _ ⟨i,D,L,m,l,h3⟩=>let⟨_,H,q,_⟩:=C i D m;⟨i,H,L,q,l,h3⟩
   gz:=λk _ ho=>by
      cases G:J k with
      |none=>
       cases hIk:I k with
       |none=>rfl
       |some o=>rw[u k o hIk]at G;cases G
      |some o=>
       rcases S k o G with h|⟨h,_⟩
       ·exact h.symm
       ·exact absurd ⟨id,_,_,f,U,h⟩ ho }
 have xw:ij n J μ (wg id es env) ((id,none)::Yg id es st) aa a w :=
  {Kp:=λk o h=>(S k o h).elim (λh=>z.Kp k o h) λh=>h.2
   SB:=λi D T=>by
    obtain⟨_,H,l,rfl⟩:=C i D T;let⟨L,y,hr⟩:=z.SB i H l;exact⟨L,y,hr.mfr u U W⟩
   apart:=λi D L k T y c=>by
    obtain⟨m,H,l,rfl⟩:=C i D T;let⟨q1,q2⟩:=z.apart i H L k l y c;refine⟨?_,q2⟩;cases G:J k with
    |none=>rfl
    |some o=>
     rcases S k o G with h|⟨h,_⟩
     ·rw[q1]at h;cases h
     ·exact absurd (z.inj i id H _ L _ k l f y U c h) m
   inj:=λi j D bj L gj k hi hj y ls qf mw=>by
    obtain⟨_,b1,m,rfl⟩:=C i D hi;obtain⟨_,b2,l,rfl⟩:=C j bj hj;exact z.inj i j b1 b2 L gj k m l y ls qf mw
   nodup:=z.nodup
   PA:=z.PA
   size:=z.size
   env:=λt d mc=>by
    have:∀{env:Env},lk (wg id es env) t=some d->∃d0,lk env t=some d0/\d=Wj id es d0:=by
     intro env
     induction env with
     |nil=>intro h;simp[wg,lk]at h
     |cons p r ih=>
      obtain⟨s,x⟩:=p;intro h;simp only[wg]at h;by_cases hs:s=t
      ·subst hs;rw[A6]at h;cases h;exact⟨x,A6 _ _ _,rfl⟩
      ·rw[AC _ _ hs]at h;rw[AC _ _ hs];exact ih h
    obtain⟨d0,m,rfl⟩:=this mc;exact(z.env t d0 m).mfr u U W
   defers:=z.defers.ext hE }
 exact(h b cs J μ a w M hd xw).mono λe' a' w' hp=>hp.back (.refl _ _)<|hE
def ipL:L1 V->L1 D
 |[]=>[]
 |.ip t f e::r=>.ip t f e::ipL r
 |x::r=>.Kp x::ipL r
def wV:∀{xs:R0} {vs:G2},TB I μ xs (vs.map .Kp)->TB I μ xs (ipL vs)
 |[],[],h=>h
 |[],v::vs,h=>absurd h.1 (by simp)
 |x::xs,[],h=>absurd h.1 (by simp)
 |x::xs,v::vs,h=>by obtain⟨e,f⟩:=(show TB I μ (x::xs) (.Kp v::vs.map .Kp)from h).cons;have:=wV f;cases v with|ip t m l=>exact .mk e.Ks.ipD this|_=>{exact .mk e this}
def Qs {f:FuncId} {vs:G2} {v:V} (h:GL P f (ipL vs) []<|.ret (.Kp v) []):Ji P f vs v:=λI μ w l e m=>h I μ w l e<|wV m
def zew (n:Nat) (env:Env) (todo:L1 DI):Option yI :=
 match B4 todo ([],[])with
 |some (all,o,s)=>match o.op,CQ all env o with
  |.call { callee:=.value (.tmp t),args:=⟨args⟩,.. },some g=>match lk env t,KQ (A1 g) env args with
   |some (.Kp (.lj (.func f) a b)),some (h,ob)=>match O9 h,Cs n o.dst with
    |some e,true=>match o.dst with
     |some t=>some ⟨f,a++e++b,g,ob,some t,s⟩
     |none=>some ⟨f,a++e++b,g,ob,none,s⟩
    |_,_=>none
   |_,_=>none
  |_,_=>none
 |none=>none
def Vt:∀l:G2,O9 (l.map .Kp)=some l
 |[]=>rfl
 |x::r=>by simp[O9,toV,Vt r]
def MI:∀{a b:R1} {xs ys:G2},O9 a=some xs->O9 b=some ys->O9 (a++b)=some (xs++ys)
 |[],b,xs,ys,e,f=>by cases e;exact f
 |d::r,b,xs,ys,e,f=>by simp only[O9]at e;split at e;rename_i x h l m;cases e;simp[O9,l,MI m f];cases e
def UQ {f:FuncId} {vs:G2} {g:j3} {ob:T0} {dst:g6} {s:S6} {v:V} (h:zew n env todo=some ⟨f,vs,g,ob,dst,s⟩) (D:A1 g->Ji P f vs v) (m:A8 ob) (H:G P n F Q s (Cn dst (gD g<|.Kp v) env) st aa):G P n F Q todo env st aa:=by unfold zew at h;split at h;rename_i all o e K;have p:∀z,o.op=.call z->∀c,o.op≠.defer c:=λz h c A=>by{rw[h]at A;cases A};split at h;rename_i t B W L C M;split at h;rename_i N a b d q R S;split at h;rename_i r T U;have y:N=f/\a++r++b=vs/\L=g/\q=ob/\o.dst=dst/\e=s:=by{split at h<;>(rename_i l;cases h;exact⟨rfl,rfl,rfl,rfl,l,rfl⟩)};obtain⟨rfl,rfl,rfl,rfl,rfl,rfl⟩:=y;exact Cc (fr:=[]) (wr:=[]) K (UP M (Uj C R S m) (MI (MI (Vt a) T)<|Vt b) D) U (p _ C) H;cases h;cases h;cases h;cases h
end
end Go.Hk
namespace Go.Hk
def XS (P:Program) (n:Nat) (c:Code) (env:Env) (st:St) (aa:L1 Nat) (l:Env) (au:St) (Kr:L1 Nat):Prop :=
 ∀(b:Frame) (h:L1 Frame) (Q:Exit->Act->World->Prop) (I:TA) (μ:Mu) (a:Act) (w:World) (e:L1 Item),ij n I μ env st aa a w ->
  (∀m f p w',ij n m f l au Kr p w'->μ.le f->fi I μ st w m f au w'->Reach P b h Q e p w')->Reach P b h Q (.code c::e) a w
def SV (P:Program) (n:Nat) (all rest:L1 Oper) (env:Env) (st:St) (aa:L1 Nat) (l:Env) (au:St) (Kr:L1 Nat):Prop :=
 ∀(b:Frame) (h:L1 Frame) (Q:Exit->Act->World->Prop) (I:TA) (μ:Mu) (a:Act) (w:World) (e:L1 Item) (j:Nat),rest=all.drop j->ij n I μ env st aa a w ->
  (∀m f p w',ij n m f l au Kr p w'->μ.le f->fi I μ st w m f au w'->Reach P b h Q e p w')->Reach P b h Q (.inRegion all.toArray (List.range' j rest.length)::e) a w
section
variable {P:Program} {n:Nat} {r:TT} {env l h E:Env} {st au z jm:St} {aa Kr p:K1} {c q:Code} {all rest:L1 Oper} {o:Oper} {ob:T0} {I:TA} {μ:Mu} {w:World} {d:D}
def Mu.le_trans' {a b c:Mu} (h:a.le b) (k:b.le c):a.le c:=λi v e=>k i v<|h i v e
def uD {f:Nat} (h:SV P n all all env st aa l au Kr):XS P n (.region f ⟨all⟩ false) env st aa l au Kr:=λb m Q I μ a w e p k=>by
 refine LQ ?_;have:=h b m Q I μ a w e 0 O p k;simpa[Z5]using this
def zkc:SV P n all [] env st aa env st aa:=λb h Q I μ a w e j l f k=>GN<|k I μ a w f (Mu.le_refl μ)<|fi.refl _ _ _ _
def zob {rd fr:K1} {wr:St} (e:LD P (λ_=>False) all o env st rd fr wr d) (U:o.guard=none) (y:∀c,o.op≠.defer c) (V:∀t,o.dst=some t->t<n) (h:SV P n all rest (Cn o.dst d env) (wr++st) Kr l au p):SV P n all (o::rest) env st (fr++Kr) l au p:=by intro b W Q I μ a w f j g m k;let⟨i,z⟩:=Fm g;have A:M8 (o.looksAt all.toArray) I μ env a:=λt _ d e=>m.env t d e;have q:(o::rest).length=rest.length+1:=rfl;rw[q,OT];have R:Region.wanted o (yielded all.toArray a.tmps)=true:=AO U;let⟨u,_⟩:=e I μ st Kr a w (λ_ _=>rfl) m.toNo A;refine GF i R y<|hG.upon<|(u R).mono ?_ ?_;rintro v B ⟨E,C,S,D,G,s⟩;let⟨F,J,p3⟩:=Iw (n:=n) (w:=B) (dst:=o.dst) (λt d e=>(m.env t d e).mono s.Kp G) m.size V D;exact h b W Q E C (a.put o.dst v) B f (j+1) z {S with size:=J,env:=by cases r:o.dst<;>simpa[Cn,r]using F,defers:=by rw[p3];exact m.defers.ext s } λT H a2 w3 K L M=>k T H a2 w3 K (Mu.le_trans' G L)<|s.trans M;rintro N B ⟨v,x,T,S,D,s,G,q5⟩;exact D.elim
def zm5 (m:dv P r) {i:Nat} {x:g9} {a7:St} {e:Env} {f:K1} (h:Hz r n all o env st aa=.e e ((i,x)::a7) f ob) (q:A8 ob) (y:o.guard=none) (s:SV P n all rest e ((i,x)::st) f l au p):SV P n all (o::rest) env st aa l au p:=by let⟨d,fr,G,z,A,B,C,_,D⟩:=ZG (P:=P) (Pn:=λ_=>False) m h q;subst z;rw[A]at s;exact zob (wr:=[(i,x)]) D y C B s
def yF (l:dv P r) {D:Nat} {m q:Oper} {i:Nat} {x y:g9} {a7 s:St} {e h:Env} {f p:K1} {z A:T0} (G:Hz r n [m,q] m env st aa=.e e ((i,x)::a7) f z) (H:m.guard=none) (K:Hz r n [m,q] q e ((i,x)::st) f=.e h ((i,y)::s) p A) (L:q.guard=none) (B:A8 z) (C:A8 A):XS P n (.region D ⟨[m,q]⟩ false) env st aa h ((i,y)::(i,x)::st) p:=uD<|zm5 l G B H<|zm5 l K C L zkc
end
end Go.Hk
namespace Go.Hk
def Rk (kp:L1 Nat):St->St
 |[]=>[]
 |(i,b)::r=>bif F6 kp i then Rk kp r else(i,b)::Rk kp r
def jO {kp:K1} {s:St} {i:Nat}:∀{W:St},lk (Rk kp W++s) i=if i∈kp then lk s i else lk (W++s) i
 |[]=>by simp[Rk]
 |(k,b)::r=>by have p:=jO (kp:=kp) (s:=s) (i:=i) (W:=r);simp only[Rk];cases l:F6 kp k with|true=>simp only[az,DV];rw[p];by_cases f:i∈kp;rw[ae f,ae f];rw[ac f,ac f,AC _ _ λe:k=i=>f (by rw[<- e];exact BK.1 l)]|false=>{simp only[bf,DV];by_cases m:k=i;subst m;rw[A6,ac (λh=>by rw[BK.2 h]at l;cases l),A6];rw[AC _ _ m,AC _ _ m,p]}
def dT (W st:St) (l:L1 Nat):L1 Nat->Prop
 |[]=>True
 |i::r=>(F6 l i=true/\lk W i=lk st i)/\dT W st l r
def TX {W st:St} {l:K1}:∀{kp:K1},dT W st l kp->∀i∈kp,i∈l/\lk W i=lk st i
 |[],_,i,h=>by cases h
 |k::r,h,i,hi=>by rcases Cu.1 hi with rfl|hi;exact⟨BK.1 h.1.1,h.1.2⟩;exact TX h.2 i hi
structure zi9 where
 f:FuncId
 hU:List D
 g:Option (Bool×Bool)
 ob:List Prop
 dst:Option Nat
 o:Oper
 all:List Oper
def zhb (n:Nat) (env:Env) (todo:L1 DI):Option zi9 :=
 match B4 todo ([],[])with
 |some (all,o,_)=>match CQ all env o,o.op with
  |some g,.call { callee:=.value (.func f),args:=⟨args⟩,.. }=>match KQ (A1 g) env args,Cs n o.dst with
   |some (e,ob),true=>some ⟨f,e,g,ob,o.dst,o,all⟩
   |_,_=>none
  |some g,.call { callee:=.value (.tmp t),args:=⟨args⟩,.. }=>match lk env t,KQ (A1 g) env args,Cs n o.dst with
   |some (.Kp (.fn (.func f))),some (e,ob),true=>some ⟨f,e,g,ob,o.dst,o,all⟩
   |some (.fn (.func f) h l),some (e,ob),true=>some ⟨f,h++e++l,g,ob,o.dst,o,all⟩
   |_,_,_=>none
  |_,_=>none
 |none=>none
section
variable {P:Program} {n:Nat} {F:K1} {Q:DQ} {r:TT} {env l:Env} {st au bk a7:St} {aa Kr fr:K1} {k todo s:S6} {I J:TA} {μ:Mu} {w:World} {a:Act} {Pn:V->Prop} {d:D} {y:Prop} {ob:T0} {σ τ1:T2} {hU:R1}
def zha {c:zi9} (h:zhb n env todo=some c) (m:A8 c.ob):(∀f,∃s,B4 todo f=some (c.all,c.o,s))/\CQ c.all env c.o=some c.g/\Gz P c.o env c.f c.hU (A1 c.g)/\Cs n c.dst=true/\(∀x,c.o.op≠.defer x)/\c.dst=c.o.dst:=by unfold zhb at h;have e:∀{all:L1 Oper} {o:Oper} {t:S6},B4 todo ([],[])=some (all,o,t)->∀f,∃s,B4 todo f=some (all,o,s):=by{intro all o t h f;rcases Lh h with⟨r,k,rfl,_⟩|⟨r,H,k,rfl,_⟩;exact⟨_,rfl⟩;exact⟨_,rfl⟩};split at h;rename_i all o t B;split at h;rename_i g f q G A p;split at h;rename_i D ob y z;cases h;exact⟨e B,A,HH p y m,z,(λx l=>by rw[p]at l;cases l),rfl⟩;cases h;rename_i g K q G A p;split at h;rename_i f D ob C y z;cases h;exact⟨e B,A,GR p C y m,z,(λx l=>by rw[p]at l;cases l),rfl⟩;rename_i f L M D ob C y z;cases h;exact⟨e B,A,KR p C y m,z,(λx l=>by rw[p]at l;cases l),rfl⟩;cases h;cases h;cases h
def zgc {all:L1 Oper} {o:Oper} {f:FuncId} {g:j3} (R:CQ all env o=some g) (l:A1 g) (S:Gz P o env f hU<|A1 g) (T:GL P f (EX (DW σ) hU) bk<|.ret d a7) (U:FK σ st bk) (A:LZ σ τ1 hU bk d a7 fr=true) (kp:K1) (B:dT (Fl (AZ σ++τ1) a7++CO (Gd σ)) st (Gd σ) kp):LD P Pn all o env st (Gd σ) fr (Rk kp<|Fl (AZ σ++τ1) a7++CO (Gd σ))<|gD g<|LO (DW<|AZ σ++τ1) d:=by intro I μ z D a w q r s;have m:=H8 R s;refine⟨λ_=>?_,λG=>by rw[m.2 l]at G;cases G⟩;let⟨V,W,b⟩:=S I μ a w (B3 s) l;have y:=HI q U;have H:=RY A;let⟨c,j,k⟩:=Iq r y H.args W;rw[b];refine(T I _ w V c j).mono (λu w' n=>?_) λ_ _ h=>h.elim;obtain⟨t,v,x,E,F,J⟩:=n;let⟨Q,K,L,s3,M⟩:=O7 r y H x E F J k;rw[<- Ot]at K M;have e:∀i,lk (Fl (AZ σ++τ1) a7++CO (Gd σ)++z) i=lk (Rk kp (Fl (AZ σ++τ1) a7++CO (Gd σ))++z) i:=λi=>by{rw[jO];by_cases C:i∈kp;rw[ae C];let⟨N,k2⟩:=TX B i C;have hm:i∈(Fl (AZ σ++τ1) a7++CO (Gd σ)).map (·.1):=by{rw[CG,NK];exact AT.2<|.inr N};rw[GZ hm,k2,q i N];rw[ac C]};refine⟨t,Q,K.congr e,?_,s3,M.congr (λ_=>rfl) e⟩;cases g with|none=>exact L|some p=>{exact .guard _ _ _ _ (λ_=>L) λA=>absurd l A}
def AF {c:zi9} (σ τ1:T2) (kp:K1) {fr:K1} {nm:K1} (h:zhb n env todo=some c) (f:A1 c.g) (l:A8 c.ob) (y:GL P c.f (EX (DW σ) c.hU) bk<|.ret d a7) (z:FK σ st bk) (A:LZ σ τ1 c.hU bk d a7 fr=true) (m:dT (Fl (AZ σ++τ1) a7++CO (Gd σ)) st (Gd σ) kp) (p:(Rk kp<|Fl (AZ σ++τ1) a7++CO (Gd σ)).map (·.1)=nm) (B:B4 todo (Gd σ,nm)=some (c.all,c.o,s)) (e:aa=fr++Kr) (q:G P n F Q s (Cn c.dst (gD c.g<|LO (DW<|AZ σ++τ1) d) env) (Rk kp (Fl (AZ σ++τ1) a7++CO (Gd σ))++st) Kr):G P n F Q todo env st aa:=by let⟨_,C,D,r,H,K⟩:=zha (P:=P) h l;subst e;rw[K]at r q;subst p;exact Cc B (zgc C f D y z A kp m) r H q
end
end Go.Hk
namespace Go.Hk
structure PBo where
 e:TypeId
 es:List (List V)
 sz:Nat
 ob:List Prop
 dst:Option Nat
 todo:List DI
def zm2 (r:TT) (n:Nat) (env:Env) (q:Nat) (todo:L1 DI):Option PBo :=
 match B4 todo ([],[q])with
 |some (_,o,s)=>match o.guard,o.op with
  |none,.buildSlice t m ⟨parts⟩=>match lk r t,Cs n o.dst with
   |some { sh:=.sl e,.. },true=>match lk r e with
    |some i=>match K6 True env i.size 0 parts,Nat.beq m parts.length,Nat.ble (m*i.size) 16777216,Nat.blt 0 i.size,Nat.blt 0 m with
     |some (es,f),true,true,true,true=>some ⟨e,es,i.size,f,o.dst,s⟩
     |_,_,_,_,_=>none
    |none=>none
   |_,_=>none
  |_,_=>none
 |none=>none
section
variable {P:Program} {n:Nat} {F:K1} {Q:DQ} {r:TT} {env l:Env} {st au bk a7:St} {aa Kr fr:K1} {k todo s:S6} {I J:TA} {μ:Mu} {w:World} {a:Act} {Pn:V->Prop} {d:D} {y:Prop} {ob:T0}
def zo9 (W:dv P r) {o:Oper} {t e:TypeId} {i:kh} {m:Nat} {parts:c9} (ho:o.op=.buildSlice t m ⟨parts⟩) (b:P.underlying t=some (.slice e)) (hi:lk r e=some i) {es:L1<|G2} {d:T0} (g:K6 True env i.size 0 parts=some (es,d)) (j:A8 d) (n:m=parts.length) (v:m*i.size<=16777216) (E:0<i.size) (F:0<m) (K:Fg I μ env a o.op):∃R:L1<|R0,(execOp a.eval o).run P w=.ok (.value<|.slice (some ⟨w.heap.size,0,none⟩) m m) (w.alloc<|.cells R.flatten.toArray e)/\R.length=m/\es.length=m/\(∀c∈R,c.length=i.size)/\(∀c∈es,c.length=i.size)/\∀(k:Nat) (c:R0) (x:G2),R[k]?=some c->es[k]?=some x->Ts I c x/\∀u∈c,u.oneCell'=true:=by have L:=W e i hi;rw[ho]at K;obtain⟨inf,S,J,vf,_,Q,th,ve⟩:=L.lw;let⟨q1,q2,T⟩:=NG (a:=a) (I:=I) (μ:=μ) ab parts 0 es d g j λp z=>K p.2 (by simp only[Op.operands];exact CC.2 ⟨p,z,rfl⟩);have hz0:m*i.size≠0:=by{have:=Nat.mul_pos F E;omega};obtain⟨A,hA,hA1⟩:∃A:R0,A.length=m*i.size/\(Array.range (m*i.size)).map (λk=>S.cells[k % S.cells.size]!)=A.toArray:=⟨((Array.range<|m*i.size).map λk=>S.cells[k % S.cells.size]!).toList,by simp,rfl⟩;let⟨c1,U,c3⟩:=PT i.size m A hA;have hq:∀p∈(parts.map λ(p:Nat×Operand)=>(p.1,a.eval p.2)),∃h,(IL i.size m A)[p.1]?=some h/\p.2.cells.size=h.length:=by{intro p z;obtain⟨q,hm,rfl⟩:=CC.1 z;let⟨k,y⟩:=H3 hm;have h1:=q2 k q y;have B:k<parts.length:=(A9.1 y).1;have f:k<es.length:=by{rw[q1];exact B};let⟨_,r2,_,_⟩:=T k q es[k] y<|Bi f;have H:q.1<(IL i.size m A).length:=by{rw[U];omega};exact⟨_,Bi H,by rw[r2,c3 _<|K0 H]⟩};have G:∀k h,(IL i.size m A)[k]?=some h->some (k*i.size,i.size)=some (((IL i.size m A).take k).flatten.length,h.length):=by{intro k h hs;have B:k<m:=by{rw[<- U];exact(A9.1 hs).1};rw[BL (sz:=i.size) λc C=>c3 c<|OV C,c3 h<|AE hs];rw[HR,U,jI<|by omega]};have l:=Ow (λk=>some (k*i.size,i.size)) (parts.map λ(p:Nat×Operand)=>(p.1,a.eval p.2)) _ G hq;rw[c1]at l;obtain⟨R,hR⟩:∃R,(parts.map λ(p:Nat×Operand)=>(p.1,a.eval p.2)).foldl (λs p=>s.set p.1 p.2.cells.toList) (IL i.size m A)=R:=⟨_,rfl⟩;rw[hR]at l;have M:R.length=m:=by{rw[<- hR,Gs,U]};have N:∀(k:Nat) (c:R0),R[k]?=some c->∃p,parts[k]?=some p/\c=(a.eval p.2).cells.toList:=by{intro k c y;have B:k<parts.length:=by{rw[<- n,<- M];exact(A9.1 y).1};have z:parts[k]?=some parts[k]:=Bi B;have h1:(parts[k]).1=k:=by{have:=q2 k _ z;omega};rw[<- hR]at y;let⟨r1,_⟩:=K4 _ _ k c y;refine⟨_,z,r1 _ (CC.2 ⟨parts[k],K0 B,by rw[h1]⟩) λu b=>?_⟩;let⟨q,hm,he⟩:=CC.1 b;simp only[AP]at he;let⟨k',D⟩:=H3 hm;have:=q2 k' q D;have e:k'=k:=by{omega};subst e;rw[z]at D;have D:=Lk D;rw[D,<- he.2]};refine⟨R,?_,M,by omega,λc C=>?_,λc C=>?_,λk c x y hx=>?_⟩;have l7:¬m*i.size > 2 ^ 24:=by{omega};simp only[execOp,ho,Instr.buildSlice,ak,aj b,L.sizeOf w,ah,l7,aq,al,ac hz0,zeroValue,typeInfo,cu,J,Q];rw[hA1,OU,l];simp only[newRow,ak,dt,ah,al];rfl;let⟨k,y⟩:=H3 C;obtain⟨p,z,rfl⟩:=N k c y;have f:k<es.length:=by{rw[q1];exact(A9.1 z).1};let⟨_,r2,_,_⟩:=T k p _ z<|Bi f;simpa using r2;let⟨k,y⟩:=H3 C;have f:k<parts.length:=by{rw[<- q1];exact(A9.1 y).1};exact(T k _ c (Bi f) y).2.2.1;obtain⟨p,z,rfl⟩:=N k c y;let⟨r1,_,_,r4⟩:=T k p x z hx;exact⟨r1,r4⟩
def zhd (C:dv P r) (q:Nat) {c:PBo} (h:zm2 r n env q todo=some c) (D:A8 c.ob) (y:G P n F Q c.todo (Cn c.dst (.own q c.es.length) env) ((q,some<|.row c.e c.sz c.es)::st) Kr):G P n F Q todo env st<|q::Kr:=by unfold zm2 at h;split at h;rename_i all o s h1;split at h;rename_i t m parts E H;split at h;rename_i e _ _ _ _ ht hd;split at h;rename_i i hi;split at h;rename_i es o' J hm p f hm0;cases h;simp only at D y;have y:G P n F Q s (Cn o.dst (.own q es.length) env) ([(q,some<|.row e i.size es)]++st) Kr:=y;refine Cc (fr:=[q]) (wr:=[(q,some<|.row e i.size es)]) (rd:=[]) h1 ?_ hd (λc T=>by rw[H]at T;cases T) y;intro I μ a7 K a w lr lz mv;refine⟨λ_=>?_,λhw=>by rw[AO E]at hw;cases hw⟩;have f:=show 0<i.size by{simpa[Kz]using f};let⟨R,r1,B,U,z,W,r6⟩:=zo9 (w:=w) C H (C.sh ht) hi J D (Dm hm) (zfo p) f (by simpa[Kz]using hm0)<|B3 mv;rw[r1];have tz:Ts I R.flatten es.flatten:=by{refine⟨by rw[BL z,BL W,B,U],λj u x hu d=>?_⟩;have A:j<m*i.size:=by{rw[<- B,<- BL z];exact(A9.1 hu).1};have h1:j / i.size<m:=zf3 (by rw[W0];exact A);have h2:j % i.size<i.size:=gf _ f;have e1:R[j / i.size]?=some R[j / i.size]:=Bi (by omega);have e2:es[j / i.size]?=some es[j / i.size]:=Bi (by omega);let⟨g,p2⟩:=r6 _ _ _ e1 e2;have l1:=z _<|AE e1;have l2:=W _<|AE e2;have f1:=Dc z _ _ (j % i.size) _ e1<|Bi (by omega);have f2:=Dc W _ _ (j % i.size) _ e2<|Bi (by omega);have ej:j / i.size*i.size+j % i.size=j:=by{rw[W0,rA]};rw[ej]at f1 f2;rw[f1]at hu;rw[f2]at d;cases hu;cases d;exact g.2 _ _ _ (Bi<|by omega)<|Bi<|by omega};have L:∀c∈es,∀x∈c,V.one x=true:=λc T x d=>by{let⟨k,y⟩:=H3 T;let⟨l,hl⟩:=H3 d;have A:k<R.length:=by{rw[B,<- U];exact(A9.1 y).1};let⟨g,p2⟩:=r6 k _ c (Bi A) y;have M:l<(R[k]).length:=by{rw[g.1];exact(A9.1 hl).1};exact(g.2 l _ x (Bi M) hl).tw<|p2 _<|K0 M};have na:m<=maxLen:=by{have v:=zfo p;have:m*1<=m*i.size:=zm9 m f;unfold maxLen;omega};have N:(w.alloc<|.cells R.flatten.toArray e).ownsRow 0 e i.size (.slice (some ⟨w.heap.size,0,none⟩) m m) es.length R.flatten:=by{rw[U];refine⟨by rw[BL z,B],.inr ⟨w.heap.size,m,R.flatten.toArray,rfl,AK _,FR w _,B6 _,na,by simp[BL z,B],?_⟩⟩;have:R.flatten.toArray.toList=R.flatten:=rfl;rw[this,Df (by rw[BL z,B];exact B6 _)]};let⟨S,q1,q2,q3,q4⟩:=No.renew (iz:=q) (aa:=K) (rd:=[]) (v':=.slice (some ⟨w.heap.size,0,none⟩) m m) (it:=.row e i.size es) lz (World.grownBy_alloc w _ none) (λb v=>by cases v) (λb v=>by{have:w.heap.size=b:=v;subst this;exact⟨by simp,.inl<|B6 _⟩}) λS=>⟨R.flatten,N,tz,W,L,f⟩;refine⟨I,S,q3,?_,q2,q4⟩;rw[U];exact .own q m _ m q1;cases h;cases h;cases h;cases h;cases h
end
end Go.Hk
namespace Go.Hk
section
variable {P:Program} {n:Nat} {F:K1} {Q:DQ} {r:TT} {env l:Env} {st au bk a7:St} {aa Kr fr:K1} {k todo s:S6} {I J:TA} {μ:Mu} {w:World} {a:Act} {Pn:V->Prop} {d:D} {y:Prop} {ob:T0}
end
end Go.Hk
namespace Go.Hk
section
variable {P:Program} {n:Nat} {F:K1} {Q:DQ} {r:TT} {env l:Env} {st au bk a7:St} {aa Kr fr:K1} {k todo s:S6} {I J:TA} {μ:Mu} {w:World} {a:Act} {Pn:V->Prop} {d:D} {y:Prop} {ob:T0}
end
end Go.Hk
namespace Go.Hk
def nlL (j:Nat):L1 D->L1 D->Prop
 |[],[]=>True
 |d::r,e::f=>(d=e\/(d=.NB/\e=.own j 0))/\nlL j r f
 |_,_=>False
def iY {j:Nat}:∀{ds e:R1},nlL j ds e->ds.length=e.length/\∀(i:Nat) (f:D),e[i]?=some f->∃d,ds[i]?=some d/\(d=f\/(d=.NB/\f=.own j 0))
 |[],[],_=>⟨rfl,λi d h=>by simp at h⟩
 |d::r,f::q,h=>by let⟨m,p⟩:=iY h.2;refine⟨by simp[m],λi x l=>?_⟩;cases i with|zero=>simp at l;subst l;exact⟨d,rfl,h.1⟩|succ i=>{exact p i x<|by simpa using l}
 |[],_::_,h=>h.elim
 |_::_,[],h=>h.elim
section
variable {P:Program} {n:Nat} {F:K1} {Q:DQ} {r:TT} {env l:Env} {st au:St} {aa Kr:K1} {todo:S6}
def Fx (k j:Nat) {e t:TypeId} {sz f:Nat} {ds:R1} (l:R1) (A:0<sz) (L:lk st k=some (some<|.cells t f ds)) (B:nlL j ds l)
  (h:ek P n F Q todo env ((k,some<|.cells t f l)::(j,some<|.row e sz [])::st) Kr):ek P n F Q todo env st<|j::Kr:=by
 refine EQ λI μ a w m=>?_;let⟨gk,r,_⟩:=m.SB k _ L;have C:j≠k:=λe=>by rw[<- e,m.PA j<|by simp]at r;cases r
 let⟨M,T,U⟩:=No.jq (R:=[]) (new:=[(j,.slice none 0 0,.row e sz [])]) (Kr:=Kr) m.toNo
  (λp s b z=>by rw[AJ.1 s]at z;exact z.elim)
  (λp s q V b _ _=>by rw[AJ.1 s,AJ.1 V]) (TA.le_refl I) m.Kp (λb o h=>.inl h)
  (λ_ p s=>by rw[AJ.1 s];exact⟨[],cb w 0 e sz,.nil,by simp,by simp,A⟩)
 have G:F5 [(j,Value.slice none 0 0,fp.row e sz [])] μ j=some (.slice none 0 0):=by simp[F5,lk]
 have H:A2 ((j,some<|.row e sz [])::st) k<|.cells t f ds:=A7.2<|.inr ⟨C.symm,L⟩;let⟨N,W⟩:=iY B;let⟨c,g⟩:=T.ke (a7:=(k,some<|.cells t f l)::(j,some<|.row e sz [])::st) (λi u K=>by
  rcases A7.1 K with⟨rfl,rfl⟩|⟨_,x⟩
  ·refine⟨_,H,λgb z=>?_⟩;obtain⟨E,b,J,e1,e2,R,e4⟩:=z;refine⟨by rw[<- N,E],b,J,e1,e2,⟨by rw[<- N,R.1],λi v y hv hy=>?_⟩,e4⟩;let⟨d,y1,y2⟩:=W i y hy;have S:=R.2 i v d hv y1;rcases y2 with rfl|⟨rfl,rfl⟩
   ·exact S
   ·cases S;exact .own j 0 none 0 G
  ·exact⟨u,x,λ_ h=>h⟩)
 exact⟨I,_,env,_,Kr,c,λt d hd=>(m.env t d hd).mono (TA.le_refl I) M,U.trans g,.of_le M,h⟩
end
end Go.Hk
namespace Go.Hk
section
variable {P:Program} {n:Nat} {F:K1} {Q:DQ} {r:TT} {env l:Env} {st au:St} {aa Kr:K1} {todo:S6} {d:D} {ob:T0}
end
end Go.Hk
namespace Go.Hk
section
variable {P:Program} {n:Nat} {F:K1} {Q:DQ} {r:TT} {env l:Env} {st au:St} {aa Kr:K1} {todo:S6}
end
end Go.Hk
namespace Go.Hk
section
variable {P:Program} {n:Nat} {F:K1} {Q:DQ} {r:TT} {env l:Env} {st au:St} {aa Kr:K1} {todo s:S6} {I:TA} {μ:Mu}
end
end Go.Hk
namespace Go.Hk
section
variable {P:Program} {n:Nat} {F:K1} {Q:DQ} {r:TT} {env l:Env} {st au:St} {aa Kr:K1} {k todo s:S6} {I:TA} {μ:Mu} {w:World} {a:Act} {Pn:V->Prop} {d:D} {y:Prop} {ob:T0}
end
end Go.Hk
namespace Go.Hk
structure zq2 where
 dx:D
 es:List (List V)
 vh:List (List V)
 sz:Nat
 bytes:Nat
 dst:Option Nat
 todo:List DI
def yE:D->Option (L1<|L1 V)
 |.NB=>some []
 |.gt es=>some es
 |_=>none
def zm3 (r:TT) (n:Nat) (env:Env) (todo:L1 DI):Option zq2 :=
 match B4 todo ([],[])with
 |some (_,o,s)=>match o.guard,o.op with
  |none,.call { callee:=.builtin .append,args:=⟨[x,y]⟩,argTypes:=⟨[t,l]⟩ }=>match Nat.beq t l,lk r t,Fi env x,Fi env y with
   |true,some { sh:=.sl e,.. },some h,some (.Kp (.sl (m::f)))=>match lk r e,yE h with
    |some i,some es=>match Nat.beq i.zero.length i.size&&Nat.blt 0 i.size,Cs n o.dst with
     |true,true=>some ⟨h,es,m::f,i.size,i.bytes,o.dst,s⟩
     |_,_=>none
    |_,_=>none
   |_,_,_,_=>none
  |_,_=>none
 |none=>none
section
variable {P:Program} {n:Nat} {F:K1} {Q:DQ} {r:TT} {env l:Env} {st au:St} {aa Kr:K1} {k todo s:S6} {I:TA} {μ:Mu} {w w':World} {a:Act} {Pn:V->Prop} {d:D} {y:Prop} {ob:T0}
def No.growI (f:No I μ st aa w) (q:w.grownBy w' none) {c:Nat} {o:Obj} (G:w.heap.size<=c) (D:w'.heap[c]?=some o):∃s,s c=some o/\I.le s/\No s μ st aa w'/\fi I μ st w s μ st w':=by have r:I c=none:=by{cases h:I c with|none=>rfl|some C=>{have:=C7<|f.Kp _ _ h;omega}};have l:∀b,b<w.heap.size->w'.heap[b]?=w.heap[b]?:=λb m=>q.block b m (by simp);have p:I.le λb=>if b=c then some o else I b:=λb C h=>by{have:b≠c:=λe=>by{rw[e,r]at h;cases h};simp[this,h]};refine⟨λb=>if b=c then some o else I b,by simp,p,?_,?_⟩;refine { Kp:=λb C h=>?_,SB:=λid SB y=>?_,apart:=λid SB g b y A m=>?_,inj:=f.inj,nodup:=f.nodup,PA:=f.PA };by_cases m:b=c;subst m;simp at h;subst h;exact D;simp[m]at h;have:=f.Kp _ _ h;rw[l b<|C7 this];exact this;let⟨g,z,B⟩:=f.SB id SB y;exact⟨g,z,(B.mono p<|Mu.le_refl μ).world λb m=>l b (f.apart id SB g b y z m).2⟩;let⟨z,B⟩:=f.apart id SB g b y A m;have:b≠c:=by{omega};exact⟨by simp[this,z],Yj B q.size⟩;exact { Kp:=p,os:=q.os,tape:=q.tape,output:=q.output,size:=q.size,block:=λb m _=>l b m,fresh:=λb _ h=>h,gz:=λb m _=>ac (by omega) }
def zn5 {e:TypeId} {sz:Nat} {u:Value} {es:L1<|G2} {xs:R0} (h:w.ownsRow 0 e sz u es.length xs) (B:Ts I xs es.flatten) (m:∀c∈es,c.length=sz) (M:∀v∈xs,v.oneCell'=true) {b:Nat} {o:Obj} (y:u.ownBlock=some b) (L:w.heap[b]?=some o) (N:I b=some o):PB I u<|.sl es:=by rcases h.2 with⟨rfl,_⟩|⟨g,C,r,rfl,_,p,D,G,R,q⟩;cases y;have y:g=b:=by{simpa[Value.ownBlock]using y};subst y;rw[p]at L;cases L;have S:=h.1;refine .sl g 0 es.length C sz es (λi j=>(xs[i*sz+j]?).getD undef) O D G m ?_ ?_;intro i c j x H K;have z:=Dc m i c j x H K;have l:i*sz+j<xs.length:=by{rw[B.1];exact(A9.1 z).1};have f:xs[i*sz+j]?=some xs[i*sz+j]:=Bi l;rw[f,ID];refine⟨?_,M _<|K0 l⟩;unfold TA.cell;rw[N];have s:r[i*sz+j]?=some xs[i*sz+j]:=by{have T:(r.toList.take<|es.length*sz)[i*sz+j]?=some xs[i*sz+j]:=by{rw[q];exact f};have A:=T;rw[Ea]at A;split at A;simpa using A;cases A};simp only[BU,s];intro i c j x H K;have z:=Dc m i c j x H K;have l:i*sz+j<xs.length:=by{rw[B.1];exact(A9.1 z).1};have f:xs[i*sz+j]?=some xs[i*sz+j]:=Bi l;rw[f,ID];exact B.2 _ _ x f z
def zby (J:dv P r) {c:zq2} (h:zm3 r n env todo=some c) (hok:zio c.sz c.bytes (.gt []) c.es c.vh) (S:∀x∈c.es,x.length=c.sz) (hk:G P n F Q c.todo (Cn c.dst (.Kp<|.sl<|c.es++c.vh) env) st aa):G P n F Q todo env st aa:=by unfold zm3 at h;split at h;rename_i all o s hn1;split at h;rename_i x y t t' hg T;split at h;rename_i e _ _ _ _ dx A l htt' ht hx hy;have:=Dm htt';subst this;split at h;rename_i i es hi L;split at h;rename_i hz hd;cases h;simp only at hok S hk;refine Cc (fr:=[]) (wr:=[]) (rd:=[]) hn1 ?_ hd (λc hc=>by rw[T]at hc;cases hc) hk;intro I μ a7 C a w lr U mv;refine⟨λ_=>?_,λhw=>by rw[AO hg]at hw;cases hw⟩;have D:=B3 mv;rw[T]at D;have rx:=D x (by simp[Op.operands,Call.operands]) _ hx;have ry:=(D y (by simp[Op.operands,Call.operands]) _ hy).Ks;obtain⟨inf,z,z1,z2,z3,z4,z5,z6⟩:=(J e i hi).lw;have hu:P.underlying t=some (.slice e):=J.sh ht;simp only[Am,Kz]at hz;have xr:z.cells.size=i.size:=by{have:=(z5 I μ).1;rw[Dm hz.1]at this;simpa using this};obtain⟨k1,k2,k3,_⟩:=hok;have iu:∀{u w'},(Builtin.append_ #[t,t] o.type #[a.eval x,a.eval y]).run P w=.ok u w'->(execOp a.eval o).run P w=.ok (.value u) w':=by{intro u w' h;simp only[execOp,T,resolve,invoke,builtin,ak,al,ah,OU,CK,KM,h]};rcases UL U.Kp ry k1 hz.2 with⟨_,e0⟩|⟨yb,yo,yc,p,ey,_,_,n1,n2,n3,n4,n5⟩;cases e0;have fin:∀{u:Value} {w':World} {xs:R0},(Builtin.append_ #[t,t] o.type #[a.eval x,a.eval y]).run P w=.ok u w'->w'.ownsRow 0 e i.size u (es.length+(A::l).length) (xs++p)->w.grownBy w' none->(∀b,u.ownBlock=some b->w.heap.size<=b)->Ts I xs es.flatten->(∀v∈xs,v.oneCell'=true)->hG P ((execOp a.eval o).run P w) (λv w'=>∃B f,No B f ([]++a7) C w'/\X B f v (.Kp<|.sl<|es++A::l)/\μ.le f/\fi I μ a7 w B f ([]++a7) w') (OF (OE Q) I μ a7 w):=by{intro u w' xs r1 r2 r3 r4 r5 r6;rw[iu r1];obtain⟨b,L,M⟩:∃b,u.ownBlock=some b/\b<w'.heap.size:=by{rcases r2.2 with⟨_,hh⟩|⟨g,m,bl,rfl,_,V,_⟩;simp at hh;exact⟨g,rfl,C7 V⟩};have ho:w'.heap[b]?=some w'.heap[b]:=Si M;let⟨B,q1,q2,W,q4⟩:=U.growI r3 (r4 b L) ho;refine⟨B,μ,W,.Kp _ _<|zn5 (es:=es++A::l) (by rw[Bo];exact r2) ?_ ?_ ?_ L ho q1,Mu.le_refl μ,q4⟩;rw[zf2];exact(r5.append n4).mono q2;intro c hc;exact(AT.1 hc).elim (S c)<|k1 c;intro v H;exact(AT.1 H).elim (r6 v)<|n3 v};have N:a.eval x=.slice none 0 0->es=[]->hG P ((execOp a.eval o).run P w) (λv w'=>∃B f,No B f ([]++a7) C w'/\X B f v (.Kp<|.sl<|es++A::l)/\μ.le f/\fi I μ a7 w B f ([]++a7) w') (OF (OE Q) I μ a7 w):=λH he=>by{subst he;let⟨v',w',q1,q2,W,_⟩:=run_append_own (P:=P) w w.heap.size t o.type e inf z i.size i.bytes hu z1 z4 z2 z3 xr hz.2 (.slice none 0 0) 0 [] (cb w _ e i.size) ⟨yb,yo,none⟩ (A::l).length yc p n1 n2 n3 (by simpa using k2) (by simpa using k3)<|B6 _;have q2':w'.ownsRow 0 e i.size v' (0+(A::l).length)<|[]++p:=⟨q2.1,q2.2.imp id λ⟨g,m,bl,a1,_,a2⟩=>⟨g,m,bl,a1,AK _,a2⟩⟩;exact fin (by rw[H,ey];exact q1) q2' ⟨W.os,W.tape,W.output,W.size,λb L _=>W.block b L<|by simp[Value.ownBlock]⟩ (λb h=>(q2.lt b h).1) .nil<|by simp};have K:∀(ad:Addr) (m:Nat) (xs:R0),a.eval x=.slice (some ad) es.length m->xs.length=es.length*i.size->(∀j u,xs[j]?=some u->w.cell? (ad.add j)=some u)->m<es.length+(A::l).length->Ts I xs es.flatten->(∀v∈xs,v.oneCell'=true)->hG P ((execOp a.eval o).run P w) (λv w'=>∃B f,No B f ([]++a7) C w'/\X B f v (.Kp<|.sl<|es++A::l)/\μ.le f/\fi I μ a7 w B f ([]++a7) w') (OF (OE Q) I μ a7 w):=λad m xs H hl d M hr h1=>by{have u0:es.length+(A::l).length<=9223372036854775807:=by{simp only[maxLen]at k2;omega};have xt:=run_append_grow (P:=P) w t o.type e inf z hu z1 z4 ad es.length m xs (by rw[z2];exact hl) d ⟨yb,yo,none⟩ (A::l).length yc p (by rw[z2];exact n1) n2 M (by omega) (by rw[z3];exact growslice_fits M k3);have hge:=grownCap_ge w (es.length+(A::l).length) m e;have na:grownCap w (es.length+(A::l).length) m e<=maxLen:=fa w _ m e k2;have R:(xs++p).length=(es.length+(A::l).length)*i.size:=by{rw[Bo,hl,n1,Wq]};refine fin (by rw[H,ey];exact xt) (xs:=xs) ⟨R,.inr ⟨w.heap.size,_,_,rfl,AK _,FR w.drew _,hge,na,?_,?_⟩⟩ ⟨rfl,rfl,rfl,by simp,λk hk _=>DO w.drew _ hk⟩ (λb h=>by simp[Value.ownBlock]at h;omega) hr h1;simp only[fu,dG,size_zeroCells,xr,hl,n1,<- Wq];congr 1;omega;simp only[Nl,CV];rw[<- CV,<- R];exact qZ};cases dx with|NB=>simp only[yE,Co]at L;subst L;have H:a.eval x=.slice none 0 0:=by{generalize a.eval x=v at rx;cases rx;rfl};exact N H O|gt r9=>simp only[yE,Co]at L;subst L;have rx':∃ad q,a.eval x=.slice ad q q/\PB I (.slice ad q q) (.sl r9):=by{generalize a.eval x=v at rx;cases rx with|gt ad q _ h=>{exact⟨ad,q,rfl,h⟩}};obtain⟨ad,q,H,hr⟩:=rx';rcases UL U.Kp hr S hz.2 with⟨⟨E,ex⟩,e0⟩|⟨xb,xo,xc,xs,ex,_,_,p1,p2,p3,p4,p5⟩;cases E with|none=>exact N (H.trans ex) e0|some E=>{subst e0;exact K E 0 [] (H.trans ex) (by simp) (λj u h=>by simp at h) (by simp) .nil<|by simp};cases ex;exact K ⟨xb,xo,none⟩ _ xs H p1 p2 (by simp) p4 p3|_=>{simp[yE]at L};cases h;cases h;cases h;cases h;cases h
end
end Go.Hk
namespace Go.Hk
structure PCl where
 es:List (List V)
 m:Int
 m2:Int
 dst:Option Nat
 todo:List DI
def zm1 (r:TT) (n:Nat) (env:Env) (todo:L1 DI):Option PCl :=
 match B4 todo ([],[])with
 |some (_,o,s)=>match o.guard,o.op with
  |none,.slice t x none (some h) (some c)=>match lk r t,Fi env x,Fi env h,Fi env c,Cs n o.dst with
   |some { sh:=.sl e,.. },some (.Kp (.sl es)),some (.Kp (.int _ m)),some (.Kp (.int _ f)),true=>match lk r e with
    |some _=>some ⟨es,m,f,o.dst,s⟩
    |none=>none
   |_,_,_,_,_=>none
  |_,_=>none
 |none=>none
section
variable {P:Program} {n:Nat} {F:K1} {Q:DQ} {r:TT} {env l:Env} {st au:St} {aa Kr:K1} {k todo s:S6} {I:TA} {μ:Mu} {w w':World} {a:Act}
def zox (l:dv P r) {c:PCl} (h:zm1 r n env todo=some c) (V:c.m=c.es.length) (W:c.m2=c.es.length) (d:G P n F Q c.todo (Cn c.dst (.gt c.es) env) st aa):G P n F Q todo env st aa:=by unfold zm1 at h;split at h;rename_i all o s H;split at h;rename_i t x g i hg p;split at h;rename_i e _ _ _ _ es j m u m2 K hx L M hd;split at h;rename_i ti q;cases h;simp only at V W d;subst V;subst W;refine Cc (fr:=[]) (wr:=[]) (rd:=[]) H ?_ hd (λc D=>by rw[p]at D;cases D) d;intro I μ a7 E a w lr N R;refine⟨λ_=>?_,λJ=>by rw[AO hg]at J;cases J⟩;have f:=B3 R;rw[p]at f;have rx:=(f x (by simp[Op.operands]) _ hx).Ks;have e1:a.eval g=.int j es.length:=(f g (by simp[Op.operands]) _ L).Ks.da;have e2:a.eval i=.int u es.length:=(f i (by simp[Op.operands]) _ M).Ks.da;have hb:∀(k:IntKind) (x y:Nat) (c:BoundsCode),x<=y->(Instr.sliceBound (.int k x) y c).run P w=.ok x w:=by{intro k x y c S;simp[Instr.sliceBound,asIntOf,S]};have A:∀(k:IntKind) (c:BoundsCode),(Instr.sliceBound (.int k 0) 0 c).run P w=.ok 0 w:=by{intro k c;simp[Instr.sliceBound,asIntOf]};have T:∃ad,(Instr.sliceAt t (a.eval x) none (some<|.int j es.length)<|some<|.int u es.length).run P w=.ok (.slice ad es.length es.length) w/\PB I (.slice ad es.length es.length) (.sl es):=by{generalize a.eval x=v at rx;cases rx with|slnil=>exact⟨none,by simp[Instr.sliceAt,aj<|l.sh K,Instr.slice,Instr.sliceBounds,A,(l e ti q).sizeOf w],.slnil⟩|mq ad=>exact⟨ad,by simp[Instr.sliceAt,aj<|l.sh K,Instr.slice,Instr.sliceBounds,A,(l e ti q).sizeOf w],.mq ad⟩|sl b o len cap sz _ vs hl D hm U z B=>{subst hl;refine⟨some ⟨b,o,none⟩,?_,.sl b o _ _ sz es vs O (B6 _) (by omega) U z B⟩;simp[Instr.sliceAt,aj<|l.sh K,Instr.slice,Instr.sliceBounds,hb _ _ _ _ D,hb _ _ _ _<|B6 es.length,(l e ti q).sizeOf w,JV]}};obtain⟨ad,r1,r2⟩:=T;have C:(execOp a.eval o).run P w=.ok (.value<|.slice ad es.length es.length) w:=by{simp only[execOp,p,e1,e2,dF,FQ,ak,r1,ah,al]};rw[C];exact⟨I,μ,N,.gt _ _ _ r2,Mu.le_refl μ,fi.refl _ _ _ _⟩;cases h;cases h;cases h;cases h
end
end Go.Hk
namespace Go.Hk
section
variable {P:Program} {n:Nat} {F:K1} {Q:DQ} {r:TT} {env l:Env} {st au:St} {aa Kr:K1} {k todo s:S6} {I:TA} {μ:Mu} {w w':World} {a:Act}
end
end Go.Hk
