/- From a function that returns true and changes nothing that was there to a law's row. (And what it stands on.) -/
import Derived.Test.YtegabgaflilabaaGreatWe
import Derived.Test.YtegabgaflilabaaGreatWd
import Derived.Test.YtegabgaflilabaaGreatWc
import Derived.Test.YtegabgaflilabaaGreatWb
import Derived.Below
import Derived.ChangeSame
import Derived.ChangeOld
import Derived.Carry
set_option linter.unusedSimpArgs false
set_option linter.unusedVariables false

set_option maxRecDepth 100000
set_option maxHeartbeats 4000000
namespace Go.Hk
open Go.Proofs
def P9 (q:Ty->Bool):Int->List Ty->Int
 | _,[]=>-1
 | i,x::r=>if q x=true then i else P9 q (i+1) r
theorem TQ (q:Ty->Bool):∀(l:List Ty) (i:Nat),(P9 q i l = -1/\∀x∈l,q x=false)\/∃(k:Nat) (x:Ty),P9 q i l=((i+k:Nat):Int)/\l[k]?=some x/\q x=true/\∀y∈l.take k,q y=false
 | [],i=>.inl ⟨rfl,λx hx=>by cases hx⟩
 | x::r,i=>by
  by_cases hx:q x=true
  ·exact .inr ⟨0,x,by simp only [P9,if_pos hx];rfl,rfl,hx,λy hy=>by simp at hy⟩
  ·have hxf:q x=false:=by simpa using hx
   have e:P9 q i (x::r)=P9 q ((i+1:Nat):Int) r:=by simp only [P9,if_neg hx];rfl
   rw [e];rcases TQ q r (i+1) with ⟨h1,h2⟩ | ⟨k,y,h1,h2,h3,h4⟩
   ·exact .inl ⟨h1,λy hy=>by rcases List.mem_cons.1 hy with rfl | hy;exact hxf;exact h2 y hy⟩
   ·refine .inr ⟨k+1,y,by rw [h1];congr 1;omega,by simpa using h2,h3,λz hz=>?_⟩;rw [List.take_succ_cons] at hz;rcases List.mem_cons.1 hz with rfl | hz
    ·exact hxf
    ·exact h4 z hz
theorem SG (L:List Ty) (g:FuncId) (a b:List V) (q:Ty->Bool) (hq:∀h,Ak Tryz.prog g (a++[.agg (Bl h)]++b) (.bool (q h))) :
  Ak Tryz.prog 195 [.sl (By L),.clo (.func g) a b] (.int .i64 (P9 q 0 L)):=by
 refine AS λhv=>?_;simp [Cx,EM,maxLen] at hv;have hl:=hv.1;refine Af Al Tryz.func195 (by decide +kernel) rfl [1,2] rfl rfl ?_;refine Ao rfl ?_;refine Am (λi:Nat=>[(8,.imm (.int .i64 i)),(7,.imm (.int .i64 L.length)),(0,.imm (.sl (By L))),(1,.imm (.clo (.func g) a b))]) (λ_=>[]) [1,2] (λi=>L.length-i) (λi=>i<=L.length/\P9 q 0 L=P9 q i (L.drop i)) 0
  ⟨Nat.zero_le _,rfl⟩ ⟨rfl,A3 (by simp),rfl,rfl,trivial⟩ trivial rfl λi hi ih=>?_
 obtain ⟨hi1,hi2⟩:=hi;refine Aq rfl ?_;refine Ab rfl (λh=>?_) (λh=>?_)
 ·simp at h;obtain ⟨x,hx⟩:=Ap h;rw [Av hx] at hi2;simp only [P9] at hi2;have hqx:=hq x;refine Aq rfl ?_;refine mi rfl (c:=Bl x) (λ_=>⟨by simp,by simpa using Kq hx,by simp⟩) (by simp) ?_;obtain ⟨x1,x2,x3,x4⟩:=x;refine Ao rfl ?_;refine MR rfl (λ_=>hqx) (by simp) ?_;refine Ao rfl ?_;cases hb:q (.mk x1 x2 x3 x4) with
  | true =>
   rw [if_pos hb] at hi2;refine Ai rfl λh=>?_;refine Aq rfl ?_;refine Aa rfl rfl ?_;rw [hi2]
  | false =>
   rw [if_neg (by simp [hb])] at hi2;refine Az rfl λh=>?_;refine Aq rfl ?_;exact Ae (ih (i+1) (by omega) ⟨by omega,hi2⟩) ⟨A3 (BI (by omega) (by omega)),rfl,rfl,rfl,trivial⟩ trivial rfl
 ·simp at h;rw [List.drop_eq_nil_of_le (by omega)] at hi2;refine Ay rfl ?_;refine Aq rfl ?_;refine Aa rfl rfl ?_;rw [hi2];rfl
theorem Q9 {e:TypeId} {sz:Nat} {es:List (List V)} {v:Value} {vs:List Value} {I:Imm} {w:World} {bs:List Nat} (hp:0<sz) (h:(Vp e sz es v).P vs I w bs) :
  ∃xs,w.ownsRow 0 e sz v es.length xs/\RepVL I xs es.flatten/\(∀c∈es,c.length=sz)/\(∀c∈es,∀x∈c,V.one x=true)/\0<sz/\∀k,v.ownBlock=some k->k∈bs:=by
 rcases h with ⟨rfl,rfl,rfl⟩ | ⟨b,cap,cur,rfl,rfl,h3,h4,h5,h6,h7,h8,h9,h10⟩
 ·exact ⟨[],World.ownsRow_nil w 0 e sz,.nil,by simp,by simp,hp,λk hk=>by cases hk⟩
 ·have hcs:cur.toList.length=cap*sz:=by simpa using h6
  refine ⟨_,⟨by rw [List.length_take,hcs];exact Nat.min_eq_left (Nat.mul_le_mul_right _ h4),.inr ⟨b,cap,cur,rfl,Nat.zero_le _,h3,h4,h5,h6,rfl⟩⟩,h7,h8,h9,h10,λk hk=>by simpa [Value.ownBlock] using hk.symm⟩
theorem eT {e:TypeId} {sz:Nat} {es es1:List (List V)} {b cap len:Nat} (hes:es1=es.take es1.length) (hlen:es.length=es1.length+len):Vs (Vp e sz es (.slice (some ⟨b,0,none⟩) es.length cap)) (Vp e sz es1 (.slice (some ⟨b,0,none⟩) es1.length cap)) b (es1.length*sz) (len*sz):=by
 intro us I w bs h;rcases h with ⟨h,_⟩ | ⟨b',cap',cur,h1,h2,h3,h4,h5,h6,h7,h8,h9,h10⟩
 ·cases h
 cases h1;subst h2;refine ⟨by simp,cur,e,h3,by rw [h6,<- Nat.add_mul,<- hlen];exact Nat.mul_le_mul_right _ h4,λnews n1 n2=>?_⟩;have hle:es1.length<=es.length:=by omega
 have hcs:cur.toList.length=cap*sz:=by simpa using h6
 have hc:es1.length*sz<=cur.toList.length:=by rw [hcs];exact Nat.mul_le_mul_right _ (by omega)
 have hmem:∀c∈es1,c∈es:=λc hc=>by rw [hes] at hc;exact List.mem_of_mem_take hc
 refine .inr ⟨b,cap,_,rfl,rfl,setRow_heap w b cur _ e _ h3,by omega,h5,?_,?_,λc hc=>h8 c (hmem c hc),λc hc=>h9 c (hmem c hc),h10⟩
 ·have e1:es1.length*sz+len*sz<=cap*sz:=by rw [<- Nat.add_mul,<- hlen];exact Nat.mul_le_mul_right _ h4
  rw [List.size_toArray,List.length_append,List.length_append,List.length_take,List.length_drop,hcs,n1];omega
 ·rw [List.toList_toArray,List.append_assoc,List.take_append_of_le_length (by rw [List.length_take];omega),List.take_take,Nat.min_self];have e2:cur.toList.take (es1.length*sz)=(cur.toList.take (es.length*sz)).take (es1.length*sz):=by rw [List.take_take,Nat.min_eq_left (Nat.mul_le_mul_right _ hle)]
  have e3:es1.flatten=es.flatten.take (es1.length*sz):=by
   have:=congrArg List.flatten (List.take_append_drop es1.length es);rw [<- hes,List.flatten_append] at this;rw [<- this,List.take_append_of_le_length (by rw [AV (λc hc=>h8 c (hmem c hc))];omega),List.take_of_length_le (by rw [AV (λc hc=>h8 c (hmem c hc))];omega)]
  rw [e2,e3];refine ⟨(List.length_take).trans (by rw [h7.1];exact (List.length_take).symm),λi v x hv hx=>?_⟩;rw [List.getElem?_take] at hv hx
  split at hv
  ·rename_i hi;rw [if_pos hi] at hx;exact h7.2 i v x hv hx
  ·cases hv
def F8 (q:Ty->Bool) (L:List Ty):List Ty:=L.filter λh=>!q h
theorem Rm {q:Ty->Bool} {L:List Ty} {j:Nat} {x:Ty} (h:L[j]?=some x):F8 q (L.take (j+1))=F8 q (L.take j)++(if q x=true then [] else [x]):=by
 rw [Bn h];cases hb:q x <;> simp [F8,hb]
theorem Rn {q:Ty->Bool} {L:List Ty} (h:∀x∈L,q x=false):F8 q L=L:=List.filter_eq_self.2 λx hx=>by simp [h x hx]
theorem Sl (L:List Ty) (hL:L.length<=1000) (g:FuncId) (a b:List V) (q:Ty->Bool) (hq:∀h,Ak Tryz.prog g (a++[.agg (Bl h)]++b) (.bool (q h))) :
  Bg Tryz.prog 175 [.own 1 (By L).length,.imm (.clo (.func g) a b)] [(1,some (.row 122 3 (By L)))]
   (.ret (.own 2 (By (F8 q L)).length) [(2,some (.row 122 3 (By (F8 q L))))]):=by
 have hI:=SG L g a b q hq;have hs:=TQ q L 0;rw [show ((0:Nat):Int)=0 from rfl] at hs;refine Af Al Tryz.func175 (by decide +kernel) rfl [3,2,4,5,6] rfl rfl ?_;refine Ao rfl ?_;refine J7 rfl (v:=.int .i64 (P9 q 0 L)) (λ_=>hI) rfl (by simp) ?_;refine Ao rfl ?_;rcases hs with ⟨h1,h2⟩ | ⟨k,x,h1,h2,h3,h4⟩
 ·rw [h1];refine Ai rfl λh=>?_;refine Aq rfl ?_;rw [Rn h2];refine LU 1 3 rfl λv=>?_;refine Pm 3 4 2 (By L) rfl rfl (λvs I w bs h=>Q9 (by decide) h) ?_;exact Au ⟨_,rfl,rfl,rfl,trivial⟩
 rw [h1];have hk:=(List.getElem?_eq_some_iff.1 h2).1;refine Az rfl λh=>?_;clear h;have ew:IntKind.i64.wrap (((0+k:Nat):Int)+1)=((k+1:Nat):Int):=by rw [BI (by omega) (by omega)];omega
 refine Aq rfl ?_;refine Am (λy:Nat×Nat×List Ty=>[(6,.imm (.int .i64 y.2.1)),(5,.imm (.int .i64 y.1)),(1,.imm (.clo (.func g) a b)),(0,.own 1 (By L).length)]) (λy=>[(1,some (.row 122 3 (By y.2.2)))]) [3,2,4,5,6] (λy=>L.length-y.2.1)
  (λy=>y.1<y.2.1/\y.2.1<=L.length/\y.2.2.length=L.length/\y.2.2.take y.1=F8 q (L.take y.2.1)/\y.2.2.drop y.2.1=L.drop y.2.1) (k,k+1,L)
  ⟨by simp,by simp only;omega,rfl,?_,rfl⟩ ⟨A3 ew,A3 (by simp),rfl,rfl,trivial⟩ ⟨rfl,trivial⟩ rfl λy hy ih=>?_
 ·rw [Rm h2,if_pos h3,Rn h4];simp
 obtain ⟨i,j,R⟩:=y;obtain ⟨hi1,hi2,hi3,hi4,hi5⟩:=hy;simp only at hi1 hi2 hi3 hi4 hi5;refine Aq rfl ?_;refine Ab rfl (λh=>?_) (λh=>?_)
 ·have hj:j<L.length:=by simp at h;omega
  obtain ⟨x,hx⟩:=Ap hj;have hRx:R[j]?=some x:=by
   have:=congrArg (·[0]?) hi5;simpa [hx] using this
  have hqx:=hq x;refine Aq rfl ?_;refine Hx Al rfl (λ_=>⟨by simp,by simp <;> omega⟩) (by simp) ?_;refine Ao rfl ?_;refine PU Al (e:=Bl x) rfl (λ_=>by simpa using Kq hRx) rfl (by simp) ?_;obtain ⟨x1,x2,x3,x4⟩:=x;have ht:=Rm (q:=q) hx;have hgo:=λi' R' (h1:i'<j+1) (h2:R'.length=L.length) (h3:R'.take i'=F8 q (L.take (j+1))) (h4:R'.drop (j+1)=L.drop (j+1))=>ih (i',j+1,R') (by simp only;omega) ⟨h1,by simp only;omega,h2,h3,h4⟩;have hd1:R.drop (j+1)=L.drop (j+1):=by rw [<- List.drop_drop,hi5,List.drop_drop]
  refine Ao rfl ?_;refine MR rfl (λ_=>hqx) (by simp) ?_;refine Ao rfl ?_;cases hb:q (.mk x1 x2 x3 x4) with
  | true =>
   rw [if_pos hb,List.append_nil] at ht;refine Az rfl λh=>?_;refine Aq rfl ?_;exact Ae (hgo i R (by omega) hi3 (by rw [ht];exact hi4) hd1) ⟨A3 (BI (by simp only;omega) (by simp only;omega)),rfl,rfl,rfl,trivial⟩ ⟨rfl,trivial⟩ rfl
  | false =>
   rw [if_neg (by simp [hb])] at ht;obtain ⟨o,hoo⟩:=Ap (l:=R) (i:=i) (by omega);refine Ai rfl λh=>?_;refine Aq rfl ?_;refine Hx Al rfl (λ_=>⟨by simp,by simp <;> omega⟩) (by simp) ?_;refine Ao rfl ?_;refine R2 Al (e:=Bl o) (e':=Bl (.mk x1 x2 x3 x4)) rfl (by simpa using Kq hoo) (by show 0+3<=3;decide) (by obtain ⟨o1,o2,o3,o4⟩:=o;rfl) (by simp) ?_;refine Ao rfl ?_;refine Ae (hgo (i+1) (R.set i (.mk x1 x2 x3 x4)) (by omega) (by simp [hi3]) ?_ ?_) ⟨A3 (BI (by simp only;omega) (by simp only;omega)),A3 (BI (by simp only;omega) (by simp only;omega)),rfl,rfl,trivial⟩ ⟨by simp only [By,List.map_set];rfl,trivial⟩ rfl
   ·rw [ht,<- hi4];have e1:(R.set i (.mk x1 x2 x3 x4))[i]?=some (.mk x1 x2 x3 x4):=List.getElem?_set_self (by omega);rw [Bn e1,List.take_set_of_le (Nat.le_refl i)]
   ·rw [List.drop_set_of_lt (by omega)];exact hd1
 ·have hj:j=L.length:=by simp at h;omega
  refine Ay rfl ?_;refine LU 1 3 rfl λv=>?_;refine Ca 3 (λ_:{ y:Nat×Nat // v = .slice (some ⟨y.1,0,none⟩) (By R).length y.2/\(By R).length<=y.2 }=>Vp 122 3 (By R) v) rfl (λvs I w bs h=>?_) λy=>?_
  ·have hn:(By R)≠[]:=λe=>by
    have:(By R).length=0:=by rw [e];rfl
    simp at this;subst this;simp at hi3;omega
   have h':=h;rcases h' with ⟨_,h',_⟩ | ⟨gb,cap,cur,h1,_,_,h4,_⟩
   ·exact absurd h' hn
   ·exact ⟨⟨(gb,cap),h1,h4⟩,h⟩
  obtain ⟨⟨gb,cap⟩,rfl,hcap⟩:=y;simp only at hcap;have hRl:(By R).length=L.length:=by simp [hi3]
  have hkl:(F8 q (L.take j)).length=i:=by rw [<- hi4,List.length_take];omega
  rw [hj,List.take_length] at hkl hi4;refine Aq rfl ?_;refine kD Al rfl ⟨by simp,by simp only;omega,by simp only;omega,by simp only;omega⟩ ?_;obtain ⟨d,hd⟩:∃d,(By R).length-i=d+1:=⟨(By R).length-i-1,by omega⟩
  simp only [BE,Int.toNat_natCast];rw [hd];have hRt:By (F8 q L)=(By R).take i:=by rw [<- hi4];simp [By]
  have hkl2:(By (F8 q L)).length=i:=by simpa using hkl
  refine qS Al 3 (Vp 122 3 (By (F8 q L)) (.slice (some ⟨gb,0,none⟩) (By (F8 q L)).length cap)) rfl rfl ?_ ?_
  ·have:=eT (e:=122) (sz:=3) (es:=By R) (es1:=By (F8 q L)) (b:=gb) (cap:=cap) (len:=d+1) (by rw [hkl2];exact hRt) (by rw [hkl2];omega);rw [hkl2] at this ⊢;show Vs _ _ gb (0+i*3) ((d+1)*3);rw [Nat.zero_add];exact this
  refine Ao rfl ?_;refine kD Al rfl ⟨by simp,by simp only;omega,by simp only;omega,by simp only;omega⟩ ?_;simp only [BE,Int.toNat_natCast,Int.toNat_zero,Nat.zero_mul,Nat.sub_zero,Nat.add_zero];refine Ao rfl ?_;rw [<- hkl2];refine Pm 3 4 2 (By (F8 q L)) rfl rfl (λvs I w bs h=>Q9 (by decide) h) ?_;exact Au ⟨_,rfl,rfl,rfl,trivial⟩
def TC (ty:Ty) (nt:List Ty) (hd:Ty):V:=.ip 161 (dTyc ty++Bl hd++[.sl (By nt)]) 0
theorem TW (h:Ty):∀x∈Bl h,V.one x=true:=by
 obtain ⟨a,b,c,d⟩:=h;intro x hx;simp only [Bl,List.mem_cons,List.not_mem_nil,or_false] at hx;rcases hx with rfl | rfl | rfl <;> rfl
theorem V7 {I J:Imm} {w:World} {nt:List Ty} {nv:Value} {bs:List Nat} (h:T5 I w nt nv) (hb:∀q∈nv.ownBlock.toList,q∈bs) (hle:I.le J) (hJ:∀b∈bs,J b=w.heap[b]?):RepV J nv (.sl (By nt)):=by
 obtain ⟨⟨xs,h1,h2⟩,h3⟩:=h;cases ho:nv.ownBlock with
 | none =>
  rcases h1.2 with ⟨rfl,h0⟩ | ⟨g,cap,cur,rfl,_⟩
  ·rw [List.eq_nil_of_length_eq_zero h0];exact .slnil
  ·simp [Value.ownBlock] at ho
 | some g =>
  have hlt:=QK h1 (q:=g) (by simp [ho]);have hg:w.heap[g]?=some w.heap[g]:=Array.getElem?_eq_getElem hlt;refine Yb (w:=w) (es:=By nt) (by simpa using h1) (h2.mono hle) (ZY nt) ?_ ho hg (by rw [hJ g (hb g (by simp [ho]))];exact hg);intro v hv;obtain ⟨q,hq⟩:=List.mem_iff_getElem?.1 hv;have hl:q<(By nt).flatten.length:=by rw [<- h2.1];exact (List.getElem?_eq_some_iff.1 hq).1
  obtain ⟨c,hc,hx⟩:=List.mem_flatten.1 (List.getElem_mem hl);obtain ⟨x,_,rfl⟩:=List.mem_map.1 hc;exact (h2.2 q v _ hq (List.getElem?_eq_getElem hl)).one (TW x _ hx)
theorem bL {I J:Imm} {w:World} {ty:Ty} {nt:List Ty} {hd:Ty} {ks:List Mi} {nv kv:Value} {kbs:List Nat} {b:Nat} {us:List Value} {bs:List Nat} (h:(CZ ty nt hd ks nv kv kbs b).P us I w bs) (hle:I.le J) (hJ:∀b∈bs,J b=w.heap[b]?) :
  RepV J (ptr b) (TC ty nt hd):=by
 obtain ⟨Fk,⟨⟨vs,ts,hs,h1,h2,h3,h4⟩,hnot,hrow⟩,_,_,h8⟩:=h;have hN:=V7 (bs:=bs) hnot (λq hq=>h8 q (by simp only [AT,List.cons_append,List.mem_cons,List.mem_append];exact .inr (.inl (.inl hq)))) hle hJ;have hall:RepVL J (ts++hs++[nv]) (dTyc ty++Bl hd++[.sl (By nt)]):=((h3.mono hle).append (h4.mono hle)).append (.mk hN .nil);have hJb:J b=some (.cells vs 161 (0,0)):=by rw [hJ b (h8 b (by simp [AT]))];exact h1
 have hget:∀(j:Nat) (x:V),(dTyc ty++Bl hd++[.sl (By nt)])[j]?=some x->∃v,vs[j]?=some v/\RepV J v x/\v.oneCell'=true:=by
  intro j x hx;have hlt:j<(ts++hs++[nv]).length:=by rw [hall.1];exact (List.getElem?_eq_some_iff.1 hx).1
  have hv:=List.getElem?_eq_getElem hlt;have hr:=hall.2 j _ x hv hx;refine ⟨_,?_,hr,?_⟩
  ·have:vs.toList[j]?=some (ts++hs++[nv])[j]:=by
    rw [h2,show ts++hs++[nv,kv]=(ts++hs++[nv])++[kv] by simp,List.getElem?_append_left hlt];exact hv
   simpa using this
  ·refine hr.one ?_;have hm:=List.mem_of_getElem? hx;simp only [List.mem_append,List.mem_singleton] at hm;rcases hm with (hm | hm) | rfl
   ·obtain ⟨t1,t2,t3,t4⟩:=ty;simp only [dTyc,List.mem_cons,List.not_mem_nil,or_false] at hm;rcases hm with rfl | rfl | rfl | rfl <;> rfl
   ·exact TW hd x hm
   ·rfl
 have:=RepV.ip (I:=J) b 0 161 (dTyc ty++Bl hd++[.sl (By nt)]) 0 (λj=>(vs[j]?).getD undef) (λj x hx=>?_) (λj x hx=>?_)
 ·simpa [TC,ptr] using this
 ·obtain ⟨v,v1,v2,v3⟩:=hget j x hx;rw [v1];simp only [Imm.cell,hJb,Nat.zero_add,v1,Option.getD_some];exact ⟨trivial,v3⟩
 ·obtain ⟨v,v1,v2,v3⟩:=hget j x hx;rw [v1];exact v2
theorem dJ (ty:Ty) (nt:List Ty) (hd h:Ty):Ak Tryz.prog 177 [.agg (Bl h),.ip 96 [TC ty nt hd] 0] (.bool (BL nt h)):=by
 have hC:=En nt h;obtain ⟨t1,t2,t3,t4⟩:=ty;obtain ⟨f1,f2,f3,f4⟩:=hd;obtain ⟨h1,h2,h3,h4⟩:=h;refine PP ?_;refine Af Al Tryz.func177 (by decide +kernel) rfl [1,2] rfl rfl ?_;refine Ao rfl ?_;refine Ah rfl hC ?_;refine mg [] rfl (by simp;rfl) ?_;exact Aa rfl rfl rfl
def Ly (A B:Asn):Asn where
 P _ I w bs:=∃b1 b2,(∀q∈b1,q∈bs)/\(∀q∈b2,q∈bs)/\(∀q∈b1,q∉b2)/\A.P [] I w b1/\B.P [] I w b2
 mono:=λh ⟨b1,b2,h1,h2,h3,h4,h5⟩=>⟨b1,b2,h1,h2,h3,A.mono h h4,B.mono h h5⟩
 loc:=λh ⟨b1,b2,h1,h2,h3,h4,h5⟩=>⟨b1,b2,h1,h2,h3,A.loc (λq hq=>h q (h1 q hq)) h4,B.loc (λq hq=>h q (h2 q hq)) h5⟩
theorem VO (l:List Ty):NE (By l)=true:=by
 induction l with
 | nil=>rfl
 | cons h r ih=>obtain ⟨a,b,c,d⟩:=h;simpa [By,Bl,NE,D7,F6] using ih
def X6 (b bb:Nat):Asn:=Sn bb 96 [.raw (ptr b)]
theorem fN {I J:Imm} {w:World} {ty:Ty} {nt:List Ty} {hd:Ty} {ks:List Mi} {nv kv:Value} {kbs:List Nat} {b bb:Nat} {us:List Value} {bs:List Nat} (h:(Ly (X6 b bb) (CZ ty nt hd ks nv kv kbs b)).P us I w bs) (hle:I.le J) (hJ:∀b∈bs,J b=w.heap[b]?) :
  RepV J (ptr bb) (.ip 96 [TC ty nt hd] 0):=by
 obtain ⟨b1,b2,h1,h2,h3,⟨e1,vs,e2,e3,e4⟩,h5⟩:=h;have hv:=bL h5 hle (λq hq=>hJ q (h2 q hq));have hl:=e3.1
 match hvs:vs.toList,hl with
 | [x],_ =>
 rw [hvs] at e3;have hx:x=ptr b:=(e3.2 0 x _ rfl rfl).rawInv;subst hx;have hv0:vs[0]?=some (ptr b):=by
  have:vs.toList[0]?=some (ptr b):=by rw [hvs];rfl
  simpa using this
 have hJb:J bb=some (.cells vs 96 (0,0)):=by rw [hJ bb (h1 bb (by rw [e1];simp))];exact e2
 have:=RepV.ip (I:=J) bb 0 96 [TC ty nt hd] 0 (λ_=>ptr b) (λj x hx=>?_) (λj x hx=>?_)
 ·simpa [ptr] using this
 ·match j,hx with
  | 0,_=>exact ⟨by simp only [Imm.cell,hJb,Nat.add_zero,hv0],rfl⟩
  | j+1,hx=>simp at hx
 ·match j,hx with
  | 0,hx=>simp at hx;subst hx;exact hv
  | j+1,hx=>simp at hx
theorem oD (L:List Ty) (hL:L.length<=1000) (ty:Ty) (nt:List Ty) (hd:Ty) (ks:List Mi) (nv kv:Value) (kbs:List Nat) (b bb:Nat) :
  Bg Tryz.prog 175 [.own 1 (By L).length,.fn (.func 177) [] [.raw (ptr bb)]]
   [(3,some (.hp (Ly (X6 b bb) (CZ ty nt hd ks nv kv kbs b)))),(1,some (.row 122 3 (By L)))]
   (.ret (.own 2 (By (F8 (λh=>BL nt h) L)).length) [(3,some (.hp (Ly (X6 b bb) (CZ ty nt hd ks nv kv kbs b)))),(2,some (.row 122 3 (By (F8 (λh=>BL nt h) L))))]):=by
 refine Pj (st0:=[(1,some (.row 122 3 (By L)))]) 3 (Ly (X6 b bb) (CZ ty nt hd ks nv kv kbs b)) (Sl L hL 177 [] [.ip 96 [TC ty nt hd] 0] (λh=>BL nt h) (λh=>dJ ty nt hd h)) rfl ⟨VO _,trivial⟩ (by simp [D8]) (by simp [D8]) (by simp [I5]) λvs I J μ w bs h hle hb xs hx=>?_;refine ⟨hx.1,λi v d h1 h2=>?_⟩
 match i with
 | 0=>exact hx.2 0 v d h1 h2
 | 1 =>
  simp at h2;subst h2;have hr:=hx.2 1 v _ h1 rfl;refine .imm _ _ ?_;cases hr with
  | fn _ first cap _ _ hf hc q1 q2 =>
   refine .clo _ first cap [] _ (by simpa using hf) (by simpa using hc) (λi c x _ hx=>by simp at hx) (λi c x hc' hx'=>?_)
   match i with
   | 0 =>
    simp at hx';subst hx';have:=(q2 0 c _ hc' rfl).rawInv;subst this;exact fN h hle hb
   | i+1=>simp at hx'
 | i+2=>simp at h2
def G5 (ds:List Dt) (m:Mi):Bool:=decide (AI (Ac ds m).hd≠0)
theorem Rl (c:Cse) (sz:List (List V)) (m:Mi) (b:Nat) (ho:OkW c.datas) (hn:AK c.datas m.ty=true) :
  Bg Tryz.prog 133 [.imm (AE c sz),.raw (ptr b)] [(1,some (.hp (AR m b)))] (.ret (.imm (.bool (G5 c.datas m))) [(2,some (.hp (AR (Ac c.datas m) b)))]):=by
 have hH:=TV c sz m.ty ho hn;have hl:=Rx ho m.ty;have hs:=λh=>YV c sz m h b ho hn;have hk0:AI m.hd≠0->Ac c.datas m=m/\G5 c.datas m=true:=λh=>by
  have:=C2 (ds:=c.datas) h;exact ⟨this,by simp only [G5,this];exact decide_eq_true h⟩
 have hk1:AI m.hd=0->∀h,HV c.datas m=[h]->Ac c.datas m=Bm c.datas m h/\G5 c.datas m=true:=λh x hx=>by
  have e:Ac c.datas m=Bm c.datas m x:=by simp only [Ac,h,hx];rfl
  exact ⟨e,by simp only [G5,e];exact decide_eq_true (B4 (DG hx).1).2⟩
 have hk2:AI m.hd=0->(∀h,HV c.datas m≠[h])->Ac c.datas m=m/\G5 c.datas m=false:=λh hx=>by
  rcases CS (ds:=c.datas) m with e | ⟨_,y,y1,_⟩
  ·exact ⟨e,by simp only [G5,e,h];rfl⟩
  ·exact absurd y1 (hx y)
 have hleft:F8 (λh=>BL m.nt h) (AB c.datas m.ty)=HV c.datas m:=rfl;have hll:(HV c.datas m).length<=5:=Nat.le_trans (List.length_filter_le _ _) hl;generalize G5 c.datas m=kb at *;generalize Ac c.datas m=S at *;generalize HV c.datas m=Lf at *;generalize AB c.datas m.ty=Hs at *;obtain ⟨kn,hkn⟩:∃kn:Ty->Mi,kn=Bm c.datas m:=⟨_,rfl⟩
 simp only [<- hkn] at hs hk1;clear hkn hn;obtain ⟨⟨so,n,x,ps⟩,nt,⟨f,hd2,hd3,hd4⟩,ks⟩:=m;simp only [Mi.ty,Mi.nt,Mi.hd,AI] at *;refine Af Al Tryz.func133 (by decide +kernel) rfl [3,4,5,6,7,8,9,10,11,12] rfl rfl ?_;refine rR 3 rfl (by simp) ?_;refine GR 3 4 rfl rfl λbb=>?_;refine Ca 4 (λ_:Unit=>X6 b bb) rfl (λvs I w bs h=>⟨(),h⟩) λ_=>?_;refine KT 1 5 (λy:Value×Value×List Nat=>CZ _ nt _ ks y.1 y.2.1 y.2.2 b) rfl (λvs I w bs h=>let ⟨y,hy⟩:=KF h;⟨y,bs,λq hq=>hq,ZR hy⟩) λy=>?_;obtain ⟨nv,kv,kbs⟩:=y;have hbox:∀vs I w bs,(X6 b bb).P vs I w bs->Dc I w bb 0 [.raw (ptr b)]:=λvs I w bs ⟨_,us,h2,h3,h4⟩=>⟨us,_,_,h2,λj d hd=>by
  have hl:j<us.toList.length:=by rw [h3.1];exact (List.getElem?_eq_some_iff.1 hd).1
  have hj:=List.getElem?_eq_getElem hl;exact ⟨_,by simp,h4 _ (List.getElem_mem hl),h3.2 j _ d hj hd⟩⟩
 refine Aq rfl ?_;refine Bz Al 4 [.raw (ptr b)] rfl rfl (λ_=>hbox) rfl rfl (by simp) ?_;refine Ao rfl ?_;refine Bz Al 5 [.imm (.int .i64 f)] rfl rfl (λ_ vs I w bs h=>NT h) rfl rfl (by simp) ?_;refine Ao rfl ?_;by_cases hf:f=0
 case neg =>
  refine Ab rfl (λh=>?_) (λh=>absurd (by simpa using h) hf);refine Aq rfl ?_;obtain ⟨e1,e2⟩:=hk0 hf;rw [e1,e2];refine Ca 5 (λ_:Unit=>AR (.mk (.mk so n x ps) nt (.mk f hd2 hd3 hd4) ks) b) rfl (λvs I w bs h=>⟨(),KG h⟩) λ_=>?_;refine AG 5 2 rfl ?_;exact Au ⟨_,rfl,rfl,rfl,trivial⟩
 replace hk1:=hk1 hf;replace hk2:=hk2 hf;subst hf;clear hk0;refine Az rfl λh=>?_;clear h;refine Aq rfl ?_;refine Bz Al 4 [.raw (ptr b)] rfl rfl (λ_=>hbox) rfl rfl (by simp) ?_;refine Ao rfl ?_;refine Bz Al 5 ((dTyc (.mk so n x ps)).map .imm) rfl rfl (λ_ vs I w bs h=>Jr h) rfl rfl (by simp) ?_;refine Ao rfl ?_;refine A9 (fr:=[6]) [] [(2,6)] rfl (by simp) hH trivial rfl rfl rfl rfl ?_;refine Ao rfl ?_;refine Fu 4 5 7 (λ_:Unit=>Ly (X6 b bb) (CZ (.mk so n x ps) nt (.mk 0 hd2 hd3 hd4) ks nv kv kbs b)) rfl rfl (by decide) (λvs us I w b1 b2 h1 h2 h3=>⟨(),b1++b2,λq hq=>List.mem_append.1 hq,b1,b2,λq hq=>List.mem_append_left _ hq,λq hq=>List.mem_append_right _ hq,h3,h1,h2⟩) λ_=>?_;refine Aq rfl ?_
 refine A9 (fr:=[8]) [(7,3),(6,1)] [(2,8)] rfl (by simp) (oD Hs (by omega) (.mk so n x ps) nt (.mk 0 hd2 hd3 hd4) ks nv kv kbs b bb) ⟨⟨rfl,rfl,rfl⟩,⟨rfl,rfl,rfl⟩,trivial⟩ rfl rfl rfl rfl ?_;rw [hleft];refine Ao rfl ?_;refine Cu 8 rfl ?_;refine GQ 7 9 10 (λ_:Unit=>X6 b bb) (λ_:Unit=>AR (.mk (.mk so n x ps) nt (.mk 0 hd2 hd3 hd4) ks) b) rfl (λvs I w bs ⟨b1,b2,h1,h2,h3,h4,h5⟩=>⟨(),b1,b2,h1,h2,h3,h4,KG h5⟩) λ_=>?_
 match Lf,hk1,hk2,hll with
 | [],_,hk2,_ =>
  obtain ⟨e1,e2⟩:=hk2 (λh=>by simp);rw [e1,e2];refine Az rfl λh=>?_;refine Aq rfl ?_;refine AG 10 2 rfl ?_;exact Au ⟨_,rfl,rfl,rfl,trivial⟩
 | y::z::r,_,hk2,hll =>
  obtain ⟨e1,e2⟩:=hk2 (λh=>by simp);rw [e1,e2];refine Ab rfl (λh=>by simp [By] at h;omega) (λh=>?_);refine Aq rfl ?_;refine AG 10 2 rfl ?_;exact Au ⟨_,rfl,tV (congrArg _ (by simp [By];omega)),rfl,trivial⟩
 | [y],hk1,_,_ =>
  obtain ⟨e1,e2⟩:=hk1 y rfl;rw [e1,e2];refine Ab rfl (λh=>?_) (λh=>by simp [By] at h);refine Aq rfl ?_;refine Bz Al 9 [.raw (ptr b)] rfl rfl (λ_=>hbox) rfl rfl (by simp) ?_;refine Ao rfl ?_;refine mi rfl (c:=Bl y) (λ_=>⟨by simp,rfl,by simp⟩) (by simp) ?_;obtain ⟨y1,y2,y3,y4⟩:=y;refine Ao rfl ?_;refine B6 [(10,1)] [(2,11)] [] (fr:=[11]) (nm:=[11,10]) rfl trivial (by simp) (hs (.mk y1 y2 y3 y4)) ⟨⟨rfl,rfl,rfl⟩,trivial⟩ rfl trivial rfl rfl rfl ?_;refine mg [] rfl (by simp;rfl) ?_;refine AG 11 2 rfl ?_;exact Au ⟨_,rfl,rfl,rfl,trivial⟩
def H9 (o:Option Nat) (n c:Nat):Value:=.slice (o.map λg=>⟨g,0,none⟩) n c
theorem ZI {w:World} {e:TypeId} {sz n:Nat} {v:Value} {xs:List Value} (h:w.ownsRow 0 e sz v n xs):∃o c,v=H9 o n c:=by
 rcases h.2 with ⟨rfl,rfl⟩ | ⟨g,cap,cur,rfl,_⟩
 ·exact ⟨none,0,rfl⟩
 ·exact ⟨some g,cap,rfl⟩
section
variable {I J:Imm} {w w':World} {ty:Ty} {nt:List Ty} {hd:Ty} {ks:List Mi} {nv kv:Value} {kbs:List Nat} {b:Nat} {us:List Value} {bs:List Nat}
structure Opn where
 no:Option Nat
 nc:Nat
 ko:Option Nat
 kc:Nat
 kbs:List Nat
def Cf (ty:Ty) (nt:List Ty) (hd:Ty) (ks:List Mi) (y:Opn) (b:Nat):Asn:=CZ ty nt hd ks (H9 y.no nt.length y.nc) (H9 y.ko ks.length y.kc) y.kbs b
theorem Dx (h:(AR (.mk ty nt hd ks) b).P us I w bs):∃y:Opn,(Cf ty nt hd ks y b).P us I w bs:=by
 obtain ⟨⟨nv,kv,kbs⟩,F,h1,h2,h3⟩:=KF h;obtain ⟨no,nc,e1⟩:=ZI h1.2.1.1.choose_spec.1;obtain ⟨ko,kc,e2⟩:=ZI h1.2.2;have hl:=Hv h2;simp only at *;subst e1;rw [hl] at e2;subst e2;exact ⟨⟨no,nc,ko,kc,kbs⟩,F,h1,h2,h3⟩
theorem Eh {y:Opn} {vs:List Value} (h:(Cf ty nt hd ks y b).P us I w bs):(AR (.mk ty nt hd ks) b).P vs I w bs:=KG h
theorem I4 {y:Opn} (h:(Cf ty nt hd ks y b).P us I w bs):y.kbs.length=ks.length:=by
 obtain ⟨F,h1,h2,_⟩:=h;exact Hv h2
theorem PQ {y:Opn} (h:(Cf ty nt hd ks y b).P us I w bs) (hk:ks≠[]):∃g,y.ko=some g/\(∃cur,w.heap[g]?=some (.cells cur 96 (0,0))/\cur.size=y.kc*1/\cur.toList.take ks.length=y.kbs.map ptr/\ks.length<=y.kc):=by
 obtain ⟨F,h1,h2,_⟩:=h;have hl:=Hv h2;rcases h1.2.2.2 with ⟨_,h0⟩ | ⟨g,cap,cur,e,_,e1,e2,_,e3,e4⟩
 ·rw [hl] at h0;exact absurd (List.eq_nil_of_length_eq_zero h0) hk
 ·cases ho:y.ko with
  | none=>rw [ho] at e;simp [H9] at e
  | some g' =>
   rw [ho] at e;simp only [H9,Option.map_some,Value.slice.injEq,Option.some.injEq,Addr.mk.injEq,and_true] at e;obtain ⟨rfl,e5,rfl⟩:=e;exact ⟨g',rfl,cur,e1,e3,by rw [hl,Nat.mul_one] at e4;exact e4,by rw [<- hl];exact e2⟩
theorem ZM {y:Opn} (h:(Cf ty [] hd ks y b).P us I w bs):y.no=none/\y.nc=0:=by
 obtain ⟨F,h1,_⟩:=h;have:=h1.2.1.2 rfl;simp only [H9,In,Value.slice.injEq,Option.map_eq_none_iff] at this;exact ⟨this.1,this.2.2⟩
theorem W0 {y:Opn} {g i kb:Nat} (hko:y.ko=some g) (hkb:y.kbs[i]?=some kb) (h:(Cf ty nt hd ks y b).P us I w bs):Dc I w g (0+i*1) [.raw (ptr kb)]:=by
 have hlen:=I4 h;have hi:=(List.getElem?_eq_some_iff.1 hkb).1;obtain ⟨g',e,cur,e1,e2,e3,e4⟩:=PQ h (λe=>by rw [e] at hlen;simp at hlen;rw [hlen] at hi;simp at hi);rw [hko] at e;cases e;refine ⟨cur,_,_,e1,λj d hd=>?_⟩
 match j with
 | 0 =>
  simp at hd;subst hd;refine ⟨ptr kb,?_,rfl,.raw _ rfl⟩;have:(cur.toList.take ks.length)[i]?=some (ptr kb):=by rw [e3];simp [hkb]
  rw [List.getElem?_take] at this
  split at this
  ·simpa using this
  ·cases this
 | j+1=>simp at hd
def Sj (ty:Ty) (nt:List Ty) (hd:Ty) (ks:List Mi) (y:Opn) (b i kb:Nat):Asn where
 P _ I w bs:=∀J w2 k F,I.le J->(∀q∈bs,w2.heap[q]?=w.heap[q]?)->Fm J w2 k kb F->(∀q∈F,q∉bs)->∃G,(Cf ty nt hd (ks.set i k) y b).P [] J w2 G/\∀q∈G,q∈bs\/q∈F
 mono:=λh h1 J w2 k F hJ=>h1 J w2 k F (λb o hb=>hJ b o (h b o hb))
 loc:=λh h1 J w2 k F hJ hw=>h1 J w2 k F hJ λq hq=>(hw q hq).trans (h q hq)
theorem QM {y:Opn} {i kb:Nat} {k:Mi} (h:(Cf ty nt hd ks y b).P us I w bs) (hk:ks[i]?=some k) (hkb:y.kbs[i]?=some kb) :
  ∃b1 b2,(∀q∈b1,q∈bs)/\(∀q∈b2,q∈bs)/\(∀q∈b1,q∉b2)/\(Sj ty nt hd ks y b i kb).P [] I w b1/\(AR k kb).P [] I w b2:=by
 obtain ⟨Fk,h1,h2,h3,h4⟩:=h;obtain ⟨kb',F1,Fi,F2,g1,g2,g3,g4⟩:=LP h2 hk;rw [hkb] at g1;cases g1;subst g3;generalize hnv:H9 y.no nt.length y.nc=nv at *;generalize hkv:H9 y.ko ks.length y.kc=kv at *;refine ⟨AT nv kv b++(F1++F2),Fi,λq hq=>h4 q (by simp at hq ⊢;rcases hq with h | h | h <;> simp [h]),λq hq=>h4 q (by simp [hq]),λq hq hq2=>?_,?_,⟨Fi,g2,λq hq=>hq⟩⟩
 ·have e:AT nv kv b++(F1++Fi++F2)=(AT nv kv b++F1)++Fi++F2:=by simp
  rw [e] at h3;have hn:=List.nodup_append.1 h3;have hn2:=List.nodup_append.1 hn.1;rcases List.mem_append.1 hq with hq | hq
  ·exact hn2.2.2 q (by simp [hq]) q hq2 rfl
  ·rcases List.mem_append.1 hq with hq | hq
   ·exact hn2.2.2 q (by simp [hq]) q hq2 rfl
   ·exact hn.2.2 q (by simp [hq2]) q hq rfl
 ·intro J w2 k' F hJ hw hm hd';refine ⟨AT nv kv b++(F1++F++F2),⟨F1++F++F2,?_,g4 J w2 k' F hJ (λq hq=>hw q (by simp only [List.mem_append] at hq ⊢;exact .inr hq)) hm,?_,λq hq=>?_⟩,λq hq=>?_⟩
  ·rw [List.length_set,hnv,hkv];exact ES hJ (FM (λq hq=>hw q (by simp [hq])) h1)
  ·rw [List.length_set,hnv,hkv];have hF:=Jp hm;have e:AT nv kv b++(F1++Fi++F2)=(AT nv kv b++F1)++(Fi++F2):=by simp
   have e2:AT nv kv b++(F1++F++F2)=(AT nv kv b++F1)++(F++F2):=by simp
   rw [e] at h3;rw [e2];obtain ⟨a1,a2,a3⟩:=List.nodup_append.1 h3;obtain ⟨a4,a5,a6⟩:=List.nodup_append.1 a2;refine List.nodup_append.2 ⟨a1,List.nodup_append.2 ⟨hF,a5,λx hx y hy e=>hd' x hx (by subst e;simp [hy])⟩,λx hx y hy e=>?_⟩;subst e;rcases List.mem_append.1 hy with hy | hy
   ·exact hd' x hy (by simp only [List.mem_append] at hx ⊢;rcases hx with h | h <;> simp [h])
   ·exact a3 x hx x (by simp [hy]) rfl
  ·rw [List.length_set,hnv,hkv] at hq;exact hq
  ·simp only [List.mem_append] at hq ⊢;rcases hq with h | (h | h) | h <;> simp [h]
theorem TR {y:Opn} {i kb:Nat} {k:Mi} {vs:List Value} {b1 b2:List Nat} (h:(Sj ty nt hd ks y b i kb).P us I w b1) (hk:(AR k kb).P vs I w b2) (hd':∀q∈b1,q∉b2):∃bs,(∀q∈bs,q∈b1\/q∈b2)/\(Cf ty nt hd (ks.set i k) y b).P [] I w bs:=by
 obtain ⟨F,h1,h2⟩:=hk;obtain ⟨G,g1,g2⟩:=h I w k F (Imm.le_refl I) (λ_ _=>rfl) h1 (λq hq hq1=>hd' q hq1 (h2 q hq));exact ⟨G,λq hq=>(g2 q hq).imp id (h2 q),g1⟩
end
theorem gO {α:Type} {l:List α} {i:Nat} {a:α} (h:l[i]?=some a):l.set i a=l:=by
 apply List.ext_getElem?;intro j;rw [List.getElem?_set]
 split
 ·rename_i e;subst e
  split
  ·exact h.symm
  ·rename_i hn;exact absurd (List.getElem?_eq_some_iff.1 h).1 hn
 ·rfl
theorem Zu:Bg Tryz.prog 154 [.raw In] [] (.ret .nils []):=by
 refine Af Al Tryz.func154 (by decide +kernel) rfl [1,2] rfl rfl ?_;refine Ao rfl ?_;refine kF Al rfl ?_;refine Ao rfl ?_;refine Ai rfl λh=>?_;refine Aq rfl ?_;exact Au ⟨_,rfl,rfl,trivial⟩
theorem Zt (l:List Ty) (hne:l≠[]) (hl:l.length<=1000000):Bg Tryz.prog 154 [.imm (.sl (By l))] [] (.ret (.own 2 (By l).length) [(2,some (.row 122 3 (By l)))]):=by
 have hs:=ZY l;have hl:(By l).length<=1000000:=by simpa using hl
 have hn:By l≠[]:=λe=>hne (by simpa [By] using e);generalize By l=es at *;refine Af Al Tryz.func154 (by decide +kernel) rfl [2,1] rfl rfl ?_;refine Ao rfl ?_;refine Ul Al rfl λb hb=>?_;have hb:b=false:=hb hn;subst hb;refine Aq rfl ?_;refine Az rfl λh=>?_;refine Aq rfl ?_;refine Cm Al rfl ⟨hs,by simp only [maxLen,List.length_nil] at *;omega,by simp only [List.length_nil] at *;omega,λc hc=>by simp at hc,hn⟩ ?_;refine Ao rfl ?_;exact Au ⟨_,rfl,rfl,rfl,trivial⟩
end Go.Hk
namespace Go.Hk
open Go.Proofs
theorem Ix {I J:Imm} {w:World} {ty:Ty} {nt:List Ty} {hd:Ty} {ks:List Mi} {y:Opn} {b:Nat} {us:List Value} {bs:List Nat} (h:(Cf ty nt hd ks y b).P us I w bs) (hle:I.le J) (hJ:∀b∈bs,J b=w.heap[b]?):RepV J (H9 y.no nt.length y.nc) (.sl (By nt)):=by
 obtain ⟨F,h1,h2,h3,h4⟩:=h;exact V7 h1.2.1 (λq hq=>h4 q (by simp only [AT,List.cons_append,List.mem_cons,List.mem_append];exact .inr (.inl (.inl hq)))) hle hJ
theorem Ut (ty:Ty) (nt:List Ty) (hd:Ty) (ks:List Mi) (y:Opn) (b:Nat) (hne:nt≠[]) (hl:nt.length<=1000000) :
  Bg Tryz.prog 154 [.raw (H9 y.no nt.length y.nc)] [(3,some (.hp (Cf ty nt hd ks y b)))] (.ret (.own 2 (By nt).length) [(3,some (.hp (Cf ty nt hd ks y b))),(2,some (.row 122 3 (By nt)))]):=by
 refine Pj (st0:=[]) 3 (Cf ty nt hd ks y b) (Zt nt hne hl) rfl ⟨VO _,trivial⟩ (by simp [D8]) (by simp [D8]) (by simp [I5]) λvs I J μ w bs h hle hb xs hx=>?_;refine ⟨hx.1,λi v d h1 h2=>?_⟩
 match i with
 | 0 =>
  simp at h2;subst h2;have:=(hx.2 0 v _ h1 rfl).rawInv;subst this;exact .imm _ _ (Ix h hle hb)
 | i+1=>simp at h2
theorem eW {I:Imm} {w:World} {ty:Ty} {nt:List Ty} {hd:Ty} {b:Nat} {v:Value} {us vs:List Value} {b1 b2:List Nat} (hne:nt≠[]) (h:(Sn b 161 ((dTyc ty++Bl hd).map .imm++[.raw v,.nils])).P us I w b1) (hr:(Vp 122 3 (By nt) v).P vs I w b2) (hd':∀q∈b1,q∉b2) :
  ∃bs,(∀q∈bs,q∈b1\/q∈b2)/\(AR (.mk ty nt hd []) b).P [] I w bs:=by
 obtain ⟨h1,ws,h2,h3,h4⟩:=h;obtain ⟨xs,r1,r2,_,_,_,r6⟩:=Q9 (by decide) hr;obtain ⟨t1,t2,t3,t4⟩:=ty;obtain ⟨f1,f2,f3,f4⟩:=hd;have hl:=h3.1;simp only [dTyc,Bl,List.map_append,List.map_cons,List.map_nil,List.cons_append,List.nil_append,List.length_cons,List.length_nil] at hl h3
 match hvs:ws.toList,hl with
 | [a0,a1,a2,a3,a4,a5,a6,a7,a8],_ =>
 rw [hvs] at h3;have e7:a7=v:=(h3.2 7 a7 _ rfl rfl).rawInv;have e8:a8=In:=JT (h3.2 8 a8 _ rfl rfl);subst e7;subst e8;have hF:AT a7 In b=b::a7.ownBlock.toList:=by simp [AT,In,Value.ownBlock]
 refine ⟨AT a7 In b,λq hq=>?_,AT a7 In b,⟨a7,In,[],[],⟨⟨ws,[a0,a1,a2,a3],[a4,a5,a6],h2,by rw [hvs];rfl,?_,?_⟩,⟨⟨xs,by simpa using r1,r2⟩,λe=>absurd e hne⟩,World.ownsRow_nil w 0 _ 1⟩,⟨rfl,rfl⟩,by simp,?_⟩,λq hq=>hq⟩
 ·rw [hF] at hq;rcases List.mem_cons.1 hq with rfl | hq
  ·exact .inl (by rw [h1];simp)
  ·exact .inr (r6 q (by simpa [Option.mem_toList] using hq))
 ·exact .mk (h3.2 0 a0 _ rfl rfl).immInv (.mk (h3.2 1 a1 _ rfl rfl).immInv (.mk (h3.2 2 a2 _ rfl rfl).immInv (.mk (h3.2 3 a3 _ rfl rfl).immInv .nil)))
 ·exact .mk (h3.2 4 a4 _ rfl rfl).immInv (.mk (h3.2 5 a5 _ rfl rfl).immInv (.mk (h3.2 6 a6 _ rfl rfl).immInv .nil))
 ·rw [hF];refine List.nodup_cons.2 ⟨λhq=>?_,by cases a7.ownBlock <;> simp⟩;have:=r6 b (by simpa [Option.mem_toList] using hq);exact hd' b (by rw [h1];simp) this
theorem Ni (ds:List Dt) (N:Nat) (hN:N<=1000000):∀(m:Mi) (b:Nat),G0 ds N m=true ->
  Bg Tryz.prog 121 [.raw (ptr b)] [(1,some (.hp (AR m b)))] (.ret (.hv 2 0) [(3,some (.hp (AR m b))),(2,some (.hp (DJ m)))])
 | .mk (.mk so n x ps) nt (.mk f hd2 hd3 hd4) ks,b,hw=>by
  have hwi:=Bb.1 hw;simp only [Mi.nt,Mi.ks] at hwi;have hnt:nt.length<=1000000:=by omega
  have hkl:ks.length<=3:=hwi.1.2.1;refine Af Al Tryz.func121 (by decide +kernel) rfl [4,5,6,7,8,9,10,11,12] rfl rfl ?_;have J:∀(y:Opn) (ob:Nat),DGo Tryz.prog Tryz.f121.ntmps (D8 [(1,some (.hp (AR (.mk (.mk so n x ps) nt (.mk f hd2 hd3 hd4) ks) b)))]) (K5 XP Tryz.f121.results.toList (.ret (.hv 2 0) [(3,some (.hp (AR (.mk (.mk so n x ps) nt (.mk f hd2 hd3 hd4) ks) b))),(2,some (.hp (DJ (.mk (.mk so n x ps) nt (.mk f hd2 hd3 hd4) ks))))]))
    [.code (EN Tryz.f121 2)] [(3,.raw (ptr ob)),(0,.raw (ptr b))] [(4,some (.hp (Cf (.mk so n x ps) nt (.mk f hd2 hd3 hd4) ks y b))),(9,some (.hp (AR (.mk (.mk so n x ps) nt (.mk f hd2 hd3 hd4) []) ob)))] [5,6,7,8,10,11,12,13,14,2]:=by
   intro y ob;refine Aq rfl ?_;refine Bz Al 4 [.raw (H9 y.ko ks.length y.kc)] rfl rfl (λ_ vs I w bs h=>KH h) rfl rfl (by simp [An]) ?_;refine Dm rfl ?_;refine Am (λi:Nat=>[(26,.imm (.int .i64 i)),(25,.imm (.int .i64 ks.length)),(24,.raw (H9 y.ko ks.length y.kc)),(3,.raw (ptr ob))])
    (λi=>[(4,some (.hp (Cf (.mk so n x ps) nt (.mk f hd2 hd3 hd4) ks y b))),(9,some (.hp (AR (.mk (.mk so n x ps) nt (.mk f hd2 hd3 hd4) (ks.take i)) ob)))]) [5,6,7,8,10,11,12,13,14,2] (λi=>ks.length-i)
    (λi=>i<=ks.length) 0 (Nat.zero_le _) ⟨rfl,rfl,rfl,rfl,trivial⟩ ⟨rfl,rfl,trivial⟩ rfl λi hi ih=>?_
   refine Aq rfl ?_;refine Ab rfl (λh=>?_) (λh=>?_)
   ·simp at h;obtain ⟨k,hk⟩:=Ap h;have hC:=Ni ds N hN k;have hih:=ih (i+1) (by omega) (by omega);rw [Bn hk] at hih;refine Ca 4 (λ_:{ z:Nat×Nat // y.ko=some z.1/\y.kbs[i]?=some z.2 }=>Cf (.mk so n x ps) nt (.mk f hd2 hd3 hd4) ks y b) rfl (λvs I w bs hA=>?_) λz=>?_
    ·obtain ⟨g,g1,_⟩:=PQ hA (λe=>by rw [e] at h;simp at h);have hl:=I4 hA;exact ⟨⟨(g,y.kbs[i]'(by omega)),g1,List.getElem?_eq_getElem (by omega)⟩,hA⟩
    obtain ⟨⟨g,kb⟩,hko,hkb⟩:=z;simp only at hko hkb;obtain ⟨no,nc,ko,kc,kbs⟩:=y;simp only at hko hkb;subst hko;have hC:=hC kb (hwi.2.2 k (List.mem_of_getElem? hk));refine Ca 9 (λz:Opn=>Cf (.mk so n x ps) nt (.mk f hd2 hd3 hd4) (ks.take i) z ob) rfl (λvs I w bs h=>let ⟨z,hz⟩:=Dx h;⟨z,hz⟩) λz=>?_;refine Aq rfl ?_;refine MQ Al rfl rfl (λ_=>⟨by simp,by simp;omega⟩) (by simp) ?_;refine Ao rfl ?_;refine Bz Al 4 [.raw (ptr kb)] rfl rfl (λ_ vs I w bs h=>W0 rfl hkb h) rfl rfl (by simp) ?_;refine rR 2 rfl (by simp) ?_
    refine GQ 4 5 6 (λ_:Unit=>Sj (.mk so n x ps) nt (.mk f hd2 hd3 hd4) ks ⟨no,nc,some g,kc,kbs⟩ b i kb) (λ_:Unit=>AR k kb) rfl (λvs I w bs h=>let ⟨b1,b2,h1,h2,h3,h4,h5⟩:=QM h hk hkb;⟨(),b1,b2,h1,h2,h3,h4,h5⟩) λ_=>?_;refine Aq rfl ?_;refine Bz Al 9 [.raw (H9 z.ko (ks.take i).length z.kc)] rfl rfl (λ_ vs I w bs h=>KH h) rfl rfl (by simp [An]) ?_;refine Dm rfl ?_;refine B6 [(6,1)] [(3,7),(2,8)] [] (fr:=[7,8]) (nm:=[7,8,6]) rfl trivial (by simp) hC ⟨⟨rfl,rfl,rfl⟩,trivial⟩ rfl trivial rfl rfl rfl ?_;refine Ao rfl ?_;refine kH Al 8 10 rfl rfl ?_;refine Ao rfl ?_
    refine kJ Al 9 10 11 (bB (.mk so n x ps) nt (.mk f hd2 hd3 hd4) (ks.take i++[k]) ob) rfl rfl rfl (by decide) (aX (bytes:=8) (by decide) (by simp;omega)) ?_;refine Ao rfl ?_;refine KN Al 11 _ rfl rfl VW ?_;refine mg [] rfl (by simp [An];rfl) ?_;refine Fu 5 7 12 (λ_:Unit=>Cf (.mk so n x ps) nt (.mk f hd2 hd3 hd4) ks ⟨no,nc,some g,kc,kbs⟩ b) rfl rfl (by decide) (λvs us I w b1 b2 h1 h2 h3=>let ⟨bs,e1,e2⟩:=TR h1 h2 h3;⟨(),bs,e1,by rw [gO hk] at e2;exact e2⟩) λ_=>?_;refine AG 4 12 rfl ?_;refine AG 9 11 rfl ?_;exact Ae hih ⟨A3 (BI (by omega) (by omega)),rfl,rfl,rfl,trivial⟩ ⟨rfl,rfl,trivial⟩ rfl
   ·simp at h;refine Ay rfl ?_;rw [List.take_of_length_le (by omega)];refine Aq rfl ?_;refine Ca 4 (λ_:Unit=>AR (.mk (.mk so n x ps) nt (.mk f hd2 hd3 hd4) ks) b) rfl (λvs I w bs h=>⟨(),Eh h⟩) λ_=>?_;refine FT 9 2 5 (DJ (.mk (.mk so n x ps) nt (.mk f hd2 hd3 hd4) ks)) rfl rfl rfl (λus I w bs h=>let ⟨F,h1,h2⟩:=h;⟨ob,F,rfl,h1,h2⟩) ?_;refine AG 5 2 rfl ?_;refine AG 4 3 rfl ?_;exact Au ⟨_,rfl,rfl,rfl,rfl,trivial⟩
  refine KT 1 4 (λy:Opn=>Cf _ nt _ ks y b) rfl (λvs I w bs h=>let ⟨y,hy⟩:=Dx h;⟨y,bs,λq hq=>hq,hy⟩) λy=>?_;by_cases hne:nt=[]
  ·subst hne;refine Ca 4 (λ_:PLift (y.no=none/\y.nc=0)=>Cf _ [] _ ks y b) rfl (λvs I w bs h=>⟨⟨ZM h⟩,h⟩) λhy=>?_;obtain ⟨no,nc,ko,kc,kbs⟩:=y;obtain ⟨⟨rfl,rfl⟩⟩:=hy;refine Aq rfl ?_;refine Bz Al 4 ((dTyc (.mk so n x ps)).map .imm) rfl rfl (λ_ vs I w bs h=>Jr h) rfl rfl (by simp [An]) ?_;refine Dm rfl ?_;refine Bz Al 4 ((Bl (.mk f hd2 hd3 hd4)).map .imm) rfl rfl (λ_ vs I w bs h=>PR h) rfl rfl (by simp [An]) ?_;refine Dm rfl ?_;refine Bz Al 4 [.raw In] rfl rfl (λ_ vs I w bs h=>GM h) rfl rfl (by simp [An]) ?_;refine Dm rfl ?_;refine B6 [] [] [] (fr:=[]) (nm:=[]) rfl trivial (by simp) Zu trivial rfl trivial rfl rfl rfl ?_;refine rR 4 rfl (by simp [An];rfl) ?_;refine GR 5 6 rfl rfl λob=>?_
   refine Ca 6 (λ_:Unit=>AR (.mk (.mk so n x ps) [] (.mk f hd2 hd3 hd4) []) ob) rfl (λvs I w bs h=>⟨(),RS h⟩) λ_=>?_;refine AG 6 9 rfl ?_;exact Ae (J _ ob) ⟨rfl,rfl,trivial⟩ ⟨rfl,rfl,trivial⟩ rfl
  ·refine Aq rfl ?_;refine Bz Al 4 ((dTyc (.mk so n x ps)).map .imm) rfl rfl (λ_ vs I w bs h=>Jr h) rfl rfl (by simp [An]) ?_;refine Dm rfl ?_;refine Bz Al 4 ((Bl (.mk f hd2 hd3 hd4)).map .imm) rfl rfl (λ_ vs I w bs h=>PR h) rfl rfl (by simp [An]) ?_;refine Dm rfl ?_;refine Bz Al 4 [.raw (H9 y.no nt.length y.nc)] rfl rfl (λ_ vs I w bs h=>GM h) rfl rfl (by simp [An]) ?_;refine Dm rfl ?_;refine B6 [(4,3)] [(2,5)] [4] (fr:=[5]) (nm:=[5]) rfl trivial (by simp) (Ut _ nt _ ks y b hne hnt) ⟨⟨rfl,rfl,rfl⟩,trivial⟩ rfl ⟨⟨rfl,rfl⟩,trivial⟩ rfl rfl rfl ?_;refine rR 4 rfl (by simp [An];rfl) ?_;refine LU 5 7 rfl λv=>?_;refine GR 6 8 rfl rfl λob=>?_
   refine Fu 8 7 9 (λ_:Unit=>AR (.mk (.mk so n x ps) nt (.mk f hd2 hd3 hd4) []) ob) rfl rfl (by decide) (λvs us I w b1 b2 h1 h2 h3=>let ⟨bs,e1,e2⟩:=eW hne h1 h2 h3;⟨(),bs,e1,e2⟩) λ_=>?_;exact Ae (J _ ob) ⟨rfl,rfl,trivial⟩ ⟨rfl,rfl,trivial⟩ rfl
termination_by m=>SizeOf.sizeOf m
decreasing_by
 have:=List.sizeOf_lt_of_mem (List.mem_of_getElem? hk);simp_wf;omega
def BP (ds:List Dt):Mi->List Int->Mi
 | m,[]=>m
 | m,i::p=>match (Ac ds m).ks[i.toNat]? with
  | some k=>BP ds k p
  | none=>m
def Ig (ds:List Dt):Mi->List Int->Mi->Mi
 | _,[],k=>k
 | m,i::p,k=>match (Ac ds m).ks[i.toNat]? with
  | some x=>.mk (Ac ds m).ty (Ac ds m).nt (Ac ds m).hd ((Ac ds m).ks.set i.toNat (Ig ds x p k))
  | none=>m
theorem N9 {ds:List Dt} (h:Ty):∀(path:List Int) (m:Mi),EG ds m path->A0 ds m path h true=Ig ds m path (Bm ds (BP ds m path) h) /\
  A0 ds m path h false=Ig ds m path (.mk (BP ds m path).ty ((BP ds m path).nt++[h]) (BP ds m path).hd (BP ds m path).ks)
 | [],m,_=>⟨rfl,rfl⟩
 | i::p,m,⟨_,k,hk,hp⟩=>by
  obtain ⟨h1,h2⟩:=N9 h p k hp;simp only [A0,Ig,BP,hk,h1,h2];exact ⟨trivial,trivial⟩
def AtA (ds:List Dt) (m:Mi) (b:Nat) (path:List Int):Asn where
 P us I w bs:=∃x b1 b2,us=[ptr x]/\(∀q∈b1,q∈bs)/\(∀q∈b2,q∈bs)/\(∀q∈b1,q∉b2)/\(E4 b x (Ig ds m path)).P [] I w b1/\(AR (BP ds m path) x).P [] I w b2
 mono:=λh ⟨x,b1,b2,h0,h1,h2,h3,h4,h5⟩=>⟨x,b1,b2,h0,h1,h2,h3,(E4 _ _ _).mono h h4,(AR _ _).mono h h5⟩
 loc:=λh ⟨x,b1,b2,h0,h1,h2,h3,h4,h5⟩=>⟨x,b1,b2,h0,h1,h2,h3,(E4 _ _ _).loc (λq hq=>h q (h1 q hq)) h4,(AR _ _).loc (λq hq=>h q (h2 q hq)) h5⟩
theorem U4 {I:Imm} {w:World} {ty:Ty} {nt:List Ty} {hd:Ty} {ks:List Mi} {y:Opn} {b i kb:Nat} {us vs:List Value} {bs:List Nat} (h:(Sj ty nt hd ks y b i kb).P us I w bs):(E4 b kb (λk=>.mk ty nt hd (ks.set i k))).P vs I w bs:=by
 intro J w2 k F hJ hw hm hF;obtain ⟨G,g1,g2⟩:=h J w2 k F hJ hw hm hF;obtain ⟨F',f1,f2⟩:=Eh (vs:=[]) g1;exact ⟨F',f1,λq hq=>g2 q (f2 q hq)⟩
structure AtI where
 i:Nat
 x:Nat
 n:Mi
 T:Mi->Mi
theorem lM (c:Cse) (sz:List (List V)) (ho:OkW c.datas) (N:Nat) (m:Mi) (b:Nat) (path:List Int) (hl:path.length<=1000000) (hw:G0 c.datas N m=true) (hc:Do c.datas m) (hp:EG c.datas m path) :
  Bg Tryz.prog 137 [.imm (AE c sz),.raw (ptr b),.imm (.sl (Ba path))] [(1,some (.hp (AR m b)))] (.ret (.hv 2 0) [(2,some (.hp (AtA c.datas m b path)))]):=by
 have hK:=λn x hn=>Rl c sz n x ho hn;refine Af Al Tryz.func137 (by decide +kernel) rfl [4,5,6,7,8,9,10,11,12] rfl rfl ?_;refine GQ 1 4 5 (λ_:Unit=>E4 b b (λk=>k)) (λ_:Unit=>AR m b) rfl (λvs I w bs h=>⟨(),[],bs,(λq hq=>by cases hq),(λq hq=>hq),(λq hq=>by cases hq),mK,h⟩) λ_=>?_;refine Aq rfl ?_;refine Am (λy:AtI=>[(11,.imm (.int .i64 y.i)),(10,.imm (.int .i64 path.length)),(9,.imm (.sl (Ba path))),(1,.raw (ptr y.x)),(0,.imm (AE c sz))])
  (λy=>[(4,some (.hp (E4 b y.x y.T))),(5,some (.hp (AR y.n y.x)))]) [6,7,8,9,10,11,12] (λy=>path.length-y.i)
  (λy=>y.i<=path.length/\G0 c.datas N y.n=true/\Do c.datas y.n/\EG c.datas y.n (path.drop y.i)/\BP c.datas y.n (path.drop y.i)=BP c.datas m path/\∀k,y.T (Ig c.datas y.n (path.drop y.i) k)=Ig c.datas m path k)
  ⟨0,b,m,λk=>k⟩ ⟨Nat.zero_le _,hw,hc,hp,rfl,λk=>rfl⟩ ⟨rfl,A3 (by simp),rfl,rfl,rfl,trivial⟩ ⟨rfl,rfl,trivial⟩ rfl λy hi ih=>?_
 obtain ⟨i,x,n,T⟩:=y;obtain ⟨hi1,hi2,hi3,hi4,hi5,hi6⟩:=hi;simp only at hi1 hi2 hi3 hi4 hi5 hi6;refine Aq rfl ?_;refine Ab rfl (λh=>?_) (λh=>?_)
 ·have hlt:i<path.length:=by simp at h;omega
  obtain ⟨j,hj⟩:=Ap hlt;rw [Av hj] at hi4 hi5 hi6;obtain ⟨hj0,k,hk,hk2⟩:=hi4;have hsw:=C9 ho hi2;have hsc:=C6 (ds:=c.datas) hi3;have hkm:=List.mem_of_getElem? hk;have hne:AI (Ac c.datas n).hd≠0:=λe=>by rw [(B0.1 hsc).1 e] at hkm;cases hkm
  have hkb:G5 c.datas n=true:=decide_eq_true hne;have hKn:=hK n x (Bb.1 hi2).1.1;rw [hkb] at hKn;simp only [BP,Ig,hk] at hi5 hi6;have hwk:=(Bb.1 hsw).2.2 k hkm;have hck:=(B0.1 hsc).2.2 k hkm;have hjl:=(List.getElem?_eq_some_iff.1 hk).1;have hkl:=(Bb.1 hsw).1.2.1;generalize Ac c.datas n=S at *;obtain ⟨ty,nt,hd,ks⟩:=S;simp only [Mi.ks,Mi.ty,Mi.nt,Mi.hd] at *;refine Aq rfl ?_;refine mi rfl (c:=[.int .i64 j]) (λ_=>⟨by simp,by simp [Ba,hj],rfl⟩) (by simp) ?_;refine Ao rfl ?_;refine A9 (fr:=[6]) [(5,1)] [(2,6)] rfl (by simp) hKn ⟨⟨rfl,rfl,rfl⟩,trivial⟩ rfl rfl rfl rfl ?_;refine Ca 6 (λy:Opn=>Cf ty nt hd ks y x) rfl (λvs I w bs h=>Dx h) λy=>?_;refine Aq rfl ?_
  refine Bz Al 6 [.raw (H9 y.ko ks.length y.kc)] rfl rfl (λ_ vs I w bs h=>KH h) rfl rfl (by simp [An]) ?_;refine Dm rfl ?_;refine Ab rfl (λh=>by exfalso;simp at h;omega) (λh=>?_);clear h;obtain ⟨q,rfl⟩:∃q:Nat,j=q:=⟨j.toNat,by omega⟩
  simp only [Int.toNat_natCast] at *;refine Ca 6 (λ_:{ z:Nat×Nat // y.ko=some z.1/\y.kbs[q]?=some z.2 }=>Cf ty nt hd ks y x) rfl (λvs I w bs hA=>?_) λz=>?_
  ·obtain ⟨g,g1,_⟩:=PQ hA (λe=>by rw [e] at hjl;simp at hjl);have hl:=I4 hA;exact ⟨⟨(g,y.kbs[q]'(by omega)),g1,List.getElem?_eq_getElem (by omega)⟩,hA⟩
  obtain ⟨⟨g,kb⟩,hko,hkb2⟩:=z;simp only at hko hkb2;obtain ⟨no,nc,ko,kc,kbs⟩:=y;simp only at hko hkb2;subst hko;refine Aq rfl ?_;refine Bz Al 6 [.raw (H9 (some g) ks.length kc)] rfl rfl (λ_ vs I w bs h=>KH h) rfl rfl (by simp [An]) ?_;refine Dm rfl ?_;refine MQ Al rfl rfl (λ_=>⟨by simp,by simp;omega⟩) (by simp) ?_;refine Ao rfl ?_;refine Bz Al 6 [.raw (ptr kb)] rfl rfl (λ_ vs I w bs h=>W0 rfl hkb2 h) rfl rfl (by simp) ?_;refine Ao rfl ?_;refine GQ 6 7 8 (λ_:Unit=>E4 x kb (λk'=>.mk ty nt hd (ks.set q k'))) (λ_:Unit=>AR k kb) rfl (λvs I w bs h=>let ⟨b1,b2,h1,h2,h3,h4,h5⟩:=QM h hk hkb2;⟨(),b1,b2,h1,h2,h3,U4 h4,h5⟩) λ_=>?_
  refine Fu 4 7 9 (λ_:Unit=>E4 b kb (λk'=>T (.mk ty nt hd (ks.set q k')))) rfl rfl (by decide) (λvs us I w b1 b2 h1 h2 h3=>⟨(),b1++b2,λq hq=>List.mem_append.1 hq,bK h1 h2 h3⟩) λ_=>?_;refine AG 4 9 rfl ?_;refine AG 5 8 rfl ?_;exact Ae (ih ⟨i+1,kb,k,λk'=>T (.mk ty nt hd (ks.set q k'))⟩ (by simp only;omega) ⟨by simp only;omega,hwk,hck,hk2,hi5,hi6⟩) ⟨A3 (BI (by omega) (by omega)),rfl,rfl,rfl,rfl,trivial⟩ ⟨rfl,rfl,trivial⟩ rfl
 ·have hlt:¬i<path.length:=by simp at h;omega
  refine Ay rfl ?_;rw [List.drop_eq_nil_of_le (by omega)] at hi5 hi6;simp only [BP,Ig] at hi5 hi6;have hT:T=Ig c.datas m path:=funext hi6;subst hT;subst hi5;refine Aq rfl ?_;refine Fu 4 5 6 (λ_:Unit=>Ly (E4 b x (Ig c.datas m path)) (AR (BP c.datas m path) x)) rfl rfl (by decide) (λvs us I w b1 b2 h1 h2 h3=>⟨(),b1++b2,λq hq=>List.mem_append.1 hq,b1,b2,λq hq=>List.mem_append_left _ hq,λq hq=>List.mem_append_right _ hq,h3,h1,h2⟩) λ_=>?_;refine FT 6 6 7 (AtA c.datas m b path) rfl rfl rfl (λus I w bs ⟨b1,b2,h1,h2,h3,h4,h5⟩=>⟨x,b1,b2,rfl,h1,h2,h3,h4,h5⟩) ?_;refine AG 7 2 rfl ?_;exact Au ⟨_,rfl,rfl,rfl,trivial⟩
section
variable {I J:Imm} {w w':World} {ty:Ty} {nt:List Ty} {hd:Ty} {ks:List Mi} {nv kv:Value} {kbs:List Nat} {b:Nat} {us:List Value} {bs:List Nat}
def bA (ty:Ty) (nt:List Ty) (hd:Ty) (ks:List Mi) (b:Nat):Asn where
 P us I w bs:=∃v nv kv kbs Fk,us=[v]/\aT I w ty hd nv kv b/\T5 I w nt v/\KJ w kbs kv/\D9 I w ks kbs Fk/\(AT v kv b++Fk).Nodup/\∀q∈AT v kv b++Fk,q∈bs
 mono:=λh ⟨v,nv,kv,kbs,Fk,h0,⟨vs,ts,hs,h1,h2,h3,h4⟩,⟨⟨xs,h5,h6⟩,h7⟩,h8,h9,h10⟩=>⟨v,nv,kv,kbs,Fk,h0,⟨vs,ts,hs,h1,h2,h3.mono h,h4.mono h⟩,⟨⟨xs,h5,h6.mono h⟩,h7⟩,h8,Ec h h9,h10⟩
 loc:=λh ⟨v,nv,kv,kbs,Fk,h0,⟨vs,ts,hs,h1,h2⟩,⟨⟨xs,h5,h6⟩,h7⟩,h8,h9,h10,h11⟩=>⟨v,nv,kv,kbs,Fk,h0,⟨vs,ts,hs,(h b (h11 b (by simp [AT]))).trans h1,h2⟩,
  ⟨⟨xs,BX (λq hq=>h q (h11 q (by simp only [AT,List.cons_append,List.mem_cons,List.mem_append];exact .inr (.inl (.inl hq))))) h5,h6⟩,h7⟩,BX (λq hq=>h q (h11 q (by simp only [AT,List.cons_append,List.mem_cons,List.mem_append];exact .inr (.inl (.inr hq))))) h8,
  CC (λq hq=>h q (h11 q (by simp [hq]))) h9,h10,h11⟩
theorem aW {h:Ty} {bytes:Nat} (hb:bytes<=1000) (hl:nt.length<=1000000):mD (CZ ty nt hd ks nv kv kbs b) (bA ty (nt++[h]) hd ks b) 122 3 bytes nv [Bl h]:=by
 refine ⟨λc hc=>by simp at hc;subst hc;simp,λus I w b1 ⟨Fk,⟨hcell,hnot,hrow⟩,h2,h3,h4⟩=>?_⟩;obtain ⟨⟨xs,x1,x2⟩,x3⟩:=hnot;refine ⟨nt.length,xs,x1,λq hq=>h4 q (by simp [AT,hq]),⟨by simp only [maxLen,List.length_singleton];omega,?_⟩,λv' w' news n1 n2 hg=>?_⟩
 ·have:(nt.length+1)*bytes<=1000001*1000:=Nat.mul_le_mul (by omega) hb;simp only [List.length_singleton];omega
 have hne:∀q,q<w.heap.size->q∉nv.ownBlock.toList->w'.heap[q]?=w.heap[q]?:=λq hq hk=>hg.2.1.block q hq (λe=>hk (by simp [e]));have hbase:∀q∈nv.ownBlock.toList,q∈b1:=λq hq=>h4 q (by simp only [AT,List.cons_append,List.mem_cons,List.mem_append];exact .inr (.inl (.inl hq)));have hnod:=h3;simp only [AT,List.cons_append,List.append_assoc] at hnod;obtain ⟨n1',n2'⟩:=List.nodup_cons.1 hnod;obtain ⟨n3,n4,n5⟩:=List.nodup_append.1 n2';obtain ⟨n6,n7,n8⟩:=List.nodup_append.1 n4;have hbk:b∉nv.ownBlock.toList:=λh=>n1' (by simp only [List.mem_append];exact .inl h);have hkk:∀q∈kv.ownBlock.toList,q∉nv.ownBlock.toList:=λq hq hk=>n5 q hk q (by simp only [List.mem_append];exact .inl hq) rfl
 have hFk:∀q∈Fk,q∉nv.ownBlock.toList:=λq hq hk=>n5 q hk q (by simp only [List.mem_append];exact .inr hq) rfl;have hltn:=UQ (I:=I) (w:=w) (ty:=ty) (nt:=nt) (hd:=hd) (nv:=nv) (kv:=kv) (kbs:=kbs) (b:=b) ⟨hcell,⟨⟨xs,x1,x2⟩,x3⟩,hrow⟩;have hltb:b<w.heap.size:=hltn b (by simp [AT]);have hltkv:∀q∈kv.ownBlock.toList,q<w.heap.size:=λq hq=>hltn q (by simp only [AT,List.mem_cons,List.mem_append];exact .inr (.inr hq));have hltF:=PT h2;have hv1:∀q∈v'.ownBlock.toList,q∈nv.ownBlock.toList\/w.heap.size<=q:=λq hq=>UN hg hq;refine ⟨AT v' kv b++Fk,λq hq=>?_,v',nv,kv,kbs,Fk,rfl,?_,⟨⟨xs++news,?_,?_⟩,λe=>by simp at e⟩,?_,?_,?_,λq hq=>hq⟩
 ·simp only [AT,List.cons_append,List.mem_cons,List.mem_append] at hq;have hw:q∈b1\/(w.heap.size<=q/\q∈v'.ownBlock.toList):=by
   rcases hq with rfl | (hq | hq) | hq
   ·exact .inl (h4 q (by simp [AT]))
   ·rcases hv1 q hq with h | h
    ·exact .inl (hbase q h)
    ·exact .inr ⟨h,hq⟩
   ·exact .inl (h4 q (by simp only [AT,List.cons_append,List.mem_cons,List.mem_append];exact .inr (.inl (.inr hq))))
   ·exact .inl (h4 q (by simp [hq]))
  rcases hw with h | ⟨h,hq⟩
  ·exact .inl h
  ·exact .inr ⟨h,QK hg.1 hq⟩
 ·obtain ⟨vs0,ts,hs,c1,c2⟩:=hcell;exact ⟨vs0,ts,hs,(hne b hltb hbk).trans c1,c2⟩
 ·rw [List.length_append];exact hg.1
 ·rw [Pb,List.flatten_append];exact x2.append n1
 ·exact BX (λq hq=>hne q (hltkv q hq) (hkk q hq)) hrow
 ·exact CC (λq hq=>hne q (hltF q hq) (hFk q hq)) h2
 ·have hvn:v'.ownBlock.toList.Nodup:=by cases v'.ownBlock <;> simp
  simp only [AT,List.cons_append,List.append_assoc];refine List.nodup_cons.2 ⟨λh=>?_,List.nodup_append.2 ⟨hvn,n4,λx hx y hy e=>?_⟩⟩
  ·rcases List.mem_append.1 h with h | h
   ·rcases hv1 b h with h | h
    ·exact hbk h
    ·omega
   ·exact n1' (List.mem_append_right _ h)
  ·subst e;rcases List.mem_append.1 hy with hy | hy
   ·rcases hv1 x hx with h | h
    ·exact hkk x hy h
    ·have:=hltkv x hy;omega
   ·rcases hv1 x hx with h | h
    ·exact hFk x hy h
    ·have:=hltF x hy;omega
theorem ZA:Sf (bA ty nt hd ks b) (AR (.mk ty nt hd ks) b) b 7 0:=by
 intro us I w bs ⟨v,nv,kv,kbs,Fk,h0,⟨vs,ts,hs,h1,h2,h3,h4⟩,h5,h6,h7,h8,h9⟩;have e1:ts.length=4:=by rw [h3.1,Qr]
 have e2:hs.length=3:=by rw [h4.1];simp
 have hl:vs.toList.length=9:=by rw [h2];simp [e1,e2]
 refine ⟨h9 b (by simp [AT]),vs,_,h1,by simp at hl;omega,λu hu h1u=>?_⟩;subst h0;have hu:v=u:=by simpa using hu
 subst hu;have hne:=LJ h8;refine ⟨AT v kv b++Fk,⟨v,kv,kbs,Fk,⟨⟨_,ts,hs,setRow_heap w b vs _ _ _ h1,?_,h3,h4⟩,⟨?_,h5.2⟩,?_⟩,?_,rfl,h8⟩,h9⟩
 ·rw [List.toList_toArray,h2]
  match ts,e1 with
  | [a0,a1,a2,a3],_ =>
  match hs,e2 with
  | [a4,a5,a6],_=>simp
 ·obtain ⟨⟨xs,x1,x2⟩,_⟩:=h5;exact ⟨xs,BX (λq hq=>Db (hne q (by simp only [List.mem_append];exact .inl (.inl hq)))) x1,x2⟩
 ·exact BX (λq hq=>Db (hne q (by simp only [List.mem_append];exact .inl (.inr hq)))) h6
 ·exact CC (λq hq=>Db (hne q (by simp only [List.mem_append];exact .inr hq))) h7
end
theorem PJ {ds:List Dt} (ho:OkW ds) {N:Nat}:∀(path:List Int) (m:Mi),G0 ds N m=true->EG ds m path->G0 ds N (BP ds m path)=true
 | [],m,h,_=>h
 | i::p,m,h,⟨_,k,hk,hp⟩=>by
  simp only [BP,hk];exact PJ ho p k ((Bb.1 (C9 ho h)).2.2 k (List.mem_of_getElem? hk)) hp
theorem LB (c:Cse) (sz:List (List V)) (ho:OkW c.datas) (N:Nat) (hN:N<=1000000) (m:Mi) (b:Nat) (path:List Int) (h:Ty) (is:Bool) (hl:path.length<=1000000) (hw:G0 c.datas N m=true) (hc:Do c.datas m) (hp:EG c.datas m path) :
  Bg Tryz.prog 91 [.imm (AE c sz),.raw (ptr b),.imm (.sl (Ba path)),.imm (.agg (Bl h)),.imm (.bool is)] [(1,some (.hp (AR m b)))] (.ret (.hv 2 0) [(3,some (.hp (AR m b))),(2,some (.hp (DJ (A0 c.datas m path h is))))]):=by
 have hC:=Ni c.datas N hN m b hw;have hA:=λx=>lM c sz ho N m x path hl hw hc hp;have hwp:=Bb.1 (PJ ho path m hw hp);have hH:=λx=>YV c sz (BP c.datas m path) h x ho hwp.1.1;obtain ⟨s1,s2⟩:=N9 h path m hp;have hnl:=hwp.1.2.2;obtain ⟨h1,h2,h3,h4⟩:=h;refine Af Al Tryz.func91 (by decide +kernel) rfl [4,5,6,7,8,9,10,11,12,13,14] rfl rfl ?_;refine Ao rfl ?_;refine A9 (fr:=[5,6]) [(1,1)] [(3,5),(2,6)] rfl (by simp) hC ⟨⟨rfl,rfl,rfl⟩,trivial⟩ rfl rfl rfl rfl ?_;refine E3 6 7 (λob:Nat=>[ptr ob]) (λob=>AR m ob) rfl (λvs I w bs h=>let ⟨ob,F,e1,e2,e3⟩:=h;⟨ob,e1,F,e2,e3⟩) λob=>?_;refine Aq rfl ?_;refine A9 (fr:=[8]) [(7,1)] [(2,8)] rfl (by simp) (hA ob) ⟨⟨rfl,rfl,rfl⟩,trivial⟩ rfl rfl rfl rfl ?_
 refine E3 8 9 (λx:Nat=>[ptr x]) (λx=>Ly (E4 ob x (Ig c.datas m path)) (AR (BP c.datas m path) x)) rfl (λvs I w bs h=>let ⟨x,b1,b2,e1,e2⟩:=h;⟨x,e1,b1,b2,e2⟩) λx=>?_;refine GQ 9 10 11 (λ_:Unit=>E4 ob x (Ig c.datas m path)) (λ_:Unit=>AR (BP c.datas m path) x) rfl (λvs I w bs ⟨b1,b2,h1,h2,h3,h4,h5⟩=>⟨(),b1,b2,h1,h2,h3,h4,h5⟩) λ_=>?_;refine Aq rfl ?_;cases is with
 | true =>
  refine Ai rfl λh=>?_;refine Aq rfl ?_;refine A9 (fr:=[12]) [(11,1)] [(2,12)] rfl (by simp) (hH x) ⟨⟨rfl,rfl,rfl⟩,trivial⟩ rfl rfl rfl rfl ?_;refine Ao rfl ?_;refine Fu 10 12 13 (λ_:Unit=>AR (A0 c.datas m path (.mk h1 h2 h3 h4) true) ob) rfl rfl (by decide) (λvs us I w b1 b2 k1 k2 k3=>let ⟨bs,e1,e2⟩:=KA k1 k2 k3;⟨(),bs,e1,by rw [s1];exact e2⟩) λ_=>?_;refine FT 13 10 14 (DJ (A0 c.datas m path (.mk h1 h2 h3 h4) true)) rfl rfl rfl (λus I w bs h=>let ⟨F,e1,e2⟩:=h;⟨ob,F,rfl,e1,e2⟩) ?_;refine AG 14 2 rfl ?_;refine AG 5 3 rfl ?_;exact Au ⟨_,rfl,rfl,rfl,rfl,trivial⟩
 | false =>
  refine Az rfl λh=>?_;generalize hP:BP c.datas m path=P0 at *;obtain ⟨pty,pnt,phd,pks⟩:=P0;simp only [Mi.nt,Mi.ty,Mi.hd,Mi.ks] at hnl s2;refine Ca 11 (λy:Opn=>Cf pty pnt phd pks y x) rfl (λvs I w bs h=>Dx h) λy=>?_;refine Aq rfl ?_;refine Bz Al 11 [.raw (H9 y.no pnt.length y.nc)] rfl rfl (λ_ vs I w bs h=>GM h) rfl rfl (by simp [An]) ?_;refine Dm rfl ?_;refine kI Al 11 12 (bA pty (pnt++[Ty.mk h1 h2 h3 h4]) phd pks x) rfl rfl (aW (h:=Ty.mk h1 h2 h3 h4) (bytes:=32) (by decide) (by omega)) ?_;refine Ao rfl ?_;refine KN Al 12 _ rfl rfl ZA ?_;refine mg [] rfl (by simp [An];rfl) ?_
  refine Fu 10 12 13 (λ_:Unit=>AR (A0 c.datas m path (.mk h1 h2 h3 h4) false) ob) rfl rfl (by decide) (λvs us I w b1 b2 k1 k2 k3=>let ⟨bs,e1,e2⟩:=KA k1 k2 k3;⟨(),bs,e1,by rw [s2];exact e2⟩) λ_=>?_;refine FT 13 10 14 (DJ (A0 c.datas m path (.mk h1 h2 h3 h4) false)) rfl rfl rfl (λus I w bs h=>let ⟨F,e1,e2⟩:=h;⟨ob,F,rfl,e1,e2⟩) ?_;refine AG 14 2 rfl ?_;refine AG 5 3 rfl ?_;exact Au ⟨_,rfl,rfl,rfl,rfl,trivial⟩
end Go.Hk
namespace Go.Hk
open Go.Proofs
section
variable {I J:Imm} {w w':World} {ty:Ty} {nt:List Ty} {hd:Ty} {ks:List Mi} {b:Nat} {us:List Value} {bs:List Nat}
def XM (ty:Ty) (nt:List Ty) (hd:Ty) (ks:List Mi) (y:Opn) (b i kb:Nat):Asn where
 P us I w bs:=Im I w ty nt hd (H9 y.no nt.length y.nc) (H9 y.ko ks.length y.kc) y.kbs b/\y.kbs.length=ks.length/\(∀q∈AT (H9 y.no nt.length y.nc) (H9 y.ko ks.length y.kc) b,q∈bs)/\(Sj ty nt hd ks y b i kb).P us I w bs
 mono:=λh ⟨h1,h2,h3,h4⟩=>⟨ES h h1,h2,h3,(Sj ty nt hd ks y b i kb).mono h h4⟩
 loc:=λh ⟨h1,h2,h3,h4⟩=>⟨FM (λq hq=>h q (h3 q hq)) h1,h2,h3,(Sj ty nt hd ks y b i kb).loc h h4⟩
theorem Wl {y:Opn} {i kb:Nat} {k:Mi} (h:(Cf ty nt hd ks y b).P us I w bs) (hk:ks[i]?=some k) (hkb:y.kbs[i]?=some kb) :
  ∃b1 b2,(∀q∈b1,q∈bs)/\(∀q∈b2,q∈bs)/\(∀q∈b1,q∉b2)/\(XM ty nt hd ks y b i kb).P [] I w b1/\(AR k kb).P [] I w b2:=by
 have h0:=h;obtain ⟨Fk,h1,h2,h3,h4⟩:=h0;have hl:=I4 h;obtain ⟨kb',F1,Fi,F2,g1,g2,g3,g4⟩:=LP h2 hk;rw [hkb] at g1;cases g1;subst g3;generalize hnv:H9 y.no nt.length y.nc=nv at *;generalize hkv:H9 y.ko ks.length y.kc=kv at *;refine ⟨AT nv kv b++(F1++F2),Fi,λq hq=>h4 q (by simp at hq ⊢;rcases hq with h | h | h <;> simp [h]),λq hq=>h4 q (by simp [hq]),λq hq hq2=>?_,⟨by rw [hnv,hkv];exact h1,hl,λq hq=>by rw [hnv,hkv] at hq;simp [hq],?_⟩,⟨Fi,g2,λq hq=>hq⟩⟩
 ·have e:AT nv kv b++(F1++Fi++F2)=(AT nv kv b++F1)++Fi++F2:=by simp
  rw [e] at h3;have hn:=List.nodup_append.1 h3;have hn2:=List.nodup_append.1 hn.1;rcases List.mem_append.1 hq with hq | hq
  ·exact hn2.2.2 q (by simp [hq]) q hq2 rfl
  ·rcases List.mem_append.1 hq with hq | hq
   ·exact hn2.2.2 q (by simp [hq]) q hq2 rfl
   ·exact hn.2.2 q (by simp [hq2]) q hq rfl
 ·intro J w2 k' F hJ hw hm hd';refine ⟨AT nv kv b++(F1++F++F2),⟨F1++F++F2,?_,g4 J w2 k' F hJ (λq hq=>hw q (by simp only [List.mem_append] at hq ⊢;exact .inr hq)) hm,?_,λq hq=>?_⟩,λq hq=>?_⟩
  ·rw [List.length_set,hnv,hkv];exact ES hJ (FM (λq hq=>hw q (by simp [hq])) h1)
  ·rw [List.length_set,hnv,hkv];have hF:=Jp hm;have e:AT nv kv b++(F1++Fi++F2)=(AT nv kv b++F1)++(Fi++F2):=by simp
   have e2:AT nv kv b++(F1++F++F2)=(AT nv kv b++F1)++(F++F2):=by simp
   rw [e] at h3;rw [e2];obtain ⟨a1,a2,a3⟩:=List.nodup_append.1 h3;obtain ⟨a4,a5,a6⟩:=List.nodup_append.1 a2;refine List.nodup_append.2 ⟨a1,List.nodup_append.2 ⟨hF,a5,λx hx y hy e=>hd' x hx (by subst e;simp [hy])⟩,λx hx y hy e=>?_⟩;subst e;rcases List.mem_append.1 hy with hy | hy
   ·exact hd' x hy (by simp only [List.mem_append] at hx ⊢;rcases hx with h | h <;> simp [h])
   ·exact a3 x hx x (by simp [hy]) rfl
  ·rw [List.length_set,hnv,hkv] at hq;exact hq
  ·simp only [List.mem_append] at hq ⊢;rcases hq with h | (h | h) | h <;> simp [h]
theorem nO {y:Opn} {i kb:Nat} (h:(XM ty nt hd ks y b i kb).P us I w bs):Dc I w b 8 [.raw (H9 y.ko ks.length y.kc)]:=by
 obtain ⟨h,_⟩:=h;obtain ⟨t1,t2,t3,t4⟩:=ty;obtain ⟨f1,f2,f3,f4⟩:=hd;exact FV (EH h) λj d hd=>by match j,hd with | 0,hd=>exact hd | j+1,hd=>simp at hd
theorem jX {y:Opn} {g i kb:Nat} (hko:y.ko=some g) (hkb:y.kbs[i]?=some kb) (h:(XM ty nt hd ks y b i kb).P us I w bs):Dc I w g (0+i*1) [.raw (ptr kb)]:=by
 obtain ⟨h1,h2,h3,_⟩:=h;have hi:=(List.getElem?_eq_some_iff.1 hkb).1;rcases h1.2.2.2 with ⟨_,h0⟩ | ⟨g',cap,cur,e,_,e1,e2,_,e3,e4⟩
 ·omega
 rw [hko] at e;simp only [H9,Option.map_some,Value.slice.injEq,Option.some.injEq,Addr.mk.injEq,and_true] at e;obtain ⟨rfl,e5,rfl⟩:=e;refine ⟨cur,_,_,e1,λj d hd=>?_⟩
 match j with
 | 0 =>
  simp at hd;subst hd;refine ⟨ptr kb,?_,rfl,.raw _ rfl⟩;have:(cur.toList.take (y.kbs.length*1))[i]?=some (ptr kb):=by rw [e4];simp [hkb]
  rw [List.getElem?_take] at this
  split at this
  ·simpa using this
  ·cases this
 | j+1=>simp at hd
theorem Ru {y:Opn} {i kb:Nat} {k:Mi} {vs:List Value} {b1 b2:List Nat} (h:(XM ty nt hd ks y b i kb).P us I w b1) (hk:(AR k kb).P vs I w b2) (hd':∀q∈b1,q∉b2):∃bs,(∀q∈bs,q∈b1\/q∈b2)/\(Cf ty nt hd (ks.set i k) y b).P [] I w bs:=TR h.2.2.2 hk hd'
end
def My (path:List Int) (r:Int×List Int×Ty):D:=if r.1=2 then .tup [.imm (.bool false),.ip 156 (.sl (Ba (path++r.2.1))::Bl r.2.2) 0] else .imm (.tup [.bool (decide (r.1=1)),.nilp])
theorem bX {ds:List Dt} {f n:Int} {x:Str} {ps:List Ty} {m:Mi} :
  (f=1\/f=2->Ar ds (.mk f n x ps) m=(1,[],zT)/\EF ds (.mk f n x ps) m=m) /\
  (¬(f=1\/f=2)->AI (Ac ds m).hd=0->EF ds (.mk f n x ps) m=Ac ds m/\(BL (Ac ds m).nt (AQ (.mk f n x ps))=true->Ar ds (.mk f n x ps) m=(0,[],zT))/\(BL (Ac ds m).nt (AQ (.mk f n x ps))=false->Ar ds (.mk f n x ps) m=(2,[],AQ (.mk f n x ps)))) /\
  (¬(f=1\/f=2)->AI (Ac ds m).hd≠0->AD (Ac ds m).hd (AQ (.mk f n x ps))=false->EF ds (.mk f n x ps) m=Ac ds m/\Ar ds (.mk f n x ps) m=(0,[],zT)) /\
  (¬(f=1\/f=2)->AI (Ac ds m).hd≠0->AD (Ac ds m).hd (AQ (.mk f n x ps))=true->EF ds (.mk f n x ps) m = .mk (Ac ds m).ty (Ac ds m).nt (Ac ds m).hd (Du ds ps (Ac ds m).ks)/\Ar ds (.mk f n x ps) m=AL ds 0 ps (Ac ds m).ks):=by
 refine ⟨λh=>?_,λh h0=>?_,λh h0 h1=>?_,λh h0 h1=>?_⟩
 ·exact ⟨by simp only [Ar,if_pos h],by simp only [EF,if_pos h]⟩
 ·refine ⟨by simp only [EF,if_neg h,if_pos (Or.inl h0)],λhb=>?_,λhb=>?_⟩
  ·simp only [Ar,if_neg h];rw [if_neg (λhh=>by rw [hb] at hh;cases hh.2),if_pos (Or.inl h0)]
  ·simp only [Ar,if_neg h];rw [if_pos ⟨h0,hb⟩]
 ·refine ⟨by simp only [EF,if_neg h,if_pos (Or.inr h1)],?_⟩;simp only [Ar,if_neg h];rw [if_neg (λhh=>h0 hh.1),if_pos (Or.inr h1)]
 ·have hn:¬(AI (Ac ds m).hd=0\/AD (Ac ds m).hd (AQ (.mk f n x ps))=false):=λh=>by
   rcases h with h | h
   ·exact h0 h
   ·rw [h1] at h;cases h
  refine ⟨by simp only [EF,if_neg h,if_neg hn],?_⟩;simp only [Ar,if_neg h];rw [if_neg (λhh=>h0 hh.1),if_neg hn]
theorem VS (l:List Int):∀c∈Ba l,c.length=1:=λc hc=>by simp only [Ba,List.mem_map] at hc;obtain ⟨q,_,rfl⟩:=hc;rfl
theorem lN (path:List Int) (i:Int) (r1:Int) (r2:List Int) (r3:Ty):My (path++[i]) (r1,r2,r3)=My path (r1,i::r2,r3):=by
 simp only [My,List.append_assoc,List.singleton_append]
theorem bU {α:Type} {l:List α} {i:Nat} (a:α) (h:i<l.length):l.set i a=l.take i++a::l.drop (i+1):=by
 apply List.ext_getElem?;intro j;rw [List.getElem?_set];by_cases e:i=j
 ·subst e;rw [if_pos rfl,if_pos h,List.getElem?_append_right (by simp;omega)];simp [Nat.min_eq_left (Nat.le_of_lt h)]
 ·rw [if_neg e];rcases Nat.lt_or_ge j i with hj | hj
  ·rw [List.getElem?_append_left (by simp;omega),List.getElem?_take,if_pos hj]
  ·rw [List.getElem?_append_right (by simp;omega),List.length_take,Nat.min_eq_left (Nat.le_of_lt h)];obtain ⟨q,hq⟩:∃q,j-i=q+1:=⟨j-i-1,by omega⟩
   rw [hq,List.getElem?_cons_succ,List.getElem?_drop];congr 1;omega
theorem XY (c:Cse) (sz:List (List V)) (ho:OkW c.datas) (N:Nat) (hN:N<=1000000):∀(p:Ty) (m:Mi) (b:Nat) (path:List Int),path.length+Aj p<=1000000->G0 c.datas N m=true->Do c.datas m->Cs c.datas m.ty p=true->BN p=true ->
  Bg Tryz.prog 90 [.imm (AE c sz),.imm (.agg (dTyc p)),.raw (ptr b),.imm (.sl (Ba path))] [(1,some (.hp (AR m b)))] (.ret (My path (Ar c.datas p m)) [(2,some (.hp (AR (EF c.datas p m) b)))])
 | .mk f n x ps,m,b,path,hN1,hw,hc,hpt,hpp=>by
  have hK:=Rl c sz m b ho (Bb.1 hw).1.1;have hW:=Mn (.mk f n x ps);have hcl:=fB path (by omega);have hfit:=Ph ho (.mk f n x ps) hw hc hpt hpp;have hsw:=C9 ho hw;have hsc:=C6 (ds:=c.datas) hc;have hkp:¬(f=1\/f=2)->AI (Ac c.datas m).hd≠0->AD (Ac c.datas m).hd (AQ (.mk f n x ps))=true->ps.length=(Ac c.datas m).ks.length/\∀(i:Nat) k p,(Ac c.datas m).ks[i]?=some k->ps[i]?=some p->Cs c.datas k.ty p=true/\BN p=true:=λh12 h0 hE=>by
   obtain ⟨k1,k2,k3,k4⟩:=Ka (Bb.1 hw).1.1 hpt hpp h12;have hks:=((B0.1 hsc).2.1 h0).2;rw [IK hE,Df] at hks;refine ⟨by rw [<- k2,<- hks,List.length_map],λi k p hk hp=>⟨JX k3 (by rw [<- hks];simp [hk]) hp,OJ k4 hp⟩⟩
  obtain ⟨e1,e2,e3,e4⟩:=bX (ds:=c.datas) (f:=f) (n:=n) (x:=x) (ps:=ps) (m:=m);simp only [Aj] at hN1;simp only [nV] at hfit;refine Af Al Tryz.func90 (by decide +kernel) rfl [3,4,5,6,7,8,9,10,11,12] rfl rfl ?_;refine Ao rfl ?_;by_cases h12:f=1\/f=2
  ·obtain ⟨q1,q2⟩:=e1 h12;rw [q1,q2];refine Ab rfl (λh=>?_) (λh=>by exfalso;revert h;rcases h12 with rfl | rfl <;> simp);refine Aq rfl ?_;refine KT 1 4 (λ_:Unit=>AR m b) rfl (λvs I w bs h=>let ⟨F,k1,k2⟩:=h;⟨(),bs,λq hq=>hq,F,k1,k2⟩) λ_=>?_;refine AG 4 2 rfl ?_;exact Au ⟨_,rfl,rfl,rfl,trivial⟩
  replace e2:=e2 h12;replace e3:=e3 h12;replace e4:=e4 h12;replace hkp:=hkp h12;clear e1;refine Ab rfl (λh=>by exfalso;apply h12;simpa using h) (λh=>?_);clear h;refine Aq rfl ?_;refine Ah rfl hW ?_;have hkb:G5 c.datas m=decide (AI (Ac c.datas m).hd≠0):=rfl;generalize Ar c.datas (.mk f n x ps) m=L at *;generalize EF c.datas (.mk f n x ps) m=ST at *;generalize AQ (.mk f n x ps)=h at *;generalize Ac c.datas m=S at *;generalize G5 c.datas m=kb at *;obtain ⟨ty,nt,hd,ks⟩:=S;simp only [Mi.ty,Mi.nt,Mi.hd,Mi.ks] at *;obtain ⟨h1,h2,h3,h4⟩:=h;refine Ao rfl ?_;refine A9 (fr:=[5]) [(1,1)] [(2,5)] rfl (by simp) hK ⟨⟨rfl,rfl,rfl⟩,trivial⟩ rfl rfl rfl rfl ?_;refine Ao rfl ?_
  have hCt:=En nt (.mk h1 h2 h3 h4);by_cases h0:AI hd=0
  ·have hkf:kb=false:=by rw [hkb];exact decide_eq_false (λhh=>hh h0)
   subst hkf;obtain ⟨q1,q2,q3⟩:=e2 h0;refine Ai rfl λh=>?_;refine Ca 5 (λy:Opn=>Cf ty nt hd ks y b) rfl (λvs I w bs h=>Dx h) λy=>?_;refine Aq rfl ?_;refine Bz Al 5 [.raw (H9 y.no nt.length y.nc)] rfl rfl (λ_ vs I w bs h=>GM h) rfl rfl (by simp [An]) ?_;refine Dm rfl ?_;refine PW 5 (vs:=[.sl (By nt),.agg (Bl (.mk h1 h2 h3 h4))]) rfl rfl (λ_=>⟨.inr ⟨_,rfl,λus I w bs h J hle hJ=>Ix h hle hJ⟩,.inl rfl,trivial⟩) (λ_=>hCt) rfl (by simp) rfl ?_;refine mg [] rfl (by simp [An];rfl) ?_;refine Ca 5 (λ_:Unit=>AR (.mk ty nt hd ks) b) rfl (λvs I w bs h=>⟨(),Eh h⟩) λ_=>?_;rw [q1];cases hb:BL nt (.mk h1 h2 h3 h4) with
   | true =>
    rw [q2 hb];refine Ai rfl λh=>?_;refine Aq rfl ?_;refine AG 5 2 rfl ?_;exact Au ⟨_,rfl,rfl,rfl,trivial⟩
   | false =>
    rw [q3 hb];refine Az rfl λh=>?_;refine Aq rfl ?_;refine Ah rfl hcl ?_;refine mg [] rfl (by simp;rfl) ?_;refine Kv 9 rfl rfl ?_;refine AG 5 2 rfl ?_;have hap:path++[]=path:=List.append_nil path;simp only [My,if_true,hap];exact Au ⟨_,rfl,rfl,rfl,trivial⟩
  have hkt:kb=true:=by rw [hkb];exact decide_eq_true h0
  subst hkt;refine Az rfl λh=>?_;refine Ca 5 (λy:Opn=>Cf ty nt hd ks y b) rfl (λvs I w bs h=>Dx h) λy=>?_;refine Aq rfl ?_;obtain ⟨d1,d2,d3,d4⟩:=hd;refine Bz Al 5 ((Bl (.mk d1 d2 d3 d4)).map .imm) rfl rfl (λ_ vs I w bs h=>PR h) rfl rfl (by simp [An]) ?_;refine Dm rfl ?_;refine TX Al rfl KK (by simp [An]) ?_;refine mg [] rfl (by simp [An];rfl) ?_;cases hE:AD (.mk d1 d2 d3 d4) (.mk h1 h2 h3 h4) with
  | false =>
   obtain ⟨q1,q2⟩:=e3 h0 hE;rw [q1,q2];simp only [AD] at hE;refine Ca 5 (λ_:Unit=>AR (.mk ty nt (.mk d1 d2 d3 d4) ks) b) rfl (λvs I w bs h=>⟨(),Eh h⟩) λ_=>?_;refine Ab rfl (λh=>?_) (λh=>by exfalso;simp at h hE;grind);refine Aq rfl ?_;refine AG 5 2 rfl ?_;exact Au ⟨_,rfl,rfl,rfl,trivial⟩
  | true =>
  obtain ⟨q1,q2⟩:=e4 h0 hE;rw [q1,q2];have hEf:(AI (Ty.mk d1 d2 d3 d4)=0)=False:=by simp [h0]
  simp only [AD] at hE;refine Ab rfl (λh=>by exfalso;simp at h hE;grind) (λh=>?_);clear h;refine Aq rfl ?_;obtain ⟨hpl,hkp⟩:=hkp h0 (by simp only [AD];exact hE);have hks3:ks.length<=3:=(Bb.1 hsw).1.2.1;refine Am (λz:Nat×List Mi=>[(49,.imm (.int .i64 z.1)),(48,.imm (.int .i64 ps.length)),(47,.imm (.sl (BQ ps))),(3,.imm (.sl (Ba path))),(2,.raw (ptr b)),(0,.imm (AE c sz))])
   (λz=>[(5,some (.hp (Cf ty nt (.mk d1 d2 d3 d4) z.2 y b)))]) [6,7,8,9,10,11,12] (λz=>ps.length-z.1)
   (λz=>z.1<=ps.length/\z.2.length=ks.length/\z.2.drop z.1=ks.drop z.1/\AL c.datas 0 ps ks=AL c.datas z.1 (ps.drop z.1) (ks.drop z.1)/\Du c.datas ps ks=z.2.take z.1++Du c.datas (ps.drop z.1) (ks.drop z.1)) (0,ks)
   ⟨Nat.zero_le _,rfl,rfl,rfl,rfl⟩ ⟨rfl,A3 (by simp),rfl,rfl,rfl,rfl,trivial⟩ ⟨rfl,trivial⟩ rfl λz hz ih=>?_
  obtain ⟨i,K⟩:=z;obtain ⟨z1,z2,z3,z4,z5⟩:=hz;simp only at z1 z2 z3 z4 z5;refine Aq rfl ?_;refine Ab rfl (λh=>?_) (λh=>?_)
  ·have hlt:i<ps.length:=by simp at h;omega
   obtain ⟨p,hp⟩:=Ap hlt;obtain ⟨k,hk⟩:=Ap (l:=ks) (i:=i) (by omega);have hKk:K[i]?=some k:=by
    have:=congrArg (·[0]?) z3;simpa [hk] using this
   obtain ⟨r1,r2⟩:=hkp i k p hk hp;have hnp:=Cc hp;have hS:=λkb=>XY c sz ho N hN p k kb (path++[(i:Int)]) (by simp;omega) ((Bb.1 hsw).2.2 k (List.mem_of_getElem? hk)) ((B0.1 hsc).2.2 k (List.mem_of_getElem? hk)) r1 r2;rw [Y3 hp hk] at z4;rw [Av hp,Av hk] at z5;simp only [Du] at z5;have hKi:i<K.length:=by omega
   have hdr:K.drop (i+1)=ks.drop (i+1):=by rw [<- List.drop_drop,z3,List.drop_drop]
   have hset:=bU (EF c.datas p k) hKi;have hn1:∀e:(Ar c.datas p k).1≠1,Du c.datas ps ks=K.set i (EF c.datas p k):=λe=>by rw [z5,hset,if_neg e,hdr]
   have hn2:(Ar c.datas p k).1=1->Du c.datas ps ks=(K.set i (EF c.datas p k)).take (i+1)++Du c.datas (ps.drop (i+1)) (ks.drop (i+1)):=λe=>by
    have e1:(K.set i (EF c.datas p k))[i]?=some (EF c.datas p k):=List.getElem?_set_self hKi;rw [z5,if_pos e,Bn e1,List.take_set_of_le (Nat.le_refl i)];simp
   have hn3:(K.set i (EF c.datas p k)).drop (i+1)=ks.drop (i+1):=by rw [List.drop_set_of_lt (by omega)];exact hdr
   have hih:=λe:(Ar c.datas p k).1=1=>ih (i+1,K.set i (EF c.datas p k)) (by simp only;omega) ⟨by simp only;omega,by simp [z2],hn3,by rw [z4,if_pos e],hn2 e⟩;have hz4:(Ar c.datas p k).1≠1->AL c.datas 0 ps ks=((Ar c.datas p k).1,(i:Int)::(Ar c.datas p k).2.1,(Ar c.datas p k).2.2):=λe=>by rw [z4,if_neg e]
   clear ih z4 z5 hn2 hn3 hset;generalize EF c.datas p k=k' at *;generalize Ar c.datas p k=r at *;obtain ⟨r1',r2',r3'⟩:=r;simp only at hih hz4 hn1;refine Ca 5 (λ_:{ z:Nat×Nat // y.ko=some z.1/\y.kbs[i]?=some z.2 }=>Cf ty nt (.mk d1 d2 d3 d4) K y b) rfl (λvs I w bs hA=>?_) λz=>?_
   ·obtain ⟨g,g1,_⟩:=PQ hA (λe=>by have e:K=[]:=e;rw [e] at hKi;simp at hKi);have hl:y.kbs.length=K.length:=I4 hA;exact ⟨⟨(g,y.kbs[i]'(by omega)),g1,List.getElem?_eq_getElem (by omega)⟩,hA⟩
   obtain ⟨⟨g,kb⟩,hko,hkb2⟩:=z;simp only at hko hkb2;obtain ⟨no,nc,ko,kc,kbs⟩:=y;simp only at hko hkb2;subst hko;refine GQ 5 6 7 (λ_:Unit=>XM ty nt (.mk d1 d2 d3 d4) K ⟨no,nc,some g,kc,kbs⟩ b i kb) (λ_:Unit=>AR k kb) rfl (λvs I w bs h=>let ⟨b1,b2,h1,h2,h3,h4,h5⟩:=Wl h hKk hkb2;⟨(),b1,b2,h1,h2,h3,h4,h5⟩) λ_=>?_;refine Aq rfl ?_;refine mi rfl (c:=dTyc p) (λ_=>⟨by simp,by simpa using A5 hp,by simp⟩) (by simp) ?_;obtain ⟨p1,p2,p3,p4⟩:=p;refine Ao rfl ?_;refine Bz Al 6 [.raw (H9 (some g) K.length kc)] rfl rfl (λ_ vs I w bs h=>nO h) rfl rfl (by simp [An]) ?_;refine Dm rfl ?_;refine MQ Al rfl rfl (λ_=>⟨by simp,by simp;omega⟩) (by simp) ?_;refine Ao rfl ?_
   refine Bz Al 6 [.raw (ptr kb)] rfl rfl (λ_ vs I w bs h=>jX rfl hkb2 h) rfl rfl (by simp) ?_;refine Ao rfl ?_;refine B6 [] [] [] (fr:=[]) (nm:=[]) rfl trivial (by simp) (mB path) trivial rfl trivial rfl rfl rfl ?_;refine Ao rfl ?_;refine TY Al rfl ⟨by simp,by simp [maxLen];omega,by simp;omega,VS path,by simp⟩ (VS path) ?_;refine Ao rfl ?_;have hap:Ba path++[[V.int .i64 (i:Int)]]=Ba (path++[(i:Int)]):=by simp [Ba]
   rw [hap];have hSk:=hS kb;by_cases hr1:r1'=1
   ·have hQ1:My (path++[(i:Int)]) (r1',r2',r3') = .imm (.tup [.bool true,.nilp]):=by rw [hr1];rfl
    rw [hQ1] at hSk;refine B6 [(7,1)] [(2,9)] [] (fr:=[9]) (nm:=[9,7]) rfl trivial (by simp) hSk ⟨⟨rfl,rfl,rfl⟩,trivial⟩ rfl trivial rfl rfl rfl ?_;refine mg [] rfl (by simp [An];rfl) ?_;refine Fu 6 9 10 (λ_:Unit=>Cf ty nt (.mk d1 d2 d3 d4) (K.set i k') ⟨no,nc,some g,kc,kbs⟩ b) rfl rfl (by decide) (λvs us I w b1 b2 h1 h2 h3=>let ⟨bs,e1,e2⟩:=Ru h1 h2 h3;⟨(),bs,e1,e2⟩) λ_=>?_;refine Az rfl λh=>?_;refine Aq rfl ?_;refine AG 5 10 rfl ?_;exact Ae (hih hr1) ⟨A3 (BI (by omega) (by omega)),rfl,rfl,rfl,rfl,rfl,trivial⟩ ⟨rfl,trivial⟩ rfl
   ·rw [hz4 hr1,hn1 hr1,<- lN];have hQc:(∃cs,My (path++[(i:Int)]) (r1',r2',r3') = .tup [.imm (.bool false),.ip 156 cs 0])\/My (path++[(i:Int)]) (r1',r2',r3') = .imm (.tup [.bool false,.nilp]):=by
     by_cases e:r1'=2
     ·rw [e];exact .inl ⟨_,rfl⟩
     ·simp only [My,if_neg e,decide_eq_false hr1];exact .inr trivial
    generalize My (path++[(i:Int)]) (r1',r2',r3')=Qd at *;rcases hQc with ⟨cs,rfl⟩ | rfl
    all_goals
     refine B6 [(7,1)] [(2,9)] [] (fr:=[9]) (nm:=[9,7]) rfl trivial (by simp) hSk ⟨⟨rfl,rfl,rfl⟩,trivial⟩ rfl trivial rfl rfl rfl ?_;refine mg [] rfl (by simp [An];rfl) ?_;refine Fu 6 9 10 (λ_:Unit=>AR (.mk ty nt (.mk d1 d2 d3 d4) (K.set i k')) b) rfl rfl (by decide) (λvs us I w b1 b2 h1 h2 h3=>let ⟨bs,e1,e2⟩:=Ru h1 h2 h3;⟨(),bs,e1,Eh e2⟩) λ_=>?_;refine Ai rfl λh=>?_;refine Aq rfl ?_;refine AG 10 2 rfl ?_;exact Au ⟨_,rfl,rfl,rfl,trivial⟩
  ·have hlt:¬i<ps.length:=by simp at h;omega
   refine Ay rfl ?_;rw [List.drop_eq_nil_of_le (by omega)] at z4 z5;simp only [AL,Du] at z4 z5;rw [<- z3,List.take_append_drop] at z5;rw [z4,z5];refine Ca 5 (λ_:Unit=>AR (.mk ty nt (.mk d1 d2 d3 d4) K) b) rfl (λvs I w bs h=>⟨(),Eh h⟩) λ_=>?_;refine Aq rfl ?_;refine AG 5 2 rfl ?_;exact Au ⟨_,rfl,rfl,rfl,trivial⟩
termination_by p=>SizeOf.sizeOf p
decreasing_by
 have:=List.sizeOf_lt_of_mem (List.mem_of_getElem? hp);simp_wf;omega
end Go.Hk
namespace Go.Hk
open Go.Proofs
def X8:Option (Ty×Int)->Ty
 | none=>zT
 | some p=>p.1
def RY:Option (Ty×Int)->Int
 | none=>0
 | some p=>p.2
theorem oF {ds:List Dt} (ho:OkW ds) (m:Mi) (h:Ty):0<=Be ds m h/\Be ds m h<=769:=by
 unfold Be
 split
 ·exact NB ho (EY ho m.ty (CH h))
 ·omega
theorem VI (c:Cse) (ho:OkW c.datas) (ty:Ty) (nt:List Ty) (hd:Ty) (ks:List Mi) (y:Opn) (b:Nat) (hn:AK c.datas ty=true) :
  Bg Tryz.prog 162 [.imm (AE c (Ba (Dd c.datas))),.raw (ptr b)] [(1,some (.hp (Cf ty nt hd ks y b)))]
   (.ret (.imm (.tup [.agg (Bl (X8 (DE c.datas (.mk ty nt hd ks) none (AB c.datas ty)))),.bool (AM c.datas (.mk ty nt hd ks)).isSome])) [(1,some (.hp (Cf ty nt hd ks y b)))]):=by
 have hH:=WN c (Ba (Dd c.datas)) ty ho hn;have hAr:=λs=>Qf c (Ba (Dd c.datas)) ty s ho.dif hn;have hSz:=λs=>Zz c (Dd c.datas) (N4 ho) ho.d4 (AW c.datas ty s).1 (Co ho.okd) (EY ho ty s);have hCt:=λh=>En nt h;have hl:=Rx ho ty;have hcst:=λh=>oF ho (.mk ty nt hd ks) h;have hstep:∀(bb:Option (Ty×Int)) (i:Nat) (h:Ty),(AB c.datas ty)[i]?=some h->DE c.datas (.mk ty nt hd ks) bb ((AB c.datas ty).drop i) =
   DE c.datas (.mk ty nt hd ks) (if 0<Be c.datas (.mk ty nt hd ks) h/\BL nt h=false/\Gj bb (Be c.datas (.mk ty nt hd ks) h)=true then some (h,Be c.datas (.mk ty nt hd ks) h) else bb) ((AB c.datas ty).drop (i+1)):=λbb i h hh=>by rw [Av hh];rfl
 have hc4:∀h,AI h=4->Be c.datas (.mk ty nt hd ks) h=Bc c.datas (Dd c.datas) 1 (AW c.datas ty (CH h)).1:=λh e=>if_pos e;have hc0:∀h,AI h≠4->Be c.datas (.mk ty nt hd ks) h=1:=λh e=>if_neg e;have hres:(AM c.datas (.mk ty nt hd ks)).isSome=decide (0<RY (DE c.datas (.mk ty nt hd ks) none (AB c.datas ty))):=by
  simp only [AM,Option.isSome_map,Mi.ty];cases hq:DE c.datas (.mk ty nt hd ks) none (AB c.datas ty) with
  | none=>rfl
  | some p =>
   obtain ⟨q1,_,_⟩:=EQ hq;rcases q1 with q1 | ⟨_,_,q3,_⟩
   ·cases q1
   ·simp [RY,q3]
 rw [hres];clear hres;have hnil:∀bb,DE c.datas (.mk ty nt hd ks) bb []=bb:=λ_=>rfl;generalize AB c.datas ty=L at *;generalize Be c.datas (.mk ty nt hd ks)=cost at *;generalize hR:DE c.datas (.mk ty nt hd ks) none L=R at *;generalize DE c.datas (.mk ty nt hd ks)=pk at *;obtain ⟨t1,t2,t3,t4⟩:=ty;refine Af Al Tryz.func162 (by decide +kernel) rfl [2,3,4,5,6] rfl rfl ?_;refine Ao rfl ?_;refine Bz Al 1 ((dTyc (.mk t1 t2 t3 t4)).map .imm) rfl rfl (λ_ vs I w bs h=>Jr h) rfl rfl (by simp [An]) ?_;refine Ao rfl ?_;refine Ah rfl hH ?_;refine Ao rfl ?_
 refine Am (λz:Nat×Option (Ty×Int)=>[(20,.imm (.int .i64 z.1)),(19,.imm (.int .i64 L.length)),(18,.imm (.sl (By L))),(7,.imm (.int .i64 (RY z.2))),(6,.ref 3 0),(4,.ref 2 0),(1,.raw (ptr b)),(0,.imm (AE c (Ba (Dd c.datas))))])
  (λz=>[(1,some (.hp (Cf (.mk t1 t2 t3 t4) nt hd ks y b))),(2,some (.immb 122 3 [.int .i64 0,.int .i64 0,.str []])),(3,some (.immb 122 3 (Bl (X8 z.2))))]) [4,5,6] (λz=>L.length-z.1)
  (λz=>z.1<=L.length/\R=pk z.2 (L.drop z.1)/\∀p,z.2=some p->0<p.2/\p.2<=769) (0,none) ⟨Nat.zero_le _,hR.symm,λp h=>by cases h⟩ ⟨rfl,A3 (by simp),rfl,rfl,rfl,rfl,rfl,rfl,trivial⟩ ⟨rfl,rfl,rfl,trivial⟩ rfl λz hz ih=>?_
 obtain ⟨i,bb⟩:=z;obtain ⟨z1,z2,z3⟩:=hz;simp only at z1 z2 z3;refine Aq rfl ?_;refine Ab rfl (λh=>?_) (λh=>?_)
 ·have hlt:i<L.length:=by simp at h;omega
  obtain ⟨h,hh⟩:=Ap hlt;rw [hstep bb i h hh] at z2;have hCth:=hCt h;have hco:=hcst h;have hc4:=hc4 h;have hc0:=hc0 h;have hArh:=hAr (CH h);have hSzh:=hSz (CH h);have hbet:Gj bb (cost h)=true↔RY bb=0\/cost h<RY bb:=by
   cases bb with
   | none=>simp [Gj,RY]
   | some p=>have:=z3 p rfl;simp only [Gj,RY,decide_eq_true_eq];omega
  generalize cost h=n at *;obtain ⟨h1,h2,h3,h4⟩:=h;simp only [AI] at hc4 hc0;refine Aq rfl ?_;refine mi rfl (c:=Bl (.mk h1 h2 h3 h4)) (λ_=>⟨by simp,by simpa using Kq hh,by simp⟩) (by simp) ?_;refine Ao rfl ?_;by_cases e4:h1=4
  ·have hn:=hc4 e4;rw [<- hn] at hSzh;subst e4;refine Ai rfl λh=>?_;refine Aq rfl ?_;refine Bz Al 1 ((dTyc (.mk t1 t2 t3 t4)).map .imm) rfl rfl (λ_ vs I w bs h=>Jr h) rfl rfl (by simp [An]) ?_;refine Dm rfl ?_;refine Ah rfl hArh ?_;refine mg [] rfl (by simp [An];rfl) ?_;refine Ah rfl hSzh ?_;refine Dm rfl ?_;refine Bz Al 1 [.raw (H9 y.no nt.length y.nc)] rfl rfl (λ_ vs I w bs h=>GM h) rfl rfl (by simp [An]) ?_;refine Dm rfl ?_;refine PW 1 (vs:=[.sl (By nt),.agg (Bl (.mk 4 h2 h3 h4))]) rfl rfl (λ_=>⟨.inr ⟨_,rfl,λus I w bs h J hle hJ=>Ix h hle hJ⟩,.inl rfl,trivial⟩) (λ_=>hCth) rfl (by simp [An]) rfl ?_;refine mg [] rfl (by simp [An];exact ⟨rfl,λa b c=>⟨⟨a,b⟩,c⟩⟩) ?_
   by_cases hcc:0<n/\BL nt (.mk 4 h2 h3 h4)=false/\Gj bb n=true
   ·rw [if_pos hcc] at z2;rw [hbet] at hcc;refine Ab rfl (λh=>?_) (λh=>by exfalso;simp at h;grind);refine Aq rfl ?_;exact Ae (ih (i+1,some (.mk 4 h2 h3 h4,n)) (by simp only;omega) ⟨by simp only;omega,z2,λp hp=>by cases hp;exact ⟨hcc.1,hco.2⟩⟩) ⟨A3 (BI (by omega) (by omega)),rfl,rfl,rfl,rfl,rfl,rfl,rfl,trivial⟩ ⟨rfl,rfl,rfl,trivial⟩ rfl
   ·rw [if_neg hcc] at z2;rw [hbet] at hcc;refine Ab rfl (λh=>by exfalso;simp at h;grind) (λh=>?_);refine Aq rfl ?_;exact Ae (ih (i+1,bb) (by simp only;omega) ⟨by simp only;omega,z2,z3⟩) ⟨A3 (BI (by omega) (by omega)),rfl,rfl,rfl,rfl,rfl,rfl,rfl,trivial⟩ ⟨rfl,rfl,rfl,trivial⟩ rfl
  ·have hn:=hc0 e4;subst hn;refine Ab rfl (λh=>absurd (by simpa using h) e4) (λh=>?_);clear h;refine mdqc rfl ?_;refine Bz Al 1 [.raw (H9 y.no nt.length y.nc)] rfl rfl (λ_ vs I w bs h=>GM h) rfl rfl (by simp [An]) ?_;refine Dm rfl ?_;refine PW 1 (vs:=[.sl (By nt),.agg (Bl (.mk h1 h2 h3 h4))]) rfl rfl (λ_=>⟨.inr ⟨_,rfl,λus I w bs h J hle hJ=>Ix h hle hJ⟩,.inl rfl,trivial⟩) (λ_=>hCth) rfl (by simp [An]) rfl ?_;refine mg [] rfl (by simp [An];exact ⟨rfl,λa b=>⟨a,b⟩⟩) ?_;by_cases hcc:(0:Int)<1/\BL nt (.mk h1 h2 h3 h4)=false/\Gj bb 1=true
   ·rw [if_pos hcc] at z2;rw [hbet] at hcc;refine Ab rfl (λh=>?_) (λh=>by exfalso;simp at h;grind);refine Aq rfl ?_;exact Ae (ih (i+1,some (.mk h1 h2 h3 h4,1)) (by simp only;omega) ⟨by simp only;omega,z2,λp hp=>by cases hp;exact ⟨hcc.1,hco.2⟩⟩) ⟨A3 (BI (by omega) (by omega)),rfl,rfl,rfl,rfl,rfl,rfl,rfl,trivial⟩ ⟨rfl,rfl,rfl,trivial⟩ rfl
   ·rw [if_neg hcc] at z2;rw [hbet] at hcc;refine Ab rfl (λh=>by exfalso;simp at h;grind) (λh=>?_);refine Aq rfl ?_;exact Ae (ih (i+1,bb) (by simp only;omega) ⟨by simp only;omega,z2,z3⟩) ⟨A3 (BI (by omega) (by omega)),rfl,rfl,rfl,rfl,rfl,rfl,rfl,trivial⟩ ⟨rfl,rfl,rfl,trivial⟩ rfl
 ·have hlt:¬i<L.length:=by simp at h;omega
  refine Ay rfl ?_;rw [List.drop_eq_nil_of_le (by omega),hnil] at z2;subst z2;refine Aq rfl ?_;exact Au ⟨_,rfl,rfl,rfl,trivial⟩
def GB:Option Ty->List V
 | none=>dTyc zT++[.bool false]
 | some v=>dTyc v++[.bool true]
theorem Hj (r:Option Ty):∃v1 v2 v3 v4 v5,GB r=[v1,v2,v3,v4,v5]:=by
 cases r with
 | none=>exact ⟨_,_,_,_,_,rfl⟩
 | some v=>obtain ⟨a,b,c,d⟩:=v;exact ⟨_,_,_,_,_,rfl⟩
section
variable {I J:Imm} {w w':World} {ty:Ty} {nt:List Ty} {hd:Ty} {ks:List Mi} {b:Nat} {us:List Value} {bs:List Nat}
def Nv (ty:Ty) (nt:List Ty) (hd:Ty) (ks:List Mi) (y:Opn) (b i:Nat):Asn where
 P _ I w bs:=Im I w ty nt hd (H9 y.no nt.length y.nc) (H9 y.ko ks.length y.kc) y.kbs b/\y.kbs.length=ks.length/\(∀q∈AT (H9 y.no nt.length y.nc) (H9 y.ko ks.length y.kc) b,q∈bs) /\
  ∃Fk,D9 I w (ks.drop i) (y.kbs.drop i) Fk/\(AT (H9 y.no nt.length y.nc) (H9 y.ko ks.length y.kc) b++Fk).Nodup/\∀q∈Fk,q∈bs
 mono:=λh ⟨h1,h2,h3,Fk,h4,h5⟩=>⟨ES h h1,h2,h3,Fk,Ec h h4,h5⟩
 loc:=λh ⟨h1,h2,h3,Fk,h4,h5,h6⟩=>⟨FM (λq hq=>h q (h3 q hq)) h1,h2,h3,Fk,CC (λq hq=>h q (h6 q hq)) h4,h5,h6⟩
theorem cH {y:Opn} (h:(Cf ty nt hd ks y b).P us I w bs):(Nv ty nt hd ks y b 0).P us I w bs:=by
 have hl:=I4 h;obtain ⟨Fk,h1,h2,h3,h4⟩:=h;exact ⟨h1,hl,λq hq=>h4 q (by simp [hq]),Fk,h2,h3,λq hq=>h4 q (by simp [hq])⟩
theorem Yh {y:Opn} {i kb:Nat} {k:Mi} (h:(Nv ty nt hd ks y b i).P us I w bs) (hk:ks[i]?=some k) (hkb:y.kbs[i]?=some kb) :
  ∃b1 b2,(∀q∈b1,q∈bs)/\(∀q∈b2,q∈bs)/\(∀q∈b1,q∉b2)/\(Nv ty nt hd ks y b (i+1)).P [] I w b1/\(AR k kb).P [] I w b2:=by
 obtain ⟨h1,h2,h3,Fk,h4,h5,h6⟩:=h;rw [Av hk,Av hkb] at h4;obtain ⟨kb',kr,F1,F2,e1,e2,e3,e4⟩:=h4;cases e1;subst e4;generalize hN:AT (H9 y.no nt.length y.nc) (H9 y.ko ks.length y.kc) b=Nf at *;refine ⟨Nf++F2,F1,λq hq=>?_,λq hq=>h6 q (by simp [hq]),λq hq hq2=>?_,⟨h1,h2,λq hq=>by rw [hN] at hq;simp [hq],F2,e3,?_,λq hq=>by simp [hq]⟩,⟨F1,e2,λq hq=>hq⟩⟩
 ·rcases List.mem_append.1 hq with h | h
  ·exact h3 q h
  ·exact h6 q (by simp [h])
 ·obtain ⟨a1,a2,a3⟩:=List.nodup_append.1 h5;rcases List.mem_append.1 hq with h | h
  ·exact a3 q h q (by simp [hq2]) rfl
  ·obtain ⟨_,_,a4⟩:=List.nodup_append.1 a2;exact a4 q hq2 q h rfl
 ·rw [hN];obtain ⟨a1,a2,a3⟩:=List.nodup_append.1 h5;obtain ⟨_,a5,_⟩:=List.nodup_append.1 a2;exact List.nodup_append.2 ⟨a1,a5,λx hx y hy=>a3 x hx y (by simp [hy])⟩
theorem iE {y:Opn} {g i kb:Nat} {j:Nat} (hko:y.ko=some g) (hkb:y.kbs[i]?=some kb) (h:(Nv ty nt hd ks y b j).P us I w bs):Dc I w g (0+i*1) [.raw (ptr kb)]:=by
 obtain ⟨h1,h2,h3,_⟩:=h;have hi:=(List.getElem?_eq_some_iff.1 hkb).1;rcases h1.2.2.2 with ⟨_,h0⟩ | ⟨g',cap,cur,e,_,e1,e2,_,e3,e4⟩
 ·omega
 rw [hko] at e;simp only [H9,Option.map_some,Value.slice.injEq,Option.some.injEq,Addr.mk.injEq,and_true] at e;obtain ⟨rfl,e5,rfl⟩:=e;refine ⟨cur,_,_,e1,λj d hd=>?_⟩
 match j with
 | 0 =>
  simp at hd;subst hd;refine ⟨ptr kb,?_,rfl,.raw _ rfl⟩;have:(cur.toList.take (y.kbs.length*1))[i]?=some (ptr kb):=by rw [e4];simp [hkb]
  rw [List.getElem?_take] at this
  split at this
  ·simpa using this
  ·cases this
 | j+1=>simp at hd
theorem mV {y:Opn} {i j:Nat} (h:(Nv ty nt hd ks y b j).P us I w bs) (hi:i<ks.length):∃z:Nat×Nat,y.ko=some z.1/\y.kbs[i]?=some z.2:=by
 obtain ⟨h1,h2,h3,_⟩:=h;rcases h1.2.2.2 with ⟨_,h0⟩ | ⟨g',cap,cur,e,_⟩
 ·omega
 cases ho:y.ko with
 | none=>rw [ho] at e;simp [H9] at e
 | some g=>exact ⟨(g,y.kbs[i]'(by omega)),rfl,List.getElem?_eq_getElem (by omega)⟩
end
theorem Y6 (W:V) (m:Mi) (x:Nat) (g:Mi->Option (Option Ty)) (o:Option (List Ty)) (h1:Bu g m.ks=some o) (hf:AI m.hd≠0) (hlk:m.ks.length<=3)
  (ihk:∀k v x,k∈m.ks->g k=some v->Bg Tryz.prog 119 [.imm W,.raw (ptr x)] [(1,some (.hp (AR k x)))] (.ret (.imm (.agg (GB v))) [])) :
  DGo Tryz.prog Tryz.f119.ntmps [1] (K5 XP Tryz.f119.results.toList (.ret (.imm (.agg (GB (o.map (CD m.hd))))) [])) [.code (EN Tryz.f119 2)] [(4,.ref 3 0),(1,.raw (ptr x)),(0,.imm W)]
   [(3,some (.cells 126 5 [.imm (.int .i64 0),.imm (.int .i64 0),.imm (.str []),.nils,.imm (.bool false)])),(5,some (.hp (AR m x)))] [6,7,8,9,10,11,12]:=by
 have hV:=Qn m.hd hf;obtain ⟨ty,nt,⟨a,b,t,d⟩,ks⟩:=m;simp only [Mi.hd,Mi.ks,AI] at *;have hd:S9 (.mk a b t d)=[.int .i64 a,.int .i64 b,.str t,.nilsl]:=by simp [S9,hf]
 refine Ca 5 (λy:Opn=>Cf ty nt (.mk a b t d) ks y x) rfl (λvs I w bs h=>Dx h) λy=>?_;refine Aq rfl ?_;refine Bz Al 5 ((Bl (.mk a b t d)).map .imm) rfl rfl (λ_ vs I w bs h=>PR h) rfl rfl (by simp [An]) ?_;refine Ao rfl ?_;rw [hd] at hV;refine Ah rfl hV ?_;refine Ao rfl ?_;refine Bz Al 5 [.raw (H9 y.ko ks.length y.kc)] rfl rfl (λ_ vs I w bs h=>KH h) rfl rfl (by simp [An]) ?_;refine Ao rfl ?_;refine Xi (e:=46) (sz:=4) 6 7 [.imm (.int .i64 a),.imm (.int .i64 b),.imm (.str t),.own 7 0] (by decide) rfl (by simp [sR]) ?_;refine Ca 5 (λ_:Unit=>Nv ty nt (.mk a b t d) ks y x 0) rfl (λvs I w bs h=>⟨(),cH h⟩) λ_=>?_;have el:∀(l:List Ty) (v:Ty),BQ (l++[v])=BQ l++[dTyc v]:=λl v=>by rw [Pr];rfl
 refine Am (λz:Nat×List Ty=>[(63,.imm (.int .i64 z.1)),(62,.imm (.int .i64 ks.length)),(61,.raw (H9 y.ko ks.length y.kc)),(7,.ref 6 0),(4,.ref 3 0),(0,.imm W)])
  (λz=>[(3,some (.cells 126 5 [.imm (.int .i64 0),.imm (.int .i64 0),.imm (.str []),.nils,.imm (.bool false)])),(5,some (.hp (Nv ty nt (.mk a b t d) ks y x z.1))),
   (6,some (.cells 46 4 [.imm (.int .i64 a),.imm (.int .i64 b),.imm (.str t),.own 7 (BQ z.2).length])),(7,some (.row 46 4 (BQ z.2)))]) [8,9,10,11,12] (λz=>ks.length-z.1)
  (λz=>z.1<=ks.length/\z.2.length=z.1/\∃q,Bu g (ks.drop z.1)=some q/\o=q.map (z.2 ++ ·)) (0,[]) ⟨Nat.zero_le _,rfl,o,h1,by cases o <;> simp⟩ ⟨rfl,rfl,rfl,rfl,rfl,rfl,trivial⟩ ⟨rfl,rfl,rfl,rfl,trivial⟩ rfl λz hz ih=>?_
 obtain ⟨i,vs⟩:=z;obtain ⟨z1,z2,q,z3,z4⟩:=hz;simp only at z1 z2 z3 z4;refine Aq rfl ?_;refine Ab rfl (λh=>?_) (λh=>?_)
 ·have hlt:i<ks.length:=by simp at h;omega
  obtain ⟨k,hk⟩:=Ap hlt;rw [Av hk] at z3;obtain ⟨v,g1,g2⟩:=OW z3;refine Ca 5 (λ_:{ z:Nat×Nat // y.ko=some z.1/\y.kbs[i]?=some z.2 }=>Nv ty nt (.mk a b t d) ks y x i) rfl (λvs I w bs hA=>let ⟨z,hz⟩:=mV hA hlt;⟨⟨z,hz⟩,hA⟩) λz=>?_;obtain ⟨⟨gg,kb⟩,hko,hkb⟩:=z;simp only at hko hkb;obtain ⟨no,nc,ko,kc,kbs⟩:=y;simp only at hko hkb;subst hko;have hc:=ihk k v kb (List.mem_of_getElem? hk) g1;refine GQ 5 8 9 (λ_:Unit=>Nv ty nt (.mk a b t d) ks ⟨no,nc,some gg,kc,kbs⟩ x (i+1)) (λ_:Unit=>AR k kb) rfl (λvs I w bs h=>let ⟨b1,b2,e1,e2,e3,e4,e5⟩:=Yh h hk hkb;⟨(),b1,b2,e1,e2,e3,e4,e5⟩) λ_=>?_;refine Aq rfl ?_;refine MQ Al rfl rfl (λ_=>⟨by simp,by simp;omega⟩) (by simp) ?_;refine Ao rfl ?_
  refine Bz Al 8 [.raw (ptr kb)] rfl rfl (λ_ vs I w bs h=>iE rfl hkb h) rfl rfl (by simp) ?_;refine Ao rfl ?_;refine A9 (fr:=[]) [(9,1)] [] rfl (by simp) hc ⟨⟨rfl,rfl,rfl⟩,trivial⟩ rfl rfl rfl rfl ?_;cases v with
  | none =>
   simp only at g2;subst g2;simp only [Option.map_none] at z4;subst z4;refine mg [] rfl (by simp;rfl) ?_;refine Ai rfl λh=>?_;refine Aq rfl ?_;exact Aa rfl rfl rfl
  | some v =>
   simp only at g2;obtain ⟨q',g3,g4⟩:=g2;have hgo:=ih (i+1,vs++[v]) (by simp only;omega) ⟨by simp only;omega,by simp [z2],q',g3,by rw [z4,g4];cases q' <;> simp⟩;simp only [el] at hgo;have hll:(BQ vs).length<=3:=by simp;omega
   generalize BQ vs=l at *;obtain ⟨v1,v2,v3,v4⟩:=v;refine mg [] rfl (by simp;rfl) ?_;refine Az rfl λh=>?_;refine Aq rfl ?_;refine Cm Al rfl ⟨by simp,by simp [maxLen] at hll ⊢;omega,by simp at hll ⊢;omega,trivial⟩ ?_;refine Ao rfl ?_;refine AG 7 11 rfl ?_;refine AG 5 8 rfl ?_;exact Ae hgo ⟨A3 (BI (by omega) (by omega)),rfl,rfl,rfl,rfl,rfl,trivial⟩ ⟨rfl,rfl,by simp only [List.length_append];rfl,rfl,trivial⟩ rfl
 ·have hlt:¬i<ks.length:=by simp at h;omega
  refine Ay rfl ?_;rw [List.drop_eq_nil_of_le (by omega)] at z3;cases z3;simp only [Option.map_some,List.append_nil] at z4;subst z4;refine Cu 7 rfl ?_;refine Aq rfl ?_;exact Aa rfl rfl rfl
end Go.Hk
namespace Go.Hk
open Go.Proofs
theorem jN (c:Cse) (ho:OkW c.datas) (N:Nat) (hN:N<=1000000):∀(f:Nat) (m:Mi) (b:Nat) (r:Option Ty),AO c.datas f m=some r->G0 c.datas N m=true ->
  Bg Tryz.prog 119 [.imm (AE c (Ba (Dd c.datas))),.raw (ptr b)] [(1,some (.hp (AR m b)))] (.ret (.imm (.agg (GB r))) []):=by
 intro f
 induction f with
 | zero=>intro m b r h;simp [AO] at h
 | succ f ih =>
 intro m b r h hm;have hw:=Bb.1 hm;have tail:∀(m:Mi) (x:Nat) (r:Option Ty),AO c.datas (f+1) m=some r->G0 c.datas N m=true->AI m.hd≠0->DGo Tryz.prog Tryz.f119.ntmps [1] (K5 XP Tryz.f119.results.toList (.ret (.imm (.agg (GB r))) [])) [.code (EN Tryz.f119 2)] [(4,.ref 3 0),(1,.raw (ptr x)),(0,.imm (AE c (Ba (Dd c.datas))))]
   [(3,some (.cells 126 5 [.imm (.int .i64 0),.imm (.int .i64 0),.imm (.str []),.nils,.imm (.bool false)])),(5,some (.hp (AR m x)))] [6,7,8,9,10,11,12]:=λm x r h hm hf=>by
  obtain ⟨o,h1,h2⟩:=UV h hf;have hw:=Bb.1 hm;have:=Y6 (AE c (Ba (Dd c.datas))) m x (AO c.datas f) o h1 hf hw.1.2.1 λk v y hk hv=>ih k y v hv (hw.2.2 k hk);rw [<- h2] at this;exact this
 by_cases hf:AI m.hd=0
 case neg =>
  have T:=tail m b r h hm hf;obtain ⟨ty,nt,⟨a,b',t,d⟩,ks⟩:=m;simp only [Mi.hd,AI] at hf;refine Af Al Tryz.func119 (by decide +kernel) rfl [5,3,6,7,8,9,10,11,12] rfl rfl ?_;refine KT 1 5 (λy:Opn=>Cf ty nt (.mk a b' t d) ks y b) rfl (λvs I w bs h=>let ⟨y,hy⟩:=Dx h;⟨y,bs,λq hq=>hq,hy⟩) λy=>?_;refine Aq rfl ?_;refine Bz Al 5 [.imm (.int .i64 a)] rfl rfl (λ_ vs I w bs h=>NT h) rfl rfl (by simp) ?_;refine Ao rfl ?_;refine Ab rfl (λh=>absurd (by simpa using h) hf) (λh=>?_);refine nH 1 rfl (by simp) ?_;refine Ca 5 (λ_:Unit=>AR (.mk ty nt (.mk a b' t d) ks) b) rfl (λvs I w bs h=>⟨(),Eh h⟩) λ_=>?_;exact Ae T ⟨rfl,rfl,rfl,trivial⟩ ⟨rfl,rfl,trivial⟩ rfl
 have hsr:1<=AI m.ty/\AI m.ty<=8:=of_decide_eq_true hw.2.1.2;have hnr:=Yz m.nt (by have:=hw.1.2.2;omega);obtain ⟨ni,hni,_,_⟩:=I7 m.nt m.nt.length 0 (by omega);have hnv:=Qn (Dy m.nt) (by rw [Dy,hni];simp [AI]);have hne:Dy m.nt = .mk 1 ni [] []:=hni;rw [hne] at hnr hnv;have l1:AI m.ty=1->r=some (.mk 1 ni [] []):=λe=>by rw [Fq hf e,hne] at h;exact (Option.some.inj h).symm
 have l4:AI m.ty=4\/AI m.ty=5\/AI m.ty=6\/AI m.ty=7->r=some (.mk 5 0 [] []):=λe=>by rw [Fp hf e] at h;exact (Option.some.inj h).symm
 have hsm:=λty nt hd ks (e:m = .mk ty nt hd ks) y x=>VI c ho ty nt hd ks y x (by have:=hw.1.1;rw [e] at this;exact this);have hcp:=λx=>Ni c.datas N hN m x hm;have lsm:=λh1 h4=>Dz (ds:=c.datas) (f:=f) hf h1 h4;rw [h] at lsm;have hhas:=λ(x:Nat) (y:Ty)=>YV c (Ba (Dd c.datas)) m y x ho hw.1.1;have tk:=λ(y:Ty) (x:Nat) (hy:y∈AB c.datas m.ty) (hl:AO c.datas (f+1) (Bm c.datas m y)=some r)=>tail (Bm c.datas m y) x r hl (Ml ho hw.1.1 hw.2.1.2 (B4 hy).1) (B4 hy).2;clear tail ih h;have hrf:=Hj r;obtain ⟨⟨so,n,x0,ps⟩,nt,⟨a,b',t,d⟩,ks⟩:=m;simp only [Mi.hd,Mi.ty,Mi.nt,AI] at *;subst hf;refine Af Al Tryz.func119 (by decide +kernel) rfl [5,3,6,7,8,9,10,11,12] rfl rfl ?_
 refine KT 1 5 (λy:Opn=>Cf (.mk so n x0 ps) nt (.mk 0 b' t d) ks y b) rfl (λvs I w bs h=>let ⟨y,hy⟩:=Dx h;⟨y,bs,λq hq=>hq,hy⟩) λy=>?_;refine Aq rfl ?_;refine Bz Al 5 [.imm (.int .i64 0)] rfl rfl (λ_ vs I w bs h=>NT h) rfl rfl (by simp) ?_;refine Ao rfl ?_;refine Ai rfl λh=>?_;refine Aq rfl ?_;refine Bz Al 5 [.imm (.int .i64 so)] rfl rfl (λ_ vs I w bs h=>cZ h) rfl rfl (by simp) ?_;refine Ao rfl ?_;by_cases s1:so=1
 ·rw [l1 s1];subst s1;refine Ai rfl λh=>?_;refine Aq rfl ?_;refine Bz Al 5 [.raw (H9 y.no nt.length y.nc)] rfl rfl (λ_ vs I w bs h=>GM h) rfl rfl (by simp) ?_;refine Ao rfl ?_;refine PW 5 (vs:=[.sl (By nt)]) rfl rfl (λ_=>⟨.inr ⟨_,rfl,λus I w bs h J hle hJ=>Ix h hle hJ⟩,trivial⟩) (λ_=>hnr) rfl (by simp) rfl ?_;refine Ao rfl ?_;refine Ah rfl hnv ?_;refine Ao rfl ?_;exact kW 3 [.int .i64 1,.int .i64 ni,.str [],.sl [],.bool true] rfl rfl (Au ⟨_,rfl,tV rfl,trivial⟩)
 refine Ab rfl (λh=>absurd (by simpa using h) s1) (λh=>?_);clear h;refine Aq rfl ?_;by_cases s4:so=4
 ·rw [l4 (by omega)];subst s4;refine Ai rfl λh=>?_;refine Aq rfl ?_;refine Ai rfl λh=>?_;refine Aq rfl ?_;exact Aa rfl rfl rfl
 refine Ab rfl (λh=>absurd (by simpa using h) s4) (λh=>?_);clear h;refine Aq rfl ?_;by_cases s5:so=5
 ·rw [l4 (by omega)];subst s5;refine Ai rfl λh=>?_;refine Aq rfl ?_;refine Ai rfl λh=>?_;refine Aq rfl ?_;exact Aa rfl rfl rfl
 refine Ab rfl (λh=>absurd (by simpa using h) s5) (λh=>?_);clear h;refine Aq rfl ?_;by_cases s6:so=6
 ·rw [l4 (by omega)];subst s6;refine Ai rfl λh=>?_;refine Aq rfl ?_;refine Ai rfl λh=>?_;refine Aq rfl ?_;exact Aa rfl rfl rfl
 refine Ab rfl (λh=>absurd (by simpa using h) s6) (λh=>?_);clear h;refine Aq rfl ?_;by_cases s7:so=7
 ·rw [l4 (by omega)];subst s7;refine Ai rfl λh=>?_;refine Aq rfl ?_;exact Aa rfl rfl rfl
 refine Ab rfl (λh=>absurd (by simpa using h) s7) (λh=>?_);clear h;refine Aq rfl ?_;have lsm:=lsm s1 (by omega);have hS:=hsm _ _ _ _ rfl y b;have hbest:∀z,AM c.datas (.mk (.mk so n x0 ps) nt (.mk 0 b' t d) ks)=some z->X8 (DE c.datas (.mk (.mk so n x0 ps) nt (.mk 0 b' t d) ks) none (AB c.datas (.mk so n x0 ps)))=z/\z∈AB c.datas (.mk so n x0 ps):=λz hz=>⟨by
  simp only [AM,Option.map_eq_some_iff] at hz;obtain ⟨p,hp,rfl⟩:=hz;show X8 (DE c.datas (.mk (.mk so n x0 ps) nt (.mk 0 b' t d) ks) none (AB c.datas (Mi.mk (.mk so n x0 ps) nt (.mk 0 b' t d) ks).ty))=p.1;rw [hp];rfl,Ho hz⟩
 generalize X8 (DE c.datas (.mk (.mk so n x0 ps) nt (.mk 0 b' t d) ks) none (AB c.datas (.mk so n x0 ps)))=bh at *;generalize AM c.datas (.mk (.mk so n x0 ps) nt (.mk 0 b' t d) ks)=S at *;obtain ⟨h1,h2,h3,h4⟩:=bh;refine A9 (fr:=[]) [(5,1)] [] rfl (by simp) hS ⟨⟨rfl,rfl,rfl⟩,trivial⟩ rfl rfl rfl rfl ?_;refine Ao rfl ?_;cases S with
 | none =>
  simp only [Option.some.injEq] at lsm;subst lsm;refine Aq rfl ?_;refine Ai rfl λh=>?_;refine Aq rfl ?_;exact Aa rfl rfl rfl
 | some z =>
  obtain ⟨e,hz⟩:=hbest z rfl;subst e;simp only at lsm;refine Aq rfl ?_;refine Az rfl λh=>?_;clear h;refine Ca 5 (λ_:Unit=>AR (.mk (.mk so n x0 ps) nt (.mk 0 b' t d) ks) b) rfl (λvs I w bs h=>⟨(),Eh h⟩) λ_=>?_;refine Aq rfl ?_;refine A9 (fr:=[7,8]) [(5,1)] [(3,7),(2,8)] rfl (by simp) (hcp b) ⟨⟨rfl,rfl,rfl⟩,trivial⟩ rfl rfl rfl rfl ?_;refine E3 8 9 (λob:Nat=>[ptr ob]) (λob=>AR (.mk (.mk so n x0 ps) nt (.mk 0 b' t d) ks) ob) rfl (λvs I w bs h=>let ⟨ob,F,e1,e2,e3⟩:=h;⟨ob,e1,F,e2,e3⟩) λob=>?_;refine Aq rfl ?_;refine A9 (fr:=[10]) [(9,1)] [(2,10)] rfl (by simp) (hhas ob (.mk h1 h2 h3 h4)) ⟨⟨rfl,rfl,rfl⟩,trivial⟩ rfl rfl rfl rfl ?_;refine nH 1 rfl (by simp) ?_
  have T:=tk (.mk h1 h2 h3 h4) ob hz lsm.symm;refine AG 10 5 rfl ?_;exact Ae T ⟨rfl,rfl,rfl,trivial⟩ ⟨rfl,rfl,trivial⟩ rfl
end Go.Hk
namespace Go.Hk
def WH (P:Program) (t:TypeId) (m:String) (f:FuncId):Bool:=match P.info? t with
 | some i=>match i.methods.find? (·.name == m) with
  | some r=>r.path.toList.isEmpty&&(match r.func with
   | some (f',pr)=>Nat.beq f' f && !pr
   | none=>false)&&(match P.underlying t with
   | some (.pointer _)=>false
   | some _=>true
   | none=>false)
  | none=>false
 | none=>false
theorem jW {P:Program} {t:TypeId} {m:String} {f:FuncId} (h:WH P t m f=true) (n:Nat) (v:Value) (w:World):(method (n+1) t v m).run P w = .ok (f,v) w:=by
 unfold WH at h
 split at h
 ·rename_i i hi
  split at h
  ·rename_i r hr;simp only [Bool.and_eq_true] at h;obtain ⟨⟨h1,h2⟩,h3⟩:=h
   split at h2
   ·rename_i f' pr hf;simp only [Bool.and_eq_true,Bool.not_eq_true'] at h2;have hff:=Nat.eq_of_beq_eq_true h2.1;subst hff;have hpr:=h2.2;subst hpr;have hp:r.path.toList=[]:=List.isEmpty_iff.1 h1
    split at h3
    ·cases h3
    ·rename_i u hne hu;have hrecv:∀wr,(receiverAt t (.val v) false wr).run P w = .ok v w:=λwr=>by
      unfold receiverAt;rw [Sem.run_bind,run_underlying hu,Result.andThen_ok];cases u <;> first | rfl | exact absurd rfl (hne _)
     simp only [method,typeInfo,Sem.run_bind,run_program,Result.andThen_ok,hi,hr,hp,follow,Sem.run_pure,hf,hrecv]
    ·cases h3
   ·cases h2
  ·cases h
 ·cases h
section
variable {P:Program} {n:Nat} {F:List Nat} {Q:DQ} {tt:TT} {env env':Env} {st st':St} {ids ids':List Nat} {k todo todo':List DI} {cx:Prop} {d:D} {ob ob':List Prop}
 {I:Imm} {μ:Mu} {w:World} {a:Act}
theorem SE {o:Oper} {r:Operand} {m:String} {f:FuncId} {args:List Operand} {ts:Array TypeId} {ds:List D} {T:TypeId} {x:V} (ho:o.op = .call { callee:=.invoke r m,args:=⟨args⟩,argTypes:=ts }) (ht:D2 env r=some (.imm (.iface T x)))
  (ha:Ir cx env args=some (ds,ob)) (hob:AA ob) (hm:WH P T m f=true):EA P o env f (.imm x::ds) cx:=by
 intro I μ a w hop hc;rw [ho] at hop;have hd:=Gv (I:=I) (μ:=μ) (a:=a) hc ha hob λy hy=>hop y (by simp [Op.operands,Call.operands,hy]);have hf:=(hop r (by simp [Op.operands,Call.operands]) _ ht).immInv;generalize hv:a.eval r=v at hf;cases hf with
 | iface _ u _ hu =>
  refine ⟨#[u]++(args.map a.eval).toArray,?_,?_⟩
  ·simp only [Array.toList_append];exact .mk (.imm _ _ hu) (by simpa using hd)
  ·have hs:∃n,P.types.size+Made.depth=n+1:=⟨P.types.size+(Made.depth-1),by unfold Made.depth;omega⟩
   obtain ⟨n,hs⟩:=hs;have hme:=jW hm n u w;have hx:((#[Value.iface T u]++(args.map a.eval).toArray).extract 1 (#[Value.iface T u]++(args.map a.eval).toArray).size)=(args.map a.eval).toArray:=by
    apply Array.ext';simp [List.extract_eq_take_drop];exact List.take_of_length_le (by simp)
   have h0:(#[Value.iface T u]++(args.map a.eval).toArray)[0]?=some (.iface T u):=by simp
   have e:(⟨args⟩:Array Operand).map a.eval=(args.map a.eval).toArray:=by simp
   simp only [execOp,ho,resolve,hv,e,Sem.run_bind,Sem.run_pure,Result.andThen_ok,invoke,h0,callMethod,hx,run_program,hs,hme]
structure sM where
 T:TypeId
 m:String
 vs:List V
 g:Option (Bool×Bool)
 ob:List Prop
 dst:Option Nat
 todo:List DI
def iU (n:Nat) (env:Env) (todo:List DI):Option sM :=
 match Bk todo ([],[]) with
 | some (all,o,todo')=>match o.op,Ct all env o with
  | .call { callee:=.invoke r m,args:=⟨args⟩,.. },some g=>match D2 env r,Ir (An g) env args with
   | some (.imm (.iface T x)),some (ds,ob)=>match L8 (.imm x::ds),BJ n o.dst with
    | some vs,true=>match o.dst with
     | some t=>some ⟨T,m,vs,g,ob,some t,todo'⟩
     | none=>some ⟨T,m,vs,g,ob,none,todo'⟩
    | _,_=>none
   | _,_=>none
  | _,_=>none
 | none=>none
theorem nS (f:FuncId) {T:TypeId} {m:String} {vs:List V} {g:Option (Bool×Bool)} {ob:List Prop} {dst:Option Nat} {todo':List DI} {v:V} (h:iU n env todo=some ⟨T,m,vs,g,ob,dst,todo'⟩) (hm:WH P T m f=true) (hE:An g->Ak P f vs v) (hob:AA ob)
  (hk:G P n F Q todo' (BE dst (gD g (.imm v)) env) st ids):G P n F Q todo env st ids:=by
 unfold iU at h
 split at h
 ·rename_i all o todo1 h1;have hnd:∀cc,o.op = .call cc->∀c,o.op ≠ .defer c:=λcc h c h'=>by rw [h] at h';cases h'
  split at h
  ·rename_i r m' args ts g' ho hg
   split at h
   ·rename_i T' x ds ob' ht ha
    split at h
    ·rename_i vs' hv hd;have fin:T'=T/\m'=m/\vs'=vs/\g'=g/\ob'=ob/\o.dst=dst/\todo1=todo':=by
      split at h <;> (rename_i hdst;cases h;exact ⟨rfl,rfl,rfl,rfl,rfl,hdst,rfl⟩)
     obtain ⟨rfl,rfl,rfl,rfl,rfl,rfl,rfl⟩:=fin;exact BC (fr:=[]) (wr:=[]) h1 (PS hg (SE ho ht ha hob hm) hv hE) hd (hnd _ ho) hk
    ·cases h
   ·cases h
  ·cases h
 ·cases h
end
end Go.Hk
namespace Go.Hk
open Go.Proofs
theorem Qs:∀v:Ty,Aj v<=1000000000000000->Ak Tryz.prog 159 [.agg (dTyc v)] (.int .i64 (Aj v))
 | .mk f n x ps,hN=>by
  refine AS λhv=>?_;simp [Cx,EM,dTyc,maxLen] at hv;simp only [Aj] at hN;refine Af Al Tryz.func159 (by decide +kernel) rfl [1,2,3,4] rfl rfl ?_;refine Ao rfl ?_;refine Am (λi:Nat=>[(9,.imm (.int .i64 i)),(8,.imm (.int .i64 ps.length)),(7,.imm (.sl (BQ ps))),(3,.imm (.int .i64 ((1+Ag (ps.take i):Nat):Int)))]) (λ_=>[]) [2,3,4] (λi=>ps.length-i) (λi=>i<=ps.length) 0 (Nat.zero_le _)
   ⟨rfl,A3 (by simp),rfl,rfl,trivial⟩ trivial rfl λi hi ih=>?_
  refine Aq rfl ?_;refine Ab rfl (λh=>?_) (λh=>?_)
  ·simp at h;obtain ⟨p,hp⟩:=Ap h;have hl:=Cc hp;have hs:=Qs p (by omega);have hn:Ag (ps.take (i+1))=Ag (ps.take i)+Aj p:=by
    have e:=BA (ps.take i) [p];rw [Bn hp,e];simp [Ag]
   refine Aq rfl ?_;refine mi rfl (c:=dTyc p) (λ_=>⟨by simp,by simpa using A5 hp,by simp⟩) (by simp) ?_;obtain ⟨p1,p2,p3,p4⟩:=p;refine Ao rfl ?_;refine Ah rfl hs ?_;refine Ao rfl ?_;exact Ae (ih (i+1) (by omega) (by omega)) ⟨A3 (BI (by omega) (by omega)),rfl,rfl,A3 (by rw [BI (by omega) (by omega)];omega),trivial⟩ trivial rfl
  ·simp at h;refine Ay rfl ?_;rw [List.take_of_length_le (by omega)];refine Aq rfl ?_;simp only [Aj];exact Aa rfl rfl rfl
termination_by v=>SizeOf.sizeOf v
decreasing_by
 have:=List.sizeOf_lt_of_mem (List.mem_of_getElem? hp);simp_wf;omega
theorem oI (n:Int) (h : -1000000000000<=n/\n<=1000000000000):Ak Tryz.prog 184 [.int .i64 n] (.int .i64 (DC n)):=by
 refine Af Al Tryz.func184 (by decide +kernel) rfl [1,2] rfl rfl ?_;refine Ao rfl ?_;by_cases h0:0<n
 ·refine Ab rfl (λh=>?_) (λh=>absurd h0 (by simpa using h));refine Aq rfl ?_;refine Aa rfl rfl ?_;simp only [DC,if_pos h0];have e1:IntKind.i64.wrap (2*n)=2*n:=BI (by omega) (by omega);rw [e1,BI (by omega) (by omega)]
 ·refine Ab rfl (λh=>absurd (by simpa using h) h0) (λh=>?_);refine Aq rfl ?_;refine Aa rfl rfl ?_;simp only [DC,if_neg h0];rw [BI (by omega) (by omega)]
theorem Rg (ds:List Dt) (s:Str):Ep false (EZ (DT 0 ds)) (.str s) (.agg [.int .i64 0,.int .i64 0]) = .imm (.agg [.int .i64 (Ck ds s).1,.int .i64 (Ck ds s).2]):=by
 simp only [Ep,Oh,Ck];cases h:Gu s 0 ds with
 | none=>simp
 | some p=>obtain ⟨a,b⟩:=p;simp
theorem Wk (c:Cse) (sz:List (List V)) (ho:OkW c.datas):∀(a t b:Ty),AK c.datas t=true->IT c.datas t a=true->IT c.datas t b=true->DH a=true->DH b=true ->
  Ak Tryz.prog 160 [AE c sz,.agg (dTyc a),.agg (dTyc b)] (.int .i64 (Cg c.datas a b))
 | .mk f n x ps,.mk so m0 x0 qs0,.mk g n' x' ps',hn,ha,hb,hia,hib=>by
  have hR:=λc'=>oI c';obtain ⟨ds,⟨c1,c2,c3,c4⟩,rows⟩:=c;simp only [DH,Bool.and_eq_true] at hia hib;have hia1:=of_decide_eq_true hia.1;have hib1:=of_decide_eq_true hib.1;simp only at hn ha hb ho;simp only [IT] at ha hb;refine Af Al Tryz.func160 (by decide +kernel) rfl [1,2,3,4,5,6,7] rfl rfl ?_;refine Ao rfl ?_;simp only [Cg];by_cases f1:f=1
  ·subst f1;refine Ai rfl λh=>?_;refine Aq rfl ?_;refine Ad rfl (λ_=>hR n hia1) (by simp) ?_;refine Ao rfl ?_;refine Ad rfl (λ_=>hR n' hib1) (by simp) ?_;refine mg [] rfl (by simp;rfl) ?_;have hr:∀z:Int,-1000000000000<=z/\z<=1000000000000 -> -2000000000000<=DC z/\DC z<=2000000000000:=λz hz=>by simp only [DC];split <;> omega
   have:=hr n hia1;have:=hr n' hib1;refine Aa rfl rfl ?_;rw [BI (by omega) (by omega)];rfl
  refine Ab rfl (λh=>absurd (by simpa using h) f1) (λh=>?_);clear h;refine Aq rfl ?_;by_cases f2:f=2
  ·subst f2;refine Ai rfl λh=>?_;refine Aq rfl ?_;refine Aa rfl rfl ?_;rw [BI (by omega) (by omega)];rfl
  refine Ab rfl (λh=>absurd (by simpa using h) f2) (λh=>?_);clear h;refine Aq rfl ?_;by_cases f4:f=4
  case neg =>
   refine Ab rfl (λh=>absurd (by simpa using h) f4) (λh=>?_);clear h;refine Aq rfl ?_;rw [if_neg f1,if_neg f2,if_neg f4];exact Aa rfl rfl rfl
  subst f4;have h8:so=8:=by
   by_cases e1:so=1
   ·rw [if_pos e1] at ha;simp at ha
   rw [if_neg e1] at ha;by_cases e2:so=2
   ·rw [if_pos e2] at ha;simp at ha
   rw [if_neg e2] at ha;by_cases e3:so=3
   ·rw [if_pos e3] at ha;simp at ha
   rw [if_neg e3] at ha;by_cases e8:so=8
   ·exact e8
   ·rw [if_neg e8] at ha;simp at ha
  subst h8;rw [if_neg (by decide),if_neg (by decide),if_neg (by decide),if_pos rfl] at ha hb;simp only [Bool.and_eq_true,decide_eq_true_eq] at ha hb;obtain ⟨_,ha1,ha2,ha3⟩:=ha;obtain ⟨hg,hb1,hb2,hb3⟩:=hb;rw [Id ds 8 0 m0 x0 x [] qs0] at ha1 ha2 ha3;rw [Id ds 8 0 m0 x0 x' [] qs0] at hb1 hb2 hb3;have hp:=(CN hn 8 m0 x0 qs0 rfl rfl).1;have sa:=Gl ho.dif (n:=m0) (s:=x) (ps:=qs0) hp ha1;have sb:=Gl ho.dif (n:=m0) (s:=x') (ps:=qs0) hp hb1;have la:=Qa ho (.mk 8 m0 x0 qs0) x;have lb:=Qa ho (.mk 8 m0 x0 qs0) x';have hsame:=Oi (ds:=ds) (t:=.mk 8 m0 x0 qs0) (s:=x) (s':=x') ha1;have hal:=RQ ho (.mk 8 m0 x0 qs0) x;have hnm:=H4 ho.okd (t:=.mk 8 m0 x0 qs0) (s:=x) ha1;have lk1:=Rg ds x;have lk2:=Rg ds x'
  rw [if_neg (by decide),if_neg (by decide),if_pos rfl];rw [sa] at lk1 ⊢;rw [sb] at lk2 ⊢;generalize (Ck ds x).1=s1 at *;generalize (Ck ds x').1=s2 at *;clear sa sb;generalize BO ds (.mk 8 m0 x0 qs0) x=e1 at *;generalize BO ds (.mk 8 m0 x0 qs0) x'=e2 at *;obtain ⟨⟨n1,A1⟩,k1⟩:=e1;obtain ⟨⟨n2,A2⟩,k2⟩:=e2;simp only at ha1 ha2 ha3 hb1 hb2 hb3 la lb hsame hal hnm lk1 lk2 ⊢;refine Ai rfl λh=>?_;refine Aq rfl ?_;refine Gs Al rfl rfl rfl (EO _) (by simp [An]) (z:=.agg #[.int .i64 0,.int .i64 0]) rfl (λ_=>.agg _ _ rfl (by decide) (λi c x h1 h2=>by match i,h1,h2 with | 0,h1,h2=>cases h1;cases h2;exact .int _ _ | 1,h1,h2=>cases h1;cases h2;exact .int _ _ | i+2,h1,h2=>simp at h2)) lk1 ?_
  refine Dm rfl ?_;refine Gs Al rfl rfl rfl (EO _) (by simp [An]) (z:=.agg #[.int .i64 0,.int .i64 0]) rfl (λ_=>.agg _ _ rfl (by decide) (λi c x h1 h2=>by match i,h1,h2 with | 0,h1,h2=>cases h1;cases h2;exact .int _ _ | 1,h1,h2=>cases h1;cases h2;exact .int _ _ | i+2,h1,h2=>simp at h2)) lk2 ?_;refine mg [] rfl (by simp [An];rfl) ?_;by_cases hk:k1=k2
  case neg =>
   refine Ab rfl (λh=>?_) (λh=>by exfalso;simp at h;rw [BI (by omega) (by omega)] at h;omega);refine Aq rfl ?_;rw [if_pos (by omega)];refine Aa rfl rfl ?_;rw [BI (by omega) (by omega)]
  refine Ab rfl (λh=>by exfalso;simp at h;rw [BI (by omega) (by omega)] at h;omega) (λh=>?_);clear h;subst hk;have hsame:=hsame rfl;cases hsame;rw [if_neg (by omega)];refine Aq rfl ?_;refine Am (λi:Nat=>[(53,.imm (.int .i64 i)),(52,.imm (.int .i64 ps.length)),(5,.ref 2 0),(4,.ref 1 0),(0,.imm (AE ⟨ds,.mk c1 c2 c3 c4,rows⟩ sz))])
   (λ_=>[(1,some (.immb 46 4 (dTyc (.mk 4 n x ps)))),(2,some (.immb 46 4 (dTyc (.mk g n' x' ps'))))]) [3,4,5,6,7] (λi=>ps.length-i)
   (λi=>i<=ps.length/\BY ds ps ps'=BY ds (ps.drop i) (ps'.drop i)) 0 ⟨Nat.zero_le _,rfl⟩ ⟨rfl,A3 (by simp),rfl,rfl,rfl,trivial⟩ ⟨rfl,rfl,trivial⟩ rfl λi hi ih=>?_
  obtain ⟨hi1,hi2⟩:=hi;refine Aq rfl ?_;refine Ab rfl (λh=>?_) (λh=>?_)
  ·simp at h;obtain ⟨p,hp⟩:=Ap h;obtain ⟨t,ht⟩:=Ap (l:=A1) (i:=i) (by omega);obtain ⟨q,hq⟩:=Ap (l:=ps') (i:=i) (by omega);have hO:=Wk ⟨ds,.mk c1 c2 c3 c4,rows⟩ sz ho p t q (D3 hnm ht) (Kc ha3 ht hp) (Kc hb3 ht hq) (Jw hia.2 hp) (Jw hib.2 hq);simp only at hO;rw [OL hp hq] at hi2;generalize Cg ds p q=z at *;refine Aq rfl ?_;refine mi rfl (c:=dTyc p) (λ_=>⟨by simp,by simpa using A5 hp,by simp⟩) (by simp) ?_;refine Ao rfl ?_;refine mi rfl (c:=dTyc q) (λ_=>⟨by simp,by simpa using A5 hq,by simp⟩) (by simp) ?_;refine Ao rfl ?_;refine Ah rfl hO ?_;refine mg [] rfl (by simp;rfl) ?_;by_cases hz:z=0
   ·rw [if_neg (by simpa using hz)] at hi2;refine Ab rfl (λh=>by simp at h;exact absurd hz h) (λh=>?_);refine Aq rfl ?_;exact Ae (ih (i+1) (by omega) ⟨by omega,hi2⟩) ⟨A3 (BI (by omega) (by omega)),rfl,rfl,rfl,rfl,trivial⟩ ⟨rfl,rfl,trivial⟩ rfl
   ·rw [if_pos hz] at hi2;refine Ab rfl (λh=>?_) (λh=>by simp at h;exact absurd h hz);refine Aq rfl ?_;rw [hi2];exact Aa rfl rfl rfl
  ·simp at h;refine Ay rfl ?_;refine Aq rfl ?_;rw [hi2,List.drop_eq_nil_of_le (by omega)];simp only [BY];exact Aa rfl rfl rfl
termination_by a=>SizeOf.sizeOf a
decreasing_by
 have:=List.sizeOf_lt_of_mem (List.mem_of_getElem? hp);simp_wf;omega
@[simp] theorem someP_length (r:Option Ty):(GB r).length=5:=by cases r <;> simp [GB,zT]
theorem Tb (c:Cse) (sz:List (List V)) (ho:OkW c.datas) (hn:AK c.datas c.type=true) (a b:Option Ty) (ha:∀v,a=some v->ZN c v) (hb:∀v,b=some v->ZN c v) :
  Ak Tryz.prog 117 [AE c sz,.agg (GB a),.agg (GB b)] (.agg (GB (HI c.datas a b))):=by
 cases a with
 | none =>
  have e:HI c.datas none b=b:=rfl;rw [e];cases b with
  | none =>
   refine Af Al Tryz.func117 (by decide +kernel) rfl [1,2,3,4,5] rfl rfl ?_;refine Ao rfl ?_;refine Ai rfl λh=>?_;refine Aq rfl ?_;exact Aa rfl rfl rfl
  | some y =>
   obtain ⟨y1,y2,y3,y4⟩:=y;refine Af Al Tryz.func117 (by decide +kernel) rfl [1,2,3,4,5] rfl rfl ?_;refine Ao rfl ?_;refine Ai rfl λh=>?_;refine Aq rfl ?_;exact Aa rfl rfl rfl
 | some x =>
 cases b with
 | none =>
  obtain ⟨x1,x2,x3,x4⟩:=x;refine Af Al Tryz.func117 (by decide +kernel) rfl [1,2,3,4,5] rfl rfl ?_;refine Ao rfl ?_;refine Az rfl λh=>?_;refine Aq rfl ?_;refine Ai rfl λh=>?_;refine Aq rfl ?_;exact Aa rfl rfl rfl
 | some y =>
  have hx:=ha x rfl;have hy:=hb y rfl;have hO:=Wk c sz ho y c.type x hn hy.1 hx.1 hy.2.1 hx.2.1;have hX:=Qs x hx.2.2;have hY:=Qs y hy.2.2;have e:HI c.datas (some x) (some y)=if (if Aj y=Aj x then Cg c.datas y x<0 else Aj y<Aj x) then some y else some x:=by
   simp only [HI,Cv];by_cases h:Aj y=Aj x
   ·simp only [if_pos h,decide_eq_true_eq]
   ·simp only [if_neg h,decide_eq_true_eq]
  rw [e];clear e;have hnx:=hx.2.2;have hny:=hy.2.2;generalize Cg c.datas y x=z at *;generalize Aj x=nx at *;generalize Aj y=ny at *;obtain ⟨x1,x2,x3,x4⟩:=x;obtain ⟨y1,y2,y3,y4⟩:=y;generalize hR:(if (if ny=nx then z<0 else ny<nx) then some (Ty.mk y1 y2 y3 y4) else some (Ty.mk x1 x2 x3 x4))=R;have hyes:(if ny=nx then z<0 else ny<nx)->R=some (Ty.mk y1 y2 y3 y4):=λh=>by rw [<- hR];exact if_pos h
  have hno:¬(if ny=nx then z<0 else ny<nx)->R=some (Ty.mk x1 x2 x3 x4):=λh=>by rw [<- hR];exact if_neg h
  clear hR;refine Af Al Tryz.func117 (by decide +kernel) rfl [1,2,3,4,5] rfl rfl ?_;refine Ao rfl ?_;refine Az rfl λh=>?_;refine Aq rfl ?_;refine Az rfl λh=>?_;refine Aq rfl ?_;refine AN rfl hY ?_;refine Dm rfl ?_;refine AN rfl hX ?_;refine mg [] rfl (by simp [An];rfl) ?_;have ew:IntKind.i64.wrap ((ny:Int)-nx)=(ny:Int)-nx:=BI (by omega) (by omega);by_cases hq:ny=nx
  ·subst hq;simp only [if_true] at hyes hno;refine Ab rfl (λh=>?_) (λh=>by exfalso;simp at h;exact h (by decide));refine Aq rfl ?_;refine Ah rfl hO ?_;refine Ao rfl ?_;by_cases hz:z<0
   ·rw [hyes hz];refine Ab rfl (λh=>?_) (λh=>absurd hz (by simpa using h));refine Aq rfl ?_;exact Aa rfl rfl rfl
   ·rw [hno hz];refine Ab rfl (λh=>absurd (by simpa using h) hz) (λh=>?_);refine Aq rfl ?_;exact Aa rfl rfl rfl
  ·simp only [if_neg hq] at hyes hno;refine Ab rfl (λh=>by exfalso;simp [ew] at h;omega) (λh=>?_);refine Aq rfl ?_;by_cases hz:ny<nx
   ·rw [hyes hz];refine Ab rfl (λh=>?_) (λh=>by exfalso;simp [ew] at h;omega);refine Aq rfl ?_;exact Aa rfl rfl rfl
   ·rw [hno hz];refine Ab rfl (λh=>by exfalso;simp [ew] at h;omega) (λh=>?_);refine Aq rfl ?_;exact Aa rfl rfl rfl
theorem Wg (p:Ty):Ak Tryz.prog 228 [.agg (dTyc p)] (.agg (dTyc p)):=by
 obtain ⟨a,b,c,d⟩:=p;refine Af Al Tryz.func228 (by decide +kernel) rfl [1,2] rfl rfl ?_;refine Ao rfl ?_;exact Aa rfl rfl rfl
theorem Wf (p:Ty):Ak Tryz.prog 229 [.agg (dTyc p)] (.agg (dTyc p)):=by
 obtain ⟨a,b,c,d⟩:=p;refine Af Al Tryz.func229 (by decide +kernel) rfl [1,2] rfl rfl ?_;refine Ao rfl ?_;exact Aa rfl rfl rfl
theorem Vw:∃z,(Tryz.prog.info? 139).bind (·.zero)=some z/\∀I,RepV I z (.agg [.int .i64 0,.int .i64 0,.str [],.sl []]):=by
 refine ⟨.agg #[.int .i64 0,.int .i64 0,.string ⟨#[]⟩,.slice none 0 0],by kernel_rfl,λI=>.agg _ _ rfl (by decide) λi c x hc hx=>?_⟩
 match i,hc,hx with
 | 0,hc,hx=>cases hc;cases hx;exact .int _ _
 | 1,hc,hx=>cases hc;cases hx;exact .int _ _
 | 2,hc,hx=>cases hc;cases hx;exact .str _ _ rfl
 | 3,hc,hx=>cases hc;cases hx;exact .slnil
 | i+4,hc,hx=>simp at hx
theorem jY (x:Ty×Int):Ak Tryz.prog 118 [Mk x] (.bool (decide (x.2=1))):=by
 obtain ⟨⟨a,b,c,d⟩,m⟩:=x;by_cases h:m=1
 ·subst h;refine Af Al Tryz.func118 (by decide +kernel) rfl [1,2] rfl rfl ?_;refine Ao rfl ?_;refine IL Al rfl (.inl ⟨rfl,rfl⟩) ?_;refine Ao rfl ?_;refine Ai rfl λh=>?_;refine Aq rfl ?_;exact Aa rfl rfl rfl
 ·have e:Mk (.mk a b c d,m) = .iface 201 (.agg (dTyc (.mk a b c d))):=by simp [Mk,h]
  obtain ⟨z,hz,hzr⟩:=Vw;rw [e,show decide (m=1)=false from decide_eq_false h];refine Af Al Tryz.func118 (by decide +kernel) rfl [1,2] rfl rfl ?_;refine Ao rfl ?_;refine IL Al rfl (.inr ⟨by decide,z,_,hz,hzr,rfl⟩) ?_;refine Ao rfl ?_;refine Az rfl λh=>?_;refine Aq rfl ?_;exact Aa rfl rfl rfl
theorem Tn {I:Imm} {μ:Mu}:∀{xs:List Value} {a b:List D},RepL I μ xs (a ++ .nils::b)->RepL I μ xs (a ++ .imm (.sl [])::b)
 | [],[],b,h=>absurd h.1 (by simp)
 | [],_::_,b,h=>absurd h.1 (by simp)
 | x::xs,[],b,h=>by
  obtain ⟨h1,h2⟩:=(show RepL I μ (x::xs) (.nils::b) from h).cons;refine .mk ?_ h2;cases h1;exact .imm _ _ .slnil
 | x::xs,d::a,b,h=>by
  obtain ⟨h1,h2⟩:=(show RepL I μ (x::xs) (d::(a ++ .nils::b)) from h).cons;exact .mk h1 (Tn h2)
theorem Uj {P:Program} {f:FuncId} {a b:List D} {st:St} {out:Out} (h:Bg P f (a ++ .imm (.sl [])::b) st out):Bg P f (a ++ .nils::b) st out:=λI μ w xs hs hx=>h I μ w xs hs (Tn hx)
theorem Vy (l:List (Ty×Int)):∀c∈C1 l,c.length=1:=λc hc=>by simp only [C1,List.mem_map] at hc;obtain ⟨q,_,rfl⟩:=hc;rfl
theorem bJ (x : Ty × Int) : ∃ T fm, Mk x = .iface T (.agg (dTyc x.1)) ∧ WH Tryz.prog T "hearth/cover.pattern" fm = true ∧ Ak Tryz.prog fm [.agg (dTyc x.1)] (.agg (dTyc x.1)) := by
 obtain ⟨p,m⟩:=x;by_cases h:m=1
 ·exact ⟨139,228,by simp [Mk,h],by kernel_rfl,Wg p⟩
 ·exact ⟨201,229,by simp [Mk,h],by kernel_rfl,Wf p⟩
theorem Th (c:Cse) (ho:OkW c.datas) (hn:AK c.datas c.type=true):∀(F f N:Nat),f<=F->∀(m x:Mi) (l:List (Ty×Int)) (r:Option Ty),N+f<=1000000->MOk c.datas c.type N m->MOk c.datas c.type N x->stl c.datas m x ->
  Jh c.datas c.type l->(∀y∈l,y.2=0\/y.2=1)->l.length<=1000->JE c.datas m l<f->C3 c.datas f m l=some r ->
  Bg Tryz.prog 67 [.imm (AE c (Ba (Dd c.datas))),.hv 1 0,.imm (.sl (C1 l))] [(1,some (.hp (DJ x)))] (.ret (.imm (.agg (GB r))) []):=by
 intro F
 induction F with
 | zero=>intro f N hf m x l r _ _ _ _ _ _ _ hu;omega
 | succ F ih =>
 intro f N hfF m x l r hNf hm hx hs hr hb hll hu hS;have hrf:=Hj r;refine Af Al Tryz.func67 (by decide +kernel) rfl [2,3,4,5,6,7,8,9,10,11,12] rfl rfl ?_;refine E3 1 2 (λob:Nat=>[ptr ob]) (λob=>AR x ob) rfl (λvs I w bs h=>let ⟨ob,F,e1,e2,e3⟩:=h;⟨ob,e1,F,e2,e3⟩) λob=>?_;refine Aq rfl ?_;refine Am (λz:Nat×Nat×Mi=>[(15,.imm (.int .i64 z.1)),(14,.imm (.int .i64 l.length)),(13,.imm (.sl (C1 l))),(6,.ref 3 0),(2,.imm (.sl (C1 l))),(1,.raw (ptr ob)),(0,.imm (AE c (Ba (Dd c.datas))))])
  (λz=>[(3,some (.cells 126 5 [.imm (.int .i64 0),.imm (.int .i64 0),.imm (.str []),.nils,.imm (.bool false)])),(2,some (.hp (AR z.2.2 ob)))]) [4,5,6,7,8,9,10,11,12] (λz=>l.length-z.1)
  (λz=>z.1<=l.length/\z.2.1<=f/\MOk c.datas c.type N z.2.2/\stl c.datas m z.2.2/\JE c.datas m (l.drop z.1)<z.2.1/\C3 c.datas z.2.1 m (l.drop z.1)=some r) (0,f,x) ⟨Nat.zero_le _,Nat.le_refl _,hx,hs,hu,hS⟩ ⟨rfl,A3 (by simp),rfl,rfl,rfl,rfl,rfl,trivial⟩ ⟨rfl,rfl,trivial⟩ rfl λz hz ihl=>?_
 obtain ⟨i,f',x⟩:=z;obtain ⟨z1,z2,hx,hs,hu,hS⟩:=hz;simp only at z1 z2 hx hs hu hS;refine Aq rfl ?_;refine Ab rfl (λh=>?_) (λh=>?_)
 ·have hlt:i<l.length:=by simp at h;omega
  obtain ⟨y,hy⟩:=Ap hlt;obtain ⟨p,bb⟩:=y;obtain ⟨T,fm,hwe,him,hpc⟩:=bJ (p,bb);obtain ⟨hp1,hp2,hp3⟩:=hr (p,bb) (List.mem_of_getElem? hy);have hyb:=hb (p,bb) (List.mem_of_getElem? hy);have hho:=jY (p,bb);have hget:(C1 l)[i]?=some [.iface T (.agg (dTyc p))]:=by rw [XR hy,hwe]
  rw [hwe] at hho;have hdr:=Av hy;rw [hdr] at hS hu;simp only at hp1 hp2 hp3 hyb hho hpc;obtain ⟨f',rfl⟩:∃g,f'=g+1:=⟨f'-1,by omega⟩
  have hsee:=XY c (Ba (Dd c.datas)) ho N (by omega) p x ob [] (by simp;omega) hx.wf hx.coh (by rw [hx.typ];exact hp1) hp2;replace hsee:=Uj (a:=[.imm (AE c (Ba (Dd c.datas))),.imm (.agg (dTyc p)),.raw (ptr ob)]) (b:=[]) hsee;have hst:=U7 p hm.coh hs;have hxs:=hx.see ho hp3;have hL:=Hg p hm.coh hs;have hL2:=Hg p hm.coh hst;rw [<- hL] at hsee;refine Aq rfl ?_;refine mi rfl (c:=[.iface T (.agg (dTyc p))]) (λ_=>⟨by simp,by simpa using hget,by simp⟩) (by simp) ?_;refine Ao rfl ?_;refine nS fm rfl him (λ_=>hpc) (by simp) ?_;refine Ao rfl ?_;simp only [C3] at hS;simp only [JE] at hu;by_cases h2:(Ar c.datas p m).1=2
  ·rw [show My [] (Ar c.datas p m) = .tup [.imm (.bool false),.ip 156 (.sl (Ba (Ar c.datas p m).2.1)::Bl (Ar c.datas p m).2.2) 0] from if_pos h2] at hsee;have hA:=H6 ho p hm.wf hm.coh (by rw [hm.typ];exact hp1) hp2 h2;have hB:=H6 ho p hxs.wf hxs.coh (by rw [hxs.typ];exact hp1) hp2 (by rw [<- hL2];exact h2);rw [<- hL2] at hB;have hmT:=hm.split ho hp1 hp2 hp3 h2;have hxT:=hxs.split ho hp1 hp2 hp3 (by rw [<- hL2];exact h2);rw [<- hL2] at hxT;have hlen:=IC c.datas p m;have hsup:=λis=>LB c (Ba (Dd c.datas)) ho N (by omega) (EF c.datas p x) ob (Ar c.datas p m).2.1 (Ar c.datas p m).2.2 is (by omega) hxs.wf hxs.coh hB.ok
   have hdl:∀is,JE c.datas (A0 c.datas m (Ar c.datas p m).2.1 (Ar c.datas p m).2.2 is) ((p,bb)::l.drop (i+1))<f':=λis=>by have:=hA.less is;simp only [JE];omega
   have hrd:Jh c.datas c.type ((p,bb)::l.drop (i+1)):=λy h=>hr y (by rw [<- hdr] at h;exact List.mem_of_mem_drop h);obtain ⟨ra,ra1,ra2⟩:=IY ho c.type f' (N+1) _ _ (by omega) (hmT true) hrd (hdl true);obtain ⟨rb,rb1,rb2⟩:=IY ho c.type f' (N+1) _ _ (by omega) (hmT false) hrd (hdl false);rw [if_pos h2,ra1,rb1] at hS;simp only [OB,Option.some.injEq] at hS;have hll2:((p,bb)::l.drop (i+1)).length<=1000:=by rw [<- hdr,List.length_drop];omega
   have hbd:∀y∈(p,bb)::l.drop (i+1),y.2=0\/y.2=1:=λy h=>hb y (by rw [<- hdr] at h;exact List.mem_of_mem_drop h);have hYa:=ih f' (N+1) (by omega) _ _ _ ra (by omega) (hmT true) (hxT true) (hA.stl true _ hst) hrd hbd hll2 (hdl true) ra1;have hYb:=ih f' (N+1) (by omega) _ _ _ rb (by omega) (hmT false) (hxT false) (hA.stl false _ hst) hrd hbd hll2 (hdl false) rb1;have hsoon:=Tb c (Ba (Dd c.datas)) ho hn ra rb (λv hv=>QN rfl (ra2 v hv)) (λv hv=>QN rfl (rb2 v hv));rw [hS] at hsoon;rw [<- hdr,<- Vz] at hYa hYb;generalize (Ar c.datas p m).2.1=path at *;generalize (Ar c.datas p m).2.2=hd at *;obtain ⟨d1,d2,d3,d4⟩:=hd
   refine A9 (fr:=[4]) [(2,1)] [(2,4)] rfl (by simp) hsee ⟨⟨rfl,rfl,rfl⟩,trivial⟩ rfl rfl rfl rfl ?_;refine Ao rfl ?_;refine Ai rfl λh=>?_;refine Aq rfl ?_;refine B6 [(4,1)] [(3,5),(2,6)] [] (fr:=[5,6]) (nm:=[5,6,4]) rfl trivial (by simp) (hsup true) ⟨⟨rfl,rfl,rfl⟩,trivial⟩ rfl trivial rfl rfl rfl ?_;refine mg [] rfl (by simp;exact ⟨by omega,Vy l⟩) ?_;refine B6 [(6,1)] [] [] (fr:=[]) (nm:=[6]) rfl trivial (by simp) hYa ⟨⟨rfl,rfl,rfl⟩,trivial⟩ rfl trivial rfl rfl rfl ?_;refine mg [] rfl (by simp;rfl) ?_;refine B6 [(5,1)] [(3,8),(2,9)] [] (fr:=[8,9]) (nm:=[8,9,5]) rfl trivial (by simp) (hsup false) ⟨⟨rfl,rfl,rfl⟩,trivial⟩ rfl trivial rfl rfl rfl ?_
   refine mg [] rfl (by simp;exact ⟨by omega,Vy l⟩) ?_;refine B6 [(9,1)] [] [] (fr:=[]) (nm:=[9]) rfl trivial (by simp) hYb ⟨⟨rfl,rfl,rfl⟩,trivial⟩ rfl trivial rfl rfl rfl ?_;refine mg [] rfl (by simp;rfl) ?_;refine Ah rfl hsoon ?_;refine Ao rfl ?_;exact Aa rfl rfl rfl
  ·rw [show My [] (Ar c.datas p m) = .imm (.tup [.bool (decide ((Ar c.datas p m).1=1)),.nilp]) from if_neg h2] at hsee;rw [if_neg h2] at hS;have hrg:=Hu c.datas p m;have hul:=Ki c.datas m (l.drop (i+1));have hih:=ihl (i+1,f',EF c.datas p x) (by simp only;omega);simp only at hih;generalize (Ar c.datas p m).1=q at *;refine A9 (fr:=[4]) [(2,1)] [(2,4)] rfl (by simp) hsee ⟨⟨rfl,rfl,rfl⟩,trivial⟩ rfl rfl rfl rfl ?_;refine Ao rfl ?_;refine Az rfl λh=>?_;clear h;refine Aq rfl ?_;refine Ah rfl hho ?_;refine Ao rfl ?_;by_cases e:q=bb
   ·rw [if_pos e] at hS;refine Ab rfl (λh=>by exfalso;subst e;simp at h) (λh=>?_);refine Aq rfl ?_;refine AG 4 2 rfl ?_;exact Ae (hih ⟨by omega,by omega,hxs,hst,by omega,hS⟩) ⟨A3 (BI (by omega) (by omega)),rfl,rfl,rfl,rfl,rfl,rfl,trivial⟩ ⟨rfl,rfl,trivial⟩ rfl
   ·rw [if_neg e] at hS;simp only [Option.some.injEq] at hS;subst hS;refine Ab rfl (λh=>?_) (λh=>by
     exfalso;have:¬(q=1↔bb=1):=λh=>by omega
     simp at h;exact this (by rw [h]))
    refine Aq rfl ?_;exact Aa rfl rfl rfl
 ·have hlt:¬i<l.length:=by simp at h;omega
  obtain ⟨f',rfl⟩:∃g,f'=g+1:=⟨f'-1,by omega⟩
  rw [List.drop_eq_nil_of_le (by omega)] at hS;simp only [C3] at hS;have hS:AO c.datas 1000 x=some r:=by
   rw [<- bQ ho 14 m x hx.hgt hm.wf hs 1000 (by omega)];exact hS
  have hle:=jN c ho N (by omega) 1000 x ob r hS hx.wf;refine Ay rfl ?_;refine Aq rfl ?_;refine A9 (fr:=[]) [(2,1)] [] rfl (by simp) hle ⟨⟨rfl,rfl,rfl⟩,trivial⟩ rfl rfl rfl rfl ?_;refine Ao rfl ?_;exact Aa rfl rfl rfl
theorem Qi (rows:List Ty) (k:Nat) {p:Ty} (h:rows[k]?=some p):EL rows (k:Int)=(rows.take k).map (·,(0:Int))++[(p,1)]:=by
 simp only [EL];rw [if_neg (by omega)];simp only [Int.toNat_natCast,h]
theorem SJ (rows:List Ty) {row:Int} (h:row<0):EL rows row=rows.map (·,(0:Int)):=if_pos h
theorem Mp (c:Cse) (sz:List (List V)) (hl:c.rows.length<=5) (row:Int) (h1 : -1<=row) (h2:row<c.rows.length):Ak Tryz.prog 68 [AE c sz,.int .i64 row] (.sl (C1 (EL c.rows row))):=by
 have hw1:=λk p h=>Qi c.rows k (p:=p) h;have hw2:=λh=>SJ c.rows (row:=row) h;obtain ⟨ds,⟨c1,c2,c3,c4⟩,rows⟩:=c;simp only at *;refine Af Al Tryz.func68 (by decide +kernel) rfl [1,2,3,4] rfl rfl ?_;refine Ao rfl ?_;refine D4 (e:=197) (sz:=1) 5 1 (by decide) rfl ?_;refine Am (λi:Nat=>[(14,.imm (.int .i64 i)),(13,.imm (.int .i64 rows.length)),(12,.imm (.sl (BQ rows))),(5,.own 1 (C1 ((rows.take i).map (·,(0:Int)))).length),(1,.imm (.int .i64 row))]) (λi=>[(1,some (.row 197 1 (C1 ((rows.take i).map (·,(0:Int))))))]) [2,3,4] (λi=>rows.length-i)
  (λi=>i<=rows.length/\(0<=row->(i:Int)<=row)) 0 ⟨Nat.zero_le _,λh=>h⟩ ⟨rfl,A3 (by simp),rfl,rfl,rfl,trivial⟩ ⟨rfl,trivial⟩ rfl λi hi ih=>?_
 obtain ⟨i1,i2⟩:=hi;refine Aq rfl ?_;refine Ab rfl (λh=>?_) (λh=>?_)
 ·simp at h;obtain ⟨p,hp⟩:=Ap h;have hw1:=hw1 i p hp;have et:∀n:Int,C1 ((rows.take i).map (·,(0:Int))++[(p,n)])=C1 ((rows.take i).map (·,(0:Int)))++[[Mk (p,n)]]:=λn=>by rw [So];rfl
  have e2:(rows.take (i+1)).map (·,(0:Int))=(rows.take i).map (·,(0:Int))++[(p,0)]:=by rw [Bn hp];simp
  have hll:(C1 ((rows.take i).map (·,(0:Int)))).length<=5:=by simp;omega
  refine Aq rfl ?_;refine mi rfl (c:=dTyc p) (λ_=>⟨by simp,by simpa using A5 hp,by simp⟩) (by simp) ?_;obtain ⟨p1,p2,p3,p4⟩:=p;refine Ao rfl ?_;by_cases e:(i:Int)=row
  ·subst e;rw [hw1,et];generalize C1 ((rows.take i).map (·,(0:Int)))=l at *;refine Ai rfl λh=>?_;refine Aq rfl ?_;refine Cm Al rfl ⟨by simp,by simp [maxLen] at hll ⊢;omega,by simp at hll ⊢;omega,trivial⟩ ?_;refine Ao rfl ?_;refine Cu 3 rfl ?_;exact Aa rfl rfl rfl
  ·have hih:=ih (i+1) (by omega) ⟨by omega,λh=>by have:=i2 h;omega⟩;rw [e2,et] at hih;generalize C1 ((rows.take i).map (·,(0:Int)))=l at *;refine Ab rfl (λh=>by exfalso;simp at h;exact e h) (λh=>?_);refine Aq rfl ?_;refine Cm Al rfl ⟨by simp,by simp [maxLen] at hll ⊢;omega,by simp at hll ⊢;omega,trivial⟩ ?_;refine Ao rfl ?_;refine AG 1 3 rfl ?_;exact Ae hih ⟨A3 (BI (by omega) (by omega)),rfl,rfl,by simp only [List.length_append];rfl,rfl,trivial⟩ ⟨rfl,trivial⟩ rfl
 ·simp at h;have hr:row<0:=by
   by_cases e:0<=row
   ·have:=i2 e;omega
   ·omega
  refine Ay rfl ?_;refine Cu 1 rfl ?_;refine Aq rfl ?_;rw [hw2 hr,List.take_of_length_le h];exact Aa rfl rfl rfl
def LR (r:Option Ty):V:=.tup [.agg (dTyc (r.getD zT)),.int .i64 (if r.isSome then 0 else 5)]
theorem R5 (r:Option Ty) (hr:∀v,r=some v->Aj v<=1000000000000):Ak Tryz.prog 66 [.agg (GB r)] (LR r):=by
 cases r with
 | none =>
  refine Af Al Tryz.func66 (by decide +kernel) rfl [1,2,3] rfl rfl ?_;refine Ao rfl ?_;refine Ai rfl λh=>?_;refine Aq rfl ?_;exact Aa rfl rfl rfl
 | some v =>
  have hc:=JB v (hr v rfl);obtain ⟨v1,v2,v3,v4⟩:=v;refine Af Al Tryz.func66 (by decide +kernel) rfl [1,2,3] rfl rfl ?_;refine Ao rfl ?_;refine Az rfl λh=>?_;refine Aq rfl ?_;refine Ah rfl hc ?_;refine Ao rfl ?_;exact Aa rfl rfl rfl
theorem RowsOk.of {c:Cse} (h:Bt c=true):RowsOk c:=by
 have h':=h;simp only [Bt,Bool.and_eq_true,decide_eq_true_eq] at h';obtain ⟨_,_,_,h1,h2⟩:=CP h;refine ⟨λp hp=>?_,h1,h'.2.2.2⟩;obtain ⟨a,b⟩:=h2 p hp;simp only [BG,Bool.and_eq_true,decide_eq_true_eq] at a;exact ⟨b,a.2.1,a.1⟩
theorem MOk.of {c:Cse} (h:Bt c=true):MOk c.datas c.type 0 (As c.type):=by
 exact ⟨V3 (CP h).2.2.1 (OkW.typ h),Ur _ _,rfl,by simp [G6,As,Gr]⟩
theorem fH (rows:List Ty) (row:Int):∀y∈EL rows row,y.2=0\/y.2=1:=by
 intro y hy;unfold EL at hy
 split at hy
 ·obtain ⟨p,_,rfl⟩:=List.mem_map.1 hy;exact .inl rfl
 ·rcases List.mem_append.1 hy with hy | hy
  ·obtain ⟨p,_,rfl⟩:=List.mem_map.1 hy;exact .inl rfl
  ·split at hy
   ·rw [List.mem_singleton.1 hy];exact .inr rfl
   ·cases hy
theorem fF {c:Cse} (h:RowsOk c) (row:Int):(EL c.rows row).length<=1000:=by
 have:=h.len;unfold EL
 split
 ·simp;omega
 ·split <;> simp <;> omega
theorem NW (c:Cse) (h:Bt c=true) (N:Nat) (hN:N<=999000) (m x:Mi) (hm:MOk c.datas c.type N m) (hx:MOk c.datas c.type N x) (hs:stl c.datas m x) (row:Int) :
  Bg Tryz.prog 67 [.imm (AE c (Ba (Dd c.datas))),.hv 1 0,.imm (.sl (C1 (EL c.rows row)))] [(1,some (.hp (DJ x)))] (.ret (.imm (.agg (GB (F3 c m row)))) [])/\∀v,F3 c m row=some v->O2 c.datas c.type v:=by
 have ho:=OkW.of h;have hr:=RowsOk.of h;obtain ⟨w1,w2⟩:=Zw hr row;obtain ⟨v1,v2⟩:=LC ho hN hm w1 w2;have hu:=Ki c.datas m (EL c.rows row);rw [show GJ c.datas m (EL c.rows row)=F3 c m row from rfl] at v1 v2;exact ⟨Th c ho (CP h).2.2.1 60 60 N (Nat.le_refl _) m x _ _ (by omega) hm hx hs w1 (fH _ _) (fF hr row) (by omega) v1,v2⟩
theorem Mg (c:Cse):Ak Tryz.prog 18 [.agg (dCse c)] (bif Bt c then LR (F3 c (As c.type) (-1)) else .tup [.agg (dTyc zT),.int .i64 2]):=by
 have hW:=DY c;have hF:=Fs (AE c (Ba (Dd c.datas))) c.type;cases hb:Bt c with
 | false =>
  rw [hb] at hW;obtain ⟨ds,⟨c1,c2,c3,c4⟩,rows⟩:=c;refine Af Al Tryz.func18 (by decide +kernel) rfl [1,2,3,4] rfl rfl ?_;refine Ao rfl ?_;refine Ah rfl hW ?_;refine Ao rfl ?_;refine Ai rfl λh=>?_;refine Aq rfl ?_;exact Aa rfl rfl rfl
 | true =>
  rw [hb] at hW;have hU:=Mp c (Ba (Dd c.datas)) (RowsOk.of hb).len (-1) (by omega) (by omega);obtain ⟨hL1,hL2⟩:=NW c hb 0 (by omega) _ _ (MOk.of hb) (MOk.of hb) (DZ _ _) (-1);have hFd:=R5 (F3 c (As c.type) (-1)) λv hv=>(hL2 v hv).2.2;clear hL2;simp only [cond_true];have hfr:∃a b,LR (F3 c (As c.type) (-1)) = .tup [.agg a,.int .i64 b]/\a.length=4:=⟨_,_,rfl,by simp⟩
  obtain ⟨fa,fb,hfe,hfl⟩:=hfr;rw [hfe] at hFd ⊢;generalize F3 c (As c.type) (-1)=R at *;have hrf:=Hj R;obtain ⟨a1,a2,a3,a4,rfl⟩:∃a1 a2 a3 a4,fa=[a1,a2,a3,a4]:=by
   match fa,hfl with
   | [a1,a2,a3,a4],_=>exact ⟨_,_,_,_,rfl⟩
  obtain ⟨ds,⟨c1,c2,c3,c4⟩,rows⟩:=c;refine Af Al Tryz.func18 (by decide +kernel) rfl [1,2,3,4] rfl rfl ?_;refine Ao rfl ?_;refine Ah rfl hW ?_;refine Ao rfl ?_;refine Az rfl λh=>?_;refine Aq rfl ?_;refine A9 (fr:=[3]) [] [(2,3)] rfl (by simp) hF trivial rfl rfl rfl rfl ?_;refine Ao rfl ?_;refine Ah rfl hU ?_;refine Ao rfl ?_;refine A9 (fr:=[]) [(3,1)] [] rfl (by simp) hL1 ⟨⟨rfl,rfl,rfl⟩,trivial⟩ rfl rfl rfl rfl ?_;refine Ao rfl ?_;refine Ah rfl hFd ?_;refine Ao rfl ?_;exact Aa rfl rfl rfl
theorem Pf (r:Option Ty):∃a1 a2 a3 a4 b,LR r = .tup [.agg [a1,a2,a3,a4],.int .i64 b]:=by
 unfold LR;generalize r.getD zT=t;obtain ⟨a,b,c,d⟩:=t;exact ⟨_,_,_,_,_,rfl⟩
theorem LA {c:Cse} {row:Int} (h:CR c row=true):0<=row/\row<c.rows.length:=by
 simpa [CR] using h
theorem Oq (c:Cse) (row:Int):Ak Tryz.prog 19 [.agg (dCse c),.int .i64 row] (bif Bt c&&CR c row then LR (F3 c (As c.type) row) else .tup [.agg (dTyc zT),.int .i64 2]):=by
 have hW:=DY c;have hF:=Fs (AE c (Ba (Dd c.datas))) c.type;have hT:=Qv c row;rw [show (decide (0<=row)&&decide (row<c.rows.length))=CR c row from rfl] at hT;cases hb:Bt c with
 | false =>
  rw [hb] at hW;obtain ⟨ds,⟨c1,c2,c3,c4⟩,rows⟩:=c;refine Af Al Tryz.func19 (by decide +kernel) rfl [1,2,3,4] rfl rfl ?_;refine Ao rfl ?_;refine Ah rfl hW ?_;refine Ao rfl ?_;refine Ad (v:=.bool true) rfl (λh=>by simp [An] at h) (by simp [An]) ?_;refine Ao rfl ?_;refine Ai rfl λh=>?_;refine Aq rfl ?_;exact Aa rfl rfl rfl
 | true =>
 rw [hb] at hW;cases ht:CR c row with
 | false =>
  rw [ht] at hT;obtain ⟨ds,⟨c1,c2,c3,c4⟩,rows⟩:=c;refine Af Al Tryz.func19 (by decide +kernel) rfl [1,2,3,4] rfl rfl ?_;refine Ao rfl ?_;refine Ah rfl hW ?_;refine Ao rfl ?_;refine AN rfl hT ?_;refine Ao rfl ?_;refine Ai rfl λh=>?_;refine Aq rfl ?_;exact Aa rfl rfl rfl
 | true =>
  rw [ht] at hT;obtain ⟨r1,r2⟩:=LA ht;have hU:=Mp c (Ba (Dd c.datas)) (RowsOk.of hb).len row (by omega) r2;obtain ⟨hL1,hL2⟩:=NW c hb 0 (by omega) _ _ (MOk.of hb) (MOk.of hb) (DZ _ _) row;have hFd:=R5 (F3 c (As c.type) row) λv hv=>(hL2 v hv).2.2;clear hL2;simp only [Bool.and_self,cond_true];obtain ⟨a1,a2,a3,a4,b,hfe⟩:=Pf (F3 c (As c.type) row);rw [hfe] at hFd ⊢;generalize F3 c (As c.type) row=R at *;obtain ⟨ds,⟨c1,c2,c3,c4⟩,rows⟩:=c;refine Af Al Tryz.func19 (by decide +kernel) rfl [1,2,3,4] rfl rfl ?_;refine Ao rfl ?_;refine Ah rfl hW ?_;refine Ao rfl ?_;refine AN rfl hT ?_;refine Ao rfl ?_;refine Az rfl λh=>?_;refine Aq rfl ?_
  refine A9 (fr:=[3]) [] [(2,3)] rfl (by simp) hF trivial rfl rfl rfl rfl ?_;refine Ao rfl ?_;refine Ah rfl hU ?_;refine Ao rfl ?_;refine A9 (fr:=[]) [(3,1)] [] rfl (by simp) hL1 ⟨⟨rfl,rfl,rfl⟩,trivial⟩ rfl rfl rfl rfl ?_;refine Ao rfl ?_;refine Ah rfl hFd ?_;refine Ao rfl ?_;exact Aa rfl rfl rfl
def X7 (c:Cse) (a b:Int):Option Ty:=match c.rows[a.toNat]?,c.rows[b.toNat]? with
 | some p,some q=>Ns c p q
 | _,_=>none
theorem oH (c:Cse) (h:Bt c=true) (p q:Ty) (hp:p∈c.rows) (hq:q∈c.rows) :
  Bg Tryz.prog 67 [.imm (AE c (Ba (Dd c.datas))),.hv 1 0,.imm (.sl (C1 [(p,1),(q,1)]))] [(1,some (.hp (DJ (As c.type))))] (.ret (.imm (.agg (GB (Ns c p q)))) [])/\∀v,Ns c p q=some v->O2 c.datas c.type v:=by
 have ho:=OkW.of h;have hr:=RowsOk.of h;have hm:=MOk.of h;have w1:Jh c.datas c.type [(p,1),(q,1)]:=λx hx=>by
  rcases List.mem_cons.1 hx with rfl | hx
  ·exact hr.pat p hp
  ·rw [List.mem_singleton.1 hx];exact hr.pat q hq
 have w2:FB [(p,1),(q,1)]<60:=by
  have:=(hr.pat p hp).2.2;have:=(hr.pat q hq).2.2;simp [FB];omega
 obtain ⟨v1,v2⟩:=LC ho (by omega) hm w1 w2;have hu:=Ki c.datas (As c.type) [(p,1),(q,1)];rw [show GJ c.datas (As c.type) [(p,1),(q,1)]=Ns c p q from rfl] at v1 v2;have hb:∀y∈[(p,(1:Int)),(q,1)],y.2=0\/y.2=1:=λy hy=>by
  rcases List.mem_cons.1 hy with rfl | hy
  ·exact .inr rfl
  ·rw [List.mem_singleton.1 hy];exact .inr rfl
 have hS:=Th c ho (CP h).2.2.1 60 60 0 (Nat.le_refl _) (As c.type) (As c.type) [(p,1),(q,1)] (Ns c p q) (by omega) hm hm (DZ _ _) w1 hb (by simp) (by omega);exact ⟨hS v1,v2⟩
theorem bG (c:Cse) (a b:Int):Ak Tryz.prog 33 [.agg (dCse c),.int .i64 a,.int .i64 b] (bif Bt c&&CR c a&&CR c b then LR (X7 c a b) else .tup [.agg (dTyc zT),.int .i64 2]):=by
 have hW:=DY c;have hF:=Fs (AE c (Ba (Dd c.datas))) c.type;have hT:=λrow=>Qv c row;have hT:∀row,Ak Tryz.prog 57 [.agg (dCse c),.int .i64 row] (.bool (CR c row)):=λrow=>hT row;cases hb:Bt c with
 | false =>
  rw [hb] at hW;obtain ⟨ds,⟨c1,c2,c3,c4⟩,rows⟩:=c;refine Af Al Tryz.func33 (by decide +kernel) rfl [1,2,3,4] rfl rfl ?_;refine Ao rfl ?_;refine Ah rfl hW ?_;refine Ao rfl ?_;refine Ad (v:=.bool true) rfl (λh=>by simp [An] at h) (by simp [An]) ?_;refine Ao rfl ?_;refine Ad (v:=.bool true) rfl (λh=>by simp [An] at h) (by simp [An]) ?_;refine Ao rfl ?_;refine Ai rfl λh=>?_;refine Aq rfl ?_;exact Aa rfl rfl rfl
 | true =>
 rw [hb] at hW;have ha:=hT a;have hbb:=hT b;cases hta:CR c a with
 | false =>
  rw [hta] at ha;obtain ⟨ds,⟨c1,c2,c3,c4⟩,rows⟩:=c;refine Af Al Tryz.func33 (by decide +kernel) rfl [1,2,3,4] rfl rfl ?_;refine Ao rfl ?_;refine Ah rfl hW ?_;refine Ao rfl ?_;refine AN rfl ha ?_;refine Ao rfl ?_;refine Ad (v:=.bool true) rfl (λh=>by simp [An] at h) (by simp [An]) ?_;refine Ao rfl ?_;refine Ai rfl λh=>?_;refine Aq rfl ?_;exact Aa rfl rfl rfl
 | true =>
 rw [hta] at ha;cases htb:CR c b with
 | false =>
  rw [htb] at hbb;obtain ⟨ds,⟨c1,c2,c3,c4⟩,rows⟩:=c;refine Af Al Tryz.func33 (by decide +kernel) rfl [1,2,3,4] rfl rfl ?_;refine Ao rfl ?_;refine Ah rfl hW ?_;refine Ao rfl ?_;refine AN rfl ha ?_;refine Ao rfl ?_;refine AN rfl hbb ?_;refine Ao rfl ?_;refine Ai rfl λh=>?_;refine Aq rfl ?_;exact Aa rfl rfl rfl
 | true =>
  rw [htb] at hbb;obtain ⟨r1,r2⟩:=LA hta;obtain ⟨s1,s2⟩:=LA htb;obtain ⟨p,hp⟩:=Ap (l:=c.rows) (i:=a.toNat) (by omega);obtain ⟨q,hq⟩:=Ap (l:=c.rows) (i:=b.toNat) (by omega);have er:X7 c a b=Ns c p q:=by simp only [X7,hp,hq]
  rw [er];obtain ⟨hL1,hL2⟩:=oH c hb p q (List.mem_of_getElem? hp) (List.mem_of_getElem? hq);have hFd:=R5 (Ns c p q) λv hv=>(hL2 v hv).2.2;clear hL2 er;simp only [Bool.and_self,cond_true];obtain ⟨a1,a2,a3,a4,b0,hfe⟩:=Pf (Ns c p q);rw [hfe] at hFd ⊢;generalize Ns c p q=R at *;obtain ⟨ds,⟨c1,c2,c3,c4⟩,rows⟩:=c;simp only at hp hq;obtain ⟨p1,p2,p3,p4⟩:=p;obtain ⟨q1,q2,q3,q4⟩:=q;refine Af Al Tryz.func33 (by decide +kernel) rfl [1,2,3,4] rfl rfl ?_;refine Ao rfl ?_;refine Ah rfl hW ?_;refine Ao rfl ?_;refine AN rfl ha ?_;refine Ao rfl ?_;refine AN rfl hbb ?_;refine Ao rfl ?_;refine Az rfl λh=>?_;refine Aq rfl ?_
  refine B6 [] [(2,3)] [] (fr:=[3]) (nm:=[3]) rfl trivial (by simp) hF trivial rfl trivial rfl rfl rfl ?_;refine Ao rfl ?_;refine mi rfl (c:=dTyc (.mk p1 p2 p3 p4)) (λ_=>⟨r1,by simpa using A5 hp,by simp⟩) (by simp) ?_;refine Ao rfl ?_;refine mi rfl (c:=dTyc (.mk q1 q2 q3 q4)) (λ_=>⟨s1,by simpa using A5 hq,by simp⟩) (by simp) ?_;refine Ao rfl ?_;refine B6 [(3,1)] [] [] (fr:=[]) (nm:=[3]) rfl trivial (by simp) hL1 ⟨⟨rfl,rfl,rfl⟩,trivial⟩ rfl trivial rfl rfl rfl ?_;refine Ao rfl ?_;refine Ah rfl hFd ?_;refine mg [] rfl (by simp;rfl) ?_;exact Aa rfl rfl rfl
theorem Se (c:Cse):Ak Tryz.prog 20 [.agg (dCse c)] (bif Bt c then .tup [.sl (Ba (CQ c c.rows.length)),.int .i64 0] else .tup [.sl [],.int .i64 2]):=by
 have hW:=DY c;have hF:=Fs (AE c (Ba (Dd c.datas))) c.type;cases hb:Bt c with
 | false =>
  rw [hb] at hW;obtain ⟨ds,⟨c1,c2,c3,c4⟩,rows⟩:=c;refine Af Al Tryz.func20 (by decide +kernel) rfl [1,2,3,4] rfl rfl ?_;refine Ao rfl ?_;refine Ah rfl hW ?_;refine Ao rfl ?_;refine Ai rfl λh=>?_;refine Aq rfl ?_;exact Aa rfl rfl rfl
 | true =>
  rw [hb] at hW;have hl:=(RowsOk.of hb).len;have hU:=λrow h1 h2=>Mp c (Ba (Dd c.datas)) (RowsOk.of hb).len row h1 h2;have hL:=λrow=>(NW c hb 0 (by omega) _ _ (MOk.of hb) (MOk.of hb) (DZ _ _) row).1;have hst:∀i,CQ c (i+1)=CQ c i++(if (F3 c (As c.type) i).isSome then [] else [(i:Int)]):=λi=>rfl;have hul:=JL c;have h0:CQ c 0=[]:=rfl;simp only [cond_true];generalize CQ c=U at *;generalize F3 c (As c.type)=L at *;obtain ⟨ds,⟨c1,c2,c3,c4⟩,rows⟩:=c;simp only at hl hst hU ⊢;refine Af Al Tryz.func20 (by decide +kernel) rfl [1,2,3,4,5,6] rfl rfl ?_;refine Ao rfl ?_;refine Ah rfl hW ?_;refine Ao rfl ?_;refine Az rfl λh=>?_;refine Aq rfl ?_;refine D4 (e:=3) (sz:=1) 6 2 (by decide) rfl ?_
  have er:∀a b,Ba (a++b)=Ba a++Ba b:=λa b=>by simp [Ba]
  refine Am (λi:Nat=>[(19,.imm (.int .i64 i)),(18,.imm (.int .i64 rows.length)),(6,.own 2 (Ba (U i)).length),(4,.imm (AE ⟨ds,.mk c1 c2 c3 c4,rows⟩ (Ba (Dd ds)))),(1,.ref 1 0)]) (λi=>[(1,some (.immb 29 6 (dCse ⟨ds,.mk c1 c2 c3 c4,rows⟩))),(2,some (.row 3 1 (Ba (U i))))]) [3,4,5,6] (λi=>rows.length-i)
   (λi=>i<=rows.length) 0 (Nat.zero_le _) ⟨rfl,A3 (by simp),by rw [h0];rfl,rfl,rfl,trivial⟩ ⟨rfl,by rw [h0];rfl,trivial⟩ rfl λi hi ih=>?_
  refine Aq rfl ?_;refine Ab rfl (λh=>?_) (λh=>?_)
  ·simp at h;have hUi:=hU i (by omega) (by omega);have hLi:=hL i;have hih:=ih (i+1) (by omega) (by omega);rw [hst,er] at hih;have hll:(Ba (U i)).length<=5:=by have:=hul i;simp;omega
   generalize Ba (U i)=l at *;refine Aq rfl ?_;refine A9 (fr:=[3]) [] [(2,3)] rfl (by simp) hF trivial rfl rfl rfl rfl ?_;refine Ao rfl ?_;refine Ah rfl hUi ?_;refine Ao rfl ?_;refine A9 (fr:=[]) [(3,1)] [] rfl (by simp) hLi ⟨⟨rfl,rfl,rfl⟩,trivial⟩ rfl rfl rfl rfl ?_;cases hLv:L i with
   | none =>
    rw [hLv] at hih;simp only [Option.isSome_none,Bool.false_eq_true,if_false] at hih;refine Ao rfl ?_;refine Ai rfl λh=>?_;refine Aq rfl ?_;refine Cm Al rfl ⟨by simp,by simp [maxLen] at hll ⊢;omega,by simp at hll ⊢;omega,trivial⟩ ?_;refine Ao rfl ?_;refine AG 2 4 rfl ?_;exact Ae hih ⟨A3 (BI (by omega) (by omega)),rfl,by simp only [List.length_append];rfl,rfl,rfl,trivial⟩ ⟨rfl,rfl,trivial⟩ rfl
   | some v =>
    rw [hLv] at hih;simp only [Option.isSome_some,if_true,show Ba []=[] from rfl,List.append_nil] at hih;obtain ⟨v1,v2,v3,v4⟩:=v;refine Ao rfl ?_;refine Az rfl λh=>?_;refine Aq rfl ?_;exact Ae hih ⟨A3 (BI (by omega) (by omega)),rfl,rfl,rfl,rfl,trivial⟩ ⟨rfl,rfl,trivial⟩ rfl
  ·simp at h;refine Ay rfl ?_;refine Cu 2 rfl ?_;refine Aq rfl ?_;rw [show i=rows.length by omega];exact Aa rfl rfl rfl
theorem grtW.of {c:Cse} (h:Bt c=true):grtW c.datas:=by
 simp only [Bt,JC,Bool.and_eq_true] at h;obtain ⟨h1,_⟩:=JV h.1.1.1.1;intro d hd k hk;simp only [HQ,Bool.and_eq_true,List.all_eq_true] at h1;have hd:=h1.1.2 d hd;simp only [Fw,Bool.and_eq_true,List.all_eq_true] at hd;have hk:=hd.2 k hk;simp only [K1,Bool.and_eq_true] at hk;exact hk.1.1
theorem nB {ds:List Dt} {t v:Ty} (h:HN ds t v) (h1:Aj v<=20000) (h2:Fv v<=100):L4 v=true:=by
 simp only [L4,h.2,Bool.and_true,decide_eq_true_eq];exact (L1 v 20000 100).1.2 ⟨by omega,by omega⟩
theorem mL {c:Cse} {v:Ty} (h1:L4 v=true) (h2:IT c.datas c.type v=true):HN c.datas c.type v:=by
 simp only [L4,Bool.and_eq_true] at h1;exact ⟨h2,h1.2⟩
mutual
theorem LK:∀v:Ty,Dh v=true->DH v=true
 | .mk s n x ps,h=>by
  simp only [Dh,Bool.and_eq_true] at h;obtain ⟨h1,h2⟩:=h;simp only [DH,OM ps h1,Bool.and_true,decide_eq_true_eq];simp only [GC] at h2
  split at h2
  ·simp only [Bool.and_eq_true,F4,decide_eq_true_eq] at h2;omega
  ·split at h2
   ·simp only [Bool.and_eq_true,F4,decide_eq_true_eq] at h2;omega
   ·split at h2
    ·simp only [Bool.and_eq_true,beq_iff_eq] at h2;omega
    ·split at h2
     ·simp only [Bool.and_eq_true,beq_iff_eq] at h2;omega
     ·cases h2
theorem OM:∀l:List Ty,CI l=true->FQ l=true
 | [],_=>rfl
 | t::r,h=>by
  simp only [CI,Bool.and_eq_true] at h;simp only [FQ,LK t h.1,OM r h.2,Bool.and_self]
end
def aF (c:Cse) (S:Ty->Prop) (r:Option Ty):Prop:=IF c.datas (λv=>HN c.datas c.type v/\S v) r/\∀v,r=some v->L4 v=true/\IT c.datas c.type v=true
theorem UA {c:Cse} (h:Bt c=true) {l:List (Ty×Int)} (hr:Jh c.datas c.type l) (hb:∀y∈l,y.2=0\/y.2=1) (hc:FB l<60) (hn:HB (l.map (·.1))<=30):aF c (Lj l) (GJ c.datas (As c.type) l):=by
 have ho:=OkW.of h;have hm:=MOk.of h;have hnt:=QW c.datas c.type;obtain ⟨v1,v2⟩:=LC ho (by omega) hm hr hc;have hmin:=XZ ho (grtW.of h) (CP h).2.2.1 60 0 _ l _ (by omega) hm hnt hr hb v1;refine ⟨FP (λv=>by rw [Kl]) hmin,λv hv=>?_⟩;rw [hv] at v1 hmin;obtain ⟨b1,b2⟩:=UB ho 60 0 _ l v (l.map (·.1)) (by omega) hm (Un _ _) (λx hx=>List.mem_map_of_mem hx) hr v1;have hok:=Kl.1 hmin.1.1;exact ⟨nB hok (by omega) (by omega),hok.1⟩
theorem Wo (a b:List Ty):HB (a++b)=HB a+HB b:=by
 induction a with
 | nil=>simp [HB]
 | cons p r ih=>simp only [List.cons_append,HB,ih];omega
theorem US (b:Int) (l:List Ty):(l.map (·,b)).map (·.1)=l:=by
 induction l with
 | nil=>rfl
 | cons x r ih=>simp only [List.map_cons,ih]
theorem fG (rows:List Ty) (row:Int):(EL rows row).map (·.1)=rows\/∃k:Nat,(EL rows row).map (·.1)=rows.take k:=by
 unfold EL
 split
 ·left;exact US 0 rows
 ·right;cases hp:rows[row.toNat]? with
  | none=>exact ⟨row.toNat,by simp only [List.append_nil,US]⟩
  | some p=>exact ⟨row.toNat+1,by simp only [List.map_append,US,List.map_cons,List.map_nil,Bn hp]⟩
theorem TL {c:Cse} (h:Bt c=true) (row:Int):aF c (Lj (EL c.rows row)) (F3 c (As c.type) row):=by
 have hr:=RowsOk.of h;obtain ⟨w1,w2⟩:=Zw hr row;refine UA h w1 (fH _ _) w2 ?_;have hs:=hr.sum;have hall:=Yv c.rows;rcases fG c.rows row with e | ⟨k,e⟩
 ·rw [e];omega
 ·rw [e];have:=Wo (c.rows.take k) (c.rows.drop k);rw [List.take_append_drop] at this;omega
theorem KP (v:Ty):∀(rows:List Ty) (i:Nat),B5 v i rows = -1↔∀p∈rows,(AY p v).2=false
 | [],i=>by simp [B5]
 | p::r,i=>by
  simp only [B5,List.mem_cons,forall_eq_or_imp];cases hm:(AY p v).2 with
  | true=>simp
  | false=>simp only [cond_false,true_and];exact KP v r (i+1)
theorem R8 (v:Ty):∀(rows:List Ty) (i:Nat),B5 v i rows = -1\/(i:Int)<=B5 v i rows
 | [],i=>.inl rfl
 | p::r,i=>by
  simp only [B5];cases (AY p v).2 with
  | true=>right;simp
  | false =>
   simp only [cond_false];rcases R8 v r (i+1) with h | h
   ·exact .inl h
   ·right;omega
theorem MW (v:Ty):∀(rows:List Ty) (i k:Nat) (p:Ty),rows[k]?=some p->(B5 v i rows=((i+k:Nat):Int)↔(∀q∈rows.take k,(AY q v).2=false)/\(AY p v).2=true)
 | [],i,k,p,h=>by simp at h
 | x::r,i,0,p,h=>by
  simp at h;subst h;have hg:=R8 v r (i+1);simp only [B5,List.take_zero,List.not_mem_nil,false_implies,implies_true,true_and];cases hm:(AY x v).2 with
  | true=>simp
  | false =>
   simp only [cond_false,Bool.false_eq_true,iff_false];intro e;rcases hg with h | h <;> omega
 | x::r,i,k+1,p,h=>by
  have ih:=MW v r (i+1) k p (by simpa using h);simp only [B5,List.take_succ_cons,List.mem_cons,forall_eq_or_imp];cases hm:(AY x v).2 with
  | true =>
   simp only [cond_true,Bool.true_eq_false,false_and,iff_false];omega
  | false =>
   simp only [cond_false,true_and];rw [<- ih];rw [show i+(k+1)=i+1+k by omega]
theorem YY (v:Ty) (rows:List Ty) (row:Int) (h1 : -1<=row) (h2:row<rows.length):Lj (EL rows row) v↔B5 v 0 rows=row:=by
 have hmap:∀l:List Ty,Lj (l.map (·,(0:Int))) v↔∀p∈l,(AY p v).2=false:=λl=>by
  simp only [Lj,List.mem_map,forall_exists_index,and_imp,forall_apply_eq_imp_iff₂];constructor
  ·intro h p hp;have:=h p hp;cases e:(AY p v).2 with
   | false=>rfl
   | true=>have:=this.1 e;omega
  ·intro h p hp;rw [h p hp];simp
 by_cases h0:row<0
 ·rw [SJ rows h0,hmap,show row = -1 by omega,KP]
 ·obtain ⟨k,rfl⟩:∃k:Nat,row=k:=⟨row.toNat,by omega⟩
  obtain ⟨p,hp⟩:=Ap (l:=rows) (i:=k) (by omega);rw [Qi rows k hp];have:=MW v rows 0 k p hp;rw [Nat.zero_add] at this;rw [this,<- hmap];constructor
  ·intro h;exact ⟨λx hx=>h x (List.mem_append_left _ hx),(h (p,1) (by simp)).2 rfl⟩
  ·rintro ⟨a,b⟩ x hx;rcases List.mem_append.1 hx with hx | hx
   ·exact a x hx
   ·rw [List.mem_singleton.1 hx];simp [b]
end Go.Hk
namespace Go.Hk
section
variable {P:Program} {n:Nat} {F:List Nat} {Q:DQ} {tt:TT} {env env':Env} {st st':St} {ids ids':List Nat} {k todo todo':List DI} {I:Imm} {μ:Mu} {w w':World} {a:Act}
theorem Ih:∀{ds:List D} {xs:List V},FG ds=some xs->ds.length=xs.length
 | [],xs,h=>by cases h;rfl
 | d::r,xs,h=>by
  unfold FG at h
  split at h
  ·rename_i e;cases e
  ·rename_i x r' e;cases e
   split at h
   ·rename_i ys hy;cases h;simp [Ih hy]
   ·cases h
  ·rename_i r' e;cases e
   split at h
   ·rename_i ys hy;cases h;simp [Ih hy]
   ·cases h
  ·cases h
theorem lA (k:Nat) {t:TypeId} {sz:Nat} {ds:List D} (xs:List V) (hk:lk st k=some (some (.cells t sz ds))) (hcl:FG ds=some xs) (h:DGo P n F Q todo env ((k,some (.immb t sz xs))::st) ids):DGo P n F Q todo env st ids:=by
 refine DS λI μ a w hc=>?_;obtain ⟨p1,p2⟩:=hc.toStRep.retell (st1:=(k,some (.immb t sz xs))::st) (λi bb hlb=>by
  rcases A7.1 hlb with ⟨rfl,rfl⟩ | ⟨_,h2⟩
  ·refine ⟨_,hk,λgb hb=>?_⟩;obtain ⟨hs,b,us,e1,e2,e3,e4⟩:=hb;exact ⟨by rw [<- Ih hcl,hs],b,us,e1,e2,FF hcl e3,e4⟩
  ·exact ⟨bb,h2,λ_ h=>h⟩)
 exact ⟨I,μ,env,_,ids,p1,hc.env,p2,.refl _ _,h⟩
end
end Go.Hk
namespace Go.Hk
open Go.Proofs
def MK (row:Int):List V:=[.int .i64 row,.sl [],.sl [],.sl []]
@[simp] theorem leafV_length (row:Int):(MK row).length=4:=rfl
theorem YU (row:Int):Ak Tryz.prog 112 [.agg (MK row),.int .i64 400,.int .i64 100] (.int .i64 399):=by
 refine Af Al Tryz.func112 (by decide +kernel) rfl [1,2,3] rfl rfl ?_;refine Ao rfl ?_;refine Az rfl λh=>?_;refine Aq rfl ?_;refine Am (λ_:Unit=>[(20,.imm (.int .i64 0)),(19,.imm (.int .i64 0)),(1,.imm (.int .i64 399))]) (λ_=>[]) [2,3] (λ_=>0) (λ_=>True) () trivial ⟨rfl,rfl,A3 rfl,trivial⟩ trivial rfl λ_ _ _=>?_;refine Aq rfl ?_;refine Az rfl λh=>?_;refine Ay rfl ?_;refine Aq rfl ?_;exact Aa rfl rfl rfl
theorem LF (c:Cse) (sz:List (List V)) (row:Int) (m:Mi):Bg Tryz.prog 113 [.imm (AE c sz),.imm (.agg (MK row)),.hv 1 0] [(1,some (.hp (DJ m)))] (.ret (.imm (.bool (decide (-1<=row)&&decide (row<c.rows.length)))) []):=by
 obtain ⟨ds,⟨c1,c2,c3,c4⟩,rows⟩:=c;refine Af Al Tryz.func113 (by decide +kernel) rfl [2,3,4,5] rfl rfl ?_;refine Aq rfl ?_;refine Ab rfl (λh=>?_) (λh=>by exfalso;simp at h;exact h (by decide));refine md [] rfl (by simp;rfl) ?_;refine Aa rfl rfl (congrArg _ ?_);simp
theorem UL (c:Cse) (hb:Bt c=true) (row:Int) (h1 : -1<=row) (h2:row<c.rows.length):Ak Tryz.prog 60 [.agg (dCse c),.agg (MK row)] (.tup [AE c (Ba (Dd c.datas)),.int .i64 0]):=by
 have hW:=DY c;rw [hb] at hW;have hF:=Fs (AE c (Ba (Dd c.datas))) c.type;have hH:=YU row;have hR:=LF c (Ba (Dd c.datas)) row (As c.type);rw [show (decide (-1<=row)&&decide (row<c.rows.length))=true by simp [h1,h2]] at hR;obtain ⟨ds,⟨c1,c2,c3,c4⟩,rows⟩:=c;refine Af Al Tryz.func60 (by decide +kernel) rfl [1,2,3,4] rfl rfl ?_;refine Ao rfl ?_;refine Ah rfl hW ?_;refine Ao rfl ?_;refine AN rfl hH ?_;refine Ao rfl ?_;refine B6 [] [(2,3)] [] (fr:=[3]) (nm:=[3]) rfl rfl (by simp [An]) hF trivial rfl trivial rfl rfl rfl ?_;refine Ao rfl ?_;refine B6 [(3,1)] [] [] (fr:=[]) (nm:=[3]) rfl rfl (by simp [An]) hR ⟨⟨rfl,rfl,rfl⟩,trivial⟩ rfl trivial rfl rfl rfl ?_;refine mg [] rfl (by simp;rfl) ?_
 refine Az rfl λh=>?_;refine Aq rfl ?_;exact Aa rfl rfl rfl
def Ev (c:Cse) (row:Int):Nat->Option Ty
 | 0=>none
 | k+1=>if (k:Int)-1=row then Ev c row k else HI c.datas (Ev c row k) (F3 c (As c.type) ((k:Int)-1))
theorem Mt {c:Cse} (h:Bt c=true) (row:Int):∀k v,Ev c row k=some v->O2 c.datas c.type v
 | 0,v,hv=>by cases hv
 | k+1,v,hv=>by
  simp only [Ev] at hv
  split at hv
  ·exact Mt h row k v hv
  ·rcases U8 (ds:=c.datas) (Ev c row k) (F3 c (As c.type) ((k:Int)-1)) with e | e
   ·exact Mt h row k v (by rw [<- e];exact hv)
   ·exact (NW c h 0 (by omega) _ _ (MOk.of h) (MOk.of h) (DZ _ _) _).2 v (by rw [<- e];exact hv)
theorem XA (c:Cse) (hb:Bt c=true) (row:Int):Bg Tryz.prog 79 [.imm (AE c (Ba (Dd c.datas))),.imm (.agg (MK row)),.hv 1 0] [(1,some (.hp (DJ (As c.type))))] (.ret (.imm (.agg (GB (Ev c row (c.rows.length+1))))) []):=by
 have hl:=(RowsOk.of hb).len;have hU:=λrow h1 h2=>Mp c (Ba (Dd c.datas)) (RowsOk.of hb).len row h1 h2;have hL:=λrow=>(NW c hb 0 (by omega) _ _ (MOk.of hb) (MOk.of hb) (DZ _ _) row).1;have hLv:=λrow=>(NW c hb 0 (by omega) _ _ (MOk.of hb) (MOk.of hb) (DZ _ _) row).2;have hcp:=λx=>Ni c.datas 0 (by omega) (As c.type) x (MOk.of hb).wf;have hsv:=Mt hb row;have hso:=λa b ha hbb=>Tb c (Ba (Dd c.datas)) (OkW.of hb) (CP hb).2.2.1 a b ha hbb;have hok:∀v,O2 c.datas c.type v->ZN c v:=λv h=>QN rfl h;have hst:∀k,Ev c row (k+1)=if (k:Int)-1=row then Ev c row k else HI c.datas (Ev c row k) (F3 c (As c.type) ((k:Int)-1)):=λk=>rfl
 have h0:Ev c row 0=none:=rfl;generalize Ev c row=S at *;generalize As c.type=fr at *;generalize F3 c fr=L at *;obtain ⟨ds,⟨c1,c2,c3,c4⟩,rows⟩:=c;simp only at hl hU hst hsv hLv hso ⊢;refine Af Al Tryz.func79 (by decide +kernel) rfl [2,3,4,5,6,7,8,9,10] rfl rfl ?_;refine E3 1 2 (λob:Nat=>[ptr ob]) (λob=>AR fr ob) rfl (λvs I w bs h=>let ⟨ob,F,e1,e2,e3⟩:=h;⟨ob,e1,F,e2,e3⟩) λob=>?_;refine Aq rfl ?_;refine Ab rfl (λh=>?_) (λh=>by exfalso;simp at h);refine Aq rfl ?_;refine lA 5 [.int .i64 0,.int .i64 0,.str [],.sl [],.bool false] rfl rfl ?_
 refine Am (λk:Nat=>[(8,.imm (.int .i64 ((k:Int)-1))),(7,.ref 5 0),(6,.ref 4 0),(4,.ref 3 0),(2,.raw (ptr ob)),(0,.imm (AE ⟨ds,.mk c1 c2 c3 c4,rows⟩ (Ba (Dd ds))))])
  (λk=>[(5,some (.immb 126 5 (GB (S k)))),(3,some (.immb 36 4 (MK row))),(4,some (.cells 126 5 [.imm (.int .i64 0),.imm (.int .i64 0),.imm (.str []),.nils,.imm (.bool false)])),(2,some (.hp (AR fr ob)))]) [6,7,8,9,10] (λk=>rows.length+1-k)
  (λk=>k<=rows.length+1) 0 (Nat.zero_le _) ⟨A3 (by simp),rfl,rfl,rfl,rfl,rfl,trivial⟩ ⟨by rw [h0];rfl,rfl,rfl,rfl,trivial⟩ rfl λk hk ih=>?_
 refine Aq rfl ?_;refine Ab rfl (λh=>?_) (λh=>?_)
 ·have hlt:(k:Int)-1<rows.length:=by simpa using h
  have hih:=ih (k+1) (by omega) (by omega);have hrf:=Hj (S k);refine Aq rfl ?_;by_cases e:(k:Int)-1=row
  ·refine Ab rfl (λh=>by exfalso;simp [e] at h) (λh=>?_);refine Aq rfl ?_;rw [hst k,if_pos e] at hih;exact Ae hih ⟨A3 (by rw [BI (by omega) (by omega)];omega),rfl,rfl,rfl,rfl,rfl,trivial⟩ ⟨rfl,rfl,rfl,rfl,trivial⟩ rfl
  ·refine Ab rfl (λh=>?_) (λh=>by exfalso;simp at h;exact e h);have hUi:=hU ((k:Int)-1) (by omega) hlt;have hLi:=hL ((k:Int)-1);have hsoi:=hso (S k) (L ((k:Int)-1)) (λv hv=>hok v (hsv k v hv)) (λv hv=>hok v (hLv _ v hv));rw [hst k,if_neg e] at hih;generalize L ((k:Int)-1)=Lk at *;generalize S k=Sk at *;generalize HI ds Sk Lk=R at *;refine Aq rfl ?_;refine B6 [(2,1)] [(3,6),(2,7)] [] (fr:=[6,7]) (nm:=[6,7,2]) rfl trivial (by simp) (hcp ob) ⟨⟨rfl,rfl,rfl⟩,trivial⟩ rfl trivial rfl rfl rfl ?_;refine Ao rfl ?_;refine Ah rfl hUi ?_;refine Ao rfl ?_;refine B6 [(7,1)] [] [] (fr:=[]) (nm:=[7]) rfl trivial (by simp) hLi ⟨⟨rfl,rfl,rfl⟩,trivial⟩ rfl trivial rfl rfl rfl ?_;refine Ao rfl ?_
   refine Ah rfl hsoi ?_;refine mg [] rfl (by simp;rfl) ?_;refine AG 6 2 rfl ?_;exact Ae hih ⟨A3 (by rw [BI (by omega) (by omega)];omega),rfl,rfl,rfl,rfl,rfl,trivial⟩ ⟨rfl,rfl,rfl,rfl,trivial⟩ rfl
 ·have hlt:¬(k:Int)-1<rows.length:=by simpa using h
  have hrf:=Hj (S k);refine Ay rfl ?_;rw [show rows.length+1=k by omega];refine Aq rfl ?_;exact Aa rfl rfl rfl
theorem Pz (c:Cse) (hb:Bt c=true) (row:Int) (h1 : -1<=row) (h2:row<c.rows.length):Ak Tryz.prog 34 [.agg (dCse c),.agg (MK row)] (.tup [.agg (dTyc ((Ev c row (c.rows.length+1)).getD zT)),.int .i64 (if (Ev c row (c.rows.length+1)).isSome then 7 else 0)]):=by
 have hP:=UL c hb row h1 h2;have hF:=Fs (AE c (Ba (Dd c.datas))) c.type;have hA:=XA c hb row;have hv:=Mt hb row (c.rows.length+1);generalize Ev c row (c.rows.length+1)=R at *;cases R with
 | none =>
  obtain ⟨ds,⟨c1,c2,c3,c4⟩,rows⟩:=c;refine Af Al Tryz.func34 (by decide +kernel) rfl [1,2,3,4,5,6] rfl rfl ?_;refine Ao rfl ?_;refine Ah rfl hP ?_;refine Ao rfl ?_;refine Az rfl λh=>?_;refine Aq rfl ?_;refine B6 [] [(2,4)] [] (fr:=[4]) (nm:=[4]) rfl trivial (by simp) hF trivial rfl trivial rfl rfl rfl ?_;refine Ao rfl ?_;refine B6 [(4,1)] [] [] (fr:=[]) (nm:=[4]) rfl trivial (by simp) hA ⟨⟨rfl,rfl,rfl⟩,trivial⟩ rfl trivial rfl rfl rfl ?_;refine mg [] rfl (by simp;rfl) ?_;refine Ai rfl λh=>?_;refine Aq rfl ?_;exact Aa rfl rfl rfl
 | some v =>
  have hc:=JB v (hv v rfl).2.2;obtain ⟨v1,v2,v3,v4⟩:=v;obtain ⟨ds,⟨c1,c2,c3,c4⟩,rows⟩:=c;refine Af Al Tryz.func34 (by decide +kernel) rfl [1,2,3,4,5,6] rfl rfl ?_;refine Ao rfl ?_;refine Ah rfl hP ?_;refine Ao rfl ?_;refine Az rfl λh=>?_;refine Aq rfl ?_;refine B6 [] [(2,4)] [] (fr:=[4]) (nm:=[4]) rfl trivial (by simp) hF trivial rfl trivial rfl rfl rfl ?_;refine Ao rfl ?_;refine B6 [(4,1)] [] [] (fr:=[]) (nm:=[4]) rfl trivial (by simp) hA ⟨⟨rfl,rfl,rfl⟩,trivial⟩ rfl trivial rfl rfl rfl ?_;refine mg [] rfl (by simp;rfl) ?_;refine Az rfl λh=>?_;refine Aq rfl ?_;refine Ah rfl hc ?_;refine Ao rfl ?_;exact Aa rfl rfl rfl
def M0:Str:=[84,114,101,101]
def CF:Str:=[76,101,97,102]
def JQ:Str:=[78,111,100,101]
def Il:Str:=[84,119,111]
def Mz:Str:=[86,111,105,100]
def qA:Str:=[79,112,116]
def Z4:Str:=[78,111,110,101]
def oW:Str:=[83,111,109,101]
def PC (s:Str):Ty:=.mk 8 0 s []
def SB (s:Str) (l:List Ty):Ty:=.mk 6 0 s l
def E1 (s:Str) (l:List Ty):Ty:=.mk 4 0 s l
def N0:Ty:=.mk 1 0 [] []
def cU (s:Str):Ty:=.mk 2 0 s []
def jU (n:Int):Ty:=.mk 3 n [] []
def Ii (n:Int):Ty:=.mk 4 n [] []
def dU (n:Int):Ty:=.mk 1 n [] []
def G9 (n:Int):Ty:=.mk 2 n [] []
def lJ:Ty:=.mk 2 0 [] []
def cA:Cse:=⟨[⟨M0,[⟨CF,[]⟩,⟨JQ,[PC M0,.mk 1 0 [] [],PC M0]⟩]⟩],PC M0,[SB JQ [SB CF [],jU 0,cU [120]],SB JQ [cU [121],jU 1,N0],SB CF []]⟩
def cB:Cse:=⟨[⟨Il,[⟨Il,[lJ,lJ]⟩]⟩],PC Il,[SB Il [Ii 1,N0],SB Il [N0,Ii 1],SB Il [Ii 0,Ii 0],cU [122]]⟩
def cC:Cse:=⟨[⟨Mz,[⟨Mz,[PC Mz]⟩]⟩,⟨qA,[⟨Z4,[]⟩,⟨oW,[PC Mz]⟩]⟩],PC qA,[SB Z4 []]⟩
def cD (l:List Ty):Cse:=⟨[],lJ,l⟩
theorem Of (s:Str) (l:List Ty):Ak Tryz.prog 73 [.str s,.sl (BQ l)] (.agg (DN ⟨s,l⟩)):=by
 refine Af Al Tryz.func73 (by decide +kernel) rfl [1,2,3] rfl rfl ?_;refine Ao rfl ?_;exact Aa rfl rfl rfl
theorem H1 (s:Str):Ak Tryz.prog 74 [.str s] (.agg (dTyc (PC s))):=by
 refine Af Al Tryz.func74 (by decide +kernel) rfl [1,2,3] rfl rfl ?_;refine Ao rfl ?_;exact Aa rfl rfl rfl
theorem Ic (s:Str) (l:List Ty):Ak Tryz.prog 75 [.str s,.sl (BQ l)] (.agg (dTyc (SB s l))):=by
 refine Af Al Tryz.func75 (by decide +kernel) rfl [1,2,3] rfl rfl ?_;refine Ao rfl ?_;exact Aa rfl rfl rfl
theorem Ge (s:Str) (l:List Ty):Ak Tryz.prog 28 [.str s,.sl (BQ l)] (.agg (dTyc (E1 s l))):=by
 refine Af Al Tryz.func28 (by decide +kernel) rfl [1,2,3] rfl rfl ?_;refine Ao rfl ?_;exact Aa rfl rfl rfl
theorem PI:Ak Tryz.prog 37 [] (.agg (dTyc N0)):=by
 refine Af Al Tryz.func37 (by decide +kernel) rfl [1,2,3] rfl rfl ?_;refine Ao rfl ?_;exact Aa rfl rfl rfl
theorem Ra (s:Str):Ak Tryz.prog 77 [.str s] (.agg (dTyc (cU s))):=by
 refine Af Al Tryz.func77 (by decide +kernel) rfl [1,2,3] rfl rfl ?_;refine Ao rfl ?_;exact Aa rfl rfl rfl
theorem T0 (n:Int):Ak Tryz.prog 76 [.int .i64 n] (.agg (dTyc (jU n))):=by
 refine Af Al Tryz.func76 (by decide +kernel) rfl [1,2,3] rfl rfl ?_;refine Ao rfl ?_;exact Aa rfl rfl rfl
theorem Iy (n:Int):Ak Tryz.prog 36 [.int .i64 n] (.agg (dTyc (Ii n))):=by
 refine Af Al Tryz.func36 (by decide +kernel) rfl [1,2,3] rfl rfl ?_;refine Ao rfl ?_;exact Aa rfl rfl rfl
theorem SK (n:Int):Ak Tryz.prog 29 [.int .i64 n] (.agg (dTyc (dU n))):=by
 refine Af Al Tryz.func29 (by decide +kernel) rfl [1,2,3] rfl rfl ?_;refine Ao rfl ?_;exact Aa rfl rfl rfl
theorem RX (n:Int):Ak Tryz.prog 39 [.int .i64 n] (.agg (dTyc (G9 n))):=by
 refine Af Al Tryz.func39 (by decide +kernel) rfl [1,2,3] rfl rfl ?_;refine Ao rfl ?_;exact Aa rfl rfl rfl
theorem sO (l:List Ty):Ak Tryz.prog 35 [.sl (BQ l)] (.agg (dCse (cD l))):=by
 refine Af Al Tryz.func35 (by decide +kernel) rfl [1,2,3] rfl rfl ?_;refine Ao rfl ?_;exact Aa rfl rfl rfl
theorem oR:Ak Tryz.prog 27 [] (.agg (dCse cA)):=by
 refine Af Al Tryz.func27 (by decide +kernel) rfl [1,2,3] rfl rfl ?_;refine Ao rfl ?_;refine Ad rfl (λ_=>Of CF []) (by simp) ?_;refine Ao rfl ?_;refine Ad rfl (λ_=>H1 M0) (by simp) ?_;refine Ao rfl ?_;refine Ad rfl (λ_=>H1 M0) (by simp) ?_;refine Ao rfl ?_;refine Ad rfl (λ_=>Of JQ [PC M0,.mk 1 0 [] [],PC M0]) (by simp) ?_;refine Ao rfl ?_;refine Ad rfl (λ_=>Ic CF []) (by simp) ?_;refine Ao rfl ?_;refine Ad rfl (λ_=>T0 0) (by simp) ?_;refine Ao rfl ?_;refine Ad rfl (λ_=>Ra [120]) (by simp) ?_;refine Ao rfl ?_;refine Ad rfl (λ_=>Ic JQ [SB CF [],jU 0,cU [120]]) (by simp) ?_;refine Ao rfl ?_;refine Ad rfl (λ_=>Ra [121]) (by simp) ?_;refine Ao rfl ?_;refine Ad rfl (λ_=>T0 1) (by simp) ?_
 refine Ao rfl ?_;refine Ah rfl PI ?_;refine Ao rfl ?_;refine Ad rfl (λ_=>Ic JQ [cU [121],jU 1,N0]) (by simp) ?_;refine Ao rfl ?_;refine Ad rfl (λ_=>Ic CF []) (by simp) ?_;refine Ao rfl ?_;refine Ad rfl (λ_=>H1 M0) (by simp) ?_;refine mg [] rfl (by simp;rfl) ?_;exact Aa rfl rfl rfl
theorem oQ:Ak Tryz.prog 32 [] (.agg (dCse cB)):=by
 refine Af Al Tryz.func32 (by decide +kernel) rfl [1,2,3,4,5] rfl rfl ?_;refine Ao rfl ?_;refine Ad rfl (λ_=>Iy 1) (by simp) ?_;refine Ao rfl ?_;refine Ah rfl PI ?_;refine Ao rfl ?_;refine Ad rfl (λ_=>Ic Il [Ii 1,N0]) (by simp) ?_;refine Ao rfl ?_;refine Ah rfl PI ?_;refine Ao rfl ?_;refine Ad rfl (λ_=>Iy 1) (by simp) ?_;refine Ao rfl ?_;refine Ad rfl (λ_=>Ic Il [N0,Ii 1]) (by simp) ?_;refine Ao rfl ?_;refine Ad rfl (λ_=>Iy 0) (by simp) ?_;refine Ao rfl ?_;refine Ad rfl (λ_=>Iy 0) (by simp) ?_;refine Ao rfl ?_;refine Ad rfl (λ_=>Ic Il [Ii 0,Ii 0]) (by simp) ?_;refine Ao rfl ?_;refine Ad rfl (λ_=>Ra [122]) (by simp) ?_;refine Ao rfl ?_;refine Ad rfl (λ_=>Of Il [lJ,lJ]) (by simp) ?_
 refine Ao rfl ?_;refine Ad rfl (λ_=>H1 Il) (by simp) ?_;refine Ao rfl ?_;exact Aa rfl rfl rfl
theorem C_ok:Ak Tryz.prog 31 [] (.agg (dCse cC)):=by
 refine Af Al Tryz.func31 (by decide +kernel) rfl [1,2,3,4,5] rfl rfl ?_;refine Ao rfl ?_;refine Ad rfl (λ_=>H1 Mz) (by simp) ?_;refine Ao rfl ?_;refine Ad rfl (λ_=>Of Mz [PC Mz]) (by simp) ?_;refine Ao rfl ?_;refine Ad rfl (λ_=>Of Z4 []) (by simp) ?_;refine Ao rfl ?_;refine Ad rfl (λ_=>H1 Mz) (by simp) ?_;refine Ao rfl ?_;refine Ad rfl (λ_=>Of oW [PC Mz]) (by simp) ?_;refine Ao rfl ?_;refine Ad rfl (λ_=>H1 qA) (by simp) ?_;refine Ao rfl ?_;refine Ad rfl (λ_=>Ic Z4 []) (by simp) ?_;refine mg [] rfl (by simp;rfl) ?_;exact Aa rfl rfl rfl
def vA:Ty:=E1 JQ [E1 CF [],dU 0,E1 CF []]
def wA:Ty:=E1 JQ [E1 CF [],dU (-1),E1 CF []]
set_option maxRecDepth 100000
theorem kcA:Bt cA=true:=by kernel_rfl
theorem sS:Bt cB=true:=by kernel_rfl
theorem kcC:Bt cC=true:=by kernel_rfl
theorem kcD:Bt (cD [Ii 1,Ii 0])=true:=by kernel_rfl
theorem kcW:Bt (cD [N0])=true:=by kernel_rfl
theorem qJ:Ak Tryz.prog 16 [.agg (dCse cA),.int .i64 0,.agg (dTyc vA)] (.tup [.sl [.str [120]::dTyc (E1 CF [])],.int .i64 0]):=by
 have h:=Uw cA 0 vA (by decide);rw [show NR cA 0 vA=([([120],E1 CF [])],0) by kernel_rfl] at h;exact h
theorem qK:Ak Tryz.prog 30 [.agg (dCse cA),.agg (dTyc (E1 CF []))] (.tup [.int .i64 2,.int .i64 0]):=by
 have h:=Uy cA (E1 CF []);rw [show Ey cA (E1 CF [])=true by kernel_rfl,show B5 (E1 CF []) 0 cA.rows=2 by kernel_rfl] at h;exact h
theorem qI:Ak Tryz.prog 18 [.agg (dCse cA)] (.tup [.agg (dTyc wA),.int .i64 0]):=by
 have h:=Mg cA;rw [kcA,show F3 cA (As cA.type) (-1)=some wA by kernel_rfl] at h;exact h
theorem qH:Ak Tryz.prog 18 [.agg (dCse cC)] (.tup [.agg (dTyc zT),.int .i64 5]):=by
 have h:=Mg cC;rw [kcC,show F3 cC (As cC.type) (-1)=none by kernel_rfl] at h;exact h
theorem rT:Ak Tryz.prog 19 [.agg (dCse cB),.int .i64 1] (.tup [.agg (dTyc (E1 Il [G9 0,G9 1])),.int .i64 0]):=by
 have h:=Oq cB 1;rw [sS,show CR cB 1=true by kernel_rfl,show F3 cB (As cB.type) 1=some (E1 Il [G9 0,G9 1]) by kernel_rfl] at h;exact h
theorem rS:Ak Tryz.prog 19 [.agg (dCse cB),.int .i64 3] (.tup [.agg (dTyc zT),.int .i64 5]):=by
 have h:=Oq cB 3;rw [sS,show CR cB 3=true by kernel_rfl,show F3 cB (As cB.type) 3=none by kernel_rfl] at h;exact h
theorem kUse:Ak Tryz.prog 20 [.agg (dCse cB)] (.tup [.sl [[.int .i64 3]],.int .i64 0]):=by
 have h:=Se cB;rw [sS,show CQ cB cB.rows.length=[3] by kernel_rfl] at h;exact h
theorem qL:Ak Tryz.prog 33 [.agg (dCse cB),.int .i64 0,.int .i64 1] (.tup [.agg (dTyc (E1 Il [G9 1,G9 1])),.int .i64 0]):=by
 have h:=bG cB 0 1;rw [sS,show CR cB 0=true by kernel_rfl,show CR cB 1=true by kernel_rfl,show X7 cB 0 1=some (E1 Il [G9 1,G9 1]) by kernel_rfl] at h;exact h
theorem qM:Ak Tryz.prog 33 [.agg (dCse cA),.int .i64 0,.int .i64 1] (.tup [.agg (dTyc zT),.int .i64 5]):=by
 have h:=bG cA 0 1;rw [kcA,show CR cA 0=true by kernel_rfl,show CR cA 1=true by kernel_rfl,show X7 cA 0 1=none by kernel_rfl] at h;exact h
theorem rU:Ak Tryz.prog 34 [.agg (dCse (cD [Ii 1,Ii 0])),.agg (MK 1)] (.tup [.agg (dTyc (G9 1)),.int .i64 7]):=by
 have h:=Pz (cD [Ii 1,Ii 0]) kcD 1 (by decide) (by decide);rw [show Ev (cD [Ii 1,Ii 0]) 1 ((cD [Ii 1,Ii 0]).rows.length+1)=some (G9 1) by kernel_rfl] at h;exact h
theorem rV:Ak Tryz.prog 34 [.agg (dCse (cD [N0])),.agg (MK 0)] (.tup [.agg (dTyc zT),.int .i64 0]):=by
 have h:=Pz (cD [N0]) kcW 0 (by decide) (by decide);rw [show Ev (cD [N0]) 0 ((cD [N0]).rows.length+1)=none by kernel_rfl] at h;exact h
theorem WC (a b:Ty) (h:Z3 a b=true):Ak Tryz.prog 38 [.agg (dTyc a),.agg (dTyc b)] (.bool true):=by
 have:=XJ a b;rw [h] at this;exact this
theorem dI:Ak Tryz.prog 6 [] (.bool true):=by
 refine Af Al Tryz.func6 (by decide +kernel) rfl [1,2,3,4,5,6,7,8,9,10,11,12] rfl rfl ?_;refine Ao rfl ?_;refine Ah rfl oR ?_;refine Ao rfl ?_;refine Ad rfl (λ_=>Ge CF []) (by simp) ?_;refine Ao rfl ?_;refine Ad rfl (λ_=>SK 0) (by simp) ?_;refine Ao rfl ?_;refine Ad rfl (λ_=>Ge CF []) (by simp) ?_;refine Ao rfl ?_;refine Ad rfl (λ_=>Ge JQ [E1 CF [],dU 0,E1 CF []]) (by simp) ?_;refine Ao rfl ?_;refine Ah rfl qJ ?_;refine Ao rfl ?_;refine Ah rfl oR ?_;refine Ao rfl ?_;refine Ad rfl (λ_=>Ge CF []) (by simp) ?_;refine Ao rfl ?_;refine Ah rfl qK ?_;refine Ao rfl ?_;refine Ah rfl oR ?_;refine Ao rfl ?_;refine Ah rfl qI ?_;refine Ao rfl ?_;refine Ah rfl C_ok ?_;refine Ao rfl ?_;refine Ah rfl qH ?_
 refine Ao rfl ?_;refine Ah rfl oQ ?_;refine Ao rfl ?_;refine Ah rfl rT ?_;refine Ao rfl ?_;refine Ah rfl oQ ?_;refine Ao rfl ?_;refine Ah rfl rS ?_;refine Ao rfl ?_;refine Ah rfl oQ ?_;refine Ao rfl ?_;refine Ah rfl kUse ?_;refine Ao rfl ?_;refine Ah rfl oQ ?_;refine Ao rfl ?_;refine Ah rfl qL ?_;refine Ao rfl ?_;refine Ah rfl oR ?_;refine Ao rfl ?_;refine Ah rfl qM ?_;refine Ao rfl ?_;refine Ad rfl (λ_=>Iy 1) (by simp) ?_;refine Ao rfl ?_;refine Ad rfl (λ_=>Iy 0) (by simp) ?_;refine Ao rfl ?_;refine Ad rfl (λ_=>sO [Ii 1,Ii 0]) (by simp) ?_;refine Ao rfl ?_;refine Ah rfl rU ?_;refine Ao rfl ?_;refine Ah rfl PI ?_;refine Ao rfl ?_;refine Ad rfl (λ_=>sO [N0]) (by simp) ?_;refine Ao rfl ?_
 refine Ah rfl rV ?_;refine Ao rfl ?_;refine Az rfl λh=>?_;refine Aq rfl ?_;refine mi rfl (c:=.str [120]::dTyc (E1 CF [])) (λ_=>⟨by simp,rfl,rfl⟩) (by simp [An]) ?_;refine Ao rfl ?_;refine mi rfl (c:=.str [120]::dTyc (E1 CF [])) (λ_=>⟨by simp,rfl,rfl⟩) (by simp [An]) ?_;refine Ao rfl ?_;refine Ad rfl (λ_=>Ge CF []) (by simp) ?_;refine Ao rfl ?_;refine Ad rfl (λ_=>WC (E1 CF []) (E1 CF []) rfl) (by simp [An]) ?_;refine Ao rfl ?_;refine mi rfl (c:=[.int .i64 3]) (λ_=>⟨by simp,rfl,rfl⟩) (by simp [An]) ?_;refine mg [] rfl (by simp;rfl) ?_;refine Az rfl λh=>?_;refine Aq rfl ?_;refine Ad rfl (λ_=>Ge CF []) (by simp) ?_;refine Ao rfl ?_;refine Ad rfl (λ_=>SK (-1)) (by simp) ?_;refine Ao rfl ?_
 refine Ad rfl (λ_=>Ge CF []) (by simp) ?_;refine Ao rfl ?_;refine Ad rfl (λ_=>Ge JQ [E1 CF [],dU (-1),E1 CF []]) (by simp) ?_;refine Ao rfl ?_;refine Ad rfl (λ_=>WC wA (E1 JQ [E1 CF [],dU (-1),E1 CF []]) rfl) (by simp) ?_;refine Ao rfl ?_;refine Ad rfl (λ_=>RX 0) (by simp) ?_;refine Ao rfl ?_;refine Ad rfl (λ_=>RX 1) (by simp) ?_;refine Ao rfl ?_;refine Ad rfl (λ_=>Ge Il [G9 0,G9 1]) (by simp [An]) ?_;refine Ao rfl ?_;refine Ad rfl (λ_=>WC (E1 Il [G9 0,G9 1]) (E1 Il [G9 0,G9 1]) rfl) (by simp [An]) ?_;refine Ao rfl ?_;refine Ad rfl (λ_=>RX 1) (by simp) ?_;refine Ao rfl ?_;refine Ad rfl (λ_=>RX 1) (by simp) ?_;refine Ao rfl ?_;refine Ad rfl (λ_=>Ge Il [G9 1,G9 1]) (by simp [An]) ?_
 refine Ao rfl ?_;refine Ad rfl (λ_=>WC (E1 Il [G9 1,G9 1]) (E1 Il [G9 1,G9 1]) rfl) (by simp [An]) ?_;refine Ao rfl ?_;refine Ad rfl (λ_=>RX 1) (by simp) ?_;refine Ao rfl ?_;refine Ad rfl (λ_=>WC (G9 1) (G9 1) rfl) (by simp [An]) ?_;refine mg [] rfl (by simp;rfl) ?_;exact Aa rfl rfl rfl
end Go.Hk
namespace Go.Hk
open Go.Proofs
theorem Yo (c:Cse) (v:Ty):Ak Tryz.prog 22 [.agg (dCse c),.agg (dTyc v)] (.bool (decide (0<=B8 v 20000 100)&&IM c v)):=by
 have hW:=La v 20000 100 (by decide) (by decide) (by decide) (by decide);have hF:=aH c v;generalize B8 v 20000 100=w at *;generalize IM c v=b at *;obtain ⟨ds,⟨c1,c2,c3,c4⟩,rows⟩:=c;obtain ⟨s,n,x,ps⟩:=v;refine Af Al Tryz.func22 (by decide +kernel) rfl [1,2,3] rfl rfl ?_;refine Ao rfl ?_;refine Ah rfl hW ?_;refine Dm rfl ?_;refine AN rfl hF ?_;refine Dm rfl ?_;refine Aa rfl rfl (congrArg _ ?_);by_cases h:0<=w <;> simp [h]
theorem dZ (c:Cse) (v:Ty):Ak Tryz.prog 14 [.agg (dCse c),.agg (dTyc v)] (.bool (NA c&&(Jt v&&IM c v))):=by
 have hS:=bT c;have hL:=dA v;have hF:=aH c v;generalize NA c=b1 at *;generalize Jt v=b2 at *;generalize IM c v=b3 at *;obtain ⟨ds,⟨c1,c2,c3,c4⟩,rows⟩:=c;obtain ⟨s,n,x,ps⟩:=v;refine Af Al Tryz.func14 (by decide +kernel) rfl [1,2,3] rfl rfl ?_;refine Ao rfl ?_;refine Ah rfl hS ?_;refine Dm rfl ?_;refine AN rfl hL ?_;refine Dm rfl ?_;refine AN rfl hF ?_;refine Dm rfl ?_;refine Aa rfl rfl (congrArg _ ?_);cases b1 <;> cases b2 <;> cases b3 <;> rfl
theorem Rd {c:Cse} {v:Ty} {n:Nat} {p:Ty} (ha:Ey c v=true) (hp:c.rows[n]?=some p) (hN:Aj v<=1000000):∃L,Ak Tryz.prog 16 [.agg (dCse c),.int .i64 n,.agg (dTyc v)] (.tup [.sl (BS L),.int .i64 (if (AY p v).2=true then 0 else 5)]):=by
 have h:=Uw c n v hN;have ht:CR c n=true:=by
  have:=(List.getElem?_eq_some_iff.1 hp).1;simp [CR];omega
 have e:NR c n v=bif (AY p v).2 then ((AY p v).1,0) else ([],5):=by
  simp only [NR,ha,ht,Bool.and_self,cond_true,Int.toNat_natCast,hp]
 rw [e] at h;cases hm:(AY p v).2 with
 | true=>rw [hm] at h;exact ⟨_,h⟩
 | false=>rw [hm] at h;exact ⟨_,h⟩
theorem R9 {c:Cse} {v:Ty} (h1:Bt c=true) (h2:L4 v=true) (h3:IT c.datas c.type v=true):Ey c v=true/\IM c v=true:=by
 rw [eX];simp only [IM,<- Ol,h1,h2,h3,Bool.and_self,and_self]
end Go.Hk
namespace Go.Hk
section
variable {P:Program} {n:Nat} {F:List Nat} {Q:DQ} {tt:TT} {env env':Env} {st st' st0 st1:St} {ids ids' fr:List Nat} {k todo todo':List DI} {I J:Imm} {μ:Mu} {w:World} {a:Act} {Pn:V->Prop}
end
end Go.Hk
namespace Go.Hk
section
variable {P:Program} {n:Nat} {F:List Nat} {Q:DQ} {env:Env} {st:St} {ids:List Nat} {todo:List DI} {ob:List Prop}
end
end Go.Hk
namespace Go.Hk
open Go.Proofs
theorem TTok.app {P:Program} {a b:TT} (ha:TTok P a) (hb:TTok P b):TTok P (a++b):=by
 intro t i h
 induction a with
 | nil=>exact hb t i h
 | cons x r ih =>
  obtain ⟨k,v⟩:=x;simp only [List.cons_append,lk] at h;cases e:Nat.beq k t with
  | true=>rw [e] at h;exact ha t i (by simp only [lk,e];exact h)
  | false =>
   rw [e] at h;have hr:∀{r:TT},lk (r++b) t=some i->(∀j,lk r t=some j->TyOk P t j)->TyOk P t i:=by
    intro r
    induction r with
    | nil=>intro h _;exact hb t i h
    | cons y q iq =>
     obtain ⟨k2,v2⟩:=y;intro h hj;simp only [List.cons_append,lk] at h hj;cases e2:Nat.beq k2 t with
     | true=>rw [e2] at h hj;exact hj i h
     | false=>rw [e2] at h hj;exact iq h hj
   exact hr h λj hj=>ha t j (by simp only [lk,e];exact hj)
section
variable {n:Nat} {F:List Nat} {Q:DQ} {env env':Env} {st st':St} {ids ids':List Nat} {k todo:List DI} {ob:List Prop}
end
end Go.Hk
namespace Go.Hk
open Go.Proofs
def UY (x:Int):Nat->List Int->Int
 | _,[]=>-1
 | i,y::r=>if x=y then (i:Int) else UY x (i+1) r
theorem WI (x:Int):∀(l:List Int) (i:Nat),(0<=UY x i l)↔x∈l
 | [],i=>by simp [UY]
 | y::r,i=>by
  simp only [UY,List.mem_cons];by_cases e:x=y
  ·rw [if_pos e];exact ⟨λ_=>.inl e,λ_=>by omega⟩
  ·rw [if_neg e,WI x r (i+1)];exact ⟨.inr,λh=>h.resolve_left e⟩
theorem eF {l:List Int} {i:Nat} (h:i<l.length):l.drop i=l.getD i 0::l.drop (i+1):=by
 have:=Av (l:=l) (i:=i) (List.getElem?_eq_getElem h);rw [this];simp [List.getD,h]
theorem eZ (l:List Int) (x:Int) (hl:l.length<=1000):Ak Tryz.prog 69 [.sl (Ba l),.int .i64 x] (.int .i64 (UY x 0 l)):=by
 refine Af Al Tryz.func69 (by decide +kernel) rfl [1,2,3] rfl rfl ?_;refine Ao rfl ?_;refine Am (λi:Nat=>[(8,.imm (.int .i64 i)),(7,.imm (.int .i64 l.length)),(0,.imm (.sl (Ba l))),(1,.imm (.int .i64 x))]) (λ_=>[]) [1,2,3] (λi=>l.length-i) (λi=>i<=l.length/\UY x 0 l=UY x i (l.drop i)) 0 ⟨Nat.zero_le _,rfl⟩ ⟨rfl,A3 (by simp),rfl,rfl,trivial⟩ trivial rfl λi hi ih=>?_;obtain ⟨i1,i2⟩:=hi;refine Aq rfl ?_;refine Ab rfl (λh=>?_) (λh=>?_)
 ·simp at h;have hg:=JR h;rw [eF h] at i2;simp only [UY] at i2;generalize l.getD i 0=y at *;refine Aq rfl ?_;refine mi rfl (c:=[.int .i64 y]) (λ_=>⟨by simp,by simpa using hg,rfl⟩) (by simp) ?_;refine Ao rfl ?_;by_cases e:x=y
  ·rw [if_pos e] at i2;refine Ab rfl (λh=>?_) (λh=>by exfalso;simp at h;exact h e);refine Aq rfl ?_;rw [i2];exact Aa rfl rfl rfl
  ·rw [if_neg e] at i2;refine Ab rfl (λh=>by exfalso;simp at h;exact e h) (λh=>?_);refine Aq rfl ?_;exact Ae (ih (i+1) (by omega) ⟨by omega,i2⟩) ⟨A3 (BI (by omega) (by omega)),rfl,rfl,rfl,trivial⟩ trivial rfl
 ·simp at h;refine Ay rfl ?_;refine Aq rfl ?_;rw [i2,List.drop_eq_nil_of_le (by omega)];exact Aa rfl rfl rfl
theorem Vr (l:List Int) (x:Int) (hl:l.length<=1000):Ak Tryz.prog 21 [.sl (Ba l),.int .i64 x] (.bool (decide (x∈l))):=by
 have h:=eZ l x hl;have hm:=WI x l 0;generalize UY x 0 l=z at *;refine Af Al Tryz.func21 (by decide +kernel) rfl [1,2,3] rfl rfl ?_;refine Ao rfl ?_;refine Ah rfl h ?_;refine Ao rfl ?_;refine Aa rfl rfl (congrArg _ ?_);simp only [decide_eq_decide];exact hm
theorem nI {c:Cse} (h:Bt c=true) {r:Int} (h1 : -1<=r) (h2:r<c.rows.length):IF c.datas (λv=>HN c.datas c.type v/\B5 v 0 c.rows=r) (F3 c (As c.type) r) :=
 FP (λv=>by rw [YY v c.rows r h1 h2]) (TL h r).1
theorem OP (c:Cse):∀(i:Nat) (x:Int),x∈CQ c i↔∃k:Nat,x=k/\k<i/\F3 c (As c.type) k=none
 | 0,x=>by simp [CQ]
 | i+1,x=>by
  simp only [CQ,List.mem_append,OP c i x];constructor
  ·rintro (⟨k,h1,h2,h3⟩ | h)
   ·exact ⟨k,h1,by omega,h3⟩
   ·cases hL:F3 c (As c.type) i with
    | none=>rw [hL] at h;simp at h;exact ⟨i,h,by omega,hL⟩
    | some v=>rw [hL] at h;simp at h
  ·rintro ⟨k,h1,h2,h3⟩;by_cases e:k=i
   ·subst e;right;rw [h3];simp [h1]
   ·exact .inl ⟨k,h1,by omega,h3⟩
inductive Nd where
 | mk (row:Int) (path:List Int) (heads:List Ty) (kids:List Nd)
mutual
def Nx:Nd->List V
 | .mk r p h k=>[.int .i64 r,.sl (Ba p),.sl (JG h),.sl (Kz k)]
def Kz:List Nd->List (List V)
 | []=>[]
 | t::r=>Nx t::Kz r
end
@[simp] theorem dNd_length (t:Nd):(Nx t).length=4:=by cases t;rfl
theorem aK (l:List Nd):Kz l=l.map Nx:=by induction l with
 | nil=>rfl
 | cons t r ih=>simp [Kz,ih]
@[simp] theorem dNds_length (l:List Nd):(Kz l).length=l.length:=by rw [aK];simp
theorem lF {l:List Nd} {i:Nat} {t:Nd} (h:l[i]?=some t):(Kz l)[i]?=some (Nx t):=by rw [aK,List.getElem?_map,h];rfl
def HW (r:Int):Nd:=.mk r [] [] []
def Er (ds:List Dt) (g:List Ty->Nat->Mi->Int->Nd×Bool×Int):List Ty->Nat->Mi->Int->Nd×Bool×Int
 | [],_,_,L=>(HW (-1),true,L)
 | p::r,i,m,L =>
  if (Ar ds p m).1=2 then
   match g (p::r) i (A0 ds m (Ar ds p m).2.1 (Ar ds p m).2.2 true) L with
   | (_,false,L2)=>(HW 0,false,L2)
   | (a,true,L2)=>match g r (i+1) (A0 ds m (Ar ds p m).2.1 (Ar ds p m).2.2 false) L2 with
    | (b,fine,L3)=>(.mk 0 (Ar ds p m).2.1 [(Ar ds p m).2.2] [a,b],fine,L3)
  else if (Ar ds p m).1=1 then (HW i,true,L) else Er ds g r (i+1) m L
def BZ (ds:List Dt):Nat->List Ty->Nat->Mi->Int->Nd×Bool×Int
 | 0,_,_,_,left=>(HW 0,false,left-1)
 | d+1,l,i,m,left=>if left<1 then (HW 0,false,left-1) else Er ds (BZ ds d) l i m (left-1)
theorem LQ {ds:List Dt} {g:List Ty->Nat->Mi->Int->Nd×Bool×Int} (hg:∀l i m L,0<=L -> -1<=(g l i m L).2.2/\(g l i m L).2.2<=L/\((g l i m L).2.1=true->0<=(g l i m L).2.2)) :
  ∀l i m L,0<=L -> -1<=(Er ds g l i m L).2.2/\(Er ds g l i m L).2.2<=L/\((Er ds g l i m L).2.1=true->0<=(Er ds g l i m L).2.2)
 | [],i,m,L,h=>by simp only [Er];omega
 | p::r,i,m,L,h=>by
  simp only [Er]
  split
  ·have h1:=hg (p::r) i (A0 ds m (Ar ds p m).2.1 (Ar ds p m).2.2 true) L h;generalize g (p::r) i (A0 ds m (Ar ds p m).2.1 (Ar ds p m).2.2 true) L=A at *;obtain ⟨a,f,L2⟩:=A;cases f with
   | false=>simp only at h1 ⊢;exact ⟨h1.1,h1.2.1,λh=>by cases h⟩
   | true =>
    have h2:=hg r (i+1) (A0 ds m (Ar ds p m).2.1 (Ar ds p m).2.2 false) L2 (h1.2.2 rfl);simp only at h1 ⊢;exact ⟨h2.1,Int.le_trans h2.2.1 h1.2.1,h2.2.2⟩
  ·split
   ·simp only;omega
   ·exact LQ hg r (i+1) m L h
theorem J6 (ds:List Dt):∀(d:Nat) l i m L,0<=L -> -1<=(BZ ds d l i m L).2.2/\(BZ ds d l i m L).2.2<=L/\((BZ ds d l i m L).2.1=true->0<=(BZ ds d l i m L).2.2)
 | 0,l,i,m,L,h=>by simp only [BZ];exact ⟨by omega,by omega,λh=>by cases h⟩
 | d+1,l,i,m,L,h=>by
  simp only [BZ]
  split
  ·simp only;exact ⟨by omega,by omega,λh=>by cases h⟩
  ·have:=LQ (ds:=ds) (J6 ds d) l i m (L-1) (by omega);exact ⟨this.1,by omega,this.2.2⟩
theorem PX {ds:List Dt} {h:Ty}:∀(path:List Int) (m:Mi),Io ds h m path->AI h≠0
 | [],_,⟨_,_,h3⟩=>(M8 h3).1
 | _::q,_,⟨k,_,_,h3⟩=>PX q k h3
theorem nQ (c:Cse) (ho:OkW c.datas) (hn:AK c.datas c.type=true) (hr:RowsOk c):∀(d N:Nat) (m x:Mi) (row:Nat) (left:Int),N+d<=100000->MOk c.datas c.type N m->MOk c.datas c.type N x->stl c.datas m x->row<=c.rows.length->0<=left->left<=1000 ->
  Bg Tryz.prog 41 [.ref 1 0,.hv 2 0,.imm (.int .i64 row),.imm (.int .i64 d)] [(1,some (.cells 94 2 [.imm (AE c (Ba (Dd c.datas))),.imm (.int .i64 left)])),(2,some (.hp (DJ x)))]
   (.ret (.imm (.tup [.agg (Nx (BZ c.datas d (c.rows.drop row) row m left).1),.bool (BZ c.datas d (c.rows.drop row) row m left).2.1])) [(1,some (.cells 94 2 [.imm (AE c (Ba (Dd c.datas))),.imm (.int .i64 (BZ c.datas d (c.rows.drop row) row m left).2.2)]))]):=by
 intro d
 induction d with
 | zero =>
  intro N m x row left hN hm hx hs hrow h0 h1;simp only [BZ];refine Af Al Tryz.func41 (by decide +kernel) rfl [3,4,5,6] rfl rfl ?_;refine Aq rfl ?_;refine Ai rfl λh=>?_;refine Aq rfl ?_;refine FS (env':=[(8,.ref 3 0),(9,.imm (.bool false))]) (st':=[(3,some (.cells 36 4 [.imm (.int .i64 0),.nils,.nils,.nils])),(1,some (.cells 94 2 [.imm (AE c (Ba (Dd c.datas))),.imm (.int .i64 (IntKind.i64.wrap (left-1)))]))]) (ids':=[4,5,6]) ⟨rfl,rfl,trivial⟩ ⟨rfl,⟨rfl,rfl,rfl⟩,trivial⟩ rfl ?_;rw [BI (by omega) (by omega)];exact Au ⟨_,rfl,tV rfl,rfl,trivial⟩
 | succ d ih =>
 intro N m x row left hN hm hx hs hrow h0 h1;obtain ⟨ds,⟨c1,c2,c3,c4⟩,rows⟩:=c;by_cases hl:left<1
 ·rw [show BZ ds (d+1) (rows.drop row) row m left=(HW 0,false,left-1) by simp only [BZ];rw [if_pos hl]];refine Af Al Tryz.func41 (by decide +kernel) rfl [3,4,5,6] rfl rfl ?_;refine Aq rfl ?_;refine Ab rfl (λh=>?_) (λh=>by exfalso;simp at h;rw [BI (by omega) (by omega)] at h;omega);refine Aq rfl ?_;refine FS (env':=[(8,.ref 3 0),(9,.imm (.bool false))]) (st':=[(3,some (.cells 36 4 [.imm (.int .i64 0),.nils,.nils,.nils])),(1,some (.cells 94 2 [.imm (AE ⟨ds,.mk c1 c2 c3 c4,rows⟩ (Ba (Dd ds))),.imm (.int .i64 (IntKind.i64.wrap (left-1)))]))]) (ids':=[4,5,6]) ⟨rfl,rfl,trivial⟩ ⟨rfl,⟨rfl,rfl,rfl⟩,trivial⟩ rfl ?_;rw [BI (by omega) (by omega)];exact Au ⟨_,rfl,tV rfl,rfl,trivial⟩
 have hGl:=LQ (ds:=ds) (J6 ds d);rw [show BZ ds (d+1) (rows.drop row) row m left=Er ds (BZ ds d) (rows.drop row) row m (left-1) by simp only [BZ];rw [if_neg hl]];obtain ⟨L,hLL⟩:∃L,IntKind.i64.wrap (left-1)=L:=⟨_,rfl⟩
 have eL:L=left-1:=by rw [<- hLL,BI (by omega) (by omega)]
 rw [<- eL];have hrl:=hr.len;simp only at hrl hrow ih ho hn;generalize hR:Er ds (BZ ds d) (rows.drop row) row m L=R;refine Af Al Tryz.func41 (by decide +kernel) rfl [3,4,5,6,7,8,9,10,11,12] rfl rfl ?_;refine E3 2 3 (λob:Nat=>[ptr ob]) (λob=>AR x ob) rfl (λvs I w bs h=>let ⟨ob,F,e1,e2,e3⟩:=h;⟨ob,e1,F,e2,e3⟩) λob=>?_;refine Aq rfl ?_;rw [hLL];refine Ab rfl (λh=>by exfalso;simp at h;omega) (λh=>?_);clear h hLL;refine Aq rfl ?_;refine Am (λz:Nat×Mi=>[(2,.imm (.int .i64 z.1)),(0,.ref 1 0),(1,.raw (ptr ob)),(3,.imm (.int .i64 ((d+1:Nat):Int))),(8,.ref 4 0)])
  (λz=>[(1,some (.cells 94 2 [.imm (AE ⟨ds,.mk c1 c2 c3 c4,rows⟩ (Ba (Dd ds))),.imm (.int .i64 L)])),(4,some (.cells 36 4 [.imm (.int .i64 0),.nils,.nils,.nils])),(3,some (.hp (AR z.2 ob)))]) [5,6,7,8,9,10,11,12] (λz=>rows.length-z.1)
  (λz=>z.1<=rows.length/\MOk ds (.mk c1 c2 c3 c4) N z.2/\stl ds m z.2/\Er ds (BZ ds d) (rows.drop z.1) z.1 m L=R) (row,x) ⟨hrow,hx,hs,hR⟩ ⟨rfl,rfl,rfl,rfl,rfl,trivial⟩ ⟨⟨rfl,rfl,rfl⟩,rfl,rfl,trivial⟩ rfl λz hz ihl=>?_
 clear hR hx hs;obtain ⟨i,x⟩:=z;obtain ⟨z1,hx,hs,hR⟩:=hz;simp only at z1 hx hs hR;refine Aq rfl ?_;refine Ab rfl (λh=>?_) (λh=>?_)
 ·have hlt:i<rows.length:=by simp at h;omega
  obtain ⟨p,hp⟩:=Ap hlt;obtain ⟨hp1,hp2,hp3⟩:=hr.pat p (List.mem_of_getElem? hp);have hget:=A5 hp;have hdr:=Av hp;have hsee:=XY ⟨ds,.mk c1 c2 c3 c4,rows⟩ (Ba (Dd ds)) ho N (by omega) p x ob [] (by simp;omega) hx.wf hx.coh (by rw [hx.typ];exact hp1) hp2;replace hsee:=Uj (a:=[.imm (AE ⟨ds,.mk c1 c2 c3 c4,rows⟩ (Ba (Dd ds))),.imm (.agg (dTyc p)),.raw (ptr ob)]) (b:=[]) hsee;have hst:=U7 p hm.coh hs;have hxs:=hx.see ho hp3;have hL:=Hg p hm.coh hs;have hL2:=Hg p hm.coh hst;rw [<- hL] at hsee;rw [hdr] at hR;simp only [Er] at hR;refine Aq rfl ?_;refine mi rfl (c:=dTyc p) (λ_=>⟨by simp,by simpa using hget,by simp⟩) (by simp) ?_;refine Ao rfl ?_;by_cases h2:(Ar ds p m).1=2
  ·rw [show My [] (Ar ds p m) = .tup [.imm (.bool false),.ip 156 (.sl (Ba (Ar ds p m).2.1)::Bl (Ar ds p m).2.2) 0] from if_pos h2] at hsee;have hA:=H6 ho p hm.wf hm.coh (by rw [hm.typ];exact hp1) hp2 h2;have hB:=H6 ho p hxs.wf hxs.coh (by rw [hxs.typ];exact hp1) hp2 (by rw [<- hL2];exact h2);rw [<- hL2] at hB;have hmT:=hm.split ho hp1 hp2 hp3 h2;have hxT:=hxs.split ho hp1 hp2 hp3 (by rw [<- hL2];exact h2);rw [<- hL2] at hxT;have hlen:=IC ds p m;have hsup:=λis=>LB ⟨ds,.mk c1 c2 c3 c4,rows⟩ (Ba (Dd ds)) ho N (by omega) (EF ds p x) ob (Ar ds p m).2.1 (Ar ds p m).2.2 is (by omega) hxs.wf hxs.coh hB.ok;rw [if_pos h2] at hR
   have hYa:=ih (N+1) _ _ i L (by omega) (hmT true) (hxT true) (hA.stl true _ hst) (by omega) (by omega) (by omega);rw [hdr] at hYa;have hLa:=J6 ds d (p::rows.drop (i+1)) i (A0 ds m (Ar ds p m).2.1 (Ar ds p m).2.2 true) L (by omega);generalize BZ ds d (p::rows.drop (i+1)) i (A0 ds m (Ar ds p m).2.1 (Ar ds p m).2.2 true) L=A at *;obtain ⟨a,fa,L2⟩:=A;simp only at hYa hLa;have ed:IntKind.i64.wrap (((d+1:Nat):Int)-1)=(d:Int):=by rw [BI (by omega) (by omega)];omega
   have ei:IntKind.i64.wrap ((i:Int)+1)=((i+1:Nat):Int):=by rw [BI (by omega) (by omega)];omega
   rw [<- ed] at hYa;have hYb:=λh=>ih (N+1) _ _ (i+1) L2 (by omega) (hmT false) (hxT false) (hA.stl false _ hst) (by omega) h (by omega);have hval:=Qn (Ar ds p m).2.2 (PX _ _ ((Jq ho p (v:=zT) hm.wf hm.coh (by rw [hm.typ];exact hp1) hp2).1 h2));generalize (Ar ds p m).2.1=path at *;generalize (Ar ds p m).2.2=hd at *;obtain ⟨d1,d2,d3,d4⟩:=hd;refine A9 (fr:=[5]) [(3,1)] [(2,5)] rfl (by simp) hsee ⟨⟨rfl,rfl,rfl⟩,trivial⟩ rfl rfl rfl rfl ?_;refine mg [] rfl (by simp;rfl) ?_;refine Az rfl λh=>?_;clear h;refine Aq rfl ?_;refine Az rfl λh=>?_;clear h;refine Aq rfl ?_
   refine B6 [(5,1)] [(3,6),(2,7)] [] (fr:=[6,7]) (nm:=[6,7,5]) rfl trivial (by simp) (hsup true) ⟨⟨rfl,rfl,rfl⟩,trivial⟩ rfl trivial rfl rfl rfl ?_;refine Ao rfl ?_;refine B6 [(1,1),(7,2)] [] [] (fr:=[]) (nm:=[1,1,7]) rfl trivial (by simp) hYa ⟨⟨rfl,rfl,rfl⟩,⟨rfl,rfl,rfl⟩,trivial⟩ rfl trivial rfl rfl rfl ?_;refine mg [] rfl (by simp;rfl) ?_;cases fa with
   | false =>
    simp only at hR;subst hR;refine Ai rfl λh=>?_;refine Aq rfl ?_;exact Au ⟨_,rfl,tV rfl,rfl,trivial⟩
   | true =>
    have hLb:=J6 ds d (rows.drop (i+1)) (i+1) (A0 ds m path (.mk d1 d2 d3 d4) false) L2 (hLa.2.2 rfl);replace hYb:=hYb (hLa.2.2 rfl);simp only at hR;generalize BZ ds d (rows.drop (i+1)) (i+1) (A0 ds m path (.mk d1 d2 d3 d4) false) L2=B at *;obtain ⟨b,fb,L3⟩:=B;simp only at hYb hLb hR;subst hR;rw [<- ed,<- ei] at hYb;refine Az rfl λh=>?_;clear h;refine Aq rfl ?_;refine B6 [(6,1)] [(3,9),(2,10)] [] (fr:=[9,10]) (nm:=[9,10,6]) rfl trivial (by simp) (hsup false) ⟨⟨rfl,rfl,rfl⟩,trivial⟩ rfl trivial rfl rfl rfl ?_;refine Ao rfl ?_;refine B6 [(1,1),(10,2)] [] [] (fr:=[]) (nm:=[1,1,10]) rfl trivial (by simp) hYb ⟨⟨rfl,rfl,rfl⟩,⟨rfl,rfl,rfl⟩,trivial⟩ rfl trivial rfl rfl rfl ?_
    refine mg [] rfl (by simp;rfl) ?_;refine Ah rfl hval ?_;refine mg [] rfl (by simp;rfl) ?_;exact Au ⟨_,rfl,tV rfl,rfl,trivial⟩
  ·rw [show My [] (Ar ds p m) = .imm (.tup [.bool (decide ((Ar ds p m).1=1)),.nilp]) from if_neg h2] at hsee;rw [if_neg h2] at hR;have hih:=ihl (i+1,EF ds p x) (by simp only;omega);simp only at hih;have hrg:=Hu ds p m;generalize (Ar ds p m).1=q at *;refine A9 (fr:=[5]) [(3,1)] [(2,5)] rfl (by simp) hsee ⟨⟨rfl,rfl,rfl⟩,trivial⟩ rfl rfl rfl rfl ?_;refine mg [] rfl (by simp;rfl) ?_;by_cases e:q=1
   ·rw [if_pos e] at hR;subst hR;refine Ab rfl (λh=>?_) (λh=>by exfalso;subst e;simp at h);refine Aq rfl ?_;exact Au ⟨_,rfl,tV rfl,rfl,trivial⟩
   ·rw [if_neg e] at hR;refine Ab rfl (λh=>by exfalso;simp at h;exact e h) (λh=>?_);refine Aq rfl ?_;refine Ai rfl λh=>?_;refine Aq rfl ?_;refine AG 5 3 rfl ?_;exact Ae (hih ⟨by omega,hxs,hst,hR⟩) ⟨A3 (BI (by omega) (by omega)),rfl,rfl,rfl,rfl,trivial⟩ ⟨rfl,rfl,rfl,trivial⟩ rfl
 ·have hlt:¬i<rows.length:=by simp at h;omega
  rw [List.drop_eq_nil_of_le (by omega)] at hR;simp only [Er] at hR;subst hR;refine Ay rfl ?_;refine Aq rfl ?_;exact Au ⟨_,rfl,tV rfl,rfl,trivial⟩
theorem kB {P:Program} {n:Nat} {F:List Nat} {Q:DQ} {env env':Env} {st st':St} {ids ids':List Nat} {k:List DI} {all rest:List Oper} (hE:XW env env') (hS:bP st st') (hI:(Jj ids'&&Rt ids (Vv env'++F0 st'++F) ids')=true) (h:G P n F Q (.ops all rest::k) env' st' ids'):G P n F Q (.ops all rest::k) env st ids:=FS hE hS hI h
def HF (c:Cse):Nd×Bool×Int:=BZ c.datas 100 c.rows 0 (As c.type) 400
def gA (c:Cse):V:=if (HF c).2.1=true then .tup [.agg (Nx (HF c).1),.int .i64 0] else .tup [.agg (Nx (HW 0)),.int .i64 3]
theorem oM (c:Cse):Ak Tryz.prog 7 [.agg (dCse c)] (bif Bt c then gA c else .tup [.agg (Nx (HW 0)),.int .i64 2]):=by
 have hW:=DY c;cases hb:Bt c with
 | false =>
  rw [hb] at hW;obtain ⟨ds,⟨c1,c2,c3,c4⟩,rows⟩:=c;refine Af Al Tryz.func7 (by decide +kernel) rfl [1,2,3,4] rfl rfl ?_;refine Ao rfl ?_;refine Ah rfl hW ?_;refine Ao rfl ?_;refine Ai rfl λh=>?_;refine Aq rfl ?_;exact Aa rfl rfl rfl
 | true =>
  rw [hb] at hW;have hF:=Fs (AE c (Ba (Dd c.datas))) c.type;have hG:=nQ c (OkW.of hb) (CP hb).2.2.1 (RowsOk.of hb) 100 0 (As c.type) (As c.type) 0 400 (by omega) (MOk.of hb) (MOk.of hb) (DZ _ _) (Nat.zero_le _) (by omega) (by omega);rw [List.drop_zero,show BZ c.datas 100 c.rows 0 (As c.type) 400=HF c from rfl] at hG;simp only [cond_true,gA];generalize HF c=T at *;obtain ⟨⟨t1,t2,t3,t4⟩,fine,L⟩:=T;simp only at hG ⊢;obtain ⟨ds,⟨c1,c2,c3,c4⟩,rows⟩:=c;refine Af Al Tryz.func7 (by decide +kernel) rfl [1,2,3,4,5,6,7,8] rfl rfl ?_;refine Ao rfl ?_;refine Ah rfl hW ?_;refine Ao rfl ?_;refine Az rfl λh=>?_;clear h;refine Aq rfl ?_
  refine A9 (fr:=[4]) [] [(2,4)] rfl (by simp) hF trivial rfl rfl rfl rfl ?_;refine Ao rfl ?_;refine kB (env':=[(22,.ref 3 0),(26,.hv 4 0),(2,.ref 2 0)]) (st':=[(3,some (.cells 94 2 [.imm (AE ⟨ds,.mk c1 c2 c3 c4,rows⟩ (Ba (Dd ds))),.imm (.int .i64 400)])),(4,some (.hp (DJ (As (.mk c1 c2 c3 c4))))),(2,some (.cells 36 4 [.imm (.int .i64 0),.nils,.nils,.nils]))]) (ids':=[5,6,7,8]) ⟨rfl,rfl,rfl,trivial⟩ ⟨⟨rfl,rfl,rfl⟩,rfl,rfl,trivial⟩ rfl ?_;refine A9 (fr:=[]) [(3,1),(4,2)] [] rfl (by simp) hG ⟨⟨rfl,rfl,rfl⟩,⟨rfl,rfl,rfl⟩,trivial⟩ rfl rfl rfl rfl ?_;refine Ao rfl ?_;cases fine with
  | true =>
   refine Az rfl λh=>?_;refine Aq rfl ?_;exact Aa rfl rfl rfl
  | false =>
   refine Ai rfl λh=>?_;refine Aq rfl ?_;exact Aa rfl rfl rfl
theorem EK {ds:List Dt} {d:Nat} {l:List Ty} {i:Nat} {m:Mi} {left:Int}:BZ ds (d+1) l i m left=if left<1 then (HW 0,false,left-1) else Er ds (BZ ds d) l i m (left-1):=rfl
mutual
theorem TH (ds:List Dt):∀(p:Ty) (m:Mi),(Ar ds p m).1=2->AI (Ac ds (BP ds m (Ar ds p m).2.1)).hd=0
 | .mk f n x ps,m,h=>by
  simp only [Ar] at h ⊢;by_cases h1:f=1\/f=2
  ·rw [if_pos h1] at h;simp at h
  ·rw [if_neg h1] at h ⊢;by_cases h2:AI (Ac ds m).hd=0/\BL (Ac ds m).nt (AQ (.mk f n x ps))=false
   ·rw [if_pos h2];exact h2.1
   ·rw [if_neg h2] at h ⊢;by_cases h3:AI (Ac ds m).hd=0\/AD (Ac ds m).hd (AQ (.mk f n x ps))=false
    ·rw [if_pos h3] at h;simp at h
    ·rw [if_neg h3] at h ⊢;obtain ⟨j,k,e1,e2,e3⟩:=Rf ds ps (Ac ds m).ks 0 h;rw [e1];simp only [BP,Int.zero_add,Int.toNat_natCast,e2];exact e3
theorem Rf (ds:List Dt):∀(ps:List Ty) (l:List Mi) (i:Int),(AL ds i ps l).1=2->∃(j:Nat) (k:Mi),(AL ds i ps l).2.1=(i+j)::(AL ds i ps l).2.1.tail/\l[j]?=some k/\AI (Ac ds (BP ds k (AL ds i ps l).2.1.tail)).hd=0
 | [],l,i,h=>by simp [AL] at h
 | p::r,[],i,h=>by simp [AL] at h
 | p::r,k::ks,i,h=>by
  simp only [AL] at h ⊢;by_cases h1:(Ar ds p k).1=1
  ·rw [if_pos h1] at h ⊢;obtain ⟨j,y,e1,e2,e3⟩:=Rf ds r ks (i+1) h;exact ⟨j+1,y,by rw [e1];simp only [List.tail_cons,List.cons.injEq,and_true];omega,by simpa using e2,e3⟩
  ·rw [if_neg h1] at h ⊢;exact ⟨0,k,by simp,rfl,TH ds p k h⟩
end
theorem TZ {ds:List Dt} {h:Ty}:∀(path:List Int) (m:Mi),Io ds h m path->BL (BP ds m path).nt h=false/\Kb ds (BP ds m path).ty h
 | [],_,⟨_,h2,h3⟩=>⟨h2,h3⟩
 | _::q,_,⟨k,h1,_,h3⟩=>by simp only [BP,h1];exact TZ q k h3
theorem Tx {ds:List Dt} {m:Mi} (h0:AI (Ac ds m).hd=0):Ac ds m=m:=by
 rcases CS (ds:=ds) m with e | ⟨_,y,y1,y2⟩
 ·exact e
 ·rw [y2] at h0;exact absurd h0 (B4 (DG y1).1).2
theorem WS {c:Cse} (ho:OkW c.datas) (hr:RowsOk c) {K:Nat->Mi->Nat->Nd->Prop} (B:Mi->Nat->Prop)
  (hleaf:∀N m row p,N<=100000->MOk c.datas c.type N m->B m row->c.rows[row]?=some p->(Ar c.datas p m).1=1->K N m row (HW row))
  (hend:∀N m,N<=100000->MOk c.datas c.type N m->B m c.rows.length->K N m c.rows.length (HW (-1)))
  (hskip:∀N m row p t,N<=100000->MOk c.datas c.type N m->B m row->c.rows[row]?=some p->(Ar c.datas p m).1=0->B m (row+1)/\(K N m (row+1) t->K N m row t))
  (hsplit:∀N m row p a b,N<=100000->MOk c.datas c.type N m->B m row->c.rows[row]?=some p->(Ar c.datas p m).1=2 ->
   B (A0 c.datas m (Ar c.datas p m).2.1 (Ar c.datas p m).2.2 true) row/\B (A0 c.datas m (Ar c.datas p m).2.1 (Ar c.datas p m).2.2 false) (row+1) /\
   (K (N+1) (A0 c.datas m (Ar c.datas p m).2.1 (Ar c.datas p m).2.2 true) row a->K (N+1) (A0 c.datas m (Ar c.datas p m).2.1 (Ar c.datas p m).2.2 false) (row+1) b->K N m row (.mk 0 (Ar c.datas p m).2.1 [(Ar c.datas p m).2.2] [a,b]))) :
  ∀(d N:Nat) (m:Mi) (row:Nat) (left:Int),N+d<=100000->MOk c.datas c.type N m->B m row->row<=c.rows.length->(BZ c.datas d (c.rows.drop row) row m left).2.1=true->K N m row (BZ c.datas d (c.rows.drop row) row m left).1:=by
 intro d
 induction d with
 | zero=>intro N m row left _ _ _ _ h;simp [BZ] at h
 | succ d ih =>
 intro N m row left hN hm hB hrow hf;by_cases hl:left<1
 ·rw [EK,if_pos hl] at hf;simp at hf
 obtain ⟨k,hk⟩:∃k,c.rows.length-row=k:=⟨_,rfl⟩
 induction k generalizing row with
 | zero =>
  have:row=c.rows.length:=by omega
  subst this;rw [EK,if_neg hl,List.drop_eq_nil_of_le (Nat.le_refl _)];exact hend N m (by omega) hm hB
 | succ k ihk =>
  have hlt:row<c.rows.length:=by omega
  obtain ⟨p,hp⟩:=Ap hlt;obtain ⟨hp1,hp2,hp3⟩:=hr.pat p (List.mem_of_getElem? hp);have hdr:=Av hp;have hrg:=Hu c.datas p m;by_cases h2:(Ar c.datas p m).1=2
  ·rw [EK,if_neg hl,hdr] at hf ⊢;simp only [Er] at hf ⊢;rw [if_pos h2] at hf ⊢;have mT:=hm.split ho hp1 hp2 hp3 h2 true;have mF:=hm.split ho hp1 hp2 hp3 h2 false;obtain ⟨s1,s2,s3⟩:=hsplit N m row p (BZ c.datas d (p::c.rows.drop (row+1)) row (A0 c.datas m (Ar c.datas p m).2.1 (Ar c.datas p m).2.2 true) (left-1)).1 (BZ c.datas d (c.rows.drop (row+1)) (row+1) (A0 c.datas m (Ar c.datas p m).2.1 (Ar c.datas p m).2.2 false) (BZ c.datas d (p::c.rows.drop (row+1)) row (A0 c.datas m (Ar c.datas p m).2.1 (Ar c.datas p m).2.2 true) (left-1)).2.2).1 (by omega) hm hB hp h2;have iA:=ih (N+1) _ row (left-1) (by omega) mT s1 hrow;rw [hdr] at iA
   generalize BZ c.datas d (p::c.rows.drop (row+1)) row (A0 c.datas m (Ar c.datas p m).2.1 (Ar c.datas p m).2.2 true) (left-1)=A at *;obtain ⟨a,fa,L2⟩:=A;have iB:=ih (N+1) _ (row+1) L2 (by omega) mF s2 (by omega);simp only at iA iB s3 hf ⊢;cases fa with
   | false=>simp at hf
   | true =>
    simp only at hf ⊢;exact s3 (iA rfl) (iB hf)
  ·by_cases h1:(Ar c.datas p m).1=1
   ·rw [EK,if_neg hl,hdr];simp only [Er];rw [if_neg h2,if_pos h1];exact hleaf N m row p (by omega) hm hB hp h1
   ·have e:BZ c.datas (d+1) (c.rows.drop row) row m left=BZ c.datas (d+1) (c.rows.drop (row+1)) (row+1) m left:=by
     rw [EK (l:=c.rows.drop row),if_neg hl,EK (l:=c.rows.drop (row+1)),if_neg hl,hdr];simp only [Er];rw [if_neg h2,if_neg h1]
    rw [e] at hf ⊢;obtain ⟨b1,b2⟩:=hskip N m row p (BZ c.datas (d+1) (c.rows.drop (row+1)) (row+1) m left).1 (by omega) hm hB hp (by omega);exact b2 (ihk (row+1) b1 (by omega) hf (by omega))
theorem Tr {P:Program} {f:FuncId} {vs vs':List V} {v:V} (hl:vs'.length=vs.length) (hv:∀(i:Nat) (x:V),vs'[i]?=some x->vs[i]?=some x\/∃z,vs[i]?=some z/\x=unn z) (h:Ak P f vs' v):Ak P f vs v:=by
 intro I μ w xs hst hx;refine h I μ w xs hst ⟨by rw [hx.1];simp [hl],λi u d hu hd=>?_⟩;rw [List.getElem?_map] at hd;cases hz:vs'[i]? with
 | none=>rw [hz] at hd;cases hd
 | some x =>
  rw [hz] at hd;cases hd;rcases hv i x hz with h | ⟨z,h,rfl⟩
  ·exact hx.2 i u (.imm x) hu (by rw [List.getElem?_map,h];rfl)
  ·exact .imm _ _ (hx.2 i u (.imm z) hu (by rw [List.getElem?_map,h];rfl)).immInv.unn
def dG (c:Cse) (m:Mi) (row:Nat):Prop:=XQ c.datas m/\∀v,Iu c.datas m v->∀i p,i<row->c.rows[i]?=some p->(AY p v).2=false
mutual
theorem Wz {ds:List Dt} (ho:OkW ds) {N:Nat}:∀(p:Ty) {m:Mi} {v:Ty},G0 ds N m=true->Do ds m->Cs ds m.ty p=true->BN p=true->(Ar ds p m).1=2 ->
  Iu ds (A0 ds m (Ar ds p m).2.1 (Ar ds p m).2.2 false) v->(AY p v).2=false
 | .mk f n x ps,m,v,hw,hc,hp,hpp,hl,hv=>by
  have hn:=(Bb.1 hw).1.1;have hsw:=C9 ho hw;have hsc:=C6 (ds:=ds) hc;by_cases h12:f=1\/f=2
  ·have e:Ar ds (.mk f n x ps) m=(1,[],zT):=by simp only [Ar,if_pos h12]
   rw [e] at hl;simp at hl
  obtain ⟨k1,k2,k3,k4⟩:=Ka hn hp hpp h12;have em:AY (.mk f n x ps) v=if AD (AQ (.mk f n x ps)) v=false then ([],false) else Bx ps (Br v):=by
   simp only [AY,if_neg (λh=>h12 (.inl h)),if_neg (λh=>h12 (.inr h))]
  rw [em];have el:Ar ds (.mk f n x ps) m=if AI (Ac ds m).hd=0/\BL (Ac ds m).nt (AQ (.mk f n x ps))=false then (2,[],AQ (.mk f n x ps)) else
   if AI (Ac ds m).hd=0\/AD (Ac ds m).hd (AQ (.mk f n x ps))=false then (0,[],zT) else AL ds 0 ps (Ac ds m).ks:=by simp only [Ar,if_neg h12]
  rw [el] at hl hv;have key:AI (Ac ds m).hd≠0->AD (Ac ds m).hd (AQ (.mk f n x ps))=true->(AW ds m.ty (CH (AQ (.mk f n x ps)))).1=(Ac ds m).ks.map Mi.ty:=λh0 hE=>by
   have:=((B0.1 hsc).2.1 h0).2;rw [IK hE,Df] at this;exact this.symm
  have hs0:AI (Ac ds m).hd=0->Ac ds m=m:=Tx;generalize AQ (.mk f n x ps)=h at *;by_cases h0:AI (Ac ds m).hd=0/\BL (Ac ds m).nt h=false
  ·rw [if_pos h0] at hv;have e:=hs0 h0.1;rw [e] at h0;rw [show A0 ds m [] h false = .mk m.ty (m.nt++[h]) m.hd m.ks from rfl,B3] at hv;have:=hv.2.1 h0.1;simp only [BL,Mi.nt,List.any_append,Bool.or_eq_false_iff,List.any_cons,List.any_nil,Bool.or_false] at this;rw [if_pos this.2]
  ·rw [if_neg h0] at hl hv;by_cases h1:AI (Ac ds m).hd=0\/AD (Ac ds m).hd h=false
   ·rw [if_pos h1] at hl;simp at hl
   ·rw [if_neg h1] at hl hv;have h00:AI (Ac ds m).hd≠0:=λe=>h1 (.inl e);have hE:AD (Ac ds m).hd h=true:=by cases e:AD (Ac ds m).hd h with
     | true=>rfl
     | false=>exact absurd (.inr e) h1
    rw [key h00 hE] at k3;obtain ⟨j,k,j1,j2,j3⟩:=TE ho ps (l:=(Ac ds m).ks) (i:=0) (λk hk=>⟨(Bb.1 hsw).2.2 k hk,(B0.1 hsc).2.2 k hk⟩) k3 k4 hl;generalize (AL ds 0 ps (Ac ds m).ks).2.2=hd at *;generalize (AL ds 0 ps (Ac ds m).ks).2.1=pth at *;rw [j1] at hv;simp only [A0,Int.zero_add,Int.toNat_natCast,j2] at hv;obtain ⟨hv1,hv2⟩:=(B3.1 hv).2.2 h00;simp only [Mi.hd,Mi.ks] at hv1 hv2;have he:AD h v=true:=by rw [<- HY hE];exact hv1
    rw [if_neg (by rw [he];simp)];exact j3 (Br v) hv2
theorem TE {ds:List Dt} (ho:OkW ds) {N:Nat}:∀(ps:List Ty) {l:List Mi} {i:Int},(∀k∈l,G0 ds N k=true/\Do ds k)->Cr ds (l.map Mi.ty) ps=true->BD ps=true->(AL ds i ps l).1=2 ->
  ∃(j:Nat) (k:Mi),(AL ds i ps l).2.1=(i+j)::(AL ds i ps l).2.1.tail/\l[j]?=some k/\∀vs,DU ds (l.set j (A0 ds k (AL ds i ps l).2.1.tail (AL ds i ps l).2.2 false)) vs->(Bx ps vs).2=false
 | [],l,i,_,_,_,h=>by simp [AL] at h
 | p::r,[],i,_,_,_,h=>by simp [AL] at h
 | p::r,k::ks,i,hk,hp,hpp,h=>by
  simp only [List.map_cons,Cr,BD,Bool.and_eq_true] at hp hpp;simp only [AL] at h ⊢;by_cases h1:(Ar ds p k).1=1
  ·rw [if_pos h1] at h ⊢;obtain ⟨j,y,y1,y2,y3⟩:=TE ho r (l:=ks) (i:=i+1) (λy hy=>hk y (by simp [hy])) hp.2 hpp.2 h;refine ⟨j+1,y,by rw [y1];simp only [List.tail_cons,List.cons.injEq,and_true];omega,by simpa using y2,λvs hv=>?_⟩;cases vs with
   | nil=>simp only [List.set_cons_succ,DU] at hv
   | cons v vs =>
    simp only [List.set_cons_succ,DU] at hv;have:=y3 vs hv.2;simp only [Bx,this,Bool.and_false];rfl
  ·rw [if_neg h1] at h ⊢;refine ⟨0,k,by simp,rfl,λvs hv=>?_⟩;cases vs with
   | nil=>simp only [List.set_cons_zero,DU] at hv
   | cons v vs =>
    simp only [List.set_cons_zero,DU,List.tail_cons] at hv;have:=Wz ho p (hk k (by simp)).1 (hk k (by simp)).2 hp.1 hpp.1 h hv.1;simp only [Bx,this,Bool.false_and];rfl
end
theorem dF {c:Cse} {m:Mi} {row:Nat} {p:Ty} {v:Ty} (hB:dG c m row) (hp:c.rows[row]?=some p) (hv:Iu c.datas m v) (hm:(AY p v).2=true):B5 v 0 c.rows=row:=by
 have:=(MW v c.rows 0 row p hp).2 ⟨λq hq=>?_,hm⟩
 ·simpa using this
 ·obtain ⟨i,hi⟩:=List.mem_iff_getElem?.1 hq;rw [List.getElem?_take] at hi
  split at hi
  ·exact hB.2 v hv i q (by assumption) hi
  ·cases hi
theorem jR {c:Cse} {m:Mi} {v:Ty} (hB:dG c m c.rows.length) (hv:Iu c.datas m v):B5 v 0 c.rows = -1 :=
 (KP v c.rows 0).2 λp hp=>by
  obtain ⟨i,hi⟩:=List.mem_iff_getElem?.1 hp;exact hB.2 v hv i p (List.getElem?_eq_some_iff.1 hi).1 hi
theorem W8 {c:Cse} {m m':Mi} {row:Nat} {p:Ty} (hB:dG c m row) (hnt:XQ c.datas m') (hp:c.rows[row]?=some p) (h1:∀v,Iu c.datas m' v->Iu c.datas m v) (h2:∀v,Iu c.datas m' v->(AY p v).2=false):dG c m' (row+1) :=
 ⟨hnt,λv hv i q hi hq=>by
  by_cases e:i=row
  ·subst e;rw [hp] at hq;cases hq;exact h2 v hv
  ·exact hB.2 v (h1 v hv) i q (by omega) hq⟩
def cs (ds:List Dt) (m:Mi) (path:List Int):Mi:=Ig ds m path (BP ds m path)
theorem aM {ds:List Dt} {m:Mi} {i:Int} {p:List Int} {k:Mi} (hk:(Ac ds m).ks[i.toNat]?=some k):cs ds m (i::p) = .mk (Ac ds m).ty (Ac ds m).nt (Ac ds m).hd ((Ac ds m).ks.set i.toNat (cs ds k p)):=by
 simp only [cs,Ig,BP,hk]
theorem pT (ds:List Dt) (m:Mi):∀path,EG ds m path->(cs ds m path).ty=m.ty
 | [],_=>rfl
 | i::p,⟨_,k,hk,_⟩=>by rw [aM hk];exact Df ds m
theorem aL {ds:List Dt} (ho:OkW ds) {N:Nat}:∀(path:List Int) {m c:Mi},Do ds m->G0 ds N c=true->Do ds c->stl ds m c->EG ds c path ->
  G0 ds N (cs ds c path)=true/\Do ds (cs ds c path)/\stl ds m (cs ds c path)/\EG ds (cs ds c path) path/\G6 (cs ds c path)<=max (G6 c) (path.length+2)/\BP ds (cs ds c path) path=BP ds c path
 | [],m,c,hm,hw,hc,hs,_=>⟨hw,hc,hs,trivial,Nat.le_max_left _ _,rfl⟩
 | i::p,m,c,hm,hw,hc,hs,⟨h0,k,hk,hp⟩=>by
  have hsw:=C9 ho hw;have hswi:=Bb.1 hsw;have hsc:=C6 (ds:=ds) hc;have hsci:=B0.1 hsc;have hkm:=List.mem_of_getElem? hk;have hil:=(List.getElem?_eq_some_iff.1 hk).1;have hB1:AI (Ac ds c).hd≠0:=λe=>by rw [hsci.1 e] at hkm;cases hkm
  obtain ⟨t1,t2,t3,t4⟩:=HG hm hs;obtain ⟨u1,u2⟩:=Fc.1 t4;obtain ⟨km,hkm2⟩:∃km,(Ac ds m).ks[i.toNat]?=some km:=⟨_,List.getElem?_eq_getElem (by omega)⟩
  have hmc:=B0.1 (C6 (ds:=ds) hm);obtain ⟨w1,w2,w3,w4,w5,w6⟩:=aL ho p (hmc.2.2 km (List.mem_of_getElem? hkm2)) (hswi.2.2 k hkm) (hsci.2.2 k hkm) (u2 _ km k hkm2 hk) hp;have hty:=pT ds k p hp;have hg1:=Ko ds c;rw [aM hk];have hss:Ac ds (.mk (Ac ds c).ty (Ac ds c).nt (Ac ds c).hd ((Ac ds c).ks.set i.toNat (cs ds k p))) = .mk (Ac ds c).ty (Ac ds c).nt (Ac ds c).hd ((Ac ds c).ks.set i.toNat (cs ds k p)):=C2 hB1;have hget:((Ac ds c).ks.set i.toNat (cs ds k p))[i.toNat]?=some (cs ds k p):=by rw [List.getElem?_set];simp [hil]
  refine ⟨Bb.2 ⟨⟨hswi.1.1,by simpa [Mi.ks] using hswi.1.2.1,hswi.1.2.2⟩,hswi.2.1,λy hy=>?_⟩,B0.2 ⟨λe=>absurd e hB1,λ_=>⟨(hsci.2.1 hB1).1,?_⟩,λy hy=>?_⟩,
   GH.2 ⟨_,.inr rfl,t1,t2,t3,Fc.2 ⟨by simpa [Mi.ks] using u1,λj a b ha hb=>?_⟩⟩,⟨h0,cs ds k p,by rw [hss];exact hget,w4⟩,?_,?_⟩
  ·rcases EI hy with hy | rfl
   ·exact hswi.2.2 y hy
   ·exact w1
  ·show ((Ac ds c).ks.set i.toNat (cs ds k p)).map Mi.ty=(AW ds (Ac ds c).ty (CH (Ac ds c).hd)).1;rw [<- (hsci.2.1 hB1).2];simp only [List.map_set,hty];apply List.ext_getElem?;intro j;rw [List.getElem?_set]
   split
   ·rename_i e;subst e;rw [if_pos (by simpa using hil)];simp [hk]
   ·rfl
  ·rcases EI hy with hy | rfl
   ·exact hsci.2.2 y hy
   ·exact w2
  ·change ((Ac ds c).ks.set i.toNat (cs ds k p))[j]?=some b at hb;rw [List.getElem?_set] at hb;by_cases e:i.toNat=j
   ·subst e;rw [if_pos rfl,if_pos hil] at hb;cases hb;rw [hkm2] at ha;cases ha;exact w3
   ·rw [if_neg e] at hb;exact u2 j a b ha hb
  ·rw [Gf];have:Gr ((Ac ds c).ks.set i.toNat (cs ds k p))<=max (G6 c) (p.length+3)-1:=MN.2 λy hy=>by
    rcases EI hy with hy | rfl
    ·have:=J5 hy;omega
    ·have:=J5 hkm;omega
   simp only [Mi.ks,List.length_cons] at *;omega
  ·have e1:BP ds (.mk (Ac ds c).ty (Ac ds c).nt (Ac ds c).hd ((Ac ds c).ks.set i.toNat (cs ds k p))) (i::p)=BP ds (cs ds k p) p:=by
    rw [BP,hss];show (match ((Ac ds c).ks.set i.toNat (cs ds k p))[i.toNat]? with | some k=>BP ds k p | none=>_)=_;rw [hget]
   have e2:BP ds c (i::p)=BP ds k p:=by rw [BP,hk]
   rw [e1,e2];exact w6
def sV:Ty->List Int->Ty->Prop
 | v,[],u=>u=v
 | v,i::p,u=>0<=i/\∃x,(Br v)[i.toNat]?=some x/\sV x p u
theorem VG {ds:List Dt} (ho:OkW ds) {N:Nat} {h:Ty} (hh:AI h≠0):∀(path:List Int) {m:Mi} {v:Ty},G0 ds N m=true->Io ds h m path->EG ds m path->Iu ds m v ->
  ∃u,sV v path u/\Iu ds (A0 ds m path h (AD h u)) v
 | [],m,v,hw,⟨h1,h2,_⟩,_,hv=>by
  rw [B3] at hv;obtain ⟨a,b,_⟩:=hv;refine ⟨v,rfl,?_⟩;cases e:AD h v with
  | true=>rw [show A0 ds m [] h true=Bm ds m h from rfl,IH hh];exact ⟨a,e⟩
  | false =>
   rw [show A0 ds m [] h false = .mk m.ty (m.nt++[h]) m.hd m.ks from rfl,B3];refine ⟨a,λ_=>?_,λe=>absurd h1 e⟩;have hb:=b h1;simp only [BL,Mi.nt,List.any_append,Bool.or_eq_false_iff,List.any_cons,List.any_nil,Bool.or_false] at hb ⊢;exact ⟨hb,e⟩
 | i::p,m,v,hw,⟨k,hk,h1,h2⟩,⟨h0,k2,hk2,hp⟩,hv=>by
  have hn:=(Bb.1 hw).1.1;have hsw:=C9 ho hw;have es:∀is,A0 ds m (i::p) h is = .mk (Ac ds m).ty (Ac ds m).nt (Ac ds m).hd ((Ac ds m).ks.set i.toNat (A0 ds k p h is)):=λis=>by simp only [A0,hk]
  rw [hk] at hk2;cases hk2;rw [<- Jy (m:=m) hn,B3] at hv;obtain ⟨a,b,c⟩:=hv;obtain ⟨c1,c2⟩:=c h1;obtain ⟨x,u1,u2,u3⟩:=WA hk c2;obtain ⟨u,q1,q2⟩:=VG ho hh p (fI hsw hk) h2 hp u2;refine ⟨u,⟨h0,x,u1,q1⟩,?_⟩;rw [es,B3];exact ⟨a,λe=>absurd e h1,λ_=>⟨c1,u3 _ q2⟩⟩
inductive Py:Nd->Ty->Int->Nat->Prop where
 | leaf (v:Ty) (r:Int):Py (HW r) v r 0
 | node {v u h:Ty} {path:List Int} {a b:Nd} {r:Int} {n:Nat} (hl:path.length<=1000) (hp:sV v path u) (hw:Py (if AD h u=true then a else b) v r n):Py (.mk 0 path [h] [a,b]) v r (n+1)
theorem XT (c:Cse) (h:Bt c=true) (d N:Nat) (m:Mi) (row:Nat) (left:Int) (hN:N+d<=100000) (hm:MOk c.datas c.type N m) (hB:dG c m row) (hrow:row<=c.rows.length) (hf:(BZ c.datas d (c.rows.drop row) row m left).2.1=true) :
  ∀v,Iu c.datas m v->∃k,Py (BZ c.datas d (c.rows.drop row) row m left).1 v (B5 v 0 c.rows) k:=by
 have ho:=OkW.of h;have hr:=RowsOk.of h;refine WS ho hr (K:=λ_ m _ t=>∀v,Iu c.datas m v->∃k,Py t v (B5 v 0 c.rows) k) (dG c)
  (λN m row p hN hm hB hp h1 v hv=>⟨0,?_⟩)
  (λN m hN hm hB v hv=>⟨0,by rw [jR hB hv];exact .leaf v (-1)⟩)
  (λN m row p t hN hm hB hp h0=>⟨W8 hB hB.1 hp (λv hv=>hv) λv hv=>?_,λh=>h⟩) (λN m row p a b hN hm hB hp h2=>?_) d N m row left hN hm hB hrow hf
 ·obtain ⟨hp1,hp2,_⟩:=hr.pat p (List.mem_of_getElem? hp);rw [dF hB hp hv (((Jq ho p hm.wf hm.coh (by rw [hm.typ];exact hp1) hp2).2 hv).1 h1)];exact .leaf v _
 ·obtain ⟨hp1,hp2,_⟩:=hr.pat p (List.mem_of_getElem? hp);exact ((Jq ho p hm.wf hm.coh (by rw [hm.typ];exact hp1) hp2).2 hv).2 h0
 ·obtain ⟨hp1,hp2,hp3⟩:=hr.pat p (List.mem_of_getElem? hp);have hpt:Cs c.datas m.ty p=true:=by rw [hm.typ];exact hp1
  have A:=H6 ho p hm.wf hm.coh hpt hp2 h2;have hfree:=(Jq ho p (v:=zT) hm.wf hm.coh hpt hp2).1 h2;have hsp:=λis v=>(Q0 ho (PX _ _ hfree) (Ar c.datas p m).2.1 (v:=v) hm.wf hfree).1 is;refine ⟨⟨Kd true _ hB.1 hfree,λv hv=>hB.2 v (hsp true v hv)⟩,W8 hB (Kd false _ hB.1 hfree) hp (hsp false) (λv hv=>Wz ho p hm.wf hm.coh hpt hp2 h2 hv),λhA hB' v hv=>?_⟩;have hlen:=IC c.datas p m;obtain ⟨u,u1,u2⟩:=VG ho (PX _ _ hfree) _ hm.wf hfree A.ok hv;cases e:AD (Ar c.datas p m).2.2 u with
  | true =>
   rw [e] at u2;obtain ⟨k,hk⟩:=hA v u2;exact ⟨k+1,.node (by omega) u1 (by rw [if_pos e];exact hk)⟩
  | false =>
   rw [e] at u2;obtain ⟨k,hk⟩:=hB' v u2;exact ⟨k+1,.node (by omega) u1 (by rw [if_neg (by rw [e];simp)];exact hk)⟩
mutual
def D6:Nd->Int->Int->Int
 | .mk _ _ _ ps,l,d=>if l<1\/d<1 then -1 else Ef ps (l-1) (d-1)
def Ef:List Nd->Int->Int->Int
 | [],l,_=>l
 | t::r,l,d=>if 0<=l then Ef r (D6 t l d) d else l
end
mutual
theorem SM:∀(t:Nd) (l d:Int),-1<=D6 t l d/\(0<=l->D6 t l d<l)
 | .mk _ _ _ ps,l,d=>by
  simp only [D6]
  split
  ·omega
  ·have:=Qm ps (l-1) (d-1) (by omega);omega
theorem Qm:∀(ps:List Nd) (l d:Int),-1<=l -> -1<=Ef ps l d/\Ef ps l d<=l
 | [],l,d,h=>by simp [Ef,h]
 | t::r,l,d,h=>by
  simp only [Ef];by_cases h0:0<=l
  ·rw [if_pos h0];have h1:=SM t l d;have h2:=Qm r (D6 t l d) d h1.1;omega
  ·rw [if_neg h0];omega
end
theorem WT {ds:List Dt} {g:List Ty->Nat->Mi->Int->Nd×Bool×Int} {d:Int} (hd:0<=d) (hg:∀l i m L,0<=L->(g l i m L).2.1=true->D6 (g l i m L).1 L d=(g l i m L).2.2/\0<=(g l i m L).2.2) :
  ∀l i m L,0<=L->(Er ds g l i m L).2.1=true->D6 (Er ds g l i m L).1 (L+1) (d+1)=(Er ds g l i m L).2.2/\0<=(Er ds g l i m L).2.2:=by
 have hlf:∀r L,0<=L->D6 (HW r) (L+1) (d+1)=L:=λr L h=>by
  simp only [HW,D6,Ef];rw [if_neg (by omega)];omega
 intro l
 induction l with
 | nil=>intro i m L h _;exact ⟨hlf _ L h,h⟩
 | cons p r ih =>
  intro i m L h hf;simp only [Er] at hf ⊢;by_cases h2:(Ar ds p m).1=2
  ·rw [if_pos h2] at hf ⊢;have h1:=hg (p::r) i (A0 ds m (Ar ds p m).2.1 (Ar ds p m).2.2 true) L h;generalize g (p::r) i (A0 ds m (Ar ds p m).2.1 (Ar ds p m).2.2 true) L=A at *;obtain ⟨a,f,L2⟩:=A;cases f with
   | false=>simp at hf
   | true =>
    simp only at hf h1 ⊢;obtain ⟨a1,a2⟩:=h1 trivial;obtain ⟨b1,b2⟩:=hg r (i+1) (A0 ds m (Ar ds p m).2.1 (Ar ds p m).2.2 false) L2 a2 hf;refine ⟨?_,b2⟩;simp only [D6,Ef];rw [if_neg (by omega),show L+1-1=L by omega,show d+1-1=d by omega,if_pos h,a1,if_pos a2,b1]
  ·rw [if_neg h2] at hf ⊢;by_cases h1:(Ar ds p m).1=1
   ·rw [if_pos h1];exact ⟨hlf _ L h,h⟩
   ·rw [if_neg h1] at hf ⊢;exact ih (i+1) m L h hf
theorem Pc (ds:List Dt):∀(d:Nat) l i m L,0<=L->(BZ ds d l i m L).2.1=true->D6 (BZ ds d l i m L).1 L d=(BZ ds d l i m L).2.2/\0<=(BZ ds d l i m L).2.2
 | 0,l,i,m,L,_,h=>by simp [BZ] at h
 | d+1,l,i,m,L,h0,h=>by
  rw [EK] at h ⊢;by_cases hl:L<1
  ·rw [if_pos hl] at h;simp at h
  ·rw [if_neg hl] at h ⊢;have:=WT (ds:=ds) (d:=d) (by omega) (Pc ds d) l i m (L-1) (by omega) h;rw [show L-1+1=L by omega] at this;exact this
theorem V5:∀(r:List Nd) {l d:Int},l<0->Ef r l d=l
 | [],l,d,h=>by simp [Ef]
 | t::r,l,d,h=>by simp only [Ef];rw [if_neg (by omega)]
theorem WM:∀(t:Nd) (l d:Int),0<=l->l<=1000->0<=d->d<=1000->Ak Tryz.prog 112 [.agg (Nx t),.int .i64 l,.int .i64 d] (.int .i64 (D6 t l d))
 | .mk op n x ks,l,d,hl0,hl1,hd0,hd1=>by
  refine AS λhv=>?_;simp [Cx,EM,Nx,Ba,JG,dNds_length,maxLen] at hv;refine Af Al Tryz.func112 (by decide +kernel) rfl [1,2,3,4] rfl rfl ?_;refine Ao rfl ?_;refine Ab rfl (λh=>?_) (λh=>?_)
  ·refine Aq rfl ?_;refine Aa rfl rfl (congrArg _ ?_);simp at h;simp only [D6];rw [if_pos (by omega)]
  simp at h;refine Aq rfl ?_;refine Am (λx:Nat×Int=>[(20,.imm (.int .i64 x.1)),(19,.imm (.int .i64 ks.length)),(18,.imm (.sl (Kz ks))),(1,.imm (.int .i64 x.2)),(2,.imm (.int .i64 d))]) (λ_=>[]) [2,3,4] (λx=>ks.length-x.1)
   (λy=>y.1<=ks.length/\D6 (.mk op n x ks) l d=Ef (ks.drop y.1) y.2 (d-1)/\0<=y.2/\y.2<l) (0,l-1)
   ⟨Nat.zero_le _,by simp only [D6,List.drop_zero];rw [if_neg (by omega)],by simp only;omega,by simp only;omega⟩ ⟨rfl,A3 (by simp),rfl,A3 (BI (by omega) (by omega)),rfl,trivial⟩ trivial rfl λy hi ih=>?_
  obtain ⟨i,m⟩:=y;obtain ⟨hi1,hi2,hi3,hi4⟩:=hi;simp only at hi1 hi2 hi3 hi4;refine Aq rfl ?_;refine Ab rfl (λh=>?_) (λh=>?_)
  ·simp at h;obtain ⟨t,ht⟩:=Ap (l:=ks) (i:=i) (by omega);rw [Av ht] at hi2;simp only [Ef,if_pos hi3] at hi2;have hw:IntKind.i64.wrap (d-1)=d-1:=BI (by omega) (by omega);have hW:=WM t m (d-1) (by omega) (by omega) (by omega) (by omega);have hb:=SM t m (d-1);have hg:=lF ht;rw [<- hw] at hW;rw [hw] at hW;obtain ⟨t1,t2,t3,t4⟩:=t;refine Aq rfl ?_;refine mi rfl (c:=Nx (.mk t1 t2 t3 t4)) (λ_=>⟨by simp,by simpa using hg,by simp⟩) (by simp) ?_;refine Ao rfl ?_;refine Ad rfl (v:=.int .i64 (D6 (.mk t1 t2 t3 t4) m (d-1))) (λ_=>by rw [hw];exact hW) (by simp) ?_;refine Ao rfl ?_;refine Ab rfl (λh=>?_) (λh=>?_)
   ·simp at h;refine Ay rfl ?_;refine Aq rfl ?_;refine Aa rfl rfl (congrArg _ ?_);rw [hi2,V5 _ h]
   ·simp at h;refine Aq rfl ?_;exact Ae (ih (i+1,D6 (.mk t1 t2 t3 t4) m (d-1)) (by simp only;omega) ⟨by simp only;omega,hi2,h,by simp only;omega⟩) ⟨A3 (BI (by omega) (by omega)),rfl,rfl,rfl,rfl,trivial⟩ trivial rfl
  ·simp at h;refine Ay rfl ?_;refine Aq rfl ?_;refine Aa rfl rfl (congrArg _ ?_);rw [hi2,List.drop_eq_nil_of_le (by omega)];rfl
termination_by t=>SizeOf.sizeOf t
decreasing_by
 have:=List.sizeOf_lt_of_mem (List.mem_of_getElem? ht);simp_wf;omega
theorem Ry (h:Ty):Bl (Et h)=Bl h:=by obtain ⟨a,b,c,d⟩:=h;rfl
theorem pN (h:Ty):Ak Tryz.prog 65 [.agg (S9 h)] (.agg (Bl h)):=by
 have:=QP (Et h);rw [Ry] at this;refine Tr (vs':=[.agg (dTyc (Et h))]) rfl (λi x hx=>?_) this
 match i,hx with
 | 0,hx =>
  refine .inr ⟨.agg (S9 h),rfl,?_⟩;rw [<- Option.some.inj hx];simp only [unn,fR]
theorem Wa (c:Cse) (sz:List (List V)) (ho:OkW c.datas) {t h:Ty} (hn:AK c.datas t=true) (hh:Kb c.datas t h):Ak Tryz.prog 155 [AE c sz,.agg (dTyc t),.agg (dTyc (Et h))] (.bool true):=by
 have hof:=QP (Et h);rw [Ry] at hof;have hp:Br (Et h)=[]:=by obtain ⟨a,b,c,d⟩:=h;rfl
 have hf:AI (Et h)=AI h:=by obtain ⟨a,b,c,d⟩:=h;rfl
 by_cases h1:AI t=1
 ·have hx:∃n,h = .mk 1 n [] [] /\ -1000000000<=n/\n<=1000000000:=by
   rcases hh with hh | hh
   ·obtain ⟨a,b,c,d⟩:=t;simp only [AI] at h1;subst h1;simp [AB] at hh
   ·exact hh.2
  obtain ⟨n,rfl,h2,h3⟩:=hx;have hpr:=Ts (.mk 1 n [] []) 0;simp only at hpr;rw [show HL 1 n [] 0=true by simp [HL,h2,h3]] at hpr;obtain ⟨s,t2,t3,t4⟩:=t;simp only [AI] at h1;subst h1;refine Af Al Tryz.func155 (by decide +kernel) rfl [1,2,3,4] rfl rfl ?_;refine Ao rfl ?_;refine Ai rfl λh=>?_;refine Aq rfl ?_;refine Ad rfl (λ_=>hof) (by simp [An,Et]) ?_;refine mg [] rfl (by simp [An,Et]) ?_;refine Ad rfl (λ_=>hpr) (by simp [An,Et]) ?_;refine mg [] rfl (by simp [An,Et];rfl) ?_;exact Au ⟨_,rfl,tV (by simp [Et]),trivial⟩
 ·have hm:h∈AB c.datas t:=hh.resolve_right (λh=>h1 h.1);have hH:=WN c sz t ho hn;have hC:=En (AB c.datas t) h;rw [show BL (AB c.datas t) h=true by simp only [BL,List.any_eq_true];exact ⟨h,hm,Rz h⟩] at hC;generalize AB c.datas t=L at *;obtain ⟨s,t2,t3,t4⟩:=t;obtain ⟨h1',h2',h3',h4'⟩:=h;simp only [AI] at h1;refine Af Al Tryz.func155 (by decide +kernel) rfl [1,2,3,4] rfl rfl ?_;refine Ao rfl ?_;refine Ab rfl (λh=>by exfalso;simp at h;exact h1 h) (λh=>?_);clear h;refine Aq rfl ?_;refine Ad rfl (λ_=>hH) (by simp [An,Et]) ?_;refine mg [] rfl (by simp [An,Et]) ?_;refine Ad rfl (λ_=>hof) (by simp [An,Et]) ?_;refine mg [] rfl (by simp [An,Et]) ?_;refine Ad rfl (λ_=>hC) (by simp [An,Et]) ?_
  refine mg [] rfl (by simp [An,Et];rfl) ?_;exact Au ⟨_,rfl,tV (by simp [Et]),trivial⟩
theorem Wb (c:Cse) (sz:List (List V)) (ho:OkW c.datas) {t h:Ty} (hn:AK c.datas t=true) (hh:Kb c.datas t h):Ak Tryz.prog 155 [AE c sz,.agg (dTyc t),.agg (S9 h)] (.bool true):=by
 have:=Wa c sz ho hn hh;generalize AE c sz=C at *;generalize dTyc t=T at *;refine Tr (vs':=[C,.agg T,.agg (dTyc (Et h))]) rfl (λi x hx=>?_) this
 match i,hx with
 | 0,hx=>exact .inl hx
 | 1,hx=>exact .inl hx
 | 2,hx =>
  refine .inr ⟨.agg (S9 h),rfl,?_⟩;rw [<- Option.some.inj hx];simp only [unn,fR]
theorem Zl (A:Asn):Bg Tryz.prog 154 [.raw In] [(3,some (.hp A))] (.ret (.own 2 0) [(3,some (.hp A)),(2,some (.row 122 3 []))]):=by
 refine Af Al Tryz.func154 (by decide +kernel) rfl [2,1] rfl rfl ?_;refine Ao rfl ?_;refine kF Al rfl ?_;refine Ao rfl ?_;refine Ai rfl λh=>?_;refine Aq rfl ?_;refine D4 (e:=122) (sz:=3) 2 2 (by decide) rfl ?_;exact Au ⟨_,rfl,rfl,rfl,rfl,trivial⟩
theorem eQ (ty:Ty) (nt:List Ty) (hd:Ty) (ks:List Mi) (y:Opn) (b:Nat) (hl:nt.length<=1000000) (hy:nt=[]->y.no=none/\y.nc=0) :
  Bg Tryz.prog 154 [.raw (H9 y.no nt.length y.nc)] [(3,some (.hp (Cf ty nt hd ks y b)))] (.ret (.own 2 (By nt).length) [(3,some (.hp (Cf ty nt hd ks y b))),(2,some (.row 122 3 (By nt)))]):=by
 by_cases e:nt=[]
 ·obtain ⟨e1,e2⟩:=hy e;subst e;rw [e1,e2];exact Zl _
 ·exact Ut ty nt hd ks y b e hl
theorem Vi (l:List Ty) (h:Ty) (len:Nat):Bg Tryz.prog 134 [.own 1 len,.imm (.agg (Bl h))] [(1,some (.row 122 3 (By l)))] (.ret (.imm (.bool (BL l h))) [(1,some (.row 122 3 (By l)))]):=by
 refine eE (stL:=[(1,some (.row 122 3 (By l)))]) (st0:=[]) (st1:=[]) (En l h) rfl trivial (by simp [D8,I5]) (λi b h j hj=>?_) λI J μ w hst hle hb xs hx=>?_
 ·rcases A7.1 h with ⟨_,rfl⟩ | ⟨_,h⟩
  ·simp [Sx] at hj
  ·simp [At,lk] at h
 ·refine ⟨hx.1,λi v d h1 h2=>?_⟩
  match i with
  | 0 =>
   simp at h2;subst h2;have h3:=hx.2 0 v _ h1 rfl;cases h3 with
   | own _ _ a cap hm =>
    have hl:At [(1,some (.row 122 3 (By l)))] 1 (.row 122 3 (By l)):=A7.2 (.inl ⟨rfl,rfl⟩);obtain ⟨g,q1,q2⟩:=hst.blk 1 _ hl;rw [hm] at q1;cases q1;exact .imm _ _ (W4 q2 hle λb ho=>hb 1 _ _ b hl hm ho)
  | 1 =>
   simp at h2;subst h2;exact hx.2 1 v _ h1 rfl
  | i+2=>simp at h2
theorem lO (c:Cse) (sz:List (List V)) (ho:OkW c.datas) (N:Nat) (hN:N<=1000000) (m:Mi) (b:Nat) (path:List Int) (h:Ty) (hl:path.length<=1000000) (hw:G0 c.datas N m=true) (hc:Do c.datas m) (hp:EG c.datas m path) :
  Bg Tryz.prog 122 [.imm (AE c sz),.raw (ptr b),.imm (.sl (Ba path)),.imm (.agg (Bl h))] [(1,some (.hp (AR m b)))] (.ret (.hv 2 0) [(3,some (.hp (AR m b))),(2,some (.hp (DJ (A0 c.datas m path h false))))]):=by
 have hC:=Ni c.datas N hN m b hw;have hA:=λx=>lM c sz ho N m x path hl hw hc hp;have hwp:=Bb.1 (PJ ho path m hw hp);obtain ⟨s1,s2⟩:=N9 h path m hp;have hnl:=hwp.1.2.2;obtain ⟨h1,h2,h3,h4⟩:=h;refine Af Al Tryz.func122 (by decide +kernel) rfl [4,5,6,7,8,9,10,11,12,13,14] rfl rfl ?_;refine Ao rfl ?_;refine A9 (fr:=[5,6]) [(1,1)] [(3,5),(2,6)] rfl (by simp) hC ⟨⟨rfl,rfl,rfl⟩,trivial⟩ rfl rfl rfl rfl ?_;refine E3 6 7 (λob:Nat=>[ptr ob]) (λob=>AR m ob) rfl (λvs I w bs h=>let ⟨ob,F,e1,e2,e3⟩:=h;⟨ob,e1,F,e2,e3⟩) λob=>?_;refine Aq rfl ?_;refine A9 (fr:=[8]) [(7,1)] [(2,8)] rfl (by simp) (hA ob) ⟨⟨rfl,rfl,rfl⟩,trivial⟩ rfl rfl rfl rfl ?_
 refine E3 8 9 (λx:Nat=>[ptr x]) (λx=>Ly (E4 ob x (Ig c.datas m path)) (AR (BP c.datas m path) x)) rfl (λvs I w bs h=>let ⟨x,b1,b2,e1,e2⟩:=h;⟨x,e1,b1,b2,e2⟩) λx=>?_;refine GQ 9 10 11 (λ_:Unit=>E4 ob x (Ig c.datas m path)) (λ_:Unit=>AR (BP c.datas m path) x) rfl (λvs I w bs ⟨b1,b2,h1,h2,h3,h4,h5⟩=>⟨(),b1,b2,h1,h2,h3,h4,h5⟩) λ_=>?_;refine Aq rfl ?_;refine Ai rfl λh=>?_;generalize hP:BP c.datas m path=P0 at *;obtain ⟨pty,pnt,phd,pks⟩:=P0;simp only [Mi.nt,Mi.ty,Mi.hd,Mi.ks] at hnl s2;refine Ca 11 (λy:Opn=>Cf pty pnt phd pks y x) rfl (λvs I w bs h=>Dx h) λy=>?_;refine Aq rfl ?_;refine Bz Al 11 [.raw (H9 y.no pnt.length y.nc)] rfl rfl (λ_ vs I w bs h=>GM h) rfl rfl (by simp [An]) ?_
 refine Dm rfl ?_;refine kI Al 11 12 (bA pty (pnt++[Ty.mk h1 h2 h3 h4]) phd pks x) rfl rfl (aW (h:=Ty.mk h1 h2 h3 h4) (bytes:=32) (by decide) (by omega)) ?_;refine Ao rfl ?_;refine KN Al 12 _ rfl rfl ZA ?_;refine mg [] rfl (by simp [An];rfl) ?_;refine Fu 10 12 13 (λ_:Unit=>AR (A0 c.datas m path (.mk h1 h2 h3 h4) false) ob) rfl rfl (by decide) (λvs us I w b1 b2 k1 k2 k3=>let ⟨bs,e1,e2⟩:=KA k1 k2 k3;⟨(),bs,e1,by rw [s2];exact e2⟩) λ_=>?_;refine FT 13 8 14 (DJ (A0 c.datas m path (.mk h1 h2 h3 h4) false)) rfl rfl rfl (λus I w bs h=>let ⟨F,e1,e2⟩:=h;⟨ob,F,rfl,e1,e2⟩) ?_;refine AG 14 2 rfl ?_;refine AG 5 3 rfl ?_;exact Au ⟨_,rfl,rfl,rfl,rfl,trivial⟩
end Go.Hk
namespace Go.Hk
structure sJ where
 b:Nat
 off:Nat
 i:TyI
 t:Nat
 todo:List DI
def ZC (tt:TT) (n:Nat) (env:Env) (id:Nat) (todo:List DI):Option sJ :=
 match Bk todo ([id],[id]) with
 | some (_,o,todo')=>match o.guard,o.op with
  | none,.load t x=>match lk tt t,D2 env x with
   | some i,some (.raw (.pointer (some ⟨b,off,none⟩)))=>match o.dst,BJ n o.dst with
    | some t',true=>some ⟨b,off,i,t',todo'⟩
    | _,_=>none
   | _,_=>none
  | _,_=>none
 | none=>none
section
variable {P:Program} {n:Nat} {F:List Nat} {Q:DQ} {tt:TT} {env:Env} {st:St} {ids:List Nat} {todo:List DI}
theorem kE (htt:TTok P tt) (id:Nat) {A:Asn} (B:Asn) {c:sJ} (ds:List D) {d:D} (h:ZC tt n env id todo=some c) (hl:lk st id=some (some (.hp A)))
  (hA:∀vs I w bs,A.P vs I w bs->Dc I w c.b c.off ds) (hB:∀vs I w bs,A.P vs I w bs->c.b∈bs/\B.P vs I w bs) (hlen:ds.length=c.i.size) (hd:GD c.i true ds 0=some d)
  (hk:G P n F Q c.todo ((c.t,d)::env) ((id,some (.hp B))::st) ids):G P n F Q todo env st ids:=by
 unfold ZC at h
 split at h
 ·rename_i all o todo' h1
  split at h
  ·rename_i t x hgd hop
   split at h
   ·rename_i i b off ht hx
    split at h
    ·rename_i t' hdst hd';cases h;have hk:G P n F Q todo' (BE o.dst d env) ([(id,some (.hp B))]++st) ids:=by rw [hdst];exact hk
     refine BC (fr:=[]) (wr:=[(id,some (.hp B))]) (rd:=[id]) h1 ?_ (by rw [hdst] at hd' ⊢;exact hd') (λc hc=>by rw [hop] at hc;cases hc) hk;intro I μ st1 ids1 a w hag hst hon;refine ⟨λ_=>?_,λhw=>by rw [AF hgd] at hw;cases hw⟩;have hops:=Bh hon;rw [hop] at hops;have rx:=(hops x (by simp [Op.operands]) _ hx).rawInv;have hl1:At st1 id (.hp A):=by unfold At;rw [hag id (by simp)];exact hl
     obtain ⟨gg,hg',us,bs,e1,e2⟩:=hst.blk id _ hl1;subst e1;obtain ⟨v,q1,q2⟩:=ZW (P:=P) (htt t i ht) (hA us I w bs e2) hlen hd μ;have hrun:(execOp a.eval o).run P w = .ok (.value v) w:=by
      simp only [execOp,hop,rx];exact A4 q1
     rw [hrun];obtain ⟨hb,hP⟩:=hB us I w bs e2;obtain ⟨r1,r2⟩:=hst.update (id:=id) (blk:=.hp A) (blk':=.hp B) (g:=Nw us bs) (b:=b) hl1 hg' (AX.2 hb) (w':=w) rfl rfl rfl rfl (λk hk=>rfl) ⟨us,bs,rfl,hP⟩;exact ⟨I,μ,r1,q2,Mu.le_refl μ,r2⟩
    ·cases h
   ·cases h
  ·cases h
 ·cases h
end
end Go.Hk
namespace Go.Hk
open Go.Proofs
theorem cV {I:Imm} {w:World} {m:Mi} {b:Nat} {us vs:List Value} {b1 bs:List Nat} (h:∀x∈b1,x∈bs) (hm:(AR m b).P us I w b1):(AR m b).P vs I w bs:=by
 obtain ⟨F,f1,f2⟩:=hm;exact ⟨F,f1,λq hq=>h q (f2 q hq)⟩
theorem Yd (c:Cse) (sz:List (List V)) (ho:OkW c.datas) (N:Nat) (hN:N<=1000000) (x:Mi) (path:List Int) (h:Ty) (a b:Nd)
  (hw:G0 c.datas N x=true) (hc:Do c.datas x) (hp:EG c.datas x path) (hpl:path.length<=100)
  (h0:AI (Ac c.datas (BP c.datas x path)).hd=0) (hok:Kb c.datas (BP c.datas x path).ty h) (hnot:BL (BP c.datas x path).nt h=false)
  (zw:G0 c.datas N (cs c.datas x path)=true) (zc:Do c.datas (cs c.datas x path)) (zp:EG c.datas (cs c.datas x path) path)
  (hA:Bg Tryz.prog 113 [.imm (AE c sz),.imm (.agg (Nx a)),.hv 1 0] [(1,some (.hp (DJ (A0 c.datas (cs c.datas x path) path h true))))] (.ret (.imm (.bool true)) []))
  (hB:Bg Tryz.prog 113 [.imm (AE c sz),.imm (.agg (Nx b)),.hv 1 0] [(1,some (.hp (DJ (A0 c.datas (cs c.datas x path) path h false))))] (.ret (.imm (.bool true)) [])) :
  Bg Tryz.prog 113 [.imm (AE c sz),.imm (.agg (Nx (.mk 0 path [h] [a,b]))),.hv 1 0] [(1,some (.hp (DJ x)))] (.ret (.imm (.bool true)) []):=by
 have hwp:=Bb.1 (PJ ho path x hw hp);have hAt:=λob=>lM c sz ho N x ob path (by omega) hw hc hp;have hKn:=λq=>Rl c sz (BP c.datas x path) q ho hwp.1.1;have hkb:G5 c.datas (BP c.datas x path)=false:=decide_eq_false (λh=>h h0);rw [hkb,Tx h0] at hKn;have hOf:=pN h;have hPs:=Wb c sz ho hwp.1.1 hok;have hnl:=hwp.1.2.2;have hSup:=λob=>LB c sz ho N hN (cs c.datas x path) ob path h true (by omega) zw zc zp;have hAs:=λob=>lO c sz ho N hN (cs c.datas x path) ob path h (by omega) zw zc zp;have hzip:Ig c.datas x path (BP c.datas x path)=cs c.datas x path:=rfl;obtain ⟨a1,a2,a3,a4⟩:=a;obtain ⟨b1,b2,b3,b4⟩:=b;obtain ⟨h1,h2,h3,h4⟩:=h
 refine Af Al Tryz.func113 (by decide +kernel) rfl [2,3,4,5,6,7,8,9,10,11,12,13,14,15,16,17,18,19,20] rfl rfl ?_;refine E3 1 2 (λob:Nat=>[ptr ob]) (λob=>AR x ob) rfl (λvs I w bs h=>let ⟨ob,F,e1,e2,e3⟩:=h;⟨ob,e1,F,e2,e3⟩) λob=>?_;refine Aq rfl ?_;refine Ab rfl (λh=>by exfalso;simp [JG,Kz] at h;exact absurd h (by decide)) (λh=>?_);clear h;refine Aq rfl ?_;refine Ab rfl (λh=>by exfalso;simp at h;omega) (λh=>?_);clear h;refine Aq rfl ?_;refine A9 (fr:=[4]) [(2,1)] [(2,4)] rfl (by simp) (hAt ob) ⟨⟨rfl,rfl,rfl⟩,trivial⟩ rfl rfl rfl rfl ?_
 refine E3 4 5 (λq:Nat=>[ptr q]) (λq=>Ly (E4 ob q (Ig c.datas x path)) (AR (BP c.datas x path) q)) rfl (λvs I w bs h=>let ⟨q,b1,b2,e1,e2⟩:=h;⟨q,e1,b1,b2,e2⟩) λq=>?_;refine GQ 5 6 7 (λ_:Unit=>E4 ob q (Ig c.datas x path)) (λ_:Unit=>AR (BP c.datas x path) q) rfl (λvs I w bs ⟨b1,b2,h1,h2,h3,h4,h5⟩=>⟨(),b1,b2,h1,h2,h3,h4,h5⟩) λ_=>?_;clear hAt hok h0 hkb zw zc zp hwp hw hc hp;generalize Ig c.datas x path=Z at *;generalize BP c.datas x path=P0 at *;generalize A0 c.datas (cs c.datas x path) path (.mk h1 h2 h3 h4) true=MT at *;generalize A0 c.datas (cs c.datas x path) path (.mk h1 h2 h3 h4) false=MF at *;generalize cs c.datas x path=zx at *;obtain ⟨⟨p1,p2,p3,p4⟩,pnt,phd,pks⟩:=P0
 simp only [Mi.nt,Mi.ty,Mi.hd,Mi.ks] at *;have hCt:=Vi pnt (.mk h1 h2 h3 h4) (By pnt).length;have hCl:=λy q hy=>eQ (.mk p1 p2 p3 p4) pnt phd pks y q (by omega) hy;rw [hnot] at hCt;refine Aq rfl ?_;refine B6 [(7,1)] [(2,8)] [] (fr:=[8]) (nm:=[8,7]) rfl rfl (by simp [An]) (hKn q) ⟨⟨rfl,rfl,rfl⟩,trivial⟩ rfl trivial rfl rfl rfl ?_;refine mg [] rfl (by simp [An,JG,Kz]) ?_;refine Ab rfl (λh=>by exfalso;simp [JG,Kz] at h;exact absurd h (by decide)) (λh=>?_);clear h;refine Ca 8 (λy:{ y:Opn // pnt=[]->y.no=none/\y.nc=0 }=>Cf (.mk p1 p2 p3 p4) pnt phd pks y.1 q) rfl (λvs I w bs h=>let ⟨y,hy⟩:=Dx h;⟨⟨y,λe=>by subst e;exact ZM hy⟩,hy⟩) λ⟨y,hy⟩=>?_;refine Aq rfl ?_
 refine Bz Al 8 [.raw (H9 y.no pnt.length y.nc)] rfl rfl (λ_ vs I w bs h=>GM h) rfl rfl (by simp [An]) ?_;refine Dm rfl ?_;refine B6 [(8,3)] [(2,9)] [8] (fr:=[9]) (nm:=[9]) rfl trivial (by simp) (hCl y q hy) ⟨⟨rfl,rfl,rfl⟩,trivial⟩ rfl ⟨⟨rfl,rfl⟩,trivial⟩ rfl rfl rfl ?_;refine Dm rfl ?_;refine Fu 6 8 10 (λ_:Unit=>Ly (E4 ob q Z) (Cf (.mk p1 p2 p3 p4) pnt phd pks y q)) rfl rfl (by decide) (λvs us I w b1 b2 k1 k2 k3=>⟨(),b1++b2,λq hq=>List.mem_append.1 hq,b1,b2,λq hq=>List.mem_append_left _ hq,λq hq=>List.mem_append_right _ hq,k3,k1,k2⟩) λ_=>?_;refine kZ ?_;refine Aq rfl ?_;refine Ab rfl (λh=>?_) (λh=>by exfalso;simp at h);clear h;refine Aq rfl ?_
 refine mi rfl (c:=S9 (.mk h1 h2 h3 h4)) (λ_=>⟨by simp,by simp [JG],by simp⟩) (by simp) ?_;refine Ao rfl ?_;refine Ah rfl hOf ?_;refine Ao rfl ?_;refine kE Al 10 (AR zx ob) ((dTyc (.mk p1 p2 p3 p4)).map .imm) rfl rfl (λvs I w bs ⟨b1,b2,e1,e2,e3,e4,e5⟩=>Jr e5) (λvs I w bs ⟨b1,b2,e1,e2,e3,e4,e5⟩=>⟨e2 q (let ⟨F,f1,f2,f3,f4⟩:=e5;f4 q (by simp [AT])),let ⟨b3,g1,g2⟩:=KA e4 (Eh (vs:=[]) e5) e3;hzip ▸ cV (λx hx=>(g1 x hx).elim (e1 x) (e2 x)) g2⟩) rfl rfl ?_;refine Dm rfl ?_;refine AN rfl hPs ?_;refine Dm rfl ?_;refine B6 [(9,1)] [] [9] (fr:=[]) (nm:=[]) rfl rfl (by simp [An]) hCt ⟨⟨rfl,rfl,rfl⟩,trivial⟩ rfl ⟨⟨rfl,rfl⟩,trivial⟩ rfl rfl rfl ?_;refine Dm rfl ?_
 refine mi rfl (c:=Nx (.mk a1 a2 a3 a4)) (λ_=>⟨by simp [Kz],by simp [Kz],by simp⟩) (by simp [An]) ?_;refine Dm rfl ?_;refine B6 [(10,1)] [(3,13),(2,14)] [] (fr:=[13,14]) (nm:=[13,14,10]) rfl rfl (by simp [An]) (hSup ob) ⟨⟨rfl,rfl,rfl⟩,trivial⟩ rfl trivial rfl rfl rfl ?_;refine Dm rfl ?_;refine B6 [(14,1)] [] [] (fr:=[]) (nm:=[14]) rfl rfl (by simp [An]) hA ⟨⟨rfl,rfl,rfl⟩,trivial⟩ rfl trivial rfl rfl rfl ?_;refine mg [] rfl (by simp [An];kernel_rfl) ?_;refine Ab rfl (λh=>by exfalso;simp at h) (λh=>?_);clear h;refine Aq rfl ?_;refine Cm Al rfl ⟨by simp,by simp [maxLen];omega,by simp;omega,trivial⟩ ?_;refine Ao rfl ?_
 refine A9 (fr:=[16,17]) [(13,1)] [(3,16),(2,17)] rfl (by simp) (hAs ob) ⟨⟨rfl,rfl,rfl⟩,trivial⟩ rfl rfl rfl rfl ?_;refine Ao rfl ?_;refine FS (env':=[(87,.imm (.int .i64 1)),(86,.imm (.int .i64 1)),(85,.imm (.sl [S9 (.mk h1 h2 h3 h4)])),(0,.imm (AE c sz)),(4,.ref 3 0),(9,.hv 17 0)])
  (st':=[(3,some (.immb 36 4 (Nx (.mk 0 path [.mk h1 h2 h3 h4] [.mk a1 a2 a3 a4,.mk b1 b2 b3 b4])))),(17,some (.hp (DJ MF)))]) (ids':=[18,19,20]) ⟨A3 (BI (by omega) (by omega)),rfl,rfl,rfl,rfl,rfl,trivial⟩ ⟨rfl,rfl,trivial⟩ rfl ?_
 refine Pp (λ_:Unit=>[(87,.imm (.int .i64 1)),(86,.imm (.int .i64 1)),(85,.imm (.sl [S9 (.mk h1 h2 h3 h4)])),(0,.imm (AE c sz)),(4,.ref 3 0),(9,.hv 17 0)])
  (λ_=>[(3,some (.immb 36 4 (Nx (.mk 0 path [.mk h1 h2 h3 h4] [.mk a1 a2 a3 a4,.mk b1 b2 b3 b4])))),(17,some (.hp (DJ MF)))]) [18,19,20] (λ_=>0) (λ_=>True) (λ_ _ _=>?_) () trivial
 refine Aq rfl ?_;refine Ab rfl (λh=>by exfalso;simp at h) (λh=>?_);clear h;refine Ay rfl ?_;refine Aq rfl ?_;refine mi rfl (c:=Nx (.mk b1 b2 b3 b4)) (λ_=>⟨by simp [JG],by simp [JG,Kz],by simp⟩) (by simp) ?_;refine Ao rfl ?_;refine B6 [(17,1)] [] [] (fr:=[]) (nm:=[17]) rfl trivial (by simp) hB ⟨⟨rfl,rfl,rfl⟩,trivial⟩ rfl trivial rfl rfl rfl ?_;refine Ao rfl ?_;exact Aa rfl rfl rfl
theorem Ye (c:Cse) (h:Bt c=true) (d N:Nat) (m:Mi) (row:Nat) (left:Int) (hN:N+d<=100000) (hm:MOk c.datas c.type N m) (hrow:row<=c.rows.length) (hf:(BZ c.datas d (c.rows.drop row) row m left).2.1=true) :
  ∀x,MOk c.datas c.type N x->stl c.datas m x->Bg Tryz.prog 113 [.imm (AE c (Ba (Dd c.datas))),.imm (.agg (Nx (BZ c.datas d (c.rows.drop row) row m left).1)),.hv 1 0] [(1,some (.hp (DJ x)))] (.ret (.imm (.bool true)) []):=by
 have ho:=OkW.of h;have hr:=RowsOk.of h;refine WS ho hr (K:=λN m _ t=>∀x,MOk c.datas c.type N x->stl c.datas m x->Bg Tryz.prog 113 [.imm (AE c (Ba (Dd c.datas))),.imm (.agg (Nx t)),.hv 1 0] [(1,some (.hp (DJ x)))] (.ret (.imm (.bool true)) [])) (λ_ _=>True)
  (λN m row p hN hm _ hp _ x _ _=>?_) (λN m hN hm _ x _ _=>?_) (λN m row p t _ _ _ _ _=>⟨trivial,λh=>h⟩) (λN m row p a b hN hm _ hp h2=>⟨trivial,trivial,λhA hB x hx hs=>?_⟩) d N m row left hN hm trivial hrow hf
 ·have:=LF c (Ba (Dd c.datas)) row x;rw [show (decide (-1<=(row:Int))&&decide ((row:Int)<c.rows.length))=true by
   have:=(List.getElem?_eq_some_iff.1 hp).1;simp;omega] at this
  exact this
 ·have:=LF c (Ba (Dd c.datas)) (-1) x;rw [show (decide (-1<=(-1:Int))&&decide ((-1:Int)<c.rows.length))=true by simp;omega] at this;exact this
 ·obtain ⟨hp1,hp2,hp3⟩:=hr.pat p (List.mem_of_getElem? hp);have hpt:Cs c.datas m.ty p=true:=by rw [hm.typ];exact hp1
  have hL:=Hg p hm.coh hs;have h2x:(Ar c.datas p x).1=2:=by rw [<- hL];exact h2
  have hxt:Cs c.datas x.ty p=true:=by rw [hx.typ];exact hp1
  have A:=H6 ho p hm.wf hm.coh hpt hp2 h2;have Ax:=H6 ho p hx.wf hx.coh hxt hp2 h2x;have hop:=TH c.datas p x h2x;have hfree:=(Jq ho p (v:=zT) hx.wf hx.coh hxt hp2).1 h2x;obtain ⟨f1,f2⟩:=TZ _ _ hfree;have hlen:=IC c.datas p m;rw [<- hL] at Ax hop f1 f2;obtain ⟨z1,z2,z3,z4,z5,_⟩:=aL ho (Ar c.datas p m).2.1 hm.coh hx.wf hx.coh hs Ax.ok;have hzt:=pT c.datas x (Ar c.datas p m).2.1 Ax.ok;have hz:MOk c.datas c.type N (cs c.datas x (Ar c.datas p m).2.1):=⟨z1,z2,by rw [hzt,hx.typ],by have:=hx.hgt;omega⟩
  have hLz:=Hg p hm.coh z3;have hsp:=λis=>hz.split ho hp1 hp2 hp3 (by rw [<- hLz];exact h2) is;rw [<- hLz] at hsp;exact Yd c _ ho N (by omega) x _ _ a b hx.wf hx.coh Ax.ok (by omega) hop f2 f1 z1 z2 z4 (hA _ (hsp true) (A.stl true _ z3)) (hB _ (hsp false) (A.stl false _ z3))
theorem UM (c:Cse) (hb:Bt c=true) (hf:(HF c).2.1=true):Ak Tryz.prog 60 [.agg (dCse c),.agg (Nx (HF c).1)] (.tup [AE c (Ba (Dd c.datas)),.int .i64 0]):=by
 have hW:=DY c;rw [hb] at hW;have hF:=Fs (AE c (Ba (Dd c.datas))) c.type;have hR:=Ye c hb 100 0 (As c.type) 0 400 (by omega) (MOk.of hb) (Nat.zero_le _) hf _ (MOk.of hb) (DZ _ _);rw [List.drop_zero] at hR;obtain ⟨w1,w2⟩:=Pc c.datas 100 c.rows 0 (As c.type) 400 (by omega) hf;rw [show BZ c.datas 100 c.rows 0 (As c.type) 400=HF c from rfl] at hR w1 w2;have hH:=WM (HF c).1 400 100 (by omega) (by omega) (by omega) (by omega);have hp:0<=D6 (HF c).1 400 100:=by rw [show ((100:Nat):Int)=100 from rfl] at w1;omega
 clear w1 w2 hf;generalize HF c=T at *;obtain ⟨⟨t1,t2,t3,t4⟩,fine,L⟩:=T;simp only at hR hH hp ⊢;generalize D6 (.mk t1 t2 t3 t4) 400 100=wn at *;obtain ⟨ds,⟨c1,c2,c3,c4⟩,rows⟩:=c;refine Af Al Tryz.func60 (by decide +kernel) rfl [1,2,3,4] rfl rfl ?_;refine Ao rfl ?_;refine Ah rfl hW ?_;refine Ao rfl ?_;refine AN rfl hH ?_;refine Ao rfl ?_;refine B6 [] [(2,3)] [] (fr:=[3]) (nm:=[3]) rfl (by simp [An];omega) (by simp [An];try omega) hF trivial rfl trivial rfl rfl rfl ?_;refine Ao rfl ?_;refine B6 [(3,1)] [] [] (fr:=[]) (nm:=[3]) rfl (by simp [An];omega) (by simp [An];try omega) hR ⟨⟨rfl,rfl,rfl⟩,trivial⟩ rfl trivial rfl rfl rfl ?_;refine mg [] rfl (by simp;rfl) ?_
 refine Ab rfl (λh=>by exfalso;simp at h;omega) (λh=>?_);refine Aq rfl ?_;exact Aa rfl rfl rfl
theorem fM (h u:Ty):Ak Tryz.prog 64 [.agg (S9 h),.ip 46 (dTyc u) 0] (.bool (AD h u)):=by
 have h1:=pN h;have h2:=QP u;obtain ⟨a1,a2,a3,a4⟩:=h;obtain ⟨u1,u2,u3,u4⟩:=u;refine PP ?_;refine Af Al Tryz.func64 (by decide +kernel) rfl [1,2,3,4] rfl rfl ?_;refine Ao rfl ?_;refine Ah rfl h1 ?_;refine Ao rfl ?_;refine Ah rfl h2 ?_;refine Ao rfl ?_;refine TX Al rfl KK (by simp [An]) ?_;refine mg [] rfl (by simp [An];rfl) ?_;refine Aa rfl rfl (congrArg _ ?_);simp only [AD];grind
theorem dV (g:FuncId) (a b:List V) (h:Ty) (q:Bool) (hq:Ak Tryz.prog g (a++[.agg (S9 h)]++b) (.bool q)) :
  Ak Tryz.prog 63 [.sl [S9 h],.clo (.func g) a b] (.int .i64 (if q=true then 0 else -1)):=by
 obtain ⟨a1,a2,a3,a4⟩:=h;refine Af Al Tryz.func63 (by decide +kernel) rfl [2,3,4] rfl rfl ?_;refine Ao rfl ?_;refine Am (λi:Nat=>[(8,.imm (.int .i64 i)),(7,.imm (.int .i64 1)),(0,.imm (.sl [S9 (.mk a1 a2 a3 a4)])),(1,.imm (.clo (.func g) a b))]) (λ_=>[]) [2,3,4] (λi=>1-i)
  (λi=>i=0\/(i=1/\q=false)) 0 (.inl rfl) ⟨rfl,A3 (by simp),rfl,rfl,trivial⟩ trivial rfl λi hi ih=>?_
 rcases hi with rfl | ⟨rfl,rfl⟩
 ·refine Aq rfl ?_;refine Ai rfl λh=>?_;refine Aq rfl ?_;refine mi rfl (c:=S9 (.mk a1 a2 a3 a4)) (λ_=>⟨by simp,by simp,by simp⟩) (by simp) ?_;refine Ao rfl ?_;refine MR rfl (λ_=>hq) (by simp) ?_;refine Ao rfl ?_;cases q with
  | true =>
   refine Ai rfl λh=>?_;refine Aq rfl ?_;exact Aa rfl rfl rfl
  | false =>
   refine Az rfl λh=>?_;refine Aq rfl ?_;exact Ae (ih 1 (by omega) (.inr ⟨rfl,rfl⟩)) ⟨A3 (BI (by omega) (by omega)),rfl,rfl,rfl,trivial⟩ trivial rfl
 ·refine Aq rfl ?_;refine Az rfl λh=>?_;refine Ay rfl ?_;refine Aq rfl ?_;exact Aa rfl rfl rfl
def sT:Nat->Int
 | 0=>0
 | j+1=>IntKind.i64.wrap (sT j+1)
theorem oL (c:Cse) (sz:List (List V)) (T:Nd) (v:Ty) (r:Int) (k:Nat) (hP:Ak Tryz.prog 60 [.agg (dCse c),.agg (Nx T)] (.tup [AE c sz,.int .i64 0]))
  (hF:Ak Tryz.prog 61 [.agg (dTyc v)] (.bool true)) (hI:Ak Tryz.prog 62 [AE c sz,.agg (dTyc c.type),.agg (dTyc v)] (.bool true)) (hW:Py T v r k) :
  Ak Tryz.prog 17 [.agg (dCse c),.agg (Nx T),.agg (dTyc v)] (.tup [.int .i64 r,.int .i64 (sT k),.int .i64 0]):=by
 obtain ⟨T1,T2,T3,T4⟩:=T;obtain ⟨ds,⟨c1,c2,c3,c4⟩,rows⟩:=c;obtain ⟨v1,v2,v3,v4⟩:=v;refine AS λhv=>?_;refine Af Al Tryz.func17 (by decide +kernel) rfl [1,2,3,4,5,6,7] rfl rfl ?_;refine Ao rfl ?_;refine Ah rfl hP ?_;refine Ao rfl ?_;refine AN rfl hF ?_;refine Dm rfl ?_;refine AN rfl hI ?_;refine Dm rfl ?_;refine Ab rfl (λh=>by exfalso;simp at h) (λh=>?_);clear h;refine Aq rfl ?_;refine Am (λz:Nd×Nat=>[(11,.imm (.int .i64 (sT z.2))),(4,.ref 2 0),(5,.ref 3 0)]) (λz=>[(2,some (.immb 36 4 (Nx z.1))),(3,some (.immb 46 4 (dTyc (.mk v1 v2 v3 v4))))]) [4,5,6,7] (λz=>k-z.2)
  (λz=>z.2<=k/\Py z.1 (.mk v1 v2 v3 v4) r (k-z.2)) (.mk T1 T2 T3 T4,0) ⟨Nat.zero_le _,hW⟩ ⟨rfl,rfl,rfl,trivial⟩ ⟨rfl,rfl,trivial⟩ rfl λz hz ih=>?_
 obtain ⟨t,j⟩:=z;obtain ⟨hj,hw⟩:=hz;simp only at hj hw;clear hW hP hF hI;obtain ⟨n,hn⟩:∃n,k-j=n:=⟨_,rfl⟩
 rw [hn] at hw;cases hw with
 | leaf =>
  obtain rfl:j=k:=by omega
  refine Aq rfl ?_;refine Ab rfl (λh=>by exfalso;simp [Kz] at h) (λh=>?_);refine Ay rfl ?_;refine Aq rfl ?_;exact Aa rfl rfl rfl
 | node hl hp hw =>
  rename_i u h path a b n;obtain ⟨a1,a2,a3,a4⟩:=a;obtain ⟨b1,b2,b3,b4⟩:=b;obtain ⟨h1,h2,h3,h4⟩:=h;have hIx:=dV 64 [] [.ip 46 (dTyc u) 0] (.mk h1 h2 h3 h4) _ (fM _ u);obtain ⟨q,hq⟩:∃q,AD (.mk h1 h2 h3 h4) u=q:=⟨_,rfl⟩
  rw [hq] at hw hIx;have hih:=λ(t:Nd) (ht:Py t (.mk v1 v2 v3 v4) r n)=>ih (t,j+1) (by simp only;omega) ⟨by simp only;omega,by simp only;rw [show k-(j+1)=n by omega];exact ht⟩;clear ih hq;refine Aq rfl ?_;refine Ab rfl (λh=>?_) (λh=>by exfalso;simp [Kz] at h);clear h;refine Aq rfl ?_;refine Am (λy:Nat×Ty=>[(45,.imm (.int .i64 y.1)),(44,.imm (.int .i64 path.length)),(43,.imm (.sl (Ba path))),(12,.ref 4 0),(11,.imm (.int .i64 (sT j))),(4,.ref 2 0),(5,.ref 3 0)])
   (λy=>[(2,some (.immb 36 4 (Nx (.mk 0 path [.mk h1 h2 h3 h4] [.mk a1 a2 a3 a4,.mk b1 b2 b3 b4])))),(3,some (.immb 46 4 (dTyc (.mk v1 v2 v3 v4)))),(4,some (.immb 46 4 (dTyc y.2)))]) [5,6,7] (λy=>path.length-y.1)
   (λy=>y.1<=path.length/\sV y.2 (path.drop y.1) u) (0,.mk v1 v2 v3 v4) ⟨Nat.zero_le _,hp⟩ ⟨rfl,A3 (by simp),rfl,rfl,rfl,rfl,rfl,trivial⟩ ⟨rfl,rfl,rfl,trivial⟩ rfl λy hy ih2=>?_
  obtain ⟨i,x⟩:=y;obtain ⟨hy1,hy2⟩:=hy;simp only at hy1 hy2;refine Aq rfl ?_;refine Ab rfl (λh=>?_) (λh=>?_)
  ·have hlt:i<path.length:=by simp at h;omega
   obtain ⟨m,hm⟩:=Ap hlt;rw [Av hm] at hy2;obtain ⟨hm0,x',hx,hy2⟩:=hy2;have hg:(BQ (Br x))[m.toNat]?=some (dTyc x'):=A5 hx;have hml:=(List.getElem?_eq_some_iff.1 hx).1;obtain ⟨x1,x2,x3,x4⟩:=x;obtain ⟨y1,y2,y3,y4⟩:=x';simp only [Br] at hg hml;refine Aq rfl ?_;refine mi rfl (c:=[.int .i64 m]) (λ_=>⟨by simp,by simp [Ba,hm],rfl⟩) (by simp) ?_;refine Ao rfl ?_;refine mi rfl (c:=dTyc (.mk y1 y2 y3 y4)) (λ_=>⟨hm0,by simpa using hg,by simp⟩) (by simp) ?_;refine Ao rfl ?_;exact Ae (ih2 (i+1,.mk y1 y2 y3 y4) (by simp only;omega) ⟨by simp only;omega,hy2⟩) ⟨A3 (BI (by omega) (by omega)),rfl,rfl,rfl,rfl,rfl,rfl,trivial⟩ ⟨rfl,rfl,rfl,trivial⟩ rfl
  ·have hlt:¬i<path.length:=by simp at h;omega
   rw [List.drop_eq_nil_of_le (by omega)] at hy2;have hxu:u=x:=hy2;subst hxu;clear ih2 h;obtain ⟨u1,u2,u3,u4⟩:=u;refine Ay rfl ?_;refine Kv 12 rfl rfl ?_;refine Aq rfl ?_;refine Ad rfl (λ_=>hIx) (by simp [JG]) ?_;refine Ao rfl ?_;cases q with
   | true =>
    refine Ab rfl (λh=>by exfalso;simp at h) (λh=>?_);clear h;refine Aq rfl ?_;refine mi rfl (c:=Nx (.mk a1 a2 a3 a4)) (λ_=>⟨by simp,by simp [Kz],by simp⟩) (by simp) ?_;refine Ao rfl ?_;exact Ae (hih (.mk a1 a2 a3 a4) (by simpa using hw)) ⟨rfl,rfl,rfl,trivial⟩ ⟨rfl,rfl,trivial⟩ rfl
   | false =>
    refine Ab rfl (λh=>?_) (λh=>by exfalso;simp at h);clear h;refine Aq rfl ?_;refine mi rfl (c:=Nx (.mk b1 b2 b3 b4)) (λ_=>⟨by simp [JG],by simp [JG,Kz],by simp⟩) (by simp) ?_;refine Ao rfl ?_;exact Ae (hih (.mk b1 b2 b3 b4) (by simpa using hw)) ⟨rfl,rfl,rfl,trivial⟩ ⟨rfl,rfl,trivial⟩ rfl
theorem jM {c:Cse} (h:Bt c=true) {v:Ty} (hv:HN c.datas c.type v):∃w,F3 c (As c.type) (B5 v 0 c.rows)=some w/\B5 w 0 c.rows=B5 v 0 c.rows/\HN c.datas c.type w/\Cv c.datas v w=false/\L4 w=true/\IT c.datas c.type w=true:=by
 have hf:=Oa v c.rows;have hm:=nI h (r:=B5 v 0 c.rows) hf.1 hf.2;have hF:=(TL h (B5 v 0 c.rows)).2;cases e:F3 c (As c.type) (B5 v 0 c.rows) with
 | none=>rw [e] at hm;exact absurd ⟨hv,rfl⟩ (hm v)
 | some w =>
  rw [e] at hm;obtain ⟨h1,h2⟩:=hF w e;exact ⟨w,rfl,hm.1.2,hm.1.1,hm.2 v ⟨hv,rfl⟩,h1,h2⟩
theorem XB {c:Cse} {v:Ty} (hc2:Bt c=true) (hval:L4 v=true) (hof:IT c.datas c.type v=true):Ak Tryz.prog 61 [.agg (dTyc v)] (.bool true)/\Ak Tryz.prog 62 [AE c (Ba (Dd c.datas)),.agg (dTyc c.type),.agg (dTyc v)] (.bool true):=by
 have hF:=R7 v;have hI:=jT c (Ba (Dd c.datas)) (OkW.of hc2).okd (OkW.of hc2).dif v c.type (CP hc2).2.2.1;rw [hof] at hI;have:(decide (0<=B8 v 20000 100)&&Mf v)=true:=(R6 v).trans hval;rw [this] at hF;exact ⟨hF,hI⟩
theorem CoverTotal_of (c:Cse) (v:Ty):Ak Tryz.prog 4 [.agg (dCse c),.agg (dTyc v)] (.bool true):=by
 have hG:=dZ c v;have hk:=dI;by_cases hgo:(NA c&&(Jt v&&IM c v))=true
 case neg =>
  generalize (NA c&&(Jt v&&IM c v))=g at *;have hgo:g=false:=by simpa using hgo
  subst hgo;obtain ⟨ds,⟨c1,c2,c3,c4⟩,rows⟩:=c;obtain ⟨g1,m,z,vs⟩:=v;refine Af Al Tryz.func4 (by decide +kernel) rfl [1,2,3,4] rfl rfl ?_;refine Ao rfl ?_;refine Ah rfl hG ?_;refine Ao rfl ?_;refine Ai rfl λh=>?_;refine Aq rfl ?_;refine Ah rfl hk ?_;refine Ao rfl ?_;exact Aa rfl rfl rfl
 rw [hgo] at hG;simp only [Bool.and_eq_true] at hgo;obtain ⟨_,hlit,hfin⟩:=hgo;have hN:=UU hlit;have hfin':=hfin;simp only [IM,<- Ol,Bool.and_eq_true] at hfin';obtain ⟨⟨hc2,hval⟩,hof⟩:=hfin';have hlen:=(RowsOk.of hc2).len;have ho:=OkW.of hc2;have hnm:=(CP hc2).2.2.1;have hask:=(R9 hc2 hval hof).1;have hvT:=mL hval hof;have hra:=Z6 c v;rw [hask] at hra;simp only [cond_true] at hra;have hfa:=Oa v c.rows;have hT:=oM c;rw [hc2] at hT;simp only [cond_true] at hT;have hWk:(HF c).2.1=true->∃n,Ak Tryz.prog 17 [.agg (dCse c),.agg (Nx (HF c).1),.agg (dTyc v)] (.tup [.int .i64 (B5 v 0 c.rows),.int .i64 n,.int .i64 0]):=λhf=>by
  obtain ⟨k,hw⟩:=XT c hc2 100 0 (As c.type) 0 400 (by omega) (MOk.of hc2) ⟨QW _ _,λv _ i p hi _=>by omega⟩ (Nat.zero_le _) hf v (Kl.2 hvT);rw [List.drop_zero] at hw;obtain ⟨hF,hI⟩:=XB hc2 hval hof;exact ⟨_,oL c _ (HF c).1 v _ k (UM c hc2 hf) hF hI hw⟩
 obtain ⟨w,hw1,hw2,hwT,hwb,hwv,hwo⟩:=jM hc2 hvT;have hwa:=R9 hc2 hwv hwo;have hww:decide (0<=B8 w 20000 100)=true:=by simp only [L4,Bool.and_eq_true] at hwv;exact hwv.1
 have hwn:Aj w<=20000:=by have:=((L1 w 20000 100).1.1 (of_decide_eq_true hww)).1;omega
 have hPr:=Yo c w;rw [hww,hwa.2] at hPr;have hBf:=Zv c ho v w hnm hof hwo (LK v hvT.2) (LK w hwT.2) (by omega) (by omega);rw [hwb] at hBf;have hrw:=Z6 c w;rw [hwa.1,hw2] at hrw;simp only [cond_true] at hrw;have hMn:∀(i:Nat) (p:Ty),c.rows[i]?=some p->(AY p v).2=false->∃L,Ak Tryz.prog 16 [.agg (dCse c),.int .i64 i,.agg (dTyc v)] (.tup [.sl (BS L),.int .i64 5]):=λi p hp hm=>by
  have:=Rd hask hp (by omega);rw [hm] at this;exact this
 have hA:B5 v 0 c.rows<0->(∀i:Nat,i<c.rows.length->∃L,Ak Tryz.prog 16 [.agg (dCse c),.int .i64 i,.agg (dTyc v)] (.tup [.sl (BS L),.int .i64 5])) /\
   Ak Tryz.prog 18 [.agg (dCse c)] (.tup [.agg (dTyc w),.int .i64 0]):=λh=>by
  have e:B5 v 0 c.rows = -1:=by omega
  refine ⟨λi hi=>?_,?_⟩
  ·obtain ⟨p,hp⟩:=Ap hi;exact hMn i p hp ((KP v c.rows 0).1 e p (List.mem_of_getElem? hp))
  ·have:=Mg c;rw [hc2,<- e,hw1] at this;exact this
 have hB:0<=B5 v 0 c.rows->∃k:Nat,B5 v 0 c.rows=k/\k<c.rows.length/\(∀i:Nat,i<k->∃L,Ak Tryz.prog 16 [.agg (dCse c),.int .i64 i,.agg (dTyc v)] (.tup [.sl (BS L),.int .i64 5])) /\
   (∃L,Ak Tryz.prog 16 [.agg (dCse c),.int .i64 k,.agg (dTyc v)] (.tup [.sl (BS L),.int .i64 0]))/\Ak Tryz.prog 19 [.agg (dCse c),.int .i64 k] (.tup [.agg (dTyc w),.int .i64 0]) /\
   Ak Tryz.prog 21 [.sl (Ba (CQ c c.rows.length)),.int .i64 k] (.bool false):=λh=>by
  obtain ⟨k,e⟩:∃k:Nat,B5 v 0 c.rows=k:=⟨(B5 v 0 c.rows).toNat,by omega⟩
  have hkl:k<c.rows.length:=by omega
  obtain ⟨p,hp⟩:=Ap hkl;obtain ⟨q1,q2⟩:=(MW v c.rows 0 k p hp).1 (by rw [e];simp);refine ⟨k,e,hkl,λi hi=>?_,?_,?_,?_⟩
  ·obtain ⟨r,hr⟩:=Ap (l:=c.rows) (i:=i) (by omega);exact hMn i r hr (q1 r (List.mem_of_getElem? (i:=i) (by rw [List.getElem?_take,if_pos hi];exact hr)))
  ·have:=Rd hask hp (by omega);rw [q2] at this;exact this
  ·have hS:=Oq c k;rw [hc2,show CR c k=true by simp only [CR,Bool.and_eq_true,decide_eq_true_eq];omega,<- e,hw1] at hS;rw [<- e];exact hS
  ·have hul:=JL c c.rows.length;have hCt:=Vr (CQ c c.rows.length) k (by omega);rw [decide_eq_false (λhm=>by
    obtain ⟨j,h1,_,h3⟩:=(OP c c.rows.length k).1 hm;rw [<- h1,<- e,hw1] at h3;cases h3)] at hCt
   exact hCt
 have hU:=Se c;rw [hc2] at hU;simp only [cond_true] at hU;unfold gA at hT;clear hMn hask hvT hwb hw1 hw2 hwT hwv hwo hwa hww hwn ho hnm hlit hfin hval hof hN;generalize CQ c c.rows.length=U at *;generalize B5 v 0 c.rows=a at *;generalize HF c=T at *;obtain ⟨⟨t1,t2,t3,t4⟩,fine,L⟩:=T;simp only at hT hWk;obtain ⟨ds,⟨c1,c2,c3,c4⟩,rows⟩:=c;obtain ⟨g1,m,z,vs⟩:=v;obtain ⟨w1,w2,w3,w4⟩:=w;simp only at hlen hfa hA hB;have J3:DGo Tryz.prog Tryz.f4.ntmps [] (K5 XP Tryz.f4.results.toList (.ret (.imm (.bool true)) [])) [.code (EN Tryz.f4 11)]
   [(17,.imm (.int .i64 0)),(16,.ref 3 0),(5,.imm (.int .i64 a)),(2,.ref 1 0),(3,.ref 2 0)] [(1,some (.immb 29 6 (dCse ⟨ds,.mk c1 c2 c3 c4,rows⟩))),(2,some (.immb 46 4 (dTyc (.mk g1 m z vs)))),(3,some (.immb 46 4 (dTyc (.mk w1 w2 w3 w4))))] [4,5]:=by
  refine Aq rfl ?_;refine AN rfl hPr ?_;refine Dm rfl ?_;refine AN rfl hBf ?_;refine Dm rfl ?_;refine Ab rfl (λh=>by exfalso;simp at h) (λh=>?_);clear h;refine Aq rfl ?_;refine Ah rfl hrw ?_;refine Ao rfl ?_;refine AN rfl hk ?_;refine Ao rfl ?_;exact Au ⟨_,rfl,tV (by simp),trivial⟩
 have J2:DGo Tryz.prog Tryz.f4.ntmps [] (K5 XP Tryz.f4.results.toList (.ret (.imm (.bool true)) [])) [.code (EN Tryz.f4 8)]
   [(5,.imm (.int .i64 a)),(2,.ref 1 0),(3,.ref 2 0)] [(1,some (.immb 29 6 (dCse ⟨ds,.mk c1 c2 c3 c4,rows⟩))),(2,some (.immb 46 4 (dTyc (.mk g1 m z vs))))] [3,4,5]:=by
  refine Aq rfl ?_;by_cases ha:a<0
  ·obtain ⟨_,hMs⟩:=hA ha;refine Ab rfl (λh=>?_) (λh=>by exfalso;simp at h;omega);clear h;refine Aq rfl ?_;refine Ah rfl hMs ?_;refine rR 6 rfl (by simp) ?_;exact Ae J3 ⟨rfl,rfl,rfl,rfl,rfl,trivial⟩ ⟨rfl,rfl,rfl,trivial⟩ rfl
  ·obtain ⟨k,rfl,hkl,_,⟨L2,hm⟩,hS,hCt⟩:=hB (by omega);refine Ab rfl (λh=>by exfalso;simp at h;omega) (λh=>?_);clear h;refine Aq rfl ?_;refine Ah rfl hm ?_;refine Ao rfl ?_;refine Ab rfl (λh=>by exfalso;simp at h) (λh=>?_);clear h;refine Aq rfl ?_;refine Ah rfl hS ?_;refine Ao rfl ?_;refine Ah rfl hU ?_;refine Ao rfl ?_;refine AN rfl hCt ?_;refine Dm rfl ?_;refine Ab rfl (λh=>by exfalso;simp at h) (λh=>?_);clear h;refine nH 1 rfl (by simp) ?_;exact Ae J3 ⟨rfl,rfl,rfl,rfl,rfl,trivial⟩ ⟨rfl,rfl,rfl,trivial⟩ rfl
 have J1:∀last:Nat,last<=rows.length->(∀i:Nat,i<last->∃L,Ak Tryz.prog 16 [.agg (dCse ⟨ds,.mk c1 c2 c3 c4,rows⟩),.int .i64 i,.agg (dTyc (.mk g1 m z vs))] (.tup [.sl (BS L),.int .i64 5])) ->
   DGo Tryz.prog Tryz.f4.ntmps [] (K5 XP Tryz.f4.results.toList (.ret (.imm (.bool true)) [])) [.code (EN Tryz.f4 6)]
   [(7,.imm (.int .i64 last)),(5,.imm (.int .i64 a)),(2,.ref 1 0),(3,.ref 2 0)] [(1,some (.immb 29 6 (dCse ⟨ds,.mk c1 c2 c3 c4,rows⟩))),(2,some (.immb 46 4 (dTyc (.mk g1 m z vs))))] [3,4,5,6]:=by
  intro last hl hm;refine Aq rfl ?_;refine Am (λi:Nat=>[(43,.imm (.int .i64 i)),(42,.imm (.int .i64 last)),(5,.imm (.int .i64 a)),(2,.ref 1 0),(3,.ref 2 0)]) (λ_=>[(1,some (.immb 29 6 (dCse ⟨ds,.mk c1 c2 c3 c4,rows⟩))),(2,some (.immb 46 4 (dTyc (.mk g1 m z vs))))]) [3,4,5,6] (λi=>last-i) (λi=>i<=last) 0 (Nat.zero_le _)
   ⟨rfl,rfl,rfl,rfl,rfl,trivial⟩ ⟨rfl,rfl,trivial⟩ rfl λi hi ih=>?_
  refine Aq rfl ?_;refine Ab rfl (λh=>?_) (λh=>?_)
  ·have hlt:i<last:=by simp at h;omega
   obtain ⟨L2,hMi⟩:=hm i hlt;refine Aq rfl ?_;refine Ah rfl hMi ?_;refine Ao rfl ?_;refine Ab rfl (λh=>by exfalso;simp at h) (λh=>?_);clear h;refine Aq rfl ?_;exact Ae (ih (i+1) (by omega) (by omega)) ⟨A3 (BI (by omega) (by omega)),rfl,rfl,rfl,rfl,trivial⟩ ⟨rfl,rfl,trivial⟩ rfl
  ·refine Ay rfl ?_;refine Aq rfl ?_;cases fine with
   | true =>
    simp only [if_true] at hT;obtain ⟨n,hWk⟩:=hWk rfl;refine Ah rfl hT ?_;refine Ao rfl ?_;refine Ab rfl (λh=>?_) (λh=>by exfalso;simp at h);clear h;refine Aq rfl ?_;refine Ah rfl hWk ?_;refine Dm rfl ?_;refine Ab rfl (λh=>by exfalso;simp at h) (λh=>?_);clear h;refine nH 1 rfl (by simp) ?_;exact Ae J2 ⟨rfl,rfl,rfl,trivial⟩ ⟨rfl,rfl,trivial⟩ rfl
   | false =>
    simp only [Bool.false_eq_true,if_false] at hT;refine Ah rfl hT ?_;refine Ao rfl ?_;refine Ab rfl (λh=>by exfalso;simp at h) (λh=>?_);clear h;refine Aq rfl ?_;refine Ab rfl (λh=>by exfalso;simp at h) (λh=>?_);clear h;refine nH 1 rfl (by simp) ?_;exact Ae J2 ⟨rfl,rfl,rfl,trivial⟩ ⟨rfl,rfl,trivial⟩ rfl
 refine Af Al Tryz.func4 (by decide +kernel) rfl [1,2,3,4,5,6] rfl rfl ?_;refine Ao rfl ?_;refine Ah rfl hG ?_;refine Ao rfl ?_;refine Ab rfl (λh=>by exfalso;simp at h) (λh=>?_);clear h;refine Aq rfl ?_;refine Ah rfl hra ?_;refine Ao rfl ?_;refine Ab rfl (λh=>by exfalso;simp at h) (λh=>?_);clear h;refine Aq rfl ?_;by_cases ha:a<0
 ·refine Ab rfl (λh=>?_) (λh=>by exfalso;simp at h;omega);clear h;refine nH 6 rfl (by simp) ?_;exact Ae (J1 rows.length (Nat.le_refl _) (hA ha).1) ⟨A3 (by simp),rfl,rfl,rfl,trivial⟩ ⟨rfl,rfl,trivial⟩ rfl
 ·obtain ⟨k,hka,hkl,hm,_⟩:=hB (by omega);refine Ab rfl (λh=>by exfalso;simp at h;omega) (λh=>?_);clear h;refine nH 1 rfl (by simp) ?_;exact Ae (J1 k (by omega) hm) ⟨A3 (by omega),rfl,rfl,rfl,trivial⟩ ⟨rfl,rfl,trivial⟩ rfl
end Go.Hk
namespace Go.Hk
open Go.RowKit Go.WideShapes Go.ChangeShapes
theorem Ext.below {I I':Imm} {μ μ':Mu} {w w':World} {st':St} (h:Ext I μ [] w I' μ' st' w'):Below w.heap.size w w' :=
 ⟨h.os,h.tape,h.output,h.size,λk hk=>h.block k hk (by rintro ⟨id,blk,g,hl,_⟩;cases hl)⟩
theorem jQ {H:Type} {enc:TypeId×Value->H} {P:Program} {f:Func} {s:ChangeSpec} {apart fresh handsOn again:Bool} {W W':World} {args:Array Value} {v:Value} {ds gs:List (DataW H)} {before pa pv:List MemPlace}
  (hW:DataW.Whole enc P f.params.toList s.vars apart W args.toList ds gs before) (hb:Below W.heap.size W W') (hps:before=pa++pv)
  (hres:∀(b:Nat) (sp:Nat->Bool) (hd:Bool),DataW.TrodAll enc P W' b sp hd f.resultTypes.toList (v.resultList f.resultTypes.size) (s.fn H (ds++gs)).results [])
  (hargs:∀sp:Nat->Bool,(∀p∈before,sp p.block=true)->DataW.TrodAll enc P W' 0 sp true f.params.toList args.toList (s.fn H (ds++gs)).args pa)
  (hvars:∀sp:Nat->Bool,(∀p∈before,sp p.block=true)->DataW.TrodVars enc P W' sp s.vars (s.fn H (ds++gs)).vars pv)
  (hok:∀(j:Nat) (t:TypeId) (r:Value),f.resultTypes[j]?=some t->(v.resultList f.resultTypes.size)[j]?=some r->Value.okWide P W' .any 0 t r) :
  s.post enc P f apart fresh handsOn again W args v W':=by
 have lt:∀p∈before,decide (p.block<W.heap.size)=true:=λp hp=>by simpa using hW.lt p hp
 refine ⟨ds,gs,before,[],pa,pv,hW,hres _ _ _,hargs (λb=>decide (b<W.heap.size)) lt,hvars (λb=>decide (b<W.heap.size)) lt,World.keptBut_mono (λp hp=>⟨hp,.inr ?_⟩) (hb.frame (· ∈ before)),λ_=>⟨hok,?_⟩⟩
 ·rw [hps] at hp;exact List.mem_append.1 hp
 ·have hlt:=hW.lt;obtain ⟨_,_,_,_,_,hz,hn⟩:=hW;refine ⟨(s.fn H (ds++gs)).results++(s.fn H (ds++gs)).args,(s.fn H (ds++gs)).vars,pa++pv,⟨pa,pv,?_,hvars _ (λ_ _=>rfl),rfl,λb off hp=>?_,λha=>?_⟩,λp hp _=>by rw [hps];exact hp⟩
  ·have:=trodAll_append (hargs (λ_=>true) λ_ _=>rfl) (hres 0 (λ_=>true) true);simpa using this
  ·have hin:MemPlace.cell b off∈before:=by rw [hps];exact hp
   rw [hb.frozen (hlt _ hin)];exact hz b off hin
  ·rw [<- hps];exact hn ha
end Go.Hk
