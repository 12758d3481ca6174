/- hearthlaw04.CoverLess returns true for every case, row and value, and changes nothing: a row of no use may be left out. No condition. (And what it stands on.) -/
import Derived.Test.YtondpmificgknaaGreatWe
import Derived.Test.YtondpmificgknaaGreatWc
import Derived.Test.YtondpmificgknaaGreatWb
import Derived.Below
import Derived.ChangeSame
import Derived.ChangeOld
import Derived.Carry
import Derived.ChangeArms
import Derived.DataReads
import Derived.WideKeyArgs
import Derived.OpenShut
import Derived.RowKit
import Derived.ProofKit
import Derived.Test.YtondpmificgknaaGreatRows
import Derived.WalkKit
set_option linter.unusedSimpArgs false
set_option linter.unusedVariables false

set_option maxRecDepth 100000
namespace Go.Hk
open Go.Proofs
def Ox (q:Ty->Bool):Int->List Ty->Int
 | _,[]=>-1
 | i,x::r=>if q x=true then i else Ox q (i+1) r
theorem S5 (q:Ty->Bool):∀(l:List Ty) (i:Nat),(Ox q i l = -1/\∀x∈l,q x=false)\/∃(k:Nat) (x:Ty),Ox q i l=((i+k:Nat):Int)/\l[k]?=some x/\q x=true/\∀y∈l.take k,q y=false
 | [],i=>.inl ⟨rfl,λx hx=>by cases hx⟩
 | x::r,i=>by
  by_cases hx:q x=true
  ·exact .inr ⟨0,x,by simp only [Ox,if_pos hx];rfl,rfl,hx,λy hy=>by simp at hy⟩
  ·have hxf:q x=false:=by simpa using hx
   have e:Ox q i (x::r)=Ox q ((i+1:Nat):Int) r:=by simp only [Ox,if_neg hx];rfl
   rw [e];rcases S5 q r (i+1) with ⟨h1,h2⟩ | ⟨k,y,h1,h2,h3,h4⟩
   ·exact .inl ⟨h1,λy hy=>by rcases List.mem_cons.1 hy with rfl | hy;exact hxf;exact h2 y hy⟩
   ·refine .inr ⟨k+1,y,by rw [h1];congr 1;omega,by simpa using h2,h3,λz hz=>?_⟩;rw [List.take_succ_cons] at hz;rcases List.mem_cons.1 hz with rfl | hz
    ·exact hxf
    ·exact h4 z hz
theorem R3 (L:List Ty) (g:FuncId) (a b:List V) (q:Ty->Bool) (hq:∀h,Al Tryz.prog g (a++[.agg (Bh h)]++b) (.bool (q h))) :
  Al Tryz.prog 215 [.sl (Bu L),.clo (.func g) a b] (.int .i64 (Ox q 0 L)):=by
 refine AI λhv=>?_;simp [Cf,Ey,maxLen] at hv;have hl:=hv.1;refine Ae Ak Tryz.func215 (by decide +kernel) rfl [1,2] rfl rfl ?_;refine mg [] rfl (by simp) ?_;refine Aj (λi:Nat=>[(8,.imm (.int .i64 i)),(7,.imm (.int .i64 L.length)),(0,.imm (.sl (Bu L))),(1,.imm (.clo (.func g) a b))]) (λ_=>[]) [1,2] (λi=>L.length-i) (λi=>i<=L.length/\Ox q 0 L=Ox q i (L.drop i)) 0
  ⟨Nat.zero_le _,rfl⟩ ⟨rfl,As (by simp),rfl,rfl,trivial⟩ trivial rfl λi hi ih=>?_
 obtain ⟨hi1,hi2⟩:=hi;refine md [] rfl (by simp) ?_;refine Aa rfl (λh=>?_) (λh=>?_)
 ·simp at h;obtain ⟨x,hx⟩:=Am h;rw [Ao hx] at hi2;simp only [Ox] at hi2;have hqx:=hq x;refine md [] rfl (by simp) ?_;refine mi rfl (c:=Bh x) (λ_=>⟨by simp,by simpa using Jr hx,by simp⟩) (by simp) ?_;obtain ⟨x1,x2,x3,x4⟩:=x;refine mg [] rfl (by simp) ?_;refine OP rfl (λ_=>hqx) (by simp) ?_;refine mg [] rfl (by simp) ?_;cases hb:q (.mk x1 x2 x3 x4) with
  | true =>
   rw [if_pos hb] at hi2;refine Aa rfl (λh=>?_) (λh=>by simp at h);refine md [] rfl (by simp) ?_;refine Ab ⟨_,rfl,tV ?_,trivial⟩;rw [hi2]
  | false =>
   rw [if_neg (by simp [hb])] at hi2;refine Aa rfl (λh=>by simp at h) (λh=>?_);refine md [] rfl (by simp) ?_;exact Ad (ih (i+1) (by omega) ⟨by omega,hi2⟩) ⟨As (B9 (by omega) (by omega)),rfl,rfl,rfl,trivial⟩ trivial rfl
 ·simp at h;rw [List.drop_eq_nil_of_le (by omega)] at hi2;refine Ar rfl ?_;refine md [] rfl (by simp) ?_;refine Ab ⟨_,rfl,tV ?_,trivial⟩;rw [hi2];rfl
theorem Lo {e:TypeId} {sz:Nat} {es:List (List V)} {v:Value} {vs:List Value} {I:Imm} {w:World} {bs:List Nat} (hp:0<sz) (h:(R2 e sz es v).P vs I w bs) :
  ∃xs,w.ownsRow 0 e sz v es.length xs/\RepVL I xs es.flatten/\(∀c∈es,c.length=sz)/\(∀c∈es,∀x∈c,V.one x=true)/\0<sz/\∀k,v.ownBlock=some k->k∈bs:=by
 rcases h with ⟨rfl,rfl,rfl⟩ | ⟨b,cap,cur,rfl,rfl,h3,h4,h5,h6,h7,h8,h9,h10⟩
 ·exact ⟨[],World.ownsRow_nil w 0 e sz,.nil,by simp,by simp,hp,λk hk=>by cases hk⟩
 ·have hcs:cur.toList.length=cap*sz:=by simpa using h6
  refine ⟨_,⟨by rw [List.length_take,hcs];exact Nat.min_eq_left (Nat.mul_le_mul_right _ h4),.inr ⟨b,cap,cur,rfl,Nat.zero_le _,h3,h4,h5,h6,rfl⟩⟩,h7,h8,h9,h10,λk hk=>by simpa [Value.ownBlock] using hk.symm⟩
theorem bB {e:TypeId} {sz:Nat} {es es1:List (List V)} {b cap len:Nat} (hes:es1=es.take es1.length) (hlen:es.length=es1.length+len):TV (R2 e sz es (.slice (some ⟨b,0,none⟩) es.length cap)) (R2 e sz es1 (.slice (some ⟨b,0,none⟩) es1.length cap)) b (es1.length*sz) (len*sz):=by
 intro us I w bs h;rcases h with ⟨h,_⟩ | ⟨b',cap',cur,h1,h2,h3,h4,h5,h6,h7,h8,h9,h10⟩
 ·cases h
 cases h1;subst h2;refine ⟨by simp,cur,e,h3,by rw [h6,<- Nat.add_mul,<- hlen];exact Nat.mul_le_mul_right _ h4,λnews n1 n2=>?_⟩;have hle:es1.length<=es.length:=by omega
 have hcs:cur.toList.length=cap*sz:=by simpa using h6
 have hc:es1.length*sz<=cur.toList.length:=by rw [hcs];exact Nat.mul_le_mul_right _ (by omega)
 have hmem:∀c∈es1,c∈es:=λc hc=>by rw [hes] at hc;exact List.mem_of_mem_take hc
 refine .inr ⟨b,cap,_,rfl,rfl,setRow_heap w b cur _ e _ h3,by omega,h5,?_,?_,λc hc=>h8 c (hmem c hc),λc hc=>h9 c (hmem c hc),h10⟩
 ·have e1:es1.length*sz+len*sz<=cap*sz:=by rw [<- Nat.add_mul,<- hlen];exact Nat.mul_le_mul_right _ h4
  rw [List.size_toArray,List.length_append,List.length_append,List.length_take,List.length_drop,hcs,n1];omega
 ·rw [List.toList_toArray,List.append_assoc,List.take_append_of_le_length (by rw [List.length_take];omega),List.take_take,Nat.min_self];have e2:cur.toList.take (es1.length*sz)=(cur.toList.take (es.length*sz)).take (es1.length*sz):=by rw [List.take_take,Nat.min_eq_left (Nat.mul_le_mul_right _ hle)]
  have e3:es1.flatten=es.flatten.take (es1.length*sz):=by
   have:=congrArg List.flatten (List.take_append_drop es1.length es);rw [<- hes,List.flatten_append] at this;rw [<- this,List.take_append_of_le_length (by rw [AF (λc hc=>h8 c (hmem c hc))];omega),List.take_of_length_le (by rw [AF (λc hc=>h8 c (hmem c hc))];omega)]
  rw [e2,e3];refine ⟨(List.length_take).trans (by rw [h7.1];exact (List.length_take).symm),λi v x hv hx=>?_⟩;rw [List.getElem?_take] at hv hx
  split at hv
  ·rename_i hi;rw [if_pos hi] at hx;exact h7.2 i v x hv hx
  ·cases hv
def ES (q:Ty->Bool) (L:List Ty):List Ty:=L.filter λh=>!q h
theorem Qk {q:Ty->Bool} {L:List Ty} {j:Nat} {x:Ty} (h:L[j]?=some x):ES q (L.take (j+1))=ES q (L.take j)++(if q x=true then [] else [x]):=by
 rw [Be h];cases hb:q x <;> simp [ES,hb]
theorem Ql {q:Ty->Bool} {L:List Ty} (h:∀x∈L,q x=false):ES q L=L:=List.filter_eq_self.2 λx hx=>by simp [h x hx]
set_option maxHeartbeats 4000000 in
theorem Rd (L:List Ty) (hL:L.length<=1000) (g:FuncId) (a b:List V) (q:Ty->Bool) (hq:∀h,Al Tryz.prog g (a++[.agg (Bh h)]++b) (.bool (q h))) :
  AV Tryz.prog 194 [.own 1 (Bu L).length,.imm (.clo (.func g) a b)] [(1,some (.row 150 3 (Bu L)))]
   (.ret (.own 2 (Bu (ES q L)).length) [(2,some (.row 150 3 (Bu (ES q L))))]):=by
 have hI:=R3 L g a b q hq;have hs:=S5 q L 0;rw [show ((0:Nat):Int)=0 from rfl] at hs;refine Ae Ak Tryz.func194 (by decide +kernel) rfl [3,2,4,5,6] rfl rfl ?_;refine mg [] rfl (by simp) ?_;refine Hv rfl (v:=.int .i64 (Ox q 0 L)) (λ_=>hI) rfl (by simp) ?_;refine mg [] rfl (by simp) ?_;rcases hs with ⟨h1,h2⟩ | ⟨k,x,h1,h2,h3,h4⟩
 ·rw [h1];refine Aa rfl (λh=>?_) (λh=>by simp at h);refine md [] rfl (by simp) ?_;rw [Ql h2];refine IB 1 3 rfl λv=>?_;refine Jx 3 4 2 (Bu L) rfl rfl (λvs I w bs h=>Lo (by decide) h) ?_;exact Ab ⟨_,rfl,rfl,rfl,trivial⟩
 rw [h1];have hk:=(List.getElem?_eq_some_iff.1 h2).1;refine Aa rfl (λh=>by simp at h) (λh=>?_);clear h;have ew:IntKind.i64.wrap (((0+k:Nat):Int)+1)=((k+1:Nat):Int):=by rw [B9 (by omega) (by omega)];omega
 refine md [] rfl (by simp) ?_;refine Aj (λy:Nat×Nat×List Ty=>[(6,.imm (.int .i64 y.2.1)),(5,.imm (.int .i64 y.1)),(1,.imm (.clo (.func g) a b)),(0,.own 1 (Bu L).length)]) (λy=>[(1,some (.row 150 3 (Bu y.2.2)))]) [3,2,4,5,6] (λy=>L.length-y.2.1)
  (λy=>y.1<y.2.1/\y.2.1<=L.length/\y.2.2.length=L.length/\y.2.2.take y.1=ES q (L.take y.2.1)/\y.2.2.drop y.2.1=L.drop y.2.1) (k,k+1,L)
  ⟨by simp,by simp only;omega,rfl,?_,rfl⟩ ⟨As ew,As (by simp),rfl,rfl,trivial⟩ ⟨rfl,trivial⟩ rfl λy hy ih=>?_
 ·rw [Qk h2,if_pos h3,Ql h4];simp
 obtain ⟨i,j,R⟩:=y;obtain ⟨hi1,hi2,hi3,hi4,hi5⟩:=hy;simp only at hi1 hi2 hi3 hi4 hi5;refine md [] rfl (by simp) ?_;refine Aa rfl (λh=>?_) (λh=>?_)
 ·have hj:j<L.length:=by simp at h;omega
  obtain ⟨x,hx⟩:=Am hj;have hRx:R[j]?=some x:=by
   have:=congrArg (·[0]?) hi5;simpa [hx] using this
  have hqx:=hq x;refine md [] rfl (by simp) ?_;refine GI Ak rfl (λ_=>⟨by simp,by simp <;> omega⟩) (by simp) ?_;refine mg [] rfl (by simp) ?_;refine OL Ak (e:=Bh x) rfl (λ_=>by simpa using Jr hRx) rfl (by simp) ?_;obtain ⟨x1,x2,x3,x4⟩:=x;have ht:=Qk (q:=q) hx;have hgo:=λi' R' (h1:i'<j+1) (h2:R'.length=L.length) (h3:R'.take i'=ES q (L.take (j+1))) (h4:R'.drop (j+1)=L.drop (j+1))=>ih (i',j+1,R') (by simp only;omega) ⟨h1,by simp only;omega,h2,h3,h4⟩;have hd1:R.drop (j+1)=L.drop (j+1):=by rw [<- List.drop_drop,hi5,List.drop_drop]
  refine mg [] rfl (by simp) ?_;refine OP rfl (λ_=>hqx) (by simp) ?_;refine mg [] rfl (by simp) ?_;cases hb:q (.mk x1 x2 x3 x4) with
  | true =>
   rw [if_pos hb,List.append_nil] at ht;refine Aa rfl (λh=>by simp at h) (λh=>?_);refine md [] rfl (by simp) ?_;exact Ad (hgo i R (by omega) hi3 (by rw [ht];exact hi4) hd1) ⟨As (B9 (by simp only;omega) (by simp only;omega)),rfl,rfl,rfl,trivial⟩ ⟨rfl,trivial⟩ rfl
  | false =>
   rw [if_neg (by simp [hb])] at ht;obtain ⟨o,hoo⟩:=Am (l:=R) (i:=i) (by omega);refine Aa rfl (λh=>?_) (λh=>by simp at h);refine md [] rfl (by simp) ?_;refine GI Ak rfl (λ_=>⟨by simp,by simp <;> omega⟩) (by simp) ?_;refine mg [] rfl (by simp) ?_;refine Qz Ak (e:=Bh o) (e':=Bh (.mk x1 x2 x3 x4)) rfl (by simpa using Jr hoo) (by show 0+3<=3;decide) (by obtain ⟨o1,o2,o3,o4⟩:=o;rfl) (by simp) ?_;refine mg [] rfl (by simp) ?_;refine Ad (hgo (i+1) (R.set i (.mk x1 x2 x3 x4)) (by omega) (by simp [hi3]) ?_ ?_) ⟨As (B9 (by simp only;omega) (by simp only;omega)),As (B9 (by simp only;omega) (by simp only;omega)),rfl,rfl,trivial⟩ ⟨by simp only [Bu,List.map_set];rfl,trivial⟩ rfl
   ·rw [ht,<- hi4];have e1:(R.set i (.mk x1 x2 x3 x4))[i]?=some (.mk x1 x2 x3 x4):=List.getElem?_set_self (by omega);rw [Be e1,List.take_set_of_le (Nat.le_refl i)]
   ·rw [List.drop_set_of_lt (by omega)];exact hd1
 ·have hj:j=L.length:=by simp at h;omega
  refine Ar rfl ?_;refine IB 1 3 rfl λv=>?_;refine BN 3 (λ_:{ y:Nat×Nat // v = .slice (some ⟨y.1,0,none⟩) (Bu R).length y.2/\(Bu R).length<=y.2 }=>R2 150 3 (Bu R) v) rfl (λvs I w bs h=>?_) λy=>?_
  ·have hn:(Bu R)≠[]:=λe=>by
    have:(Bu R).length=0:=by rw [e];rfl
    simp at this;subst this;simp at hi3;omega
   have h':=h;rcases h' with ⟨_,h',_⟩ | ⟨gb,cap,cur,h1,_,_,h4,_⟩
   ·exact absurd h' hn
   ·exact ⟨⟨(gb,cap),h1,h4⟩,h⟩
  obtain ⟨⟨gb,cap⟩,rfl,hcap⟩:=y;simp only at hcap;have hRl:(Bu R).length=L.length:=by simp [hi3]
  have hkl:(ES q (L.take j)).length=i:=by rw [<- hi4,List.length_take];omega
  rw [hj,List.take_length] at hkl hi4;refine md [] rfl (by simp) ?_;refine X3 Ak rfl ⟨by simp,by simp only;omega,by simp only;omega,by simp only;omega⟩ ?_;obtain ⟨d,hd⟩:∃d,(Bu R).length-i=d+1:=⟨(Bu R).length-i-1,by omega⟩
  simp only [Bz,Int.toNat_natCast];rw [hd];have hRt:Bu (ES q L)=(Bu R).take i:=by rw [<- hi4];simp [Bu]
  have hkl2:(Bu (ES q L)).length=i:=by simpa using hkl
  refine mX Ak 3 (R2 150 3 (Bu (ES q L)) (.slice (some ⟨gb,0,none⟩) (Bu (ES q L)).length cap)) rfl rfl ?_ ?_
  ·have:=bB (e:=150) (sz:=3) (es:=Bu R) (es1:=Bu (ES q L)) (b:=gb) (cap:=cap) (len:=d+1) (by rw [hkl2];exact hRt) (by rw [hkl2];omega);rw [hkl2] at this ⊢;show TV _ _ gb (0+i*3) ((d+1)*3);rw [Nat.zero_add];exact this
  refine mg [] rfl (by simp) ?_;refine X3 Ak rfl ⟨by simp,by simp only;omega,by simp only;omega,by simp only;omega⟩ ?_;simp only [Bz,Int.toNat_natCast,Int.toNat_zero,Nat.zero_mul,Nat.sub_zero,Nat.add_zero];refine mg [] rfl (by simp) ?_;rw [<- hkl2];refine Jx 3 4 2 (Bu (ES q L)) rfl rfl (λvs I w bs h=>Lo (by decide) h) ?_;exact Ab ⟨_,rfl,rfl,rfl,trivial⟩
def Sq (ty:Ty) (nt:List Ty) (hd:Ty):V:=.ip 177 (dTyc ty++Bh hd++[.sl (Bu nt)]) 0
theorem SB (h:Ty):∀x∈Bh h,V.one x=true:=by
 obtain ⟨a,b,c,d⟩:=h;intro x hx;simp only [Bh,List.mem_cons,List.not_mem_nil,or_false] at hx;rcases hx with rfl | rfl | rfl <;> rfl
theorem Ui {I J:Imm} {w:World} {nt:List Ty} {nv:Value} {bs:List Nat} (h:Si I w nt nv) (hb:∀q∈nv.ownBlock.toList,q∈bs) (hle:I.le J) (hJ:∀b∈bs,J b=w.heap[b]?):RepV J nv (.sl (Bu nt)):=by
 obtain ⟨⟨xs,h1,h2⟩,h3⟩:=h;cases ho:nv.ownBlock with
 | none =>
  rcases h1.2 with ⟨rfl,h0⟩ | ⟨g,cap,cur,rfl,_⟩
  ·rw [List.eq_nil_of_length_eq_zero h0];exact .slnil
  ·simp [Value.ownBlock] at ho
 | some g =>
  have hlt:=PF h1 (q:=g) (by simp [ho]);have hg:w.heap[g]?=some w.heap[g]:=Array.getElem?_eq_getElem hlt;refine W9 (w:=w) (es:=Bu nt) (by simpa using h1) (h2.mono hle) (Y9 nt) ?_ ho hg (by rw [hJ g (hb g (by simp [ho]))];exact hg);intro v hv;obtain ⟨q,hq⟩:=List.mem_iff_getElem?.1 hv;have hl:q<(Bu nt).flatten.length:=by rw [<- h2.1];exact (List.getElem?_eq_some_iff.1 hq).1
  obtain ⟨c,hc,hx⟩:=List.mem_flatten.1 (List.getElem_mem hl);obtain ⟨x,_,rfl⟩:=List.mem_map.1 hc;exact (h2.2 q v _ hq (List.getElem?_eq_getElem hl)).one (SB x _ hx)
theorem Zi {I J:Imm} {w:World} {ty:Ty} {nt:List Ty} {hd:Ty} {ks:List Mi} {nv kv:Value} {kbs:List Nat} {b:Nat} {us:List Value} {bs:List Nat} (h:(CD ty nt hd ks nv kv kbs b).P us I w bs) (hle:I.le J) (hJ:∀b∈bs,J b=w.heap[b]?) :
  RepV J (ptr b) (Sq ty nt hd):=by
 obtain ⟨Fk,⟨⟨vs,ts,hs,h1,h2,h3,h4⟩,hnot,hrow⟩,_,_,h8⟩:=h;have hN:=Ui (bs:=bs) hnot (λq hq=>h8 q (by simp only [AG,List.cons_append,List.mem_cons,List.mem_append];exact .inr (.inl (.inl hq)))) hle hJ;have hall:RepVL J (ts++hs++[nv]) (dTyc ty++Bh hd++[.sl (Bu nt)]):=((h3.mono hle).append (h4.mono hle)).append (.mk hN .nil);have hJb:J b=some (.cells vs 177 (0,0)):=by rw [hJ b (h8 b (by simp [AG]))];exact h1
 have hget:∀(j:Nat) (x:V),(dTyc ty++Bh hd++[.sl (Bu nt)])[j]?=some x->∃v,vs[j]?=some v/\RepV J v x/\v.oneCell'=true:=by
  intro j x hx;have hlt:j<(ts++hs++[nv]).length:=by rw [hall.1];exact (List.getElem?_eq_some_iff.1 hx).1
  have hv:=List.getElem?_eq_getElem hlt;have hr:=hall.2 j _ x hv hx;refine ⟨_,?_,hr,?_⟩
  ·have:vs.toList[j]?=some (ts++hs++[nv])[j]:=by
    rw [h2,show ts++hs++[nv,kv]=(ts++hs++[nv])++[kv] by simp,List.getElem?_append_left hlt];exact hv
   simpa using this
  ·refine hr.one ?_;have hm:=List.mem_of_getElem? hx;simp only [List.mem_append,List.mem_singleton] at hm;rcases hm with (hm | hm) | rfl
   ·obtain ⟨t1,t2,t3,t4⟩:=ty;simp only [dTyc,List.mem_cons,List.not_mem_nil,or_false] at hm;rcases hm with rfl | rfl | rfl | rfl <;> rfl
   ·exact SB hd x hm
   ·rfl
 have:=RepV.ip (I:=J) b 0 177 (dTyc ty++Bh hd++[.sl (Bu nt)]) 0 (λj=>(vs[j]?).getD undef) (λj x hx=>?_) (λj x hx=>?_)
 ·simpa [Sq,ptr] using this
 ·obtain ⟨v,v1,v2,v3⟩:=hget j x hx;rw [v1];simp only [Imm.cell,hJb,Nat.zero_add,v1,Option.getD_some];exact ⟨trivial,v3⟩
 ·obtain ⟨v,v1,v2,v3⟩:=hget j x hx;rw [v1];exact v2
theorem ZV (ty:Ty) (nt:List Ty) (hd h:Ty):Al Tryz.prog 196 [.agg (Bh h),.ip 109 [Sq ty nt hd] 0] (.bool (BH nt h)):=by
 have hC:=Gm nt h;obtain ⟨t1,t2,t3,t4⟩:=ty;obtain ⟨f1,f2,f3,f4⟩:=hd;obtain ⟨h1,h2,h3,h4⟩:=h;refine OC ?_;refine Ae Ak Tryz.func196 (by decide +kernel) rfl [1,2] rfl rfl ?_;refine mg [] rfl (by simp) ?_;refine Ac rfl (λ_=>hC) (by simp) ?_;refine mg [] rfl (by simp;rfl) ?_;exact Ab ⟨_,rfl,tV rfl,trivial⟩
def Ra (A B:Asn):Asn where
 P _ I w bs:=∃b1 b2,(∀q∈b1,q∈bs)/\(∀q∈b2,q∈bs)/\(∀q∈b1,q∉b2)/\A.P [] I w b1/\B.P [] I w b2
 mono:=λh ⟨b1,b2,h1,h2,h3,h4,h5⟩=>⟨b1,b2,h1,h2,h3,A.mono h h4,B.mono h h5⟩
 loc:=λh ⟨b1,b2,h1,h2,h3,h4,h5⟩=>⟨b1,b2,h1,h2,h3,A.loc (λq hq=>h q (h1 q hq)) h4,B.loc (λq hq=>h q (h2 q hq)) h5⟩
theorem U0 (l:List Ty):M2 (Bu l)=true:=by
 induction l with
 | nil=>rfl
 | cons h r ih=>obtain ⟨a,b,c,d⟩:=h;simpa [Bu,Bh,M2,Di,EQ] using ih
def Wj (b bb:Nat):Asn:=Rf bb 109 [.raw (ptr b)]
theorem bW {I J:Imm} {w:World} {ty:Ty} {nt:List Ty} {hd:Ty} {ks:List Mi} {nv kv:Value} {kbs:List Nat} {b bb:Nat} {us:List Value} {bs:List Nat} (h:(Ra (Wj b bb) (CD ty nt hd ks nv kv kbs b)).P us I w bs) (hle:I.le J) (hJ:∀b∈bs,J b=w.heap[b]?) :
  RepV J (ptr bb) (.ip 109 [Sq ty nt hd] 0):=by
 obtain ⟨b1,b2,h1,h2,h3,⟨e1,vs,e2,e3,e4⟩,h5⟩:=h;have hv:=Zi h5 hle (λq hq=>hJ q (h2 q hq));have hl:=e3.1
 match hvs:vs.toList,hl with
 | [x],_ =>
 rw [hvs] at e3;have hx:x=ptr b:=(e3.2 0 x _ rfl rfl).rawInv;subst hx;have hv0:vs[0]?=some (ptr b):=by
  have:vs.toList[0]?=some (ptr b):=by rw [hvs];rfl
  simpa using this
 have hJb:J bb=some (.cells vs 109 (0,0)):=by rw [hJ bb (h1 bb (by rw [e1];simp))];exact e2
 have:=RepV.ip (I:=J) bb 0 109 [Sq ty nt hd] 0 (λ_=>ptr b) (λj x hx=>?_) (λj x hx=>?_)
 ·simpa [ptr] using this
 ·match j,hx with
  | 0,_=>exact ⟨by simp only [Imm.cell,hJb,Nat.add_zero,hv0],rfl⟩
  | j+1,hx=>simp at hx
 ·match j,hx with
  | 0,hx=>simp at hx;subst hx;exact hv
  | j+1,hx=>simp at hx
theorem kA (L:List Ty) (hL:L.length<=1000) (ty:Ty) (nt:List Ty) (hd:Ty) (ks:List Mi) (nv kv:Value) (kbs:List Nat) (b bb:Nat) :
  AV Tryz.prog 194 [.own 1 (Bu L).length,.fn (.func 196) [] [.raw (ptr bb)]]
   [(3,some (.hp (Ra (Wj b bb) (CD ty nt hd ks nv kv kbs b)))),(1,some (.row 150 3 (Bu L)))]
   (.ret (.own 2 (Bu (ES (λh=>BH nt h) L)).length) [(3,some (.hp (Ra (Wj b bb) (CD ty nt hd ks nv kv kbs b)))),(2,some (.row 150 3 (Bu (ES (λh=>BH nt h) L))))]):=by
 refine Ob (st0:=[(1,some (.row 150 3 (Bu L)))]) 3 (Ra (Wj b bb) (CD ty nt hd ks nv kv kbs b)) (Rd L hL 196 [] [.ip 109 [Sq ty nt hd] 0] (λh=>BH nt h) (λh=>ZV ty nt hd h)) rfl ⟨U0 _,trivial⟩ (by simp [DP]) (by simp [DP]) (by simp [Iw]) λvs I J μ w bs h hle hb xs hx=>?_;refine ⟨hx.1,λi v d h1 h2=>?_⟩
 match i with
 | 0=>exact hx.2 0 v d h1 h2
 | 1 =>
  simp at h2;subst h2;have hr:=hx.2 1 v _ h1 rfl;refine .imm _ _ ?_;cases hr with
  | fn _ first cap _ _ hf hc q1 q2 =>
   refine .clo _ first cap [] _ (by simpa using hf) (by simpa using hc) (λi c x _ hx=>by simp at hx) (λi c x hc' hx'=>?_)
   match i with
   | 0 =>
    simp at hx';subst hx';have:=(q2 0 c _ hc' rfl).rawInv;subst this;exact bW h hle hb
   | i+1=>simp at hx'
 | i+2=>simp at h2
def GD (ds:List Dt) (m:Mi):Bool:=decide (AC (Af ds m).hd≠0)
set_option maxHeartbeats 2000000 in
theorem Vo (c:Cse) (sz:List (List V)) (m:Mi) (b:Nat) (ho:OkW c.datas) (hn:AB c.datas m.ty=true) :
  AV Tryz.prog 151 [.imm (AM c sz),.raw (ptr b)] [(1,some (.hp (AW m b)))] (.ret (.imm (.bool (GD c.datas m))) [(2,some (.hp (AW (Af c.datas m) b)))]):=by
 have hH:=SA c sz m.ty ho hn;have hl:=Qw ho m.ty;have hs:=λh=>X2 c sz m h b ho hn;have hk0:AC m.hd≠0->Af c.datas m=m/\GD c.datas m=true:=λh=>by
  have:=C2 (ds:=c.datas) h;exact ⟨this,by simp only [GD,this];exact decide_eq_true h⟩
 have hk1:AC m.hd=0->∀h,Ht c.datas m=[h]->Af c.datas m=AZ c.datas m h/\GD c.datas m=true:=λh x hx=>by
  have e:Af c.datas m=AZ c.datas m x:=by simp only [Af,h,hx];rfl
  exact ⟨e,by simp only [GD,e];exact decide_eq_true (Bw (D3 hx).1).2⟩
 have hk2:AC m.hd=0->(∀h,Ht c.datas m≠[h])->Af c.datas m=m/\GD c.datas m=false:=λh hx=>by
  rcases CK (ds:=c.datas) m with e | ⟨_,y,y1,_⟩
  ·exact ⟨e,by simp only [GD,e,h];rfl⟩
  ·exact absurd y1 (hx y)
 have hleft:ES (λh=>BH m.nt h) (A3 c.datas m.ty)=Ht c.datas m:=rfl;have hll:(Ht c.datas m).length<=5:=Nat.le_trans (List.length_filter_le _ _) hl;generalize GD c.datas m=kb at *;generalize Af c.datas m=S at *;generalize Ht c.datas m=Lf at *;generalize A3 c.datas m.ty=Hs at *;obtain ⟨kn,hkn⟩:∃kn:Ty->Mi,kn=AZ c.datas m:=⟨_,rfl⟩
 simp only [<- hkn] at hs hk1;clear hkn hn;obtain ⟨⟨so,n,x,ps⟩,nt,⟨f,hd2,hd3,hd4⟩,ks⟩:=m;simp only [Mi.ty,Mi.nt,Mi.hd,AC] at *;refine Ae Ak Tryz.func151 (by decide +kernel) rfl [3,4,5,6,7,8,9,10,11,12] rfl rfl ?_;refine pB 3 rfl (by simp) ?_;refine Gg 3 4 rfl rfl λbb=>?_;refine BN 4 (λ_:Unit=>Wj b bb) rfl (λvs I w bs h=>⟨(),h⟩) λ_=>?_;refine JW 1 5 (λy:Value×Value×List Nat=>CD _ nt _ ks y.1 y.2.1 y.2.2 b) rfl (λvs I w bs h=>let ⟨y,hy⟩:=JI h;⟨y,bs,λq hq=>hq,Y1 hy⟩) λy=>?_;obtain ⟨nv,kv,kbs⟩:=y;have hbox:∀vs I w bs,(Wj b bb).P vs I w bs->CR I w bb 0 [.raw (ptr b)]:=λvs I w bs ⟨_,us,h2,h3,h4⟩=>⟨us,_,_,h2,λj d hd=>by
  have hl:j<us.toList.length:=by rw [h3.1];exact (List.getElem?_eq_some_iff.1 hd).1
  have hj:=List.getElem?_eq_getElem hl;exact ⟨_,by simp,h4 _ (List.getElem_mem hl),h3.2 j _ d hj hd⟩⟩
 refine md [] rfl (by simp) ?_;refine Br Ak 4 [.raw (ptr b)] rfl rfl (λ_=>hbox) rfl rfl (by simp) ?_;refine mg [] rfl (by simp) ?_;refine Br Ak 5 [.imm (.int .i64 f)] rfl rfl (λ_ vs I w bs h=>MK h) rfl rfl (by simp) ?_;refine mg [] rfl (by simp) ?_;by_cases hf:f=0
 case neg =>
  refine Aa rfl (λh=>?_) (λh=>absurd (by simpa using h) hf);refine md [] rfl (by simp) ?_;obtain ⟨e1,e2⟩:=hk0 hf;rw [e1,e2];refine BN 5 (λ_:Unit=>AW (.mk (.mk so n x ps) nt (.mk f hd2 hd3 hd4) ks) b) rfl (λvs I w bs h=>⟨(),JJ h⟩) λ_=>?_;refine A4 5 2 rfl ?_;exact Ab ⟨_,rfl,rfl,rfl,trivial⟩
 replace hk1:=hk1 hf;replace hk2:=hk2 hf;subst hf;clear hk0;refine Aa rfl (λh=>by simp at h) (λh=>?_);clear h;refine md [] rfl (by simp) ?_;refine Br Ak 4 [.raw (ptr b)] rfl rfl (λ_=>hbox) rfl rfl (by simp) ?_;refine mg [] rfl (by simp) ?_;refine Br Ak 5 ((dTyc (.mk so n x ps)).map .imm) rfl rfl (λ_ vs I w bs h=>JK h) rfl rfl (by simp) ?_;refine mg [] rfl (by simp) ?_;refine Ay (fr:=[6]) [] [(2,6)] rfl (by simp) hH trivial rfl rfl rfl rfl ?_;refine mg [] rfl (by simp) ?_
 refine Gf 4 5 7 (λ_:Unit=>Ra (Wj b bb) (CD (.mk so n x ps) nt (.mk 0 hd2 hd3 hd4) ks nv kv kbs b)) rfl rfl (by decide) (λvs us I w b1 b2 h1 h2 h3=>⟨(),b1++b2,λq hq=>List.mem_append.1 hq,b1,b2,λq hq=>List.mem_append_left _ hq,λq hq=>List.mem_append_right _ hq,h3,h1,h2⟩) λ_=>?_;refine md [] rfl (by simp) ?_;refine Ay (fr:=[8]) [(7,3),(6,1)] [(2,8)] rfl (by simp) (kA Hs (by omega) (.mk so n x ps) nt (.mk 0 hd2 hd3 hd4) ks nv kv kbs b bb) ⟨⟨rfl,rfl,rfl⟩,⟨rfl,rfl,rfl⟩,trivial⟩ rfl rfl rfl rfl ?_;rw [hleft];refine mg [] rfl (by simp) ?_;refine BD 8 rfl ?_
 refine IC 7 9 10 (λ_:Unit=>Wj b bb) (λ_:Unit=>AW (.mk (.mk so n x ps) nt (.mk 0 hd2 hd3 hd4) ks) b) rfl (λvs I w bs ⟨b1,b2,h1,h2,h3,h4,h5⟩=>⟨(),b1,b2,h1,h2,h3,h4,JJ h5⟩) λ_=>?_
 match Lf,hk1,hk2,hll with
 | [],_,hk2,_ =>
  obtain ⟨e1,e2⟩:=hk2 (λh=>by simp);rw [e1,e2];refine Aa rfl (λh=>by simp at h) (λh=>?_);refine md [] rfl (by simp) ?_;refine A4 10 2 rfl ?_;exact Ab ⟨_,rfl,rfl,rfl,trivial⟩
 | y::z::r,_,hk2,hll =>
  obtain ⟨e1,e2⟩:=hk2 (λh=>by simp);rw [e1,e2];refine Aa rfl (λh=>by simp [Bu] at h;omega) (λh=>?_);refine md [] rfl (by simp) ?_;refine A4 10 2 rfl ?_;exact Ab ⟨_,rfl,tV (congrArg _ (by simp [Bu];omega)),rfl,trivial⟩
 | [y],hk1,_,_ =>
  obtain ⟨e1,e2⟩:=hk1 y rfl;rw [e1,e2];refine Aa rfl (λh=>?_) (λh=>by simp [Bu] at h);refine md [] rfl (by simp) ?_;refine Br Ak 9 [.raw (ptr b)] rfl rfl (λ_=>hbox) rfl rfl (by simp) ?_;refine mg [] rfl (by simp) ?_;refine mi rfl (c:=Bh y) (λ_=>⟨by simp,rfl,by simp⟩) (by simp) ?_;obtain ⟨y1,y2,y3,y4⟩:=y;refine mg [] rfl (by simp) ?_;refine Ce [(10,1)] [(2,11)] [] (fr:=[11]) (nm:=[11,10]) rfl trivial (by simp) (hs (.mk y1 y2 y3 y4)) ⟨⟨rfl,rfl,rfl⟩,trivial⟩ rfl trivial rfl rfl rfl ?_;refine mg [] rfl (by simp;rfl) ?_;refine A4 11 2 rfl ?_;exact Ab ⟨_,rfl,rfl,rfl,trivial⟩
def HF (o:Option Nat) (n c:Nat):Value:=.slice (o.map λg=>⟨g,0,none⟩) n c
theorem Yq {w:World} {e:TypeId} {sz n:Nat} {v:Value} {xs:List Value} (h:w.ownsRow 0 e sz v n xs):∃o c,v=HF o n c:=by
 rcases h.2 with ⟨rfl,rfl⟩ | ⟨g,cap,cur,rfl,_⟩
 ·exact ⟨none,0,rfl⟩
 ·exact ⟨some g,cap,rfl⟩
section
variable {I J:Imm} {w w':World} {ty:Ty} {nt:List Ty} {hd:Ty} {ks:List Mi} {nv kv:Value} {kbs:List Nat} {b:Nat} {us:List Value} {bs:List Nat}
structure Opn where
 no:Option Nat
 nc:Nat
 ko:Option Nat
 kc:Nat
 kbs:List Nat
def Cg (ty:Ty) (nt:List Ty) (hd:Ty) (ks:List Mi) (y:Opn) (b:Nat):Asn:=CD ty nt hd ks (HF y.no nt.length y.nc) (HF y.ko ks.length y.kc) y.kbs b
theorem DA (h:(AW (.mk ty nt hd ks) b).P us I w bs):∃y:Opn,(Cg ty nt hd ks y b).P us I w bs:=by
 obtain ⟨⟨nv,kv,kbs⟩,F,h1,h2,h3⟩:=JI h;obtain ⟨no,nc,e1⟩:=Yq h1.2.1.1.choose_spec.1;obtain ⟨ko,kc,e2⟩:=Yq h1.2.2;have hl:=GE h2;simp only at *;subst e1;rw [hl] at e2;subst e2;exact ⟨⟨no,nc,ko,kc,kbs⟩,F,h1,h2,h3⟩
theorem El {y:Opn} {vs:List Value} (h:(Cg ty nt hd ks y b).P us I w bs):(AW (.mk ty nt hd ks) b).P vs I w bs:=JJ h
theorem HO {y:Opn} (h:(Cg ty nt hd ks y b).P us I w bs):y.kbs.length=ks.length:=by
 obtain ⟨F,h1,h2,_⟩:=h;exact GE h2
theorem OD {y:Opn} (h:(Cg ty nt hd ks y b).P us I w bs) (hk:ks≠[]):∃g,y.ko=some g/\(∃cur,w.heap[g]?=some (.cells cur 109 (0,0))/\cur.size=y.kc*1/\cur.toList.take ks.length=y.kbs.map ptr/\ks.length<=y.kc):=by
 obtain ⟨F,h1,h2,_⟩:=h;have hl:=GE h2;rcases h1.2.2.2 with ⟨_,h0⟩ | ⟨g,cap,cur,e,_,e1,e2,_,e3,e4⟩
 ·rw [hl] at h0;exact absurd (List.eq_nil_of_length_eq_zero h0) hk
 ·cases ho:y.ko with
  | none=>rw [ho] at e;simp [HF] at e
  | some g' =>
   rw [ho] at e;simp only [HF,Option.map_some,Value.slice.injEq,Option.some.injEq,Addr.mk.injEq,and_true] at e;obtain ⟨rfl,e5,rfl⟩:=e;exact ⟨g',rfl,cur,e1,e3,by rw [hl,Nat.mul_one] at e4;exact e4,by rw [<- hl];exact e2⟩
theorem iZ {y:Opn} (h:(Cg ty [] hd ks y b).P us I w bs):y.no=none/\y.nc=0:=by
 obtain ⟨F,h1,_⟩:=h;have:=h1.2.1.2 rfl;simp only [HF,HP,Value.slice.injEq,Option.map_eq_none_iff] at this;exact ⟨this.1,this.2.2⟩
theorem Ve {y:Opn} {g i kb:Nat} (hko:y.ko=some g) (hkb:y.kbs[i]?=some kb) (h:(Cg ty nt hd ks y b).P us I w bs):CR I w g (0+i*1) [.raw (ptr kb)]:=by
 have hlen:=HO h;have hi:=(List.getElem?_eq_some_iff.1 hkb).1;obtain ⟨g',e,cur,e1,e2,e3,e4⟩:=OD h (λe=>by rw [e] at hlen;simp at hlen;rw [hlen] at hi;simp at hi);rw [hko] at e;cases e;refine ⟨cur,_,_,e1,λj d hd=>?_⟩
 match j with
 | 0 =>
  simp at hd;subst hd;refine ⟨ptr kb,?_,rfl,.raw _ rfl⟩;have:(cur.toList.take ks.length)[i]?=some (ptr kb):=by rw [e3];simp [hkb]
  rw [List.getElem?_take] at this
  split at this
  ·simpa using this
  ·cases this
 | j+1=>simp at hd
def Rc (ty:Ty) (nt:List Ty) (hd:Ty) (ks:List Mi) (y:Opn) (b i kb:Nat):Asn where
 P _ I w bs:=∀J w2 k F,I.le J->(∀q∈bs,w2.heap[q]?=w.heap[q]?)->E9 J w2 k kb F->(∀q∈F,q∉bs)->∃G,(Cg ty nt hd (ks.set i k) y b).P [] J w2 G/\∀q∈G,q∈bs\/q∈F
 mono:=λh h1 J w2 k F hJ=>h1 J w2 k F (λb o hb=>hJ b o (h b o hb))
 loc:=λh h1 J w2 k F hJ hw=>h1 J w2 k F hJ λq hq=>(hw q hq).trans (h q hq)
theorem PH {y:Opn} {i kb:Nat} {k:Mi} (h:(Cg ty nt hd ks y b).P us I w bs) (hk:ks[i]?=some k) (hkb:y.kbs[i]?=some kb) :
  ∃b1 b2,(∀q∈b1,q∈bs)/\(∀q∈b2,q∈bs)/\(∀q∈b1,q∉b2)/\(Rc ty nt hd ks y b i kb).P [] I w b1/\(AW k kb).P [] I w b2:=by
 obtain ⟨Fk,h1,h2,h3,h4⟩:=h;obtain ⟨kb',F1,Fi,F2,g1,g2,g3,g4⟩:=KG h2 hk;rw [hkb] at g1;cases g1;subst g3;generalize hnv:HF y.no nt.length y.nc=nv at *;generalize hkv:HF y.ko ks.length y.kc=kv at *;refine ⟨AG nv kv b++(F1++F2),Fi,λq hq=>h4 q (by simp at hq ⊢;rcases hq with h | h | h <;> simp [h]),λq hq=>h4 q (by simp [hq]),λq hq hq2=>?_,?_,⟨Fi,g2,λq hq=>hq⟩⟩
 ·have e:AG nv kv b++(F1++Fi++F2)=(AG nv kv b++F1)++Fi++F2:=by simp
  rw [e] at h3;have hn:=List.nodup_append.1 h3;have hn2:=List.nodup_append.1 hn.1;rcases List.mem_append.1 hq with hq | hq
  ·exact hn2.2.2 q (by simp [hq]) q hq2 rfl
  ·rcases List.mem_append.1 hq with hq | hq
   ·exact hn2.2.2 q (by simp [hq]) q hq2 rfl
   ·exact hn.2.2 q (by simp [hq2]) q hq rfl
 ·intro J w2 k' F hJ hw hm hd';refine ⟨AG nv kv b++(F1++F++F2),⟨F1++F++F2,?_,g4 J w2 k' F hJ (λq hq=>hw q (by simp only [List.mem_append] at hq ⊢;exact .inr hq)) hm,?_,λq hq=>?_⟩,λq hq=>?_⟩
  ·rw [List.length_set,hnv,hkv];exact En hJ (Fh (λq hq=>hw q (by simp [hq])) h1)
  ·rw [List.length_set,hnv,hkv];have hF:=Ix hm;have e:AG nv kv b++(F1++Fi++F2)=(AG nv kv b++F1)++(Fi++F2):=by simp
   have e2:AG nv kv b++(F1++F++F2)=(AG nv kv b++F1)++(F++F2):=by simp
   rw [e] at h3;rw [e2];obtain ⟨a1,a2,a3⟩:=List.nodup_append.1 h3;obtain ⟨a4,a5,a6⟩:=List.nodup_append.1 a2;refine List.nodup_append.2 ⟨a1,List.nodup_append.2 ⟨hF,a5,λx hx y hy e=>hd' x hx (by subst e;simp [hy])⟩,λx hx y hy e=>?_⟩;subst e;rcases List.mem_append.1 hy with hy | hy
   ·exact hd' x hy (by simp only [List.mem_append] at hx ⊢;rcases hx with h | h <;> simp [h])
   ·exact a3 x hx x (by simp [hy]) rfl
  ·rw [List.length_set,hnv,hkv] at hq;exact hq
  ·simp only [List.mem_append] at hq ⊢;rcases hq with h | (h | h) | h <;> simp [h]
theorem S7 {y:Opn} {i kb:Nat} {k:Mi} {vs:List Value} {b1 b2:List Nat} (h:(Rc ty nt hd ks y b i kb).P us I w b1) (hk:(AW k kb).P vs I w b2) (hd':∀q∈b1,q∉b2):∃bs,(∀q∈bs,q∈b1\/q∈b2)/\(Cg ty nt hd (ks.set i k) y b).P [] I w bs:=by
 obtain ⟨F,h1,h2⟩:=hk;obtain ⟨G,g1,g2⟩:=h I w k F (Imm.le_refl I) (λ_ _=>rfl) h1 (λq hq hq1=>hd' q hq1 (h2 q hq));exact ⟨G,λq hq=>(g2 q hq).imp id (h2 q),g1⟩
end
theorem cX {α:Type} {l:List α} {i:Nat} {a:α} (h:l[i]?=some a):l.set i a=l:=by
 apply List.ext_getElem?;intro j;rw [List.getElem?_set]
 split
 ·rename_i e;subst e
  split
  ·exact h.symm
  ·rename_i hn;exact absurd (List.getElem?_eq_some_iff.1 h).1 hn
 ·rfl
theorem XV:AV Tryz.prog 177 [.raw HP] [] (.ret .nils []):=by
 refine Ae Ak Tryz.func177 (by decide +kernel) rfl [1,2] rfl rfl ?_;refine mg [] rfl (by simp) ?_;refine mW Ak rfl ?_;refine mg [] rfl (by simp) ?_;refine Aa rfl (λh=>?_) (λh=>by simp at h);refine md [] rfl (by simp) ?_;exact Ab ⟨_,rfl,rfl,trivial⟩
theorem XU (l:List Ty) (hne:l≠[]) (hl:l.length<=1000000):AV Tryz.prog 177 [.imm (.sl (Bu l))] [] (.ret (.own 2 (Bu l).length) [(2,some (.row 150 3 (Bu l)))]):=by
 have hs:=Y9 l;have hl:(Bu l).length<=1000000:=by simpa using hl
 have hn:Bu l≠[]:=λe=>hne (by simpa [Bu] using e);generalize Bu l=es at *;refine Ae Ak Tryz.func177 (by decide +kernel) rfl [2,1] rfl rfl ?_;refine mg [] rfl (by simp) ?_;refine SP Ak rfl λb hb=>?_;have hb:b=false:=hb hn;subst hb;refine md [] rfl (by simp) ?_;refine Aa rfl (λh=>by simp at h) (λh=>?_);refine md [] rfl (by simp) ?_;refine BC Ak rfl ⟨hs,by simp only [maxLen,List.length_nil] at *;omega,by simp only [List.length_nil] at *;omega,λc hc=>by simp at hc,hn⟩ ?_;refine mg [] rfl (by simp) ?_;exact Ab ⟨_,rfl,rfl,rfl,trivial⟩
end Go.Hk
namespace Go.Hk
open Go.Proofs
theorem HH {I J:Imm} {w:World} {ty:Ty} {nt:List Ty} {hd:Ty} {ks:List Mi} {y:Opn} {b:Nat} {us:List Value} {bs:List Nat} (h:(Cg ty nt hd ks y b).P us I w bs) (hle:I.le J) (hJ:∀b∈bs,J b=w.heap[b]?):RepV J (HF y.no nt.length y.nc) (.sl (Bu nt)):=by
 obtain ⟨F,h1,h2,h3,h4⟩:=h;exact Ui h1.2.1 (λq hq=>h4 q (by simp only [AG,List.cons_append,List.mem_cons,List.mem_append];exact .inr (.inl (.inl hq)))) hle hJ
theorem bA (ty:Ty) (nt:List Ty) (hd:Ty) (ks:List Mi) (y:Opn) (b:Nat) (hne:nt≠[]) (hl:nt.length<=1000000) :
  AV Tryz.prog 177 [.raw (HF y.no nt.length y.nc)] [(3,some (.hp (Cg ty nt hd ks y b)))] (.ret (.own 2 (Bu nt).length) [(3,some (.hp (Cg ty nt hd ks y b))),(2,some (.row 150 3 (Bu nt)))]):=by
 refine Ob (st0:=[]) 3 (Cg ty nt hd ks y b) (XU nt hne hl) rfl ⟨U0 _,trivial⟩ (by simp [DP]) (by simp [DP]) (by simp [Iw]) λvs I J μ w bs h hle hb xs hx=>?_;refine ⟨hx.1,λi v d h1 h2=>?_⟩
 match i with
 | 0 =>
  simp at h2;subst h2;have:=(hx.2 0 v _ h1 rfl).rawInv;subst this;exact .imm _ _ (HH h hle hb)
 | i+1=>simp at h2
theorem bE {I:Imm} {w:World} {ty:Ty} {nt:List Ty} {hd:Ty} {b:Nat} {v:Value} {us vs:List Value} {b1 b2:List Nat} (hne:nt≠[]) (h:(Rf b 177 ((dTyc ty++Bh hd).map .imm++[.raw v,.nils])).P us I w b1) (hr:(R2 150 3 (Bu nt) v).P vs I w b2) (hd':∀q∈b1,q∉b2) :
  ∃bs,(∀q∈bs,q∈b1\/q∈b2)/\(AW (.mk ty nt hd []) b).P [] I w bs:=by
 obtain ⟨h1,ws,h2,h3,h4⟩:=h;obtain ⟨xs,r1,r2,_,_,_,r6⟩:=Lo (by decide) hr;obtain ⟨t1,t2,t3,t4⟩:=ty;obtain ⟨f1,f2,f3,f4⟩:=hd;have hl:=h3.1;simp only [dTyc,Bh,List.map_append,List.map_cons,List.map_nil,List.cons_append,List.nil_append,List.length_cons,List.length_nil] at hl h3
 match hvs:ws.toList,hl with
 | [a0,a1,a2,a3,a4,a5,a6,a7,a8],_ =>
 rw [hvs] at h3;have e7:a7=v:=(h3.2 7 a7 _ rfl rfl).rawInv;have e8:a8=HP:=IW (h3.2 8 a8 _ rfl rfl);subst e7;subst e8;have hF:AG a7 HP b=b::a7.ownBlock.toList:=by simp [AG,HP,Value.ownBlock]
 refine ⟨AG a7 HP b,λq hq=>?_,AG a7 HP b,⟨a7,HP,[],[],⟨⟨ws,[a0,a1,a2,a3],[a4,a5,a6],h2,by rw [hvs];rfl,?_,?_⟩,⟨⟨xs,by simpa using r1,r2⟩,λe=>absurd e hne⟩,World.ownsRow_nil w 0 _ 1⟩,⟨rfl,rfl⟩,by simp,?_⟩,λq hq=>hq⟩
 ·rw [hF] at hq;rcases List.mem_cons.1 hq with rfl | hq
  ·exact .inl (by rw [h1];simp)
  ·exact .inr (r6 q (by simpa [Option.mem_toList] using hq))
 ·exact .mk (h3.2 0 a0 _ rfl rfl).immInv (.mk (h3.2 1 a1 _ rfl rfl).immInv (.mk (h3.2 2 a2 _ rfl rfl).immInv (.mk (h3.2 3 a3 _ rfl rfl).immInv .nil)))
 ·exact .mk (h3.2 4 a4 _ rfl rfl).immInv (.mk (h3.2 5 a5 _ rfl rfl).immInv (.mk (h3.2 6 a6 _ rfl rfl).immInv .nil))
 ·rw [hF];refine List.nodup_cons.2 ⟨λhq=>?_,by cases a7.ownBlock <;> simp⟩;have:=r6 b (by simpa [Option.mem_toList] using hq);exact hd' b (by rw [h1];simp) this
set_option maxHeartbeats 4000000 in
theorem OS (ds:List Dt) (N:Nat) (hN:N<=1000000):∀(m:Mi) (b:Nat),Hb ds N m=true ->
  AV Tryz.prog 139 [.raw (ptr b)] [(1,some (.hp (AW m b)))] (.ret (.hv 2 0) [(3,some (.hp (AW m b))),(2,some (.hp (H2 m)))])
 | .mk (.mk so n x ps) nt (.mk f hd2 hd3 hd4) ks,b,hw=>by
  have hwi:=Bi.1 hw;simp only [Mi.nt,Mi.ks] at hwi;have hnt:nt.length<=1000000:=by omega
  have hkl:ks.length<=3:=hwi.1.2.1;refine Ae Ak Tryz.func139 (by decide +kernel) rfl [4,5,6,7,8,9,10,11,12] rfl rfl ?_;have J:∀(y:Opn) (ob:Nat),DGo Tryz.prog Tryz.f139.ntmps (DP [(1,some (.hp (AW (.mk (.mk so n x ps) nt (.mk f hd2 hd3 hd4) ks) b)))]) (Nm iJ Tryz.f139.results.toList (.ret (.hv 2 0) [(3,some (.hp (AW (.mk (.mk so n x ps) nt (.mk f hd2 hd3 hd4) ks) b))),(2,some (.hp (H2 (.mk (.mk so n x ps) nt (.mk f hd2 hd3 hd4) ks))))]))
    [.code (F9 Tryz.f139 2)] [(3,.raw (ptr ob)),(0,.raw (ptr b))] [(4,some (.hp (Cg (.mk so n x ps) nt (.mk f hd2 hd3 hd4) ks y b))),(9,some (.hp (AW (.mk (.mk so n x ps) nt (.mk f hd2 hd3 hd4) []) ob)))] [5,6,7,8,10,11,12,13,14,2]:=by
   intro y ob;refine md [] rfl (by simp) ?_;refine Br Ak 4 [.raw (HF y.ko ks.length y.kc)] rfl rfl (λ_ vs I w bs h=>JL h) rfl rfl (by simp [Ag]) ?_;refine mg [] rfl (by simp [Ag]) ?_;refine Aj (λi:Nat=>[(26,.imm (.int .i64 i)),(25,.imm (.int .i64 ks.length)),(24,.raw (HF y.ko ks.length y.kc)),(3,.raw (ptr ob))])
    (λi=>[(4,some (.hp (Cg (.mk so n x ps) nt (.mk f hd2 hd3 hd4) ks y b))),(9,some (.hp (AW (.mk (.mk so n x ps) nt (.mk f hd2 hd3 hd4) (ks.take i)) ob)))]) [5,6,7,8,10,11,12,13,14,2] (λi=>ks.length-i)
    (λi=>i<=ks.length) 0 (Nat.zero_le _) ⟨rfl,rfl,rfl,rfl,trivial⟩ ⟨rfl,rfl,trivial⟩ rfl λi hi ih=>?_
   refine md [] rfl (by simp) ?_;refine Aa rfl (λh=>?_) (λh=>?_)
   ·simp at h;obtain ⟨k,hk⟩:=Am h;have hC:=OS ds N hN k;have hih:=ih (i+1) (by omega) (by omega);rw [Be hk] at hih;refine BN 4 (λ_:{ z:Nat×Nat // y.ko=some z.1/\y.kbs[i]?=some z.2 }=>Cg (.mk so n x ps) nt (.mk f hd2 hd3 hd4) ks y b) rfl (λvs I w bs hA=>?_) λz=>?_
    ·obtain ⟨g,g1,_⟩:=OD hA (λe=>by rw [e] at h;simp at h);have hl:=HO hA;exact ⟨⟨(g,y.kbs[i]'(by omega)),g1,List.getElem?_eq_getElem (by omega)⟩,hA⟩
    obtain ⟨⟨g,kb⟩,hko,hkb⟩:=z;simp only at hko hkb;obtain ⟨no,nc,ko,kc,kbs⟩:=y;simp only at hko hkb;subst hko;have hC:=hC kb (hwi.2.2 k (List.mem_of_getElem? hk));refine BN 9 (λz:Opn=>Cg (.mk so n x ps) nt (.mk f hd2 hd3 hd4) (ks.take i) z ob) rfl (λvs I w bs h=>let ⟨z,hz⟩:=DA h;⟨z,hz⟩) λz=>?_;refine md [] rfl (by simp) ?_;refine LJ Ak rfl rfl (λ_=>⟨by simp,by simp;omega⟩) (by simp) ?_;refine mg [] rfl (by simp) ?_;refine Br Ak 4 [.raw (ptr kb)] rfl rfl (λ_ vs I w bs h=>Ve rfl hkb h) rfl rfl (by simp) ?_;refine pB 2 rfl (by simp) ?_
    refine IC 4 5 6 (λ_:Unit=>Rc (.mk so n x ps) nt (.mk f hd2 hd3 hd4) ks ⟨no,nc,some g,kc,kbs⟩ b i kb) (λ_:Unit=>AW k kb) rfl (λvs I w bs h=>let ⟨b1,b2,h1,h2,h3,h4,h5⟩:=PH h hk hkb;⟨(),b1,b2,h1,h2,h3,h4,h5⟩) λ_=>?_;refine md [] rfl (by simp) ?_;refine Br Ak 9 [.raw (HF z.ko (ks.take i).length z.kc)] rfl rfl (λ_ vs I w bs h=>JL h) rfl rfl (by simp [Ag]) ?_;refine mg [] rfl (by simp [Ag]) ?_;refine Ce [(6,1)] [(3,7),(2,8)] [] (fr:=[7,8]) (nm:=[7,8,6]) rfl trivial (by simp) hC ⟨⟨rfl,rfl,rfl⟩,trivial⟩ rfl trivial rfl rfl rfl ?_;refine mg [] rfl (by simp) ?_;refine fQ Ak 8 10 rfl rfl ?_;refine mg [] rfl (by simp) ?_
    refine fR Ak 9 10 11 (YX (.mk so n x ps) nt (.mk f hd2 hd3 hd4) (ks.take i++[k]) ob) rfl rfl rfl (by decide) (YU (bytes:=8) (by decide) (by simp;omega)) ?_;refine mg [] rfl (by simp) ?_;refine MR Ak 11 _ rfl rfl U8 ?_;refine mg [] rfl (by simp [Ag];rfl) ?_;refine Gf 5 7 12 (λ_:Unit=>Cg (.mk so n x ps) nt (.mk f hd2 hd3 hd4) ks ⟨no,nc,some g,kc,kbs⟩ b) rfl rfl (by decide) (λvs us I w b1 b2 h1 h2 h3=>let ⟨bs,e1,e2⟩:=S7 h1 h2 h3;⟨(),bs,e1,by rw [cX hk] at e2;exact e2⟩) λ_=>?_;refine A4 4 12 rfl ?_;refine A4 9 11 rfl ?_;exact Ad hih ⟨As (B9 (by omega) (by omega)),rfl,rfl,rfl,trivial⟩ ⟨rfl,rfl,trivial⟩ rfl
   ·simp at h;refine Ar rfl ?_;rw [List.take_of_length_le (by omega)];refine md [] rfl (by simp) ?_;refine BN 4 (λ_:Unit=>AW (.mk (.mk so n x ps) nt (.mk f hd2 hd3 hd4) ks) b) rfl (λvs I w bs h=>⟨(),El h⟩) λ_=>?_;refine GM 9 2 5 (H2 (.mk (.mk so n x ps) nt (.mk f hd2 hd3 hd4) ks)) rfl rfl rfl (λus I w bs h=>let ⟨F,h1,h2⟩:=h;⟨ob,F,rfl,h1,h2⟩) ?_;refine A4 5 2 rfl ?_;refine A4 4 3 rfl ?_;exact Ab ⟨_,rfl,rfl,rfl,rfl,trivial⟩
  refine JW 1 4 (λy:Opn=>Cg _ nt _ ks y b) rfl (λvs I w bs h=>let ⟨y,hy⟩:=DA h;⟨y,bs,λq hq=>hq,hy⟩) λy=>?_;by_cases hne:nt=[]
  ·subst hne;refine BN 4 (λ_:PLift (y.no=none/\y.nc=0)=>Cg _ [] _ ks y b) rfl (λvs I w bs h=>⟨⟨iZ h⟩,h⟩) λhy=>?_;obtain ⟨no,nc,ko,kc,kbs⟩:=y;obtain ⟨⟨rfl,rfl⟩⟩:=hy;refine md [] rfl (by simp) ?_;refine Br Ak 4 ((dTyc (.mk so n x ps)).map .imm) rfl rfl (λ_ vs I w bs h=>JK h) rfl rfl (by simp [Ag]) ?_;refine mg [] rfl (by simp [Ag]) ?_;refine Br Ak 4 ((Bh (.mk f hd2 hd3 hd4)).map .imm) rfl rfl (λ_ vs I w bs h=>OG h) rfl rfl (by simp [Ag]) ?_;refine mg [] rfl (by simp [Ag]) ?_;refine Br Ak 4 [.raw HP] rfl rfl (λ_ vs I w bs h=>Iz h) rfl rfl (by simp [Ag]) ?_;refine mg [] rfl (by simp [Ag]) ?_;refine Ce [] [] [] (fr:=[]) (nm:=[]) rfl trivial (by simp) XV trivial rfl trivial rfl rfl rfl ?_
   refine pB 4 rfl (by simp [Ag];rfl) ?_;refine Gg 5 6 rfl rfl λob=>?_;refine BN 6 (λ_:Unit=>AW (.mk (.mk so n x ps) [] (.mk f hd2 hd3 hd4) []) ob) rfl (λvs I w bs h=>⟨(),QN h⟩) λ_=>?_;refine A4 6 9 rfl ?_;exact Ad (J _ ob) ⟨rfl,rfl,trivial⟩ ⟨rfl,rfl,trivial⟩ rfl
  ·refine md [] rfl (by simp) ?_;refine Br Ak 4 ((dTyc (.mk so n x ps)).map .imm) rfl rfl (λ_ vs I w bs h=>JK h) rfl rfl (by simp [Ag]) ?_;refine mg [] rfl (by simp [Ag]) ?_;refine Br Ak 4 ((Bh (.mk f hd2 hd3 hd4)).map .imm) rfl rfl (λ_ vs I w bs h=>OG h) rfl rfl (by simp [Ag]) ?_;refine mg [] rfl (by simp [Ag]) ?_;refine Br Ak 4 [.raw (HF y.no nt.length y.nc)] rfl rfl (λ_ vs I w bs h=>Iz h) rfl rfl (by simp [Ag]) ?_;refine mg [] rfl (by simp [Ag]) ?_;refine Ce [(4,3)] [(2,5)] [4] (fr:=[5]) (nm:=[5]) rfl trivial (by simp) (bA _ nt _ ks y b hne hnt) ⟨⟨rfl,rfl,rfl⟩,trivial⟩ rfl ⟨⟨rfl,rfl⟩,trivial⟩ rfl rfl rfl ?_;refine pB 4 rfl (by simp [Ag];rfl) ?_;refine IB 5 7 rfl λv=>?_
   refine Gg 6 8 rfl rfl λob=>?_;refine Gf 8 7 9 (λ_:Unit=>AW (.mk (.mk so n x ps) nt (.mk f hd2 hd3 hd4) []) ob) rfl rfl (by decide) (λvs us I w b1 b2 h1 h2 h3=>let ⟨bs,e1,e2⟩:=bE hne h1 h2 h3;⟨(),bs,e1,e2⟩) λ_=>?_;exact Ad (J _ ob) ⟨rfl,rfl,trivial⟩ ⟨rfl,rfl,trivial⟩ rfl
termination_by m=>SizeOf.sizeOf m
decreasing_by
 have:=List.sizeOf_lt_of_mem (List.mem_of_getElem? hk);simp_wf;omega
def E5 (ds:List Dt):Mi->List Int->Mi
 | m,[]=>m
 | m,i::p=>match (Af ds m).ks[i.toNat]? with
  | some k=>E5 ds k p
  | none=>m
def Mk (ds:List Dt):Mi->List Int->Mi->Mi
 | _,[],k=>k
 | m,i::p,k=>match (Af ds m).ks[i.toNat]? with
  | some x=>.mk (Af ds m).ty (Af ds m).nt (Af ds m).hd ((Af ds m).ks.set i.toNat (Mk ds x p k))
  | none=>m
theorem RM {ds:List Dt} (h:Ty):∀(path:List Int) (m:Mi),Jc ds m path->A7 ds m path h true=Mk ds m path (AZ ds (E5 ds m path) h) /\
  A7 ds m path h false=Mk ds m path (.mk (E5 ds m path).ty ((E5 ds m path).nt++[h]) (E5 ds m path).hd (E5 ds m path).ks)
 | [],m,_=>⟨rfl,rfl⟩
 | i::p,m,⟨_,k,hk,hp⟩=>by
  obtain ⟨h1,h2⟩:=RM h p k hp;simp only [A7,Mk,E5,hk,h1,h2];exact ⟨trivial,trivial⟩
def AtA (ds:List Dt) (m:Mi) (b:Nat) (path:List Int):Asn where
 P us I w bs:=∃x b1 b2,us=[ptr x]/\(∀q∈b1,q∈bs)/\(∀q∈b2,q∈bs)/\(∀q∈b1,q∉b2)/\(FV b x (Mk ds m path)).P [] I w b1/\(AW (E5 ds m path) x).P [] I w b2
 mono:=λh ⟨x,b1,b2,h0,h1,h2,h3,h4,h5⟩=>⟨x,b1,b2,h0,h1,h2,h3,(FV _ _ _).mono h h4,(AW _ _).mono h h5⟩
 loc:=λh ⟨x,b1,b2,h0,h1,h2,h3,h4,h5⟩=>⟨x,b1,b2,h0,h1,h2,h3,(FV _ _ _).loc (λq hq=>h q (h1 q hq)) h4,(AW _ _).loc (λq hq=>h q (h2 q hq)) h5⟩
theorem Th {I:Imm} {w:World} {ty:Ty} {nt:List Ty} {hd:Ty} {ks:List Mi} {y:Opn} {b i kb:Nat} {us vs:List Value} {bs:List Nat} (h:(Rc ty nt hd ks y b i kb).P us I w bs):(FV b kb (λk=>.mk ty nt hd (ks.set i k))).P vs I w bs:=by
 intro J w2 k F hJ hw hm hF;obtain ⟨G,g1,g2⟩:=h J w2 k F hJ hw hm hF;obtain ⟨F',f1,f2⟩:=El (vs:=[]) g1;exact ⟨F',f1,λq hq=>g2 q (f2 q hq)⟩
structure AtI where
 i:Nat
 x:Nat
 n:Mi
 T:Mi->Mi
set_option maxHeartbeats 4000000 in
theorem oM (c:Cse) (sz:List (List V)) (ho:OkW c.datas) (N:Nat) (m:Mi) (b:Nat) (path:List Int) (hl:path.length<=1000000) (hw:Hb c.datas N m=true) (hc:DF c.datas m) (hp:Jc c.datas m path) :
  AV Tryz.prog 155 [.imm (AM c sz),.raw (ptr b),.imm (.sl (AX path))] [(1,some (.hp (AW m b)))] (.ret (.hv 2 0) [(2,some (.hp (AtA c.datas m b path)))]):=by
 have hK:=λn x hn=>Vo c sz n x ho hn;refine Ae Ak Tryz.func155 (by decide +kernel) rfl [4,5,6,7,8,9,10,11,12] rfl rfl ?_;refine IC 1 4 5 (λ_:Unit=>FV b b (λk=>k)) (λ_:Unit=>AW m b) rfl (λvs I w bs h=>⟨(),[],bs,(λq hq=>by cases hq),(λq hq=>hq),(λq hq=>by cases hq),iN,h⟩) λ_=>?_;refine md [] rfl (by simp) ?_;refine Aj (λy:AtI=>[(11,.imm (.int .i64 y.i)),(10,.imm (.int .i64 path.length)),(9,.imm (.sl (AX path))),(1,.raw (ptr y.x)),(0,.imm (AM c sz))])
  (λy=>[(4,some (.hp (FV b y.x y.T))),(5,some (.hp (AW y.n y.x)))]) [6,7,8,9,10,11,12] (λy=>path.length-y.i)
  (λy=>y.i<=path.length/\Hb c.datas N y.n=true/\DF c.datas y.n/\Jc c.datas y.n (path.drop y.i)/\E5 c.datas y.n (path.drop y.i)=E5 c.datas m path/\∀k,y.T (Mk c.datas y.n (path.drop y.i) k)=Mk c.datas m path k)
  ⟨0,b,m,λk=>k⟩ ⟨Nat.zero_le _,hw,hc,hp,rfl,λk=>rfl⟩ ⟨rfl,As (by simp),rfl,rfl,rfl,trivial⟩ ⟨rfl,rfl,trivial⟩ rfl λy hi ih=>?_
 obtain ⟨i,x,n,T⟩:=y;obtain ⟨hi1,hi2,hi3,hi4,hi5,hi6⟩:=hi;simp only at hi1 hi2 hi3 hi4 hi5 hi6;refine md [] rfl (by simp) ?_;refine Aa rfl (λh=>?_) (λh=>?_)
 ·have hlt:i<path.length:=by simp at h;omega
  obtain ⟨j,hj⟩:=Am hlt;rw [Ao hj] at hi4 hi5 hi6;obtain ⟨hj0,k,hk,hk2⟩:=hi4;have hsw:=Dh ho hi2;have hsc:=Df (ds:=c.datas) hi3;have hkm:=List.mem_of_getElem? hk;have hne:AC (Af c.datas n).hd≠0:=λe=>by rw [(B6.1 hsc).1 e] at hkm;cases hkm
  have hkb:GD c.datas n=true:=decide_eq_true hne;have hKn:=hK n x (Bi.1 hi2).1.1;rw [hkb] at hKn;simp only [E5,Mk,hk] at hi5 hi6;have hwk:=(Bi.1 hsw).2.2 k hkm;have hck:=(B6.1 hsc).2.2 k hkm;have hjl:=(List.getElem?_eq_some_iff.1 hk).1;have hkl:=(Bi.1 hsw).1.2.1;generalize Af c.datas n=S at *;obtain ⟨ty,nt,hd,ks⟩:=S;simp only [Mi.ks,Mi.ty,Mi.nt,Mi.hd] at *;refine md [] rfl (by simp) ?_;refine mi rfl (c:=[.int .i64 j]) (λ_=>⟨by simp,by simp [AX,hj],rfl⟩) (by simp) ?_;refine mg [] rfl (by simp) ?_;refine Ay (fr:=[6]) [(5,1)] [(2,6)] rfl (by simp) hKn ⟨⟨rfl,rfl,rfl⟩,trivial⟩ rfl rfl rfl rfl ?_;refine BN 6 (λy:Opn=>Cg ty nt hd ks y x) rfl (λvs I w bs h=>DA h) λy=>?_;refine md [] rfl (by simp) ?_
  refine Br Ak 6 [.raw (HF y.ko ks.length y.kc)] rfl rfl (λ_ vs I w bs h=>JL h) rfl rfl (by simp [Ag]) ?_;refine mg [] rfl (by simp [Ag]) ?_;refine Aa rfl (λh=>by exfalso;simp at h;omega) (λh=>?_);clear h;obtain ⟨q,rfl⟩:∃q:Nat,j=q:=⟨j.toNat,by omega⟩
  simp only [Int.toNat_natCast] at *;refine BN 6 (λ_:{ z:Nat×Nat // y.ko=some z.1/\y.kbs[q]?=some z.2 }=>Cg ty nt hd ks y x) rfl (λvs I w bs hA=>?_) λz=>?_
  ·obtain ⟨g,g1,_⟩:=OD hA (λe=>by rw [e] at hjl;simp at hjl);have hl:=HO hA;exact ⟨⟨(g,y.kbs[q]'(by omega)),g1,List.getElem?_eq_getElem (by omega)⟩,hA⟩
  obtain ⟨⟨g,kb⟩,hko,hkb2⟩:=z;simp only at hko hkb2;obtain ⟨no,nc,ko,kc,kbs⟩:=y;simp only at hko hkb2;subst hko;refine md [] rfl (by simp) ?_;refine Br Ak 6 [.raw (HF (some g) ks.length kc)] rfl rfl (λ_ vs I w bs h=>JL h) rfl rfl (by simp [Ag]) ?_;refine mg [] rfl (by simp [Ag]) ?_;refine LJ Ak rfl rfl (λ_=>⟨by simp,by simp;omega⟩) (by simp) ?_;refine mg [] rfl (by simp) ?_;refine Br Ak 6 [.raw (ptr kb)] rfl rfl (λ_ vs I w bs h=>Ve rfl hkb2 h) rfl rfl (by simp) ?_;refine mg [] rfl (by simp) ?_;refine IC 6 7 8 (λ_:Unit=>FV x kb (λk'=>.mk ty nt hd (ks.set q k'))) (λ_:Unit=>AW k kb) rfl (λvs I w bs h=>let ⟨b1,b2,h1,h2,h3,h4,h5⟩:=PH h hk hkb2;⟨(),b1,b2,h1,h2,h3,Th h4,h5⟩) λ_=>?_
  refine Gf 4 7 9 (λ_:Unit=>FV b kb (λk'=>T (.mk ty nt hd (ks.set q k')))) rfl rfl (by decide) (λvs us I w b1 b2 h1 h2 h3=>⟨(),b1++b2,λq hq=>List.mem_append.1 hq,Zh h1 h2 h3⟩) λ_=>?_;refine A4 4 9 rfl ?_;refine A4 5 8 rfl ?_;exact Ad (ih ⟨i+1,kb,k,λk'=>T (.mk ty nt hd (ks.set q k'))⟩ (by simp only;omega) ⟨by simp only;omega,hwk,hck,hk2,hi5,hi6⟩) ⟨As (B9 (by omega) (by omega)),rfl,rfl,rfl,rfl,trivial⟩ ⟨rfl,rfl,trivial⟩ rfl
 ·have hlt:¬i<path.length:=by simp at h;omega
  refine Ar rfl ?_;rw [List.drop_eq_nil_of_le (by omega)] at hi5 hi6;simp only [E5,Mk] at hi5 hi6;have hT:T=Mk c.datas m path:=funext hi6;subst hT;subst hi5;refine md [] rfl (by simp) ?_;refine Gf 4 5 6 (λ_:Unit=>Ra (FV b x (Mk c.datas m path)) (AW (E5 c.datas m path) x)) rfl rfl (by decide) (λvs us I w b1 b2 h1 h2 h3=>⟨(),b1++b2,λq hq=>List.mem_append.1 hq,b1,b2,λq hq=>List.mem_append_left _ hq,λq hq=>List.mem_append_right _ hq,h3,h1,h2⟩) λ_=>?_;refine GM 6 6 7 (AtA c.datas m b path) rfl rfl rfl (λus I w bs ⟨b1,b2,h1,h2,h3,h4,h5⟩=>⟨x,b1,b2,rfl,h1,h2,h3,h4,h5⟩) ?_;refine A4 7 2 rfl ?_;exact Ab ⟨_,rfl,rfl,rfl,trivial⟩
section
variable {I J:Imm} {w w':World} {ty:Ty} {nt:List Ty} {hd:Ty} {ks:List Mi} {nv kv:Value} {kbs:List Nat} {b:Nat} {us:List Value} {bs:List Nat}
def hZ (ty:Ty) (nt:List Ty) (hd:Ty) (ks:List Mi) (b:Nat):Asn where
 P us I w bs:=∃v nv kv kbs Fk,us=[v]/\YR I w ty hd nv kv b/\Si I w nt v/\JP w kbs kv/\Dj I w ks kbs Fk/\(AG v kv b++Fk).Nodup/\∀q∈AG v kv b++Fk,q∈bs
 mono:=λh ⟨v,nv,kv,kbs,Fk,h0,⟨vs,ts,hs,h1,h2,h3,h4⟩,⟨⟨xs,h5,h6⟩,h7⟩,h8,h9,h10⟩=>⟨v,nv,kv,kbs,Fk,h0,⟨vs,ts,hs,h1,h2,h3.mono h,h4.mono h⟩,⟨⟨xs,h5,h6.mono h⟩,h7⟩,h8,D4 h h9,h10⟩
 loc:=λh ⟨v,nv,kv,kbs,Fk,h0,⟨vs,ts,hs,h1,h2⟩,⟨⟨xs,h5,h6⟩,h7⟩,h8,h9,h10,h11⟩=>⟨v,nv,kv,kbs,Fk,h0,⟨vs,ts,hs,(h b (h11 b (by simp [AG]))).trans h1,h2⟩,
  ⟨⟨xs,BJ (λq hq=>h q (h11 q (by simp only [AG,List.cons_append,List.mem_cons,List.mem_append];exact .inr (.inl (.inl hq))))) h5,h6⟩,h7⟩,BJ (λq hq=>h q (h11 q (by simp only [AG,List.cons_append,List.mem_cons,List.mem_append];exact .inr (.inl (.inr hq))))) h8,
  Cu (λq hq=>h q (h11 q (by simp [hq]))) h9,h10,h11⟩
theorem kG {h:Ty} {bytes:Nat} (hb:bytes<=1000) (hl:nt.length<=1000000):iH (CD ty nt hd ks nv kv kbs b) (hZ ty (nt++[h]) hd ks b) 150 3 bytes nv [Bh h]:=by
 refine ⟨λc hc=>by simp at hc;subst hc;simp,λus I w b1 ⟨Fk,⟨hcell,hnot,hrow⟩,h2,h3,h4⟩=>?_⟩;obtain ⟨⟨xs,x1,x2⟩,x3⟩:=hnot;refine ⟨nt.length,xs,x1,λq hq=>h4 q (by simp [AG,hq]),⟨by simp only [maxLen,List.length_singleton];omega,?_⟩,λv' w' news n1 n2 hg=>?_⟩
 ·have:(nt.length+1)*bytes<=1000001*1000:=Nat.mul_le_mul (by omega) hb;simp only [List.length_singleton];omega
 have hne:∀q,q<w.heap.size->q∉nv.ownBlock.toList->w'.heap[q]?=w.heap[q]?:=λq hq hk=>hg.2.1.block q hq (λe=>hk (by simp [e]));have hbase:∀q∈nv.ownBlock.toList,q∈b1:=λq hq=>h4 q (by simp only [AG,List.cons_append,List.mem_cons,List.mem_append];exact .inr (.inl (.inl hq)));have hnod:=h3;simp only [AG,List.cons_append,List.append_assoc] at hnod;obtain ⟨n1',n2'⟩:=List.nodup_cons.1 hnod;obtain ⟨n3,n4,n5⟩:=List.nodup_append.1 n2';obtain ⟨n6,n7,n8⟩:=List.nodup_append.1 n4;have hbk:b∉nv.ownBlock.toList:=λh=>n1' (by simp only [List.mem_append];exact .inl h);have hkk:∀q∈kv.ownBlock.toList,q∉nv.ownBlock.toList:=λq hq hk=>n5 q hk q (by simp only [List.mem_append];exact .inl hq) rfl
 have hFk:∀q∈Fk,q∉nv.ownBlock.toList:=λq hq hk=>n5 q hk q (by simp only [List.mem_append];exact .inr hq) rfl;have hltn:=T2 (I:=I) (w:=w) (ty:=ty) (nt:=nt) (hd:=hd) (nv:=nv) (kv:=kv) (kbs:=kbs) (b:=b) ⟨hcell,⟨⟨xs,x1,x2⟩,x3⟩,hrow⟩;have hltb:b<w.heap.size:=hltn b (by simp [AG]);have hltkv:∀q∈kv.ownBlock.toList,q<w.heap.size:=λq hq=>hltn q (by simp only [AG,List.mem_cons,List.mem_append];exact .inr (.inr hq));have hltF:=OK h2;have hv1:∀q∈v'.ownBlock.toList,q∈nv.ownBlock.toList\/w.heap.size<=q:=λq hq=>T0 hg hq;refine ⟨AG v' kv b++Fk,λq hq=>?_,v',nv,kv,kbs,Fk,rfl,?_,⟨⟨xs++news,?_,?_⟩,λe=>by simp at e⟩,?_,?_,?_,λq hq=>hq⟩
 ·simp only [AG,List.cons_append,List.mem_cons,List.mem_append] at hq;have hw:q∈b1\/(w.heap.size<=q/\q∈v'.ownBlock.toList):=by
   rcases hq with rfl | (hq | hq) | hq
   ·exact .inl (h4 q (by simp [AG]))
   ·rcases hv1 q hq with h | h
    ·exact .inl (hbase q h)
    ·exact .inr ⟨h,hq⟩
   ·exact .inl (h4 q (by simp only [AG,List.cons_append,List.mem_cons,List.mem_append];exact .inr (.inl (.inr hq))))
   ·exact .inl (h4 q (by simp [hq]))
  rcases hw with h | ⟨h,hq⟩
  ·exact .inl h
  ·exact .inr ⟨h,PF hg.1 hq⟩
 ·obtain ⟨vs0,ts,hs,c1,c2⟩:=hcell;exact ⟨vs0,ts,hs,(hne b hltb hbk).trans c1,c2⟩
 ·rw [List.length_append];exact hg.1
 ·rw [NU,List.flatten_append];exact x2.append n1
 ·exact BJ (λq hq=>hne q (hltkv q hq) (hkk q hq)) hrow
 ·exact Cu (λq hq=>hne q (hltF q hq) (hFk q hq)) h2
 ·have hvn:v'.ownBlock.toList.Nodup:=by cases v'.ownBlock <;> simp
  simp only [AG,List.cons_append,List.append_assoc];refine List.nodup_cons.2 ⟨λh=>?_,List.nodup_append.2 ⟨hvn,n4,λx hx y hy e=>?_⟩⟩
  ·rcases List.mem_append.1 h with h | h
   ·rcases hv1 b h with h | h
    ·exact hbk h
    ·omega
   ·exact n1' (List.mem_append_right _ h)
  ·subst e;rcases List.mem_append.1 hy with hy | hy
   ·rcases hv1 x hx with h | h
    ·exact hkk x hy h
    ·have:=hltkv x hy;omega
   ·rcases hv1 x hx with h | h
    ·exact hFk x hy h
    ·have:=hltF x hy;omega
theorem iV:QZ (hZ ty nt hd ks b) (AW (.mk ty nt hd ks) b) b 7 0:=by
 intro us I w bs ⟨v,nv,kv,kbs,Fk,h0,⟨vs,ts,hs,h1,h2,h3,h4⟩,h5,h6,h7,h8,h9⟩;have e1:ts.length=4:=by rw [h3.1,Pi]
 have e2:hs.length=3:=by rw [h4.1];simp
 have hl:vs.toList.length=9:=by rw [h2];simp [e1,e2]
 refine ⟨h9 b (by simp [AG]),vs,_,h1,by simp at hl;omega,λu hu h1u=>?_⟩;subst h0;have hu:v=u:=by simpa using hu
 subst hu;have hne:=KA h8;refine ⟨AG v kv b++Fk,⟨v,kv,kbs,Fk,⟨⟨_,ts,hs,setRow_heap w b vs _ _ _ h1,?_,h3,h4⟩,⟨?_,h5.2⟩,?_⟩,?_,rfl,h8⟩,h9⟩
 ·rw [List.toList_toArray,h2]
  match ts,e1 with
  | [a0,a1,a2,a3],_ =>
  match hs,e2 with
  | [a4,a5,a6],_=>simp
 ·obtain ⟨⟨xs,x1,x2⟩,_⟩:=h5;exact ⟨xs,BJ (λq hq=>CF (hne q (by simp only [List.mem_append];exact .inl (.inl hq)))) x1,x2⟩
 ·exact BJ (λq hq=>CF (hne q (by simp only [List.mem_append];exact .inl (.inr hq)))) h6
 ·exact Cu (λq hq=>CF (hne q (by simp only [List.mem_append];exact .inr hq))) h7
end
theorem XX {ds:List Dt} (ho:OkW ds) {N:Nat}:∀(path:List Int) (m:Mi),Hb ds N m=true->Jc ds m path->Hb ds N (E5 ds m path)=true
 | [],m,h,_=>h
 | i::p,m,h,⟨_,k,hk,hp⟩=>by
  simp only [E5,hk];exact XX ho p k ((Bi.1 (Dh ho h)).2.2 k (List.mem_of_getElem? hk)) hp
set_option maxHeartbeats 4000000 in
theorem W5 (c:Cse) (sz:List (List V)) (ho:OkW c.datas) (N:Nat) (hN:N<=1000000) (m:Mi) (b:Nat) (path:List Int) (h:Ty) (is:Bool) (hl:path.length<=1000000) (hw:Hb c.datas N m=true) (hc:DF c.datas m) (hp:Jc c.datas m path) :
  AV Tryz.prog 110 [.imm (AM c sz),.raw (ptr b),.imm (.sl (AX path)),.imm (.agg (Bh h)),.imm (.bool is)] [(1,some (.hp (AW m b)))] (.ret (.hv 2 0) [(3,some (.hp (AW m b))),(2,some (.hp (H2 (A7 c.datas m path h is))))]):=by
 have hC:=OS c.datas N hN m b hw;have hA:=λx=>oM c sz ho N m x path hl hw hc hp;have hwp:=Bi.1 (XX ho path m hw hp);have hH:=λx=>X2 c sz (E5 c.datas m path) h x ho hwp.1.1;obtain ⟨s1,s2⟩:=RM h path m hp;have hnl:=hwp.1.2.2;obtain ⟨h1,h2,h3,h4⟩:=h;refine Ae Ak Tryz.func110 (by decide +kernel) rfl [4,5,6,7,8,9,10,11,12,13,14] rfl rfl ?_;refine mg [] rfl (by simp) ?_;refine Ay (fr:=[5,6]) [(1,1)] [(3,5),(2,6)] rfl (by simp) hC ⟨⟨rfl,rfl,rfl⟩,trivial⟩ rfl rfl rfl rfl ?_;refine Jy 6 7 (λob:Nat=>[ptr ob]) (λob=>AW m ob) rfl (λvs I w bs h=>let ⟨ob,F,e1,e2,e3⟩:=h;⟨ob,e1,F,e2,e3⟩) λob=>?_;refine md [] rfl (by simp) ?_
 refine Ay (fr:=[8]) [(7,1)] [(2,8)] rfl (by simp) (hA ob) ⟨⟨rfl,rfl,rfl⟩,trivial⟩ rfl rfl rfl rfl ?_;refine Jy 8 9 (λx:Nat=>[ptr x]) (λx=>Ra (FV ob x (Mk c.datas m path)) (AW (E5 c.datas m path) x)) rfl (λvs I w bs h=>let ⟨x,b1,b2,e1,e2⟩:=h;⟨x,e1,b1,b2,e2⟩) λx=>?_;refine IC 9 10 11 (λ_:Unit=>FV ob x (Mk c.datas m path)) (λ_:Unit=>AW (E5 c.datas m path) x) rfl (λvs I w bs ⟨b1,b2,h1,h2,h3,h4,h5⟩=>⟨(),b1,b2,h1,h2,h3,h4,h5⟩) λ_=>?_;refine md [] rfl (by simp) ?_;cases is with
 | true =>
  refine Aa rfl (λh=>?_) (λh=>by simp at h);refine md [] rfl (by simp) ?_;refine Ay (fr:=[12]) [(11,1)] [(2,12)] rfl (by simp) (hH x) ⟨⟨rfl,rfl,rfl⟩,trivial⟩ rfl rfl rfl rfl ?_;refine mg [] rfl (by simp) ?_;refine Gf 10 12 13 (λ_:Unit=>AW (A7 c.datas m path (.mk h1 h2 h3 h4) true) ob) rfl rfl (by decide) (λvs us I w b1 b2 k1 k2 k3=>let ⟨bs,e1,e2⟩:=RA k1 k2 k3;⟨(),bs,e1,by rw [s1];exact e2⟩) λ_=>?_;refine GM 13 10 14 (H2 (A7 c.datas m path (.mk h1 h2 h3 h4) true)) rfl rfl rfl (λus I w bs h=>let ⟨F,e1,e2⟩:=h;⟨ob,F,rfl,e1,e2⟩) ?_;refine A4 14 2 rfl ?_;refine A4 5 3 rfl ?_;exact Ab ⟨_,rfl,rfl,rfl,rfl,trivial⟩
 | false =>
  refine Aa rfl (λh=>by simp at h) (λh=>?_);generalize hP:E5 c.datas m path=P0 at *;obtain ⟨pty,pnt,phd,pks⟩:=P0;simp only [Mi.nt,Mi.ty,Mi.hd,Mi.ks] at hnl s2;refine BN 11 (λy:Opn=>Cg pty pnt phd pks y x) rfl (λvs I w bs h=>DA h) λy=>?_;refine md [] rfl (by simp) ?_;refine Br Ak 11 [.raw (HF y.no pnt.length y.nc)] rfl rfl (λ_ vs I w bs h=>Iz h) rfl rfl (by simp [Ag]) ?_;refine mg [] rfl (by simp [Ag]) ?_;refine mZ Ak 11 12 (hZ pty (pnt++[Ty.mk h1 h2 h3 h4]) phd pks x) rfl rfl (kG (h:=Ty.mk h1 h2 h3 h4) (bytes:=32) (by decide) (by omega)) ?_;refine mg [] rfl (by simp) ?_;refine MR Ak 12 _ rfl rfl iV ?_;refine mg [] rfl (by simp [Ag];rfl) ?_
  refine Gf 10 12 13 (λ_:Unit=>AW (A7 c.datas m path (.mk h1 h2 h3 h4) false) ob) rfl rfl (by decide) (λvs us I w b1 b2 k1 k2 k3=>let ⟨bs,e1,e2⟩:=RA k1 k2 k3;⟨(),bs,e1,by rw [s2];exact e2⟩) λ_=>?_;refine GM 13 10 14 (H2 (A7 c.datas m path (.mk h1 h2 h3 h4) false)) rfl rfl rfl (λus I w bs h=>let ⟨F,e1,e2⟩:=h;⟨ob,F,rfl,e1,e2⟩) ?_;refine A4 14 2 rfl ?_;refine A4 5 3 rfl ?_;exact Ab ⟨_,rfl,rfl,rfl,rfl,trivial⟩
end Go.Hk
namespace Go.Hk
open Go.Proofs
section
variable {I J:Imm} {w w':World} {ty:Ty} {nt:List Ty} {hd:Ty} {ks:List Mi} {b:Nat} {us:List Value} {bs:List Nat}
def Wy (ty:Ty) (nt:List Ty) (hd:Ty) (ks:List Mi) (y:Opn) (b i kb:Nat):Asn where
 P us I w bs:=H8 I w ty nt hd (HF y.no nt.length y.nc) (HF y.ko ks.length y.kc) y.kbs b/\y.kbs.length=ks.length/\(∀q∈AG (HF y.no nt.length y.nc) (HF y.ko ks.length y.kc) b,q∈bs)/\(Rc ty nt hd ks y b i kb).P us I w bs
 mono:=λh ⟨h1,h2,h3,h4⟩=>⟨En h h1,h2,h3,(Rc ty nt hd ks y b i kb).mono h h4⟩
 loc:=λh ⟨h1,h2,h3,h4⟩=>⟨Fh (λq hq=>h q (h3 q hq)) h1,h2,h3,(Rc ty nt hd ks y b i kb).loc h h4⟩
theorem UN {y:Opn} {i kb:Nat} {k:Mi} (h:(Cg ty nt hd ks y b).P us I w bs) (hk:ks[i]?=some k) (hkb:y.kbs[i]?=some kb) :
  ∃b1 b2,(∀q∈b1,q∈bs)/\(∀q∈b2,q∈bs)/\(∀q∈b1,q∉b2)/\(Wy ty nt hd ks y b i kb).P [] I w b1/\(AW k kb).P [] I w b2:=by
 have h0:=h;obtain ⟨Fk,h1,h2,h3,h4⟩:=h0;have hl:=HO h;obtain ⟨kb',F1,Fi,F2,g1,g2,g3,g4⟩:=KG h2 hk;rw [hkb] at g1;cases g1;subst g3;generalize hnv:HF y.no nt.length y.nc=nv at *;generalize hkv:HF y.ko ks.length y.kc=kv at *;refine ⟨AG nv kv b++(F1++F2),Fi,λq hq=>h4 q (by simp at hq ⊢;rcases hq with h | h | h <;> simp [h]),λq hq=>h4 q (by simp [hq]),λq hq hq2=>?_,⟨by rw [hnv,hkv];exact h1,hl,λq hq=>by rw [hnv,hkv] at hq;simp [hq],?_⟩,⟨Fi,g2,λq hq=>hq⟩⟩
 ·have e:AG nv kv b++(F1++Fi++F2)=(AG nv kv b++F1)++Fi++F2:=by simp
  rw [e] at h3;have hn:=List.nodup_append.1 h3;have hn2:=List.nodup_append.1 hn.1;rcases List.mem_append.1 hq with hq | hq
  ·exact hn2.2.2 q (by simp [hq]) q hq2 rfl
  ·rcases List.mem_append.1 hq with hq | hq
   ·exact hn2.2.2 q (by simp [hq]) q hq2 rfl
   ·exact hn.2.2 q (by simp [hq2]) q hq rfl
 ·intro J w2 k' F hJ hw hm hd';refine ⟨AG nv kv b++(F1++F++F2),⟨F1++F++F2,?_,g4 J w2 k' F hJ (λq hq=>hw q (by simp only [List.mem_append] at hq ⊢;exact .inr hq)) hm,?_,λq hq=>?_⟩,λq hq=>?_⟩
  ·rw [List.length_set,hnv,hkv];exact En hJ (Fh (λq hq=>hw q (by simp [hq])) h1)
  ·rw [List.length_set,hnv,hkv];have hF:=Ix hm;have e:AG nv kv b++(F1++Fi++F2)=(AG nv kv b++F1)++(Fi++F2):=by simp
   have e2:AG nv kv b++(F1++F++F2)=(AG nv kv b++F1)++(F++F2):=by simp
   rw [e] at h3;rw [e2];obtain ⟨a1,a2,a3⟩:=List.nodup_append.1 h3;obtain ⟨a4,a5,a6⟩:=List.nodup_append.1 a2;refine List.nodup_append.2 ⟨a1,List.nodup_append.2 ⟨hF,a5,λx hx y hy e=>hd' x hx (by subst e;simp [hy])⟩,λx hx y hy e=>?_⟩;subst e;rcases List.mem_append.1 hy with hy | hy
   ·exact hd' x hy (by simp only [List.mem_append] at hx ⊢;rcases hx with h | h <;> simp [h])
   ·exact a3 x hx x (by simp [hy]) rfl
  ·rw [List.length_set,hnv,hkv] at hq;exact hq
  ·simp only [List.mem_append] at hq ⊢;rcases hq with h | (h | h) | h <;> simp [h]
theorem jM {y:Opn} {i kb:Nat} (h:(Wy ty nt hd ks y b i kb).P us I w bs):CR I w b 8 [.raw (HF y.ko ks.length y.kc)]:=by
 obtain ⟨h,_⟩:=h;obtain ⟨t1,t2,t3,t4⟩:=ty;obtain ⟨f1,f2,f3,f4⟩:=hd;exact Fs (Eg h) λj d hd=>by match j,hd with | 0,hd=>exact hd | j+1,hd=>simp at hd
theorem fI {y:Opn} {g i kb:Nat} (hko:y.ko=some g) (hkb:y.kbs[i]?=some kb) (h:(Wy ty nt hd ks y b i kb).P us I w bs):CR I w g (0+i*1) [.raw (ptr kb)]:=by
 obtain ⟨h1,h2,h3,_⟩:=h;have hi:=(List.getElem?_eq_some_iff.1 hkb).1;rcases h1.2.2.2 with ⟨_,h0⟩ | ⟨g',cap,cur,e,_,e1,e2,_,e3,e4⟩
 ·omega
 rw [hko] at e;simp only [HF,Option.map_some,Value.slice.injEq,Option.some.injEq,Addr.mk.injEq,and_true] at e;obtain ⟨rfl,e5,rfl⟩:=e;refine ⟨cur,_,_,e1,λj d hd=>?_⟩
 match j with
 | 0 =>
  simp at hd;subst hd;refine ⟨ptr kb,?_,rfl,.raw _ rfl⟩;have:(cur.toList.take (y.kbs.length*1))[i]?=some (ptr kb):=by rw [e4];simp [hkb]
  rw [List.getElem?_take] at this
  split at this
  ·simpa using this
  ·cases this
 | j+1=>simp at hd
theorem Qs {y:Opn} {i kb:Nat} {k:Mi} {vs:List Value} {b1 b2:List Nat} (h:(Wy ty nt hd ks y b i kb).P us I w b1) (hk:(AW k kb).P vs I w b2) (hd':∀q∈b1,q∉b2):∃bs,(∀q∈bs,q∈b1\/q∈b2)/\(Cg ty nt hd (ks.set i k) y b).P [] I w bs:=S7 h.2.2.2 hk hd'
end
def Ov (path:List Int) (r:Int×List Int×Ty):D:=if r.1=2 then .tup [.imm (.bool false),.ip 170 (.sl (AX (path++r.2.1))::Bh r.2.2) 0] else .imm (.tup [.bool (decide (r.1=1)),.nilp])
theorem Zu {ds:List Dt} {f n:Int} {x:Str} {ps:List Ty} {m:Mi} :
  (f=1\/f=2->Aw ds (.mk f n x ps) m=(1,[],zT)/\E3 ds (.mk f n x ps) m=m) /\
  (¬(f=1\/f=2)->AC (Af ds m).hd=0->E3 ds (.mk f n x ps) m=Af ds m/\(BH (Af ds m).nt (AO (.mk f n x ps))=true->Aw ds (.mk f n x ps) m=(0,[],zT))/\(BH (Af ds m).nt (AO (.mk f n x ps))=false->Aw ds (.mk f n x ps) m=(2,[],AO (.mk f n x ps)))) /\
  (¬(f=1\/f=2)->AC (Af ds m).hd≠0->A6 (Af ds m).hd (AO (.mk f n x ps))=false->E3 ds (.mk f n x ps) m=Af ds m/\Aw ds (.mk f n x ps) m=(0,[],zT)) /\
  (¬(f=1\/f=2)->AC (Af ds m).hd≠0->A6 (Af ds m).hd (AO (.mk f n x ps))=true->E3 ds (.mk f n x ps) m = .mk (Af ds m).ty (Af ds m).nt (Af ds m).hd (CV ds ps (Af ds m).ks)/\Aw ds (.mk f n x ps) m=AY ds 0 ps (Af ds m).ks):=by
 refine ⟨λh=>?_,λh h0=>?_,λh h0 h1=>?_,λh h0 h1=>?_⟩
 ·exact ⟨by simp only [Aw,if_pos h],by simp only [E3,if_pos h]⟩
 ·refine ⟨by simp only [E3,if_neg h,if_pos (Or.inl h0)],λhb=>?_,λhb=>?_⟩
  ·simp only [Aw,if_neg h];rw [if_neg (λhh=>by rw [hb] at hh;cases hh.2),if_pos (Or.inl h0)]
  ·simp only [Aw,if_neg h];rw [if_pos ⟨h0,hb⟩]
 ·refine ⟨by simp only [E3,if_neg h,if_pos (Or.inr h1)],?_⟩;simp only [Aw,if_neg h];rw [if_neg (λhh=>h0 hh.1),if_pos (Or.inr h1)]
 ·have hn:¬(AC (Af ds m).hd=0\/A6 (Af ds m).hd (AO (.mk f n x ps))=false):=λh=>by
   rcases h with h | h
   ·exact h0 h
   ·rw [h1] at h;cases h
  refine ⟨by simp only [E3,if_neg h,if_neg hn],?_⟩;simp only [Aw,if_neg h];rw [if_neg (λhh=>h0 hh.1),if_neg hn]
theorem U4 (l:List Int):∀c∈AX l,c.length=1:=λc hc=>by simp only [AX,List.mem_map] at hc;obtain ⟨q,_,rfl⟩:=hc;rfl
theorem gU (path:List Int) (i:Int) (r1:Int) (r2:List Int) (r3:Ty):Ov (path++[i]) (r1,r2,r3)=Ov path (r1,i::r2,r3):=by
 simp only [Ov,List.append_assoc,List.singleton_append]
theorem Zr {α:Type} {l:List α} {i:Nat} (a:α) (h:i<l.length):l.set i a=l.take i++a::l.drop (i+1):=by
 apply List.ext_getElem?;intro j;rw [List.getElem?_set];by_cases e:i=j
 ·subst e;rw [if_pos rfl,if_pos h,List.getElem?_append_right (by simp;omega)];simp [Nat.min_eq_left (Nat.le_of_lt h)]
 ·rw [if_neg e];rcases Nat.lt_or_ge j i with hj | hj
  ·rw [List.getElem?_append_left (by simp;omega),List.getElem?_take,if_pos hj]
  ·rw [List.getElem?_append_right (by simp;omega),List.length_take,Nat.min_eq_left (Nat.le_of_lt h)];obtain ⟨q,hq⟩:∃q,j-i=q+1:=⟨j-i-1,by omega⟩
   rw [hq,List.getElem?_cons_succ,List.getElem?_drop];congr 1;omega
set_option maxHeartbeats 4000000 in
theorem dD (c:Cse) (sz:List (List V)) (ho:OkW c.datas) (N:Nat) (hN:N<=1000000):∀(p:Ty) (m:Mi) (b:Nat) (path:List Int),path.length+Ai p<=1000000->Hb c.datas N m=true->DF c.datas m->Cr c.datas m.ty p=true->BB p=true ->
  AV Tryz.prog 109 [.imm (AM c sz),.imm (.agg (dTyc p)),.raw (ptr b),.imm (.sl (AX path))] [(1,some (.hp (AW m b)))] (.ret (Ov path (Aw c.datas p m)) [(2,some (.hp (AW (E3 c.datas p m) b)))])
 | .mk f n x ps,m,b,path,hN1,hw,hc,hpt,hpp=>by
  have hK:=Vo c sz m b ho (Bi.1 hw).1.1;have hW:=La (.mk f n x ps);have hcl:=bM path (by omega);have hfit:=NZ ho (.mk f n x ps) hw hc hpt hpp;have hsw:=Dh ho hw;have hsc:=Df (ds:=c.datas) hc;have hkp:¬(f=1\/f=2)->AC (Af c.datas m).hd≠0->A6 (Af c.datas m).hd (AO (.mk f n x ps))=true->ps.length=(Af c.datas m).ks.length/\∀(i:Nat) k p,(Af c.datas m).ks[i]?=some k->ps[i]?=some p->Cr c.datas k.ty p=true/\BB p=true:=λh12 h0 hE=>by
   obtain ⟨k1,k2,k3,k4⟩:=Lx (Bi.1 hw).1.1 hpt hpp h12;have hks:=((B6.1 hsc).2.1 h0).2;rw [Jp hE,Dz] at hks;refine ⟨by rw [<- k2,<- hks,List.length_map],λi k p hk hp=>⟨Ja k3 (by rw [<- hks];simp [hk]) hp,NF k4 hp⟩⟩
  obtain ⟨e1,e2,e3,e4⟩:=Zu (ds:=c.datas) (f:=f) (n:=n) (x:=x) (ps:=ps) (m:=m);simp only [Ai] at hN1;simp only [jR] at hfit;refine Ae Ak Tryz.func109 (by decide +kernel) rfl [3,4,5,6,7,8,9,10,11,12] rfl rfl ?_;refine mg [] rfl (by simp) ?_;by_cases h12:f=1\/f=2
  ·obtain ⟨q1,q2⟩:=e1 h12;rw [q1,q2];refine Aa rfl (λh=>?_) (λh=>by exfalso;revert h;rcases h12 with rfl | rfl <;> simp);refine md [] rfl (by simp) ?_;refine JW 1 4 (λ_:Unit=>AW m b) rfl (λvs I w bs h=>let ⟨F,k1,k2⟩:=h;⟨(),bs,λq hq=>hq,F,k1,k2⟩) λ_=>?_;refine A4 4 2 rfl ?_;exact Ab ⟨_,rfl,rfl,rfl,trivial⟩
  replace e2:=e2 h12;replace e3:=e3 h12;replace e4:=e4 h12;replace hkp:=hkp h12;clear e1;refine Aa rfl (λh=>by exfalso;apply h12;simpa using h) (λh=>?_);clear h;refine md [] rfl (by simp) ?_;refine Ac rfl (λ_=>hW) (by simp) ?_;have hkb:GD c.datas m=decide (AC (Af c.datas m).hd≠0):=rfl;generalize Aw c.datas (.mk f n x ps) m=L at *;generalize E3 c.datas (.mk f n x ps) m=ST at *;generalize AO (.mk f n x ps)=h at *;generalize Af c.datas m=S at *;generalize GD c.datas m=kb at *;obtain ⟨ty,nt,hd,ks⟩:=S;simp only [Mi.ty,Mi.nt,Mi.hd,Mi.ks] at *;obtain ⟨h1,h2,h3,h4⟩:=h;refine mg [] rfl (by simp) ?_;refine Ay (fr:=[5]) [(1,1)] [(2,5)] rfl (by simp) hK ⟨⟨rfl,rfl,rfl⟩,trivial⟩ rfl rfl rfl rfl ?_
  refine mg [] rfl (by simp) ?_;have hCt:=Gm nt (.mk h1 h2 h3 h4);by_cases h0:AC hd=0
  ·have hkf:kb=false:=by rw [hkb];exact decide_eq_false (λhh=>hh h0)
   subst hkf;obtain ⟨q1,q2,q3⟩:=e2 h0;refine Aa rfl (λh=>?_) (λh=>by simp at h);refine BN 5 (λy:Opn=>Cg ty nt hd ks y b) rfl (λvs I w bs h=>DA h) λy=>?_;refine md [] rfl (by simp) ?_;refine Br Ak 5 [.raw (HF y.no nt.length y.nc)] rfl rfl (λ_ vs I w bs h=>Iz h) rfl rfl (by simp [Ag]) ?_;refine mg [] rfl (by simp [Ag]) ?_;refine OO 5 (vs:=[.sl (Bu nt),.agg (Bh (.mk h1 h2 h3 h4))]) rfl rfl (λ_=>⟨.inr ⟨_,rfl,λus I w bs h J hle hJ=>HH h hle hJ⟩,.inl rfl,trivial⟩) (λ_=>hCt) rfl (by simp) rfl ?_;refine mg [] rfl (by simp [Ag];rfl) ?_;refine BN 5 (λ_:Unit=>AW (.mk ty nt hd ks) b) rfl (λvs I w bs h=>⟨(),El h⟩) λ_=>?_;rw [q1];cases hb:BH nt (.mk h1 h2 h3 h4) with
   | true =>
    rw [q2 hb];refine Aa rfl (λh=>?_) (λh=>by simp at h);refine md [] rfl (by simp) ?_;refine A4 5 2 rfl ?_;exact Ab ⟨_,rfl,rfl,rfl,trivial⟩
   | false =>
    rw [q3 hb];refine Aa rfl (λh=>by simp at h) (λh=>?_);refine md [] rfl (by simp) ?_;refine Ac rfl (λ_=>hcl) (by simp) ?_;refine mg [] rfl (by simp;rfl) ?_;refine Og 9 rfl rfl ?_;refine A4 5 2 rfl ?_;have hap:path++[]=path:=List.append_nil path;simp only [Ov,if_true,hap];exact Ab ⟨_,rfl,rfl,rfl,trivial⟩
  have hkt:kb=true:=by rw [hkb];exact decide_eq_true h0
  subst hkt;refine Aa rfl (λh=>by simp at h) (λh=>?_);refine BN 5 (λy:Opn=>Cg ty nt hd ks y b) rfl (λvs I w bs h=>DA h) λy=>?_;refine md [] rfl (by simp) ?_;obtain ⟨d1,d2,d3,d4⟩:=hd;refine Br Ak 5 ((Bh (.mk d1 d2 d3 d4)).map .imm) rfl rfl (λ_ vs I w bs h=>OG h) rfl rfl (by simp [Ag]) ?_;refine mg [] rfl (by simp [Ag]) ?_;refine V5 Ak rfl LG (by simp [Ag]) ?_;refine mg [] rfl (by simp [Ag];rfl) ?_;cases hE:A6 (.mk d1 d2 d3 d4) (.mk h1 h2 h3 h4) with
  | false =>
   obtain ⟨q1,q2⟩:=e3 h0 hE;rw [q1,q2];simp only [A6] at hE;refine BN 5 (λ_:Unit=>AW (.mk ty nt (.mk d1 d2 d3 d4) ks) b) rfl (λvs I w bs h=>⟨(),El h⟩) λ_=>?_;refine Aa rfl (λh=>?_) (λh=>by exfalso;simp at h hE;grind);refine md [] rfl (by simp) ?_;refine A4 5 2 rfl ?_;exact Ab ⟨_,rfl,rfl,rfl,trivial⟩
  | true =>
  obtain ⟨q1,q2⟩:=e4 h0 hE;rw [q1,q2];have hEf:(AC (Ty.mk d1 d2 d3 d4)=0)=False:=by simp [h0]
  simp only [A6] at hE;refine Aa rfl (λh=>by exfalso;simp at h hE;grind) (λh=>?_);clear h;refine md [] rfl (by simp) ?_;obtain ⟨hpl,hkp⟩:=hkp h0 (by simp only [A6];exact hE);have hks3:ks.length<=3:=(Bi.1 hsw).1.2.1;refine Aj (λz:Nat×List Mi=>[(49,.imm (.int .i64 z.1)),(48,.imm (.int .i64 ps.length)),(47,.imm (.sl (AT ps))),(3,.imm (.sl (AX path))),(2,.raw (ptr b)),(0,.imm (AM c sz))])
   (λz=>[(5,some (.hp (Cg ty nt (.mk d1 d2 d3 d4) z.2 y b)))]) [6,7,8,9,10,11,12] (λz=>ps.length-z.1)
   (λz=>z.1<=ps.length/\z.2.length=ks.length/\z.2.drop z.1=ks.drop z.1/\AY c.datas 0 ps ks=AY c.datas z.1 (ps.drop z.1) (ks.drop z.1)/\CV c.datas ps ks=z.2.take z.1++CV c.datas (ps.drop z.1) (ks.drop z.1)) (0,ks)
   ⟨Nat.zero_le _,rfl,rfl,rfl,rfl⟩ ⟨rfl,As (by simp),rfl,rfl,rfl,rfl,trivial⟩ ⟨rfl,trivial⟩ rfl λz hz ih=>?_
  obtain ⟨i,K⟩:=z;obtain ⟨z1,z2,z3,z4,z5⟩:=hz;simp only at z1 z2 z3 z4 z5;refine md [] rfl (by simp) ?_;refine Aa rfl (λh=>?_) (λh=>?_)
  ·have hlt:i<ps.length:=by simp at h;omega
   obtain ⟨p,hp⟩:=Am hlt;obtain ⟨k,hk⟩:=Am (l:=ks) (i:=i) (by omega);have hKk:K[i]?=some k:=by
    have:=congrArg (·[0]?) z3;simpa [hk] using this
   obtain ⟨r1,r2⟩:=hkp i k p hk hp;have hnp:=BU hp;have hS:=λkb=>dD c sz ho N hN p k kb (path++[(i:Int)]) (by simp;omega) ((Bi.1 hsw).2.2 k (List.mem_of_getElem? hk)) ((B6.1 hsc).2.2 k (List.mem_of_getElem? hk)) r1 r2;rw [Xa hp hk] at z4;rw [Ao hp,Ao hk] at z5;simp only [CV] at z5;have hKi:i<K.length:=by omega
   have hdr:K.drop (i+1)=ks.drop (i+1):=by rw [<- List.drop_drop,z3,List.drop_drop]
   have hset:=Zr (E3 c.datas p k) hKi;have hn1:∀e:(Aw c.datas p k).1≠1,CV c.datas ps ks=K.set i (E3 c.datas p k):=λe=>by rw [z5,hset,if_neg e,hdr]
   have hn2:(Aw c.datas p k).1=1->CV c.datas ps ks=(K.set i (E3 c.datas p k)).take (i+1)++CV c.datas (ps.drop (i+1)) (ks.drop (i+1)):=λe=>by
    have e1:(K.set i (E3 c.datas p k))[i]?=some (E3 c.datas p k):=List.getElem?_set_self hKi;rw [z5,if_pos e,Be e1,List.take_set_of_le (Nat.le_refl i)];simp
   have hn3:(K.set i (E3 c.datas p k)).drop (i+1)=ks.drop (i+1):=by rw [List.drop_set_of_lt (by omega)];exact hdr
   have hih:=λe:(Aw c.datas p k).1=1=>ih (i+1,K.set i (E3 c.datas p k)) (by simp only;omega) ⟨by simp only;omega,by simp [z2],hn3,by rw [z4,if_pos e],hn2 e⟩;have hz4:(Aw c.datas p k).1≠1->AY c.datas 0 ps ks=((Aw c.datas p k).1,(i:Int)::(Aw c.datas p k).2.1,(Aw c.datas p k).2.2):=λe=>by rw [z4,if_neg e]
   clear ih z4 z5 hn2 hn3 hset;generalize E3 c.datas p k=k' at *;generalize Aw c.datas p k=r at *;obtain ⟨r1',r2',r3'⟩:=r;simp only at hih hz4 hn1;refine BN 5 (λ_:{ z:Nat×Nat // y.ko=some z.1/\y.kbs[i]?=some z.2 }=>Cg ty nt (.mk d1 d2 d3 d4) K y b) rfl (λvs I w bs hA=>?_) λz=>?_
   ·obtain ⟨g,g1,_⟩:=OD hA (λe=>by have e:K=[]:=e;rw [e] at hKi;simp at hKi);have hl:y.kbs.length=K.length:=HO hA;exact ⟨⟨(g,y.kbs[i]'(by omega)),g1,List.getElem?_eq_getElem (by omega)⟩,hA⟩
   obtain ⟨⟨g,kb⟩,hko,hkb2⟩:=z;simp only at hko hkb2;obtain ⟨no,nc,ko,kc,kbs⟩:=y;simp only at hko hkb2;subst hko;refine IC 5 6 7 (λ_:Unit=>Wy ty nt (.mk d1 d2 d3 d4) K ⟨no,nc,some g,kc,kbs⟩ b i kb) (λ_:Unit=>AW k kb) rfl (λvs I w bs h=>let ⟨b1,b2,h1,h2,h3,h4,h5⟩:=UN h hKk hkb2;⟨(),b1,b2,h1,h2,h3,h4,h5⟩) λ_=>?_;refine md [] rfl (by simp) ?_;refine mi rfl (c:=dTyc p) (λ_=>⟨by simp,by simpa using Ax hp,by simp⟩) (by simp) ?_;obtain ⟨p1,p2,p3,p4⟩:=p;refine mg [] rfl (by simp) ?_;refine Br Ak 6 [.raw (HF (some g) K.length kc)] rfl rfl (λ_ vs I w bs h=>jM h) rfl rfl (by simp [Ag]) ?_;refine mg [] rfl (by simp [Ag]) ?_;refine LJ Ak rfl rfl (λ_=>⟨by simp,by simp;omega⟩) (by simp) ?_
   refine mg [] rfl (by simp) ?_;refine Br Ak 6 [.raw (ptr kb)] rfl rfl (λ_ vs I w bs h=>fI rfl hkb2 h) rfl rfl (by simp) ?_;refine mg [] rfl (by simp) ?_;refine Ce [] [] [] (fr:=[]) (nm:=[]) rfl trivial (by simp) (iF path) trivial rfl trivial rfl rfl rfl ?_;refine mg [] rfl (by simp) ?_;refine SC Ak rfl ⟨by simp,by simp [maxLen];omega,by simp;omega,U4 path,by simp⟩ (U4 path) ?_;refine mg [] rfl (by simp) ?_;have hap:AX path++[[V.int .i64 (i:Int)]]=AX (path++[(i:Int)]):=by simp [AX]
   rw [hap];have hSk:=hS kb;by_cases hr1:r1'=1
   ·have hQ1:Ov (path++[(i:Int)]) (r1',r2',r3') = .imm (.tup [.bool true,.nilp]):=by rw [hr1];rfl
    rw [hQ1] at hSk;refine Ce [(7,1)] [(2,9)] [] (fr:=[9]) (nm:=[9,7]) rfl trivial (by simp) hSk ⟨⟨rfl,rfl,rfl⟩,trivial⟩ rfl trivial rfl rfl rfl ?_;refine mg [] rfl (by simp [Ag];rfl) ?_;refine Gf 6 9 10 (λ_:Unit=>Cg ty nt (.mk d1 d2 d3 d4) (K.set i k') ⟨no,nc,some g,kc,kbs⟩ b) rfl rfl (by decide) (λvs us I w b1 b2 h1 h2 h3=>let ⟨bs,e1,e2⟩:=Qs h1 h2 h3;⟨(),bs,e1,e2⟩) λ_=>?_;refine Aa rfl (λh=>by simp at h) (λh=>?_);refine md [] rfl (by simp) ?_;refine A4 5 10 rfl ?_;exact Ad (hih hr1) ⟨As (B9 (by omega) (by omega)),rfl,rfl,rfl,rfl,rfl,trivial⟩ ⟨rfl,trivial⟩ rfl
   ·rw [hz4 hr1,hn1 hr1,<- gU];have hQc:(∃cs,Ov (path++[(i:Int)]) (r1',r2',r3') = .tup [.imm (.bool false),.ip 170 cs 0])\/Ov (path++[(i:Int)]) (r1',r2',r3') = .imm (.tup [.bool false,.nilp]):=by
     by_cases e:r1'=2
     ·rw [e];exact .inl ⟨_,rfl⟩
     ·simp only [Ov,if_neg e,decide_eq_false hr1];exact .inr trivial
    generalize Ov (path++[(i:Int)]) (r1',r2',r3')=Qd at *;rcases hQc with ⟨cs,rfl⟩ | rfl
    all_goals
     refine Ce [(7,1)] [(2,9)] [] (fr:=[9]) (nm:=[9,7]) rfl trivial (by simp) hSk ⟨⟨rfl,rfl,rfl⟩,trivial⟩ rfl trivial rfl rfl rfl ?_;refine mg [] rfl (by simp [Ag];rfl) ?_;refine Gf 6 9 10 (λ_:Unit=>AW (.mk ty nt (.mk d1 d2 d3 d4) (K.set i k')) b) rfl rfl (by decide) (λvs us I w b1 b2 h1 h2 h3=>let ⟨bs,e1,e2⟩:=Qs h1 h2 h3;⟨(),bs,e1,El e2⟩) λ_=>?_;refine Aa rfl (λh=>?_) (λh=>by simp at h);refine md [] rfl (by simp) ?_;refine A4 10 2 rfl ?_;exact Ab ⟨_,rfl,rfl,rfl,trivial⟩
  ·have hlt:¬i<ps.length:=by simp at h;omega
   refine Ar rfl ?_;rw [List.drop_eq_nil_of_le (by omega)] at z4 z5;simp only [AY,CV] at z4 z5;rw [<- z3,List.take_append_drop] at z5;rw [z4,z5];refine BN 5 (λ_:Unit=>AW (.mk ty nt (.mk d1 d2 d3 d4) K) b) rfl (λvs I w bs h=>⟨(),El h⟩) λ_=>?_;refine md [] rfl (by simp) ?_;refine A4 5 2 rfl ?_;exact Ab ⟨_,rfl,rfl,rfl,trivial⟩
termination_by p=>SizeOf.sizeOf p
decreasing_by
 have:=List.sizeOf_lt_of_mem (List.mem_of_getElem? hp);simp_wf;omega
end Go.Hk
namespace Go.Hk
open Go.Proofs
def Wl:Option (Ty×Int)->Ty
 | none=>zT
 | some p=>p.1
def QT:Option (Ty×Int)->Int
 | none=>0
 | some p=>p.2
theorem kC {ds:List Dt} (ho:OkW ds) (m:Mi) (h:Ty):0<=AQ ds m h/\AQ ds m h<=769:=by
 unfold AQ
 split
 ·exact Mz ho (Eu ho m.ty (Cq h))
 ·omega
set_option maxHeartbeats 4000000 in
theorem Uu (c:Cse) (ho:OkW c.datas) (ty:Ty) (nt:List Ty) (hd:Ty) (ks:List Mi) (y:Opn) (b:Nat) (hn:AB c.datas ty=true) :
  AV Tryz.prog 160 [.imm (AM c (AX (D7 c.datas))),.raw (ptr b)] [(1,some (.hp (Cg ty nt hd ks y b)))]
   (.ret (.imm (.tup [.agg (Bh (Wl (Dm c.datas (.mk ty nt hd ks) none (A3 c.datas ty)))),.bool (AA c.datas (.mk ty nt hd ks)).isSome])) [(1,some (.hp (Cg ty nt hd ks y b)))]):=by
 have hH:=fK c (AX (D7 c.datas)) ty ho hn;have hAr:=λs=>OW c (AX (D7 c.datas)) ty s ho.dif hn;have hSz:=λs=>Yb c (D7 c.datas) (Ms ho) ho.d4 (AK c.datas ty s).1 (BK ho.okd) (Eu ho ty s);have hCt:=λh=>Gm nt h;have hl:=Qw ho ty;have hcst:=λh=>kC ho (.mk ty nt hd ks) h;have hstep:∀(bb:Option (Ty×Int)) (i:Nat) (h:Ty),(A3 c.datas ty)[i]?=some h->Dm c.datas (.mk ty nt hd ks) bb ((A3 c.datas ty).drop i) =
   Dm c.datas (.mk ty nt hd ks) (if 0<AQ c.datas (.mk ty nt hd ks) h/\BH nt h=false/\F8 bb (AQ c.datas (.mk ty nt hd ks) h)=true then some (h,AQ c.datas (.mk ty nt hd ks) h) else bb) ((A3 c.datas ty).drop (i+1)):=λbb i h hh=>by rw [Ao hh];rfl
 have hc4:∀h,AC h=4->AQ c.datas (.mk ty nt hd ks) h=AN c.datas (D7 c.datas) 1 (AK c.datas ty (Cq h)).1:=λh e=>if_pos e;have hc0:∀h,AC h≠4->AQ c.datas (.mk ty nt hd ks) h=1:=λh e=>if_neg e;have hres:(AA c.datas (.mk ty nt hd ks)).isSome=decide (0<QT (Dm c.datas (.mk ty nt hd ks) none (A3 c.datas ty))):=by
  simp only [AA,Option.isSome_map,Mi.ty];cases hq:Dm c.datas (.mk ty nt hd ks) none (A3 c.datas ty) with
  | none=>rfl
  | some p =>
   obtain ⟨q1,_,_⟩:=Ek hq;rcases q1 with q1 | ⟨_,_,q3,_⟩
   ·cases q1
   ·simp [QT,q3]
 rw [hres];clear hres;have hnil:∀bb,Dm c.datas (.mk ty nt hd ks) bb []=bb:=λ_=>rfl;generalize A3 c.datas ty=L at *;generalize AQ c.datas (.mk ty nt hd ks)=cost at *;generalize hR:Dm c.datas (.mk ty nt hd ks) none L=R at *;generalize Dm c.datas (.mk ty nt hd ks)=pk at *;obtain ⟨t1,t2,t3,t4⟩:=ty;refine Ae Ak Tryz.func160 (by decide +kernel) rfl [2,3,4,5,6] rfl rfl ?_;refine mg [] rfl (by simp) ?_;refine Br Ak 1 ((dTyc (.mk t1 t2 t3 t4)).map .imm) rfl rfl (λ_ vs I w bs h=>JK h) rfl rfl (by simp [Ag]) ?_;refine mg [] rfl (by simp) ?_;refine Ac rfl (λ_=>hH) (by simp) ?_;refine mg [] rfl (by simp) ?_
 refine Aj (λz:Nat×Option (Ty×Int)=>[(20,.imm (.int .i64 z.1)),(19,.imm (.int .i64 L.length)),(18,.imm (.sl (Bu L))),(7,.imm (.int .i64 (QT z.2))),(6,.ref 3 0),(4,.ref 2 0),(1,.raw (ptr b)),(0,.imm (AM c (AX (D7 c.datas))))])
  (λz=>[(1,some (.hp (Cg (.mk t1 t2 t3 t4) nt hd ks y b))),(2,some (.immb 150 3 [.int .i64 0,.int .i64 0,.str []])),(3,some (.immb 150 3 (Bh (Wl z.2))))]) [4,5,6] (λz=>L.length-z.1)
  (λz=>z.1<=L.length/\R=pk z.2 (L.drop z.1)/\∀p,z.2=some p->0<p.2/\p.2<=769) (0,none) ⟨Nat.zero_le _,hR.symm,λp h=>by cases h⟩ ⟨rfl,As (by simp),rfl,rfl,rfl,rfl,rfl,rfl,trivial⟩ ⟨rfl,rfl,rfl,trivial⟩ rfl λz hz ih=>?_
 obtain ⟨i,bb⟩:=z;obtain ⟨z1,z2,z3⟩:=hz;simp only at z1 z2 z3;refine md [] rfl (by simp) ?_;refine Aa rfl (λh=>?_) (λh=>?_)
 ·have hlt:i<L.length:=by simp at h;omega
  obtain ⟨h,hh⟩:=Am hlt;rw [hstep bb i h hh] at z2;have hCth:=hCt h;have hco:=hcst h;have hc4:=hc4 h;have hc0:=hc0 h;have hArh:=hAr (Cq h);have hSzh:=hSz (Cq h);have hbet:F8 bb (cost h)=true↔QT bb=0\/cost h<QT bb:=by
   cases bb with
   | none=>simp [F8,QT]
   | some p=>have:=z3 p rfl;simp only [F8,QT,decide_eq_true_eq];omega
  generalize cost h=n at *;obtain ⟨h1,h2,h3,h4⟩:=h;simp only [AC] at hc4 hc0;refine md [] rfl (by simp) ?_;refine mi rfl (c:=Bh (.mk h1 h2 h3 h4)) (λ_=>⟨by simp,by simpa using Jr hh,by simp⟩) (by simp) ?_;refine mg [] rfl (by simp) ?_;by_cases e4:h1=4
  ·have hn:=hc4 e4;rw [<- hn] at hSzh;subst e4;refine Aa rfl (λh=>?_) (λh=>by simp at h);refine md [] rfl (by simp) ?_;refine Br Ak 1 ((dTyc (.mk t1 t2 t3 t4)).map .imm) rfl rfl (λ_ vs I w bs h=>JK h) rfl rfl (by simp [Ag]) ?_;refine mg [] rfl (by simp [Ag]) ?_;refine Ac rfl (λ_=>hArh) (by simp) ?_;refine mg [] rfl (by simp [Ag];rfl) ?_;refine Ac rfl (λ_=>hSzh) (by simp) ?_;refine mg [] rfl (by simp [Ag]) ?_;refine Br Ak 1 [.raw (HF y.no nt.length y.nc)] rfl rfl (λ_ vs I w bs h=>Iz h) rfl rfl (by simp [Ag]) ?_;refine mg [] rfl (by simp [Ag]) ?_
   refine OO 1 (vs:=[.sl (Bu nt),.agg (Bh (.mk 4 h2 h3 h4))]) rfl rfl (λ_=>⟨.inr ⟨_,rfl,λus I w bs h J hle hJ=>HH h hle hJ⟩,.inl rfl,trivial⟩) (λ_=>hCth) rfl (by simp [Ag]) rfl ?_;refine mg [] rfl (by simp [Ag];exact ⟨rfl,λa b c=>⟨⟨a,b⟩,c⟩⟩) ?_;by_cases hcc:0<n/\BH nt (.mk 4 h2 h3 h4)=false/\F8 bb n=true
   ·rw [if_pos hcc] at z2;rw [hbet] at hcc;refine Aa rfl (λh=>?_) (λh=>by exfalso;simp at h;grind);refine md [] rfl (by simp) ?_;exact Ad (ih (i+1,some (.mk 4 h2 h3 h4,n)) (by simp only;omega) ⟨by simp only;omega,z2,λp hp=>by cases hp;exact ⟨hcc.1,hco.2⟩⟩) ⟨As (B9 (by omega) (by omega)),rfl,rfl,rfl,rfl,rfl,rfl,rfl,trivial⟩ ⟨rfl,rfl,rfl,trivial⟩ rfl
   ·rw [if_neg hcc] at z2;rw [hbet] at hcc;refine Aa rfl (λh=>by exfalso;simp at h;grind) (λh=>?_);refine md [] rfl (by simp) ?_;exact Ad (ih (i+1,bb) (by simp only;omega) ⟨by simp only;omega,z2,z3⟩) ⟨As (B9 (by omega) (by omega)),rfl,rfl,rfl,rfl,rfl,rfl,rfl,trivial⟩ ⟨rfl,rfl,rfl,trivial⟩ rfl
  ·have hn:=hc0 e4;subst hn;refine Aa rfl (λh=>absurd (by simpa using h) e4) (λh=>?_);clear h;refine md [] rfl (by simp [Ag]) ?_;refine Br Ak 1 [.raw (HF y.no nt.length y.nc)] rfl rfl (λ_ vs I w bs h=>Iz h) rfl rfl (by simp [Ag]) ?_;refine mg [] rfl (by simp [Ag]) ?_;refine OO 1 (vs:=[.sl (Bu nt),.agg (Bh (.mk h1 h2 h3 h4))]) rfl rfl (λ_=>⟨.inr ⟨_,rfl,λus I w bs h J hle hJ=>HH h hle hJ⟩,.inl rfl,trivial⟩) (λ_=>hCth) rfl (by simp [Ag]) rfl ?_;refine mg [] rfl (by simp [Ag];exact ⟨rfl,λa b=>⟨a,b⟩⟩) ?_;by_cases hcc:(0:Int)<1/\BH nt (.mk h1 h2 h3 h4)=false/\F8 bb 1=true
   ·rw [if_pos hcc] at z2;rw [hbet] at hcc;refine Aa rfl (λh=>?_) (λh=>by exfalso;simp at h;grind);refine md [] rfl (by simp) ?_;exact Ad (ih (i+1,some (.mk h1 h2 h3 h4,1)) (by simp only;omega) ⟨by simp only;omega,z2,λp hp=>by cases hp;exact ⟨hcc.1,hco.2⟩⟩) ⟨As (B9 (by omega) (by omega)),rfl,rfl,rfl,rfl,rfl,rfl,rfl,trivial⟩ ⟨rfl,rfl,rfl,trivial⟩ rfl
   ·rw [if_neg hcc] at z2;rw [hbet] at hcc;refine Aa rfl (λh=>by exfalso;simp at h;grind) (λh=>?_);refine md [] rfl (by simp) ?_;exact Ad (ih (i+1,bb) (by simp only;omega) ⟨by simp only;omega,z2,z3⟩) ⟨As (B9 (by omega) (by omega)),rfl,rfl,rfl,rfl,rfl,rfl,rfl,trivial⟩ ⟨rfl,rfl,rfl,trivial⟩ rfl
 ·have hlt:¬i<L.length:=by simp at h;omega
  refine Ar rfl ?_;rw [List.drop_eq_nil_of_le (by omega),hnil] at z2;subst z2;refine md [] rfl (by simp) ?_;exact Ab ⟨_,rfl,rfl,rfl,trivial⟩
def FQ:Option Ty->List V
 | none=>dTyc zT++[.bool false]
 | some v=>dTyc v++[.bool true]
theorem G3 (r:Option Ty):∃v1 v2 v3 v4 v5,FQ r=[v1,v2,v3,v4,v5]:=by
 cases r with
 | none=>exact ⟨_,_,_,_,_,rfl⟩
 | some v=>obtain ⟨a,b,c,d⟩:=v;exact ⟨_,_,_,_,_,rfl⟩
section
variable {I J:Imm} {w w':World} {ty:Ty} {nt:List Ty} {hd:Ty} {ks:List Mi} {b:Nat} {us:List Value} {bs:List Nat}
def Mj (ty:Ty) (nt:List Ty) (hd:Ty) (ks:List Mi) (y:Opn) (b i:Nat):Asn where
 P _ I w bs:=H8 I w ty nt hd (HF y.no nt.length y.nc) (HF y.ko ks.length y.kc) y.kbs b/\y.kbs.length=ks.length/\(∀q∈AG (HF y.no nt.length y.nc) (HF y.ko ks.length y.kc) b,q∈bs) /\
  ∃Fk,Dj I w (ks.drop i) (y.kbs.drop i) Fk/\(AG (HF y.no nt.length y.nc) (HF y.ko ks.length y.kc) b++Fk).Nodup/\∀q∈Fk,q∈bs
 mono:=λh ⟨h1,h2,h3,Fk,h4,h5⟩=>⟨En h h1,h2,h3,Fk,D4 h h4,h5⟩
 loc:=λh ⟨h1,h2,h3,Fk,h4,h5,h6⟩=>⟨Fh (λq hq=>h q (h3 q hq)) h1,h2,h3,Fk,Cu (λq hq=>h q (h6 q hq)) h4,h5,h6⟩
theorem Z2 {y:Opn} (h:(Cg ty nt hd ks y b).P us I w bs):(Mj ty nt hd ks y b 0).P us I w bs:=by
 have hl:=HO h;obtain ⟨Fk,h1,h2,h3,h4⟩:=h;exact ⟨h1,hl,λq hq=>h4 q (by simp [hq]),Fk,h2,h3,λq hq=>h4 q (by simp [hq])⟩
theorem WE {y:Opn} {i kb:Nat} {k:Mi} (h:(Mj ty nt hd ks y b i).P us I w bs) (hk:ks[i]?=some k) (hkb:y.kbs[i]?=some kb) :
  ∃b1 b2,(∀q∈b1,q∈bs)/\(∀q∈b2,q∈bs)/\(∀q∈b1,q∉b2)/\(Mj ty nt hd ks y b (i+1)).P [] I w b1/\(AW k kb).P [] I w b2:=by
 obtain ⟨h1,h2,h3,Fk,h4,h5,h6⟩:=h;rw [Ao hk,Ao hkb] at h4;obtain ⟨kb',kr,F1,F2,e1,e2,e3,e4⟩:=h4;cases e1;subst e4;generalize hN:AG (HF y.no nt.length y.nc) (HF y.ko ks.length y.kc) b=Nf at *;refine ⟨Nf++F2,F1,λq hq=>?_,λq hq=>h6 q (by simp [hq]),λq hq hq2=>?_,⟨h1,h2,λq hq=>by rw [hN] at hq;simp [hq],F2,e3,?_,λq hq=>by simp [hq]⟩,⟨F1,e2,λq hq=>hq⟩⟩
 ·rcases List.mem_append.1 hq with h | h
  ·exact h3 q h
  ·exact h6 q (by simp [h])
 ·obtain ⟨a1,a2,a3⟩:=List.nodup_append.1 h5;rcases List.mem_append.1 hq with h | h
  ·exact a3 q h q (by simp [hq2]) rfl
  ·obtain ⟨_,_,a4⟩:=List.nodup_append.1 a2;exact a4 q hq2 q h rfl
 ·rw [hN];obtain ⟨a1,a2,a3⟩:=List.nodup_append.1 h5;obtain ⟨_,a5,_⟩:=List.nodup_append.1 a2;exact List.nodup_append.2 ⟨a1,a5,λx hx y hy=>a3 x hx y (by simp [hy])⟩
theorem dP {y:Opn} {g i kb:Nat} {j:Nat} (hko:y.ko=some g) (hkb:y.kbs[i]?=some kb) (h:(Mj ty nt hd ks y b j).P us I w bs):CR I w g (0+i*1) [.raw (ptr kb)]:=by
 obtain ⟨h1,h2,h3,_⟩:=h;have hi:=(List.getElem?_eq_some_iff.1 hkb).1;rcases h1.2.2.2 with ⟨_,h0⟩ | ⟨g',cap,cur,e,_,e1,e2,_,e3,e4⟩
 ·omega
 rw [hko] at e;simp only [HF,Option.map_some,Value.slice.injEq,Option.some.injEq,Addr.mk.injEq,and_true] at e;obtain ⟨rfl,e5,rfl⟩:=e;refine ⟨cur,_,_,e1,λj d hd=>?_⟩
 match j with
 | 0 =>
  simp at hd;subst hd;refine ⟨ptr kb,?_,rfl,.raw _ rfl⟩;have:(cur.toList.take (y.kbs.length*1))[i]?=some (ptr kb):=by rw [e4];simp [hkb]
  rw [List.getElem?_take] at this
  split at this
  ·simpa using this
  ·cases this
 | j+1=>simp at hd
theorem iT {y:Opn} {i j:Nat} (h:(Mj ty nt hd ks y b j).P us I w bs) (hi:i<ks.length):∃z:Nat×Nat,y.ko=some z.1/\y.kbs[i]?=some z.2:=by
 obtain ⟨h1,h2,h3,_⟩:=h;rcases h1.2.2.2 with ⟨_,h0⟩ | ⟨g',cap,cur,e,_⟩
 ·omega
 cases ho:y.ko with
 | none=>rw [ho] at e;simp [HF] at e
 | some g=>exact ⟨(g,y.kbs[i]'(by omega)),rfl,List.getElem?_eq_getElem (by omega)⟩
end
set_option maxHeartbeats 4000000 in
theorem Xd (W:V) (m:Mi) (x:Nat) (g:Mi->Option (Option Ty)) (o:Option (List Ty)) (h1:Bg g m.ks=some o) (hf:AC m.hd≠0) (hlk:m.ks.length<=3)
  (ihk:∀k v x,k∈m.ks->g k=some v->AV Tryz.prog 113 [.imm W,.raw (ptr x)] [(1,some (.hp (AW k x)))] (.ret (.imm (.agg (FQ v))) [])) :
  DGo Tryz.prog Tryz.f113.ntmps [1] (Nm iJ Tryz.f113.results.toList (.ret (.imm (.agg (FQ (o.map (Cv m.hd))))) [])) [.code (F9 Tryz.f113 2)] [(4,.ref 3 0),(1,.raw (ptr x)),(0,.imm W)]
   [(3,some (.cells 107 5 [.imm (.int .i64 0),.imm (.int .i64 0),.imm (.str []),.nils,.imm (.bool false)])),(5,some (.hp (AW m x)))] [6,7,8,9,10,11,12]:=by
 have hV:=Uj m.hd hf;obtain ⟨ty,nt,⟨a,b,t,d⟩,ks⟩:=m;simp only [Mi.hd,Mi.ks,AC] at *;have hd:nD (.mk a b t d)=[.int .i64 a,.int .i64 b,.str t,.nilsl]:=by simp [nD,hf]
 refine BN 5 (λy:Opn=>Cg ty nt (.mk a b t d) ks y x) rfl (λvs I w bs h=>DA h) λy=>?_;refine md [] rfl (by simp) ?_;refine Br Ak 5 ((Bh (.mk a b t d)).map .imm) rfl rfl (λ_ vs I w bs h=>OG h) rfl rfl (by simp [Ag]) ?_;refine mg [] rfl (by simp) ?_;rw [hd] at hV;refine Ac rfl (λ_=>hV) (by simp) ?_;refine mg [] rfl (by simp) ?_;refine Br Ak 5 [.raw (HF y.ko ks.length y.kc)] rfl rfl (λ_ vs I w bs h=>JL h) rfl rfl (by simp [Ag]) ?_;refine mg [] rfl (by simp) ?_;refine VJ (e:=35) (sz:=4) 6 7 [.imm (.int .i64 a),.imm (.int .i64 b),.imm (.str t),.own 7 0] (by decide) rfl (by simp [pA]) ?_;refine BN 5 (λ_:Unit=>Mj ty nt (.mk a b t d) ks y x 0) rfl (λvs I w bs h=>⟨(),Z2 h⟩) λ_=>?_
 have el:∀(l:List Ty) (v:Ty),AT (l++[v])=AT l++[dTyc v]:=λl v=>by rw [Oh];rfl
 refine Aj (λz:Nat×List Ty=>[(63,.imm (.int .i64 z.1)),(62,.imm (.int .i64 ks.length)),(61,.raw (HF y.ko ks.length y.kc)),(7,.ref 6 0),(4,.ref 3 0),(0,.imm W)])
  (λz=>[(3,some (.cells 107 5 [.imm (.int .i64 0),.imm (.int .i64 0),.imm (.str []),.nils,.imm (.bool false)])),(5,some (.hp (Mj ty nt (.mk a b t d) ks y x z.1))),
   (6,some (.cells 35 4 [.imm (.int .i64 a),.imm (.int .i64 b),.imm (.str t),.own 7 (AT z.2).length])),(7,some (.row 35 4 (AT z.2)))]) [8,9,10,11,12] (λz=>ks.length-z.1)
  (λz=>z.1<=ks.length/\z.2.length=z.1/\∃q,Bg g (ks.drop z.1)=some q/\o=q.map (z.2 ++ ·)) (0,[]) ⟨Nat.zero_le _,rfl,o,h1,by cases o <;> simp⟩ ⟨rfl,rfl,rfl,rfl,rfl,rfl,trivial⟩ ⟨rfl,rfl,rfl,rfl,trivial⟩ rfl λz hz ih=>?_
 obtain ⟨i,vs⟩:=z;obtain ⟨z1,z2,q,z3,z4⟩:=hz;simp only at z1 z2 z3 z4;refine md [] rfl (by simp) ?_;refine Aa rfl (λh=>?_) (λh=>?_)
 ·have hlt:i<ks.length:=by simp at h;omega
  obtain ⟨k,hk⟩:=Am hlt;rw [Ao hk] at z3;obtain ⟨v,g1,g2⟩:=NO z3;refine BN 5 (λ_:{ z:Nat×Nat // y.ko=some z.1/\y.kbs[i]?=some z.2 }=>Mj ty nt (.mk a b t d) ks y x i) rfl (λvs I w bs hA=>let ⟨z,hz⟩:=iT hA hlt;⟨⟨z,hz⟩,hA⟩) λz=>?_;obtain ⟨⟨gg,kb⟩,hko,hkb⟩:=z;simp only at hko hkb;obtain ⟨no,nc,ko,kc,kbs⟩:=y;simp only at hko hkb;subst hko;have hc:=ihk k v kb (List.mem_of_getElem? hk) g1;refine IC 5 8 9 (λ_:Unit=>Mj ty nt (.mk a b t d) ks ⟨no,nc,some gg,kc,kbs⟩ x (i+1)) (λ_:Unit=>AW k kb) rfl (λvs I w bs h=>let ⟨b1,b2,e1,e2,e3,e4,e5⟩:=WE h hk hkb;⟨(),b1,b2,e1,e2,e3,e4,e5⟩) λ_=>?_;refine md [] rfl (by simp) ?_;refine LJ Ak rfl rfl (λ_=>⟨by simp,by simp;omega⟩) (by simp) ?_
  refine mg [] rfl (by simp) ?_;refine Br Ak 8 [.raw (ptr kb)] rfl rfl (λ_ vs I w bs h=>dP rfl hkb h) rfl rfl (by simp) ?_;refine mg [] rfl (by simp) ?_;refine Ay (fr:=[]) [(9,1)] [] rfl (by simp) hc ⟨⟨rfl,rfl,rfl⟩,trivial⟩ rfl rfl rfl rfl ?_;cases v with
  | none =>
   simp only at g2;subst g2;simp only [Option.map_none] at z4;subst z4;refine mg [] rfl (by simp;rfl) ?_;refine Aa rfl (λh=>?_) (λh=>by simp at h);refine md [] rfl (by simp) ?_;exact Ab ⟨_,rfl,tV rfl,trivial⟩
  | some v =>
   simp only at g2;obtain ⟨q',g3,g4⟩:=g2;have hgo:=ih (i+1,vs++[v]) (by simp only;omega) ⟨by simp only;omega,by simp [z2],q',g3,by rw [z4,g4];cases q' <;> simp⟩;simp only [el] at hgo;have hll:(AT vs).length<=3:=by simp;omega
   generalize AT vs=l at *;obtain ⟨v1,v2,v3,v4⟩:=v;refine mg [] rfl (by simp;rfl) ?_;refine Aa rfl (λh=>by simp at h) (λh=>?_);refine md [] rfl (by simp) ?_;refine BC Ak rfl ⟨by simp,by simp [maxLen] at hll ⊢;omega,by simp at hll ⊢;omega,trivial⟩ ?_;refine mg [] rfl (by simp) ?_;refine A4 7 11 rfl ?_;refine A4 5 8 rfl ?_;exact Ad hgo ⟨As (B9 (by omega) (by omega)),rfl,rfl,rfl,rfl,rfl,trivial⟩ ⟨rfl,rfl,by simp only [List.length_append];rfl,rfl,trivial⟩ rfl
 ·have hlt:¬i<ks.length:=by simp at h;omega
  refine Ar rfl ?_;rw [List.drop_eq_nil_of_le (by omega)] at z3;cases z3;simp only [Option.map_some,List.append_nil] at z4;subst z4;refine BD 7 rfl ?_;refine md [] rfl (by simp) ?_;exact Ab ⟨_,rfl,tV rfl,trivial⟩
end Go.Hk
namespace Go.Hk
open Go.Proofs
set_option maxHeartbeats 4000000 in
theorem eZ (c:Cse) (ho:OkW c.datas) (N:Nat) (hN:N<=1000000):∀(f:Nat) (m:Mi) (b:Nat) (r:Option Ty),AD c.datas f m=some r->Hb c.datas N m=true ->
  AV Tryz.prog 113 [.imm (AM c (AX (D7 c.datas))),.raw (ptr b)] [(1,some (.hp (AW m b)))] (.ret (.imm (.agg (FQ r))) []):=by
 intro f
 induction f with
 | zero=>intro m b r h;simp [AD] at h
 | succ f ih =>
 intro m b r h hm;have hw:=Bi.1 hm;have tail:∀(m:Mi) (x:Nat) (r:Option Ty),AD c.datas (f+1) m=some r->Hb c.datas N m=true->AC m.hd≠0->DGo Tryz.prog Tryz.f113.ntmps [1] (Nm iJ Tryz.f113.results.toList (.ret (.imm (.agg (FQ r))) [])) [.code (F9 Tryz.f113 2)] [(4,.ref 3 0),(1,.raw (ptr x)),(0,.imm (AM c (AX (D7 c.datas))))]
   [(3,some (.cells 107 5 [.imm (.int .i64 0),.imm (.int .i64 0),.imm (.str []),.nils,.imm (.bool false)])),(5,some (.hp (AW m x)))] [6,7,8,9,10,11,12]:=λm x r h hm hf=>by
  obtain ⟨o,h1,h2⟩:=T9 h hf;have hw:=Bi.1 hm;have:=Xd (AM c (AX (D7 c.datas))) m x (AD c.datas f) o h1 hf hw.1.2.1 λk v y hk hv=>ih k y v hv (hw.2.2 k hk);rw [<- h2] at this;exact this
 by_cases hf:AC m.hd=0
 case neg =>
  have T:=tail m b r h hm hf;obtain ⟨ty,nt,⟨a,b',t,d⟩,ks⟩:=m;simp only [Mi.hd,AC] at hf;refine Ae Ak Tryz.func113 (by decide +kernel) rfl [5,3,6,7,8,9,10,11,12] rfl rfl ?_;refine JW 1 5 (λy:Opn=>Cg ty nt (.mk a b' t d) ks y b) rfl (λvs I w bs h=>let ⟨y,hy⟩:=DA h;⟨y,bs,λq hq=>hq,hy⟩) λy=>?_;refine md [] rfl (by simp) ?_;refine Br Ak 5 [.imm (.int .i64 a)] rfl rfl (λ_ vs I w bs h=>MK h) rfl rfl (by simp) ?_;refine mg [] rfl (by simp) ?_;refine Aa rfl (λh=>absurd (by simpa using h) hf) (λh=>?_);refine pC 1 rfl (by simp) ?_;refine BN 5 (λ_:Unit=>AW (.mk ty nt (.mk a b' t d) ks) b) rfl (λvs I w bs h=>⟨(),El h⟩) λ_=>?_;exact Ad T ⟨rfl,rfl,rfl,trivial⟩ ⟨rfl,rfl,trivial⟩ rfl
 have hsr:1<=AC m.ty/\AC m.ty<=8:=of_decide_eq_true hw.2.1.2;have hnr:=WV m.nt (by have:=hw.1.2.2;omega);obtain ⟨ni,hni,_,_⟩:=HR m.nt m.nt.length 0 (by omega);have hnv:=Uj (Da m.nt) (by rw [Da,hni];simp [AC]);have hne:Da m.nt = .mk 1 ni [] []:=hni;rw [hne] at hnr hnv;have l1:AC m.ty=1->r=some (.mk 1 ni [] []):=λe=>by rw [EC hf e,hne] at h;exact (Option.some.inj h).symm
 have l4:AC m.ty=4\/AC m.ty=5\/AC m.ty=6\/AC m.ty=7->r=some (.mk 5 0 [] []):=λe=>by rw [EB hf e] at h;exact (Option.some.inj h).symm
 have hsm:=λty nt hd ks (e:m = .mk ty nt hd ks) y x=>Uu c ho ty nt hd ks y x (by have:=hw.1.1;rw [e] at this;exact this);have hcp:=λx=>OS c.datas N hN m x hm;have lsm:=λh1 h4=>Db (ds:=c.datas) (f:=f) hf h1 h4;rw [h] at lsm;have hhas:=λ(x:Nat) (y:Ty)=>X2 c (AX (D7 c.datas)) m y x ho hw.1.1;have tk:=λ(y:Ty) (x:Nat) (hy:y∈A3 c.datas m.ty) (hl:AD c.datas (f+1) (AZ c.datas m y)=some r)=>tail (AZ c.datas m y) x r hl (KZ ho hw.1.1 hw.2.1.2 (Bw hy).1) (Bw hy).2;clear tail ih h;have hrf:=G3 r;obtain ⟨⟨so,n,x0,ps⟩,nt,⟨a,b',t,d⟩,ks⟩:=m;simp only [Mi.hd,Mi.ty,Mi.nt,AC] at *;subst hf;refine Ae Ak Tryz.func113 (by decide +kernel) rfl [5,3,6,7,8,9,10,11,12] rfl rfl ?_
 refine JW 1 5 (λy:Opn=>Cg (.mk so n x0 ps) nt (.mk 0 b' t d) ks y b) rfl (λvs I w bs h=>let ⟨y,hy⟩:=DA h;⟨y,bs,λq hq=>hq,hy⟩) λy=>?_;refine md [] rfl (by simp) ?_;refine Br Ak 5 [.imm (.int .i64 0)] rfl rfl (λ_ vs I w bs h=>MK h) rfl rfl (by simp) ?_;refine mg [] rfl (by simp) ?_;refine Aa rfl (λh=>?_) (λh=>by simp at h);refine md [] rfl (by simp) ?_;refine Br Ak 5 [.imm (.int .i64 so)] rfl rfl (λ_ vs I w bs h=>ZK h) rfl rfl (by simp) ?_;refine mg [] rfl (by simp) ?_;by_cases s1:so=1
 ·rw [l1 s1];subst s1;refine Aa rfl (λh=>?_) (λh=>by simp at h);refine md [] rfl (by simp) ?_;refine Br Ak 5 [.raw (HF y.no nt.length y.nc)] rfl rfl (λ_ vs I w bs h=>Iz h) rfl rfl (by simp) ?_;refine mg [] rfl (by simp) ?_;refine OO 5 (vs:=[.sl (Bu nt)]) rfl rfl (λ_=>⟨.inr ⟨_,rfl,λus I w bs h J hle hJ=>HH h hle hJ⟩,trivial⟩) (λ_=>hnr) rfl (by simp) rfl ?_;refine mg [] rfl (by simp) ?_;refine Ac rfl (λ_=>hnv) (by simp) ?_;refine mg [] rfl (by simp) ?_;exact gE 3 [.int .i64 1,.int .i64 ni,.str [],.sl [],.bool true] rfl rfl (Ab ⟨_,rfl,tV rfl,trivial⟩)
 refine Aa rfl (λh=>absurd (by simpa using h) s1) (λh=>?_);clear h;refine md [] rfl (by simp) ?_;by_cases s4:so=4
 ·rw [l4 (by omega)];subst s4;refine Aa rfl (λh=>?_) (λh=>by simp at h);refine md [] rfl (by simp) ?_;refine Aa rfl (λh=>?_) (λh=>by simp at h);refine md [] rfl (by simp) ?_;exact Ab ⟨_,rfl,tV rfl,trivial⟩
 refine Aa rfl (λh=>absurd (by simpa using h) s4) (λh=>?_);clear h;refine md [] rfl (by simp) ?_;by_cases s5:so=5
 ·rw [l4 (by omega)];subst s5;refine Aa rfl (λh=>?_) (λh=>by simp at h);refine md [] rfl (by simp) ?_;refine Aa rfl (λh=>?_) (λh=>by simp at h);refine md [] rfl (by simp) ?_;exact Ab ⟨_,rfl,tV rfl,trivial⟩
 refine Aa rfl (λh=>absurd (by simpa using h) s5) (λh=>?_);clear h;refine md [] rfl (by simp) ?_;by_cases s6:so=6
 ·rw [l4 (by omega)];subst s6;refine Aa rfl (λh=>?_) (λh=>by simp at h);refine md [] rfl (by simp) ?_;refine Aa rfl (λh=>?_) (λh=>by simp at h);refine md [] rfl (by simp) ?_;exact Ab ⟨_,rfl,tV rfl,trivial⟩
 refine Aa rfl (λh=>absurd (by simpa using h) s6) (λh=>?_);clear h;refine md [] rfl (by simp) ?_;by_cases s7:so=7
 ·rw [l4 (by omega)];subst s7;refine Aa rfl (λh=>?_) (λh=>by simp at h);refine md [] rfl (by simp) ?_;exact Ab ⟨_,rfl,tV rfl,trivial⟩
 refine Aa rfl (λh=>absurd (by simpa using h) s7) (λh=>?_);clear h;refine md [] rfl (by simp) ?_;have lsm:=lsm s1 (by omega);have hS:=hsm _ _ _ _ rfl y b;have hbest:∀z,AA c.datas (.mk (.mk so n x0 ps) nt (.mk 0 b' t d) ks)=some z->Wl (Dm c.datas (.mk (.mk so n x0 ps) nt (.mk 0 b' t d) ks) none (A3 c.datas (.mk so n x0 ps)))=z/\z∈A3 c.datas (.mk so n x0 ps):=λz hz=>⟨by
  simp only [AA,Option.map_eq_some_iff] at hz;obtain ⟨p,hp,rfl⟩:=hz;show Wl (Dm c.datas (.mk (.mk so n x0 ps) nt (.mk 0 b' t d) ks) none (A3 c.datas (Mi.mk (.mk so n x0 ps) nt (.mk 0 b' t d) ks).ty))=p.1;rw [hp];rfl,G7 hz⟩
 generalize Wl (Dm c.datas (.mk (.mk so n x0 ps) nt (.mk 0 b' t d) ks) none (A3 c.datas (.mk so n x0 ps)))=bh at *;generalize AA c.datas (.mk (.mk so n x0 ps) nt (.mk 0 b' t d) ks)=S at *;obtain ⟨h1,h2,h3,h4⟩:=bh;refine Ay (fr:=[]) [(5,1)] [] rfl (by simp) hS ⟨⟨rfl,rfl,rfl⟩,trivial⟩ rfl rfl rfl rfl ?_;refine mg [] rfl (by simp) ?_;cases S with
 | none =>
  simp only [Option.some.injEq] at lsm;subst lsm;refine md [] rfl (by simp) ?_;refine Aa rfl (λh=>?_) (λh=>by simp at h);refine md [] rfl (by simp) ?_;exact Ab ⟨_,rfl,tV rfl,trivial⟩
 | some z =>
  obtain ⟨e,hz⟩:=hbest z rfl;subst e;simp only at lsm;refine md [] rfl (by simp) ?_;refine Aa rfl (λh=>by simp at h) (λh=>?_);clear h;refine BN 5 (λ_:Unit=>AW (.mk (.mk so n x0 ps) nt (.mk 0 b' t d) ks) b) rfl (λvs I w bs h=>⟨(),El h⟩) λ_=>?_;refine md [] rfl (by simp) ?_;refine Ay (fr:=[7,8]) [(5,1)] [(3,7),(2,8)] rfl (by simp) (hcp b) ⟨⟨rfl,rfl,rfl⟩,trivial⟩ rfl rfl rfl rfl ?_;refine Jy 8 9 (λob:Nat=>[ptr ob]) (λob=>AW (.mk (.mk so n x0 ps) nt (.mk 0 b' t d) ks) ob) rfl (λvs I w bs h=>let ⟨ob,F,e1,e2,e3⟩:=h;⟨ob,e1,F,e2,e3⟩) λob=>?_;refine md [] rfl (by simp) ?_;refine Ay (fr:=[10]) [(9,1)] [(2,10)] rfl (by simp) (hhas ob (.mk h1 h2 h3 h4)) ⟨⟨rfl,rfl,rfl⟩,trivial⟩ rfl rfl rfl rfl ?_
  refine pC 1 rfl (by simp) ?_;have T:=tk (.mk h1 h2 h3 h4) ob hz lsm.symm;refine A4 10 5 rfl ?_;exact Ad T ⟨rfl,rfl,rfl,trivial⟩ ⟨rfl,rfl,trivial⟩ rfl
end Go.Hk
namespace Go.Hk
def Vu (P:Program) (t:TypeId) (m:String) (f:FuncId):Bool:=match P.info? t with
 | some i=>match i.methods.find? (·.name == m) with
  | some r=>r.path.toList.isEmpty&&(match r.func with
   | some (f',pr)=>Nat.beq f' f && !pr
   | none=>false)&&(match P.underlying t with
   | some (.pointer _)=>false
   | some _=>true
   | none=>false)
  | none=>false
 | none=>false
theorem fH {P:Program} {t:TypeId} {m:String} {f:FuncId} (h:Vu P t m f=true) (n:Nat) (v:Value) (w:World):(method (n+1) t v m).run P w = .ok (f,v) w:=by
 unfold Vu at h
 split at h
 ·rename_i i hi
  split at h
  ·rename_i r hr;simp only [Bool.and_eq_true] at h;obtain ⟨⟨h1,h2⟩,h3⟩:=h
   split at h2
   ·rename_i f' pr hf;simp only [Bool.and_eq_true,Bool.not_eq_true'] at h2;have hff:=Nat.eq_of_beq_eq_true h2.1;subst hff;have hpr:=h2.2;subst hpr;have hp:r.path.toList=[]:=List.isEmpty_iff.1 h1
    split at h3
    ·cases h3
    ·rename_i u hne hu;have hrecv:∀wr,(receiverAt t (.val v) false wr).run P w = .ok v w:=λwr=>by
      unfold receiverAt;rw [Sem.run_bind,run_underlying hu,Result.andThen_ok];cases u <;> first | rfl | exact absurd rfl (hne _)
     simp only [method,typeInfo,Sem.run_bind,run_program,Result.andThen_ok,hi,hr,hp,follow,Sem.run_pure,hf,hrecv]
    ·cases h3
   ·cases h2
  ·cases h
 ·cases h
section
variable {P:Program} {n:Nat} {F:List Nat} {Q:DQ} {tt:TT} {env env':Env} {st st':St} {ids ids':List Nat} {k todo todo':List DI} {cx:Prop} {d:D} {ob ob':List Prop}
 {I:Imm} {μ:Mu} {w:World} {a:Act}
theorem R1 {o:Oper} {r:Operand} {m:String} {f:FuncId} {args:List Operand} {ts:Array TypeId} {ds:List D} {T:TypeId} {x:V} (ho:o.op = .call { callee:=.invoke r m,args:=⟨args⟩,argTypes:=ts }) (ht:CQ env r=some (.imm (.iface T x)))
  (ha:GZ cx env args=some (ds,ob)) (hob:A9 ob) (hm:Vu P T m f=true):DG P o env f (.imm x::ds) cx:=by
 intro I μ a w hop hc;rw [ho] at hop;have hd:=EI (I:=I) (μ:=μ) (a:=a) hc ha hob λy hy=>hop y (by simp [Op.operands,Call.operands,hy]);have hf:=(hop r (by simp [Op.operands,Call.operands]) _ ht).immInv;generalize hv:a.eval r=v at hf;cases hf with
 | iface _ u _ hu =>
  refine ⟨#[u]++(args.map a.eval).toArray,?_,?_⟩
  ·simp only [Array.toList_append];exact .mk (.imm _ _ hu) (by simpa using hd)
  ·have hs:∃n,P.types.size+Made.depth=n+1:=⟨P.types.size+(Made.depth-1),by unfold Made.depth;omega⟩
   obtain ⟨n,hs⟩:=hs;have hme:=fH hm n u w;have hx:((#[Value.iface T u]++(args.map a.eval).toArray).extract 1 (#[Value.iface T u]++(args.map a.eval).toArray).size)=(args.map a.eval).toArray:=by
    apply Array.ext';simp [List.extract_eq_take_drop];exact List.take_of_length_le (by simp)
   have h0:(#[Value.iface T u]++(args.map a.eval).toArray)[0]?=some (.iface T u):=by simp
   have e:(⟨args⟩:Array Operand).map a.eval=(args.map a.eval).toArray:=by simp
   simp only [execOp,ho,resolve,hv,e,Sem.run_bind,Sem.run_pure,Result.andThen_ok,invoke,h0,callMethod,hx,run_program,hs,hme]
structure oV where
 T:TypeId
 m:String
 vs:List V
 g:Option (Bool×Bool)
 ob:List Prop
 dst:Option Nat
 todo:List DI
def eF (n:Nat) (env:Env) (todo:List DI):Option oV :=
 match AS todo ([],[]) with
 | some (all,o,todo')=>match o.op,BV all env o with
  | .call { callee:=.invoke r m,args:=⟨args⟩,.. },some g=>match CQ env r,GZ (Ag g) env args with
   | some (.imm (.iface T x)),some (ds,ob)=>match K3 (.imm x::ds),B1 n o.dst with
    | some vs,true=>match o.dst with
     | some t=>some ⟨T,m,vs,g,ob,some t,todo'⟩
     | none=>some ⟨T,m,vs,g,ob,none,todo'⟩
    | _,_=>none
   | _,_=>none
  | _,_=>none
 | none=>none
theorem jP (f:FuncId) {T:TypeId} {m:String} {vs:List V} {g:Option (Bool×Bool)} {ob:List Prop} {dst:Option Nat} {todo':List DI} {v:V} (h:eF n env todo=some ⟨T,m,vs,g,ob,dst,todo'⟩) (hm:Vu P T m f=true) (hE:Ag g->Al P f vs v) (hob:A9 ob)
  (hk:G P n F Q todo' (Bz dst (gD g (.imm v)) env) st ids):G P n F Q todo env st ids:=by
 unfold eF at h
 split at h
 ·rename_i all o todo1 h1;have hnd:∀cc,o.op = .call cc->∀c,o.op ≠ .defer c:=λcc h c h'=>by rw [h] at h';cases h'
  split at h
  ·rename_i r m' args ts g' ho hg
   split at h
   ·rename_i T' x ds ob' ht ha
    split at h
    ·rename_i vs' hv hd;have fin:T'=T/\m'=m/\vs'=vs/\g'=g/\ob'=ob/\o.dst=dst/\todo1=todo':=by
      split at h <;> (rename_i hdst;cases h;exact ⟨rfl,rfl,rfl,rfl,rfl,hdst,rfl⟩)
     obtain ⟨rfl,rfl,rfl,rfl,rfl,rfl,rfl⟩:=fin;exact Bq (fr:=[]) (wr:=[]) h1 (OJ hg (R1 ho ht ha hob hm) hv hE) hd (hnd _ ho) hk
    ·cases h
   ·cases h
  ·cases h
 ·cases h
end
end Go.Hk
namespace Go.Hk
open Go.Proofs
theorem Pk:∀v:Ty,Ai v<=1000000000000000->Al Tryz.prog 157 [.agg (dTyc v)] (.int .i64 (Ai v))
 | .mk f n x ps,hN=>by
  refine AI λhv=>?_;simp [Cf,Ey,dTyc,maxLen] at hv;simp only [Ai] at hN;refine Ae Ak Tryz.func157 (by decide +kernel) rfl [1,2,3,4] rfl rfl ?_;refine mg [] rfl (by simp) ?_;refine Aj (λi:Nat=>[(9,.imm (.int .i64 i)),(8,.imm (.int .i64 ps.length)),(7,.imm (.sl (AT ps))),(3,.imm (.int .i64 ((1+Ah (ps.take i):Nat):Int)))]) (λ_=>[]) [2,3,4] (λi=>ps.length-i) (λi=>i<=ps.length) 0 (Nat.zero_le _)
   ⟨rfl,As (by simp),rfl,rfl,trivial⟩ trivial rfl λi hi ih=>?_
  refine md [] rfl (by simp) ?_;refine Aa rfl (λh=>?_) (λh=>?_)
  ·simp at h;obtain ⟨p,hp⟩:=Am h;have hl:=BU hp;have hs:=Pk p (by omega);have hn:Ah (ps.take (i+1))=Ah (ps.take i)+Ai p:=by
    have e:=Bo (ps.take i) [p];rw [Be hp,e];simp [Ah]
   refine md [] rfl (by simp) ?_;refine mi rfl (c:=dTyc p) (λ_=>⟨by simp,by simpa using Ax hp,by simp⟩) (by simp) ?_;obtain ⟨p1,p2,p3,p4⟩:=p;refine mg [] rfl (by simp) ?_;refine Ac rfl (λ_=>hs) (by simp) ?_;refine mg [] rfl (by simp) ?_;exact Ad (ih (i+1) (by omega) (by omega)) ⟨As (B9 (by omega) (by omega)),rfl,rfl,As (by rw [B9 (by omega) (by omega)];omega),trivial⟩ trivial rfl
  ·simp at h;refine Ar rfl ?_;rw [List.take_of_length_le (by omega)];refine md [] rfl (by simp) ?_;simp only [Ai];exact Ab ⟨_,rfl,tV rfl,trivial⟩
termination_by v=>SizeOf.sizeOf v
decreasing_by
 have:=List.sizeOf_lt_of_mem (List.mem_of_getElem? hp);simp_wf;omega
theorem kF (n:Int) (h : -1000000000000<=n/\n<=1000000000000):Al Tryz.prog 198 [.int .i64 n] (.int .i64 (FR n)):=by
 refine Ae Ak Tryz.func198 (by decide +kernel) rfl [1,2] rfl rfl ?_;refine mg [] rfl (by simp) ?_;by_cases h0:0<n
 ·refine Aa rfl (λh=>?_) (λh=>absurd h0 (by simpa using h));refine md [] rfl (by simp) ?_;refine Ab ⟨_,rfl,tV ?_,trivial⟩;simp only [FR,if_pos h0];have e1:IntKind.i64.wrap (2*n)=2*n:=B9 (by omega) (by omega);rw [e1,B9 (by omega) (by omega)]
 ·refine Aa rfl (λh=>absurd (by simpa using h) h0) (λh=>?_);refine md [] rfl (by simp) ?_;refine Ab ⟨_,rfl,tV ?_,trivial⟩;simp only [FR,if_neg h0];rw [B9 (by omega) (by omega)]
theorem Qb (ds:List Dt) (s:Str):DK false (Ev (Du 0 ds)) (.str s) (.agg [.int .i64 0,.int .i64 0]) = .imm (.agg [.int .i64 (Cx ds s).1,.int .i64 (Cx ds s).2]):=by
 simp only [DK,MZ,Cx];cases h:FH s 0 ds with
 | none=>simp
 | some p=>obtain ⟨a,b⟩:=p;simp
set_option maxHeartbeats 2000000 in
theorem UM (c:Cse) (sz:List (List V)) (ho:OkW c.datas):∀(a t b:Ty),AB c.datas t=true->Ki c.datas t a=true->Ki c.datas t b=true->ET a=true->ET b=true ->
  Al Tryz.prog 158 [AM c sz,.agg (dTyc a),.agg (dTyc b)] (.int .i64 (BS c.datas a b))
 | .mk f n x ps,.mk so m0 x0 qs0,.mk g n' x' ps',hn,ha,hb,hia,hib=>by
  have hR:=λc'=>kF c';obtain ⟨ds,⟨c1,c2,c3,c4⟩,rows⟩:=c;simp only [ET,Bool.and_eq_true] at hia hib;have hia1:=of_decide_eq_true hia.1;have hib1:=of_decide_eq_true hib.1;simp only at hn ha hb ho;simp only [Ki] at ha hb;refine Ae Ak Tryz.func158 (by decide +kernel) rfl [1,2,3,4,5,6,7] rfl rfl ?_;refine mg [] rfl (by simp) ?_;simp only [BS];by_cases f1:f=1
  ·subst f1;refine Aa rfl (λh=>?_) (λh=>by simp at h);refine md [] rfl (by simp) ?_;refine Ac rfl (λ_=>hR n hia1) (by simp) ?_;refine mg [] rfl (by simp) ?_;refine Ac rfl (λ_=>hR n' hib1) (by simp) ?_;refine mg [] rfl (by simp;rfl) ?_;have hr:∀z:Int,-1000000000000<=z/\z<=1000000000000 -> -2000000000000<=FR z/\FR z<=2000000000000:=λz hz=>by simp only [FR];split <;> omega
   have:=hr n hia1;have:=hr n' hib1;refine Ab ⟨_,rfl,tV ?_,trivial⟩;rw [B9 (by omega) (by omega)];rfl
  refine Aa rfl (λh=>absurd (by simpa using h) f1) (λh=>?_);clear h;refine md [] rfl (by simp) ?_;by_cases f2:f=2
  ·subst f2;refine Aa rfl (λh=>?_) (λh=>by simp at h);refine md [] rfl (by simp) ?_;refine Ab ⟨_,rfl,tV ?_,trivial⟩;rw [B9 (by omega) (by omega)];rfl
  refine Aa rfl (λh=>absurd (by simpa using h) f2) (λh=>?_);clear h;refine md [] rfl (by simp) ?_;by_cases f4:f=4
  case neg =>
   refine Aa rfl (λh=>absurd (by simpa using h) f4) (λh=>?_);clear h;refine md [] rfl (by simp) ?_;rw [if_neg f1,if_neg f2,if_neg f4];exact Ab ⟨_,rfl,tV rfl,trivial⟩
  subst f4;have h8:so=8:=by
   by_cases e1:so=1
   ·rw [if_pos e1] at ha;simp at ha
   rw [if_neg e1] at ha;by_cases e2:so=2
   ·rw [if_pos e2] at ha;simp at ha
   rw [if_neg e2] at ha;by_cases e3:so=3
   ·rw [if_pos e3] at ha;simp at ha
   rw [if_neg e3] at ha;by_cases e8:so=8
   ·exact e8
   ·rw [if_neg e8] at ha;simp at ha
  subst h8;rw [if_neg (by decide),if_neg (by decide),if_neg (by decide),if_pos rfl] at ha hb;simp only [Bool.and_eq_true,decide_eq_true_eq] at ha hb;obtain ⟨_,ha1,ha2,ha3⟩:=ha;obtain ⟨hg,hb1,hb2,hb3⟩:=hb;rw [JZ ds 8 0 m0 x0 x [] qs0] at ha1 ha2 ha3;rw [JZ ds 8 0 m0 x0 x' [] qs0] at hb1 hb2 hb3;have hp:=(C5 hn 8 m0 x0 qs0 rfl rfl).1;have sa:=FA ho.dif (n:=m0) (s:=x) (ps:=qs0) hp ha1;have sb:=FA ho.dif (n:=m0) (s:=x') (ps:=qs0) hp hb1;have la:=YM ho (.mk 8 m0 x0 qs0) x;have lb:=YM ho (.mk 8 m0 x0 qs0) x';have hsame:=Na (ds:=ds) (t:=.mk 8 m0 x0 qs0) (s:=x) (s':=x') ha1;have hal:=VZ ho (.mk 8 m0 x0 qs0) x;have hnm:=IF ho.okd (t:=.mk 8 m0 x0 qs0) (s:=x) ha1;have lk1:=Qb ds x;have lk2:=Qb ds x'
  rw [if_neg (by decide),if_neg (by decide),if_pos rfl];rw [sa] at lk1 ⊢;rw [sb] at lk2 ⊢;generalize (Cx ds x).1=s1 at *;generalize (Cx ds x').1=s2 at *;clear sa sb;generalize B4 ds (.mk 8 m0 x0 qs0) x=e1 at *;generalize B4 ds (.mk 8 m0 x0 qs0) x'=e2 at *;obtain ⟨⟨n1,A1⟩,k1⟩:=e1;obtain ⟨⟨n2,A2⟩,k2⟩:=e2;simp only at ha1 ha2 ha3 hb1 hb2 hb3 la lb hsame hal hnm lk1 lk2 ⊢;refine Aa rfl (λh=>?_) (λh=>by simp at h);refine md [] rfl (by simp) ?_
  refine FF Ak rfl rfl rfl (Ej _) (by simp [Ag]) (z:=.agg #[.int .i64 0,.int .i64 0]) rfl (λ_=>.agg _ _ rfl (by decide) (λi c x h1 h2=>by match i,h1,h2 with | 0,h1,h2=>cases h1;cases h2;exact .int _ _ | 1,h1,h2=>cases h1;cases h2;exact .int _ _ | i+2,h1,h2=>simp at h2)) lk1 ?_;refine mg [] rfl (by simp [Ag]) ?_;refine FF Ak rfl rfl rfl (Ej _) (by simp [Ag]) (z:=.agg #[.int .i64 0,.int .i64 0]) rfl (λ_=>.agg _ _ rfl (by decide) (λi c x h1 h2=>by match i,h1,h2 with | 0,h1,h2=>cases h1;cases h2;exact .int _ _ | 1,h1,h2=>cases h1;cases h2;exact .int _ _ | i+2,h1,h2=>simp at h2)) lk2 ?_;refine mg [] rfl (by simp [Ag];rfl) ?_;by_cases hk:k1=k2
  case neg =>
   refine Aa rfl (λh=>?_) (λh=>by exfalso;simp at h;rw [B9 (by omega) (by omega)] at h;omega);refine md [] rfl (by simp) ?_;rw [if_pos (by omega)];refine Ab ⟨_,rfl,tV ?_,trivial⟩;rw [B9 (by omega) (by omega)]
  refine Aa rfl (λh=>by exfalso;simp at h;rw [B9 (by omega) (by omega)] at h;omega) (λh=>?_);clear h;subst hk;have hsame:=hsame rfl;cases hsame;rw [if_neg (by omega)];refine md [] rfl (by simp) ?_;refine Aj (λi:Nat=>[(53,.imm (.int .i64 i)),(52,.imm (.int .i64 ps.length)),(5,.ref 2 0),(4,.ref 1 0),(0,.imm (AM ⟨ds,.mk c1 c2 c3 c4,rows⟩ sz))])
   (λ_=>[(1,some (.immb 35 4 (dTyc (.mk 4 n x ps)))),(2,some (.immb 35 4 (dTyc (.mk g n' x' ps'))))]) [3,4,5,6,7] (λi=>ps.length-i)
   (λi=>i<=ps.length/\Cc ds ps ps'=Cc ds (ps.drop i) (ps'.drop i)) 0 ⟨Nat.zero_le _,rfl⟩ ⟨rfl,As (by simp),rfl,rfl,rfl,trivial⟩ ⟨rfl,rfl,trivial⟩ rfl λi hi ih=>?_
  obtain ⟨hi1,hi2⟩:=hi;refine md [] rfl (by simp) ?_;refine Aa rfl (λh=>?_) (λh=>?_)
  ·simp at h;obtain ⟨p,hp⟩:=Am h;obtain ⟨t,ht⟩:=Am (l:=A1) (i:=i) (by omega);obtain ⟨q,hq⟩:=Am (l:=ps') (i:=i) (by omega);have hO:=UM ⟨ds,.mk c1 c2 c3 c4,rows⟩ sz ho p t q (D2 hnm ht) (PL ha3 ht hp) (PL hb3 ht hq) (Qn hia.2 hp) (Qn hib.2 hq);simp only at hO;rw [UL hp hq] at hi2;generalize BS ds p q=z at *;refine md [] rfl (by simp) ?_;refine mi rfl (c:=dTyc p) (λ_=>⟨by simp,by simpa using Ax hp,by simp⟩) (by simp) ?_;refine mg [] rfl (by simp) ?_;refine mi rfl (c:=dTyc q) (λ_=>⟨by simp,by simpa using Ax hq,by simp⟩) (by simp) ?_;refine mg [] rfl (by simp) ?_;refine Ac rfl (λ_=>hO) (by simp) ?_;refine mg [] rfl (by simp;rfl) ?_;by_cases hz:z=0
   ·rw [if_neg (by simpa using hz)] at hi2;refine Aa rfl (λh=>by simp at h;exact absurd hz h) (λh=>?_);refine md [] rfl (by simp) ?_;exact Ad (ih (i+1) (by omega) ⟨by omega,hi2⟩) ⟨As (B9 (by omega) (by omega)),rfl,rfl,rfl,rfl,trivial⟩ ⟨rfl,rfl,trivial⟩ rfl
   ·rw [if_pos hz] at hi2;refine Aa rfl (λh=>?_) (λh=>by simp at h;exact absurd h hz);refine md [] rfl (by simp) ?_;rw [hi2];exact Ab ⟨_,rfl,tV rfl,trivial⟩
  ·simp at h;refine Ar rfl ?_;refine md [] rfl (by simp) ?_;rw [hi2,List.drop_eq_nil_of_le (by omega)];simp only [Cc];exact Ab ⟨_,rfl,tV rfl,trivial⟩
termination_by a=>SizeOf.sizeOf a
decreasing_by
 have:=List.sizeOf_lt_of_mem (List.mem_of_getElem? hp);simp_wf;omega
@[simp] theorem someP_length (r:Option Ty):(FQ r).length=5:=by cases r <;> simp [FQ,zT]
set_option maxHeartbeats 1000000 in
theorem RN (c:Cse) (sz:List (List V)) (ho:OkW c.datas) (hn:AB c.datas c.type=true) (a b:Option Ty) (ha:∀v,a=some v->Yu c v) (hb:∀v,b=some v->Yu c v) :
  Al Tryz.prog 111 [AM c sz,.agg (FQ a),.agg (FQ b)] (.agg (FQ (Hg c.datas a b))):=by
 cases a with
 | none =>
  have e:Hg c.datas none b=b:=rfl;rw [e];cases b with
  | none =>
   refine Ae Ak Tryz.func111 (by decide +kernel) rfl [1,2,3,4,5] rfl rfl ?_;refine mg [] rfl (by simp) ?_;refine Aa rfl (λh=>?_) (λh=>by simp at h);refine md [] rfl (by simp) ?_;exact Ab ⟨_,rfl,tV rfl,trivial⟩
  | some y =>
   obtain ⟨y1,y2,y3,y4⟩:=y;refine Ae Ak Tryz.func111 (by decide +kernel) rfl [1,2,3,4,5] rfl rfl ?_;refine mg [] rfl (by simp) ?_;refine Aa rfl (λh=>?_) (λh=>by simp at h);refine md [] rfl (by simp) ?_;exact Ab ⟨_,rfl,tV rfl,trivial⟩
 | some x =>
 cases b with
 | none =>
  obtain ⟨x1,x2,x3,x4⟩:=x;refine Ae Ak Tryz.func111 (by decide +kernel) rfl [1,2,3,4,5] rfl rfl ?_;refine mg [] rfl (by simp) ?_;refine Aa rfl (λh=>by simp at h) (λh=>?_);refine md [] rfl (by simp) ?_;refine Aa rfl (λh=>?_) (λh=>by simp at h);refine md [] rfl (by simp) ?_;exact Ab ⟨_,rfl,tV rfl,trivial⟩
 | some y =>
  have hx:=ha x rfl;have hy:=hb y rfl;have hO:=UM c sz ho y c.type x hn hy.1 hx.1 hy.2.1 hx.2.1;have hX:=Pk x hx.2.2;have hY:=Pk y hy.2.2;have e:Hg c.datas (some x) (some y)=if (if Ai y=Ai x then BS c.datas y x<0 else Ai y<Ai x) then some y else some x:=by
   simp only [Hg,Cm];by_cases h:Ai y=Ai x
   ·simp only [if_pos h,decide_eq_true_eq]
   ·simp only [if_neg h,decide_eq_true_eq]
  rw [e];clear e;have hnx:=hx.2.2;have hny:=hy.2.2;generalize BS c.datas y x=z at *;generalize Ai x=nx at *;generalize Ai y=ny at *;obtain ⟨x1,x2,x3,x4⟩:=x;obtain ⟨y1,y2,y3,y4⟩:=y;generalize hR:(if (if ny=nx then z<0 else ny<nx) then some (Ty.mk y1 y2 y3 y4) else some (Ty.mk x1 x2 x3 x4))=R;have hyes:(if ny=nx then z<0 else ny<nx)->R=some (Ty.mk y1 y2 y3 y4):=λh=>by rw [<- hR];exact if_pos h
  have hno:¬(if ny=nx then z<0 else ny<nx)->R=some (Ty.mk x1 x2 x3 x4):=λh=>by rw [<- hR];exact if_neg h
  clear hR;refine Ae Ak Tryz.func111 (by decide +kernel) rfl [1,2,3,4,5] rfl rfl ?_;refine mg [] rfl (by simp) ?_;refine Aa rfl (λh=>by simp at h) (λh=>?_);refine md [] rfl (by simp) ?_;refine Aa rfl (λh=>by simp at h) (λh=>?_);refine md [] rfl (by simp) ?_;refine Ac rfl (λ_=>hY) (by simp [Ag]) ?_;refine mg [] rfl (by simp [Ag]) ?_;refine Ac rfl (λ_=>hX) (by simp [Ag]) ?_;refine mg [] rfl (by simp [Ag];rfl) ?_;have ew:IntKind.i64.wrap ((ny:Int)-nx)=(ny:Int)-nx:=B9 (by omega) (by omega);by_cases hq:ny=nx
  ·subst hq;simp only [if_true] at hyes hno;refine Aa rfl (λh=>?_) (λh=>by exfalso;simp at h;exact h (by decide));refine md [] rfl (by simp) ?_;refine Ac rfl (λ_=>hO) (by simp) ?_;refine mg [] rfl (by simp) ?_;by_cases hz:z<0
   ·rw [hyes hz];refine Aa rfl (λh=>?_) (λh=>absurd hz (by simpa using h));refine md [] rfl (by simp) ?_;exact Ab ⟨_,rfl,tV rfl,trivial⟩
   ·rw [hno hz];refine Aa rfl (λh=>absurd (by simpa using h) hz) (λh=>?_);refine md [] rfl (by simp) ?_;exact Ab ⟨_,rfl,tV rfl,trivial⟩
  ·simp only [if_neg hq] at hyes hno;refine Aa rfl (λh=>by exfalso;simp [ew] at h;omega) (λh=>?_);refine md [] rfl (by simp) ?_;by_cases hz:ny<nx
   ·rw [hyes hz];refine Aa rfl (λh=>?_) (λh=>by exfalso;simp [ew] at h;omega);refine md [] rfl (by simp) ?_;exact Ab ⟨_,rfl,tV rfl,trivial⟩
   ·rw [hno hz];refine Aa rfl (λh=>by exfalso;simp [ew] at h;omega) (λh=>?_);refine md [] rfl (by simp) ?_;exact Ab ⟨_,rfl,tV rfl,trivial⟩
theorem UH (p:Ty):Al Tryz.prog 244 [.agg (dTyc p)] (.agg (dTyc p)):=by
 obtain ⟨a,b,c,d⟩:=p;refine Ae Ak Tryz.func244 (by decide +kernel) rfl [1,2] rfl rfl ?_;refine mg [] rfl (by simp) ?_;exact Ab ⟨_,rfl,tV rfl,trivial⟩
theorem UG (p:Ty):Al Tryz.prog 245 [.agg (dTyc p)] (.agg (dTyc p)):=by
 obtain ⟨a,b,c,d⟩:=p;refine Ae Ak Tryz.func245 (by decide +kernel) rfl [1,2] rfl rfl ?_;refine mg [] rfl (by simp) ?_;exact Ab ⟨_,rfl,tV rfl,trivial⟩
theorem TY:∃z,(Tryz.prog.info? 124).bind (·.zero)=some z/\∀I,RepV I z (.agg [.int .i64 0,.int .i64 0,.str [],.sl []]):=by
 refine ⟨.agg #[.int .i64 0,.int .i64 0,.string ⟨#[]⟩,.slice none 0 0],by kernel_rfl,λI=>.agg _ _ rfl (by decide) λi c x hc hx=>?_⟩
 match i,hc,hx with
 | 0,hc,hx=>cases hc;cases hx;exact .int _ _
 | 1,hc,hx=>cases hc;cases hx;exact .int _ _
 | 2,hc,hx=>cases hc;cases hx;exact .str _ _ rfl
 | 3,hc,hx=>cases hc;cases hx;exact .slnil
 | i+4,hc,hx=>simp at hx
theorem fJ (x:Ty×Int):Al Tryz.prog 112 [KY x] (.bool (decide (x.2=1))):=by
 obtain ⟨⟨a,b,c,d⟩,m⟩:=x;by_cases h:m=1
 ·subst h;refine Ae Ak Tryz.func112 (by decide +kernel) rfl [1,2] rfl rfl ?_;refine mg [] rfl (by simp) ?_;refine HZ Ak rfl (.inl ⟨rfl,rfl⟩) ?_;refine mg [] rfl (by simp) ?_;refine Aa rfl (λh=>?_) (λh=>by simp at h);refine md [] rfl (by simp) ?_;exact Ab ⟨_,rfl,tV rfl,trivial⟩
 ·have e:KY (.mk a b c d,m) = .iface 182 (.agg (dTyc (.mk a b c d))):=by simp [KY,h]
  obtain ⟨z,hz,hzr⟩:=TY;rw [e,show decide (m=1)=false from decide_eq_false h];refine Ae Ak Tryz.func112 (by decide +kernel) rfl [1,2] rfl rfl ?_;refine mg [] rfl (by simp) ?_;refine HZ Ak rfl (.inr ⟨by decide,z,_,hz,hzr,rfl⟩) ?_;refine mg [] rfl (by simp) ?_;refine Aa rfl (λh=>by simp at h) (λh=>?_);refine md [] rfl (by simp) ?_;exact Ab ⟨_,rfl,tV rfl,trivial⟩
theorem RY {I:Imm} {μ:Mu}:∀{xs:List Value} {a b:List D},RepL I μ xs (a ++ .nils::b)->RepL I μ xs (a ++ .imm (.sl [])::b)
 | [],[],b,h=>absurd h.1 (by simp)
 | [],_::_,b,h=>absurd h.1 (by simp)
 | x::xs,[],b,h=>by
  obtain ⟨h1,h2⟩:=(show RepL I μ (x::xs) (.nils::b) from h).cons;refine .mk ?_ h2;cases h1;exact .imm _ _ .slnil
 | x::xs,d::a,b,h=>by
  obtain ⟨h1,h2⟩:=(show RepL I μ (x::xs) (d::(a ++ .nils::b)) from h).cons;exact .mk h1 (RY h2)
theorem aP {P:Program} {f:FuncId} {a b:List D} {st:St} {out:Out} (h:AV P f (a ++ .imm (.sl [])::b) st out):AV P f (a ++ .nils::b) st out:=λI μ w xs hs hx=>h I μ w xs hs (RY hx)
theorem Ua (l:List (Ty×Int)):∀c∈Ci l,c.length=1:=λc hc=>by simp only [Ci,List.mem_map] at hc;obtain ⟨q,_,rfl⟩:=hc;rfl
theorem Zg (x : Ty × Int) : ∃ T fm, KY x = .iface T (.agg (dTyc x.1)) ∧ Vu Tryz.prog T "hearth/cover.pattern" fm = true ∧ Al Tryz.prog fm [.agg (dTyc x.1)] (.agg (dTyc x.1)) := by
 obtain ⟨p,m⟩:=x;by_cases h:m=1
 ·exact ⟨124,244,by simp [KY,h],by kernel_rfl,UH p⟩
 ·exact ⟨182,245,by simp [KY,h],by kernel_rfl,UG p⟩
set_option maxHeartbeats 4000000 in
theorem RT (c:Cse) (ho:OkW c.datas) (hn:AB c.datas c.type=true):∀(F f N:Nat),f<=F->∀(m x:Mi) (l:List (Ty×Int)) (r:Option Ty),N+f<=1000000->MOk c.datas c.type N m->MOk c.datas c.type N x->stl c.datas m x ->
  Ir c.datas c.type l->(∀y∈l,y.2=0\/y.2=1)->l.length<=1000->II c.datas m l<f->Cj c.datas f m l=some r ->
  AV Tryz.prog 57 [.imm (AM c (AX (D7 c.datas))),.hv 1 0,.imm (.sl (Ci l))] [(1,some (.hp (H2 x)))] (.ret (.imm (.agg (FQ r))) []):=by
 intro F
 induction F with
 | zero=>intro f N hf m x l r _ _ _ _ _ _ _ hu;omega
 | succ F ih =>
 intro f N hfF m x l r hNf hm hx hs hr hb hll hu hS;have hrf:=G3 r;refine Ae Ak Tryz.func57 (by decide +kernel) rfl [2,3,4,5,6,7,8,9,10,11,12] rfl rfl ?_;refine Jy 1 2 (λob:Nat=>[ptr ob]) (λob=>AW x ob) rfl (λvs I w bs h=>let ⟨ob,F,e1,e2,e3⟩:=h;⟨ob,e1,F,e2,e3⟩) λob=>?_;refine md [] rfl (by simp) ?_;refine Aj (λz:Nat×Nat×Mi=>[(15,.imm (.int .i64 z.1)),(14,.imm (.int .i64 l.length)),(13,.imm (.sl (Ci l))),(6,.ref 3 0),(2,.imm (.sl (Ci l))),(1,.raw (ptr ob)),(0,.imm (AM c (AX (D7 c.datas))))])
  (λz=>[(3,some (.cells 107 5 [.imm (.int .i64 0),.imm (.int .i64 0),.imm (.str []),.nils,.imm (.bool false)])),(2,some (.hp (AW z.2.2 ob)))]) [4,5,6,7,8,9,10,11,12] (λz=>l.length-z.1)
  (λz=>z.1<=l.length/\z.2.1<=f/\MOk c.datas c.type N z.2.2/\stl c.datas m z.2.2/\II c.datas m (l.drop z.1)<z.2.1/\Cj c.datas z.2.1 m (l.drop z.1)=some r) (0,f,x) ⟨Nat.zero_le _,Nat.le_refl _,hx,hs,hu,hS⟩ ⟨rfl,As (by simp),rfl,rfl,rfl,rfl,rfl,trivial⟩ ⟨rfl,rfl,trivial⟩ rfl λz hz ihl=>?_
 obtain ⟨i,f',x⟩:=z;obtain ⟨z1,z2,hx,hs,hu,hS⟩:=hz;simp only at z1 z2 hx hs hu hS;refine md [] rfl (by simp) ?_;refine Aa rfl (λh=>?_) (λh=>?_)
 ·have hlt:i<l.length:=by simp at h;omega
  obtain ⟨y,hy⟩:=Am hlt;obtain ⟨p,bb⟩:=y;obtain ⟨T,fm,hwe,him,hpc⟩:=Zg (p,bb);obtain ⟨hp1,hp2,hp3⟩:=hr (p,bb) (List.mem_of_getElem? hy);have hyb:=hb (p,bb) (List.mem_of_getElem? hy);have hho:=fJ (p,bb);have hget:(Ci l)[i]?=some [.iface T (.agg (dTyc p))]:=by rw [W2 hy,hwe]
  rw [hwe] at hho;have hdr:=Ao hy;rw [hdr] at hS hu;simp only at hp1 hp2 hp3 hyb hho hpc;obtain ⟨f',rfl⟩:∃g,f'=g+1:=⟨f'-1,by omega⟩
  have hsee:=dD c (AX (D7 c.datas)) ho N (by omega) p x ob [] (by simp;omega) hx.wf hx.coh (by rw [hx.typ];exact hp1) hp2;replace hsee:=aP (a:=[.imm (AM c (AX (D7 c.datas))),.imm (.agg (dTyc p)),.raw (ptr ob)]) (b:=[]) hsee;have hst:=Ya p hm.coh hs;have hxs:=hx.see ho hp3;have hL:=Pq p hm.coh hs;have hL2:=Pq p hm.coh hst;rw [<- hL] at hsee;refine md [] rfl (by simp) ?_;refine mi rfl (c:=[.iface T (.agg (dTyc p))]) (λ_=>⟨by simp,by simpa using hget,by simp⟩) (by simp) ?_;refine mg [] rfl (by simp) ?_;refine jP fm rfl him (λ_=>hpc) (by simp) ?_;refine mg [] rfl (by simp) ?_;simp only [Cj] at hS;simp only [II] at hu;by_cases h2:(Aw c.datas p m).1=2
  ·rw [show Ov [] (Aw c.datas p m) = .tup [.imm (.bool false),.ip 170 (.sl (AX (Aw c.datas p m).2.1)::Bh (Aw c.datas p m).2.2) 0] from if_pos h2] at hsee;have hA:=Nh ho p hm.wf hm.coh (by rw [hm.typ];exact hp1) hp2 h2;have hB:=Nh ho p hxs.wf hxs.coh (by rw [hxs.typ];exact hp1) hp2 (by rw [<- hL2];exact h2);rw [<- hL2] at hB;have hmT:=hm.split ho hp1 hp2 hp3 h2;have hxT:=hxs.split ho hp1 hp2 hp3 (by rw [<- hL2];exact h2);rw [<- hL2] at hxT;have hlen:=Qa c.datas p m;have hsup:=λis=>W5 c (AX (D7 c.datas)) ho N (by omega) (E3 c.datas p x) ob (Aw c.datas p m).2.1 (Aw c.datas p m).2.2 is (by omega) hxs.wf hxs.coh hB.ok
   have hdl:∀is,II c.datas (A7 c.datas m (Aw c.datas p m).2.1 (Aw c.datas p m).2.2 is) ((p,bb)::l.drop (i+1))<f':=λis=>by have:=hA.less is;simp only [II];omega
   have hrd:Ir c.datas c.type ((p,bb)::l.drop (i+1)):=λy h=>hr y (by rw [<- hdr] at h;exact List.mem_of_mem_drop h);obtain ⟨ra,ra1,ra2⟩:=Ij ho c.type f' (N+1) _ _ (by omega) (hmT true) hrd (hdl true);obtain ⟨rb,rb1,rb2⟩:=Ij ho c.type f' (N+1) _ _ (by omega) (hmT false) hrd (hdl false);rw [if_pos h2,ra1,rb1] at hS;simp only [N7,Option.some.injEq] at hS;have hll2:((p,bb)::l.drop (i+1)).length<=1000:=by rw [<- hdr,List.length_drop];omega
   have hbd:∀y∈(p,bb)::l.drop (i+1),y.2=0\/y.2=1:=λy h=>hb y (by rw [<- hdr] at h;exact List.mem_of_mem_drop h);have hYa:=ih f' (N+1) (by omega) _ _ _ ra (by omega) (hmT true) (hxT true) (hA.stl true _ hst) hrd hbd hll2 (hdl true) ra1;have hYb:=ih f' (N+1) (by omega) _ _ _ rb (by omega) (hmT false) (hxT false) (hA.stl false _ hst) hrd hbd hll2 (hdl false) rb1;have hsoon:=RN c (AX (D7 c.datas)) ho hn ra rb (λv hv=>PI rfl (ra2 v hv)) (λv hv=>PI rfl (rb2 v hv));rw [hS] at hsoon;rw [<- hdr,<- Ub] at hYa hYb;generalize (Aw c.datas p m).2.1=path at *;generalize (Aw c.datas p m).2.2=hd at *;obtain ⟨d1,d2,d3,d4⟩:=hd
   refine Ay (fr:=[4]) [(2,1)] [(2,4)] rfl (by simp) hsee ⟨⟨rfl,rfl,rfl⟩,trivial⟩ rfl rfl rfl rfl ?_;refine mg [] rfl (by simp) ?_;refine Aa rfl (λh=>?_) (λh=>by simp at h);refine md [] rfl (by simp) ?_;refine Ce [(4,1)] [(3,5),(2,6)] [] (fr:=[5,6]) (nm:=[5,6,4]) rfl trivial (by simp) (hsup true) ⟨⟨rfl,rfl,rfl⟩,trivial⟩ rfl trivial rfl rfl rfl ?_;refine mg [] rfl (by simp;exact ⟨by omega,Ua l⟩) ?_;refine Ce [(6,1)] [] [] (fr:=[]) (nm:=[6]) rfl trivial (by simp) hYa ⟨⟨rfl,rfl,rfl⟩,trivial⟩ rfl trivial rfl rfl rfl ?_;refine mg [] rfl (by simp;rfl) ?_
   refine Ce [(5,1)] [(3,8),(2,9)] [] (fr:=[8,9]) (nm:=[8,9,5]) rfl trivial (by simp) (hsup false) ⟨⟨rfl,rfl,rfl⟩,trivial⟩ rfl trivial rfl rfl rfl ?_;refine mg [] rfl (by simp;exact ⟨by omega,Ua l⟩) ?_;refine Ce [(9,1)] [] [] (fr:=[]) (nm:=[9]) rfl trivial (by simp) hYb ⟨⟨rfl,rfl,rfl⟩,trivial⟩ rfl trivial rfl rfl rfl ?_;refine mg [] rfl (by simp;rfl) ?_;refine Ac rfl (λ_=>hsoon) (by simp) ?_;refine mg [] rfl (by simp) ?_;exact Ab ⟨_,rfl,tV rfl,trivial⟩
  ·rw [show Ov [] (Aw c.datas p m) = .imm (.tup [.bool (decide ((Aw c.datas p m).1=1)),.nilp]) from if_neg h2] at hsee;rw [if_neg h2] at hS;have hrg:=KF c.datas p m;have hul:=Jj c.datas m (l.drop (i+1));have hih:=ihl (i+1,f',E3 c.datas p x) (by simp only;omega);simp only at hih;generalize (Aw c.datas p m).1=q at *;refine Ay (fr:=[4]) [(2,1)] [(2,4)] rfl (by simp) hsee ⟨⟨rfl,rfl,rfl⟩,trivial⟩ rfl rfl rfl rfl ?_;refine mg [] rfl (by simp) ?_;refine Aa rfl (λh=>by simp at h) (λh=>?_);clear h;refine md [] rfl (by simp) ?_;refine Ac rfl (λ_=>hho) (by simp) ?_;refine mg [] rfl (by simp) ?_;by_cases e:q=bb
   ·rw [if_pos e] at hS;refine Aa rfl (λh=>by exfalso;subst e;simp at h) (λh=>?_);refine md [] rfl (by simp) ?_;refine A4 4 2 rfl ?_;exact Ad (hih ⟨by omega,by omega,hxs,hst,by omega,hS⟩) ⟨As (B9 (by omega) (by omega)),rfl,rfl,rfl,rfl,rfl,rfl,trivial⟩ ⟨rfl,rfl,trivial⟩ rfl
   ·rw [if_neg e] at hS;simp only [Option.some.injEq] at hS;subst hS;refine Aa rfl (λh=>?_) (λh=>by
     exfalso;have:¬(q=1↔bb=1):=λh=>by omega
     simp at h;exact this (by rw [h]))
    refine md [] rfl (by simp) ?_;exact Ab ⟨_,rfl,tV rfl,trivial⟩
 ·have hlt:¬i<l.length:=by simp at h;omega
  obtain ⟨f',rfl⟩:∃g,f'=g+1:=⟨f'-1,by omega⟩
  rw [List.drop_eq_nil_of_le (by omega)] at hS;simp only [Cj] at hS;have hS:AD c.datas 1000 x=some r:=by
   rw [<- Zn ho 14 m x hx.hgt hm.wf hs 1000 (by omega)];exact hS
  have hle:=eZ c ho N (by omega) 1000 x ob r hS hx.wf;refine Ar rfl ?_;refine md [] rfl (by simp) ?_;refine Ay (fr:=[]) [(2,1)] [] rfl (by simp) hle ⟨⟨rfl,rfl,rfl⟩,trivial⟩ rfl rfl rfl rfl ?_;refine mg [] rfl (by simp) ?_;exact Ab ⟨_,rfl,tV rfl,trivial⟩
theorem OZ (rows:List Ty) (k:Nat) {p:Ty} (h:rows[k]?=some p):Ei rows (k:Int)=(rows.take k).map (·,(0:Int))++[(p,1)]:=by
 simp only [Ei];rw [if_neg (by omega)];simp only [Int.toNat_natCast,h]
theorem R6 (rows:List Ty) {row:Int} (h:row<0):Ei rows row=rows.map (·,(0:Int)):=if_pos h
set_option maxHeartbeats 1000000 in
theorem Lc (c:Cse) (sz:List (List V)) (hl:c.rows.length<=5) (row:Int) (h1 : -1<=row) (h2:row<c.rows.length):Al Tryz.prog 59 [AM c sz,.int .i64 row] (.sl (Ci (Ei c.rows row))):=by
 have hw1:=λk p h=>OZ c.rows k (p:=p) h;have hw2:=λh=>R6 c.rows (row:=row) h;obtain ⟨ds,⟨c1,c2,c3,c4⟩,rows⟩:=c;simp only at *;refine Ae Ak Tryz.func59 (by decide +kernel) rfl [1,2,3,4] rfl rfl ?_;refine mg [] rfl (by simp) ?_;refine CI (e:=164) (sz:=1) 5 1 (by decide) rfl ?_;refine Aj (λi:Nat=>[(14,.imm (.int .i64 i)),(13,.imm (.int .i64 rows.length)),(12,.imm (.sl (AT rows))),(5,.own 1 (Ci ((rows.take i).map (·,(0:Int)))).length),(1,.imm (.int .i64 row))]) (λi=>[(1,some (.row 164 1 (Ci ((rows.take i).map (·,(0:Int))))))]) [2,3,4] (λi=>rows.length-i)
  (λi=>i<=rows.length/\(0<=row->(i:Int)<=row)) 0 ⟨Nat.zero_le _,λh=>h⟩ ⟨rfl,As (by simp),rfl,rfl,rfl,trivial⟩ ⟨rfl,trivial⟩ rfl λi hi ih=>?_
 obtain ⟨i1,i2⟩:=hi;refine md [] rfl (by simp) ?_;refine Aa rfl (λh=>?_) (λh=>?_)
 ·simp at h;obtain ⟨p,hp⟩:=Am h;have hw1:=hw1 i p hp;have et:∀n:Int,Ci ((rows.take i).map (·,(0:Int))++[(p,n)])=Ci ((rows.take i).map (·,(0:Int)))++[[KY (p,n)]]:=λn=>by rw [Rh];rfl
  have e2:(rows.take (i+1)).map (·,(0:Int))=(rows.take i).map (·,(0:Int))++[(p,0)]:=by rw [Be hp];simp
  have hll:(Ci ((rows.take i).map (·,(0:Int)))).length<=5:=by simp;omega
  refine md [] rfl (by simp) ?_;refine mi rfl (c:=dTyc p) (λ_=>⟨by simp,by simpa using Ax hp,by simp⟩) (by simp) ?_;obtain ⟨p1,p2,p3,p4⟩:=p;refine mg [] rfl (by simp) ?_;by_cases e:(i:Int)=row
  ·subst e;rw [hw1,et];generalize Ci ((rows.take i).map (·,(0:Int)))=l at *;refine Aa rfl (λh=>?_) (λh=>by simp at h);refine md [] rfl (by simp) ?_;refine BC Ak rfl ⟨by simp,by simp [maxLen] at hll ⊢;omega,by simp at hll ⊢;omega,trivial⟩ ?_;refine mg [] rfl (by simp) ?_;refine BD 3 rfl ?_;exact Ab ⟨_,rfl,tV rfl,trivial⟩
  ·have hih:=ih (i+1) (by omega) ⟨by omega,λh=>by have:=i2 h;omega⟩;rw [e2,et] at hih;generalize Ci ((rows.take i).map (·,(0:Int)))=l at *;refine Aa rfl (λh=>by exfalso;simp at h;exact e h) (λh=>?_);refine md [] rfl (by simp) ?_;refine BC Ak rfl ⟨by simp,by simp [maxLen] at hll ⊢;omega,by simp at hll ⊢;omega,trivial⟩ ?_;refine mg [] rfl (by simp) ?_;refine A4 1 3 rfl ?_;exact Ad hih ⟨As (B9 (by omega) (by omega)),rfl,rfl,by simp only [List.length_append];rfl,rfl,trivial⟩ ⟨rfl,trivial⟩ rfl
 ·simp at h;have hr:row<0:=by
   by_cases e:0<=row
   ·have:=i2 e;omega
   ·omega
  refine Ar rfl ?_;refine BD 1 rfl ?_;refine md [] rfl (by simp) ?_;rw [hw2 hr,List.take_of_length_le h];exact Ab ⟨_,rfl,tV rfl,trivial⟩
def Jt (r:Option Ty):V:=.tup [.agg (dTyc (r.getD zT)),.int .i64 (if r.isSome then 0 else 5)]
theorem Q2 (r:Option Ty) (hr:∀v,r=some v->Ai v<=1000000000000):Al Tryz.prog 56 [.agg (FQ r)] (Jt r):=by
 cases r with
 | none =>
  refine Ae Ak Tryz.func56 (by decide +kernel) rfl [1,2,3] rfl rfl ?_;refine mg [] rfl (by simp) ?_;refine Aa rfl (λh=>?_) (λh=>by simp at h);refine md [] rfl (by simp) ?_;exact Ab ⟨_,rfl,tV rfl,trivial⟩
 | some v =>
  have hc:=IE v (hr v rfl);obtain ⟨v1,v2,v3,v4⟩:=v;refine Ae Ak Tryz.func56 (by decide +kernel) rfl [1,2,3] rfl rfl ?_;refine mg [] rfl (by simp) ?_;refine Aa rfl (λh=>by simp at h) (λh=>?_);refine md [] rfl (by simp) ?_;refine Ac rfl (λ_=>hc) (by simp) ?_;refine mg [] rfl (by simp) ?_;exact Ab ⟨_,rfl,tV rfl,trivial⟩
theorem RowsOk.of {c:Cse} (h:Bl c=true):RowsOk c:=by
 have h':=h;simp only [Bl,Bool.and_eq_true,decide_eq_true_eq] at h';obtain ⟨_,_,_,h1,h2⟩:=Dc h;refine ⟨λp hp=>?_,h1,h'.2.2.2⟩;obtain ⟨a,b⟩:=h2 p hp;simp only [B2,Bool.and_eq_true,decide_eq_true_eq] at a;exact ⟨b,a.2.1,a.1⟩
theorem MOk.of {c:Cse} (h:Bl c=true):MOk c.datas c.type 0 (An c.type):=by
 exact ⟨Uf (Dc h).2.2.1 (OkW.typ h),SW _ _,rfl,by simp [GY,An,FT]⟩
theorem bS (rows:List Ty) (row:Int):∀y∈Ei rows row,y.2=0\/y.2=1:=by
 intro y hy;unfold Ei at hy
 split at hy
 ·obtain ⟨p,_,rfl⟩:=List.mem_map.1 hy;exact .inl rfl
 ·rcases List.mem_append.1 hy with hy | hy
  ·obtain ⟨p,_,rfl⟩:=List.mem_map.1 hy;exact .inl rfl
  ·split at hy
   ·rw [List.mem_singleton.1 hy];exact .inr rfl
   ·cases hy
theorem bQ {c:Cse} (h:RowsOk c) (row:Int):(Ei c.rows row).length<=1000:=by
 have:=h.len;unfold Ei
 split
 ·simp;omega
 ·split <;> simp <;> omega
theorem MN (c:Cse) (h:Bl c=true) (N:Nat) (hN:N<=999000) (m x:Mi) (hm:MOk c.datas c.type N m) (hx:MOk c.datas c.type N x) (hs:stl c.datas m x) (row:Int) :
  AV Tryz.prog 57 [.imm (AM c (AX (D7 c.datas))),.hv 1 0,.imm (.sl (Ci (Ei c.rows row)))] [(1,some (.hp (H2 x)))] (.ret (.imm (.agg (FQ (Dv c m row)))) [])/\∀v,Dv c m row=some v->Ny c.datas c.type v:=by
 have ho:=OkW.of h;have hr:=RowsOk.of h;obtain ⟨w1,w2⟩:=XW hr row;obtain ⟨v1,v2⟩:=K6 ho hN hm w1 w2;have hu:=Jj c.datas m (Ei c.rows row);rw [show FY c.datas m (Ei c.rows row)=Dv c m row from rfl] at v1 v2;exact ⟨RT c ho (Dc h).2.2.1 60 60 N (Nat.le_refl _) m x _ _ (by omega) hm hx hs w1 (bS _ _) (bQ hr row) (by omega) v1,v2⟩
set_option maxHeartbeats 1000000 in
theorem IH (c:Cse):Al Tryz.prog 11 [.agg (dCse c)] (bif Bl c then Jt (Dv c (An c.type) (-1)) else .tup [.agg (dTyc zT),.int .i64 2]):=by
 have hW:=EY c;have hF:=GJ (AM c (AX (D7 c.datas))) c.type;cases hb:Bl c with
 | false =>
  rw [hb] at hW;obtain ⟨ds,⟨c1,c2,c3,c4⟩,rows⟩:=c;refine Ae Ak Tryz.func11 (by decide +kernel) rfl [1,2,3,4] rfl rfl ?_;refine mg [] rfl (by simp) ?_;refine Ac rfl (λ_=>hW) (by simp) ?_;refine mg [] rfl (by simp) ?_;refine Aa rfl (λh=>?_) (λh=>by simp at h);refine md [] rfl (by simp) ?_;exact Ab ⟨_,rfl,tV rfl,trivial⟩
 | true =>
  rw [hb] at hW;have hU:=Lc c (AX (D7 c.datas)) (RowsOk.of hb).len (-1) (by omega) (by omega);obtain ⟨hL1,hL2⟩:=MN c hb 0 (by omega) _ _ (MOk.of hb) (MOk.of hb) (E0 _ _) (-1);have hFd:=Q2 (Dv c (An c.type) (-1)) λv hv=>(hL2 v hv).2.2;clear hL2;simp only [cond_true];have hfr:∃a b,Jt (Dv c (An c.type) (-1)) = .tup [.agg a,.int .i64 b]/\a.length=4:=⟨_,_,rfl,by simp⟩
  obtain ⟨fa,fb,hfe,hfl⟩:=hfr;rw [hfe] at hFd ⊢;generalize Dv c (An c.type) (-1)=R at *;have hrf:=G3 R;obtain ⟨a1,a2,a3,a4,rfl⟩:∃a1 a2 a3 a4,fa=[a1,a2,a3,a4]:=by
   match fa,hfl with
   | [a1,a2,a3,a4],_=>exact ⟨_,_,_,_,rfl⟩
  obtain ⟨ds,⟨c1,c2,c3,c4⟩,rows⟩:=c;refine Ae Ak Tryz.func11 (by decide +kernel) rfl [1,2,3,4] rfl rfl ?_;refine mg [] rfl (by simp) ?_;refine Ac rfl (λ_=>hW) (by simp) ?_;refine mg [] rfl (by simp) ?_;refine Aa rfl (λh=>by simp at h) (λh=>?_);refine md [] rfl (by simp) ?_;refine Ay (fr:=[3]) [] [(2,3)] rfl (by simp) hF trivial rfl rfl rfl rfl ?_;refine mg [] rfl (by simp) ?_;refine Ac rfl (λ_=>hU) (by simp) ?_;refine mg [] rfl (by simp) ?_;refine Ay (fr:=[]) [(3,1)] [] rfl (by simp) hL1 ⟨⟨rfl,rfl,rfl⟩,trivial⟩ rfl rfl rfl rfl ?_;refine mg [] rfl (by simp) ?_;refine Ac rfl (λ_=>hFd) (by simp) ?_;refine mg [] rfl (by simp) ?_;exact Ab ⟨_,rfl,tV rfl,trivial⟩
theorem NX (r:Option Ty):∃a1 a2 a3 a4 b,Jt r = .tup [.agg [a1,a2,a3,a4],.int .i64 b]:=by
 unfold Jt;generalize r.getD zT=t;obtain ⟨a,b,c,d⟩:=t;exact ⟨_,_,_,_,_,rfl⟩
theorem K5 {c:Cse} {row:Int} (h:CJ c row=true):0<=row/\row<c.rows.length:=by
 simpa [CJ] using h
set_option maxHeartbeats 1000000 in
theorem Nl (c:Cse) (row:Int):Al Tryz.prog 18 [.agg (dCse c),.int .i64 row] (bif Bl c&&CJ c row then Jt (Dv c (An c.type) row) else .tup [.agg (dTyc zT),.int .i64 2]):=by
 have hW:=EY c;have hF:=GJ (AM c (AX (D7 c.datas))) c.type;have hT:=Po c row;rw [show (decide (0<=row)&&decide (row<c.rows.length))=CJ c row from rfl] at hT;cases hb:Bl c with
 | false =>
  rw [hb] at hW;obtain ⟨ds,⟨c1,c2,c3,c4⟩,rows⟩:=c;refine Ae Ak Tryz.func18 (by decide +kernel) rfl [1,2,3,4] rfl rfl ?_;refine mg [] rfl (by simp) ?_;refine Ac rfl (λ_=>hW) (by simp) ?_;refine mg [] rfl (by simp) ?_;refine Ac (v:=.bool true) rfl (λh=>by simp [Ag] at h) (by simp [Ag]) ?_;refine mg [] rfl (by simp) ?_;refine Aa rfl (λh=>?_) (λh=>by simp at h);refine md [] rfl (by simp) ?_;exact Ab ⟨_,rfl,tV rfl,trivial⟩
 | true =>
 rw [hb] at hW;cases ht:CJ c row with
 | false =>
  rw [ht] at hT;obtain ⟨ds,⟨c1,c2,c3,c4⟩,rows⟩:=c;refine Ae Ak Tryz.func18 (by decide +kernel) rfl [1,2,3,4] rfl rfl ?_;refine mg [] rfl (by simp) ?_;refine Ac rfl (λ_=>hW) (by simp) ?_;refine mg [] rfl (by simp) ?_;refine Ac rfl (λ_=>hT) (by simp [Ag]) ?_;refine mg [] rfl (by simp) ?_;refine Aa rfl (λh=>?_) (λh=>by simp at h);refine md [] rfl (by simp) ?_;exact Ab ⟨_,rfl,tV rfl,trivial⟩
 | true =>
  rw [ht] at hT;obtain ⟨r1,r2⟩:=K5 ht;have hU:=Lc c (AX (D7 c.datas)) (RowsOk.of hb).len row (by omega) r2;obtain ⟨hL1,hL2⟩:=MN c hb 0 (by omega) _ _ (MOk.of hb) (MOk.of hb) (E0 _ _) row;have hFd:=Q2 (Dv c (An c.type) row) λv hv=>(hL2 v hv).2.2;clear hL2;simp only [Bool.and_self,cond_true];obtain ⟨a1,a2,a3,a4,b,hfe⟩:=NX (Dv c (An c.type) row);rw [hfe] at hFd ⊢;generalize Dv c (An c.type) row=R at *;obtain ⟨ds,⟨c1,c2,c3,c4⟩,rows⟩:=c;refine Ae Ak Tryz.func18 (by decide +kernel) rfl [1,2,3,4] rfl rfl ?_;refine mg [] rfl (by simp) ?_;refine Ac rfl (λ_=>hW) (by simp) ?_;refine mg [] rfl (by simp) ?_;refine Ac rfl (λ_=>hT) (by simp [Ag]) ?_;refine mg [] rfl (by simp) ?_
  refine Aa rfl (λh=>by simp at h) (λh=>?_);refine md [] rfl (by simp) ?_;refine Ay (fr:=[3]) [] [(2,3)] rfl (by simp) hF trivial rfl rfl rfl rfl ?_;refine mg [] rfl (by simp) ?_;refine Ac rfl (λ_=>hU) (by simp) ?_;refine mg [] rfl (by simp) ?_;refine Ay (fr:=[]) [(3,1)] [] rfl (by simp) hL1 ⟨⟨rfl,rfl,rfl⟩,trivial⟩ rfl rfl rfl rfl ?_;refine mg [] rfl (by simp) ?_;refine Ac rfl (λ_=>hFd) (by simp) ?_;refine mg [] rfl (by simp) ?_;exact Ab ⟨_,rfl,tV rfl,trivial⟩
def Wk (c:Cse) (a b:Int):Option Ty:=match c.rows[a.toNat]?,c.rows[b.toNat]? with
 | some p,some q=>Me c p q
 | _,_=>none
theorem kE (c:Cse) (h:Bl c=true) (p q:Ty) (hp:p∈c.rows) (hq:q∈c.rows) :
  AV Tryz.prog 57 [.imm (AM c (AX (D7 c.datas))),.hv 1 0,.imm (.sl (Ci [(p,1),(q,1)]))] [(1,some (.hp (H2 (An c.type))))] (.ret (.imm (.agg (FQ (Me c p q)))) [])/\∀v,Me c p q=some v->Ny c.datas c.type v:=by
 have ho:=OkW.of h;have hr:=RowsOk.of h;have hm:=MOk.of h;have w1:Ir c.datas c.type [(p,1),(q,1)]:=λx hx=>by
  rcases List.mem_cons.1 hx with rfl | hx
  ·exact hr.pat p hp
  ·rw [List.mem_singleton.1 hx];exact hr.pat q hq
 have w2:EW [(p,1),(q,1)]<60:=by
  have:=(hr.pat p hp).2.2;have:=(hr.pat q hq).2.2;simp [EW];omega
 obtain ⟨v1,v2⟩:=K6 ho (by omega) hm w1 w2;have hu:=Jj c.datas (An c.type) [(p,1),(q,1)];rw [show FY c.datas (An c.type) [(p,1),(q,1)]=Me c p q from rfl] at v1 v2;have hb:∀y∈[(p,(1:Int)),(q,1)],y.2=0\/y.2=1:=λy hy=>by
  rcases List.mem_cons.1 hy with rfl | hy
  ·exact .inr rfl
  ·rw [List.mem_singleton.1 hy];exact .inr rfl
 have hS:=RT c ho (Dc h).2.2.1 60 60 0 (Nat.le_refl _) (An c.type) (An c.type) [(p,1),(q,1)] (Me c p q) (by omega) hm hm (E0 _ _) w1 hb (by simp) (by omega);exact ⟨hS v1,v2⟩
set_option maxHeartbeats 2000000 in
theorem Zd (c:Cse) (a b:Int):Al Tryz.prog 19 [.agg (dCse c),.int .i64 a,.int .i64 b] (bif Bl c&&CJ c a&&CJ c b then Jt (Wk c a b) else .tup [.agg (dTyc zT),.int .i64 2]):=by
 have hW:=EY c;have hF:=GJ (AM c (AX (D7 c.datas))) c.type;have hT:=λrow=>Po c row;have hT:∀row,Al Tryz.prog 67 [.agg (dCse c),.int .i64 row] (.bool (CJ c row)):=λrow=>hT row;cases hb:Bl c with
 | false =>
  rw [hb] at hW;obtain ⟨ds,⟨c1,c2,c3,c4⟩,rows⟩:=c;refine Ae Ak Tryz.func19 (by decide +kernel) rfl [1,2,3,4] rfl rfl ?_;refine mg [] rfl (by simp) ?_;refine Ac rfl (λ_=>hW) (by simp) ?_;refine mg [] rfl (by simp) ?_;refine Ac (v:=.bool true) rfl (λh=>by simp [Ag] at h) (by simp [Ag]) ?_;refine mg [] rfl (by simp) ?_;refine Ac (v:=.bool true) rfl (λh=>by simp [Ag] at h) (by simp [Ag]) ?_;refine mg [] rfl (by simp) ?_;refine Aa rfl (λh=>?_) (λh=>by simp at h);refine md [] rfl (by simp) ?_;exact Ab ⟨_,rfl,tV rfl,trivial⟩
 | true =>
 rw [hb] at hW;have ha:=hT a;have hbb:=hT b;cases hta:CJ c a with
 | false =>
  rw [hta] at ha;obtain ⟨ds,⟨c1,c2,c3,c4⟩,rows⟩:=c;refine Ae Ak Tryz.func19 (by decide +kernel) rfl [1,2,3,4] rfl rfl ?_;refine mg [] rfl (by simp) ?_;refine Ac rfl (λ_=>hW) (by simp) ?_;refine mg [] rfl (by simp) ?_;refine Ac rfl (λ_=>ha) (by simp [Ag]) ?_;refine mg [] rfl (by simp) ?_;refine Ac (v:=.bool true) rfl (λh=>by simp [Ag] at h) (by simp [Ag]) ?_;refine mg [] rfl (by simp) ?_;refine Aa rfl (λh=>?_) (λh=>by simp at h);refine md [] rfl (by simp) ?_;exact Ab ⟨_,rfl,tV rfl,trivial⟩
 | true =>
 rw [hta] at ha;cases htb:CJ c b with
 | false =>
  rw [htb] at hbb;obtain ⟨ds,⟨c1,c2,c3,c4⟩,rows⟩:=c;refine Ae Ak Tryz.func19 (by decide +kernel) rfl [1,2,3,4] rfl rfl ?_;refine mg [] rfl (by simp) ?_;refine Ac rfl (λ_=>hW) (by simp) ?_;refine mg [] rfl (by simp) ?_;refine Ac rfl (λ_=>ha) (by simp [Ag]) ?_;refine mg [] rfl (by simp) ?_;refine Ac rfl (λ_=>hbb) (by simp [Ag]) ?_;refine mg [] rfl (by simp) ?_;refine Aa rfl (λh=>?_) (λh=>by simp at h);refine md [] rfl (by simp) ?_;exact Ab ⟨_,rfl,tV rfl,trivial⟩
 | true =>
  rw [htb] at hbb;obtain ⟨r1,r2⟩:=K5 hta;obtain ⟨s1,s2⟩:=K5 htb;obtain ⟨p,hp⟩:=Am (l:=c.rows) (i:=a.toNat) (by omega);obtain ⟨q,hq⟩:=Am (l:=c.rows) (i:=b.toNat) (by omega);have er:Wk c a b=Me c p q:=by simp only [Wk,hp,hq]
  rw [er];obtain ⟨hL1,hL2⟩:=kE c hb p q (List.mem_of_getElem? hp) (List.mem_of_getElem? hq);have hFd:=Q2 (Me c p q) λv hv=>(hL2 v hv).2.2;clear hL2 er;simp only [Bool.and_self,cond_true];obtain ⟨a1,a2,a3,a4,b0,hfe⟩:=NX (Me c p q);rw [hfe] at hFd ⊢;generalize Me c p q=R at *;obtain ⟨ds,⟨c1,c2,c3,c4⟩,rows⟩:=c;simp only at hp hq;obtain ⟨p1,p2,p3,p4⟩:=p;obtain ⟨q1,q2,q3,q4⟩:=q;refine Ae Ak Tryz.func19 (by decide +kernel) rfl [1,2,3,4] rfl rfl ?_;refine mg [] rfl (by simp) ?_;refine Ac rfl (λ_=>hW) (by simp) ?_;refine mg [] rfl (by simp) ?_;refine Ac rfl (λ_=>ha) (by simp [Ag]) ?_;refine mg [] rfl (by simp) ?_;refine Ac rfl (λ_=>hbb) (by simp [Ag]) ?_;refine mg [] rfl (by simp) ?_
  refine Aa rfl (λh=>by simp at h) (λh=>?_);refine md [] rfl (by simp) ?_;refine Ce [] [(2,3)] [] (fr:=[3]) (nm:=[3]) rfl trivial (by simp) hF trivial rfl trivial rfl rfl rfl ?_;refine mg [] rfl (by simp) ?_;refine mi rfl (c:=dTyc (.mk p1 p2 p3 p4)) (λ_=>⟨r1,by simpa using Ax hp,by simp⟩) (by simp) ?_;refine mg [] rfl (by simp) ?_;refine mi rfl (c:=dTyc (.mk q1 q2 q3 q4)) (λ_=>⟨s1,by simpa using Ax hq,by simp⟩) (by simp) ?_;refine mg [] rfl (by simp) ?_;refine Ce [(3,1)] [] [] (fr:=[]) (nm:=[3]) rfl trivial (by simp) hL1 ⟨⟨rfl,rfl,rfl⟩,trivial⟩ rfl trivial rfl rfl rfl ?_;refine mg [] rfl (by simp) ?_;refine Ac rfl (λ_=>hFd) (by simp) ?_;refine mg [] rfl (by simp;rfl) ?_
  exact Ab ⟨_,rfl,tV rfl,trivial⟩
set_option maxHeartbeats 1000000 in
theorem KV (c:Cse):Al Tryz.prog 12 [.agg (dCse c)] (bif Bl c then .tup [.sl (AX (Bs c c.rows.length)),.int .i64 0] else .tup [.sl [],.int .i64 2]):=by
 have hW:=EY c;have hF:=GJ (AM c (AX (D7 c.datas))) c.type;cases hb:Bl c with
 | false =>
  rw [hb] at hW;obtain ⟨ds,⟨c1,c2,c3,c4⟩,rows⟩:=c;refine Ae Ak Tryz.func12 (by decide +kernel) rfl [1,2,3,4] rfl rfl ?_;refine mg [] rfl (by simp) ?_;refine Ac rfl (λ_=>hW) (by simp) ?_;refine mg [] rfl (by simp) ?_;refine Aa rfl (λh=>?_) (λh=>by simp at h);refine md [] rfl (by simp) ?_;exact Ab ⟨_,rfl,tV rfl,trivial⟩
 | true =>
  rw [hb] at hW;have hl:=(RowsOk.of hb).len;have hU:=λrow h1 h2=>Lc c (AX (D7 c.datas)) (RowsOk.of hb).len row h1 h2;have hL:=λrow=>(MN c hb 0 (by omega) _ _ (MOk.of hb) (MOk.of hb) (E0 _ _) row).1;have hst:∀i,Bs c (i+1)=Bs c i++(if (Dv c (An c.type) i).isSome then [] else [(i:Int)]):=λi=>rfl;have hul:=IP c;have h0:Bs c 0=[]:=rfl;simp only [cond_true];generalize Bs c=U at *;generalize Dv c (An c.type)=L at *;obtain ⟨ds,⟨c1,c2,c3,c4⟩,rows⟩:=c;simp only at hl hst hU ⊢;refine Ae Ak Tryz.func12 (by decide +kernel) rfl [1,2,3,4,5,6] rfl rfl ?_;refine mg [] rfl (by simp) ?_;refine Ac rfl (λ_=>hW) (by simp) ?_;refine mg [] rfl (by simp) ?_;refine Aa rfl (λh=>by simp at h) (λh=>?_)
  refine md [] rfl (by simp) ?_;refine CI (e:=3) (sz:=1) 6 2 (by decide) rfl ?_;have er:∀a b,AX (a++b)=AX a++AX b:=λa b=>by simp [AX]
  refine Aj (λi:Nat=>[(19,.imm (.int .i64 i)),(18,.imm (.int .i64 rows.length)),(6,.own 2 (AX (U i)).length),(4,.imm (AM ⟨ds,.mk c1 c2 c3 c4,rows⟩ (AX (D7 ds)))),(1,.ref 1 0)]) (λi=>[(1,some (.immb 29 6 (dCse ⟨ds,.mk c1 c2 c3 c4,rows⟩))),(2,some (.row 3 1 (AX (U i))))]) [3,4,5,6] (λi=>rows.length-i)
   (λi=>i<=rows.length) 0 (Nat.zero_le _) ⟨rfl,As (by simp),by rw [h0];rfl,rfl,rfl,trivial⟩ ⟨rfl,by rw [h0];rfl,trivial⟩ rfl λi hi ih=>?_
  refine md [] rfl (by simp) ?_;refine Aa rfl (λh=>?_) (λh=>?_)
  ·simp at h;have hUi:=hU i (by omega) (by omega);have hLi:=hL i;have hih:=ih (i+1) (by omega) (by omega);rw [hst,er] at hih;have hll:(AX (U i)).length<=5:=by have:=hul i;simp;omega
   generalize AX (U i)=l at *;refine md [] rfl (by simp) ?_;refine Ay (fr:=[3]) [] [(2,3)] rfl (by simp) hF trivial rfl rfl rfl rfl ?_;refine mg [] rfl (by simp) ?_;refine Ac rfl (λ_=>hUi) (by simp) ?_;refine mg [] rfl (by simp) ?_;refine Ay (fr:=[]) [(3,1)] [] rfl (by simp) hLi ⟨⟨rfl,rfl,rfl⟩,trivial⟩ rfl rfl rfl rfl ?_;cases hLv:L i with
   | none =>
    rw [hLv] at hih;simp only [Option.isSome_none,Bool.false_eq_true,if_false] at hih;refine mg [] rfl (by simp) ?_;refine Aa rfl (λh=>?_) (λh=>by simp at h);refine md [] rfl (by simp) ?_;refine BC Ak rfl ⟨by simp,by simp [maxLen] at hll ⊢;omega,by simp at hll ⊢;omega,trivial⟩ ?_;refine mg [] rfl (by simp) ?_;refine A4 2 4 rfl ?_;exact Ad hih ⟨As (B9 (by omega) (by omega)),rfl,by simp only [List.length_append];rfl,rfl,rfl,trivial⟩ ⟨rfl,rfl,trivial⟩ rfl
   | some v =>
    rw [hLv] at hih;simp only [Option.isSome_some,if_true,show AX []=[] from rfl,List.append_nil] at hih;obtain ⟨v1,v2,v3,v4⟩:=v;refine mg [] rfl (by simp) ?_;refine Aa rfl (λh=>by simp at h) (λh=>?_);refine md [] rfl (by simp) ?_;exact Ad hih ⟨As (B9 (by omega) (by omega)),rfl,rfl,rfl,rfl,trivial⟩ ⟨rfl,rfl,trivial⟩ rfl
  ·simp at h;refine Ar rfl ?_;refine BD 2 rfl ?_;refine md [] rfl (by simp) ?_;rw [show i=rows.length by omega];exact Ab ⟨_,rfl,tV rfl,trivial⟩
theorem grtW.of {c:Cse} (h:Bl c=true):grtW c.datas:=by
 simp only [Bl,HC,Bool.and_eq_true] at h;obtain ⟨h1,_⟩:=IY h.1.1.1.1;intro d hd k hk;simp only [Hn,Bool.and_eq_true,List.all_eq_true] at h1;have hd:=h1.1.2 d hd;simp only [EK,Bool.and_eq_true,List.all_eq_true] at hd;have hk:=hd.2 k hk;simp only [J4,Bool.and_eq_true] at hk;exact hk.1.1
theorem jB {ds:List Dt} {t v:Ty} (h:FZ ds t v) (h1:Ai v<=20000) (h2:EJ v<=100):Oo v=true:=by
 simp only [Oo,h.2,Bool.and_true,decide_eq_true_eq];exact (Pd v 20000 100).1.2 ⟨by omega,by omega⟩
theorem iO {c:Cse} {v:Ty} (h1:Oo v=true) (h2:Ki c.datas c.type v=true):FZ c.datas c.type v:=by
 simp only [Oo,Bool.and_eq_true] at h1;exact ⟨h2,h1.2⟩
def YG (c:Cse) (S:Ty->Prop) (r:Option Ty):Prop:=GF c.datas (λv=>FZ c.datas c.type v/\S v) r/\∀v,r=some v->Oo v=true/\Ki c.datas c.type v=true
theorem Tn {c:Cse} (h:Bl c=true) {l:List (Ty×Int)} (hr:Ir c.datas c.type l) (hb:∀y∈l,y.2=0\/y.2=1) (hc:EW l<60) (hn:GX (l.map (·.1))<=30):YG c (Km l) (FY c.datas (An c.type) l):=by
 have ho:=OkW.of h;have hm:=MOk.of h;have hnt:=US c.datas c.type;obtain ⟨v1,v2⟩:=K6 ho (by omega) hm hr hc;have hmin:=W7 ho (grtW.of h) (Dc h).2.2.1 60 0 _ l _ (by omega) hm hnt hr hb v1;refine ⟨Es (λv=>by rw [LE]) hmin,λv hv=>?_⟩;rw [hv] at v1 hmin;obtain ⟨b1,b2⟩:=To ho 60 0 _ l v (l.map (·.1)) (by omega) hm (SR _ _) (λx hx=>List.mem_map_of_mem hx) hr v1;have hok:=LE.1 hmin.1.1;exact ⟨jB hok (by omega) (by omega),hok.1⟩
theorem UQ (a b:List Ty):GX (a++b)=GX a+GX b:=by
 induction a with
 | nil=>simp [GX]
 | cons p r ih=>simp only [List.cons_append,GX,ih];omega
theorem T6 (b:Int) (l:List Ty):(l.map (·,b)).map (·.1)=l:=by
 induction l with
 | nil=>rfl
 | cons x r ih=>simp only [List.map_cons,ih]
theorem bR (rows:List Ty) (row:Int):(Ei rows row).map (·.1)=rows\/∃k:Nat,(Ei rows row).map (·.1)=rows.take k:=by
 unfold Ei
 split
 ·left;exact T6 0 rows
 ·right;cases hp:rows[row.toNat]? with
  | none=>exact ⟨row.toNat,by simp only [List.append_nil,T6]⟩
  | some p=>exact ⟨row.toNat+1,by simp only [List.map_append,T6,List.map_cons,List.map_nil,Be hp]⟩
theorem ZO {c:Cse} (h:Bl c=true) (row:Int):YG c (Km (Ei c.rows row)) (Dv c (An c.type) row):=by
 have hr:=RowsOk.of h;obtain ⟨w1,w2⟩:=XW hr row;refine Tn h w1 (bS _ _) w2 ?_;have hs:=hr.sum;have hall:=WR c.rows;rcases bR c.rows row with e | ⟨k,e⟩
 ·rw [e];omega
 ·rw [e];have:=UQ (c.rows.take k) (c.rows.drop k);rw [List.take_append_drop] at this;omega
theorem SG (v:Ty):∀(rows:List Ty) (i:Nat),Bk v i rows = -1↔∀p∈rows,(Bf p v).2=false
 | [],i=>by simp [Bk]
 | p::r,i=>by
  simp only [Bk,List.mem_cons,forall_eq_or_imp];cases hm:(Bf p v).2 with
  | true=>simp
  | false=>simp only [cond_false,true_and];exact SG v r (i+1)
theorem Q3 (v:Ty):∀(rows:List Ty) (i:Nat),Bk v i rows = -1\/(i:Int)<=Bk v i rows
 | [],i=>.inl rfl
 | p::r,i=>by
  simp only [Bk];cases (Bf p v).2 with
  | true=>right;simp
  | false =>
   simp only [cond_false];rcases Q3 v r (i+1) with h | h
   ·exact .inl h
   ·right;omega
theorem V9 (v:Ty):∀(rows:List Ty) (i k:Nat) (p:Ty),rows[k]?=some p->(Bk v i rows=((i+k:Nat):Int)↔(∀q∈rows.take k,(Bf q v).2=false)/\(Bf p v).2=true)
 | [],i,k,p,h=>by simp at h
 | x::r,i,0,p,h=>by
  simp at h;subst h;have hg:=Q3 v r (i+1);simp only [Bk,List.take_zero,List.not_mem_nil,false_implies,implies_true,true_and];cases hm:(Bf x v).2 with
  | true=>simp
  | false =>
   simp only [cond_false,Bool.false_eq_true,iff_false];intro e;rcases hg with h | h <;> omega
 | x::r,i,k+1,p,h=>by
  have ih:=V9 v r (i+1) k p (by simpa using h);simp only [Bk,List.take_succ_cons,List.mem_cons,forall_eq_or_imp];cases hm:(Bf x v).2 with
  | true =>
   simp only [cond_true,Bool.true_eq_false,false_and,iff_false];omega
  | false =>
   simp only [cond_false,true_and];rw [<- ih];rw [show i+(k+1)=i+1+k by omega]
theorem X8 (v:Ty) (rows:List Ty) (row:Int) (h1 : -1<=row) (h2:row<rows.length):Km (Ei rows row) v↔Bk v 0 rows=row:=by
 have hmap:∀l:List Ty,Km (l.map (·,(0:Int))) v↔∀p∈l,(Bf p v).2=false:=λl=>by
  simp only [Km,List.mem_map,forall_exists_index,and_imp,forall_apply_eq_imp_iff₂];constructor
  ·intro h p hp;have:=h p hp;cases e:(Bf p v).2 with
   | false=>rfl
   | true=>have:=this.1 e;omega
  ·intro h p hp;rw [h p hp];simp
 by_cases h0:row<0
 ·rw [R6 rows h0,hmap,show row = -1 by omega,SG]
 ·obtain ⟨k,rfl⟩:∃k:Nat,row=k:=⟨row.toNat,by omega⟩
  obtain ⟨p,hp⟩:=Am (l:=rows) (i:=k) (by omega);rw [OZ rows k hp];have:=V9 v rows 0 k p hp;rw [Nat.zero_add] at this;rw [this,<- hmap];constructor
  ·intro h;exact ⟨λx hx=>h x (List.mem_append_left _ hx),(h (p,1) (by simp)).2 rfl⟩
  ·rintro ⟨a,b⟩ x hx;rcases List.mem_append.1 hx with hx | hx
   ·exact a x hx
   ·rw [List.mem_singleton.1 hx];simp [b]
end Go.Hk
namespace Go.Hk
section
variable {P:Program} {n:Nat} {F:List Nat} {Q:DQ} {tt:TT} {env env':Env} {st st':St} {ids ids':List Nat} {k todo todo':List DI} {I:Imm} {μ:Mu} {w w':World} {a:Act}
theorem Fx:∀{ds:List D} {xs:List V},Ez ds=some xs->ds.length=xs.length
 | [],xs,h=>by cases h;rfl
 | d::r,xs,h=>by
  unfold Ez at h
  split at h
  ·rename_i e;cases e
  ·rename_i x r' e;cases e
   split at h
   ·rename_i ys hy;cases h;simp [Fx hy]
   ·cases h
  ·rename_i r' e;cases e
   split at h
   ·rename_i ys hy;cases h;simp [Fx hy]
   ·cases h
  ·cases h
theorem gH (k:Nat) {t:TypeId} {sz:Nat} {ds:List D} (xs:List V) (hk:lk st k=some (some (.cells t sz ds))) (hcl:Ez ds=some xs) (h:DGo P n F Q todo env ((k,some (.immb t sz xs))::st) ids):DGo P n F Q todo env st ids:=by
 refine Ds λI μ a w hc=>?_;obtain ⟨p1,p2⟩:=hc.toStRep.retell (st1:=(k,some (.immb t sz xs))::st) (λi bb hlb=>by
  rcases Av.1 hlb with ⟨rfl,rfl⟩ | ⟨_,h2⟩
  ·refine ⟨_,hk,λgb hb=>?_⟩;obtain ⟨hs,b,us,e1,e2,e3,e4⟩:=hb;exact ⟨by rw [<- Fx hcl,hs],b,us,e1,e2,Ed hcl e3,e4⟩
  ·exact ⟨bb,h2,λ_ h=>h⟩)
 exact ⟨I,μ,env,_,ids,p1,hc.env,p2,.refl _ _,h⟩
end
end Go.Hk
namespace Go.Hk
open Go.Proofs
def LA (row:Int):List V:=[.int .i64 row,.sl [],.sl [],.sl []]
@[simp] theorem leafV_length (row:Int):(LA row).length=4:=rfl
theorem X0 (row:Int):Al Tryz.prog 134 [.agg (LA row),.int .i64 400,.int .i64 100] (.int .i64 399):=by
 refine Ae Ak Tryz.func134 (by decide +kernel) rfl [1,2,3] rfl rfl ?_;refine mg [] rfl (by simp) ?_;refine Aa rfl (λh=>by simp at h) (λh=>?_);refine md [] rfl (by simp) ?_;refine Aj (λ_:Unit=>[(20,.imm (.int .i64 0)),(19,.imm (.int .i64 0)),(1,.imm (.int .i64 399))]) (λ_=>[]) [2,3] (λ_=>0) (λ_=>True) () trivial ⟨rfl,rfl,As rfl,trivial⟩ trivial rfl λ_ _ _=>?_;refine md [] rfl (by simp) ?_;refine Aa rfl (λh=>by simp at h) (λh=>?_);refine Ar rfl ?_;refine md [] rfl (by simp) ?_;exact Ab ⟨_,rfl,tV rfl,trivial⟩
theorem WB (c:Cse) (sz:List (List V)) (row:Int) (m:Mi):AV Tryz.prog 135 [.imm (AM c sz),.imm (.agg (LA row)),.hv 1 0] [(1,some (.hp (H2 m)))] (.ret (.imm (.bool (decide (-1<=row)&&decide (row<c.rows.length)))) []):=by
 obtain ⟨ds,⟨c1,c2,c3,c4⟩,rows⟩:=c;refine Ae Ak Tryz.func135 (by decide +kernel) rfl [2,3,4,5] rfl rfl ?_;refine md [] rfl (by simp) ?_;refine Aa rfl (λh=>?_) (λh=>by exfalso;simp at h;exact h (by decide));refine md [] rfl (by simp;rfl) ?_;refine Ab ⟨_,rfl,tV (congrArg _ ?_),trivial⟩;simp
theorem Tz (c:Cse) (hb:Bl c=true) (row:Int) (h1 : -1<=row) (h2:row<c.rows.length):Al Tryz.prog 87 [.agg (dCse c),.agg (LA row)] (.tup [AM c (AX (D7 c.datas)),.int .i64 0]):=by
 have hW:=EY c;rw [hb] at hW;have hF:=GJ (AM c (AX (D7 c.datas))) c.type;have hH:=X0 row;have hR:=WB c (AX (D7 c.datas)) row (An c.type);rw [show (decide (-1<=row)&&decide (row<c.rows.length))=true by simp [h1,h2]] at hR;obtain ⟨ds,⟨c1,c2,c3,c4⟩,rows⟩:=c;refine Ae Ak Tryz.func87 (by decide +kernel) rfl [1,2,3,4] rfl rfl ?_;refine mg [] rfl (by simp) ?_;refine Ac rfl (λ_=>hW) (by simp) ?_;refine mg [] rfl (by simp) ?_;refine Ac rfl (λ_=>hH) (by simp [Ag]) ?_;refine mg [] rfl (by simp) ?_;refine Ce [] [(2,3)] [] (fr:=[3]) (nm:=[3]) rfl rfl (by simp [Ag]) hF trivial rfl trivial rfl rfl rfl ?_;refine mg [] rfl (by simp) ?_
 refine Ce [(3,1)] [] [] (fr:=[]) (nm:=[3]) rfl rfl (by simp [Ag]) hR ⟨⟨rfl,rfl,rfl⟩,trivial⟩ rfl trivial rfl rfl rfl ?_;refine mg [] rfl (by simp;rfl) ?_;refine Aa rfl (λh=>by simp at h) (λh=>?_);refine md [] rfl (by simp) ?_;exact Ab ⟨_,rfl,tV rfl,trivial⟩
def DN (c:Cse) (row:Int):Nat->Option Ty
 | 0=>none
 | k+1=>if (k:Int)-1=row then DN c row k else Hg c.datas (DN c row k) (Dv c (An c.type) ((k:Int)-1))
theorem Lh {c:Cse} (h:Bl c=true) (row:Int):∀k v,DN c row k=some v->Ny c.datas c.type v
 | 0,v,hv=>by cases hv
 | k+1,v,hv=>by
  simp only [DN] at hv
  split at hv
  ·exact Lh h row k v hv
  ·rcases Tk (ds:=c.datas) (DN c row k) (Dv c (An c.type) ((k:Int)-1)) with e | e
   ·exact Lh h row k v (by rw [<- e];exact hv)
   ·exact (MN c h 0 (by omega) _ _ (MOk.of h) (MOk.of h) (E0 _ _) _).2 v (by rw [<- e];exact hv)
set_option maxHeartbeats 2000000 in
theorem Wn (c:Cse) (hb:Bl c=true) (row:Int):AV Tryz.prog 99 [.imm (AM c (AX (D7 c.datas))),.imm (.agg (LA row)),.hv 1 0] [(1,some (.hp (H2 (An c.type))))] (.ret (.imm (.agg (FQ (DN c row (c.rows.length+1))))) []):=by
 have hl:=(RowsOk.of hb).len;have hU:=λrow h1 h2=>Lc c (AX (D7 c.datas)) (RowsOk.of hb).len row h1 h2;have hL:=λrow=>(MN c hb 0 (by omega) _ _ (MOk.of hb) (MOk.of hb) (E0 _ _) row).1;have hLv:=λrow=>(MN c hb 0 (by omega) _ _ (MOk.of hb) (MOk.of hb) (E0 _ _) row).2;have hcp:=λx=>OS c.datas 0 (by omega) (An c.type) x (MOk.of hb).wf;have hsv:=Lh hb row;have hso:=λa b ha hbb=>RN c (AX (D7 c.datas)) (OkW.of hb) (Dc hb).2.2.1 a b ha hbb;have hok:∀v,Ny c.datas c.type v->Yu c v:=λv h=>PI rfl h;have hst:∀k,DN c row (k+1)=if (k:Int)-1=row then DN c row k else Hg c.datas (DN c row k) (Dv c (An c.type) ((k:Int)-1)):=λk=>rfl
 have h0:DN c row 0=none:=rfl;generalize DN c row=S at *;generalize An c.type=fr at *;generalize Dv c fr=L at *;obtain ⟨ds,⟨c1,c2,c3,c4⟩,rows⟩:=c;simp only at hl hU hst hsv hLv hso ⊢;refine Ae Ak Tryz.func99 (by decide +kernel) rfl [2,3,4,5,6,7,8,9,10] rfl rfl ?_;refine Jy 1 2 (λob:Nat=>[ptr ob]) (λob=>AW fr ob) rfl (λvs I w bs h=>let ⟨ob,F,e1,e2,e3⟩:=h;⟨ob,e1,F,e2,e3⟩) λob=>?_;refine md [] rfl (by simp) ?_;refine Aa rfl (λh=>?_) (λh=>by exfalso;simp at h);refine md [] rfl (by simp) ?_;refine gH 5 [.int .i64 0,.int .i64 0,.str [],.sl [],.bool false] rfl rfl ?_
 refine Aj (λk:Nat=>[(8,.imm (.int .i64 ((k:Int)-1))),(7,.ref 5 0),(6,.ref 4 0),(4,.ref 3 0),(2,.raw (ptr ob)),(0,.imm (AM ⟨ds,.mk c1 c2 c3 c4,rows⟩ (AX (D7 ds))))])
  (λk=>[(5,some (.immb 107 5 (FQ (S k)))),(3,some (.immb 68 4 (LA row))),(4,some (.cells 107 5 [.imm (.int .i64 0),.imm (.int .i64 0),.imm (.str []),.nils,.imm (.bool false)])),(2,some (.hp (AW fr ob)))]) [6,7,8,9,10] (λk=>rows.length+1-k)
  (λk=>k<=rows.length+1) 0 (Nat.zero_le _) ⟨As (by simp),rfl,rfl,rfl,rfl,rfl,trivial⟩ ⟨by rw [h0];rfl,rfl,rfl,rfl,trivial⟩ rfl λk hk ih=>?_
 refine md [] rfl (by simp) ?_;refine Aa rfl (λh=>?_) (λh=>?_)
 ·have hlt:(k:Int)-1<rows.length:=by simpa using h
  have hih:=ih (k+1) (by omega) (by omega);have hrf:=G3 (S k);refine md [] rfl (by simp) ?_;by_cases e:(k:Int)-1=row
  ·refine Aa rfl (λh=>by exfalso;simp [e] at h) (λh=>?_);refine md [] rfl (by simp) ?_;rw [hst k,if_pos e] at hih;exact Ad hih ⟨As (by rw [B9 (by omega) (by omega)];omega),rfl,rfl,rfl,rfl,rfl,trivial⟩ ⟨rfl,rfl,rfl,rfl,trivial⟩ rfl
  ·refine Aa rfl (λh=>?_) (λh=>by exfalso;simp at h;exact e h);have hUi:=hU ((k:Int)-1) (by omega) hlt;have hLi:=hL ((k:Int)-1);have hsoi:=hso (S k) (L ((k:Int)-1)) (λv hv=>hok v (hsv k v hv)) (λv hv=>hok v (hLv _ v hv));rw [hst k,if_neg e] at hih;generalize L ((k:Int)-1)=Lk at *;generalize S k=Sk at *;generalize Hg ds Sk Lk=R at *;refine md [] rfl (by simp) ?_;refine Ce [(2,1)] [(3,6),(2,7)] [] (fr:=[6,7]) (nm:=[6,7,2]) rfl trivial (by simp) (hcp ob) ⟨⟨rfl,rfl,rfl⟩,trivial⟩ rfl trivial rfl rfl rfl ?_;refine mg [] rfl (by simp) ?_;refine Ac rfl (λ_=>hUi) (by simp) ?_;refine mg [] rfl (by simp) ?_
   refine Ce [(7,1)] [] [] (fr:=[]) (nm:=[7]) rfl trivial (by simp) hLi ⟨⟨rfl,rfl,rfl⟩,trivial⟩ rfl trivial rfl rfl rfl ?_;refine mg [] rfl (by simp) ?_;refine Ac rfl (λ_=>hsoi) (by simp) ?_;refine mg [] rfl (by simp;rfl) ?_;refine A4 6 2 rfl ?_;exact Ad hih ⟨As (by rw [B9 (by omega) (by omega)];omega),rfl,rfl,rfl,rfl,rfl,trivial⟩ ⟨rfl,rfl,rfl,rfl,trivial⟩ rfl
 ·have hlt:¬(k:Int)-1<rows.length:=by simpa using h
  have hrf:=G3 (S k);refine Ar rfl ?_;rw [show rows.length+1=k by omega];refine md [] rfl (by simp) ?_;exact Ab ⟨_,rfl,tV rfl,trivial⟩
set_option maxHeartbeats 1000000 in
theorem On (c:Cse) (hb:Bl c=true) (row:Int) (h1 : -1<=row) (h2:row<c.rows.length):Al Tryz.prog 50 [.agg (dCse c),.agg (LA row)] (.tup [.agg (dTyc ((DN c row (c.rows.length+1)).getD zT)),.int .i64 (if (DN c row (c.rows.length+1)).isSome then 7 else 0)]):=by
 have hP:=Tz c hb row h1 h2;have hF:=GJ (AM c (AX (D7 c.datas))) c.type;have hA:=Wn c hb row;have hv:=Lh hb row (c.rows.length+1);generalize DN c row (c.rows.length+1)=R at *;cases R with
 | none =>
  obtain ⟨ds,⟨c1,c2,c3,c4⟩,rows⟩:=c;refine Ae Ak Tryz.func50 (by decide +kernel) rfl [1,2,3,4,5,6] rfl rfl ?_;refine mg [] rfl (by simp) ?_;refine Ac rfl (λ_=>hP) (by simp) ?_;refine mg [] rfl (by simp) ?_;refine Aa rfl (λh=>by simp at h) (λh=>?_);refine md [] rfl (by simp) ?_;refine Ce [] [(2,4)] [] (fr:=[4]) (nm:=[4]) rfl trivial (by simp) hF trivial rfl trivial rfl rfl rfl ?_;refine mg [] rfl (by simp) ?_;refine Ce [(4,1)] [] [] (fr:=[]) (nm:=[4]) rfl trivial (by simp) hA ⟨⟨rfl,rfl,rfl⟩,trivial⟩ rfl trivial rfl rfl rfl ?_;refine mg [] rfl (by simp;rfl) ?_;refine Aa rfl (λh=>?_) (λh=>by simp at h);refine md [] rfl (by simp) ?_;exact Ab ⟨_,rfl,tV rfl,trivial⟩
 | some v =>
  have hc:=IE v (hv v rfl).2.2;obtain ⟨v1,v2,v3,v4⟩:=v;obtain ⟨ds,⟨c1,c2,c3,c4⟩,rows⟩:=c;refine Ae Ak Tryz.func50 (by decide +kernel) rfl [1,2,3,4,5,6] rfl rfl ?_;refine mg [] rfl (by simp) ?_;refine Ac rfl (λ_=>hP) (by simp) ?_;refine mg [] rfl (by simp) ?_;refine Aa rfl (λh=>by simp at h) (λh=>?_);refine md [] rfl (by simp) ?_;refine Ce [] [(2,4)] [] (fr:=[4]) (nm:=[4]) rfl trivial (by simp) hF trivial rfl trivial rfl rfl rfl ?_;refine mg [] rfl (by simp) ?_;refine Ce [(4,1)] [] [] (fr:=[]) (nm:=[4]) rfl trivial (by simp) hA ⟨⟨rfl,rfl,rfl⟩,trivial⟩ rfl trivial rfl rfl rfl ?_;refine mg [] rfl (by simp;rfl) ?_;refine Aa rfl (λh=>by simp at h) (λh=>?_);refine md [] rfl (by simp) ?_
  refine Ac rfl (λ_=>hc) (by simp) ?_;refine mg [] rfl (by simp) ?_;exact Ab ⟨_,rfl,tV rfl,trivial⟩
def Ln:Str:=[84,114,101,101]
def Cy:Str:=[76,101,97,102]
def IV:Str:=[78,111,100,101]
def H6:Str:=[84,119,111]
def Lm:Str:=[86,111,105,100]
def mE:Str:=[79,112,116]
def Ye:Str:=[78,111,110,101]
def kT:Str:=[83,111,109,101]
def O0 (s:Str):Ty:=.mk 8 0 s []
def Ry (s:Str) (l:List Ty):Ty:=.mk 6 0 s l
def DU (s:Str) (l:List Ty):Ty:=.mk 4 0 s l
def Mn:Ty:=.mk 1 0 [] []
def ZG (s:Str):Ty:=.mk 2 0 s []
def fF (n:Int):Ty:=.mk 3 n [] []
def H3 (n:Int):Ty:=.mk 4 n [] []
def aH (n:Int):Ty:=.mk 1 n [] []
def FP (n:Int):Ty:=.mk 2 n [] []
def gR:Ty:=.mk 2 0 [] []
def cA:Cse:=⟨[⟨Ln,[⟨Cy,[]⟩,⟨IV,[O0 Ln,.mk 1 0 [] [],O0 Ln]⟩]⟩],O0 Ln,[Ry IV [Ry Cy [],fF 0,ZG [120]],Ry IV [ZG [121],fF 1,Mn],Ry Cy []]⟩
def cB:Cse:=⟨[⟨H6,[⟨H6,[gR,gR]⟩]⟩],O0 H6,[Ry H6 [H3 1,Mn],Ry H6 [Mn,H3 1],Ry H6 [H3 0,H3 0],ZG [122]]⟩
def cC:Cse:=⟨[⟨Lm,[⟨Lm,[O0 Lm]⟩]⟩,⟨mE,[⟨Ye,[]⟩,⟨kT,[O0 Lm]⟩]⟩],O0 mE,[Ry Ye []]⟩
def cD (l:List Ty):Cse:=⟨[],gR,l⟩
theorem MX (s:Str) (l:List Ty):Al Tryz.prog 93 [.str s,.sl (AT l)] (.agg (Dy ⟨s,l⟩)):=by
 refine Ae Ak Tryz.func93 (by decide +kernel) rfl [1,2,3] rfl rfl ?_;refine mg [] rfl (by simp) ?_;exact Ab ⟨_,rfl,tV rfl,trivial⟩
theorem GP (s:Str):Al Tryz.prog 94 [.str s] (.agg (dTyc (O0 s))):=by
 refine Ae Ak Tryz.func94 (by decide +kernel) rfl [1,2,3] rfl rfl ?_;refine mg [] rfl (by simp) ?_;exact Ab ⟨_,rfl,tV rfl,trivial⟩
theorem Hz (s:Str) (l:List Ty):Al Tryz.prog 95 [.str s,.sl (AT l)] (.agg (dTyc (Ry s l))):=by
 refine Ae Ak Tryz.func95 (by decide +kernel) rfl [1,2,3] rfl rfl ?_;refine mg [] rfl (by simp) ?_;exact Ab ⟨_,rfl,tV rfl,trivial⟩
theorem F4 (s:Str) (l:List Ty):Al Tryz.prog 45 [.str s,.sl (AT l)] (.agg (dTyc (DU s l))):=by
 refine Ae Ak Tryz.func45 (by decide +kernel) rfl [1,2,3] rfl rfl ?_;refine mg [] rfl (by simp) ?_;exact Ab ⟨_,rfl,tV rfl,trivial⟩
theorem O6:Al Tryz.prog 53 [] (.agg (dTyc Mn)):=by
 refine Ae Ak Tryz.func53 (by decide +kernel) rfl [1,2,3] rfl rfl ?_;refine mg [] rfl (by simp) ?_;exact Ab ⟨_,rfl,tV rfl,trivial⟩
theorem PV (s:Str):Al Tryz.prog 97 [.str s] (.agg (dTyc (ZG s))):=by
 refine Ae Ak Tryz.func97 (by decide +kernel) rfl [1,2,3] rfl rfl ?_;refine mg [] rfl (by simp) ?_;exact Ab ⟨_,rfl,tV rfl,trivial⟩
theorem Sg (n:Int):Al Tryz.prog 96 [.int .i64 n] (.agg (dTyc (fF n))):=by
 refine Ae Ak Tryz.func96 (by decide +kernel) rfl [1,2,3] rfl rfl ?_;refine mg [] rfl (by simp) ?_;exact Ab ⟨_,rfl,tV rfl,trivial⟩
theorem HI (n:Int):Al Tryz.prog 52 [.int .i64 n] (.agg (dTyc (H3 n))):=by
 refine Ae Ak Tryz.func52 (by decide +kernel) rfl [1,2,3] rfl rfl ?_;refine mg [] rfl (by simp) ?_;exact Ab ⟨_,rfl,tV rfl,trivial⟩
theorem R7 (n:Int):Al Tryz.prog 46 [.int .i64 n] (.agg (dTyc (aH n))):=by
 refine Ae Ak Tryz.func46 (by decide +kernel) rfl [1,2,3] rfl rfl ?_;refine mg [] rfl (by simp) ?_;exact Ab ⟨_,rfl,tV rfl,trivial⟩
theorem QS (n:Int):Al Tryz.prog 54 [.int .i64 n] (.agg (dTyc (FP n))):=by
 refine Ae Ak Tryz.func54 (by decide +kernel) rfl [1,2,3] rfl rfl ?_;refine mg [] rfl (by simp) ?_;exact Ab ⟨_,rfl,tV rfl,trivial⟩
theorem oX (l:List Ty):Al Tryz.prog 51 [.sl (AT l)] (.agg (dCse (cD l))):=by
 refine Ae Ak Tryz.func51 (by decide +kernel) rfl [1,2,3] rfl rfl ?_;refine mg [] rfl (by simp) ?_;exact Ab ⟨_,rfl,tV rfl,trivial⟩
theorem kN:Al Tryz.prog 44 [] (.agg (dCse cA)):=by
 refine Ae Ak Tryz.func44 (by decide +kernel) rfl [1,2,3] rfl rfl ?_;refine mg [] rfl (by simp) ?_;refine Ac rfl (λ_=>MX Cy []) (by simp) ?_;refine mg [] rfl (by simp) ?_;refine Ac rfl (λ_=>GP Ln) (by simp) ?_;refine mg [] rfl (by simp) ?_;refine Ac rfl (λ_=>GP Ln) (by simp) ?_;refine mg [] rfl (by simp) ?_;refine Ac rfl (λ_=>MX IV [O0 Ln,.mk 1 0 [] [],O0 Ln]) (by simp) ?_;refine mg [] rfl (by simp) ?_;refine Ac rfl (λ_=>Hz Cy []) (by simp) ?_;refine mg [] rfl (by simp) ?_;refine Ac rfl (λ_=>Sg 0) (by simp) ?_;refine mg [] rfl (by simp) ?_;refine Ac rfl (λ_=>PV [120]) (by simp) ?_;refine mg [] rfl (by simp) ?_;refine Ac rfl (λ_=>Hz IV [Ry Cy [],fF 0,ZG [120]]) (by simp) ?_
 refine mg [] rfl (by simp) ?_;refine Ac rfl (λ_=>PV [121]) (by simp) ?_;refine mg [] rfl (by simp) ?_;refine Ac rfl (λ_=>Sg 1) (by simp) ?_;refine mg [] rfl (by simp) ?_;refine Ac rfl (λ_=>O6) (by simp) ?_;refine mg [] rfl (by simp) ?_;refine Ac rfl (λ_=>Hz IV [ZG [121],fF 1,Mn]) (by simp) ?_;refine mg [] rfl (by simp) ?_;refine Ac rfl (λ_=>Hz Cy []) (by simp) ?_;refine mg [] rfl (by simp) ?_;refine Ac rfl (λ_=>GP Ln) (by simp) ?_;refine mg [] rfl (by simp;rfl) ?_;exact Ab ⟨_,rfl,tV rfl,trivial⟩
theorem kM:Al Tryz.prog 49 [] (.agg (dCse cB)):=by
 refine Ae Ak Tryz.func49 (by decide +kernel) rfl [1,2,3,4,5] rfl rfl ?_;refine mg [] rfl (by simp) ?_;refine Ac rfl (λ_=>HI 1) (by simp) ?_;refine mg [] rfl (by simp) ?_;refine Ac rfl (λ_=>O6) (by simp) ?_;refine mg [] rfl (by simp) ?_;refine Ac rfl (λ_=>Hz H6 [H3 1,Mn]) (by simp) ?_;refine mg [] rfl (by simp) ?_;refine Ac rfl (λ_=>O6) (by simp) ?_;refine mg [] rfl (by simp) ?_;refine Ac rfl (λ_=>HI 1) (by simp) ?_;refine mg [] rfl (by simp) ?_;refine Ac rfl (λ_=>Hz H6 [Mn,H3 1]) (by simp) ?_;refine mg [] rfl (by simp) ?_;refine Ac rfl (λ_=>HI 0) (by simp) ?_;refine mg [] rfl (by simp) ?_;refine Ac rfl (λ_=>HI 0) (by simp) ?_;refine mg [] rfl (by simp) ?_
 refine Ac rfl (λ_=>Hz H6 [H3 0,H3 0]) (by simp) ?_;refine mg [] rfl (by simp) ?_;refine Ac rfl (λ_=>PV [122]) (by simp) ?_;refine mg [] rfl (by simp) ?_;refine Ac rfl (λ_=>MX H6 [gR,gR]) (by simp) ?_;refine mg [] rfl (by simp) ?_;refine Ac rfl (λ_=>GP H6) (by simp) ?_;refine mg [] rfl (by simp) ?_;exact Ab ⟨_,rfl,tV rfl,trivial⟩
theorem C_ok:Al Tryz.prog 48 [] (.agg (dCse cC)):=by
 refine Ae Ak Tryz.func48 (by decide +kernel) rfl [1,2,3,4,5] rfl rfl ?_;refine mg [] rfl (by simp) ?_;refine Ac rfl (λ_=>GP Lm) (by simp) ?_;refine mg [] rfl (by simp) ?_;refine Ac rfl (λ_=>MX Lm [O0 Lm]) (by simp) ?_;refine mg [] rfl (by simp) ?_;refine Ac rfl (λ_=>MX Ye []) (by simp) ?_;refine mg [] rfl (by simp) ?_;refine Ac rfl (λ_=>GP Lm) (by simp) ?_;refine mg [] rfl (by simp) ?_;refine Ac rfl (λ_=>MX kT [O0 Lm]) (by simp) ?_;refine mg [] rfl (by simp) ?_;refine Ac rfl (λ_=>GP mE) (by simp) ?_;refine mg [] rfl (by simp) ?_;refine Ac rfl (λ_=>Hz Ye []) (by simp) ?_;refine mg [] rfl (by simp;rfl) ?_;exact Ab ⟨_,rfl,tV rfl,trivial⟩
def vA:Ty:=DU IV [DU Cy [],aH 0,DU Cy []]
def wA:Ty:=DU IV [DU Cy [],aH (-1),DU Cy []]
set_option maxRecDepth 100000
theorem kcA:Bl cA=true:=by kernel_rfl
theorem pD:Bl cB=true:=by kernel_rfl
theorem kcC:Bl cC=true:=by kernel_rfl
theorem kcD:Bl (cD [H3 1,H3 0])=true:=by kernel_rfl
theorem kcW:Bl (cD [Mn])=true:=by kernel_rfl
theorem mN:Al Tryz.prog 24 [.agg (dCse cA),.int .i64 0,.agg (dTyc vA)] (.tup [.sl [.str [120]::dTyc (DU Cy [])],.int .i64 0]):=by
 have h:=bH cA 0 vA (by decide);rw [show T4 cA 0 vA=([([120],DU Cy [])],0) by kernel_rfl] at h;exact h
theorem mO:Al Tryz.prog 47 [.agg (dCse cA),.agg (dTyc (DU Cy []))] (.tup [.int .i64 2,.int .i64 0]):=by
 have h:=Tb cA (DU Cy []);rw [show DR cA (DU Cy [])=true by kernel_rfl,show Bk (DU Cy []) 0 cA.rows=2 by kernel_rfl] at h;exact h
theorem mM:Al Tryz.prog 11 [.agg (dCse cA)] (.tup [.agg (dTyc wA),.int .i64 0]):=by
 have h:=IH cA;rw [kcA,show Dv cA (An cA.type) (-1)=some wA by kernel_rfl] at h;exact h
theorem mL:Al Tryz.prog 11 [.agg (dCse cC)] (.tup [.agg (dTyc zT),.int .i64 5]):=by
 have h:=IH cC;rw [kcC,show Dv cC (An cC.type) (-1)=none by kernel_rfl] at h;exact h
theorem oC:Al Tryz.prog 18 [.agg (dCse cB),.int .i64 1] (.tup [.agg (dTyc (DU H6 [FP 0,FP 1])),.int .i64 0]):=by
 have h:=Nl cB 1;rw [pD,show CJ cB 1=true by kernel_rfl,show Dv cB (An cB.type) 1=some (DU H6 [FP 0,FP 1]) by kernel_rfl] at h;exact h
theorem oB:Al Tryz.prog 18 [.agg (dCse cB),.int .i64 3] (.tup [.agg (dTyc zT),.int .i64 5]):=by
 have h:=Nl cB 3;rw [pD,show CJ cB 3=true by kernel_rfl,show Dv cB (An cB.type) 3=none by kernel_rfl] at h;exact h
theorem kUse:Al Tryz.prog 12 [.agg (dCse cB)] (.tup [.sl [[.int .i64 3]],.int .i64 0]):=by
 have h:=KV cB;rw [pD,show Bs cB cB.rows.length=[3] by kernel_rfl] at h;exact h
theorem mP:Al Tryz.prog 19 [.agg (dCse cB),.int .i64 0,.int .i64 1] (.tup [.agg (dTyc (DU H6 [FP 1,FP 1])),.int .i64 0]):=by
 have h:=Zd cB 0 1;rw [pD,show CJ cB 0=true by kernel_rfl,show CJ cB 1=true by kernel_rfl,show Wk cB 0 1=some (DU H6 [FP 1,FP 1]) by kernel_rfl] at h;exact h
theorem mQ:Al Tryz.prog 19 [.agg (dCse cA),.int .i64 0,.int .i64 1] (.tup [.agg (dTyc zT),.int .i64 5]):=by
 have h:=Zd cA 0 1;rw [kcA,show CJ cA 0=true by kernel_rfl,show CJ cA 1=true by kernel_rfl,show Wk cA 0 1=none by kernel_rfl] at h;exact h
theorem oD:Al Tryz.prog 50 [.agg (dCse (cD [H3 1,H3 0])),.agg (LA 1)] (.tup [.agg (dTyc (FP 1)),.int .i64 7]):=by
 have h:=On (cD [H3 1,H3 0]) kcD 1 (by decide) (by decide);rw [show DN (cD [H3 1,H3 0]) 1 ((cD [H3 1,H3 0]).rows.length+1)=some (FP 1) by kernel_rfl] at h;exact h
theorem oE:Al Tryz.prog 50 [.agg (dCse (cD [Mn])),.agg (LA 0)] (.tup [.agg (dTyc zT),.int .i64 0]):=by
 have h:=On (cD [Mn]) kcW 0 (by decide) (by decide);rw [show DN (cD [Mn]) 0 ((cD [Mn]).rows.length+1)=none by kernel_rfl] at h;exact h
theorem Sz (a b:Ty) (h:RU a b=true):Al Tryz.prog 38 [.agg (dTyc a),.agg (dTyc b)] (.bool true):=by
 have:=Wv a b;rw [h] at this;exact this
set_option maxHeartbeats 2000000 in
theorem ZU:Al Tryz.prog 10 [] (.bool true):=by
 refine Ae Ak Tryz.func10 (by decide +kernel) rfl [1,2,3,4,5,6,7,8,9,10,11,12] rfl rfl ?_;refine mg [] rfl (by simp) ?_;refine Ac rfl (λ_=>kN) (by simp) ?_;refine mg [] rfl (by simp) ?_;refine Ac rfl (λ_=>F4 Cy []) (by simp) ?_;refine mg [] rfl (by simp) ?_;refine Ac rfl (λ_=>R7 0) (by simp) ?_;refine mg [] rfl (by simp) ?_;refine Ac rfl (λ_=>F4 Cy []) (by simp) ?_;refine mg [] rfl (by simp) ?_;refine Ac rfl (λ_=>F4 IV [DU Cy [],aH 0,DU Cy []]) (by simp) ?_;refine mg [] rfl (by simp) ?_;refine Ac rfl (λ_=>mN) (by simp) ?_;refine mg [] rfl (by simp) ?_;refine Ac rfl (λ_=>kN) (by simp) ?_;refine mg [] rfl (by simp) ?_;refine Ac rfl (λ_=>F4 Cy []) (by simp) ?_;refine mg [] rfl (by simp) ?_
 refine Ac rfl (λ_=>mO) (by simp) ?_;refine mg [] rfl (by simp) ?_;refine Ac rfl (λ_=>kN) (by simp) ?_;refine mg [] rfl (by simp) ?_;refine Ac rfl (λ_=>mM) (by simp) ?_;refine mg [] rfl (by simp) ?_;refine Ac rfl (λ_=>C_ok) (by simp) ?_;refine mg [] rfl (by simp) ?_;refine Ac rfl (λ_=>mL) (by simp) ?_;refine mg [] rfl (by simp) ?_;refine Ac rfl (λ_=>kM) (by simp) ?_;refine mg [] rfl (by simp) ?_;refine Ac rfl (λ_=>oC) (by simp) ?_;refine mg [] rfl (by simp) ?_;refine Ac rfl (λ_=>kM) (by simp) ?_;refine mg [] rfl (by simp) ?_;refine Ac rfl (λ_=>oB) (by simp) ?_;refine mg [] rfl (by simp) ?_;refine Ac rfl (λ_=>kM) (by simp) ?_;refine mg [] rfl (by simp) ?_;refine Ac rfl (λ_=>kUse) (by simp) ?_
 refine mg [] rfl (by simp) ?_;refine Ac rfl (λ_=>kM) (by simp) ?_;refine mg [] rfl (by simp) ?_;refine Ac rfl (λ_=>mP) (by simp) ?_;refine mg [] rfl (by simp) ?_;refine Ac rfl (λ_=>kN) (by simp) ?_;refine mg [] rfl (by simp) ?_;refine Ac rfl (λ_=>mQ) (by simp) ?_;refine mg [] rfl (by simp) ?_;refine Ac rfl (λ_=>HI 1) (by simp) ?_;refine mg [] rfl (by simp) ?_;refine Ac rfl (λ_=>HI 0) (by simp) ?_;refine mg [] rfl (by simp) ?_;refine Ac rfl (λ_=>oX [H3 1,H3 0]) (by simp) ?_;refine mg [] rfl (by simp) ?_;refine Ac rfl (λ_=>oD) (by simp) ?_;refine mg [] rfl (by simp) ?_;refine Ac rfl (λ_=>O6) (by simp) ?_;refine mg [] rfl (by simp) ?_;refine Ac rfl (λ_=>oX [Mn]) (by simp) ?_
 refine mg [] rfl (by simp) ?_;refine Ac rfl (λ_=>oE) (by simp) ?_;refine mg [] rfl (by simp) ?_;refine Aa rfl (λh=>by simp at h) (λh=>?_);refine md [] rfl (by simp) ?_;refine mi rfl (c:=.str [120]::dTyc (DU Cy [])) (λ_=>⟨by simp,rfl,rfl⟩) (by simp [Ag]) ?_;refine mg [] rfl (by simp) ?_;refine mi rfl (c:=.str [120]::dTyc (DU Cy [])) (λ_=>⟨by simp,rfl,rfl⟩) (by simp [Ag]) ?_;refine mg [] rfl (by simp) ?_;refine Ac rfl (λ_=>F4 Cy []) (by simp) ?_;refine mg [] rfl (by simp) ?_;refine Ac rfl (λ_=>Sz (DU Cy []) (DU Cy []) rfl) (by simp [Ag]) ?_;refine mg [] rfl (by simp) ?_;refine mi rfl (c:=[.int .i64 3]) (λ_=>⟨by simp,rfl,rfl⟩) (by simp [Ag]) ?_;refine mg [] rfl (by simp;rfl) ?_
 refine Aa rfl (λh=>by simp at h) (λh=>?_);refine md [] rfl (by simp) ?_;refine Ac rfl (λ_=>F4 Cy []) (by simp) ?_;refine mg [] rfl (by simp) ?_;refine Ac rfl (λ_=>R7 (-1)) (by simp) ?_;refine mg [] rfl (by simp) ?_;refine Ac rfl (λ_=>F4 Cy []) (by simp) ?_;refine mg [] rfl (by simp) ?_;refine Ac rfl (λ_=>F4 IV [DU Cy [],aH (-1),DU Cy []]) (by simp) ?_;refine mg [] rfl (by simp) ?_;refine Ac rfl (λ_=>Sz wA (DU IV [DU Cy [],aH (-1),DU Cy []]) rfl) (by simp) ?_;refine mg [] rfl (by simp) ?_;refine Ac rfl (λ_=>QS 0) (by simp) ?_;refine mg [] rfl (by simp) ?_;refine Ac rfl (λ_=>QS 1) (by simp) ?_;refine mg [] rfl (by simp) ?_;refine Ac rfl (λ_=>F4 H6 [FP 0,FP 1]) (by simp [Ag]) ?_
 refine mg [] rfl (by simp) ?_;refine Ac rfl (λ_=>Sz (DU H6 [FP 0,FP 1]) (DU H6 [FP 0,FP 1]) rfl) (by simp [Ag]) ?_;refine mg [] rfl (by simp) ?_;refine Ac rfl (λ_=>QS 1) (by simp) ?_;refine mg [] rfl (by simp) ?_;refine Ac rfl (λ_=>QS 1) (by simp) ?_;refine mg [] rfl (by simp) ?_;refine Ac rfl (λ_=>F4 H6 [FP 1,FP 1]) (by simp [Ag]) ?_;refine mg [] rfl (by simp) ?_;refine Ac rfl (λ_=>Sz (DU H6 [FP 1,FP 1]) (DU H6 [FP 1,FP 1]) rfl) (by simp [Ag]) ?_;refine mg [] rfl (by simp) ?_;refine Ac rfl (λ_=>QS 1) (by simp) ?_;refine mg [] rfl (by simp) ?_;refine Ac rfl (λ_=>Sz (FP 1) (FP 1) rfl) (by simp [Ag]) ?_;refine mg [] rfl (by simp;rfl) ?_;exact Ab ⟨_,rfl,tV rfl,trivial⟩
end Go.Hk
namespace Go.Hk
open Go.Proofs
theorem aL (c:Cse) (v:Ty):Al Tryz.prog 23 [.agg (dCse c),.agg (dTyc v)] (.bool (My c&&(JO v&&Ju c v))):=by
 have hS:=Zq c;have hL:=ZN v;have hF:=jS c v;generalize My c=b1 at *;generalize JO v=b2 at *;generalize Ju c v=b3 at *;obtain ⟨ds,⟨c1,c2,c3,c4⟩,rows⟩:=c;obtain ⟨s,n,x,ps⟩:=v;refine Ae Ak Tryz.func23 (by decide +kernel) rfl [1,2,3] rfl rfl ?_;refine mg [] rfl (by simp) ?_;refine Ac rfl (λ_=>hS) (by simp) ?_;refine mg [] rfl (by simp [Ag]) ?_;refine Ac rfl (λ_=>hL) (by simp [Ag]) ?_;refine mg [] rfl (by simp [Ag]) ?_;refine Ac rfl (λ_=>hF) (by simp [Ag]) ?_;refine mg [] rfl (by simp [Ag]) ?_;refine Ab ⟨_,rfl,tV (congrArg _ ?_),trivial⟩;cases b1 <;> cases b2 <;> cases b3 <;> rfl
theorem Q4 {c:Cse} {v:Ty} (h1:Bl c=true) (h2:Oo v=true) (h3:Ki c.datas c.type v=true):DR c v=true/\Ju c v=true:=by
 rw [bF];simp only [Ju,<- Nd,h1,h2,h3,Bool.and_self,and_self]
end Go.Hk
namespace Go.Hk
def eA (tt:TT) (n:Nat) (env:Env) (todo:List DI):Option (D×Option Nat×List DI) :=
 match AS todo ([],[]) with
 | some (_,o,todo')=>match o.guard,o.op with
  | none,.call { callee:=.builtin .cap,args:=⟨[x]⟩,argTypes:=⟨[t]⟩ }=>match lk tt t,CQ env x,B1 n o.dst with
   | some { sh:=.sl _,.. },some .nils,true=>some (.imm (.int .i64 0),o.dst,todo')
   | _,_,_=>none
  | none,.slice t x none (some y) none=>match lk tt t,CQ env x,CQ env y,B1 n o.dst with
   | some { sh:=.sl e,.. },some .nils,some (.imm (.int _ 0)),true=>match lk tt e with
    | some _=>some (.nils,o.dst,todo')
    | none=>none
   | _,_,_,_=>none
  | _,_=>none
 | none=>none
structure PMk where
 m:Int
 e:TypeId
 sz:Nat
 bytes:Nat
 zs:List V
 id':Nat
 ids':List Nat
 dst:Option Nat
 todo:List DI
def lK (tt:TT) (n:Nat) (env:Env) (ids:List Nat) (todo:List DI):Option PMk :=
 match ids with
 | id'::ids'=>match AS todo ([],[id']) with
  | some (_,o,todo')=>match o.guard,o.op with
   | none,.call { callee:=.builtin .append,args:=⟨[x,y]⟩,argTypes:=⟨[t,u]⟩ }=>match lk tt t,lk tt u,CQ env x,CQ env y,B1 n o.dst with
    | some { sh:=.sl e,.. },some { sh:=.int _,.. },some .nils,some (.imm (.int _ m)),true=>match lk tt e with
     | some i=>match Ez i.zero,Nat.beq i.zero.length i.size&&Nat.blt 0 i.size with
      | some zs,true=>some ⟨m,e,i.size,i.bytes,zs,id',ids',o.dst,todo'⟩
      | _,_=>none
     | none=>none
    | _,_,_,_,_=>none
   | _,_=>none
  | none=>none
 | []=>none
section
variable {P:Program} {n:Nat} {F:List Nat} {Q:DQ} {tt:TT} {env env':Env} {st st' st0 st1:St} {ids ids' fr:List Nat} {k todo todo':List DI} {I J:Imm} {μ:Mu} {w:World} {a:Act} {Pn:V->Prop}
theorem RepD.nilsInv {v:Value} (h:RepD I μ v .nils):v = .slice none 0 0:=by cases h;rfl
theorem OM (htt:TTok P tt) {c:D×Option Nat×List DI} (h:eA tt n env todo=some c) (hk:G P n F Q c.2.2 (Bz c.2.1 c.1 env) st ids):G P n F Q todo env st ids:=by
 unfold eA at h
 split at h
 ·rename_i all o todo' h1
  split at h
  ·rename_i x t hgd hop
   split at h
   ·rename_i e _ _ _ _ ht hx hd;cases h;refine Bq (fr:=[]) (wr:=[]) (rd:=[]) h1 ?_ hd (λc hc=>by rw [hop] at hc;cases hc) hk;intro I μ st1 ids1 a w hag hst hon;refine ⟨λ_=>?_,λhw=>by rw [A0 hgd] at hw;cases hw⟩;have hops:=AJ hon;rw [hop] at hops;have e1:=(hops x (by simp [Op.operands,Call.operands]) _ hx).nilsInv;have hu:P.underlying t=some (.slice e):=htt.sh ht;have hrun:(execOp a.eval o).run P w = .ok (.value (.int .i64 0)) w:=by
     simp [execOp,hop,e1,resolve,invoke,builtin,Builtin.cap_,run_underlying hu,goInt]
    rw [hrun];exact ⟨I,μ,hst,.imm _ _ (.int _ _),Mu.le_refl μ,Ext.refl _ _ _ _⟩
   ·cases h
  ·rename_i t x y hgd hop
   split at h
   ·rename_i e _ _ _ _ kk ht hx hy hd
    split at h
    ·rename_i ti hti;cases h;refine Bq (fr:=[]) (wr:=[]) (rd:=[]) h1 ?_ hd (λc hc=>by rw [hop] at hc;cases hc) hk;intro I μ st1 ids1 a w hag hst hon;refine ⟨λ_=>?_,λhw=>by rw [A0 hgd] at hw;cases hw⟩;have hops:=AJ hon;rw [hop] at hops;have e1:=(hops x (by simp [Op.operands]) _ hx).nilsInv;have e2:=(hops y (by simp [Op.operands]) _ hy).immInv.intInv;have hu:P.underlying t=some (.slice e):=htt.sh ht;obtain ⟨inf,z,z1,z2,z3,z4,z5,z6⟩:=(htt e ti hti).info;have hrun:(execOp a.eval o).run P w = .ok (.value (.slice none 0 0)) w:=by
      simp [execOp,hop,e1,e2,Instr.sliceAt,Instr.slice,Instr.sliceBounds,Instr.sliceBound,asIntOf,run_underlying hu,sizeOf,typeInfo,z1]
     rw [hrun];exact ⟨I,μ,hst,.nils,Mu.le_refl μ,Ext.refl _ _ _ _⟩
    ·cases h
   ·cases h
  ·cases h
 ·cases h
theorem M3 (t u ty e:TypeId) (kk k2:IntKind) (i:TypeInfo) (z:Value) (ht:P.underlying t=some (.slice e)) (hu:P.underlying u=some (.int kk)) (hi:P.info? e=some i) (hz:i.zero=some z) (m:Nat) (h0:0<m) (hs:0<i.size)
  (h63:(m:Int)<=9223372036854775807) (h48:m*i.bytes<=281474976710656) :
  (Builtin.append_ #[t,u] ty #[.slice none 0 0,.int k2 m]).run P w =
   .ok (.slice (some ⟨w.heap.size,0,none⟩) m (grownCap w m 0 e)) (w.drew.alloc (.cells (Builtin.zeroCells z.cells m++Builtin.zeroCells z.cells (grownCap w m 0 e-m)) e)):=by
 have hw:IntKind.i64.wrap (m:Int)=m:=B9 (by omega) (by omega);have h48':¬(281474976710656<Builtin.nextslicecap m 0*i.bytes):=by rw [nextslicecap_zero h0];omega
 have h48i:¬(281474976710656<(m:Int)*(i.bytes:Int)):=by omega
 have h63':¬(9223372036854775807<(m:Int)):=by omega
 have hne:m≠0:=by omega
 have hl0:¬((m:Int)<0):=by omega
 have hns:¬(m*i.size=0):=λh=>by rcases Nat.mul_eq_zero.1 h with h | h <;> omega
 simp [Builtin.append_,run_underlying ht,run_underlying hu,sizeOf,typeInfo,zeroValue,hi,hz,asInt,asIntOf,hw,h48',h48i,h63',hne,hl0,hns,Builtin.firstCells,Question.forced,newRow,grownCap]
theorem Rg {zs:List V} {z:Array Value} (h:RepVL I z.toList zs) (m:Nat):RepVL I (Builtin.zeroCells z m).toList (List.replicate m zs).flatten:=by
 have hs:∀c∈List.replicate m zs,c.length=z.size:=λc hc=>by rw [List.eq_of_mem_replicate hc,<- h.1];simp
 refine ⟨by rw [AF hs];simp [Builtin.zeroCells],λj u x hu hx=>?_⟩;have hj:j<m*z.size:=by
  have:=(List.getElem?_eq_some_iff.1 hu).1;simpa [Builtin.zeroCells] using this
 have hz:0<z.size:=by
  rcases Nat.eq_zero_or_pos z.size with e | e
  ·rw [e] at hj;omega
  ·exact e
 have hlt:=Nat.mod_lt j hz;have hd:j / z.size<m:=Nat.div_lt_of_lt_mul (by rw [Nat.mul_comm];exact hj);have hu2:z.toList[j % z.size]?=some u:=by
  simp only [Builtin.zeroCells,Array.toList_map,List.getElem?_map,Option.map_eq_some_iff] at hu;obtain ⟨k,hk,e⟩:=hu;have hk2:k=j:=by
   have:=List.getElem?_eq_some_iff.1 hk;obtain ⟨_,hk3⟩:=this;simpa using hk3.symm
  subst hk2;rw [<- e,Array.getElem?_toList,Array.getElem?_eq_getElem hlt];simp [hlt]
 have hzl:z.size=zs.length:=by rw [<- h.1];simp
 have h1:(List.replicate m zs)[j / z.size]?=some zs:=by rw [List.getElem?_replicate,if_pos hd]
 have h2:zs[j % z.size]?=some zs[j % z.size]:=List.getElem?_eq_getElem (by omega);have h3:=BY hs _ _ _ _ h1 h2;rw [Nat.mul_comm,Nat.div_add_mod,hx] at h3;cases h3;exact h.2 _ _ _ hu2 h2
theorem nA (htt:TTok P tt) {c:PMk} (h:lK tt n env ids todo=some c) (h0:0<c.m) (h1:c.m.toNat*c.bytes<=140737488355328) (h2:c.m<=1000000000000)
  (hk:G P n F Q c.todo (Bz c.dst (.own c.id' (List.replicate c.m.toNat c.zs).length) env) ((c.id',some (.row c.e c.sz (List.replicate c.m.toNat c.zs)))::st) c.ids'):G P n F Q todo env st ids:=by
 unfold lK at h
 split at h
 ·rename_i id' ids'
  split at h
  ·rename_i all o todo' hn1
   split at h
   ·rename_i x y t u hgd hop
    split at h
    ·rename_i e _ _ _ _ kk _ _ _ _ k2 m ht hu hx hy hd
     split at h
     ·rename_i i hi
      split at h
      ·rename_i zs hzs hzl;cases h;simp only at h0 h1 h2 hk;refine Bq (fr:=[id']) (wr:=[(id',some (.row e i.size (List.replicate m.toNat zs)))]) (rd:=[]) hn1 ?_ hd (λc hc=>by rw [hop] at hc;cases hc) hk;intro I μ st1 ids1 a w hag hst hon;refine ⟨λ_=>?_,λhw=>by rw [A0 hgd] at hw;cases hw⟩;have hops:=AJ hon;rw [hop] at hops;have e1:=(hops x (by simp [Op.operands,Call.operands]) _ hx).nilsInv;have e2:=(hops y (by simp [Op.operands,Call.operands]) _ hy).immInv.intInv;have hut:P.underlying t=some (.slice e):=htt.sh ht;have huu:P.underlying u=some (.int kk):=htt.sh hu;obtain ⟨inf,z,z1,z2,z3,z4,z5,z6⟩:=(htt e i hi).info;simp only [Bool.and_eq_true,Nat.blt_eq] at hzl
       have hzr:RepVL I z.cells.toList zs:=Ed hzs (z5 I μ);have hzs1:zs.length=i.size:=by rw [<- Fx hzs];exact Nat.eq_of_beq_eq_true hzl.1
       have hzc:z.cells.size=i.size:=by have:=hzr.1;rw [hzs1] at this;simpa using this
       obtain ⟨k,rfl⟩:∃k:Nat,m=k:=⟨m.toNat,by omega⟩
       simp only [Int.toNat_natCast] at h1 hk ⊢;have hrun:(execOp a.eval o).run P w = .ok (.value (.slice (some ⟨w.heap.size,0,none⟩) k (grownCap w k 0 e))) (w.drew.alloc (.cells (Builtin.zeroCells z.cells k++Builtin.zeroCells z.cells (grownCap w k 0 e-k)) e)):=by
        have:=M3 (P:=P) (w:=w) t u o.type e kk k2 inf z hut huu z1 z4 k (by omega) (by rw [z2];exact hzl.2) (by omega) (by rw [z3];omega);simp only [execOp,hop,e1,e2,resolve,invoke,builtin,Sem.run_bind,Sem.run_pure,Result.andThen_ok,List.map_toArray,List.map_cons,List.map_nil,this]
       rw [hrun];have hge:=grownCap_ge w k 0 e;have hcm:grownCap w k 0 e<=maxLen:=grownCap_le_maxLen w _ 0 e (by simp only [maxLen];omega);have hlen:(List.replicate k zs).length=k:=by simp
       have hown:(w.drew.alloc (.cells (Builtin.zeroCells z.cells k++Builtin.zeroCells z.cells (grownCap w k 0 e-k)) e)).ownsRow 0 e i.size (.slice (some ⟨w.heap.size,0,none⟩) k (grownCap w k 0 e)) k (Builtin.zeroCells z.cells k).toList:=by
        refine ⟨by simp [Builtin.zeroCells,hzc],.inr ⟨w.heap.size,_,_,rfl,Nat.zero_le _,Dr w.drew _,hge,hcm,?_,?_⟩⟩
        ·simp only [Array.size_append,size_zeroCells,hzc,<- Nat.add_mul];congr 1;omega
        ·simp only [Array.toList_append];have:k*i.size=(Builtin.zeroCells z.cells k).toList.length:=by simp [Builtin.zeroCells,hzc]
         rw [this];exact List.take_left
       obtain ⟨μ',q1,q2,q3,q4⟩:=StRep.renew (id':=id') (ids:=ids1) (rd:=[]) (v':=.slice (some ⟨w.heap.size,0,none⟩) k (grownCap w k 0 e)) (blk':=.row e i.size (List.replicate k zs)) hst
        (w':=w.drew.alloc (.cells (Builtin.zeroCells z.cells k++Builtin.zeroCells z.cells (grownCap w k 0 e-k)) e)) (row:=none)
        ⟨rfl,rfl,rfl,by simp,λq hq _=>F5 w.drew _ hq⟩ (λb h=>by cases h) (λb hb=>by
         simp only [CY] at hb;subst hb;exact ⟨(hown.lt _ rfl).2,.inl (Nat.le_refl _)⟩) (λμ'=>⟨_,by rw [hlen];exact hown,Rg hzr k,λc hc=>by rw [List.eq_of_mem_replicate hc];exact hzs1,λc hc x hx=>by
          rw [List.eq_of_mem_replicate hc] at hx;obtain ⟨j,hj⟩:=List.mem_iff_getElem?.1 hx;have hjl:=(List.getElem?_eq_some_iff.1 hj).1;obtain ⟨v,hv⟩:∃v,z.cells.toList[j]?=some v:=⟨_,List.getElem?_eq_getElem (by rw [hzr.1];exact hjl)⟩
          exact (hzr.2 j v x hv hj).oneV (z6 v (List.mem_of_getElem? hv)),hzl.2⟩)
       refine ⟨I,μ',q3,?_,q2,q4⟩;rw [hlen];exact .own _ _ _ _ q1
      ·cases h
     ·cases h
    ·cases h
   ·cases h
  ·cases h
 ·cases h
end
end Go.Hk
namespace Go.Hk
def Yn (n:Nat) (env:Env) (st:St) (todo:List DI):Option (Prop×Za) :=
 match AS todo ([],[]) with
 | some (all,o,_)=>match o.op with
  | .call { callee:=.value (.tmp t),args:=⟨args⟩,.. }=>match lk env t with
   | some (.guard c w (.fn (.func f) a b))=>match UD n st all o env todo f a b args with
    | some l=>some (c=w,l)
    | none=>none
   | _=>none
  | _=>none
 | none=>none
section
variable {P:Program} {n:Nat} {F:List Nat} {Q:DQ} {env:Env} {st:St} {ids:List Nat} {todo:List DI} {ob:List Prop}
theorem QP {o:Oper} {t:Nat} {f:FuncId} {args:List Operand} {ts:Array TypeId} {ds df dc:List D} {c w0:Bool} {cx:Prop} (ho:o.op = .call { callee:=.value (.tmp t),args:=⟨args⟩,argTypes:=ts }) (ht:lk env t=some (.guard c w0 (.fn (.func f) df dc)))
  (hw:cx->c=w0) (ha:GZ cx env args=some (ds,ob)) (hob:A9 ob):DG P o env f (df++ds++dc) cx:=by
 intro I μ a w hop hc;rw [ho] at hop;have hd:=EI (I:=I) (μ:=μ) (a:=a) hc ha hob λx hx=>hop x (by simp [Op.operands,Call.operands,hx]);have hf:=(hop (.tmp t) (by simp [Op.operands,Call.operands]) _ ht).guardInv (hw hc);generalize hv:a.eval (.tmp t)=v at hf;cases hf with
 | fn _ first cap _ _ h1 h2 h3 h4 =>
  refine ⟨first++(args.map a.eval).toArray++cap,?_,?_⟩
  ·simp only [Array.toList_append];refine RepL.append (RepL.append ⟨by simpa using h1,λi v d hv hd=>h3 i v d (by simpa using hv) hd⟩ hd) ⟨by simpa using h2,λi v d hv hd=>h4 i v d (by simpa using hv) hd⟩
  ·simp only [execOp,ho,resolve,hv,Deferred.ofValue,Sem.run_bind,Sem.run_pure,Result.andThen_ok,invoke];congr 3;simp
theorem fO {p:Prop} {f:FuncId} {vs:List V} {rd:List Nat} {g:Option (Bool×Bool)} {dst:Option Nat} {todo':List DI} {v:V} (h:Yn n env st todo=some (p,⟨f,vs,rd,g,ob,dst,todo'⟩)) (hw:Ag g->p) (hE:Ag g->Al P f vs v) (hs:U1 v=true) (hob:A9 ob)
  (hk:G P n F Q todo' (Bz dst (gD g (.imm v)) env) st ids):G P n F Q todo env st ids:=by
 unfold Yn at h
 split at h
 ·rename_i all o t hn1
  split at h
  ·rename_i t' args ts ho
   split at h
   ·rename_i c w0 f' a b ht
    split at h
    ·rename_i l hp;cases h;obtain ⟨g',ds,ob',vs',todo2,q1,q2,q3,q4,⟨p,q,q5⟩,q6⟩:=UC hp;obtain ⟨e1,e2⟩:=GA hn1 q5;subst e1;subst e2;cases q6;exact Bq (fr:=[]) (wr:=[]) q5 (Y7 q1 (QP ho ht hw q2 hob) q3 hs hE) q4 (λc h'=>by rw [ho] at h';cases h') hk
    ·cases h
   ·cases h
  ·cases h
 ·cases h
end
end Go.Hk
namespace Go.Hk
open Go.Proofs
set_option maxHeartbeats 1000000 in
theorem iD (n:Int) (h0:0<n) (h1:n<=1000):AV Tryz.prog 85 [.nils,.imm (.int .i64 n)] [] (.ret (.own 2 0) [(2,some (.row 62 4 []))]):=by
 refine Ae Ak Tryz.func85 (by decide +kernel) rfl [1,3,2,4,5] rfl rfl ?_;refine mg [] rfl (by simp) ?_;refine Aa rfl (λh=>by exfalso;simp at h;omega) (λh=>?_);clear h;refine md [] rfl (by simp) ?_;refine OM Ak rfl ?_;refine mg [] rfl (by simp) ?_;have e0:IntKind.i64.wrap (n-IntKind.i64.wrap (0-0))=n:=by rw [show IntKind.i64.wrap (0-0)=0 from by decide,B9 (by omega) (by omega)];omega
 have e1:IntKind.i64.wrap (n-IntKind.i64.wrap 0)=n:=e0;refine Aa rfl (λh=>?_) (λh=>by exfalso;simp [e1] at h;omega);clear h;refine md [] rfl (by simp) ?_;refine OM Ak rfl ?_;refine mg [] rfl (by simp) ?_;refine OM Ak rfl ?_;refine mg [] rfl (by simp) ?_;refine nA Ak rfl (by simp [e1];omega) (by simp [e1];omega) (by simp [e1];omega) ?_;obtain ⟨k,rfl⟩:∃k:Nat,n=k+1:=⟨n.toNat-1,by omega⟩
 simp only [Bz,e0];generalize hR:List.replicate ((k:Int)+1).toNat _=R;have hRl:R.length=k+1:=by rw [<- hR,List.length_replicate];omega
 clear hR;refine IB 1 3 rfl λv=>?_;refine BN 3 (λ_:{ y:Nat×Nat // v = .slice (some ⟨y.1,0,none⟩) R.length y.2/\R.length<=y.2 }=>R2 62 4 R v) rfl (λvs I w bs h=>?_) λy=>?_
 ·have hn:R≠[]:=λe=>by rw [e] at hRl;simp at hRl
  have h':=h;rcases h' with ⟨_,h',_⟩ | ⟨gb,cap,cur,h1,_,_,h4,_⟩
  ·exact absurd h' hn
  ·exact ⟨⟨(gb,cap),h1,h4⟩,h⟩
 obtain ⟨⟨gb,cap⟩,rfl,hcap⟩:=y;simp only at hcap;refine md [] rfl (by simp) ?_;refine X3 Ak rfl ⟨by simp,by simp,by simp,by simp only;omega⟩ ?_;simp only [Bz,Int.toNat_zero,Nat.zero_mul,Nat.sub_zero,Nat.add_zero];refine mg [] rfl (by simp) ?_;refine Jx (e:=62) (sz:=4) 3 4 2 [] rfl rfl (λvs I w bs h=>?_) ?_
 ·obtain ⟨xs,⟨_,a1⟩,a2,a3,a4,a5,a6⟩:=Lo (by decide) h;refine ⟨[],⟨rfl,?_⟩,.nil,by simp,by simp,a5,λq hq=>a6 q (by simpa [Value.ownBlock] using hq)⟩;rcases a1 with ⟨e,_⟩ | ⟨g,cap',cur,e,b1,b2,b3,b4,b5,b6⟩
  ·cases e
  ·cases e;exact .inr ⟨_,_,cur,rfl,Nat.zero_le _,b2,Nat.zero_le _,b4,b5,by simp⟩
 exact Ab ⟨_,rfl,rfl,rfl,trivial⟩
theorem TTok.app {P:Program} {a b:TT} (ha:TTok P a) (hb:TTok P b):TTok P (a++b):=by
 intro t i h
 induction a with
 | nil=>exact hb t i h
 | cons x r ih =>
  obtain ⟨k,v⟩:=x;simp only [List.cons_append,lk] at h;cases e:Nat.beq k t with
  | true=>rw [e] at h;exact ha t i (by simp only [lk,e];exact h)
  | false =>
   rw [e] at h;have hr:∀{r:TT},lk (r++b) t=some i->(∀j,lk r t=some j->TyOk P t j)->TyOk P t i:=by
    intro r
    induction r with
    | nil=>intro h _;exact hb t i h
    | cons y q iq =>
     obtain ⟨k2,v2⟩:=y;intro h hj;simp only [List.cons_append,lk] at h hj;cases e2:Nat.beq k2 t with
     | true=>rw [e2] at h hj;exact hj i h
     | false=>rw [e2] at h hj;exact iq h hj
   exact hr h λj hj=>ha t j (by simp only [lk,e];exact hj)
def pF:TT:=[(144,⟨.sl 27,false,1,24,[.nils]⟩)]++iJ
theorem Qt1:TTok Tryz.prog [(144,⟨.sl 27,false,1,24,[.nils]⟩)]:=.of_eq (l:=[144]) (by kernel_rfl)
theorem Np:TTok Tryz.prog pF:=Qt1.app Ak
section
variable {n:Nat} {F:List Nat} {Q:DQ} {env env':Env} {st st':St} {ids ids':List Nat} {k todo:List DI} {ob:List Prop}
theorem Qd (h:run pF n 300 [] todo env st ids [] = .at k env' st' ids' ob) (hob:A9 ob) (hd:G Tryz.prog n F Q k env' st' ids'):DGo Tryz.prog n F Q todo env st ids:=J2 Np DJ 300 [] h hob hd
theorem Qg (h:run pF n 300 [] todo env st ids [] = .at k env' st' ids' ob) (hob:A9 ob) (hd:G Tryz.prog n F Q k env' st' ids'):G Tryz.prog n F Q todo env st ids:=IK Np DJ 300 [] h hob hd
theorem Qi {es:List (List V)} {m:Int} {sz:Nat} {e:TypeId} {g:Option (Bool×Bool)} {ob:List Prop} {t:Nat} {todo':List DI} {c:List V} (h:M7 pF n env todo=some ⟨es,m,sz,e,g,ob,some t,todo'⟩)
  (hc:Ag g->0<=m/\es[m.toNat]?=some c/\c.length=sz) (hob:A9 ob) (hk:G Tryz.prog n F Q todo' ((t,gD g (.ip e c 0))::env) st ids):G Tryz.prog n F Q todo env st ids:=EG Np h hc hob hk
end
set_option maxHeartbeats 2000000 in
theorem XT (a b:List Ty) (h1:a.length<=10) (h2:b.length<=10) (h0:0<a.length+b.length):AV Tryz.prog 36 [.imm (.sl [[.sl (AT a)],[.sl (AT b)]])] [] (.ret (.imm (.sl (AT a++AT b))) []):=by
 have hsz:∀l:List Ty,∀c∈AT l,c.length=4:=λl c hc=>by rw [Cl] at hc;obtain ⟨t,_,rfl⟩:=List.mem_map.1 hc;simp
 have hG:=iD ((a.length+b.length:Nat):Int) (by omega) (by omega);refine Ae Ak Tryz.func36 (by decide +kernel) rfl [1,2,3,4,5] rfl rfl ?_;refine Qg rfl (by simp) ?_;refine Aj (λi:Nat=>[(11,.imm (.int .i64 i)),(10,.imm (.int .i64 2)),(9,.imm (.sl [[.sl (AT a)],[.sl (AT b)]])),(3,.imm (.int .i64 (if i=0 then 0 else if i=1 then (a.length:Int) else ((a.length+b.length:Nat):Int)))),(0,.imm (.sl [[.sl (AT a)],[.sl (AT b)]]))]) (λ_=>[]) [1,2,3,4,5] (λi=>2-i) (λi=>i<=2) 0 (by omega) ⟨rfl,rfl,rfl,rfl,rfl,trivial⟩ trivial rfl λi hi ih=>?_;refine Qd rfl (by simp) ?_;refine Aa rfl (λh=>?_) (λh=>?_)
 ·have hi2:i=0\/i=1:=by simp at h;omega
  have hih:=ih (i+1) (by omega) (by omega);rcases hi2 with rfl | rfl
  ·refine Qd rfl (by simp) ?_;refine Qi rfl (c:=[.sl (AT a)]) (λ_=>⟨by simp,rfl,rfl⟩) (by simp) ?_;refine Qg rfl (by simp) ?_;refine Aa rfl (λh=>by exfalso;simp at h;rw [B9 (by omega) (by omega)] at h;omega) (λh=>?_);refine Qd rfl (by simp) ?_;exact Ad hih ⟨rfl,rfl,rfl,As (by simp;exact B9 (by omega) (by omega)),rfl,trivial⟩ trivial rfl
  ·refine Qd rfl (by simp) ?_;refine Qi rfl (c:=[.sl (AT b)]) (λ_=>⟨by simp,rfl,rfl⟩) (by simp) ?_;refine Qg rfl (by simp) ?_;refine Aa rfl (λh=>by exfalso;simp at h;rw [B9 (by omega) (by omega)] at h;omega) (λh=>?_);refine Qd rfl (by simp) ?_;exact Ad hih ⟨rfl,rfl,rfl,As (by simp;exact B9 (by omega) (by omega)),rfl,trivial⟩ trivial rfl
 ·have hi2:i=2:=by simp at h;omega
  subst hi2;refine Ar rfl ?_;refine Qd rfl (by simp) ?_;refine Ay (st0:=[]) (fr:=[1]) [] [(2,1)] rfl (by simp) hG trivial rfl rfl rfl rfl ?_;refine Qg rfl (by simp) ?_;refine Aj (λi:Nat=>[(27,.imm (.int .i64 i)),(26,.imm (.int .i64 2)),(25,.imm (.sl [[.sl (AT a)],[.sl (AT b)]])),(6,.own 1 (if i=0 then [] else if i=1 then AT a else AT a++AT b).length)]) (λi=>[(1,some (.row 62 4 (if i=0 then [] else if i=1 then AT a else AT a++AT b)))]) [2,3,4,5] (λi=>2-i) (λi=>i<=2) 0 (by omega) ⟨rfl,rfl,rfl,rfl,trivial⟩ ⟨rfl,trivial⟩ rfl λi hi ih=>?_;refine Qd rfl (by simp) ?_;refine Aa rfl (λh=>?_) (λh=>?_)
  ·have hi2:i=0\/i=1:=by simp at h;omega
   have hih:=ih (i+1) (by omega) (by omega);rcases hi2 with rfl | rfl
   ·refine Qd rfl (by simp) ?_;refine Qi rfl (c:=[.sl (AT a)]) (λ_=>⟨by simp,rfl,rfl⟩) (by simp) ?_;refine Qg rfl (by simp) ?_;refine BC Np rfl ⟨hsz a,by simp [maxLen];omega,by simp;omega,trivial⟩ ?_;refine Qg rfl (by simp) ?_;refine A4 1 2 rfl ?_;exact Ad hih ⟨rfl,rfl,rfl,rfl,trivial⟩ ⟨rfl,trivial⟩ rfl
   ·refine Qd rfl (by simp) ?_;refine Qi rfl (c:=[.sl (AT b)]) (λ_=>⟨by simp,rfl,rfl⟩) (by simp) ?_;refine Qg rfl (by simp) ?_;refine BC Np rfl ⟨hsz b,by simp [maxLen];omega,by simp;omega,trivial⟩ ?_;refine Qg rfl (by simp) ?_;refine A4 1 2 rfl ?_;exact Ad hih ⟨rfl,rfl,rfl,rfl,trivial⟩ ⟨rfl,trivial⟩ rfl
  ·have hi2:i=2:=by simp at h;omega
   subst hi2;refine Ar rfl ?_;refine BD 1 rfl ?_;refine Qd rfl (by simp) ?_;exact Ab ⟨_,rfl,tV rfl,trivial⟩
theorem XS:AV Tryz.prog 85 [.nils,.imm (.int .i64 0)] [] (.ret .nils []):=by
 refine Ae Ak Tryz.func85 (by decide +kernel) rfl [1,2,3] rfl rfl ?_;refine mg [] rfl (by simp) ?_;refine Aa rfl (λh=>by simp at h) (λh=>?_);clear h;refine md [] rfl (by simp) ?_;refine OM Ak rfl ?_;refine mg [] rfl (by simp) ?_;refine Aa rfl (λh=>by exfalso;simp at h;exact absurd h (by decide)) (λh=>?_);refine md [] rfl (by simp) ?_;exact Ab ⟨_,rfl,rfl,trivial⟩
set_option maxHeartbeats 2000000 in
theorem W0:AV Tryz.prog 36 [.imm (.sl [[.sl []],[.sl []]])] [] (.ret (.imm (.sl [])) []):=by
 have hG:=XS;refine Ae Ak Tryz.func36 (by decide +kernel) rfl [1,2,3,4,5] rfl rfl ?_;refine Qg rfl (by simp) ?_;refine Aj (λi:Nat=>[(11,.imm (.int .i64 i)),(10,.imm (.int .i64 2)),(9,.imm (.sl [[.sl []],[.sl []]])),(3,.imm (.int .i64 0)),(0,.imm (.sl [[.sl []],[.sl []]]))]) (λ_=>[]) [1,2,3,4,5] (λi=>2-i) (λi=>i<=2) 0 (by omega) ⟨rfl,rfl,rfl,rfl,rfl,trivial⟩ trivial rfl λi hi ih=>?_;refine Qd rfl (by simp) ?_;refine Aa rfl (λh=>?_) (λh=>?_)
 ·have hi2:i=0\/i=1:=by simp at h;omega
  have hih:=ih (i+1) (by omega) (by omega);have hget:([[.sl []],[.sl []]]:List (List V))[i]?=some [.sl []]:=by rcases hi2 with rfl | rfl <;> rfl
  refine Qd rfl (by simp) ?_;refine Qi rfl (c:=[.sl []]) (λ_=>⟨by simp,by simpa using hget,rfl⟩) (by simp) ?_;refine Qg rfl (by simp) ?_;refine Aa rfl (λh=>by exfalso;simp at h;exact absurd h (by decide)) (λh=>?_);refine Qd rfl (by simp) ?_;exact Ad hih ⟨As (B9 (by omega) (by omega)),rfl,rfl,rfl,rfl,trivial⟩ trivial rfl
 ·refine Ar rfl ?_;refine Qd rfl (by simp) ?_;refine Ay (st0:=[]) (fr:=[]) [] [] rfl (by simp) hG trivial rfl rfl rfl rfl ?_;refine Qg rfl (by simp) ?_;refine CI (e:=62) (sz:=4) 6 1 (by decide) rfl ?_;refine Aj (λi:Nat=>[(27,.imm (.int .i64 i)),(26,.imm (.int .i64 2)),(25,.imm (.sl [[.sl []],[.sl []]])),(6,.own 1 0)]) (λi=>[(1,some (.row 62 4 []))]) [2,3,4,5] (λi=>2-i) (λi=>i<=2) 0 (by omega) ⟨rfl,rfl,rfl,rfl,trivial⟩ ⟨rfl,trivial⟩ rfl λi hi ih=>?_;refine Qd rfl (by simp) ?_;refine Aa rfl (λh=>?_) (λh=>?_)
  ·have hi2:i=0\/i=1:=by simp at h;omega
   have hih:=ih (i+1) (by omega) (by omega);have hget:([[.sl []],[.sl []]]:List (List V))[i]?=some [.sl []]:=by rcases hi2 with rfl | rfl <;> rfl
   refine Qd rfl (by simp) ?_;refine Qi rfl (c:=[.sl []]) (λ_=>⟨by simp,by simpa using hget,rfl⟩) (by simp) ?_;refine Qg rfl (by simp) ?_;refine BC Np rfl ⟨λc hc=>by simp at hc,by simp [maxLen],by simp,trivial⟩ ?_;refine Qg rfl (by simp) ?_;refine A4 1 2 rfl ?_;exact Ad hih ⟨As (B9 (by omega) (by omega)),rfl,rfl,rfl,trivial⟩ ⟨rfl,trivial⟩ rfl
  ·refine Ar rfl ?_;refine BD 1 rfl ?_;refine Qd rfl (by simp) ?_;exact Ab ⟨_,rfl,tV rfl,trivial⟩
theorem bL (a b:List Ty) (h1:a.length<=10) (h2:b.length<=10):AV Tryz.prog 36 [.imm (.sl [[.sl (AT a)],[.sl (AT b)]])] [] (.ret (.imm (.sl (AT a++AT b))) []):=by
 by_cases h:0<a.length+b.length
 ·exact XT a b h1 h2 h
 ·have ha:=List.eq_nil_of_length_eq_zero (show a.length=0 by omega);have hb:=List.eq_nil_of_length_eq_zero (show b.length=0 by omega);subst ha;subst hb;exact W0
end Go.Hk
namespace Go.Hk
open Go.Proofs
def TC (x:Int):Nat->List Int->Int
 | _,[]=>-1
 | i,y::r=>if x=y then (i:Int) else TC x (i+1) r
theorem Vv (x:Int):∀(l:List Int) (i:Nat),(0<=TC x i l)↔x∈l
 | [],i=>by simp [TC]
 | y::r,i=>by
  simp only [TC,List.mem_cons];by_cases e:x=y
  ·rw [if_pos e];exact ⟨λ_=>.inl e,λ_=>by omega⟩
  ·rw [if_neg e,Vv x r (i+1)];exact ⟨.inr,λh=>h.resolve_left e⟩
theorem aQ {l:List Int} {i:Nat} (h:i<l.length):l.drop i=l.getD i 0::l.drop (i+1):=by
 have:=Ao (l:=l) (i:=i) (List.getElem?_eq_getElem h);rw [this];simp [List.getD,h]
theorem bI (l:List Int) (x:Int) (hl:l.length<=1000):Al Tryz.prog 84 [.sl (AX l),.int .i64 x] (.int .i64 (TC x 0 l)):=by
 refine Ae Ak Tryz.func84 (by decide +kernel) rfl [1,2,3] rfl rfl ?_;refine mg [] rfl (by simp) ?_;refine Aj (λi:Nat=>[(8,.imm (.int .i64 i)),(7,.imm (.int .i64 l.length)),(0,.imm (.sl (AX l))),(1,.imm (.int .i64 x))]) (λ_=>[]) [1,2,3] (λi=>l.length-i) (λi=>i<=l.length/\TC x 0 l=TC x i (l.drop i)) 0 ⟨Nat.zero_le _,rfl⟩ ⟨rfl,As (by simp),rfl,rfl,trivial⟩ trivial rfl λi hi ih=>?_;obtain ⟨i1,i2⟩:=hi;refine md [] rfl (by simp) ?_;refine Aa rfl (λh=>?_) (λh=>?_)
 ·simp at h;have hg:=G4 h;rw [aQ h] at i2;simp only [TC] at i2;generalize l.getD i 0=y at *;refine md [] rfl (by simp) ?_;refine mi rfl (c:=[.int .i64 y]) (λ_=>⟨by simp,by simpa using hg,rfl⟩) (by simp) ?_;refine mg [] rfl (by simp) ?_;by_cases e:x=y
  ·rw [if_pos e] at i2;refine Aa rfl (λh=>?_) (λh=>by exfalso;simp at h;exact h e);refine md [] rfl (by simp) ?_;rw [i2];exact Ab ⟨_,rfl,tV rfl,trivial⟩
  ·rw [if_neg e] at i2;refine Aa rfl (λh=>by exfalso;simp at h;exact e h) (λh=>?_);refine md [] rfl (by simp) ?_;exact Ad (ih (i+1) (by omega) ⟨by omega,i2⟩) ⟨As (B9 (by omega) (by omega)),rfl,rfl,rfl,trivial⟩ trivial rfl
 ·simp at h;refine Ar rfl ?_;refine md [] rfl (by simp) ?_;rw [i2,List.drop_eq_nil_of_le (by omega)];exact Ab ⟨_,rfl,tV rfl,trivial⟩
theorem TU (l:List Int) (x:Int) (hl:l.length<=1000):Al Tryz.prog 35 [.sl (AX l),.int .i64 x] (.bool (decide (x∈l))):=by
 have h:=bI l x hl;have hm:=Vv x l 0;generalize TC x 0 l=z at *;refine Ae Ak Tryz.func35 (by decide +kernel) rfl [1,2,3] rfl rfl ?_;refine mg [] rfl (by simp) ?_;refine Ac rfl (λ_=>h) (by simp) ?_;refine mg [] rfl (by simp) ?_;refine Ab ⟨_,rfl,tV (congrArg _ ?_),trivial⟩;simp only [decide_eq_decide];exact hm
theorem bK (l:List Int) (hl:l.length<=1000):Al Tryz.prog 39 [.sl (AX l),.sl (AX l)] (.bool true):=by
 refine Ae Ak Tryz.func39 (by decide +kernel) rfl [1,2,3] rfl rfl ?_;refine mg [] rfl (by simp) ?_;refine Aa rfl (λh=>by simp at h) (λh=>?_);refine md [] rfl (by simp) ?_;refine Aj (λi:Nat=>[(13,.imm (.int .i64 i)),(12,.imm (.int .i64 l.length)),(0,.imm (.sl (AX l))),(1,.imm (.sl (AX l)))]) (λ_=>[]) [1,2,3] (λi=>l.length-i) (λi=>i<=l.length) 0 (Nat.zero_le _) ⟨rfl,As (by simp),rfl,rfl,trivial⟩ trivial rfl λi hi ih=>?_;refine md [] rfl (by simp) ?_;refine Aa rfl (λh=>?_) (λh=>?_)
 ·simp at h;have hg:=G4 h;refine md [] rfl (by simp) ?_;refine mi rfl (c:=[.int .i64 (l.getD i 0)]) (λ_=>⟨by simp,by simpa using hg,rfl⟩) (by simp) ?_;refine mg [] rfl (by simp) ?_;refine mi rfl (c:=[.int .i64 (l.getD i 0)]) (λ_=>⟨by simp,by simpa using hg,rfl⟩) (by simp) ?_;refine mg [] rfl (by simp;rfl) ?_;refine Aa rfl (λh=>by simp at h) (λh=>?_);refine md [] rfl (by simp) ?_;exact Ad (ih (i+1) (by omega) (by omega)) ⟨As (B9 (by omega) (by omega)),rfl,rfl,rfl,trivial⟩ trivial rfl
 ·refine Ar rfl ?_;refine md [] rfl (by simp) ?_;exact Ab ⟨_,rfl,tV rfl,trivial⟩
def H9 (n:Nat) (k:Int):Int:=if (n:Int)<k then k-1 else k
theorem Va (n:Nat) (k:Int) (hk : -1000000<=k/\k<=1000000):Al Tryz.prog 37 [.int .i64 k,.ip 3 [.int .i64 n] 0] (.int .i64 (H9 n k)):=by
 refine OC ?_;refine Ae Ak Tryz.func37 (by decide +kernel) rfl [1,2,3] rfl rfl ?_;refine mg [] rfl (by simp) ?_;by_cases h0:(n:Int)<k
 ·refine Aa rfl (λ_=>?_) (λh'=>by exfalso;simp at h';omega);refine md [] rfl (by simp) ?_;refine Ab ⟨_,rfl,tV ?_,trivial⟩;simp only [H9,if_pos h0];rw [B9 (by omega) (by omega)]
 ·refine Aa rfl (λh'=>by exfalso;simp at h';omega) (λh=>?_);refine md [] rfl (by simp) ?_;refine Ab ⟨_,rfl,tV ?_,trivial⟩;simp only [H9,if_neg h0]
theorem Qf (v p:Ty) (B:List Ty) (hp:True):∀(A:List Ty) (i:Nat),Bk v i (A++p::B)≠((i+A.length:Nat):Int)->Bk v i (A++B)=H9 (i+A.length) (Bk v i (A++p::B))
 | [],i,h=>by
  simp only [List.nil_append,Bk,List.length_nil,Nat.add_zero] at h ⊢;cases hm:(Bf p v).2 with
  | true=>rw [hm] at h;exact absurd rfl h
  | false =>
   simp only [cond_false];have key:∀(l:List Ty) (j:Nat),Bk v j l = -1/\Bk v (j+1) l = -1\/0<=Bk v j l/\(j:Int)<=Bk v j l/\Bk v (j+1) l=Bk v j l+1:=by
    intro l
    induction l with
    | nil=>intro j;exact .inl ⟨rfl,rfl⟩
    | cons x r ih =>
     intro j;simp only [Bk];cases (Bf x v).2 with
     | true=>right;simp only [cond_true];omega
     | false =>
      simp only [cond_false];rcases ih (j+1) with h | h
      ·exact .inl h
      ·right;omega
   rcases key B i with h | h
   ·rw [h.1,h.2];simp only [H9];rw [if_neg (by omega)]
   ·rw [h.2.2];simp only [H9];rw [if_pos (by omega)];omega
 | x::A,i,h=>by
  simp only [List.cons_append,Bk,List.length_cons] at h ⊢;cases hm:(Bf x v).2 with
  | true =>
   simp only [cond_true,H9];rw [if_neg (by omega)]
  | false =>
   rw [hm] at h;simp only [cond_false] at h ⊢;rw [Qf v p B hp A (i+1) (by rw [show i+1+A.length=i+(A.length+1) by omega];exact h),show i+1+A.length=i+(A.length+1) by omega]
def DV (c:Cse) (n:Nat):Cse:=⟨c.datas,c.type,c.rows.take n++c.rows.drop (n+1)⟩
theorem Sw {c:Cse} {n:Nat} {p:Ty} (hp:c.rows[n]?=some p) (h:Bl c=true):Bl (DV c n)=true:=by
 have e:=Ao hp;have e2:=List.take_append_drop n c.rows;rw [e] at e2;have hl:=congrArg List.length e2;simp only [List.length_append,List.length_cons] at hl;have hn:=congrArg Ah e2;rw [Bo] at hn;simp only [Ah] at hn;simp only [Bl,HC,Bool.and_eq_true,decide_eq_true_eq,List.all_eq_true] at h ⊢;obtain ⟨⟨⟨⟨h1,h2⟩,h3⟩,h4⟩,h5,h6,h7⟩:=h;refine ⟨⟨⟨⟨h1,?_⟩,h3⟩,h4⟩,h5,λq hq=>?_,?_⟩
 ·simp only [DV,List.length_append];omega
 ·simp only [DV] at hq;refine h6 q ?_;rcases List.mem_append.1 hq with hq | hq
  ·exact List.mem_of_mem_take hq
  ·exact List.mem_of_mem_drop hq
 ·simp only [DV,Bo];omega
theorem Yv {ds:List Dt} (ho:OkW ds) {t a:Ty} (hn:AB ds t=true) (ha:FZ ds t a) (h4:AC a=4):0<=(B4 ds t (Cq a)).2/\∀y,(Cx ds (Cq a)).2=(Cx ds y).2->0<=(B4 ds t y).2->Cq a=y:=by
 have fa:=ha.1;rw [H7] at fa;obtain ⟨so,m,x,qs⟩:=t;obtain ⟨f,n,s,ps⟩:=a;simp only [AC,Cq] at *;subst h4;simp only [Kh] at fa;have h8:so=8:=by
  repeat' (split at fa)
  all_goals first | assumption | (simp at fa;done)
 subst h8;rw [if_neg (by decide),if_neg (by decide),if_neg (by decide),if_pos rfl] at fa;simp only [Bool.and_eq_true,decide_eq_true_eq] at fa;obtain ⟨_,_,ca,_⟩:=fa;have hc:0<=(B4 ds (.mk 8 m x qs) s).2:=by
  simp only [AK] at ca;by_cases e:0<=(B4 ds (.mk 8 m x qs) s).2
  ·exact e
  ·simp [e] at ca
 have hp:=(C5 hn 8 m x qs rfl rfl).1;have hname:∀y,0<=(B4 ds (.mk 8 m x qs) y).2->(B4 ds (.mk 8 m x qs) y).1.name=y:=λy hy=>by
  obtain ⟨_,d,hd⟩:=C5 hn 8 m x qs rfl rfl;simp only [B4,if_true,hd] at hy ⊢;exact (GS hy).2
 refine ⟨hc,λy hs hy=>?_⟩;rw [FA ho.dif (n:=m) (ps:=qs) hp hc,FA ho.dif (n:=m) (ps:=qs) hp hy] at hs;rw [<- hname s hc,<- hname y hy,Na hc hs]
theorem WO {ds:List Dt} (ho:OkW ds):∀(k:Nat) (a t b:Ty),SizeOf.sizeOf a<k->AB ds t=true->FZ ds t a->FZ ds t b->BS ds a b=0->a=b:=by
 intro k
 induction k with
 | zero=>intro a t b h;omega
 | succ k ih =>
  intro a t b hk hn ha hb h;obtain ⟨h1,h2⟩:=OE ho hn ha hb;obtain ⟨pa,pa2⟩:=D9 ha;obtain ⟨pb,pb2⟩:=D9 hb;have hnm:=BK ho.okd (t:=t) (s:=Cq a);have na:=ha.2;have nb:=hb.2;have hconA:=Yv ho hn ha;have hconB:=Yv ho hn hb;have hlt:∀u∈Bn a,SizeOf.sizeOf u<k:=λu hu=>by have:=HN hu;omega
  obtain ⟨f,n,x,ps⟩:=a;obtain ⟨g,m,y,qs⟩:=b;simp only [AC,Cq,Bn] at h1 h2 pa pa2 pb pb2 hnm hconA hconB hlt;simp only [BS] at h;subst h1;simp only [CZ,Bool.and_eq_true,FS] at na nb;obtain ⟨_,na⟩:=na;obtain ⟨_,nb⟩:=nb;by_cases f1:f=1
  ·subst f1;simp only [if_true] at na nb h;simp only [Bool.and_eq_true,beq_iff_eq] at na nb;have e1:=List.eq_nil_of_length_eq_zero (by omega:ps.length=0);have e2:=List.eq_nil_of_length_eq_zero (by omega:qs.length=0);have:n=m:=by
    simp only [FR] at h;by_cases p1:0<n <;> by_cases p2:0<m <;> simp only [p1,p2,if_true,if_false] at h <;> omega
   rw [this,e1,e2,na.1.2,nb.1.2]
  rw [if_neg f1] at na nb h;by_cases f2:f=2
  ·subst f2;simp only [if_true] at na nb h;simp only [Bool.and_eq_true,beq_iff_eq] at na nb;have e1:=List.eq_nil_of_length_eq_zero (by omega:ps.length=0);have e2:=List.eq_nil_of_length_eq_zero (by omega:qs.length=0);have:n=m:=by omega
   rw [this,e1,e2,na.1.2,nb.1.2]
  rw [if_neg f2] at na nb h;by_cases f3:f=3\/f=5
  ·rw [if_pos f3] at na nb;simp only [Bool.and_eq_true,beq_iff_eq] at na nb;have e1:=List.eq_nil_of_length_eq_zero (by omega:ps.length=0);have e2:=List.eq_nil_of_length_eq_zero (by omega:qs.length=0);rw [na.1.1,nb.1.1,na.1.2,nb.1.2,e1,e2]
  rw [if_neg f3] at na nb;by_cases f4:f=4
  ·subst f4;simp only [if_true] at na nb h;simp only [Bool.and_eq_true,beq_iff_eq] at na nb;by_cases hs:(Cx ds x).2=(Cx ds y).2
   ·rw [if_neg (by omega)] at h;have hxy:x=y:=(hconA rfl).2 y hs (hconB rfl).1;subst hxy;have key:∀(l ps qs:List Ty),(∀u∈ps,SizeOf.sizeOf u<k)->Bd ds l=true->l.length=ps.length->l.length=qs.length->(∀(i:Nat) t u,l[i]?=some t->ps[i]?=some u->FZ ds t u)->(∀(i:Nat) t u,l[i]?=some t->qs[i]?=some u->FZ ds t u)->Cc ds ps qs=0->ps=qs:=by
     intro l
     induction l with
     | nil =>
      intro ps qs _ _ e1 e2 _ _ _;rw [List.eq_nil_of_length_eq_zero e1.symm,List.eq_nil_of_length_eq_zero e2.symm]
     | cons t l ihl =>
      intro ps qs hz hn e1 e2 g1 g2 ho0;cases ps with
      | nil=>simp at e1
      | cons p r =>
       cases qs with
       | nil=>simp at e2
       | cons q s =>
        simp only [Bd,Bool.and_eq_true] at hn;simp only [Cc] at ho0;by_cases e:BS ds p q=0
        ·rw [if_neg (by omega)] at ho0;have i1:=ih p t q (hz p (by simp)) hn.1 (g1 0 t p rfl rfl) (g2 0 t q rfl rfl) e;have i2:=ihl r s (λu hu=>hz u (by simp [hu])) hn.2 (by simpa using e1) (by simpa using e2) (λi t u h1 h2=>g1 (i+1) t u (by simpa using h1) (by simpa using h2)) (λi t u h1 h2=>g2 (i+1) t u (by simpa using h1) (by simpa using h2)) ho0;rw [i1,i2]
        ·rw [if_pos e] at ho0;exact absurd ho0 e
    have:=key _ ps qs hlt hnm pa pb pa2 pb2 h;rw [na.1.1,nb.1.1,this]
   ·rw [if_pos (by omega)] at h;omega
  rw [if_neg f4] at na;cases na
theorem WZ {ds:List Dt} (ho:OkW ds) {t:Ty} (hn:AB ds t=true) {S:Ty->Prop} (hS:∀v,S v->FZ ds t v) {a b:Option Ty} (ha:GF ds S a) (hb:GF ds S b):a=b:=by
 cases a with
 | none =>
  cases b with
  | none=>rfl
  | some b=>exact absurd hb.1 (ha b)
 | some a =>
  cases b with
  | none=>exact absurd ha.1 (hb a)
  | some b =>
   have h1:=ha.2 b hb.1;have h2:=hb.2 a ha.1;have oa:=hS a ha.1;have ob:=hS b hb.1;have han:=Ff ho _ a t b (Nat.lt_succ_self _) hn oa ob;simp only [Cm] at h1 h2;by_cases e:Ai a=Ai b
   ·rw [if_pos (by omega),decide_eq_false_iff_not] at h1;rw [if_pos e,decide_eq_false_iff_not] at h2;rw [WO ho _ a t b (Nat.lt_succ_self _) hn oa ob (by omega)]
   ·rw [if_neg (by omega),decide_eq_false_iff_not] at h1;rw [if_neg e,decide_eq_false_iff_not] at h2;omega
theorem OH {c:Cse} (h:Bl c=true) {r:Int} (h1 : -1<=r) (h2:r<c.rows.length):GF c.datas (λv=>FZ c.datas c.type v/\Bk v 0 c.rows=r) (Dv c (An c.type) r) :=
 Es (λv=>by rw [X8 v c.rows r h1 h2]) (ZO h r).1
theorem T8 {c:Cse} {n:Nat} {p:Ty} (hp:c.rows[n]?=some p) {v:Ty} (hf:Bk v 0 c.rows≠n):Bk v 0 (DV c n).rows=H9 n (Bk v 0 c.rows):=by
 have e:=Ao hp;have e2:=List.take_append_drop n c.rows;rw [e] at e2;have hl:=(List.getElem?_eq_some_iff.1 hp).1;have ht:(c.rows.take n).length=n:=by rw [List.length_take];omega
 have:=Qf v p (c.rows.drop (n+1)) trivial (c.rows.take n) 0 (by rw [e2,ht];simpa using hf);rw [e2,ht,Nat.zero_add] at this;exact this
theorem Vi {c:Cse} {n:Nat} {p:Ty} (hp:c.rows[n]?=some p):(DV c n).rows.length+1=c.rows.length:=by
 have hl:=(List.getElem?_eq_some_iff.1 hp).1;simp only [DV,List.length_append,List.length_take,List.length_drop];omega
theorem Vj {c:Cse} (h:Bl c=true) {n:Nat} {p:Ty} (hp:c.rows[n]?=some p) (hu:Dv c (An c.type) n=none) {r:Int} (h1 : -1<=r) (h2:r<c.rows.length) (hr:r≠n) :
  Dv (DV c n) (An c.type) (H9 n r)=Dv c (An c.type) r:=by
 have hl:=(List.getElem?_eq_some_iff.1 hp).1;have hlen:=Vi hp;have hno:=OH h (r:=n) (by omega) (by omega);rw [hu] at hno;have a1:=OH h h1 h2;have a2:=OH (Sw hp h) (r:=H9 n r) (by simp only [H9];split <;> omega) (by simp only [H9];split <;> omega);refine WZ (OkW.of h) (Dc h).2.2.1 (S:=λv=>FZ c.datas c.type v/\Bk v 0 c.rows=r) (λv hv=>hv.1) (Es (λv=>?_) a2) a1;constructor
 ·rintro ⟨b1,b2⟩;have hne:Bk v 0 c.rows≠n:=λe=>hno v ⟨b1,e⟩;rw [T8 hp hne] at b2;refine ⟨b1,?_⟩;simp only [H9] at b2
  split at b2 <;> split at b2 <;> omega
 ·rintro ⟨b1,b2⟩;have hne:Bk v 0 c.rows≠n:=λe=>hno v ⟨b1,e⟩;exact ⟨b1,by rw [T8 hp hne,b2]⟩
def Ly (n:Nat) (l:List Int):List Int:=(l.filter λk:Int=>decide (k≠(n:Int))).map (H9 n)
theorem PW (n:Nat) (a b:List Int):Ly n (a++b)=Ly n a++Ly n b:=by simp [Ly]
theorem L8 {c:Cse} (h:Bl c=true) {n:Nat} {p:Ty} (hp:c.rows[n]?=some p) (hu:Dv c (An c.type) n=none):∀i:Nat,i<=c.rows.length->Ly n (Bs c i)=Bs (DV c n) (if i<=n then i else i-1)
 | 0,_=>by simp [Bs,Ly]
 | i+1,hi=>by
  have ih:=L8 h hp hu i (by omega);simp only [Bs,PW,ih];have hty:(DV c n).type=c.type:=rfl;by_cases e:i=n
  ·subst e;rw [hu];simp only [Option.isSome_none,Bool.false_eq_true,if_false];rw [if_pos (Nat.le_refl _),if_neg (show ¬i+1<=i by omega)];simp [Ly]
  ·have hl:=Vj h hp hu (r:=(i:Int)) (by omega) (by omega) (by omega);by_cases hlt:i<n
   ·rw [if_pos (show i<=n by omega),if_pos (show i+1<=n by omega)];have hm:H9 n (i:Int)=i:=by simp only [H9];rw [if_neg (by omega)]
    rw [hm] at hl;simp only [Bs,hty,hl];cases (Dv c (An c.type) i).isSome with
    | true=>simp [Ly]
    | false =>
     simp only [Bool.false_eq_true,if_false];have:Ly n [(i:Int)]=[(i:Int)]:=by
      simp only [Ly,List.filter_cons,List.filter_nil];rw [if_pos (by simp;omega)];simp only [List.map_cons,List.map_nil,hm]
     rw [this]
   ·rw [if_neg (show ¬i<=n by omega),if_neg (show ¬i+1<=n by omega)];obtain ⟨j,rfl⟩:∃j,i=j+1:=⟨i-1,by omega⟩
    have hm:H9 n ((j+1:Nat):Int)=(j:Int):=by simp only [H9];rw [if_pos (by omega)];omega
    rw [hm] at hl;simp only [Nat.add_sub_cancel,Bs,hty,hl];cases (Dv c (An c.type) ((j+1:Nat):Int)).isSome with
    | true=>simp [Ly]
    | false =>
     simp only [Bool.false_eq_true,if_false];have:Ly n [((j+1:Nat):Int)]=[(j:Int)]:=by
      simp only [Ly,List.filter_cons,List.filter_nil];rw [if_pos (by simp;omega)];simp only [List.map_cons,List.map_nil,hm]
     rw [this]
theorem Jh (c:Cse):∀(i:Nat) (x:Int),x∈Bs c i↔∃k:Nat,x=k/\k<i/\Dv c (An c.type) k=none
 | 0,x=>by simp [Bs]
 | i+1,x=>by
  simp only [Bs,List.mem_append,Jh c i x];constructor
  ·rintro (⟨k,h1,h2,h3⟩ | h)
   ·exact ⟨k,h1,by omega,h3⟩
   ·cases hL:Dv c (An c.type) i with
    | none=>rw [hL] at h;simp at h;exact ⟨i,h,by omega,hL⟩
    | some v=>rw [hL] at h;simp at h
  ·rintro ⟨k,h1,h2,h3⟩;by_cases e:k=i
   ·subst e;right;rw [h3];simp [h1]
   ·exact .inl ⟨k,h1,by omega,h3⟩
set_option maxHeartbeats 4000000 in
theorem CoverLess_of (c:Cse) (n:Int) (v:Ty):Al Tryz.prog 7 [.agg (dCse c),.int .i64 n,.agg (dTyc v)] (.bool true):=by
 have hG:=aL c v;have hk:=ZU;by_cases hgo:(My c&&(JO v&&Ju c v))=true/\0<=n/\n<(c.rows.length:Int)
 case neg =>
  generalize (My c&&(JO v&&Ju c v))=g at *;obtain ⟨ds,⟨c1,c2,c3,c4⟩,rows⟩:=c;obtain ⟨g1,m,z,vs⟩:=v;simp only at hgo;refine Ae Ak Tryz.func7 (by decide +kernel) rfl [1,2,3,4] rfl rfl ?_;refine mg [] rfl (by simp) ?_;refine Ac rfl (λ_=>hG) (by simp) ?_;refine mg [] rfl (by simp) ?_;refine Aa rfl (λh=>?_) (λh=>?_)
  ·refine md [] rfl (by simp) ?_;refine Ac rfl (λ_=>hk) (by simp) ?_;refine mg [] rfl (by simp) ?_;exact Ab ⟨_,rfl,tV rfl,trivial⟩
  ·exfalso;simp at h;exact hgo ⟨h.1.1,h.1.2,h.2⟩
 obtain ⟨hg,hn0,hn1⟩:=hgo;obtain ⟨k,rfl⟩:∃k:Nat,n=k:=⟨n.toNat,by omega⟩
 rw [hg] at hG;simp only [Bool.and_eq_true] at hg;obtain ⟨_,hlit,hfin⟩:=hg;have hfin':=hfin;simp only [Ju,<- Nd,Bool.and_eq_true] at hfin';obtain ⟨⟨hc2,hval⟩,hof⟩:=hfin';have hlen:=(RowsOk.of hc2).len;obtain ⟨p,hp⟩:=Am (l:=c.rows) (i:=k) (by omega);have hth:CJ c k=true:=by simp only [CJ,Bool.and_eq_true,decide_eq_true_eq];omega
 have hU:=KV c;have hS:=Nl c k;rw [hc2] at hU hS;rw [hth] at hS;simp only [Bool.and_self,cond_true] at hU hS;have hul:=IP c c.rows.length;have hCt:=TU (Bs c c.rows.length) k (by omega);have hmem:((k:Int)∈Bs c c.rows.length)↔Dv c (An c.type) k=none:=by
  rw [Jh];constructor
  ·rintro ⟨j,h1,_,h3⟩;have:j=k:=by omega
   subst this;exact h3
  ·intro h;exact ⟨k,rfl,by omega,h⟩
 cases hL:Dv c (An c.type) k with
 | some w =>
  have hdec:decide ((k:Int)∈Bs c c.rows.length)=false:=decide_eq_false (λh=>by rw [hmem.1 h] at hL;cases hL);rw [hdec] at hCt;rw [hL] at hS;clear hmem hdec;generalize Bs c c.rows.length=U at *;obtain ⟨ds,⟨c1,c2,c3,c4⟩,rows⟩:=c;obtain ⟨g1,m,z,vs⟩:=v;obtain ⟨w1,w2,w3,w4⟩:=w;simp only at hn1 hlen hul;refine Ae Ak Tryz.func7 (by decide +kernel) rfl [1,2,3,4,5] rfl rfl ?_;refine mg [] rfl (by simp) ?_;refine Ac rfl (λ_=>hG) (by simp) ?_;refine mg [] rfl (by simp) ?_;refine Aa rfl (λh=>by exfalso;simp at h;omega) (λh=>?_);clear h;refine md [] rfl (by simp) ?_;refine Ac rfl (λ_=>hU) (by simp) ?_;refine mg [] rfl (by simp) ?_;refine Aa rfl (λh=>by exfalso;simp at h;omega) (λh=>?_);clear h
  refine md [] rfl (by simp) ?_;refine Ac rfl (λ_=>hS) (by simp) ?_;refine mg [] rfl (by simp) ?_;refine Ac rfl (λ_=>hCt) (by simp) ?_;refine mg [] rfl (by simp) ?_;refine Aa rfl (λh=>by simp at h) (λh=>?_);clear h;refine md [] rfl (by simp) ?_;refine Aa rfl (λh=>?_) (λh=>by simp at h);refine md [] rfl (by simp) ?_;refine Ac rfl (λ_=>hk) (by simp) ?_;refine mg [] rfl (by simp) ?_;exact Ab ⟨_,rfl,tV rfl,trivial⟩
 | none =>
  have hdec:decide ((k:Int)∈Bs c c.rows.length)=true:=decide_eq_true (hmem.2 hL);rw [hdec] at hCt;rw [hL] at hS;have hno:=OH hc2 (r:=k) (by omega) (by omega);rw [hL] at hno;have hvT:=iO hval hof;have hne:Bk v 0 c.rows≠k:=λe=>hno v ⟨hvT,e⟩;have hask:=(Q4 hc2 hval hof).1;have hlc:=Sw hp hc2;have hask2:DR (DV c k) v=true:=(Q4 hlc hval hof).1;have hra:=Yg c v;have hrb:=Yg (DV c k) v;rw [hask] at hra;rw [hask2,T8 hp hne] at hrb;have hMa:=IH c;have hMb:=IH (DV c k);have hUb:=KV (DV c k);rw [hc2] at hMa;rw [hlc] at hMb hUb;simp only [cond_true] at hra hrb hMa hMb hUb;have hml:=Vj hc2 hp hL (r:=-1) (by omega) (by omega) (by omega);have hm1:H9 k (-1) = -1:=by simp only [H9];rw [if_neg (by omega)]
  have hll:=Vi hp;have hty:(DV c k).type=c.type:=rfl;rw [hm1] at hml;rw [hty,hml] at hMb;have hus:=L8 hc2 hp hL c.rows.length (Nat.le_refl _);rw [if_neg (by omega),show c.rows.length-1=(DV c k).rows.length by omega] at hus;rw [<- hus] at hUb;have hfl:=SI v c.rows;have hMv:=Va k (Bk v 0 c.rows) (by omega);have hCc:=bL (c.rows.take k) (c.rows.drop (k+1)) (by rw [List.length_take];omega) (by rw [List.length_drop];omega);have hmvl:(Ly k (Bs c c.rows.length)).length<=1000:=by
   have:=List.length_filter_le (λj:Int=>decide (j≠(k:Int))) (Bs c c.rows.length);simp only [Ly,List.length_map];omega
  have hEq:=bK (Ly k (Bs c c.rows.length)) hmvl;have hUm:∀x∈Bs c c.rows.length,0<=x/\x<1000:=λx hx=>by
   obtain ⟨j,h1,h2,_⟩:=(Jh c c.rows.length x).1 hx;omega
  have hrows:AT (c.rows.take k)++AT (c.rows.drop (k+1))=AT (DV c k).rows:=by simp only [Cl,DV,List.map_append]
  have htk:(AT c.rows).take k=AT (c.rows.take k):=by simp only [Cl,List.map_take]
  have hdr:(AT c.rows).drop (k+1)=AT (c.rows.drop (k+1)):=by simp only [Cl,List.map_drop]
  rw [hrows] at hCc;have ew:IntKind.i64.wrap ((k:Int)+1)=((k+1:Nat):Int):=by rw [B9 (by omega) (by omega)];omega
  have hd4:∀d∈AT c.rows,d.length=4:=λd hd=>by
   rw [Cl] at hd;obtain ⟨t,_,rfl⟩:=List.mem_map.1 hd;exact dTyc_length t
  clear hmem hdec hno hask hask2 hml hus hlc hll hty hm1;generalize Bk v 0 c.rows=a at *;generalize Bs c c.rows.length=U at *;obtain ⟨w,er,hR⟩:∃w er,Jt (Dv c (An c.type) (-1)) = .tup [.agg (dTyc w),.int .i64 er]:=by
   cases Dv c (An c.type) (-1) with
   | none=>exact ⟨_,_,rfl⟩
   | some w=>exact ⟨_,_,rfl⟩
  rw [hR] at hMa hMb;clear hR;have hkS:=Sz w w (Pz w);have hdl:dCse (DV c k)=[.sl (c.datas.map C7)]++dTyc c.type++[.sl (AT (DV c k).rows)]:=rfl;rw [hdl] at hrb hMb hUb;generalize (DV c k).rows=rows2 at *;obtain ⟨ds,⟨c1,c2,c3,c4⟩,rows⟩:=c;obtain ⟨g1,m,z,vs⟩:=v;obtain ⟨w1,w2,w3,w4⟩:=w;simp only at hn1 hlen hul hfl;have hCc2:AV Tryz.prog 36 [.imm (.sl [[.sl (List.take ((k:Nat):Int).toNat (AT rows))],[.sl (List.drop (IntKind.i64.wrap ((k:Int)+1)).toNat (AT rows))]])] [] (.ret (.imm (.sl (AT rows2))) []):=by
   rw [ew,Int.toNat_natCast,Int.toNat_natCast,htk,hdr];exact hCc
  refine Ae Ak Tryz.func7 (by decide +kernel) rfl [1,2,3,4,5,6,7,8,9] rfl rfl ?_;refine mg [] rfl (by simp) ?_;refine Ac rfl (λ_=>hG) (by simp) ?_;refine mg [] rfl (by simp) ?_;refine Aa rfl (λh=>by exfalso;simp at h;omega) (λh=>?_);clear h;refine md [] rfl (by simp) ?_;refine Ac rfl (λ_=>hU) (by simp) ?_;refine mg [] rfl (by simp) ?_;refine Aa rfl (λh=>by exfalso;simp at h;omega) (λh=>?_);clear h;refine md [] rfl (by simp) ?_;refine Ac rfl (λ_=>hS) (by simp) ?_;refine mg [] rfl (by simp) ?_;refine Ac rfl (λ_=>hCt) (by simp) ?_;refine mg [] rfl (by simp) ?_;refine Aa rfl (λh=>by simp at h) (λh=>?_);clear h;refine md [] rfl (by simp) ?_;refine Aa rfl (λh=>by simp at h) (λh=>?_);clear h
  refine md [] rfl (by
   simp;refine ⟨⟨by rw [ew];omega,by rw [ew];omega⟩,hd4,by omega,hd4⟩) ?_
  refine Qg rfl (by simp) ?_;refine Ay (st0:=[]) (fr:=[]) [] [] rfl (by simp) hCc2 trivial rfl rfl rfl rfl ?_;refine mg [] rfl (by simp;rfl) ?_;refine Ac rfl (λ_=>hra) (by simp) ?_;refine mg [] rfl (by simp) ?_;refine Ac rfl (λ_=>hrb) (by simp) ?_;refine mg [] rfl (by simp) ?_;refine fO rfl (λh=>h) (λ_=>hMv) rfl (by simp [Ag]) ?_;refine mg [] rfl (by simp) ?_;refine Aa rfl (λh=>by exfalso;simp at h;exact hne h) (λh=>?_);clear h;refine md [] rfl (by simp) ?_;refine Ac rfl (λ_=>hMa) (by simp) ?_;refine mg [] rfl (by simp) ?_;refine Ac rfl (λ_=>hMb) (by simp) ?_;refine mg [] rfl (by simp) ?_;refine Ac rfl (λ_=>hUb) (by simp) ?_;refine mg [] rfl (by simp) ?_
  refine CI (e:=3) (sz:=1) 23 8 (by decide) rfl ?_;have er2:∀a b,AX (a++b)=AX a++AX b:=λa b=>by simp [AX]
  have hst:∀i,i<U.length->Ly k (U.take (i+1))=Ly k (U.take i)++Ly k [U.getD i 0]:=λi h=>by
   rw [<- PW];congr 1;rw [List.take_add_one,List.getElem?_eq_getElem h];simp [List.getD,h]
  have hle:∀i,(AX (Ly k (U.take i))).length<=5:=λi=>by
   have h1:=List.length_filter_le (λj:Int=>decide (j≠(k:Int))) (U.take i);have h2:(U.take i).length<=U.length:=by rw [List.length_take];omega
   simp only [Ly,rowI_length,List.length_map];omega
  have hUm2:∀i,i<U.length->0<=U.getD i 0/\U.getD i 0<1000:=λi h=>hUm _ (by
   rw [List.getD_eq_getElem?_getD,List.getElem?_eq_getElem h];exact List.getElem_mem h)
  refine Aj (λi:Nat=>[(141,.imm (.int .i64 i)),(140,.imm (.int .i64 U.length)),(139,.imm (.sl (AX U))),(23,.own 8 (AX (Ly k (U.take i))).length),(12,.fn (.func 37) [] [.ref 2 0]),(4,.ref 2 0),(17,.ref 6 0),(18,.imm (.int .i64 er)),(19,.ref 7 0),(20,.imm (.int .i64 er)),(21,.imm (.sl (AX (Ly k U)))),(22,.imm (.int .i64 0))])
   (λi=>[(8,some (.row 3 1 (AX (Ly k (U.take i))))),(2,some (.immb 3 1 [.int .i64 k])),(6,some (.immb 35 4 (dTyc (.mk w1 w2 w3 w4)))),(7,some (.immb 35 4 (dTyc (.mk w1 w2 w3 w4))))]) [9,10,11] (λi=>U.length-i) (λi=>i<=U.length) 0 (Nat.zero_le _)
   ⟨rfl,As (by simp),rfl,rfl,rfl,rfl,rfl,rfl,rfl,rfl,rfl,rfl,trivial⟩ ⟨rfl,rfl,rfl,rfl,trivial⟩ rfl λi hi ih=>?_
  refine md [] rfl (by simp) ?_;refine Aa rfl (λh=>?_) (λh=>?_)
  ·simp at h;have hih:=ih (i+1) (by omega) (by omega);have hg:=G4 h;have hMi:=Va k (U.getD i 0) (by have:=hUm2 i h;omega);have hll:=hle i;rw [hst i h,er2] at hih;generalize U.getD i 0=y at *;generalize AX (Ly k (U.take i))=l at *;refine md [] rfl (by simp) ?_;refine mi rfl (c:=[.int .i64 y]) (λ_=>⟨by simp,by simpa using hg,rfl⟩) (by simp) ?_;refine mg [] rfl (by simp) ?_;by_cases e:y=(k:Int)
   ·have hm0:Ly k [y]=[]:=by simp [Ly,e]
    rw [hm0] at hih;simp only [AX,List.map_nil,List.append_nil] at hih;refine Aa rfl (λh=>by exfalso;simp at h;exact h e) (λh=>?_);refine md [] rfl (by simp) ?_;exact Ad hih ⟨As (B9 (by omega) (by omega)),rfl,rfl,rfl,rfl,rfl,rfl,rfl,rfl,rfl,rfl,rfl,trivial⟩ ⟨rfl,rfl,rfl,rfl,trivial⟩ rfl
   ·have hm1:Ly k [y]=[H9 k y]:=by simp [Ly,e]
    rw [hm1] at hih;refine Aa rfl (λh=>?_) (λh=>by exfalso;simp at h;exact e h);refine md [] rfl (by simp) ?_;refine Hv rfl (λ_=>hMi) rfl (by simp) ?_;refine mg [] rfl (by simp) ?_;refine BC Ak rfl ⟨by simp,by simp [maxLen] at hll ⊢;omega,by simp at hll ⊢;omega,trivial⟩ ?_;refine mg [] rfl (by simp) ?_;refine A4 8 9 rfl ?_;exact Ad hih ⟨As (B9 (by omega) (by omega)),rfl,rfl,by simp only [List.length_append];rfl,rfl,rfl,rfl,rfl,rfl,rfl,rfl,rfl,trivial⟩ ⟨rfl,rfl,rfl,rfl,trivial⟩ rfl
  ·simp at h;refine Ar rfl ?_;refine BD 8 rfl ?_;have hall:U.take i=U:=List.take_of_length_le (by omega);rw [hall];refine md [] rfl (by simp) ?_;refine Ac rfl (λ_=>hkS) (by simp [Ag]) ?_;refine mg [] rfl (by simp) ?_;refine Ac rfl (λ_=>hEq) (by simp [Ag]) ?_;refine mg [] rfl (by simp) ?_;refine Ac rfl (λ_=>hk) (by simp) ?_;refine mg [] rfl (by simp) ?_;exact Ab ⟨_,rfl,tV (by simp),trivial⟩
end Go.Hk
namespace Go.Hk
open Go.RowKit Go.WideShapes Go.ChangeShapes
theorem Ext.below {I I':Imm} {μ μ':Mu} {w w':World} {st':St} (h:Ext I μ [] w I' μ' st' w'):Below w.heap.size w w' :=
 ⟨h.os,h.tape,h.output,h.size,λk hk=>h.block k hk (by rintro ⟨id,blk,g,hl,_⟩;cases hl)⟩
theorem fC {H:Type} {enc:TypeId×Value->H} {P:Program} {f:Func} {s:ChangeSpec} {apart fresh handsOn again:Bool} {W W':World} {args:Array Value} {v:Value} {ds gs:List (DataW H)} {before pa pv:List MemPlace}
  (hW:DataW.Whole enc P f.params.toList s.vars apart W args.toList ds gs before) (hb:Below W.heap.size W W') (hps:before=pa++pv)
  (hres:∀(b:Nat) (sp:Nat->Bool) (hd:Bool),DataW.TrodAll enc P W' b sp hd f.resultTypes.toList (v.resultList f.resultTypes.size) (s.fn H (ds++gs)).results [])
  (hargs:∀sp:Nat->Bool,(∀p∈before,sp p.block=true)->DataW.TrodAll enc P W' 0 sp true f.params.toList args.toList (s.fn H (ds++gs)).args pa)
  (hvars:∀sp:Nat->Bool,(∀p∈before,sp p.block=true)->DataW.TrodVars enc P W' sp s.vars (s.fn H (ds++gs)).vars pv)
  (hok:∀(j:Nat) (t:TypeId) (r:Value),f.resultTypes[j]?=some t->(v.resultList f.resultTypes.size)[j]?=some r->Value.okWide P W' .any 0 t r) :
  s.post enc P f apart fresh handsOn again W args v W':=by
 have lt:∀p∈before,decide (p.block<W.heap.size)=true:=λp hp=>by simpa using hW.lt p hp
 refine ⟨ds,gs,before,[],pa,pv,hW,hres _ _ _,hargs (λb=>decide (b<W.heap.size)) lt,hvars (λb=>decide (b<W.heap.size)) lt,World.keptBut_mono (λp hp=>⟨hp,.inr ?_⟩) (hb.frame (· ∈ before)),λ_=>⟨hok,?_⟩⟩
 ·rw [hps] at hp;exact List.mem_append.1 hp
 ·have hlt:=hW.lt;obtain ⟨_,_,_,_,_,hz,hn⟩:=hW;refine ⟨(s.fn H (ds++gs)).results++(s.fn H (ds++gs)).args,(s.fn H (ds++gs)).vars,pa++pv,⟨pa,pv,?_,hvars _ (λ_ _=>rfl),rfl,λb off hp=>?_,λha=>?_⟩,λp hp _=>by rw [hps];exact hp⟩
  ·have:=trodAll_append (hargs (λ_=>true) λ_ _=>rfl) (hres 0 (λ_=>true) true);simpa using this
  ·have hin:MemPlace.cell b off∈before:=by rw [hps];exact hp
   rw [hb.frozen (hlt _ hin)];exact hz b off hin
  ·rw [<- hps];exact hn ha
end Go.Hk
namespace Go.Hk
def immW (W:World):Imm:=λb=>W.heap[b]?
theorem jL (W:World):(immW W).ok W:=λ_ _ h=>h
def Rds (P:Program) (W:World) (n:Nat) (t:TypeId) (cs:List Value):Prop :=
 ∃(H:Type) (enc:TypeId×Value->H) (x:DataW H×List MemPlace),DataW.trod enc P W 0 (λ_=>true) true n t cs=some x
def RV (W:World) (cs:List Value) (xs:List V):Prop:=RepVL (immW W) cs xs/\∀c∈cs,c.oneCell'=true
theorem RV.app {W:World} {a b:List Value} {x y:List V} (h:RV W a x) (k:RV W b y):RV W (a++b) (x++y) :=
 ⟨h.1.append k.1,λc hc=>(List.mem_append.1 hc).elim (h.2 c) (k.2 c)⟩
theorem RV.one {W:World} {v:Value} {x:V} (h:RepV (immW W) v x) (h1:v.oneCell'=true):RV W [v] [x] :=
 ⟨.mk h .nil,λc hc=>by simp at hc;rw [hc];exact h1⟩
theorem RV.agg {W:World} {cs:Array Value} {xs:List V} (h:RV W cs.toList xs):RepV (immW W) (.agg cs) (.agg xs) :=
 .agg _ _ (by simpa using h.1.1) h.2 (λi c x a b=>h.1.2 i c x (by simpa using a) b)
theorem RV.len {W:World} {cs:List Value} {xs:List V} (h:RV W cs xs):cs.length=xs.length:=h.1.1
section
variable {P:Program} {W:World} {tt:TT} {n:Nat} {t:TypeId} {cs:List Value}
theorem OB {k:IntKind} {a:Bool} {sz by_:Nat} {z:List D} (htt:TTok P tt) (hl:lk tt t=some ⟨.int k,a,sz,by_,z⟩) (h:Rds P W n t cs):∃m,RV W cs [.int k m]/\(Lit.int k m).wf=true:=by
 obtain ⟨H,enc,x,h⟩:=h;have hu:P.underlying t=some (.int k):=htt.sh hl;cases n with
 | zero=>simp [DataW.trod] at h
 | succ n =>
  unfold DataW.trod at h;rw [hu] at h
  split at h <;> simp_all
  rename_i k' m heq;exact ⟨m,.one (.int _ _) rfl,h.1.2⟩
theorem OA {a:Bool} {sz by_:Nat} {z:List D} (htt:TTok P tt) (hl:lk tt t=some ⟨.str,a,sz,by_,z⟩) (h:Rds P W n t cs):∃s,RV W cs [.str s]/\s.length<=maxLen:=by
 obtain ⟨H,enc,x,h⟩:=h;have hu:P.underlying t=some .string:=htt.sh hl;cases n with
 | zero=>simp [DataW.trod] at h
 | succ n =>
  unfold DataW.trod at h;rw [hu] at h
  split at h <;> simp_all
  rename_i s;exact ⟨s.data.toList,.one (.str _ _ rfl) rfl,by have:=h.1;simpa using this⟩
theorem QO {a:Addr} {k:Nat} {cs':List Value} (h:W.cells? 0 a k=some cs') (hk:0<k):a.spot=none/\∀(j:Nat) (v:Value),cs'[j]?=some v->(immW W).cell a.block (a.off+j)=some v:=by
 obtain ⟨_,h2,h3⟩:=World.cells?_some h;have cell:∀(b:Addr) (v:Value),W.cell? b=some v->b.spot=none/\(immW W).cell b.block b.off=some v:=by
  intro b v hb;unfold World.cell? at hb
  split at hb
  ·rename_i c t0 fz hh
   split at hb
   ·cases hb
   ·rename_i hs;refine ⟨by cases h:b.spot with | none=>rfl | some _=>rw [h] at hs;exact absurd rfl hs,?_⟩;unfold Imm.cell immW;rw [hh];exact hb
  ·cases hb
 have hs:a.spot=none:=by
  have hlt:0<cs'.length:=by omega
  have:=h3 0 hk;rw [List.getElem?_eq_getElem hlt] at this;exact (cell (a.add 0) _ this).1
 refine ⟨hs,λj v hv=>?_⟩;have hj:=(List.getElem?_eq_some_iff.1 hv).1;have:=(cell (a.add j) v (by rw [h3 j (by omega)];exact hv)).2;unfold Addr.add at this;by_cases h0:j=0
 ·subst h0;simpa using this
 ·rw [if_neg h0] at this;exact this
theorem Gp {α:Type} {e:TypeId} {a:Bool} {sz by_:Nat} {z:List D} {i:TyI} {d:α->List V} (htt:TTok P tt) (hl:lk tt t=some ⟨.sl e,a,sz,by_,z⟩) (hi:lk tt e=some i) (hpos:0<i.size)
  (hd:∀x,(d x).length=i.size) (hel:∀m,m<n->∀cs',Rds P W m e cs'->∃x,RV W cs' (d x)) (h:Rds P W n t cs):∃xs:List α,RV W cs [.sl (xs.map d)]:=by
 obtain ⟨H,enc,x,h⟩:=h;have hu:P.underlying t=some (.slice e):=htt.sh hl;have hce:P.cellsOf e=i.size:=(htt e i hi).cellsOf;rcases DataW.trod_slice hu h with ⟨rfl,_⟩ | ⟨ad,len,cap,elems,rest,m,rfl,rfl,_,_,h1,h2,h3,h4,h5,_⟩
 ·exact ⟨[],.one .slnil rfl⟩
 rw [hce] at h4 h5;have he:∀k,k<len->∃(cs':List Value) (x:α),W.cells? 0 (ad.add (k*i.size)) i.size=some cs'/\RV W cs' (d x):=by
  intro k hk;have:=h4 k hk;rw [List.getElem?_eq_getElem (by omega)] at this;obtain ⟨cs',q1,q2⟩:=Option.bind_eq_some_iff.1 this;obtain ⟨x,hx⟩:=hel m (by omega) cs' ⟨H,enc,_,q2⟩;exact ⟨cs',x,q1,hx⟩
 have hch:∃(C:Nat->List Value) (X:Nat->Option α),∀k,k<len->∃x,X k=some x/\W.cells? 0 (ad.add (k*i.size)) i.size=some (C k)/\RV W (C k) (d x):=by
  classical
  refine ⟨λk=>if hk:k<len then (he k hk).choose else [],λk=>if hk:k<len then some ((he k hk).choose_spec.choose) else none,λk hk=>?_⟩;simp only [hk,dif_pos];exact ⟨_,rfl,(he k hk).choose_spec.choose_spec⟩
 obtain ⟨C,X,hCX⟩:=hch;have hlist:∀l,l<=len->∃xs:List α,xs.length=l/\∀k x,xs[k]?=some x->X k=some x:=by
  intro l
  induction l with
  | zero=>exact λ_=>⟨[],rfl,λk x h=>by simp at h⟩
  | succ l ih =>
   intro hl';obtain ⟨xs,q1,q2⟩:=ih (by omega);obtain ⟨x,hx,_⟩:=hCX l (by omega);refine ⟨xs++[x],by simp [q1],λk y hy=>?_⟩;by_cases hk:k<xs.length
   ·rw [List.getElem?_append_left hk] at hy;exact q2 k y hy
   ·rw [List.getElem?_append_right (by omega)] at hy;have:k-xs.length=0:=by
     have:=(List.getElem?_eq_some_iff.1 hy).1;simp at this;omega
    rw [this] at hy;cases hy;have:k=l:=by omega
    rw [this];exact hx
 obtain ⟨xs,hx1,hx2⟩:=hlist len (Nat.le_refl _);refine ⟨xs,.one ?_ rfl⟩;by_cases hcap:cap=0
 ·have:len=0:=by omega
  subst this;subst hcap;have:xs=[]:=List.eq_nil_of_length_eq_zero hx1;subst this;exact .sl0 ad
 have hspot:ad.spot=none:=by
  by_cases hlen:0<len
  ·obtain ⟨x,_,q,_⟩:=hCX 0 hlen;have:=(QO q hpos).1;simpa [Addr.add] using this
  ·have h6:=h5 rfl;have h7:=h6.2 0 (by omega);rw [List.getElem?_eq_getElem (by omega)] at h7;obtain ⟨cs',q1,q2⟩:=Option.bind_eq_some_iff.1 h7;have:=(QO q1 hpos).1;have hl0:len=0:=by omega
   subst hl0;simpa [Addr.add] using this
 obtain ⟨b,o,sp⟩:=ad;simp only at hspot;subst hspot;have hget:∀(k:Nat) (e:List V),(xs.map d)[k]?=some e->k<len/\∃x,X k=some x/\e=d x/\W.cells? 0 ⟨b,o+k*i.size,none⟩ i.size=some (C k)/\RV W (C k) (d x):=by
  intro k e hk;rw [List.getElem?_map,Option.map_eq_some_iff] at hk;obtain ⟨x,q1,q2⟩:=hk;have hlt:=(List.getElem?_eq_some_iff.1 q1).1;obtain ⟨y,r1,r2,r3⟩:=hCX k (by omega);rw [hx2 k x q1] at r1;cases r1;refine ⟨by omega,x,hx2 k x q1,q2.symm,?_,r3⟩;rw [<- r2];congr 1;unfold Addr.add;by_cases h0:k*i.size=0
  ·simp [h0]
  ·simp [h0]
 refine .sl b o len cap i.size _ (λk j=>(C k).getD j undef) (by simp [hx1]) h1 h2 (λe he=>?_) (λk e j x hk hj=>?_) (λk e j x hk hj=>?_)
 ·obtain ⟨x,_,rfl⟩:=List.mem_map.1 he;exact hd x
 ·obtain ⟨_,y,_,rfl,q3,q4⟩:=hget k e hk;have hlt:j<(C k).length:=by rw [q4.len];exact (List.getElem?_eq_some_iff.1 hj).1
  have hv:(C k)[j]?=some ((C k)[j]):=List.getElem?_eq_getElem hlt;have hD:(C k).getD j undef=(C k)[j]:=by simp [List.getD,hv]
  show (immW W).cell b (o+k*i.size+j)=some ((C k).getD j undef)/\((C k).getD j undef).oneCell'=true;rw [hD];exact ⟨(QO q3 hpos).2 j _ hv,q4.2 _ (List.getElem_mem _)⟩
 ·obtain ⟨_,y,_,rfl,q3,q4⟩:=hget k e hk;have hlt:j<(C k).length:=by rw [q4.len];exact (List.getElem?_eq_some_iff.1 hj).1
  have hv:(C k)[j]?=some ((C k)[j]):=List.getElem?_eq_getElem hlt;have hD:(C k).getD j undef=(C k)[j]:=by simp [List.getD,hv]
  show RepV (immW W) ((C k).getD j undef) x;rw [hD];exact q4.1.2 j _ x hv hj
theorem G6 {fs:List (Nat×TypeId)} {a:Bool} {sz by_:Nat} {z:List D} (htt:TTok P tt) (hl:lk tt t=some ⟨.struct fs,a,sz,by_,z⟩) (h:Rds P W n t cs) :
  cs.length=sz/\∃m,n=m+1/\∀(j off:Nat) (ft:TypeId) (i:TyI),fs[j]?=some (off,ft)->lk tt ft=some i->Rds P W m ft ((cs.drop off).take i.size):=by
 obtain ⟨H,enc,x,h⟩:=h;obtain ⟨fields,hu,hmap,_⟩:∃fields,P.underlying t=some (.struct fields)/\fields.toList.map (λf=>(f.offset,f.type))=fs/\∀f∈fields.toList,0<P.cellsOf f.type:=htt.sh hl;obtain ⟨xs,m,rfl,_,h1,h2,h3⟩:=DataW.trod_struct hu h;refine ⟨by rw [h1];exact (htt t _ hl).cellsOf,m,rfl,λj off ft i hj hi=>?_⟩;rw [<- hmap,List.getElem?_map,Option.map_eq_some_iff] at hj;obtain ⟨f,q1,q2⟩:=hj;cases q2;have hf:fields[j]?=some f:=by rw [<- Array.getElem?_toList];exact q1
 have hlt:=(Array.getElem?_eq_some_iff.1 hf).1;have:=h3 j f hf;rw [List.getElem?_eq_getElem (by omega),(htt _ i hi).cellsOf] at this;exact ⟨H,enc,_,this⟩
end
end Go.Hk
namespace Go.Hk
open Go.Proofs
section
variable {W:World}
theorem oG {α:Type} {l:List α} (h:l.length=4):∃a b c d,l=[a,b,c,d]:=by
 match l,h with
 | [a,b,c,d],_=>exact ⟨a,b,c,d,rfl⟩
theorem LR (l:List Ty):l.map dTyc=AT l:=(Cl l).symm
theorem Sa (tt0 ts tl:TypeId) (hs:lk cG tt0=some ⟨.struct [(0,ts),(1,3),(2,9),(3,tl)],true,4,56,[.imm (.int .i64 0),.imm (.int .i64 0),.imm (.str []),.nils]⟩)
  (h1:lk cG ts=some ⟨.int .i64,false,1,8,[.imm (.int .i64 0)]⟩) (h2:lk cG tl=some ⟨.sl tt0,false,1,24,[.nils]⟩) :
  ∀(n:Nat) (cs:List Value),Rds Tryz.prog W n tt0 cs->∃t:Ty,RV W cs (dTyc t):=by
 intro n
 induction n using Nat.strongRecOn with
 | ind n ih =>
  intro cs h;obtain ⟨hl,m,rfl,hf⟩:=G6 B5 hs h;obtain ⟨a,b,c,d,rfl⟩:=oG hl;obtain ⟨s,r1,_⟩:=OB B5 h1 (hf 0 0 ts _ rfl h1);obtain ⟨k,r2,_⟩:=OB B5 rfl (hf 1 1 3 _ rfl rfl);obtain ⟨x,r3,_⟩:=OA B5 rfl (hf 2 2 9 _ rfl rfl);obtain ⟨ps,r4⟩:=Gp (d:=dTyc) B5 h2 hs (show 0<4 by decide) dTyc_length (λm' hm cs'=>ih m' (by omega) cs') (hf 3 3 tl _ rfl h2);exact ⟨.mk s k x ps,by rw [dTyc,<- LR];exact ((r1.app r2).app r3).app r4⟩
theorem RZ (n:Nat) (cs:List Value) (h:Rds Tryz.prog W n 26 cs):∃t:Ty,RV W cs (dTyc t):=Sa 26 23 24 rfl rfl rfl n cs h
theorem dR (n:Nat) (cs:List Value) (h:Rds Tryz.prog W n 62 cs):∃t:Ty,RV W cs (dTyc t):=Sa 62 60 27 rfl rfl rfl n cs h
theorem dS (n:Nat) (cs:List Value) (h:Rds Tryz.prog W n 90 cs):∃c:Cd,RV W cs (Dy c):=by
 obtain ⟨hl,m,rfl,hf⟩:=G6 B5 rfl h
 match cs,hl with
 | [a,b],_ =>
 obtain ⟨x,r1,_⟩:=OA B5 rfl (hf 0 0 9 _ rfl rfl);obtain ⟨ts,r2⟩:=Gp (d:=dTyc) B5 rfl (e:=26) rfl (by decide) dTyc_length (λm' hm cs'=>RZ m' cs') (hf 1 1 24 _ rfl rfl);exact ⟨⟨x,ts⟩,by rw [Dy,<- LR];exact r1.app r2⟩
theorem Z8 (n:Nat) (cs:List Value) (h:Rds Tryz.prog W n 87 cs):∃c:Dt,RV W cs (C7 c):=by
 obtain ⟨hl,m,rfl,hf⟩:=G6 B5 rfl h
 match cs,hl with
 | [a,b],_ =>
 obtain ⟨x,r1,_⟩:=OA B5 rfl (hf 0 0 9 _ rfl rfl);obtain ⟨ts,r2⟩:=Gp (d:=Dy) B5 rfl (e:=90) rfl (by decide) (λ_=>rfl) (λm' hm cs'=>dS m' cs') (hf 1 1 85 _ rfl rfl);exact ⟨⟨x,ts⟩,r1.app r2⟩
end
end Go.Hk
namespace Go.Hk
open Go.Proofs
section
variable {W:World}
theorem read_val:∀(n:Nat) (cs:List Value),Rds Tryz.prog W n 35 cs->∃t:Ty,RV W cs (dTyc t):=by
 intro n
 induction n using Nat.strongRecOn with
 | ind n ih =>
  intro cs h;obtain ⟨hl,m,rfl,hf⟩:=G6 Dq rfl h;obtain ⟨a,b,c,d,rfl⟩:=oG hl;obtain ⟨s,r1,_⟩:=OB Dq rfl (hf 0 0 32 _ rfl rfl);obtain ⟨k,r2,_⟩:=OB Dq rfl (hf 1 1 3 _ rfl rfl);obtain ⟨x,r3,_⟩:=OA Dq rfl (hf 2 2 9 _ rfl rfl);obtain ⟨ps,r4⟩:=Gp (d:=dTyc) Dq rfl (e:=35) rfl (show 0<4 by decide) dTyc_length (λm' hm cs'=>ih m' (by omega) cs') (hf 3 3 33 _ rfl rfl);exact ⟨.mk s k x ps,by rw [dTyc,<- LR];exact ((r1.app r2).app r3).app r4⟩
theorem read_case (n:Nat) (cs:List Value) (h:Rds Tryz.prog W n 29 cs):∃c:Cse,RV W cs (dCse c):=by
 obtain ⟨hl,m,rfl,hf⟩:=G6 Dq rfl h
 match cs,hl with
 | [a0,a1,a2,a3,a4,a5],_ =>
 obtain ⟨ds,r1⟩:=Gp (d:=C7) Dq rfl (e:=87) rfl (by decide) (λ_=>rfl) (λm' hm cs'=>Z8 m' cs') (hf 0 0 22 _ rfl rfl);obtain ⟨t1,r2⟩:=RZ _ _ (hf 1 1 26 _ rfl rfl);obtain ⟨ps,r3⟩:=Gp (d:=dTyc) Dq rfl (e:=62) rfl (by decide) dTyc_length (λm' hm cs'=>dR m' cs') (hf 2 5 27 _ rfl rfl);exact ⟨⟨ds,t1,ps⟩,by rw [dCse,<- LR];exact (r1.app r2).app r3⟩
end
end Go.Hk
namespace Go.Hk
open Go.RowKit Go.WideShapes Go.ChangeShapes Go.ChangeAt
theorem Le {H:Type} {enc:TypeId×Value->H} {P:Program} (hl:laidOutB P=true) {W W':World} (hb:Below W.heap.size W W') {sp:Nat->Bool} :
  ∀{ts:List TypeId} {vs:List Value} {ds:List (DataW H)} {ps:List MemPlace},ts.all (λt=>P.readableRec t&&decide (t<P.types.size))=true->DataW.TrodAll enc P W 0 (λ_=>true) true ts vs ds ps ->
   (∀p∈ps,p.block<W.heap.size)->(∀p∈ps,sp p.block=true)->DataW.TrodAll enc P W' 0 sp true ts vs ds ps
 | [],[],[],_,_,h,_,_=>h
 | [],[],_::_,_,_,h,_,_=>h.elim
 | [],_::_,_,_,_,h,_,_=>h.elim
 | _::_,[],_,_,_,h,_,_=>h.elim
 | _::_,_::_,[],_,_,h,_,_=>h.elim
 | t::ts,v::vs,d::ds,ps,ht,h,hlt,hs=>by
  obtain ⟨p,q,h1,h2,rfl⟩:=h;rw [List.all_cons,Bool.and_eq_true,Bool.and_eq_true,decide_eq_true_eq] at ht;refine ⟨p,q,WideElems.Trod_stays hl ht.1.1 ht.1.2 h1 (λx hx=>hb.same (hlt x (List.mem_append_left _ hx))) (λx hx=>hs x (List.mem_append_left _ hx)),?_,rfl⟩;exact Le hl hb ht.2 h2 (λx hx=>hlt x (List.mem_append_right _ hx)) (λx hx=>hs x (List.mem_append_right _ hx))
theorem Rds.of {H:Type} {enc:TypeId×Value->H} {P:Program} {W:World} {t:TypeId} {v:Value} {d:DataW H} {ps:List MemPlace} (h:DataW.Trod enc P W 0 (λ_=>true) true t v d ps):∃n,Rds P W n t v.cells.toList:=by
 obtain ⟨n,hn⟩:=h;exact ⟨n,H,enc,_,hn⟩
section
variable {H:Type} {enc:TypeId×Value->H} {P:Program} {W:World} {sp:Nat->Bool} {hd:Bool}
theorem cK {vs:List Value} {ds:List (DataW H)} {ps:List MemPlace} (h:DataW.TrodAll enc P W 0 sp hd [] vs ds ps):vs=[]/\ds=[]:=by
 cases vs with
 | nil=>cases ds with
  | nil=>exact ⟨rfl,rfl⟩
  | cons=>exact h.elim
 | cons=>cases ds <;> exact h.elim
theorem Pj {t:TypeId} {ts:List TypeId} {vs:List Value} {ds:List (DataW H)} {ps:List MemPlace} (h:DataW.TrodAll enc P W 0 sp hd (t::ts) vs ds ps) :
  ∃v vs' d ds' p q,vs=v::vs'/\ds=d::ds'/\DataW.Trod enc P W 0 sp hd t v d p/\DataW.TrodAll enc P W 0 sp hd ts vs' ds' q:=by
 cases vs with
 | nil=>cases ds <;> exact h.elim
 | cons v vs=>cases ds with
  | nil=>exact h.elim
  | cons d ds =>
   obtain ⟨p,q,h1,h2,_⟩:=h;exact ⟨v,vs,d,ds,p,q,rfl,rfl,h1,h2⟩
theorem cJ {t:TypeId} {vs:List Value} {ds:List (DataW H)} {ps:List MemPlace} (h:DataW.TrodAll enc P W 0 sp hd [t] vs ds ps):∃v d p,vs=[v]/\ds=[d]/\DataW.Trod enc P W 0 sp hd t v d p:=by
 obtain ⟨v,vs',d,ds',p,q,rfl,rfl,h1,h2⟩:=Pj h;obtain ⟨rfl,rfl⟩:=cK h2;exact ⟨v,d,p,rfl,rfl,h1⟩
theorem cI {t u:TypeId} {vs:List Value} {ds:List (DataW H)} {ps:List MemPlace} (h:DataW.TrodAll enc P W 0 sp hd [t,u] vs ds ps) :
  ∃v w d e p q,vs=[v,w]/\ds=[d,e]/\DataW.Trod enc P W 0 sp hd t v d p/\DataW.Trod enc P W 0 sp hd u w e q:=by
 obtain ⟨v,vs',d,ds',p,q,rfl,rfl,h1,h2⟩:=Pj h;obtain ⟨w,e,q,rfl,rfl,h3⟩:=cJ h2;exact ⟨v,w,d,e,p,q,rfl,rfl,h1,h3⟩
theorem trodAll3 {t u x:TypeId} {vs:List Value} {ds:List (DataW H)} {ps:List MemPlace} (h:DataW.TrodAll enc P W 0 sp hd [t,u,x] vs ds ps) :
  ∃v w y d e f p q r,vs=[v,w,y]/\ds=[d,e,f]/\DataW.Trod enc P W 0 sp hd t v d p/\DataW.Trod enc P W 0 sp hd u w e q/\DataW.Trod enc P W 0 sp hd x y f r:=by
 obtain ⟨v,vs',d,ds',p,q,rfl,rfl,h1,h2⟩:=Pj h;obtain ⟨w,y,e,f,q,r,rfl,rfl,h3,h4⟩:=cI h2;exact ⟨v,w,y,d,e,f,p,q,r,rfl,rfl,h1,h3,h4⟩
end
theorem agg_of {P:Program} {W:World} {base:Nat} {t:TypeId} {v:Value} {fs:Array Field} (hu:P.underlying t=some (.struct fs)) (h:Value.okWide P W .any base t v):∃cs,v = .agg cs:=by
 unfold Value.okWide at h;rw [hu] at h;obtain ⟨cs,e,_⟩:=h;exact ⟨cs,e⟩
theorem R0 {P : Program} {f : FuncId} {fn : Func} {c : Code} (hf : P.funcs[f]? = some fn) (hname : (fn.name == "runtime.NumGoroutine") = false) (hb : fn.body = some c) {W : World} {args : Array Value} {vs : List V} {b : Bool} (hv : RepVL (immW W) args.toList vs) (hp : Al P f vs (.bool b)) :
  Calls P f args W λe W'=>e = .returned (.bool b)/\Below W.heap.size W W':=by
 have h:=hp (immW W) (λ_=>none) W args { imm:=jL W,blk:=λid blk hl=>(by cases hl),apart:=λid blk g b hl=>(by cases hl),inj:=λi j bi bj gi gj b hl=>(by cases hl),nodup:=.nil,idsFree:=λid hi=>(by cases hi) }
  ⟨by simpa using hv.1,λi v d h1 h2=>by
   rw [List.getElem?_map,Option.map_eq_some_iff] at h2;obtain ⟨x,q1,rfl⟩:=h2;exact .imm _ _ (hv.2 i v x h1 q1)⟩
 rw [BI hf hname hb] at h;refine Calls.mono h λe w' he=>?_;cases e with
 | returned v =>
  obtain ⟨I',μ',h1,_,_,h4⟩:=he;cases h1 with
  | imm v x hx =>
   cases hx;exact ⟨rfl,h4.below⟩
 | panicked=>exact he.elim
 | outgrown=>exact he.elim
theorem law_done {H:Type} {enc:TypeId×Value->H} {P:Program} {f:FuncId} {fn:Func} {c:Code} {s:ChangeSpec} {apart fresh handsOn again:Bool} {W:World} {args:Array Value} {ds gs:List (DataW H)} {before:List MemPlace} {tb:TypeId} {vs:List V}
  (hW : DataW.Whole enc P fn.params.toList s.vars apart W args.toList ds gs before) (hv : s.vars = []) (hf : P.funcs[f]? = some fn) (hname : (fn.name == "runtime.NumGoroutine") = false) (hb : fn.body = some c) (hrt : fn.resultTypes = #[tb]) (hbool : P.underlying tb = some .bool)
  (hl:laidOutB P=true) (hpar:fn.params.toList.all (λt=>P.readableRec t&&decide (t<P.types.size))=true) (hs:s.fn H ds={ results:=[.lit (.bool true)],args:=ds }) (hx:RepVL (immW W) args.toList vs) (hp:Al P f vs (.bool true)) :
  Calls P f args W λe W'=>∃v,e = .returned v/\s.post enc P fn apart fresh handsOn again W args v W':=by
 refine (R0 hf hname hb hx hp).mono λe W' ⟨he,hg⟩=>?_;subst he;have hW':=hW;obtain ⟨p,q,hA,hV,e1,hfz,hnd⟩:=hW;rw [hv] at hV;have hg0:gs=[]/\q=[]:=by
  cases gs with
  | nil=>exact ⟨rfl,hV⟩
  | cons=>exact hV.elim
 obtain ⟨rfl,rfl⟩:=hg0;rw [List.append_nil] at e1;subst e1;have hlt:=hW'.lt;refine ⟨_,rfl,fC (pa:=before) (pv:=[]) hW' hg (by simp) (λb sp hd=>?_) (λsp hsp=>?_) (λsp hsp=>?_) ?_⟩
 ·rw [List.append_nil,hs,hrt];exact trodAll_cons_mk (shut_bool hbool _) trodAll_mk0
 ·rw [List.append_nil,hs];exact Le hl hg hpar hA hlt hsp
 ·rw [List.append_nil,hs,hv];rfl
 ·exact ok_one hrt rfl (okWide_bool_mk hbool _)
end Go.Hk
namespace Go.Proofs.YtondpmificgknaaGreat.coverLess
open Go.ChangeShapes Go.WideShapes Go.RowKit
set_option linter.unusedVariables false
theorem own:ownKnob Tryz.prog.godebug=none:=by kernel_rfl
theorem mK (os:Os) (started:os.Started) (H:Type) (enc:TypeId×Value->H) :
  ReturnsInHanded {} Tryz.checked os 7 .any (Rows.coverLessSpec.pre6 enc Tryz.prog Tryz.f7 Rows.coverLessRow.domain false) (Rows.coverLessSpec.post enc Tryz.prog Tryz.f7 false true false false):=by
 refine returnsInHanded_of_change (C:=Tryz.checked) own started (by kernel_rfl) Tryz.func7
  (ChangeSpec.witness6 (enc:=enc) (C:=Tryz.checked) false ⟨#[],#[.agg #[.slice none 0 0,.int .i64 0,.int .i64 0,.string ⟨#[]⟩,.slice none 0 0,.slice none 0 0],.int .i64 0,.agg #[.int .i64 0,.int .i64 0,.string ⟨#[]⟩,.slice none 0 0]],[]⟩ 8 (by kernel_rfl) (by kernel_rfl) (by kernel_rfl) (by kernel_rfl)) ?_
 intro W base args ds gs before hval hW hcnd _;obtain ⟨p,q,hA,_⟩:=id hW;obtain ⟨v1,v2,v3,d1,d2,d3,p1,p2,p3,e1,rfl,hd1,hd2,hd3⟩:=Hk.trodAll3 (t:=29) (u:=3) (x:=35) hA;obtain ⟨args⟩:=args;simp only at e1;subst e1;obtain ⟨n1,hn1⟩:=Hk.Rds.of hd1;obtain ⟨n3,hn3⟩:=Hk.Rds.of hd3;obtain ⟨m1,hm1⟩:=Hk.read_case n1 _ hn1;obtain ⟨m3,hm3⟩:=Hk.read_val n3 _ hn3;obtain ⟨c1,rfl⟩:=Hk.agg_of Tryz.underlying29 (hval 0 29 v1 rfl rfl);obtain ⟨m2,rfl⟩:=WideShapes.okWide_int Tryz.underlying3 (hval 1 3 v2 rfl rfl);have r2:Hk.RepV (Hk.immW W) (.int .i64 m2) (.int .i64 m2):=.int _ _;obtain ⟨c3,rfl⟩:=Hk.agg_of Tryz.underlying35 (hval 2 35 v3 rfl rfl)
 exact Hk.law_done hW rfl Tryz.func7 (by decide +kernel) rfl rfl Tryz.underlying4 (by kernel_rfl) (by kernel_rfl) rfl (vs:=[.agg (Hk.dCse m1),.int .i64 m2,.agg (Hk.dTyc m3)]) (.mk (Hk.RV.agg hm1) (.mk r2 (.mk (Hk.RV.agg hm3) .nil))) (Hk.CoverLess_of m1 m2 m3)
theorem over:Rows.coverLessRow.holds Tryz.pinned (OpenSpec.ofChange Rows.coverLessSpec) :=
 OpenClaim.holds_of_wide 7 Tryz.f7 rfl rfl rfl rfl rfl rfl rfl ⟨rfl,rfl,rfl,rfl,rfl⟩ rfl rfl rfl rfl rfl (by kernel_rfl) Tryz.func7 (by kernel_rfl)
  (of_decide_eq_true (by kernel_rfl)) (by unfold Func.isWrapper;first | (rw [if_pos (by decide +kernel)];kernel_rfl) | (rw [if_neg (by decide +kernel)];exact ⟨rfl,rfl⟩))
  (λos started H enc _=>mK os started H enc)
theorem proved:Rows.CoverLessSaid :=
 over
end Go.Proofs.YtondpmificgknaaGreat.coverLess
