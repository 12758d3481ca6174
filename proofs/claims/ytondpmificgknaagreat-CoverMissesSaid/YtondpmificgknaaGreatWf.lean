/- hearthlaw04.CoverMisses returns true for every case, and changes nothing: the first value that no row matches, and the rows that are of no use. No condition. (And what it stands on.) -/
import Derived.Test.YtondpmificgknaaGreatWe
import Derived.Test.YtondpmificgknaaGreatWb
import Derived.Below
import Derived.ChangeSame
import Derived.ChangeOld
import Derived.Carry
import Derived.ChangeArms
import Derived.DataReads
import Derived.WideKeyArgs
import Derived.OpenShut
import Derived.RowKit
import Derived.ProofKit
import Derived.Test.YtondpmificgknaaGreatRows
import Derived.WalkKit
set_option linter.unusedSimpArgs false
set_option linter.unusedVariables false

set_option maxRecDepth 100000
namespace Go.Hk
open Go.Proofs
def NI (q:Ty->Bool):Int->List Ty->Int
 | _,[]=>-1
 | i,x::r=>if q x=true then i else NI q (i+1) r
theorem R7 (q:Ty->Bool):∀(l:List Ty) (i:Nat),(NI q i l = -1/\∀x∈l,q x=false)\/∃(k:Nat) (x:Ty),NI q i l=((i+k:Nat):Int)/\l[k]?=some x/\q x=true/\∀y∈l.take k,q y=false
 | [],i=>.inl ⟨rfl,λx hx=>by cases hx⟩
 | x::r,i=>by
  by_cases hx:q x=true
  ·exact .inr ⟨0,x,by simp only [NI,if_pos hx];rfl,rfl,hx,λy hy=>by simp at hy⟩
  ·have hxf:q x=false:=by simpa using hx
   have e:NI q i (x::r)=NI q ((i+1:Nat):Int) r:=by simp only [NI,if_neg hx];rfl
   rw [e];rcases R7 q r (i+1) with ⟨h1,h2⟩ | ⟨k,y,h1,h2,h3,h4⟩
   ·exact .inl ⟨h1,λy hy=>by rcases List.mem_cons.1 hy with rfl | hy;exact hxf;exact h2 y hy⟩
   ·refine .inr ⟨k+1,y,by rw [h1];congr 1;omega,by simpa using h2,h3,λz hz=>?_⟩;rw [List.take_succ_cons] at hz;rcases List.mem_cons.1 hz with rfl | hz
    ·exact hxf
    ·exact h4 z hz
theorem QB (L:List Ty) (g:FuncId) (a b:List V) (q:Ty->Bool) (hq:∀h,Ak Tryz.prog g (a++[.agg (Bd h)]++b) (.bool (q h))) :
  Ak Tryz.prog 215 [.sl (Bo L),.clo (.func g) a b] (.int .i64 (NI q 0 L)):=by
 refine AM λhv=>?_;simp [BX,Eh,maxLen] at hv;have hl:=hv.1;refine Ae Ah Tryz.func215 (by decide +kernel) rfl [1,2] rfl rfl ?_;refine mg [] rfl (by simp) ?_;refine Aj (λi:Nat=>[(8,.imm (.int .i64 i)),(7,.imm (.int .i64 L.length)),(0,.imm (.sl (Bo L))),(1,.imm (.clo (.func g) a b))]) (λ_=>[]) [1,2] (λi=>L.length-i) (λi=>i<=L.length/\NI q 0 L=NI q i (L.drop i)) 0
  ⟨Nat.zero_le _,rfl⟩ ⟨rfl,At (by simp),rfl,rfl,trivial⟩ trivial rfl λi hi ih=>?_
 obtain ⟨hi1,hi2⟩:=hi;refine md [] rfl (by simp) ?_;refine Aa rfl (λh=>?_) (λh=>?_)
 ·simp at h;obtain ⟨x,hx⟩:=Am h;rw [Ap hx] at hi2;simp only [NI] at hi2;have hqx:=hq x;refine md [] rfl (by simp) ?_;refine mi rfl (c:=Bd x) (λ_=>⟨by simp,by simpa using IX hx,by simp⟩) (by simp) ?_;obtain ⟨x1,x2,x3,x4⟩:=x;refine mg [] rfl (by simp) ?_;refine Od rfl (λ_=>hqx) (by simp) ?_;refine mg [] rfl (by simp) ?_;cases hb:q (.mk x1 x2 x3 x4) with
  | true =>
   rw [if_pos hb] at hi2;refine Aa rfl (λh=>?_) (λh=>by simp at h);refine md [] rfl (by simp) ?_;refine Ab ⟨_,rfl,tV ?_,trivial⟩;rw [hi2]
  | false =>
   rw [if_neg (by simp [hb])] at hi2;refine Aa rfl (λh=>by simp at h) (λh=>?_);refine md [] rfl (by simp) ?_;exact Ad (ih (i+1) (by omega) ⟨by omega,hi2⟩) ⟨At (Bv (by omega) (by omega)),rfl,rfl,rfl,trivial⟩ trivial rfl
 ·simp at h;rw [List.drop_eq_nil_of_le (by omega)] at hi2;refine Ar rfl ?_;refine md [] rfl (by simp) ?_;refine Ab ⟨_,rfl,tV ?_,trivial⟩;rw [hi2];rfl
theorem OH {e:TypeId} {sz:Nat} {es:List (List V)} {v:Value} {vs:List Value} {I:Imm} {w:World} {bs:List Nat} (hp:0<sz) (h:(SW e sz es v).P vs I w bs) :
  ∃xs,w.ownsRow 0 e sz v es.length xs/\RepVL I xs es.flatten/\(∀c∈es,c.length=sz)/\(∀c∈es,∀x∈c,V.one x=true)/\0<sz/\∀k,v.ownBlock=some k->k∈bs:=by
 rcases h with ⟨rfl,rfl,rfl⟩ | ⟨b,cap,cur,rfl,rfl,h3,h4,h5,h6,h7,h8,h9,h10⟩
 ·exact ⟨[],World.ownsRow_nil w 0 e sz,.nil,by simp,by simp,hp,λk hk=>by cases hk⟩
 ·have hcs:cur.toList.length=cap*sz:=by simpa using h6
  refine ⟨_,⟨by rw [List.length_take,hcs];exact Nat.min_eq_left (Nat.mul_le_mul_right _ h4),.inr ⟨b,cap,cur,rfl,Nat.zero_le _,h3,h4,h5,h6,rfl⟩⟩,h7,h8,h9,h10,λk hk=>by simpa [Value.ownBlock] using hk.symm⟩
theorem Zl {e:TypeId} {sz:Nat} {es es1:List (List V)} {b cap len:Nat} (hes:es1=es.take es1.length) (hlen:es.length=es1.length+len):SY (SW e sz es (.slice (some ⟨b,0,none⟩) es.length cap)) (SW e sz es1 (.slice (some ⟨b,0,none⟩) es1.length cap)) b (es1.length*sz) (len*sz):=by
 intro us I w bs h;rcases h with ⟨h,_⟩ | ⟨b',cap',cur,h1,h2,h3,h4,h5,h6,h7,h8,h9,h10⟩
 ·cases h
 cases h1;subst h2;refine ⟨by simp,cur,e,h3,by rw [h6,<- Nat.add_mul,<- hlen];exact Nat.mul_le_mul_right _ h4,λnews n1 n2=>?_⟩;have hle:es1.length<=es.length:=by omega
 have hcs:cur.toList.length=cap*sz:=by simpa using h6
 have hc:es1.length*sz<=cur.toList.length:=by rw [hcs];exact Nat.mul_le_mul_right _ (by omega)
 have hmem:∀c∈es1,c∈es:=λc hc=>by rw [hes] at hc;exact List.mem_of_mem_take hc
 refine .inr ⟨b,cap,_,rfl,rfl,setRow_heap w b cur _ e _ h3,by omega,h5,?_,?_,λc hc=>h8 c (hmem c hc),λc hc=>h9 c (hmem c hc),h10⟩
 ·have e1:es1.length*sz+len*sz<=cap*sz:=by rw [<- Nat.add_mul,<- hlen];exact Nat.mul_le_mul_right _ h4
  rw [List.size_toArray,List.length_append,List.length_append,List.length_take,List.length_drop,hcs,n1];omega
 ·rw [List.toList_toArray,List.append_assoc,List.take_append_of_le_length (by rw [List.length_take];omega),List.take_take,Nat.min_self];have e2:cur.toList.take (es1.length*sz)=(cur.toList.take (es.length*sz)).take (es1.length*sz):=by rw [List.take_take,Nat.min_eq_left (Nat.mul_le_mul_right _ hle)]
  have e3:es1.flatten=es.flatten.take (es1.length*sz):=by
   have:=congrArg List.flatten (List.take_append_drop es1.length es);rw [<- hes,List.flatten_append] at this;rw [<- this,List.take_append_of_le_length (by rw [AG (λc hc=>h8 c (hmem c hc))];omega),List.take_of_length_le (by rw [AG (λc hc=>h8 c (hmem c hc))];omega)]
  rw [e2,e3];refine ⟨(List.length_take).trans (by rw [h7.1];exact (List.length_take).symm),λi v x hv hx=>?_⟩;rw [List.getElem?_take] at hv hx
  split at hv
  ·rename_i hi;rw [if_pos hi] at hx;exact h7.2 i v x hv hx
  ·cases hv
def EC (q:Ty->Bool) (L:List Ty):List Ty:=L.filter λh=>!q h
theorem Po {q:Ty->Bool} {L:List Ty} {j:Nat} {x:Ty} (h:L[j]?=some x):EC q (L.take (j+1))=EC q (L.take j)++(if q x=true then [] else [x]):=by
 rw [AS h];cases hb:q x <;> simp [EC,hb]
theorem Pp {q:Ty->Bool} {L:List Ty} (h:∀x∈L,q x=false):EC q L=L:=List.filter_eq_self.2 λx hx=>by simp [h x hx]
set_option maxHeartbeats 4000000 in
theorem Ql (L:List Ty) (hL:L.length<=1000) (g:FuncId) (a b:List V) (q:Ty->Bool) (hq:∀h,Ak Tryz.prog g (a++[.agg (Bd h)]++b) (.bool (q h))) :
  Bb Tryz.prog 194 [.own 1 (Bo L).length,.imm (.clo (.func g) a b)] [(1,some (.row 150 3 (Bo L)))]
   (.ret (.own 2 (Bo (EC q L)).length) [(2,some (.row 150 3 (Bo (EC q L))))]):=by
 have hI:=QB L g a b q hq;have hs:=R7 q L 0;rw [show ((0:Nat):Int)=0 from rfl] at hs;refine Ae Ah Tryz.func194 (by decide +kernel) rfl [3,2,4,5,6] rfl rfl ?_;refine mg [] rfl (by simp) ?_;refine GU rfl (v:=.int .i64 (NI q 0 L)) (λ_=>hI) rfl (by simp) ?_;refine mg [] rfl (by simp) ?_;rcases hs with ⟨h1,h2⟩ | ⟨k,x,h1,h2,h3,h4⟩
 ·rw [h1];refine Aa rfl (λh=>?_) (λh=>by simp at h);refine md [] rfl (by simp) ?_;rw [Pp h2];refine Kz 1 3 rfl λv=>?_;refine N1 3 4 2 (Bo L) rfl rfl (λvs I w bs h=>OH (by decide) h) ?_;exact Ab ⟨_,rfl,rfl,rfl,trivial⟩
 rw [h1];have hk:=(List.getElem?_eq_some_iff.1 h2).1;refine Aa rfl (λh=>by simp at h) (λh=>?_);clear h;have ew:IntKind.i64.wrap (((0+k:Nat):Int)+1)=((k+1:Nat):Int):=by rw [Bv (by omega) (by omega)];omega
 refine md [] rfl (by simp) ?_;refine Aj (λy:Nat×Nat×List Ty=>[(6,.imm (.int .i64 y.2.1)),(5,.imm (.int .i64 y.1)),(1,.imm (.clo (.func g) a b)),(0,.own 1 (Bo L).length)]) (λy=>[(1,some (.row 150 3 (Bo y.2.2)))]) [3,2,4,5,6] (λy=>L.length-y.2.1)
  (λy=>y.1<y.2.1/\y.2.1<=L.length/\y.2.2.length=L.length/\y.2.2.take y.1=EC q (L.take y.2.1)/\y.2.2.drop y.2.1=L.drop y.2.1) (k,k+1,L)
  ⟨by simp,by simp only;omega,rfl,?_,rfl⟩ ⟨At ew,At (by simp),rfl,rfl,trivial⟩ ⟨rfl,trivial⟩ rfl λy hy ih=>?_
 ·rw [Po h2,if_pos h3,Pp h4];simp
 obtain ⟨i,j,R⟩:=y;obtain ⟨hi1,hi2,hi3,hi4,hi5⟩:=hy;simp only at hi1 hi2 hi3 hi4 hi5;refine md [] rfl (by simp) ?_;refine Aa rfl (λh=>?_) (λh=>?_)
 ·have hj:j<L.length:=by simp at h;omega
  obtain ⟨x,hx⟩:=Am hj;have hRx:R[j]?=some x:=by
   have:=congrArg (·[0]?) hi5;simpa [hx] using this
  have hqx:=hq x;refine md [] rfl (by simp) ?_;refine CN Ah rfl (λ_=>⟨by simp,by simp <;> omega⟩) (by simp) ?_;refine mg [] rfl (by simp) ?_;refine Ih Ah (e:=Bd x) rfl (λ_=>by simpa using IX hRx) rfl (by simp) ?_;obtain ⟨x1,x2,x3,x4⟩:=x;have ht:=Po (q:=q) hx;have hgo:=λi' R' (h1:i'<j+1) (h2:R'.length=L.length) (h3:R'.take i'=EC q (L.take (j+1))) (h4:R'.drop (j+1)=L.drop (j+1))=>ih (i',j+1,R') (by simp only;omega) ⟨h1,by simp only;omega,h2,h3,h4⟩;have hd1:R.drop (j+1)=L.drop (j+1):=by rw [<- List.drop_drop,hi5,List.drop_drop]
  refine mg [] rfl (by simp) ?_;refine Od rfl (λ_=>hqx) (by simp) ?_;refine mg [] rfl (by simp) ?_;cases hb:q (.mk x1 x2 x3 x4) with
  | true =>
   rw [if_pos hb,List.append_nil] at ht;refine Aa rfl (λh=>by simp at h) (λh=>?_);refine md [] rfl (by simp) ?_;exact Ad (hgo i R (by omega) hi3 (by rw [ht];exact hi4) hd1) ⟨At (Bv (by simp only;omega) (by simp only;omega)),rfl,rfl,rfl,trivial⟩ ⟨rfl,trivial⟩ rfl
  | false =>
   rw [if_neg (by simp [hb])] at ht;obtain ⟨o,hoo⟩:=Am (l:=R) (i:=i) (by omega);refine Aa rfl (λh=>?_) (λh=>by simp at h);refine md [] rfl (by simp) ?_;refine CN Ah rfl (λ_=>⟨by simp,by simp <;> omega⟩) (by simp) ?_;refine mg [] rfl (by simp) ?_;refine HA Ah (e:=Bd o) (e':=Bd (.mk x1 x2 x3 x4)) rfl (by simpa using IX hoo) (by show 0+3<=3;decide) (by obtain ⟨o1,o2,o3,o4⟩:=o;rfl) (by simp) ?_;refine mg [] rfl (by simp) ?_;refine Ad (hgo (i+1) (R.set i (.mk x1 x2 x3 x4)) (by omega) (by simp [hi3]) ?_ ?_) ⟨At (Bv (by simp only;omega) (by simp only;omega)),At (Bv (by simp only;omega) (by simp only;omega)),rfl,rfl,trivial⟩ ⟨by simp only [Bo,List.map_set];rfl,trivial⟩ rfl
   ·rw [ht,<- hi4];have e1:(R.set i (.mk x1 x2 x3 x4))[i]?=some (.mk x1 x2 x3 x4):=List.getElem?_set_self (by omega);rw [AS e1,List.take_set_of_le (Nat.le_refl i)]
   ·rw [List.drop_set_of_lt (by omega)];exact hd1
 ·have hj:j=L.length:=by simp at h;omega
  refine Ar rfl ?_;refine Kz 1 3 rfl λv=>?_;refine BN 3 (λ_:{ y:Nat×Nat // v = .slice (some ⟨y.1,0,none⟩) (Bo R).length y.2/\(Bo R).length<=y.2 }=>SW 150 3 (Bo R) v) rfl (λvs I w bs h=>?_) λy=>?_
  ·have hn:(Bo R)≠[]:=λe=>by
    have:(Bo R).length=0:=by rw [e];rfl
    simp at this;subst this;simp at hi3;omega
   have h':=h;rcases h' with ⟨_,h',_⟩ | ⟨gb,cap,cur,h1,_,_,h4,_⟩
   ·exact absurd h' hn
   ·exact ⟨⟨(gb,cap),h1,h4⟩,h⟩
  obtain ⟨⟨gb,cap⟩,rfl,hcap⟩:=y;simp only at hcap;have hRl:(Bo R).length=L.length:=by simp [hi3]
  have hkl:(EC q (L.take j)).length=i:=by rw [<- hi4,List.length_take];omega
  rw [hj,List.take_length] at hkl hi4;refine md [] rfl (by simp) ?_;refine cE Ah rfl ⟨by simp,by simp only;omega,by simp only;omega,by simp only;omega⟩ ?_;obtain ⟨d,hd⟩:∃d,(Bo R).length-i=d+1:=⟨(Bo R).length-i-1,by omega⟩
  simp only [Bt,Int.toNat_natCast];rw [hd];have hRt:Bo (EC q L)=(Bo R).take i:=by rw [<- hi4];simp [Bo]
  have hkl2:(Bo (EC q L)).length=i:=by simpa using hkl
  refine jB Ah 3 (SW 150 3 (Bo (EC q L)) (.slice (some ⟨gb,0,none⟩) (Bo (EC q L)).length cap)) rfl rfl ?_ ?_
  ·have:=Zl (e:=150) (sz:=3) (es:=Bo R) (es1:=Bo (EC q L)) (b:=gb) (cap:=cap) (len:=d+1) (by rw [hkl2];exact hRt) (by rw [hkl2];omega);rw [hkl2] at this ⊢;show SY _ _ gb (0+i*3) ((d+1)*3);rw [Nat.zero_add];exact this
  refine mg [] rfl (by simp) ?_;refine cE Ah rfl ⟨by simp,by simp only;omega,by simp only;omega,by simp only;omega⟩ ?_;simp only [Bt,Int.toNat_natCast,Int.toNat_zero,Nat.zero_mul,Nat.sub_zero,Nat.add_zero];refine mg [] rfl (by simp) ?_;rw [<- hkl2];refine N1 3 4 2 (Bo (EC q L)) rfl rfl (λvs I w bs h=>OH (by decide) h) ?_;exact Ab ⟨_,rfl,rfl,rfl,trivial⟩
def Ry (ty:Ty) (nt:List Ty) (hd:Ty):V:=.ip 177 (Al ty++Bd hd++[.sl (Bo nt)]) 0
theorem RE (h:Ty):∀x∈Bd h,V.one x=true:=by
 obtain ⟨a,b,c,d⟩:=h;intro x hx;simp only [Bd,List.mem_cons,List.not_mem_nil,or_false] at hx;rcases hx with rfl | rfl | rfl <;> rfl
theorem Tj {I J:Imm} {w:World} {nt:List Ty} {nv:Value} {bs:List Nat} (h:Rt I w nt nv) (hb:∀q∈nv.ownBlock.toList,q∈bs) (hle:I.le J) (hJ:∀b∈bs,J b=w.heap[b]?):RepV J nv (.sl (Bo nt)):=by
 obtain ⟨⟨xs,h1,h2⟩,h3⟩:=h;cases ho:nv.ownBlock with
 | none =>
  rcases h1.2 with ⟨rfl,h0⟩ | ⟨g,cap,cur,rfl,_⟩
  ·rw [List.eq_nil_of_length_eq_zero h0];exact .slnil
  ·simp [Value.ownBlock] at ho
 | some g =>
  have hlt:=OU h1 (q:=g) (by simp [ho]);have hg:w.heap[g]?=some w.heap[g]:=Array.getElem?_eq_getElem hlt;refine Vy (w:=w) (es:=Bo nt) (by simpa using h1) (h2.mono hle) (Xv nt) ?_ ho hg (by rw [hJ g (hb g (by simp [ho]))];exact hg);intro v hv;obtain ⟨q,hq⟩:=List.mem_iff_getElem?.1 hv;have hl:q<(Bo nt).flatten.length:=by rw [<- h2.1];exact (List.getElem?_eq_some_iff.1 hq).1
  obtain ⟨c,hc,hx⟩:=List.mem_flatten.1 (List.getElem_mem hl);obtain ⟨x,_,rfl⟩:=List.mem_map.1 hc;exact (h2.2 q v _ hq (List.getElem?_eq_getElem hl)).one (RE x _ hx)
theorem XR {I J:Imm} {w:World} {ty:Ty} {nt:List Ty} {hd:Ty} {ks:List Mi} {nv kv:Value} {kbs:List Nat} {b:Nat} {us:List Value} {bs:List Nat} (h:(C2 ty nt hd ks nv kv kbs b).P us I w bs) (hle:I.le J) (hJ:∀b∈bs,J b=w.heap[b]?) :
  RepV J (ptr b) (Ry ty nt hd):=by
 obtain ⟨Fk,⟨⟨vs,ts,hs,h1,h2,h3,h4⟩,hnot,hrow⟩,_,_,h8⟩:=h;have hN:=Tj (bs:=bs) hnot (λq hq=>h8 q (by simp only [AE,List.cons_append,List.mem_cons,List.mem_append];exact .inr (.inl (.inl hq)))) hle hJ;have hall:RepVL J (ts++hs++[nv]) (Al ty++Bd hd++[.sl (Bo nt)]):=((h3.mono hle).append (h4.mono hle)).append (.mk hN .nil);have hJb:J b=some (.cells vs 177 (0,0)):=by rw [hJ b (h8 b (by simp [AE]))];exact h1
 have hget:∀(j:Nat) (x:V),(Al ty++Bd hd++[.sl (Bo nt)])[j]?=some x->∃v,vs[j]?=some v/\RepV J v x/\v.oneCell'=true:=by
  intro j x hx;have hlt:j<(ts++hs++[nv]).length:=by rw [hall.1];exact (List.getElem?_eq_some_iff.1 hx).1
  have hv:=List.getElem?_eq_getElem hlt;have hr:=hall.2 j _ x hv hx;refine ⟨_,?_,hr,?_⟩
  ·have:vs.toList[j]?=some (ts++hs++[nv])[j]:=by
    rw [h2,show ts++hs++[nv,kv]=(ts++hs++[nv])++[kv] by simp,List.getElem?_append_left hlt];exact hv
   simpa using this
  ·refine hr.one ?_;have hm:=List.mem_of_getElem? hx;simp only [List.mem_append,List.mem_singleton] at hm;rcases hm with (hm | hm) | rfl
   ·obtain ⟨t1,t2,t3,t4⟩:=ty;simp only [Al,List.mem_cons,List.not_mem_nil,or_false] at hm;rcases hm with rfl | rfl | rfl | rfl <;> rfl
   ·exact RE hd x hm
   ·rfl
 have:=RepV.ip (I:=J) b 0 177 (Al ty++Bd hd++[.sl (Bo nt)]) 0 (λj=>(vs[j]?).getD undef) (λj x hx=>?_) (λj x hx=>?_)
 ·simpa [Ry,ptr] using this
 ·obtain ⟨v,v1,v2,v3⟩:=hget j x hx;rw [v1];simp only [Imm.cell,hJb,Nat.zero_add,v1,Option.getD_some];exact ⟨trivial,v3⟩
 ·obtain ⟨v,v1,v2,v3⟩:=hget j x hx;rw [v1];exact v2
theorem YH (ty:Ty) (nt:List Ty) (hd h:Ty):Ak Tryz.prog 196 [.agg (Bd h),.ip 109 [Ry ty nt hd] 0] (.bool (B1 nt h)):=by
 have hC:=FV nt h;obtain ⟨t1,t2,t3,t4⟩:=ty;obtain ⟨f1,f2,f3,f4⟩:=hd;obtain ⟨h1,h2,h3,h4⟩:=h;refine Sx ?_;refine Ae Ah Tryz.func196 (by decide +kernel) rfl [1,2] rfl rfl ?_;refine mg [] rfl (by simp) ?_;refine Ac rfl (λ_=>hC) (by simp) ?_;refine mg [] rfl (by simp;rfl) ?_;exact Ab ⟨_,rfl,tV rfl,trivial⟩
def Qh (A B:Asn):Asn where
 P _ I w bs:=∃b1 b2,(∀q∈b1,q∈bs)/\(∀q∈b2,q∈bs)/\(∀q∈b1,q∉b2)/\A.P [] I w b1/\B.P [] I w b2
 mono:=λh ⟨b1,b2,h1,h2,h3,h4,h5⟩=>⟨b1,b2,h1,h2,h3,A.mono h h4,B.mono h h5⟩
 loc:=λh ⟨b1,b2,h1,h2,h3,h4,h5⟩=>⟨b1,b2,h1,h2,h3,A.loc (λq hq=>h q (h1 q hq)) h4,B.loc (λq hq=>h q (h2 q hq)) h5⟩
theorem T1 (l:List Ty):LT (Bo l)=true:=by
 induction l with
 | nil=>rfl
 | cons h r ih=>obtain ⟨a,b,c,d⟩:=h;simpa [Bo,Bd,LT,CU,E8] using ih
def UT (b bb:Nat):Asn:=Qn bb 109 [.raw (ptr b)]
theorem Z4 {I J:Imm} {w:World} {ty:Ty} {nt:List Ty} {hd:Ty} {ks:List Mi} {nv kv:Value} {kbs:List Nat} {b bb:Nat} {us:List Value} {bs:List Nat} (h:(Qh (UT b bb) (C2 ty nt hd ks nv kv kbs b)).P us I w bs) (hle:I.le J) (hJ:∀b∈bs,J b=w.heap[b]?) :
  RepV J (ptr bb) (.ip 109 [Ry ty nt hd] 0):=by
 obtain ⟨b1,b2,h1,h2,h3,⟨e1,vs,e2,e3,e4⟩,h5⟩:=h;have hv:=XR h5 hle (λq hq=>hJ q (h2 q hq));have hl:=e3.1
 match hvs:vs.toList,hl with
 | [x],_ =>
 rw [hvs] at e3;have hx:x=ptr b:=(e3.2 0 x _ rfl rfl).rawInv;subst hx;have hv0:vs[0]?=some (ptr b):=by
  have:vs.toList[0]?=some (ptr b):=by rw [hvs];rfl
  simpa using this
 have hJb:J bb=some (.cells vs 109 (0,0)):=by rw [hJ bb (h1 bb (by rw [e1];simp))];exact e2
 have:=RepV.ip (I:=J) bb 0 109 [Ry ty nt hd] 0 (λ_=>ptr b) (λj x hx=>?_) (λj x hx=>?_)
 ·simpa [ptr] using this
 ·match j,hx with
  | 0,_=>exact ⟨by simp only [Imm.cell,hJb,Nat.add_zero,hv0],rfl⟩
  | j+1,hx=>simp at hx
 ·match j,hx with
  | 0,hx=>simp at hx;subst hx;exact hv
  | j+1,hx=>simp at hx
theorem fK (L:List Ty) (hL:L.length<=1000) (ty:Ty) (nt:List Ty) (hd:Ty) (ks:List Mi) (nv kv:Value) (kbs:List Nat) (b bb:Nat) :
  Bb Tryz.prog 194 [.own 1 (Bo L).length,.fn (.func 196) [] [.raw (ptr bb)]]
   [(3,some (.hp (Qh (UT b bb) (C2 ty nt hd ks nv kv kbs b)))),(1,some (.row 150 3 (Bo L)))]
   (.ret (.own 2 (Bo (EC (λh=>B1 nt h) L)).length) [(3,some (.hp (Qh (UT b bb) (C2 ty nt hd ks nv kv kbs b)))),(2,some (.row 150 3 (Bo (EC (λh=>B1 nt h) L))))]):=by
 refine Ny (st0:=[(1,some (.row 150 3 (Bo L)))]) 3 (Qh (UT b bb) (C2 ty nt hd ks nv kv kbs b)) (Ql L hL 196 [] [.ip 109 [Ry ty nt hd] 0] (λh=>B1 nt h) (λh=>YH ty nt hd h)) rfl ⟨T1 _,trivial⟩ (by simp [DA]) (by simp [DA]) (by simp [HG]) λvs I J μ w bs h hle hb xs hx=>?_;refine ⟨hx.1,λi v d h1 h2=>?_⟩
 match i with
 | 0=>exact hx.2 0 v d h1 h2
 | 1 =>
  simp at h2;subst h2;have hr:=hx.2 1 v _ h1 rfl;refine .imm _ _ ?_;cases hr with
  | fn _ first cap _ _ hf hc q1 q2 =>
   refine .clo _ first cap [] _ (by simpa using hf) (by simpa using hc) (λi c x _ hx=>by simp at hx) (λi c x hc' hx'=>?_)
   match i with
   | 0 =>
    simp at hx';subst hx';have:=(q2 0 c _ hc' rfl).rawInv;subst this;exact Z4 h hle hb
   | i+1=>simp at hx'
 | i+2=>simp at h2
def Gx (ds:List Dt) (m:Mi):Bool:=decide (Ba (Af ds m).hd≠0)
set_option maxHeartbeats 2000000 in
theorem Ue (c:Cse) (sz:List (List V)) (m:Mi) (b:Nat) (ho:OkW c.datas) (hn:AD c.datas m.ty=true) :
  Bb Tryz.prog 151 [.imm (AL c sz),.raw (ptr b)] [(1,some (.hp (AU m b)))] (.ret (.imm (.bool (Gx c.datas m))) [(2,some (.hp (AU (Af c.datas m) b)))]):=by
 have hH:=RC c sz m.ty ho hn;have hl:=Ig ho m.ty;have hs:=λh=>Wn c sz m h b ho hn;have hk0:Ba m.hd≠0->Af c.datas m=m/\Gx c.datas m=true:=λh=>by
  have:=Cr (ds:=c.datas) h;exact ⟨this,by simp only [Gx,this];exact decide_eq_true h⟩
 have hk1:Ba m.hd=0->∀h,IP c.datas m=[h]->Af c.datas m=AY c.datas m h/\Gx c.datas m=true:=λh x hx=>by
  have e:Af c.datas m=AY c.datas m x:=by simp only [Af,h,hx];rfl
  exact ⟨e,by simp only [Gx,e];exact decide_eq_true (BL (Gv hx).1).2⟩
 have hk2:Ba m.hd=0->(∀h,IP c.datas m≠[h])->Af c.datas m=m/\Gx c.datas m=false:=λh hx=>by
  rcases Gm (ds:=c.datas) m with e | ⟨_,y,y1,_⟩
  ·exact ⟨e,by simp only [Gx,e,h];rfl⟩
  ·exact absurd y1 (hx y)
 have hleft:EC (λh=>B1 m.nt h) (A9 c.datas m.ty)=IP c.datas m:=rfl;have hll:(IP c.datas m).length<=5:=Nat.le_trans (List.length_filter_le _ _) hl;generalize Gx c.datas m=kb at *;generalize Af c.datas m=S at *;generalize IP c.datas m=Lf at *;generalize A9 c.datas m.ty=Hs at *;obtain ⟨kn,hkn⟩:∃kn:Ty->Mi,kn=AY c.datas m:=⟨_,rfl⟩
 simp only [<- hkn] at hs hk1;clear hkn hn;obtain ⟨⟨so,n,x,ps⟩,nt,⟨f,hd2,hd3,hd4⟩,ks⟩:=m;simp only [Mi.ty,Mi.nt,Mi.hd,Ba] at *;refine Ae Ah Tryz.func151 (by decide +kernel) rfl [3,4,5,6,7,8,9,10,11,12] rfl rfl ?_;refine jL 3 rfl (by simp) ?_;refine FP 3 4 rfl rfl λbb=>?_;refine BN 4 (λ_:Unit=>UT b bb) rfl (λvs I w bs h=>⟨(),h⟩) λ_=>?_;refine JG 1 5 (λy:Value×Value×List Nat=>C2 _ nt _ ks y.1 y.2.1 y.2.2 b) rfl (λvs I w bs h=>let ⟨y,hy⟩:=J2 h;⟨y,bs,λq hq=>hq,Xo hy⟩) λy=>?_;obtain ⟨nv,kv,kbs⟩:=y;have hbox:∀vs I w bs,(UT b bb).P vs I w bs->CF I w bb 0 [.raw (ptr b)]:=λvs I w bs ⟨_,us,h2,h3,h4⟩=>⟨us,_,_,h2,λj d hd=>by
  have hl:j<us.toList.length:=by rw [h3.1];exact (List.getElem?_eq_some_iff.1 hd).1
  have hj:=List.getElem?_eq_getElem hl;exact ⟨_,by simp,h4 _ (List.getElem_mem hl),h3.2 j _ d hj hd⟩⟩
 refine md [] rfl (by simp) ?_;refine Bk Ah 4 [.raw (ptr b)] rfl rfl (λ_=>hbox) rfl rfl (by simp) ?_;refine mg [] rfl (by simp) ?_;refine Bk Ah 5 [.imm (.int .i64 f)] rfl rfl (λ_ vs I w bs h=>Mk h) rfl rfl (by simp) ?_;refine mg [] rfl (by simp) ?_;by_cases hf:f=0
 case neg =>
  refine Aa rfl (λh=>?_) (λh=>absurd (by simpa using h) hf);refine md [] rfl (by simp) ?_;obtain ⟨e1,e2⟩:=hk0 hf;rw [e1,e2];refine BN 5 (λ_:Unit=>AU (.mk (.mk so n x ps) nt (.mk f hd2 hd3 hd4) ks) b) rfl (λvs I w bs h=>⟨(),J3 h⟩) λ_=>?_;refine A3 5 2 rfl ?_;exact Ab ⟨_,rfl,rfl,rfl,trivial⟩
 replace hk1:=hk1 hf;replace hk2:=hk2 hf;subst hf;clear hk0;refine Aa rfl (λh=>by simp at h) (λh=>?_);clear h;refine md [] rfl (by simp) ?_;refine Bk Ah 4 [.raw (ptr b)] rfl rfl (λ_=>hbox) rfl rfl (by simp) ?_;refine mg [] rfl (by simp) ?_;refine Bk Ah 5 ((Al (.mk so n x ps)).map .imm) rfl rfl (λ_ vs I w bs h=>J4 h) rfl rfl (by simp) ?_;refine mg [] rfl (by simp) ?_;refine Az (fr:=[6]) [] [(2,6)] rfl (by simp) hH trivial rfl rfl rfl rfl ?_;refine mg [] rfl (by simp) ?_
 refine FO 4 5 7 (λ_:Unit=>Qh (UT b bb) (C2 (.mk so n x ps) nt (.mk 0 hd2 hd3 hd4) ks nv kv kbs b)) rfl rfl (by decide) (λvs us I w b1 b2 h1 h2 h3=>⟨(),b1++b2,λq hq=>List.mem_append.1 hq,b1,b2,λq hq=>List.mem_append_left _ hq,λq hq=>List.mem_append_right _ hq,h3,h1,h2⟩) λ_=>?_;refine md [] rfl (by simp) ?_;refine Az (fr:=[8]) [(7,3),(6,1)] [(2,8)] rfl (by simp) (fK Hs (by omega) (.mk so n x ps) nt (.mk 0 hd2 hd3 hd4) ks nv kv kbs b bb) ⟨⟨rfl,rfl,rfl⟩,⟨rfl,rfl,rfl⟩,trivial⟩ rfl rfl rfl rfl ?_;rw [hleft];refine mg [] rfl (by simp) ?_;refine AZ 8 rfl ?_
 refine Ik 7 9 10 (λ_:Unit=>UT b bb) (λ_:Unit=>AU (.mk (.mk so n x ps) nt (.mk 0 hd2 hd3 hd4) ks) b) rfl (λvs I w bs ⟨b1,b2,h1,h2,h3,h4,h5⟩=>⟨(),b1,b2,h1,h2,h3,h4,J3 h5⟩) λ_=>?_
 match Lf,hk1,hk2,hll with
 | [],_,hk2,_ =>
  obtain ⟨e1,e2⟩:=hk2 (λh=>by simp);rw [e1,e2];refine Aa rfl (λh=>by simp at h) (λh=>?_);refine md [] rfl (by simp) ?_;refine A3 10 2 rfl ?_;exact Ab ⟨_,rfl,rfl,rfl,trivial⟩
 | y::z::r,_,hk2,hll =>
  obtain ⟨e1,e2⟩:=hk2 (λh=>by simp);rw [e1,e2];refine Aa rfl (λh=>by simp [Bo] at h;omega) (λh=>?_);refine md [] rfl (by simp) ?_;refine A3 10 2 rfl ?_;exact Ab ⟨_,rfl,tV (congrArg _ (by simp [Bo];omega)),rfl,trivial⟩
 | [y],hk1,_,_ =>
  obtain ⟨e1,e2⟩:=hk1 y rfl;rw [e1,e2];refine Aa rfl (λh=>?_) (λh=>by simp [Bo] at h);refine md [] rfl (by simp) ?_;refine Bk Ah 9 [.raw (ptr b)] rfl rfl (λ_=>hbox) rfl rfl (by simp) ?_;refine mg [] rfl (by simp) ?_;refine mi rfl (c:=Bd y) (λ_=>⟨by simp,rfl,by simp⟩) (by simp) ?_;obtain ⟨y1,y2,y3,y4⟩:=y;refine mg [] rfl (by simp) ?_;refine BT [(10,1)] [(2,11)] [] (fr:=[11]) (nm:=[11,10]) rfl trivial (by simp) (hs (.mk y1 y2 y3 y4)) ⟨⟨rfl,rfl,rfl⟩,trivial⟩ rfl trivial rfl rfl rfl ?_;refine mg [] rfl (by simp;rfl) ?_;refine A3 11 2 rfl ?_;exact Ab ⟨_,rfl,rfl,rfl,trivial⟩
def Ho (o:Option Nat) (n c:Nat):Value:=.slice (o.map λg=>⟨g,0,none⟩) n c
theorem Xf {w:World} {e:TypeId} {sz n:Nat} {v:Value} {xs:List Value} (h:w.ownsRow 0 e sz v n xs):∃o c,v=Ho o n c:=by
 rcases h.2 with ⟨rfl,rfl⟩ | ⟨g,cap,cur,rfl,_⟩
 ·exact ⟨none,0,rfl⟩
 ·exact ⟨some g,cap,rfl⟩
section
variable {I J:Imm} {w w':World} {ty:Ty} {nt:List Ty} {hd:Ty} {ks:List Mi} {nv kv:Value} {kbs:List Nat} {b:Nat} {us:List Value} {bs:List Nat}
structure Opn where
 no:Option Nat
 nc:Nat
 ko:Option Nat
 kc:Nat
 kbs:List Nat
def BV (ty:Ty) (nt:List Ty) (hd:Ty) (ks:List Mi) (y:Opn) (b:Nat):Asn:=C2 ty nt hd ks (Ho y.no nt.length y.nc) (Ho y.ko ks.length y.kc) y.kbs b
theorem Dy (h:(AU (.mk ty nt hd ks) b).P us I w bs):∃y:Opn,(BV ty nt hd ks y b).P us I w bs:=by
 obtain ⟨⟨nv,kv,kbs⟩,F,h1,h2,h3⟩:=J2 h;obtain ⟨no,nc,e1⟩:=Xf h1.2.1.1.choose_spec.1;obtain ⟨ko,kc,e2⟩:=Xf h1.2.2;have hl:=Gy h2;simp only at *;subst e1;rw [hl] at e2;subst e2;exact ⟨⟨no,nc,ko,kc,kbs⟩,F,h1,h2,h3⟩
theorem DW {y:Opn} {vs:List Value} (h:(BV ty nt hd ks y b).P us I w bs):(AU (.mk ty nt hd ks) b).P vs I w bs:=J3 h
theorem Hy {y:Opn} (h:(BV ty nt hd ks y b).P us I w bs):y.kbs.length=ks.length:=by
 obtain ⟨F,h1,h2,_⟩:=h;exact Gy h2
theorem NW {y:Opn} (h:(BV ty nt hd ks y b).P us I w bs) (hk:ks≠[]):∃g,y.ko=some g/\(∃cur,w.heap[g]?=some (.cells cur 109 (0,0))/\cur.size=y.kc*1/\cur.toList.take ks.length=y.kbs.map ptr/\ks.length<=y.kc):=by
 obtain ⟨F,h1,h2,_⟩:=h;have hl:=Gy h2;rcases h1.2.2.2 with ⟨_,h0⟩ | ⟨g,cap,cur,e,_,e1,e2,_,e3,e4⟩
 ·rw [hl] at h0;exact absurd (List.eq_nil_of_length_eq_zero h0) hk
 ·cases ho:y.ko with
  | none=>rw [ho] at e;simp [Ho] at e
  | some g' =>
   rw [ho] at e;simp only [Ho,Option.map_some,Value.slice.injEq,Option.some.injEq,Addr.mk.injEq,and_true] at e;obtain ⟨rfl,e5,rfl⟩:=e;exact ⟨g',rfl,cur,e1,e3,by rw [hl,Nat.mul_one] at e4;exact e4,by rw [<- hl];exact e2⟩
theorem eL {y:Opn} (h:(BV ty [] hd ks y b).P us I w bs):y.no=none/\y.nc=0:=by
 obtain ⟨F,h1,_⟩:=h;have:=h1.2.1.2 rfl;simp only [Ho,H0,Value.slice.injEq,Option.map_eq_none_iff] at this;exact ⟨this.1,this.2.2⟩
theorem TY {y:Opn} {g i kb:Nat} (hko:y.ko=some g) (hkb:y.kbs[i]?=some kb) (h:(BV ty nt hd ks y b).P us I w bs):CF I w g (0+i*1) [.raw (ptr kb)]:=by
 have hlen:=Hy h;have hi:=(List.getElem?_eq_some_iff.1 hkb).1;obtain ⟨g',e,cur,e1,e2,e3,e4⟩:=NW h (λe=>by rw [e] at hlen;simp at hlen;rw [hlen] at hi;simp at hi);rw [hko] at e;cases e;refine ⟨cur,_,_,e1,λj d hd=>?_⟩
 match j with
 | 0 =>
  simp at hd;subst hd;refine ⟨ptr kb,?_,rfl,.raw _ rfl⟩;have:(cur.toList.take ks.length)[i]?=some (ptr kb):=by rw [e3];simp [hkb]
  rw [List.getElem?_take] at this
  split at this
  ·simpa using this
  ·cases this
 | j+1=>simp at hd
def Qk (ty:Ty) (nt:List Ty) (hd:Ty) (ks:List Mi) (y:Opn) (b i kb:Nat):Asn where
 P _ I w bs:=∀J w2 k F,I.le J->(∀q∈bs,w2.heap[q]?=w.heap[q]?)->Ex J w2 k kb F->(∀q∈F,q∉bs)->∃G,(BV ty nt hd (ks.set i k) y b).P [] J w2 G/\∀q∈G,q∈bs\/q∈F
 mono:=λh h1 J w2 k F hJ=>h1 J w2 k F (λb o hb=>hJ b o (h b o hb))
 loc:=λh h1 J w2 k F hJ hw=>h1 J w2 k F hJ λq hq=>(hw q hq).trans (h q hq)
theorem OW {y:Opn} {i kb:Nat} {k:Mi} (h:(BV ty nt hd ks y b).P us I w bs) (hk:ks[i]?=some k) (hkb:y.kbs[i]?=some kb) :
  ∃b1 b2,(∀q∈b1,q∈bs)/\(∀q∈b2,q∈bs)/\(∀q∈b1,q∉b2)/\(Qk ty nt hd ks y b i kb).P [] I w b1/\(AU k kb).P [] I w b2:=by
 obtain ⟨Fk,h1,h2,h3,h4⟩:=h;obtain ⟨kb',F1,Fi,F2,g1,g2,g3,g4⟩:=Kw h2 hk;rw [hkb] at g1;cases g1;subst g3;generalize hnv:Ho y.no nt.length y.nc=nv at *;generalize hkv:Ho y.ko ks.length y.kc=kv at *;refine ⟨AE nv kv b++(F1++F2),Fi,λq hq=>h4 q (by simp at hq ⊢;rcases hq with h | h | h <;> simp [h]),λq hq=>h4 q (by simp [hq]),λq hq hq2=>?_,?_,⟨Fi,g2,λq hq=>hq⟩⟩
 ·have e:AE nv kv b++(F1++Fi++F2)=(AE nv kv b++F1)++Fi++F2:=by simp
  rw [e] at h3;have hn:=List.nodup_append.1 h3;have hn2:=List.nodup_append.1 hn.1;rcases List.mem_append.1 hq with hq | hq
  ·exact hn2.2.2 q (by simp [hq]) q hq2 rfl
  ·rcases List.mem_append.1 hq with hq | hq
   ·exact hn2.2.2 q (by simp [hq]) q hq2 rfl
   ·exact hn.2.2 q (by simp [hq2]) q hq rfl
 ·intro J w2 k' F hJ hw hm hd';refine ⟨AE nv kv b++(F1++F++F2),⟨F1++F++F2,?_,g4 J w2 k' F hJ (λq hq=>hw q (by simp only [List.mem_append] at hq ⊢;exact .inr hq)) hm,?_,λq hq=>?_⟩,λq hq=>?_⟩
  ·rw [List.length_set,hnv,hkv];exact DY hJ (ET (λq hq=>hw q (by simp [hq])) h1)
  ·rw [List.length_set,hnv,hkv];have hF:=HX hm;have e:AE nv kv b++(F1++Fi++F2)=(AE nv kv b++F1)++(Fi++F2):=by simp
   have e2:AE nv kv b++(F1++F++F2)=(AE nv kv b++F1)++(F++F2):=by simp
   rw [e] at h3;rw [e2];obtain ⟨a1,a2,a3⟩:=List.nodup_append.1 h3;obtain ⟨a4,a5,a6⟩:=List.nodup_append.1 a2;refine List.nodup_append.2 ⟨a1,List.nodup_append.2 ⟨hF,a5,λx hx y hy e=>hd' x hx (by subst e;simp [hy])⟩,λx hx y hy e=>?_⟩;subst e;rcases List.mem_append.1 hy with hy | hy
   ·exact hd' x hy (by simp only [List.mem_append] at hx ⊢;rcases hx with h | h <;> simp [h])
   ·exact a3 x hx x (by simp [hy]) rfl
  ·rw [List.length_set,hnv,hkv] at hq;exact hq
  ·simp only [List.mem_append] at hq ⊢;rcases hq with h | (h | h) | h <;> simp [h]
theorem R9 {y:Opn} {i kb:Nat} {k:Mi} {vs:List Value} {b1 b2:List Nat} (h:(Qk ty nt hd ks y b i kb).P us I w b1) (hk:(AU k kb).P vs I w b2) (hd':∀q∈b1,q∉b2):∃bs,(∀q∈bs,q∈b1\/q∈b2)/\(BV ty nt hd (ks.set i k) y b).P [] I w bs:=by
 obtain ⟨F,h1,h2⟩:=hk;obtain ⟨G,g1,g2⟩:=h I w k F (Imm.le_refl I) (λ_ _=>rfl) h1 (λq hq hq1=>hd' q hq1 (h2 q hq));exact ⟨G,λq hq=>(g2 q hq).imp id (h2 q),g1⟩
end
theorem ZS {α:Type} {l:List α} {i:Nat} {a:α} (h:l[i]?=some a):l.set i a=l:=by
 apply List.ext_getElem?;intro j;rw [List.getElem?_set]
 split
 ·rename_i e;subst e
  split
  ·exact h.symm
  ·rename_i hn;exact absurd (List.getElem?_eq_some_iff.1 h).1 hn
 ·rfl
theorem WG:Bb Tryz.prog 177 [.raw H0] [] (.ret .nils []):=by
 refine Ae Ah Tryz.func177 (by decide +kernel) rfl [1,2] rfl rfl ?_;refine mg [] rfl (by simp) ?_;refine jA Ah rfl ?_;refine mg [] rfl (by simp) ?_;refine Aa rfl (λh=>?_) (λh=>by simp at h);refine md [] rfl (by simp) ?_;exact Ab ⟨_,rfl,rfl,trivial⟩
theorem WF (l:List Ty) (hne:l≠[]) (hl:l.length<=1000000):Bb Tryz.prog 177 [.imm (.sl (Bo l))] [] (.ret (.own 2 (Bo l).length) [(2,some (.row 150 3 (Bo l)))]):=by
 have hs:=Xv l;have hl:(Bo l).length<=1000000:=by simpa using hl
 have hn:Bo l≠[]:=λe=>hne (by simpa [Bo] using e);generalize Bo l=es at *;refine Ae Ah Tryz.func177 (by decide +kernel) rfl [2,1] rfl rfl ?_;refine mg [] rfl (by simp) ?_;refine RP Ah rfl λb hb=>?_;have hb:b=false:=hb hn;subst hb;refine md [] rfl (by simp) ?_;refine Aa rfl (λh=>by simp at h) (λh=>?_);refine md [] rfl (by simp) ?_;refine Bp Ah rfl ⟨hs,by simp only [maxLen,List.length_nil] at *;omega,by simp only [List.length_nil] at *;omega,λc hc=>by simp at hc,hn⟩ ?_;refine mg [] rfl (by simp) ?_;exact Ab ⟨_,rfl,rfl,rfl,trivial⟩
end Go.Hk
namespace Go.Hk
open Go.Proofs
theorem Hq {I J:Imm} {w:World} {ty:Ty} {nt:List Ty} {hd:Ty} {ks:List Mi} {y:Opn} {b:Nat} {us:List Value} {bs:List Nat} (h:(BV ty nt hd ks y b).P us I w bs) (hle:I.le J) (hJ:∀b∈bs,J b=w.heap[b]?):RepV J (Ho y.no nt.length y.nc) (.sl (Bo nt)):=by
 obtain ⟨F,h1,h2,h3,h4⟩:=h;exact Tj h1.2.1 (λq hq=>h4 q (by simp only [AE,List.cons_append,List.mem_cons,List.mem_append];exact .inr (.inl (.inl hq)))) hle hJ
theorem Zk (ty:Ty) (nt:List Ty) (hd:Ty) (ks:List Mi) (y:Opn) (b:Nat) (hne:nt≠[]) (hl:nt.length<=1000000) :
  Bb Tryz.prog 177 [.raw (Ho y.no nt.length y.nc)] [(3,some (.hp (BV ty nt hd ks y b)))] (.ret (.own 2 (Bo nt).length) [(3,some (.hp (BV ty nt hd ks y b))),(2,some (.row 150 3 (Bo nt)))]):=by
 refine Ny (st0:=[]) 3 (BV ty nt hd ks y b) (WF nt hne hl) rfl ⟨T1 _,trivial⟩ (by simp [DA]) (by simp [DA]) (by simp [HG]) λvs I J μ w bs h hle hb xs hx=>?_;refine ⟨hx.1,λi v d h1 h2=>?_⟩
 match i with
 | 0 =>
  simp at h2;subst h2;have:=(hx.2 0 v _ h1 rfl).rawInv;subst this;exact .imm _ _ (Hq h hle hb)
 | i+1=>simp at h2
theorem Zo {I:Imm} {w:World} {ty:Ty} {nt:List Ty} {hd:Ty} {b:Nat} {v:Value} {us vs:List Value} {b1 b2:List Nat} (hne:nt≠[]) (h:(Qn b 177 ((Al ty++Bd hd).map .imm++[.raw v,.nils])).P us I w b1) (hr:(SW 150 3 (Bo nt) v).P vs I w b2) (hd':∀q∈b1,q∉b2) :
  ∃bs,(∀q∈bs,q∈b1\/q∈b2)/\(AU (.mk ty nt hd []) b).P [] I w bs:=by
 obtain ⟨h1,ws,h2,h3,h4⟩:=h;obtain ⟨xs,r1,r2,_,_,_,r6⟩:=OH (by decide) hr;obtain ⟨t1,t2,t3,t4⟩:=ty;obtain ⟨f1,f2,f3,f4⟩:=hd;have hl:=h3.1;simp only [Al,Bd,List.map_append,List.map_cons,List.map_nil,List.cons_append,List.nil_append,List.length_cons,List.length_nil] at hl h3
 match hvs:ws.toList,hl with
 | [a0,a1,a2,a3,a4,a5,a6,a7,a8],_ =>
 rw [hvs] at h3;have e7:a7=v:=(h3.2 7 a7 _ rfl rfl).rawInv;have e8:a8=H0:=IB (h3.2 8 a8 _ rfl rfl);subst e7;subst e8;have hF:AE a7 H0 b=b::a7.ownBlock.toList:=by simp [AE,H0,Value.ownBlock]
 refine ⟨AE a7 H0 b,λq hq=>?_,AE a7 H0 b,⟨a7,H0,[],[],⟨⟨ws,[a0,a1,a2,a3],[a4,a5,a6],h2,by rw [hvs];rfl,?_,?_⟩,⟨⟨xs,by simpa using r1,r2⟩,λe=>absurd e hne⟩,World.ownsRow_nil w 0 _ 1⟩,⟨rfl,rfl⟩,by simp,?_⟩,λq hq=>hq⟩
 ·rw [hF] at hq;rcases List.mem_cons.1 hq with rfl | hq
  ·exact .inl (by rw [h1];simp)
  ·exact .inr (r6 q (by simpa [Option.mem_toList] using hq))
 ·exact .mk (h3.2 0 a0 _ rfl rfl).immInv (.mk (h3.2 1 a1 _ rfl rfl).immInv (.mk (h3.2 2 a2 _ rfl rfl).immInv (.mk (h3.2 3 a3 _ rfl rfl).immInv .nil)))
 ·exact .mk (h3.2 4 a4 _ rfl rfl).immInv (.mk (h3.2 5 a5 _ rfl rfl).immInv (.mk (h3.2 6 a6 _ rfl rfl).immInv .nil))
 ·rw [hF];refine List.nodup_cons.2 ⟨λhq=>?_,by cases a7.ownBlock <;> simp⟩;have:=r6 b (by simpa [Option.mem_toList] using hq);exact hd' b (by rw [h1];simp) this
set_option maxHeartbeats 4000000 in
theorem Og (ds:List Dt) (N:Nat) (hN:N<=1000000):∀(m:Mi) (b:Nat),HH ds N m=true ->
  Bb Tryz.prog 139 [.raw (ptr b)] [(1,some (.hp (AU m b)))] (.ret (.hv 2 0) [(3,some (.hp (AU m b))),(2,some (.hp (Hb m)))])
 | .mk (.mk so n x ps) nt (.mk f hd2 hd3 hd4) ks,b,hw=>by
  have hwi:=Be.1 hw;simp only [Mi.nt,Mi.ks] at hwi;have hnt:nt.length<=1000000:=by omega
  have hkl:ks.length<=3:=hwi.1.2.1;refine Ae Ah Tryz.func139 (by decide +kernel) rfl [4,5,6,7,8,9,10,11,12] rfl rfl ?_;have J:∀(y:Opn) (ob:Nat),DGo Tryz.prog Tryz.f139.ntmps (DA [(1,some (.hp (AU (.mk (.mk so n x ps) nt (.mk f hd2 hd3 hd4) ks) b)))]) (MA eB Tryz.f139.results.toList (.ret (.hv 2 0) [(3,some (.hp (AU (.mk (.mk so n x ps) nt (.mk f hd2 hd3 hd4) ks) b))),(2,some (.hp (Hb (.mk (.mk so n x ps) nt (.mk f hd2 hd3 hd4) ks))))]))
    [.code (Fv Tryz.f139 2)] [(3,.raw (ptr ob)),(0,.raw (ptr b))] [(4,some (.hp (BV (.mk so n x ps) nt (.mk f hd2 hd3 hd4) ks y b))),(9,some (.hp (AU (.mk (.mk so n x ps) nt (.mk f hd2 hd3 hd4) []) ob)))] [5,6,7,8,10,11,12,13,14,2]:=by
   intro y ob;refine md [] rfl (by simp) ?_;refine Bk Ah 4 [.raw (Ho y.ko ks.length y.kc)] rfl rfl (λ_ vs I w bs h=>J5 h) rfl rfl (by simp [Ag]) ?_;refine mg [] rfl (by simp [Ag]) ?_;refine Aj (λi:Nat=>[(26,.imm (.int .i64 i)),(25,.imm (.int .i64 ks.length)),(24,.raw (Ho y.ko ks.length y.kc)),(3,.raw (ptr ob))])
    (λi=>[(4,some (.hp (BV (.mk so n x ps) nt (.mk f hd2 hd3 hd4) ks y b))),(9,some (.hp (AU (.mk (.mk so n x ps) nt (.mk f hd2 hd3 hd4) (ks.take i)) ob)))]) [5,6,7,8,10,11,12,13,14,2] (λi=>ks.length-i)
    (λi=>i<=ks.length) 0 (Nat.zero_le _) ⟨rfl,rfl,rfl,rfl,trivial⟩ ⟨rfl,rfl,trivial⟩ rfl λi hi ih=>?_
   refine md [] rfl (by simp) ?_;refine Aa rfl (λh=>?_) (λh=>?_)
   ·simp at h;obtain ⟨k,hk⟩:=Am h;have hC:=Og ds N hN k;have hih:=ih (i+1) (by omega) (by omega);rw [AS hk] at hih;refine BN 4 (λ_:{ z:Nat×Nat // y.ko=some z.1/\y.kbs[i]?=some z.2 }=>BV (.mk so n x ps) nt (.mk f hd2 hd3 hd4) ks y b) rfl (λvs I w bs hA=>?_) λz=>?_
    ·obtain ⟨g,g1,_⟩:=NW hA (λe=>by rw [e] at h;simp at h);have hl:=Hy hA;exact ⟨⟨(g,y.kbs[i]'(by omega)),g1,List.getElem?_eq_getElem (by omega)⟩,hA⟩
    obtain ⟨⟨g,kb⟩,hko,hkb⟩:=z;simp only at hko hkb;obtain ⟨no,nc,ko,kc,kbs⟩:=y;simp only at hko hkb;subst hko;have hC:=hC kb (hwi.2.2 k (List.mem_of_getElem? hk));refine BN 9 (λz:Opn=>BV (.mk so n x ps) nt (.mk f hd2 hd3 hd4) (ks.take i) z ob) rfl (λvs I w bs h=>let ⟨z,hz⟩:=Dy h;⟨z,hz⟩) λz=>?_;refine md [] rfl (by simp) ?_;refine Lt Ah rfl rfl (λ_=>⟨by simp,by simp;omega⟩) (by simp) ?_;refine mg [] rfl (by simp) ?_;refine Bk Ah 4 [.raw (ptr kb)] rfl rfl (λ_ vs I w bs h=>TY rfl hkb h) rfl rfl (by simp) ?_;refine jL 2 rfl (by simp) ?_
    refine Ik 4 5 6 (λ_:Unit=>Qk (.mk so n x ps) nt (.mk f hd2 hd3 hd4) ks ⟨no,nc,some g,kc,kbs⟩ b i kb) (λ_:Unit=>AU k kb) rfl (λvs I w bs h=>let ⟨b1,b2,h1,h2,h3,h4,h5⟩:=OW h hk hkb;⟨(),b1,b2,h1,h2,h3,h4,h5⟩) λ_=>?_;refine md [] rfl (by simp) ?_;refine Bk Ah 9 [.raw (Ho z.ko (ks.take i).length z.kc)] rfl rfl (λ_ vs I w bs h=>J5 h) rfl rfl (by simp [Ag]) ?_;refine mg [] rfl (by simp [Ag]) ?_;refine BT [(6,1)] [(3,7),(2,8)] [] (fr:=[7,8]) (nm:=[7,8,6]) rfl trivial (by simp) hC ⟨⟨rfl,rfl,rfl⟩,trivial⟩ rfl trivial rfl rfl rfl ?_;refine mg [] rfl (by simp) ?_;refine cG Ah 8 10 rfl rfl ?_;refine mg [] rfl (by simp) ?_
    refine cH Ah 9 10 11 (XH (.mk so n x ps) nt (.mk f hd2 hd3 hd4) (ks.take i++[k]) ob) rfl rfl rfl (by decide) (XD (bytes:=8) (by decide) (by simp;omega)) ?_;refine mg [] rfl (by simp) ?_;refine Ms Ah 11 _ rfl rfl T7 ?_;refine mg [] rfl (by simp [Ag];rfl) ?_;refine FO 5 7 12 (λ_:Unit=>BV (.mk so n x ps) nt (.mk f hd2 hd3 hd4) ks ⟨no,nc,some g,kc,kbs⟩ b) rfl rfl (by decide) (λvs us I w b1 b2 h1 h2 h3=>let ⟨bs,e1,e2⟩:=R9 h1 h2 h3;⟨(),bs,e1,by rw [ZS hk] at e2;exact e2⟩) λ_=>?_;refine A3 4 12 rfl ?_;refine A3 9 11 rfl ?_;exact Ad hih ⟨At (Bv (by omega) (by omega)),rfl,rfl,rfl,trivial⟩ ⟨rfl,rfl,trivial⟩ rfl
   ·simp at h;refine Ar rfl ?_;rw [List.take_of_length_le (by omega)];refine md [] rfl (by simp) ?_;refine BN 4 (λ_:Unit=>AU (.mk (.mk so n x ps) nt (.mk f hd2 hd3 hd4) ks) b) rfl (λvs I w bs h=>⟨(),DW h⟩) λ_=>?_;refine G5 9 2 5 (Hb (.mk (.mk so n x ps) nt (.mk f hd2 hd3 hd4) ks)) rfl rfl rfl (λus I w bs h=>let ⟨F,h1,h2⟩:=h;⟨ob,F,rfl,h1,h2⟩) ?_;refine A3 5 2 rfl ?_;refine A3 4 3 rfl ?_;exact Ab ⟨_,rfl,rfl,rfl,rfl,trivial⟩
  refine JG 1 4 (λy:Opn=>BV _ nt _ ks y b) rfl (λvs I w bs h=>let ⟨y,hy⟩:=Dy h;⟨y,bs,λq hq=>hq,hy⟩) λy=>?_;by_cases hne:nt=[]
  ·subst hne;refine BN 4 (λ_:PLift (y.no=none/\y.nc=0)=>BV _ [] _ ks y b) rfl (λvs I w bs h=>⟨⟨eL h⟩,h⟩) λhy=>?_;obtain ⟨no,nc,ko,kc,kbs⟩:=y;obtain ⟨⟨rfl,rfl⟩⟩:=hy;refine md [] rfl (by simp) ?_;refine Bk Ah 4 ((Al (.mk so n x ps)).map .imm) rfl rfl (λ_ vs I w bs h=>J4 h) rfl rfl (by simp [Ag]) ?_;refine mg [] rfl (by simp [Ag]) ?_;refine Bk Ah 4 ((Bd (.mk f hd2 hd3 hd4)).map .imm) rfl rfl (λ_ vs I w bs h=>NX h) rfl rfl (by simp [Ag]) ?_;refine mg [] rfl (by simp [Ag]) ?_;refine Bk Ah 4 [.raw H0] rfl rfl (λ_ vs I w bs h=>HY h) rfl rfl (by simp [Ag]) ?_;refine mg [] rfl (by simp [Ag]) ?_;refine BT [] [] [] (fr:=[]) (nm:=[]) rfl trivial (by simp) WG trivial rfl trivial rfl rfl rfl ?_
   refine jL 4 rfl (by simp [Ag];rfl) ?_;refine FP 5 6 rfl rfl λob=>?_;refine BN 6 (λ_:Unit=>AU (.mk (.mk so n x ps) [] (.mk f hd2 hd3 hd4) []) ob) rfl (λvs I w bs h=>⟨(),PT h⟩) λ_=>?_;refine A3 6 9 rfl ?_;exact Ad (J _ ob) ⟨rfl,rfl,trivial⟩ ⟨rfl,rfl,trivial⟩ rfl
  ·refine md [] rfl (by simp) ?_;refine Bk Ah 4 ((Al (.mk so n x ps)).map .imm) rfl rfl (λ_ vs I w bs h=>J4 h) rfl rfl (by simp [Ag]) ?_;refine mg [] rfl (by simp [Ag]) ?_;refine Bk Ah 4 ((Bd (.mk f hd2 hd3 hd4)).map .imm) rfl rfl (λ_ vs I w bs h=>NX h) rfl rfl (by simp [Ag]) ?_;refine mg [] rfl (by simp [Ag]) ?_;refine Bk Ah 4 [.raw (Ho y.no nt.length y.nc)] rfl rfl (λ_ vs I w bs h=>HY h) rfl rfl (by simp [Ag]) ?_;refine mg [] rfl (by simp [Ag]) ?_;refine BT [(4,3)] [(2,5)] [4] (fr:=[5]) (nm:=[5]) rfl trivial (by simp) (Zk _ nt _ ks y b hne hnt) ⟨⟨rfl,rfl,rfl⟩,trivial⟩ rfl ⟨⟨rfl,rfl⟩,trivial⟩ rfl rfl rfl ?_;refine jL 4 rfl (by simp [Ag];rfl) ?_;refine Kz 5 7 rfl λv=>?_
   refine FP 6 8 rfl rfl λob=>?_;refine FO 8 7 9 (λ_:Unit=>AU (.mk (.mk so n x ps) nt (.mk f hd2 hd3 hd4) []) ob) rfl rfl (by decide) (λvs us I w b1 b2 h1 h2 h3=>let ⟨bs,e1,e2⟩:=Zo hne h1 h2 h3;⟨(),bs,e1,e2⟩) λ_=>?_;exact Ad (J _ ob) ⟨rfl,rfl,trivial⟩ ⟨rfl,rfl,trivial⟩ rfl
termination_by m=>SizeOf.sizeOf m
decreasing_by
 have:=List.sizeOf_lt_of_mem (List.mem_of_getElem? hk);simp_wf;omega
def Es (ds:List Dt):Mi->List Int->Mi
 | m,[]=>m
 | m,i::p=>match (Af ds m).ks[i.toNat]? with
  | some k=>Es ds k p
  | none=>m
def LH (ds:List Dt):Mi->List Int->Mi->Mi
 | _,[],k=>k
 | m,i::p,k=>match (Af ds m).ks[i.toNat]? with
  | some x=>.mk (Af ds m).ty (Af ds m).nt (Af ds m).hd ((Af ds m).ks.set i.toNat (LH ds x p k))
  | none=>m
theorem QV {ds:List Dt} (h:Ty):∀(path:List Int) (m:Mi),HS ds m path->AH ds m path h true=LH ds m path (AY ds (Es ds m path) h) /\
  AH ds m path h false=LH ds m path (.mk (Es ds m path).ty ((Es ds m path).nt++[h]) (Es ds m path).hd (Es ds m path).ks)
 | [],m,_=>⟨rfl,rfl⟩
 | i::p,m,⟨_,k,hk,hp⟩=>by
  obtain ⟨h1,h2⟩:=QV h p k hp;simp only [AH,LH,Es,hk,h1,h2];exact ⟨trivial,trivial⟩
def AtA (ds:List Dt) (m:Mi) (b:Nat) (path:List Int):Asn where
 P us I w bs:=∃x b1 b2,us=[ptr x]/\(∀q∈b1,q∈bs)/\(∀q∈b2,q∈bs)/\(∀q∈b1,q∉b2)/\(FI b x (LH ds m path)).P [] I w b1/\(AU (Es ds m path) x).P [] I w b2
 mono:=λh ⟨x,b1,b2,h0,h1,h2,h3,h4,h5⟩=>⟨x,b1,b2,h0,h1,h2,h3,(FI _ _ _).mono h h4,(AU _ _).mono h h5⟩
 loc:=λh ⟨x,b1,b2,h0,h1,h2,h3,h4,h5⟩=>⟨x,b1,b2,h0,h1,h2,h3,(FI _ _ _).loc (λq hq=>h q (h1 q hq)) h4,(AU _ _).loc (λq hq=>h q (h2 q hq)) h5⟩
theorem Si {I:Imm} {w:World} {ty:Ty} {nt:List Ty} {hd:Ty} {ks:List Mi} {y:Opn} {b i kb:Nat} {us vs:List Value} {bs:List Nat} (h:(Qk ty nt hd ks y b i kb).P us I w bs):(FI b kb (λk=>.mk ty nt hd (ks.set i k))).P vs I w bs:=by
 intro J w2 k F hJ hw hm hF;obtain ⟨G,g1,g2⟩:=h J w2 k F hJ hw hm hF;obtain ⟨F',f1,f2⟩:=DW (vs:=[]) g1;exact ⟨F',f1,λq hq=>g2 q (f2 q hq)⟩
structure AtI where
 i:Nat
 x:Nat
 n:Mi
 T:Mi->Mi
set_option maxHeartbeats 4000000 in
theorem kM (c:Cse) (sz:List (List V)) (ho:OkW c.datas) (N:Nat) (m:Mi) (b:Nat) (path:List Int) (hl:path.length<=1000000) (hw:HH c.datas N m=true) (hc:E6 c.datas m) (hp:HS c.datas m path) :
  Bb Tryz.prog 155 [.imm (AL c sz),.raw (ptr b),.imm (.sl (AB path))] [(1,some (.hp (AU m b)))] (.ret (.hv 2 0) [(2,some (.hp (AtA c.datas m b path)))]):=by
 have hK:=λn x hn=>Ue c sz n x ho hn;refine Ae Ah Tryz.func155 (by decide +kernel) rfl [4,5,6,7,8,9,10,11,12] rfl rfl ?_;refine Ik 1 4 5 (λ_:Unit=>FI b b (λk=>k)) (λ_:Unit=>AU m b) rfl (λvs I w bs h=>⟨(),[],bs,(λq hq=>by cases hq),(λq hq=>hq),(λq hq=>by cases hq),dZ,h⟩) λ_=>?_;refine md [] rfl (by simp) ?_;refine Aj (λy:AtI=>[(11,.imm (.int .i64 y.i)),(10,.imm (.int .i64 path.length)),(9,.imm (.sl (AB path))),(1,.raw (ptr y.x)),(0,.imm (AL c sz))])
  (λy=>[(4,some (.hp (FI b y.x y.T))),(5,some (.hp (AU y.n y.x)))]) [6,7,8,9,10,11,12] (λy=>path.length-y.i)
  (λy=>y.i<=path.length/\HH c.datas N y.n=true/\E6 c.datas y.n/\HS c.datas y.n (path.drop y.i)/\Es c.datas y.n (path.drop y.i)=Es c.datas m path/\∀k,y.T (LH c.datas y.n (path.drop y.i) k)=LH c.datas m path k)
  ⟨0,b,m,λk=>k⟩ ⟨Nat.zero_le _,hw,hc,hp,rfl,λk=>rfl⟩ ⟨rfl,At (by simp),rfl,rfl,rfl,trivial⟩ ⟨rfl,rfl,trivial⟩ rfl λy hi ih=>?_
 obtain ⟨i,x,n,T⟩:=y;obtain ⟨hi1,hi2,hi3,hi4,hi5,hi6⟩:=hi;simp only at hi1 hi2 hi3 hi4 hi5 hi6;refine md [] rfl (by simp) ?_;refine Aa rfl (λh=>?_) (λh=>?_)
 ·have hlt:i<path.length:=by simp at h;omega
  obtain ⟨j,hj⟩:=Am hlt;rw [Ap hj] at hi4 hi5 hi6;obtain ⟨hj0,k,hk,hk2⟩:=hi4;have hsw:=CS ho hi2;have hsc:=Dq (ds:=c.datas) hi3;have hkm:=List.mem_of_getElem? hk;have hne:Ba (Af c.datas n).hd≠0:=λe=>by rw [(BQ.1 hsc).1 e] at hkm;cases hkm
  have hkb:Gx c.datas n=true:=decide_eq_true hne;have hKn:=hK n x (Be.1 hi2).1.1;rw [hkb] at hKn;simp only [Es,LH,hk] at hi5 hi6;have hwk:=(Be.1 hsw).2.2 k hkm;have hck:=(BQ.1 hsc).2.2 k hkm;have hjl:=(List.getElem?_eq_some_iff.1 hk).1;have hkl:=(Be.1 hsw).1.2.1;generalize Af c.datas n=S at *;obtain ⟨ty,nt,hd,ks⟩:=S;simp only [Mi.ks,Mi.ty,Mi.nt,Mi.hd] at *;refine md [] rfl (by simp) ?_;refine mi rfl (c:=[.int .i64 j]) (λ_=>⟨by simp,by simp [AB,hj],rfl⟩) (by simp) ?_;refine mg [] rfl (by simp) ?_;refine Az (fr:=[6]) [(5,1)] [(2,6)] rfl (by simp) hKn ⟨⟨rfl,rfl,rfl⟩,trivial⟩ rfl rfl rfl rfl ?_;refine BN 6 (λy:Opn=>BV ty nt hd ks y x) rfl (λvs I w bs h=>Dy h) λy=>?_;refine md [] rfl (by simp) ?_
  refine Bk Ah 6 [.raw (Ho y.ko ks.length y.kc)] rfl rfl (λ_ vs I w bs h=>J5 h) rfl rfl (by simp [Ag]) ?_;refine mg [] rfl (by simp [Ag]) ?_;refine Aa rfl (λh=>by exfalso;simp at h;omega) (λh=>?_);clear h;obtain ⟨q,rfl⟩:∃q:Nat,j=q:=⟨j.toNat,by omega⟩
  simp only [Int.toNat_natCast] at *;refine BN 6 (λ_:{ z:Nat×Nat // y.ko=some z.1/\y.kbs[q]?=some z.2 }=>BV ty nt hd ks y x) rfl (λvs I w bs hA=>?_) λz=>?_
  ·obtain ⟨g,g1,_⟩:=NW hA (λe=>by rw [e] at hjl;simp at hjl);have hl:=Hy hA;exact ⟨⟨(g,y.kbs[q]'(by omega)),g1,List.getElem?_eq_getElem (by omega)⟩,hA⟩
  obtain ⟨⟨g,kb⟩,hko,hkb2⟩:=z;simp only at hko hkb2;obtain ⟨no,nc,ko,kc,kbs⟩:=y;simp only at hko hkb2;subst hko;refine md [] rfl (by simp) ?_;refine Bk Ah 6 [.raw (Ho (some g) ks.length kc)] rfl rfl (λ_ vs I w bs h=>J5 h) rfl rfl (by simp [Ag]) ?_;refine mg [] rfl (by simp [Ag]) ?_;refine Lt Ah rfl rfl (λ_=>⟨by simp,by simp;omega⟩) (by simp) ?_;refine mg [] rfl (by simp) ?_;refine Bk Ah 6 [.raw (ptr kb)] rfl rfl (λ_ vs I w bs h=>TY rfl hkb2 h) rfl rfl (by simp) ?_;refine mg [] rfl (by simp) ?_;refine Ik 6 7 8 (λ_:Unit=>FI x kb (λk'=>.mk ty nt hd (ks.set q k'))) (λ_:Unit=>AU k kb) rfl (λvs I w bs h=>let ⟨b1,b2,h1,h2,h3,h4,h5⟩:=OW h hk hkb2;⟨(),b1,b2,h1,h2,h3,Si h4,h5⟩) λ_=>?_
  refine FO 4 7 9 (λ_:Unit=>FI b kb (λk'=>T (.mk ty nt hd (ks.set q k')))) rfl rfl (by decide) (λvs us I w b1 b2 h1 h2 h3=>⟨(),b1++b2,λq hq=>List.mem_append.1 hq,XQ h1 h2 h3⟩) λ_=>?_;refine A3 4 9 rfl ?_;refine A3 5 8 rfl ?_;exact Ad (ih ⟨i+1,kb,k,λk'=>T (.mk ty nt hd (ks.set q k'))⟩ (by simp only;omega) ⟨by simp only;omega,hwk,hck,hk2,hi5,hi6⟩) ⟨At (Bv (by omega) (by omega)),rfl,rfl,rfl,rfl,trivial⟩ ⟨rfl,rfl,trivial⟩ rfl
 ·have hlt:¬i<path.length:=by simp at h;omega
  refine Ar rfl ?_;rw [List.drop_eq_nil_of_le (by omega)] at hi5 hi6;simp only [Es,LH] at hi5 hi6;have hT:T=LH c.datas m path:=funext hi6;subst hT;subst hi5;refine md [] rfl (by simp) ?_;refine FO 4 5 6 (λ_:Unit=>Qh (FI b x (LH c.datas m path)) (AU (Es c.datas m path) x)) rfl rfl (by decide) (λvs us I w b1 b2 h1 h2 h3=>⟨(),b1++b2,λq hq=>List.mem_append.1 hq,b1,b2,λq hq=>List.mem_append_left _ hq,λq hq=>List.mem_append_right _ hq,h3,h1,h2⟩) λ_=>?_;refine G5 6 6 7 (AtA c.datas m b path) rfl rfl rfl (λus I w bs ⟨b1,b2,h1,h2,h3,h4,h5⟩=>⟨x,b1,b2,rfl,h1,h2,h3,h4,h5⟩) ?_;refine A3 7 2 rfl ?_;exact Ab ⟨_,rfl,rfl,rfl,trivial⟩
section
variable {I J:Imm} {w w':World} {ty:Ty} {nt:List Ty} {hd:Ty} {ks:List Mi} {nv kv:Value} {kbs:List Nat} {b:Nat} {us:List Value} {bs:List Nat}
def dL (ty:Ty) (nt:List Ty) (hd:Ty) (ks:List Mi) (b:Nat):Asn where
 P us I w bs:=∃v nv kv kbs Fk,us=[v]/\XA I w ty hd nv kv b/\Rt I w nt v/\J8 w kbs kv/\CV I w ks kbs Fk/\(AE v kv b++Fk).Nodup/\∀q∈AE v kv b++Fk,q∈bs
 mono:=λh ⟨v,nv,kv,kbs,Fk,h0,⟨vs,ts,hs,h1,h2,h3,h4⟩,⟨⟨xs,h5,h6⟩,h7⟩,h8,h9,h10⟩=>⟨v,nv,kv,kbs,Fk,h0,⟨vs,ts,hs,h1,h2,h3.mono h,h4.mono h⟩,⟨⟨xs,h5,h6.mono h⟩,h7⟩,h8,Dm h h9,h10⟩
 loc:=λh ⟨v,nv,kv,kbs,Fk,h0,⟨vs,ts,hs,h1,h2⟩,⟨⟨xs,h5,h6⟩,h7⟩,h8,h9,h10,h11⟩=>⟨v,nv,kv,kbs,Fk,h0,⟨vs,ts,hs,(h b (h11 b (by simp [AE]))).trans h1,h2⟩,
  ⟨⟨xs,BC (λq hq=>h q (h11 q (by simp only [AE,List.cons_append,List.mem_cons,List.mem_append];exact .inr (.inl (.inl hq))))) h5,h6⟩,h7⟩,BC (λq hq=>h q (h11 q (by simp only [AE,List.cons_append,List.mem_cons,List.mem_append];exact .inr (.inl (.inr hq))))) h8,
  Cg (λq hq=>h q (h11 q (by simp [hq]))) h9,h10,h11⟩
theorem fR {h:Ty} {bytes:Nat} (hb:bytes<=1000) (hl:nt.length<=1000000):dT (C2 ty nt hd ks nv kv kbs b) (dL ty (nt++[h]) hd ks b) 150 3 bytes nv [Bd h]:=by
 refine ⟨λc hc=>by simp at hc;subst hc;simp,λus I w b1 ⟨Fk,⟨hcell,hnot,hrow⟩,h2,h3,h4⟩=>?_⟩;obtain ⟨⟨xs,x1,x2⟩,x3⟩:=hnot;refine ⟨nt.length,xs,x1,λq hq=>h4 q (by simp [AE,hq]),⟨by simp only [maxLen,List.length_singleton];omega,?_⟩,λv' w' news n1 n2 hg=>?_⟩
 ·have:(nt.length+1)*bytes<=1000001*1000:=Nat.mul_le_mul (by omega) hb;simp only [List.length_singleton];omega
 have hne:∀q,q<w.heap.size->q∉nv.ownBlock.toList->w'.heap[q]?=w.heap[q]?:=λq hq hk=>hg.2.1.block q hq (λe=>hk (by simp [e]));have hbase:∀q∈nv.ownBlock.toList,q∈b1:=λq hq=>h4 q (by simp only [AE,List.cons_append,List.mem_cons,List.mem_append];exact .inr (.inl (.inl hq)));have hnod:=h3;simp only [AE,List.cons_append,List.append_assoc] at hnod;obtain ⟨n1',n2'⟩:=List.nodup_cons.1 hnod;obtain ⟨n3,n4,n5⟩:=List.nodup_append.1 n2';obtain ⟨n6,n7,n8⟩:=List.nodup_append.1 n4;have hbk:b∉nv.ownBlock.toList:=λh=>n1' (by simp only [List.mem_append];exact .inl h);have hkk:∀q∈kv.ownBlock.toList,q∉nv.ownBlock.toList:=λq hq hk=>n5 q hk q (by simp only [List.mem_append];exact .inl hq) rfl
 have hFk:∀q∈Fk,q∉nv.ownBlock.toList:=λq hq hk=>n5 q hk q (by simp only [List.mem_append];exact .inr hq) rfl;have hltn:=S7 (I:=I) (w:=w) (ty:=ty) (nt:=nt) (hd:=hd) (nv:=nv) (kv:=kv) (kbs:=kbs) (b:=b) ⟨hcell,⟨⟨xs,x1,x2⟩,x3⟩,hrow⟩;have hltb:b<w.heap.size:=hltn b (by simp [AE]);have hltkv:∀q∈kv.ownBlock.toList,q<w.heap.size:=λq hq=>hltn q (by simp only [AE,List.mem_cons,List.mem_append];exact .inr (.inr hq));have hltF:=NZ h2;have hv1:∀q∈v'.ownBlock.toList,q∈nv.ownBlock.toList\/w.heap.size<=q:=λq hq=>S3 hg hq;refine ⟨AE v' kv b++Fk,λq hq=>?_,v',nv,kv,kbs,Fk,rfl,?_,⟨⟨xs++news,?_,?_⟩,λe=>by simp at e⟩,?_,?_,?_,λq hq=>hq⟩
 ·simp only [AE,List.cons_append,List.mem_cons,List.mem_append] at hq;have hw:q∈b1\/(w.heap.size<=q/\q∈v'.ownBlock.toList):=by
   rcases hq with rfl | (hq | hq) | hq
   ·exact .inl (h4 q (by simp [AE]))
   ·rcases hv1 q hq with h | h
    ·exact .inl (hbase q h)
    ·exact .inr ⟨h,hq⟩
   ·exact .inl (h4 q (by simp only [AE,List.cons_append,List.mem_cons,List.mem_append];exact .inr (.inl (.inr hq))))
   ·exact .inl (h4 q (by simp [hq]))
  rcases hw with h | ⟨h,hq⟩
  ·exact .inl h
  ·exact .inr ⟨h,OU hg.1 hq⟩
 ·obtain ⟨vs0,ts,hs,c1,c2⟩:=hcell;exact ⟨vs0,ts,hs,(hne b hltb hbk).trans c1,c2⟩
 ·rw [List.length_append];exact hg.1
 ·rw [Ns,List.flatten_append];exact x2.append n1
 ·exact BC (λq hq=>hne q (hltkv q hq) (hkk q hq)) hrow
 ·exact Cg (λq hq=>hne q (hltF q hq) (hFk q hq)) h2
 ·have hvn:v'.ownBlock.toList.Nodup:=by cases v'.ownBlock <;> simp
  simp only [AE,List.cons_append,List.append_assoc];refine List.nodup_cons.2 ⟨λh=>?_,List.nodup_append.2 ⟨hvn,n4,λx hx y hy e=>?_⟩⟩
  ·rcases List.mem_append.1 h with h | h
   ·rcases hv1 b h with h | h
    ·exact hbk h
    ·omega
   ·exact n1' (List.mem_append_right _ h)
  ·subst e;rcases List.mem_append.1 hy with hy | hy
   ·rcases hv1 x hx with h | h
    ·exact hkk x hy h
    ·have:=hltkv x hy;omega
   ·rcases hv1 x hx with h | h
    ·exact hFk x hy h
    ·have:=hltF x hy;omega
theorem eI:Qg (dL ty nt hd ks b) (AU (.mk ty nt hd ks) b) b 7 0:=by
 intro us I w bs ⟨v,nv,kv,kbs,Fk,h0,⟨vs,ts,hs,h1,h2,h3,h4⟩,h5,h6,h7,h8,h9⟩;have e1:ts.length=4:=by rw [h3.1,Oy]
 have e2:hs.length=3:=by rw [h4.1];simp
 have hl:vs.toList.length=9:=by rw [h2];simp [e1,e2]
 refine ⟨h9 b (by simp [AE]),vs,_,h1,by simp at hl;omega,λu hu h1u=>?_⟩;subst h0;have hu:v=u:=by simpa using hu
 subst hu;have hne:=Kq h8;refine ⟨AE v kv b++Fk,⟨v,kv,kbs,Fk,⟨⟨_,ts,hs,setRow_heap w b vs _ _ _ h1,?_,h3,h4⟩,⟨?_,h5.2⟩,?_⟩,?_,rfl,h8⟩,h9⟩
 ·rw [List.toList_toArray,h2]
  match ts,e1 with
  | [a0,a1,a2,a3],_ =>
  match hs,e2 with
  | [a4,a5,a6],_=>simp
 ·obtain ⟨⟨xs,x1,x2⟩,_⟩:=h5;exact ⟨xs,BC (λq hq=>C4 (hne q (by simp only [List.mem_append];exact .inl (.inl hq)))) x1,x2⟩
 ·exact BC (λq hq=>C4 (hne q (by simp only [List.mem_append];exact .inl (.inr hq)))) h6
 ·exact Cg (λq hq=>C4 (hne q (by simp only [List.mem_append];exact .inr hq))) h7
end
theorem WJ {ds:List Dt} (ho:OkW ds) {N:Nat}:∀(path:List Int) (m:Mi),HH ds N m=true->HS ds m path->HH ds N (Es ds m path)=true
 | [],m,h,_=>h
 | i::p,m,h,⟨_,k,hk,hp⟩=>by
  simp only [Es,hk];exact WJ ho p k ((Be.1 (CS ho h)).2.2 k (List.mem_of_getElem? hk)) hp
set_option maxHeartbeats 4000000 in
theorem Vr (c:Cse) (sz:List (List V)) (ho:OkW c.datas) (N:Nat) (hN:N<=1000000) (m:Mi) (b:Nat) (path:List Int) (h:Ty) (is:Bool) (hl:path.length<=1000000) (hw:HH c.datas N m=true) (hc:E6 c.datas m) (hp:HS c.datas m path) :
  Bb Tryz.prog 110 [.imm (AL c sz),.raw (ptr b),.imm (.sl (AB path)),.imm (.agg (Bd h)),.imm (.bool is)] [(1,some (.hp (AU m b)))] (.ret (.hv 2 0) [(3,some (.hp (AU m b))),(2,some (.hp (Hb (AH c.datas m path h is))))]):=by
 have hC:=Og c.datas N hN m b hw;have hA:=λx=>kM c sz ho N m x path hl hw hc hp;have hwp:=Be.1 (WJ ho path m hw hp);have hH:=λx=>Wn c sz (Es c.datas m path) h x ho hwp.1.1;obtain ⟨s1,s2⟩:=QV h path m hp;have hnl:=hwp.1.2.2;obtain ⟨h1,h2,h3,h4⟩:=h;refine Ae Ah Tryz.func110 (by decide +kernel) rfl [4,5,6,7,8,9,10,11,12,13,14] rfl rfl ?_;refine mg [] rfl (by simp) ?_;refine Az (fr:=[5,6]) [(1,1)] [(3,5),(2,6)] rfl (by simp) hC ⟨⟨rfl,rfl,rfl⟩,trivial⟩ rfl rfl rfl rfl ?_;refine Jf 6 7 (λob:Nat=>[ptr ob]) (λob=>AU m ob) rfl (λvs I w bs h=>let ⟨ob,F,e1,e2,e3⟩:=h;⟨ob,e1,F,e2,e3⟩) λob=>?_;refine md [] rfl (by simp) ?_
 refine Az (fr:=[8]) [(7,1)] [(2,8)] rfl (by simp) (hA ob) ⟨⟨rfl,rfl,rfl⟩,trivial⟩ rfl rfl rfl rfl ?_;refine Jf 8 9 (λx:Nat=>[ptr x]) (λx=>Qh (FI ob x (LH c.datas m path)) (AU (Es c.datas m path) x)) rfl (λvs I w bs h=>let ⟨x,b1,b2,e1,e2⟩:=h;⟨x,e1,b1,b2,e2⟩) λx=>?_;refine Ik 9 10 11 (λ_:Unit=>FI ob x (LH c.datas m path)) (λ_:Unit=>AU (Es c.datas m path) x) rfl (λvs I w bs ⟨b1,b2,h1,h2,h3,h4,h5⟩=>⟨(),b1,b2,h1,h2,h3,h4,h5⟩) λ_=>?_;refine md [] rfl (by simp) ?_;cases is with
 | true =>
  refine Aa rfl (λh=>?_) (λh=>by simp at h);refine md [] rfl (by simp) ?_;refine Az (fr:=[12]) [(11,1)] [(2,12)] rfl (by simp) (hH x) ⟨⟨rfl,rfl,rfl⟩,trivial⟩ rfl rfl rfl rfl ?_;refine mg [] rfl (by simp) ?_;refine FO 10 12 13 (λ_:Unit=>AU (AH c.datas m path (.mk h1 h2 h3 h4) true) ob) rfl rfl (by decide) (λvs us I w b1 b2 k1 k2 k3=>let ⟨bs,e1,e2⟩:=QH k1 k2 k3;⟨(),bs,e1,by rw [s1];exact e2⟩) λ_=>?_;refine G5 13 10 14 (Hb (AH c.datas m path (.mk h1 h2 h3 h4) true)) rfl rfl rfl (λus I w bs h=>let ⟨F,e1,e2⟩:=h;⟨ob,F,rfl,e1,e2⟩) ?_;refine A3 14 2 rfl ?_;refine A3 5 3 rfl ?_;exact Ab ⟨_,rfl,rfl,rfl,rfl,trivial⟩
 | false =>
  refine Aa rfl (λh=>by simp at h) (λh=>?_);generalize hP:Es c.datas m path=P0 at *;obtain ⟨pty,pnt,phd,pks⟩:=P0;simp only [Mi.nt,Mi.ty,Mi.hd,Mi.ks] at hnl s2;refine BN 11 (λy:Opn=>BV pty pnt phd pks y x) rfl (λvs I w bs h=>Dy h) λy=>?_;refine md [] rfl (by simp) ?_;refine Bk Ah 11 [.raw (Ho y.no pnt.length y.nc)] rfl rfl (λ_ vs I w bs h=>HY h) rfl rfl (by simp [Ag]) ?_;refine mg [] rfl (by simp [Ag]) ?_;refine jD Ah 11 12 (dL pty (pnt++[Ty.mk h1 h2 h3 h4]) phd pks x) rfl rfl (fR (h:=Ty.mk h1 h2 h3 h4) (bytes:=32) (by decide) (by omega)) ?_;refine mg [] rfl (by simp) ?_;refine Ms Ah 12 _ rfl rfl eI ?_;refine mg [] rfl (by simp [Ag];rfl) ?_
  refine FO 10 12 13 (λ_:Unit=>AU (AH c.datas m path (.mk h1 h2 h3 h4) false) ob) rfl rfl (by decide) (λvs us I w b1 b2 k1 k2 k3=>let ⟨bs,e1,e2⟩:=QH k1 k2 k3;⟨(),bs,e1,by rw [s2];exact e2⟩) λ_=>?_;refine G5 13 10 14 (Hb (AH c.datas m path (.mk h1 h2 h3 h4) false)) rfl rfl rfl (λus I w bs h=>let ⟨F,e1,e2⟩:=h;⟨ob,F,rfl,e1,e2⟩) ?_;refine A3 14 2 rfl ?_;refine A3 5 3 rfl ?_;exact Ab ⟨_,rfl,rfl,rfl,rfl,trivial⟩
end Go.Hk
namespace Go.Hk
open Go.Proofs
section
variable {I J:Imm} {w w':World} {ty:Ty} {nt:List Ty} {hd:Ty} {ks:List Mi} {b:Nat} {us:List Value} {bs:List Nat}
def Vi (ty:Ty) (nt:List Ty) (hd:Ty) (ks:List Mi) (y:Opn) (b i kb:Nat):Asn where
 P us I w bs:=Hg I w ty nt hd (Ho y.no nt.length y.nc) (Ho y.ko ks.length y.kc) y.kbs b/\y.kbs.length=ks.length/\(∀q∈AE (Ho y.no nt.length y.nc) (Ho y.ko ks.length y.kc) b,q∈bs)/\(Qk ty nt hd ks y b i kb).P us I w bs
 mono:=λh ⟨h1,h2,h3,h4⟩=>⟨DY h h1,h2,h3,(Qk ty nt hd ks y b i kb).mono h h4⟩
 loc:=λh ⟨h1,h2,h3,h4⟩=>⟨ET (λq hq=>h q (h3 q hq)) h1,h2,h3,(Qk ty nt hd ks y b i kb).loc h h4⟩
theorem TG {y:Opn} {i kb:Nat} {k:Mi} (h:(BV ty nt hd ks y b).P us I w bs) (hk:ks[i]?=some k) (hkb:y.kbs[i]?=some kb) :
  ∃b1 b2,(∀q∈b1,q∈bs)/\(∀q∈b2,q∈bs)/\(∀q∈b1,q∉b2)/\(Vi ty nt hd ks y b i kb).P [] I w b1/\(AU k kb).P [] I w b2:=by
 have h0:=h;obtain ⟨Fk,h1,h2,h3,h4⟩:=h0;have hl:=Hy h;obtain ⟨kb',F1,Fi,F2,g1,g2,g3,g4⟩:=Kw h2 hk;rw [hkb] at g1;cases g1;subst g3;generalize hnv:Ho y.no nt.length y.nc=nv at *;generalize hkv:Ho y.ko ks.length y.kc=kv at *;refine ⟨AE nv kv b++(F1++F2),Fi,λq hq=>h4 q (by simp at hq ⊢;rcases hq with h | h | h <;> simp [h]),λq hq=>h4 q (by simp [hq]),λq hq hq2=>?_,⟨by rw [hnv,hkv];exact h1,hl,λq hq=>by rw [hnv,hkv] at hq;simp [hq],?_⟩,⟨Fi,g2,λq hq=>hq⟩⟩
 ·have e:AE nv kv b++(F1++Fi++F2)=(AE nv kv b++F1)++Fi++F2:=by simp
  rw [e] at h3;have hn:=List.nodup_append.1 h3;have hn2:=List.nodup_append.1 hn.1;rcases List.mem_append.1 hq with hq | hq
  ·exact hn2.2.2 q (by simp [hq]) q hq2 rfl
  ·rcases List.mem_append.1 hq with hq | hq
   ·exact hn2.2.2 q (by simp [hq]) q hq2 rfl
   ·exact hn.2.2 q (by simp [hq2]) q hq rfl
 ·intro J w2 k' F hJ hw hm hd';refine ⟨AE nv kv b++(F1++F++F2),⟨F1++F++F2,?_,g4 J w2 k' F hJ (λq hq=>hw q (by simp only [List.mem_append] at hq ⊢;exact .inr hq)) hm,?_,λq hq=>?_⟩,λq hq=>?_⟩
  ·rw [List.length_set,hnv,hkv];exact DY hJ (ET (λq hq=>hw q (by simp [hq])) h1)
  ·rw [List.length_set,hnv,hkv];have hF:=HX hm;have e:AE nv kv b++(F1++Fi++F2)=(AE nv kv b++F1)++(Fi++F2):=by simp
   have e2:AE nv kv b++(F1++F++F2)=(AE nv kv b++F1)++(F++F2):=by simp
   rw [e] at h3;rw [e2];obtain ⟨a1,a2,a3⟩:=List.nodup_append.1 h3;obtain ⟨a4,a5,a6⟩:=List.nodup_append.1 a2;refine List.nodup_append.2 ⟨a1,List.nodup_append.2 ⟨hF,a5,λx hx y hy e=>hd' x hx (by subst e;simp [hy])⟩,λx hx y hy e=>?_⟩;subst e;rcases List.mem_append.1 hy with hy | hy
   ·exact hd' x hy (by simp only [List.mem_append] at hx ⊢;rcases hx with h | h <;> simp [h])
   ·exact a3 x hx x (by simp [hy]) rfl
  ·rw [List.length_set,hnv,hkv] at hq;exact hq
  ·simp only [List.mem_append] at hq ⊢;rcases hq with h | (h | h) | h <;> simp [h]
theorem eX {y:Opn} {i kb:Nat} (h:(Vi ty nt hd ks y b i kb).P us I w bs):CF I w b 8 [.raw (Ho y.ko ks.length y.kc)]:=by
 obtain ⟨h,_⟩:=h;obtain ⟨t1,t2,t3,t4⟩:=ty;obtain ⟨f1,f2,f3,f4⟩:=hd;exact Fb (DS h) λj d hd=>by match j,hd with | 0,hd=>exact hd | j+1,hd=>simp at hd
theorem bU {y:Opn} {g i kb:Nat} (hko:y.ko=some g) (hkb:y.kbs[i]?=some kb) (h:(Vi ty nt hd ks y b i kb).P us I w bs):CF I w g (0+i*1) [.raw (ptr kb)]:=by
 obtain ⟨h1,h2,h3,_⟩:=h;have hi:=(List.getElem?_eq_some_iff.1 hkb).1;rcases h1.2.2.2 with ⟨_,h0⟩ | ⟨g',cap,cur,e,_,e1,e2,_,e3,e4⟩
 ·omega
 rw [hko] at e;simp only [Ho,Option.map_some,Value.slice.injEq,Option.some.injEq,Addr.mk.injEq,and_true] at e;obtain ⟨rfl,e5,rfl⟩:=e;refine ⟨cur,_,_,e1,λj d hd=>?_⟩
 match j with
 | 0 =>
  simp at hd;subst hd;refine ⟨ptr kb,?_,rfl,.raw _ rfl⟩;have:(cur.toList.take (y.kbs.length*1))[i]?=some (ptr kb):=by rw [e4];simp [hkb]
  rw [List.getElem?_take] at this
  split at this
  ·simpa using this
  ·cases this
 | j+1=>simp at hd
theorem Px {y:Opn} {i kb:Nat} {k:Mi} {vs:List Value} {b1 b2:List Nat} (h:(Vi ty nt hd ks y b i kb).P us I w b1) (hk:(AU k kb).P vs I w b2) (hd':∀q∈b1,q∉b2):∃bs,(∀q∈bs,q∈b1\/q∈b2)/\(BV ty nt hd (ks.set i k) y b).P [] I w bs:=R9 h.2.2.2 hk hd'
end
def NE (path:List Int) (r:Int×List Int×Ty):D:=if r.1=2 then .tup [.imm (.bool false),.ip 170 (.sl (AB (path++r.2.1))::Bd r.2.2) 0] else .imm (.tup [.bool (decide (r.1=1)),.nilp])
theorem Yf {ds:List Dt} {f n:Int} {x:Str} {ps:List Ty} {m:Mi} :
  (f=1\/f=2->A0 ds (.mk f n x ps) m=(1,[],zT)/\Em ds (.mk f n x ps) m=m) /\
  (¬(f=1\/f=2)->Ba (Af ds m).hd=0->Em ds (.mk f n x ps) m=Af ds m/\(B1 (Af ds m).nt (AJ (.mk f n x ps))=true->A0 ds (.mk f n x ps) m=(0,[],zT))/\(B1 (Af ds m).nt (AJ (.mk f n x ps))=false->A0 ds (.mk f n x ps) m=(2,[],AJ (.mk f n x ps)))) /\
  (¬(f=1\/f=2)->Ba (Af ds m).hd≠0->AK (Af ds m).hd (AJ (.mk f n x ps))=false->Em ds (.mk f n x ps) m=Af ds m/\A0 ds (.mk f n x ps) m=(0,[],zT)) /\
  (¬(f=1\/f=2)->Ba (Af ds m).hd≠0->AK (Af ds m).hd (AJ (.mk f n x ps))=true->Em ds (.mk f n x ps) m = .mk (Af ds m).ty (Af ds m).nt (Af ds m).hd (CK ds ps (Af ds m).ks)/\A0 ds (.mk f n x ps) m=B8 ds 0 ps (Af ds m).ks):=by
 refine ⟨λh=>?_,λh h0=>?_,λh h0 h1=>?_,λh h0 h1=>?_⟩
 ·exact ⟨by simp only [A0,if_pos h],by simp only [Em,if_pos h]⟩
 ·refine ⟨by simp only [Em,if_neg h,if_pos (Or.inl h0)],λhb=>?_,λhb=>?_⟩
  ·simp only [A0,if_neg h];rw [if_neg (λhh=>by rw [hb] at hh;cases hh.2),if_pos (Or.inl h0)]
  ·simp only [A0,if_neg h];rw [if_pos ⟨h0,hb⟩]
 ·refine ⟨by simp only [Em,if_neg h,if_pos (Or.inr h1)],?_⟩;simp only [A0,if_neg h];rw [if_neg (λhh=>h0 hh.1),if_pos (Or.inr h1)]
 ·have hn:¬(Ba (Af ds m).hd=0\/AK (Af ds m).hd (AJ (.mk f n x ps))=false):=λh=>by
   rcases h with h | h
   ·exact h0 h
   ·rw [h1] at h;cases h
  refine ⟨by simp only [Em,if_neg h,if_neg hn],?_⟩;simp only [A0,if_neg h];rw [if_neg (λhh=>h0 hh.1),if_neg hn]
theorem T3 (l:List Int):∀c∈AB l,c.length=1:=λc hc=>by simp only [AB,List.mem_map] at hc;obtain ⟨q,_,rfl⟩:=hc;rfl
theorem dE (path:List Int) (i:Int) (r1:Int) (r2:List Int) (r3:Ty):NE (path++[i]) (r1,r2,r3)=NE path (r1,i::r2,r3):=by
 simp only [NE,List.append_assoc,List.singleton_append]
theorem Yc {α:Type} {l:List α} {i:Nat} (a:α) (h:i<l.length):l.set i a=l.take i++a::l.drop (i+1):=by
 apply List.ext_getElem?;intro j;rw [List.getElem?_set];by_cases e:i=j
 ·subst e;rw [if_pos rfl,if_pos h,List.getElem?_append_right (by simp;omega)];simp [Nat.min_eq_left (Nat.le_of_lt h)]
 ·rw [if_neg e];rcases Nat.lt_or_ge j i with hj | hj
  ·rw [List.getElem?_append_left (by simp;omega),List.getElem?_take,if_pos hj]
  ·rw [List.getElem?_append_right (by simp;omega),List.length_take,Nat.min_eq_left (Nat.le_of_lt h)];obtain ⟨q,hq⟩:∃q,j-i=q+1:=⟨j-i-1,by omega⟩
   rw [hq,List.getElem?_cons_succ,List.getElem?_drop];congr 1;omega
set_option maxHeartbeats 4000000 in
theorem ZX (c:Cse) (sz:List (List V)) (ho:OkW c.datas) (N:Nat) (hN:N<=1000000):∀(p:Ty) (m:Mi) (b:Nat) (path:List Int),path.length+An p<=1000000->HH c.datas N m=true->E6 c.datas m->Cn c.datas m.ty p=true->B5 p=true ->
  Bb Tryz.prog 109 [.imm (AL c sz),.imm (.agg (Al p)),.raw (ptr b),.imm (.sl (AB path))] [(1,some (.hp (AU m b)))] (.ret (NE path (A0 c.datas p m)) [(2,some (.hp (AU (Em c.datas p m) b)))])
 | .mk f n x ps,m,b,path,hN1,hw,hc,hpt,hpp=>by
  have hK:=Ue c sz m b ho (Be.1 hw).1.1;have hW:=KB (.mk f n x ps);have hcl:=Zv path (by omega);have hfit:=Jb ho (.mk f n x ps) hw hc hpt hpp;have hsw:=CS ho hw;have hsc:=Dq (ds:=c.datas) hc;have hkp:¬(f=1\/f=2)->Ba (Af c.datas m).hd≠0->AK (Af c.datas m).hd (AJ (.mk f n x ps))=true->ps.length=(Af c.datas m).ks.length/\∀(i:Nat) k p,(Af c.datas m).ks[i]?=some k->ps[i]?=some p->Cn c.datas k.ty p=true/\B5 p=true:=λh12 h0 hE=>by
   obtain ⟨k1,k2,k3,k4⟩:=OX (Be.1 hw).1.1 hpt hpp h12;have hks:=((BQ.1 hsc).2.1 h0).2;rw [Uo hE,EM] at hks;refine ⟨by rw [<- k2,<- hks,List.length_map],λi k p hk hp=>⟨IE k3 (by rw [<- hks];simp [hk]) hp,Na k4 hp⟩⟩
  obtain ⟨e1,e2,e3,e4⟩:=Yf (ds:=c.datas) (f:=f) (n:=n) (x:=x) (ps:=ps) (m:=m);simp only [An] at hN1;simp only [Wv] at hfit;refine Ae Ah Tryz.func109 (by decide +kernel) rfl [3,4,5,6,7,8,9,10,11,12] rfl rfl ?_;refine mg [] rfl (by simp) ?_;by_cases h12:f=1\/f=2
  ·obtain ⟨q1,q2⟩:=e1 h12;rw [q1,q2];refine Aa rfl (λh=>?_) (λh=>by exfalso;revert h;rcases h12 with rfl | rfl <;> simp);refine md [] rfl (by simp) ?_;refine JG 1 4 (λ_:Unit=>AU m b) rfl (λvs I w bs h=>let ⟨F,k1,k2⟩:=h;⟨(),bs,λq hq=>hq,F,k1,k2⟩) λ_=>?_;refine A3 4 2 rfl ?_;exact Ab ⟨_,rfl,rfl,rfl,trivial⟩
  replace e2:=e2 h12;replace e3:=e3 h12;replace e4:=e4 h12;replace hkp:=hkp h12;clear e1;refine Aa rfl (λh=>by exfalso;apply h12;simpa using h) (λh=>?_);clear h;refine md [] rfl (by simp) ?_;refine Ac rfl (λ_=>hW) (by simp) ?_;have hkb:Gx c.datas m=decide (Ba (Af c.datas m).hd≠0):=rfl;generalize A0 c.datas (.mk f n x ps) m=L at *;generalize Em c.datas (.mk f n x ps) m=ST at *;generalize AJ (.mk f n x ps)=h at *;generalize Af c.datas m=S at *;generalize Gx c.datas m=kb at *;obtain ⟨ty,nt,hd,ks⟩:=S;simp only [Mi.ty,Mi.nt,Mi.hd,Mi.ks] at *;obtain ⟨h1,h2,h3,h4⟩:=h;refine mg [] rfl (by simp) ?_;refine Az (fr:=[5]) [(1,1)] [(2,5)] rfl (by simp) hK ⟨⟨rfl,rfl,rfl⟩,trivial⟩ rfl rfl rfl rfl ?_
  refine mg [] rfl (by simp) ?_;have hCt:=FV nt (.mk h1 h2 h3 h4);by_cases h0:Ba hd=0
  ·have hkf:kb=false:=by rw [hkb];exact decide_eq_false (λhh=>hh h0)
   subst hkf;obtain ⟨q1,q2,q3⟩:=e2 h0;refine Aa rfl (λh=>?_) (λh=>by simp at h);refine BN 5 (λy:Opn=>BV ty nt hd ks y b) rfl (λvs I w bs h=>Dy h) λy=>?_;refine md [] rfl (by simp) ?_;refine Bk Ah 5 [.raw (Ho y.no nt.length y.nc)] rfl rfl (λ_ vs I w bs h=>HY h) rfl rfl (by simp [Ag]) ?_;refine mg [] rfl (by simp [Ag]) ?_;refine Oc 5 (vs:=[.sl (Bo nt),.agg (Bd (.mk h1 h2 h3 h4))]) rfl rfl (λ_=>⟨.inr ⟨_,rfl,λus I w bs h J hle hJ=>Hq h hle hJ⟩,.inl rfl,trivial⟩) (λ_=>hCt) rfl (by simp) rfl ?_;refine mg [] rfl (by simp [Ag];rfl) ?_;refine BN 5 (λ_:Unit=>AU (.mk ty nt hd ks) b) rfl (λvs I w bs h=>⟨(),DW h⟩) λ_=>?_;rw [q1];cases hb:B1 nt (.mk h1 h2 h3 h4) with
   | true =>
    rw [q2 hb];refine Aa rfl (λh=>?_) (λh=>by simp at h);refine md [] rfl (by simp) ?_;refine A3 5 2 rfl ?_;exact Ab ⟨_,rfl,rfl,rfl,trivial⟩
   | false =>
    rw [q3 hb];refine Aa rfl (λh=>by simp at h) (λh=>?_);refine md [] rfl (by simp) ?_;refine Ac rfl (λ_=>hcl) (by simp) ?_;refine mg [] rfl (by simp;rfl) ?_;refine N5 9 rfl rfl ?_;refine A3 5 2 rfl ?_;have hap:path++[]=path:=List.append_nil path;simp only [NE,if_true,hap];exact Ab ⟨_,rfl,rfl,rfl,trivial⟩
  have hkt:kb=true:=by rw [hkb];exact decide_eq_true h0
  subst hkt;refine Aa rfl (λh=>by simp at h) (λh=>?_);refine BN 5 (λy:Opn=>BV ty nt hd ks y b) rfl (λvs I w bs h=>Dy h) λy=>?_;refine md [] rfl (by simp) ?_;obtain ⟨d1,d2,d3,d4⟩:=hd;refine Bk Ah 5 ((Bd (.mk d1 d2 d3 d4)).map .imm) rfl rfl (λ_ vs I w bs h=>NX h) rfl rfl (by simp [Ag]) ?_;refine mg [] rfl (by simp [Ag]) ?_;refine Ux Ah rfl Lq (by simp [Ag]) ?_;refine mg [] rfl (by simp [Ag];rfl) ?_;cases hE:AK (.mk d1 d2 d3 d4) (.mk h1 h2 h3 h4) with
  | false =>
   obtain ⟨q1,q2⟩:=e3 h0 hE;rw [q1,q2];simp only [AK] at hE;refine BN 5 (λ_:Unit=>AU (.mk ty nt (.mk d1 d2 d3 d4) ks) b) rfl (λvs I w bs h=>⟨(),DW h⟩) λ_=>?_;refine Aa rfl (λh=>?_) (λh=>by exfalso;simp at h hE;grind);refine md [] rfl (by simp) ?_;refine A3 5 2 rfl ?_;exact Ab ⟨_,rfl,rfl,rfl,trivial⟩
  | true =>
  obtain ⟨q1,q2⟩:=e4 h0 hE;rw [q1,q2];have hEf:(Ba (Ty.mk d1 d2 d3 d4)=0)=False:=by simp [h0]
  simp only [AK] at hE;refine Aa rfl (λh=>by exfalso;simp at h hE;grind) (λh=>?_);clear h;refine md [] rfl (by simp) ?_;obtain ⟨hpl,hkp⟩:=hkp h0 (by simp only [AK];exact hE);have hks3:ks.length<=3:=(Be.1 hsw).1.2.1;refine Aj (λz:Nat×List Mi=>[(49,.imm (.int .i64 z.1)),(48,.imm (.int .i64 ps.length)),(47,.imm (.sl (Bg ps))),(3,.imm (.sl (AB path))),(2,.raw (ptr b)),(0,.imm (AL c sz))])
   (λz=>[(5,some (.hp (BV ty nt (.mk d1 d2 d3 d4) z.2 y b)))]) [6,7,8,9,10,11,12] (λz=>ps.length-z.1)
   (λz=>z.1<=ps.length/\z.2.length=ks.length/\z.2.drop z.1=ks.drop z.1/\B8 c.datas 0 ps ks=B8 c.datas z.1 (ps.drop z.1) (ks.drop z.1)/\CK c.datas ps ks=z.2.take z.1++CK c.datas (ps.drop z.1) (ks.drop z.1)) (0,ks)
   ⟨Nat.zero_le _,rfl,rfl,rfl,rfl⟩ ⟨rfl,At (by simp),rfl,rfl,rfl,rfl,trivial⟩ ⟨rfl,trivial⟩ rfl λz hz ih=>?_
  obtain ⟨i,K⟩:=z;obtain ⟨z1,z2,z3,z4,z5⟩:=hz;simp only at z1 z2 z3 z4 z5;refine md [] rfl (by simp) ?_;refine Aa rfl (λh=>?_) (λh=>?_)
  ·have hlt:i<ps.length:=by simp at h;omega
   obtain ⟨p,hp⟩:=Am hlt;obtain ⟨k,hk⟩:=Am (l:=ks) (i:=i) (by omega);have hKk:K[i]?=some k:=by
    have:=congrArg (·[0]?) z3;simpa [hk] using this
   obtain ⟨r1,r2⟩:=hkp i k p hk hp;have hnp:=B7 hp;have hS:=λkb=>ZX c sz ho N hN p k kb (path++[(i:Int)]) (by simp;omega) ((Be.1 hsw).2.2 k (List.mem_of_getElem? hk)) ((BQ.1 hsc).2.2 k (List.mem_of_getElem? hk)) r1 r2;rw [Ph hp hk] at z4;rw [Ap hp,Ap hk] at z5;simp only [CK] at z5;have hKi:i<K.length:=by omega
   have hdr:K.drop (i+1)=ks.drop (i+1):=by rw [<- List.drop_drop,z3,List.drop_drop]
   have hset:=Yc (Em c.datas p k) hKi;have hn1:∀e:(A0 c.datas p k).1≠1,CK c.datas ps ks=K.set i (Em c.datas p k):=λe=>by rw [z5,hset,if_neg e,hdr]
   have hn2:(A0 c.datas p k).1=1->CK c.datas ps ks=(K.set i (Em c.datas p k)).take (i+1)++CK c.datas (ps.drop (i+1)) (ks.drop (i+1)):=λe=>by
    have e1:(K.set i (Em c.datas p k))[i]?=some (Em c.datas p k):=List.getElem?_set_self hKi;rw [z5,if_pos e,AS e1,List.take_set_of_le (Nat.le_refl i)];simp
   have hn3:(K.set i (Em c.datas p k)).drop (i+1)=ks.drop (i+1):=by rw [List.drop_set_of_lt (by omega)];exact hdr
   have hih:=λe:(A0 c.datas p k).1=1=>ih (i+1,K.set i (Em c.datas p k)) (by simp only;omega) ⟨by simp only;omega,by simp [z2],hn3,by rw [z4,if_pos e],hn2 e⟩;have hz4:(A0 c.datas p k).1≠1->B8 c.datas 0 ps ks=((A0 c.datas p k).1,(i:Int)::(A0 c.datas p k).2.1,(A0 c.datas p k).2.2):=λe=>by rw [z4,if_neg e]
   clear ih z4 z5 hn2 hn3 hset;generalize Em c.datas p k=k' at *;generalize A0 c.datas p k=r at *;obtain ⟨r1',r2',r3'⟩:=r;simp only at hih hz4 hn1;refine BN 5 (λ_:{ z:Nat×Nat // y.ko=some z.1/\y.kbs[i]?=some z.2 }=>BV ty nt (.mk d1 d2 d3 d4) K y b) rfl (λvs I w bs hA=>?_) λz=>?_
   ·obtain ⟨g,g1,_⟩:=NW hA (λe=>by have e:K=[]:=e;rw [e] at hKi;simp at hKi);have hl:y.kbs.length=K.length:=Hy hA;exact ⟨⟨(g,y.kbs[i]'(by omega)),g1,List.getElem?_eq_getElem (by omega)⟩,hA⟩
   obtain ⟨⟨g,kb⟩,hko,hkb2⟩:=z;simp only at hko hkb2;obtain ⟨no,nc,ko,kc,kbs⟩:=y;simp only at hko hkb2;subst hko;refine Ik 5 6 7 (λ_:Unit=>Vi ty nt (.mk d1 d2 d3 d4) K ⟨no,nc,some g,kc,kbs⟩ b i kb) (λ_:Unit=>AU k kb) rfl (λvs I w bs h=>let ⟨b1,b2,h1,h2,h3,h4,h5⟩:=TG h hKk hkb2;⟨(),b1,b2,h1,h2,h3,h4,h5⟩) λ_=>?_;refine md [] rfl (by simp) ?_;refine mi rfl (c:=Al p) (λ_=>⟨by simp,by simpa using Av hp,by simp⟩) (by simp) ?_;obtain ⟨p1,p2,p3,p4⟩:=p;refine mg [] rfl (by simp) ?_;refine Bk Ah 6 [.raw (Ho (some g) K.length kc)] rfl rfl (λ_ vs I w bs h=>eX h) rfl rfl (by simp [Ag]) ?_;refine mg [] rfl (by simp [Ag]) ?_;refine Lt Ah rfl rfl (λ_=>⟨by simp,by simp;omega⟩) (by simp) ?_
   refine mg [] rfl (by simp) ?_;refine Bk Ah 6 [.raw (ptr kb)] rfl rfl (λ_ vs I w bs h=>bU rfl hkb2 h) rfl rfl (by simp) ?_;refine mg [] rfl (by simp) ?_;refine BT [] [] [] (fr:=[]) (nm:=[]) rfl trivial (by simp) (dR path) trivial rfl trivial rfl rfl rfl ?_;refine mg [] rfl (by simp) ?_;refine RF Ah rfl ⟨by simp,by simp [maxLen];omega,by simp;omega,T3 path,by simp⟩ (T3 path) ?_;refine mg [] rfl (by simp) ?_;have hap:AB path++[[V.int .i64 (i:Int)]]=AB (path++[(i:Int)]):=by simp [AB]
   rw [hap];have hSk:=hS kb;by_cases hr1:r1'=1
   ·have hQ1:NE (path++[(i:Int)]) (r1',r2',r3') = .imm (.tup [.bool true,.nilp]):=by rw [hr1];rfl
    rw [hQ1] at hSk;refine BT [(7,1)] [(2,9)] [] (fr:=[9]) (nm:=[9,7]) rfl trivial (by simp) hSk ⟨⟨rfl,rfl,rfl⟩,trivial⟩ rfl trivial rfl rfl rfl ?_;refine mg [] rfl (by simp [Ag];rfl) ?_;refine FO 6 9 10 (λ_:Unit=>BV ty nt (.mk d1 d2 d3 d4) (K.set i k') ⟨no,nc,some g,kc,kbs⟩ b) rfl rfl (by decide) (λvs us I w b1 b2 h1 h2 h3=>let ⟨bs,e1,e2⟩:=Px h1 h2 h3;⟨(),bs,e1,e2⟩) λ_=>?_;refine Aa rfl (λh=>by simp at h) (λh=>?_);refine md [] rfl (by simp) ?_;refine A3 5 10 rfl ?_;exact Ad (hih hr1) ⟨At (Bv (by omega) (by omega)),rfl,rfl,rfl,rfl,rfl,trivial⟩ ⟨rfl,trivial⟩ rfl
   ·rw [hz4 hr1,hn1 hr1,<- dE];have hQc:(∃cs,NE (path++[(i:Int)]) (r1',r2',r3') = .tup [.imm (.bool false),.ip 170 cs 0])\/NE (path++[(i:Int)]) (r1',r2',r3') = .imm (.tup [.bool false,.nilp]):=by
     by_cases e:r1'=2
     ·rw [e];exact .inl ⟨_,rfl⟩
     ·simp only [NE,if_neg e,decide_eq_false hr1];exact .inr trivial
    generalize NE (path++[(i:Int)]) (r1',r2',r3')=Qd at *;rcases hQc with ⟨cs,rfl⟩ | rfl
    all_goals
     refine BT [(7,1)] [(2,9)] [] (fr:=[9]) (nm:=[9,7]) rfl trivial (by simp) hSk ⟨⟨rfl,rfl,rfl⟩,trivial⟩ rfl trivial rfl rfl rfl ?_;refine mg [] rfl (by simp [Ag];rfl) ?_;refine FO 6 9 10 (λ_:Unit=>AU (.mk ty nt (.mk d1 d2 d3 d4) (K.set i k')) b) rfl rfl (by decide) (λvs us I w b1 b2 h1 h2 h3=>let ⟨bs,e1,e2⟩:=Px h1 h2 h3;⟨(),bs,e1,DW e2⟩) λ_=>?_;refine Aa rfl (λh=>?_) (λh=>by simp at h);refine md [] rfl (by simp) ?_;refine A3 10 2 rfl ?_;exact Ab ⟨_,rfl,rfl,rfl,trivial⟩
  ·have hlt:¬i<ps.length:=by simp at h;omega
   refine Ar rfl ?_;rw [List.drop_eq_nil_of_le (by omega)] at z4 z5;simp only [B8,CK] at z4 z5;rw [<- z3,List.take_append_drop] at z5;rw [z4,z5];refine BN 5 (λ_:Unit=>AU (.mk ty nt (.mk d1 d2 d3 d4) K) b) rfl (λvs I w bs h=>⟨(),DW h⟩) λ_=>?_;refine md [] rfl (by simp) ?_;refine A3 5 2 rfl ?_;exact Ab ⟨_,rfl,rfl,rfl,trivial⟩
termination_by p=>SizeOf.sizeOf p
decreasing_by
 have:=List.sizeOf_lt_of_mem (List.mem_of_getElem? hp);simp_wf;omega
end Go.Hk
namespace Go.Hk
open Go.Proofs
def UV:Option (Ty×Int)->Ty
 | none=>zT
 | some p=>p.1
def PY:Option (Ty×Int)->Int
 | none=>0
 | some p=>p.2
theorem fM {ds:List Dt} (ho:OkW ds) (m:Mi) (h:Ty):0<=Bl ds m h/\Bl ds m h<=769:=by
 unfold Bl
 split
 ·exact LR ho (Fg ho m.ty (E4 h))
 ·omega
set_option maxHeartbeats 4000000 in
theorem Tu (c:Cse) (ho:OkW c.datas) (ty:Ty) (nt:List Ty) (hd:Ty) (ks:List Mi) (y:Opn) (b:Nat) (hn:AD c.datas ty=true) :
  Bb Tryz.prog 160 [.imm (AL c (AB (Ds c.datas))),.raw (ptr b)] [(1,some (.hp (BV ty nt hd ks y b)))]
   (.ret (.imm (.tup [.agg (Bd (UV (Cb c.datas (.mk ty nt hd ks) none (A9 c.datas ty)))),.bool (A8 c.datas (.mk ty nt hd ks)).isSome])) [(1,some (.hp (BV ty nt hd ks y b)))]):=by
 have hH:=bW c (AB (Ds c.datas)) ty ho hn;have hAr:=λs=>Ol c (AB (Ds c.datas)) ty s ho.dif hn;have hSz:=λs=>WQ c (Ds c.datas) (I5 ho) ho.d4 (Bj c.datas ty s).1 (Dr ho.okd) (Fg ho ty s);have hCt:=λh=>FV nt h;have hl:=Ig ho ty;have hcst:=λh=>fM ho (.mk ty nt hd ks) h;have hstep:∀(bb:Option (Ty×Int)) (i:Nat) (h:Ty),(A9 c.datas ty)[i]?=some h->Cb c.datas (.mk ty nt hd ks) bb ((A9 c.datas ty).drop i) =
   Cb c.datas (.mk ty nt hd ks) (if 0<Bl c.datas (.mk ty nt hd ks) h/\B1 nt h=false/\D2 bb (Bl c.datas (.mk ty nt hd ks) h)=true then some (h,Bl c.datas (.mk ty nt hd ks) h) else bb) ((A9 c.datas ty).drop (i+1)):=λbb i h hh=>by rw [Ap hh];rfl
 have hc4:∀h,Ba h=4->Bl c.datas (.mk ty nt hd ks) h=AA c.datas (Ds c.datas) 1 (Bj c.datas ty (E4 h)).1:=λh e=>if_pos e;have hc0:∀h,Ba h≠4->Bl c.datas (.mk ty nt hd ks) h=1:=λh e=>if_neg e;have hres:(A8 c.datas (.mk ty nt hd ks)).isSome=decide (0<PY (Cb c.datas (.mk ty nt hd ks) none (A9 c.datas ty))):=by
  simp only [A8,Option.isSome_map,Mi.ty];cases hq:Cb c.datas (.mk ty nt hd ks) none (A9 c.datas ty) with
  | none=>rfl
  | some p =>
   obtain ⟨q1,_,_⟩:=FX hq;rcases q1 with q1 | ⟨_,_,q3,_⟩
   ·cases q1
   ·simp [PY,q3]
 rw [hres];clear hres;have hnil:∀bb,Cb c.datas (.mk ty nt hd ks) bb []=bb:=λ_=>rfl;generalize A9 c.datas ty=L at *;generalize Bl c.datas (.mk ty nt hd ks)=cost at *;generalize hR:Cb c.datas (.mk ty nt hd ks) none L=R at *;generalize Cb c.datas (.mk ty nt hd ks)=pk at *;obtain ⟨t1,t2,t3,t4⟩:=ty;refine Ae Ah Tryz.func160 (by decide +kernel) rfl [2,3,4,5,6] rfl rfl ?_;refine mg [] rfl (by simp) ?_;refine Bk Ah 1 ((Al (.mk t1 t2 t3 t4)).map .imm) rfl rfl (λ_ vs I w bs h=>J4 h) rfl rfl (by simp [Ag]) ?_;refine mg [] rfl (by simp) ?_;refine Ac rfl (λ_=>hH) (by simp) ?_;refine mg [] rfl (by simp) ?_
 refine Aj (λz:Nat×Option (Ty×Int)=>[(20,.imm (.int .i64 z.1)),(19,.imm (.int .i64 L.length)),(18,.imm (.sl (Bo L))),(7,.imm (.int .i64 (PY z.2))),(6,.ref 3 0),(4,.ref 2 0),(1,.raw (ptr b)),(0,.imm (AL c (AB (Ds c.datas))))])
  (λz=>[(1,some (.hp (BV (.mk t1 t2 t3 t4) nt hd ks y b))),(2,some (.immb 150 3 [.int .i64 0,.int .i64 0,.str []])),(3,some (.immb 150 3 (Bd (UV z.2))))]) [4,5,6] (λz=>L.length-z.1)
  (λz=>z.1<=L.length/\R=pk z.2 (L.drop z.1)/\∀p,z.2=some p->0<p.2/\p.2<=769) (0,none) ⟨Nat.zero_le _,hR.symm,λp h=>by cases h⟩ ⟨rfl,At (by simp),rfl,rfl,rfl,rfl,rfl,rfl,trivial⟩ ⟨rfl,rfl,rfl,trivial⟩ rfl λz hz ih=>?_
 obtain ⟨i,bb⟩:=z;obtain ⟨z1,z2,z3⟩:=hz;simp only at z1 z2 z3;refine md [] rfl (by simp) ?_;refine Aa rfl (λh=>?_) (λh=>?_)
 ·have hlt:i<L.length:=by simp at h;omega
  obtain ⟨h,hh⟩:=Am hlt;rw [hstep bb i h hh] at z2;have hCth:=hCt h;have hco:=hcst h;have hc4:=hc4 h;have hc0:=hc0 h;have hArh:=hAr (E4 h);have hSzh:=hSz (E4 h);have hbet:D2 bb (cost h)=true↔PY bb=0\/cost h<PY bb:=by
   cases bb with
   | none=>simp [D2,PY]
   | some p=>have:=z3 p rfl;simp only [D2,PY,decide_eq_true_eq];omega
  generalize cost h=n at *;obtain ⟨h1,h2,h3,h4⟩:=h;simp only [Ba] at hc4 hc0;refine md [] rfl (by simp) ?_;refine mi rfl (c:=Bd (.mk h1 h2 h3 h4)) (λ_=>⟨by simp,by simpa using IX hh,by simp⟩) (by simp) ?_;refine mg [] rfl (by simp) ?_;by_cases e4:h1=4
  ·have hn:=hc4 e4;rw [<- hn] at hSzh;subst e4;refine Aa rfl (λh=>?_) (λh=>by simp at h);refine md [] rfl (by simp) ?_;refine Bk Ah 1 ((Al (.mk t1 t2 t3 t4)).map .imm) rfl rfl (λ_ vs I w bs h=>J4 h) rfl rfl (by simp [Ag]) ?_;refine mg [] rfl (by simp [Ag]) ?_;refine Ac rfl (λ_=>hArh) (by simp) ?_;refine mg [] rfl (by simp [Ag];rfl) ?_;refine Ac rfl (λ_=>hSzh) (by simp) ?_;refine mg [] rfl (by simp [Ag]) ?_;refine Bk Ah 1 [.raw (Ho y.no nt.length y.nc)] rfl rfl (λ_ vs I w bs h=>HY h) rfl rfl (by simp [Ag]) ?_;refine mg [] rfl (by simp [Ag]) ?_
   refine Oc 1 (vs:=[.sl (Bo nt),.agg (Bd (.mk 4 h2 h3 h4))]) rfl rfl (λ_=>⟨.inr ⟨_,rfl,λus I w bs h J hle hJ=>Hq h hle hJ⟩,.inl rfl,trivial⟩) (λ_=>hCth) rfl (by simp [Ag]) rfl ?_;refine mg [] rfl (by simp [Ag];exact ⟨rfl,λa b c=>⟨⟨a,b⟩,c⟩⟩) ?_;by_cases hcc:0<n/\B1 nt (.mk 4 h2 h3 h4)=false/\D2 bb n=true
   ·rw [if_pos hcc] at z2;rw [hbet] at hcc;refine Aa rfl (λh=>?_) (λh=>by exfalso;simp at h;grind);refine md [] rfl (by simp) ?_;exact Ad (ih (i+1,some (.mk 4 h2 h3 h4,n)) (by simp only;omega) ⟨by simp only;omega,z2,λp hp=>by cases hp;exact ⟨hcc.1,hco.2⟩⟩) ⟨At (Bv (by omega) (by omega)),rfl,rfl,rfl,rfl,rfl,rfl,rfl,trivial⟩ ⟨rfl,rfl,rfl,trivial⟩ rfl
   ·rw [if_neg hcc] at z2;rw [hbet] at hcc;refine Aa rfl (λh=>by exfalso;simp at h;grind) (λh=>?_);refine md [] rfl (by simp) ?_;exact Ad (ih (i+1,bb) (by simp only;omega) ⟨by simp only;omega,z2,z3⟩) ⟨At (Bv (by omega) (by omega)),rfl,rfl,rfl,rfl,rfl,rfl,rfl,trivial⟩ ⟨rfl,rfl,rfl,trivial⟩ rfl
  ·have hn:=hc0 e4;subst hn;refine Aa rfl (λh=>absurd (by simpa using h) e4) (λh=>?_);clear h;refine md [] rfl (by simp [Ag]) ?_;refine Bk Ah 1 [.raw (Ho y.no nt.length y.nc)] rfl rfl (λ_ vs I w bs h=>HY h) rfl rfl (by simp [Ag]) ?_;refine mg [] rfl (by simp [Ag]) ?_;refine Oc 1 (vs:=[.sl (Bo nt),.agg (Bd (.mk h1 h2 h3 h4))]) rfl rfl (λ_=>⟨.inr ⟨_,rfl,λus I w bs h J hle hJ=>Hq h hle hJ⟩,.inl rfl,trivial⟩) (λ_=>hCth) rfl (by simp [Ag]) rfl ?_;refine mg [] rfl (by simp [Ag];exact ⟨rfl,λa b=>⟨a,b⟩⟩) ?_;by_cases hcc:(0:Int)<1/\B1 nt (.mk h1 h2 h3 h4)=false/\D2 bb 1=true
   ·rw [if_pos hcc] at z2;rw [hbet] at hcc;refine Aa rfl (λh=>?_) (λh=>by exfalso;simp at h;grind);refine md [] rfl (by simp) ?_;exact Ad (ih (i+1,some (.mk h1 h2 h3 h4,1)) (by simp only;omega) ⟨by simp only;omega,z2,λp hp=>by cases hp;exact ⟨hcc.1,hco.2⟩⟩) ⟨At (Bv (by omega) (by omega)),rfl,rfl,rfl,rfl,rfl,rfl,rfl,trivial⟩ ⟨rfl,rfl,rfl,trivial⟩ rfl
   ·rw [if_neg hcc] at z2;rw [hbet] at hcc;refine Aa rfl (λh=>by exfalso;simp at h;grind) (λh=>?_);refine md [] rfl (by simp) ?_;exact Ad (ih (i+1,bb) (by simp only;omega) ⟨by simp only;omega,z2,z3⟩) ⟨At (Bv (by omega) (by omega)),rfl,rfl,rfl,rfl,rfl,rfl,rfl,trivial⟩ ⟨rfl,rfl,rfl,trivial⟩ rfl
 ·have hlt:¬i<L.length:=by simp at h;omega
  refine Ar rfl ?_;rw [List.drop_eq_nil_of_le (by omega),hnil] at z2;subst z2;refine md [] rfl (by simp) ?_;exact Ab ⟨_,rfl,rfl,rfl,trivial⟩
def FG:Option Ty->List V
 | none=>Al zT++[.bool false]
 | some v=>Al v++[.bool true]
theorem Gl (r:Option Ty):∃v1 v2 v3 v4 v5,FG r=[v1,v2,v3,v4,v5]:=by
 cases r with
 | none=>exact ⟨_,_,_,_,_,rfl⟩
 | some v=>obtain ⟨a,b,c,d⟩:=v;exact ⟨_,_,_,_,_,rfl⟩
section
variable {I J:Imm} {w w':World} {ty:Ty} {nt:List Ty} {hd:Ty} {ks:List Mi} {b:Nat} {us:List Value} {bs:List Nat}
def LG (ty:Ty) (nt:List Ty) (hd:Ty) (ks:List Mi) (y:Opn) (b i:Nat):Asn where
 P _ I w bs:=Hg I w ty nt hd (Ho y.no nt.length y.nc) (Ho y.ko ks.length y.kc) y.kbs b/\y.kbs.length=ks.length/\(∀q∈AE (Ho y.no nt.length y.nc) (Ho y.ko ks.length y.kc) b,q∈bs) /\
  ∃Fk,CV I w (ks.drop i) (y.kbs.drop i) Fk/\(AE (Ho y.no nt.length y.nc) (Ho y.ko ks.length y.kc) b++Fk).Nodup/\∀q∈Fk,q∈bs
 mono:=λh ⟨h1,h2,h3,Fk,h4,h5⟩=>⟨DY h h1,h2,h3,Fk,Dm h h4,h5⟩
 loc:=λh ⟨h1,h2,h3,Fk,h4,h5,h6⟩=>⟨ET (λq hq=>h q (h3 q hq)) h1,h2,h3,Fk,Cg (λq hq=>h q (h6 q hq)) h4,h5,h6⟩
theorem Yn {y:Opn} (h:(BV ty nt hd ks y b).P us I w bs):(LG ty nt hd ks y b 0).P us I w bs:=by
 have hl:=Hy h;obtain ⟨Fk,h1,h2,h3,h4⟩:=h;exact ⟨h1,hl,λq hq=>h4 q (by simp [hq]),Fk,h2,h3,λq hq=>h4 q (by simp [hq])⟩
theorem V3 {y:Opn} {i kb:Nat} {k:Mi} (h:(LG ty nt hd ks y b i).P us I w bs) (hk:ks[i]?=some k) (hkb:y.kbs[i]?=some kb) :
  ∃b1 b2,(∀q∈b1,q∈bs)/\(∀q∈b2,q∈bs)/\(∀q∈b1,q∉b2)/\(LG ty nt hd ks y b (i+1)).P [] I w b1/\(AU k kb).P [] I w b2:=by
 obtain ⟨h1,h2,h3,Fk,h4,h5,h6⟩:=h;rw [Ap hk,Ap hkb] at h4;obtain ⟨kb',kr,F1,F2,e1,e2,e3,e4⟩:=h4;cases e1;subst e4;generalize hN:AE (Ho y.no nt.length y.nc) (Ho y.ko ks.length y.kc) b=Nf at *;refine ⟨Nf++F2,F1,λq hq=>?_,λq hq=>h6 q (by simp [hq]),λq hq hq2=>?_,⟨h1,h2,λq hq=>by rw [hN] at hq;simp [hq],F2,e3,?_,λq hq=>by simp [hq]⟩,⟨F1,e2,λq hq=>hq⟩⟩
 ·rcases List.mem_append.1 hq with h | h
  ·exact h3 q h
  ·exact h6 q (by simp [h])
 ·obtain ⟨a1,a2,a3⟩:=List.nodup_append.1 h5;rcases List.mem_append.1 hq with h | h
  ·exact a3 q h q (by simp [hq2]) rfl
  ·obtain ⟨_,_,a4⟩:=List.nodup_append.1 a2;exact a4 q hq2 q h rfl
 ·rw [hN];obtain ⟨a1,a2,a3⟩:=List.nodup_append.1 h5;obtain ⟨_,a5,_⟩:=List.nodup_append.1 a2;exact List.nodup_append.2 ⟨a1,a5,λx hx y hy=>a3 x hx y (by simp [hy])⟩
theorem aJ {y:Opn} {g i kb:Nat} {j:Nat} (hko:y.ko=some g) (hkb:y.kbs[i]?=some kb) (h:(LG ty nt hd ks y b j).P us I w bs):CF I w g (0+i*1) [.raw (ptr kb)]:=by
 obtain ⟨h1,h2,h3,_⟩:=h;have hi:=(List.getElem?_eq_some_iff.1 hkb).1;rcases h1.2.2.2 with ⟨_,h0⟩ | ⟨g',cap,cur,e,_,e1,e2,_,e3,e4⟩
 ·omega
 rw [hko] at e;simp only [Ho,Option.map_some,Value.slice.injEq,Option.some.injEq,Addr.mk.injEq,and_true] at e;obtain ⟨rfl,e5,rfl⟩:=e;refine ⟨cur,_,_,e1,λj d hd=>?_⟩
 match j with
 | 0 =>
  simp at hd;subst hd;refine ⟨ptr kb,?_,rfl,.raw _ rfl⟩;have:(cur.toList.take (y.kbs.length*1))[i]?=some (ptr kb):=by rw [e4];simp [hkb]
  rw [List.getElem?_take] at this
  split at this
  ·simpa using this
  ·cases this
 | j+1=>simp at hd
theorem eG {y:Opn} {i j:Nat} (h:(LG ty nt hd ks y b j).P us I w bs) (hi:i<ks.length):∃z:Nat×Nat,y.ko=some z.1/\y.kbs[i]?=some z.2:=by
 obtain ⟨h1,h2,h3,_⟩:=h;rcases h1.2.2.2 with ⟨_,h0⟩ | ⟨g',cap,cur,e,_⟩
 ·omega
 cases ho:y.ko with
 | none=>rw [ho] at e;simp [Ho] at e
 | some g=>exact ⟨(g,y.kbs[i]'(by omega)),rfl,List.getElem?_eq_getElem (by omega)⟩
end
set_option maxHeartbeats 4000000 in
theorem VO (W:V) (m:Mi) (x:Nat) (g:Mi->Option (Option Ty)) (o:Option (List Ty)) (h1:B4 g m.ks=some o) (hf:Ba m.hd≠0) (hlk:m.ks.length<=3)
  (ihk:∀k v x,k∈m.ks->g k=some v->Bb Tryz.prog 113 [.imm W,.raw (ptr x)] [(1,some (.hp (AU k x)))] (.ret (.imm (.agg (FG v))) [])) :
  DGo Tryz.prog Tryz.f113.ntmps [1] (MA eB Tryz.f113.results.toList (.ret (.imm (.agg (FG (o.map (DT m.hd))))) [])) [.code (Fv Tryz.f113 2)] [(4,.ref 3 0),(1,.raw (ptr x)),(0,.imm W)]
   [(3,some (.cells 107 5 [.imm (.int .i64 0),.imm (.int .i64 0),.imm (.str []),.nils,.imm (.bool false)])),(5,some (.hp (AU m x)))] [6,7,8,9,10,11,12]:=by
 have hV:=Tk m.hd hf;obtain ⟨ty,nt,⟨a,b,t,d⟩,ks⟩:=m;simp only [Mi.hd,Mi.ks,Ba] at *;have hd:Iw (.mk a b t d)=[.int .i64 a,.int .i64 b,.str t,.nilsl]:=by simp [Iw,hf]
 refine BN 5 (λy:Opn=>BV ty nt (.mk a b t d) ks y x) rfl (λvs I w bs h=>Dy h) λy=>?_;refine md [] rfl (by simp) ?_;refine Bk Ah 5 ((Bd (.mk a b t d)).map .imm) rfl rfl (λ_ vs I w bs h=>NX h) rfl rfl (by simp [Ag]) ?_;refine mg [] rfl (by simp) ?_;rw [hd] at hV;refine Ac rfl (λ_=>hV) (by simp) ?_;refine mg [] rfl (by simp) ?_;refine Bk Ah 5 [.raw (Ho y.ko ks.length y.kc)] rfl rfl (λ_ vs I w bs h=>J5 h) rfl rfl (by simp [Ag]) ?_;refine mg [] rfl (by simp) ?_;refine N2 (e:=35) (sz:=4) 6 7 [.imm (.int .i64 a),.imm (.int .i64 b),.imm (.str t),.own 7 0] (by decide) rfl (by simp [jZ]) ?_;refine BN 5 (λ_:Unit=>LG ty nt (.mk a b t d) ks y x 0) rfl (λvs I w bs h=>⟨(),Yn h⟩) λ_=>?_
 have el:∀(l:List Ty) (v:Ty),Bg (l++[v])=Bg l++[Al v]:=λl v=>by rw [Jk];rfl
 refine Aj (λz:Nat×List Ty=>[(63,.imm (.int .i64 z.1)),(62,.imm (.int .i64 ks.length)),(61,.raw (Ho y.ko ks.length y.kc)),(7,.ref 6 0),(4,.ref 3 0),(0,.imm W)])
  (λz=>[(3,some (.cells 107 5 [.imm (.int .i64 0),.imm (.int .i64 0),.imm (.str []),.nils,.imm (.bool false)])),(5,some (.hp (LG ty nt (.mk a b t d) ks y x z.1))),
   (6,some (.cells 35 4 [.imm (.int .i64 a),.imm (.int .i64 b),.imm (.str t),.own 7 (Bg z.2).length])),(7,some (.row 35 4 (Bg z.2)))]) [8,9,10,11,12] (λz=>ks.length-z.1)
  (λz=>z.1<=ks.length/\z.2.length=z.1/\∃q,B4 g (ks.drop z.1)=some q/\o=q.map (z.2 ++ ·)) (0,[]) ⟨Nat.zero_le _,rfl,o,h1,by cases o <;> simp⟩ ⟨rfl,rfl,rfl,rfl,rfl,rfl,trivial⟩ ⟨rfl,rfl,rfl,rfl,trivial⟩ rfl λz hz ih=>?_
 obtain ⟨i,vs⟩:=z;obtain ⟨z1,z2,q,z3,z4⟩:=hz;simp only at z1 z2 z3 z4;refine md [] rfl (by simp) ?_;refine Aa rfl (λh=>?_) (λh=>?_)
 ·have hlt:i<ks.length:=by simp at h;omega
  obtain ⟨k,hk⟩:=Am hlt;rw [Ap hk] at z3;obtain ⟨v,g1,g2⟩:=Nn z3;refine BN 5 (λ_:{ z:Nat×Nat // y.ko=some z.1/\y.kbs[i]?=some z.2 }=>LG ty nt (.mk a b t d) ks y x i) rfl (λvs I w bs hA=>let ⟨z,hz⟩:=eG hA hlt;⟨⟨z,hz⟩,hA⟩) λz=>?_;obtain ⟨⟨gg,kb⟩,hko,hkb⟩:=z;simp only at hko hkb;obtain ⟨no,nc,ko,kc,kbs⟩:=y;simp only at hko hkb;subst hko;have hc:=ihk k v kb (List.mem_of_getElem? hk) g1;refine Ik 5 8 9 (λ_:Unit=>LG ty nt (.mk a b t d) ks ⟨no,nc,some gg,kc,kbs⟩ x (i+1)) (λ_:Unit=>AU k kb) rfl (λvs I w bs h=>let ⟨b1,b2,e1,e2,e3,e4,e5⟩:=V3 h hk hkb;⟨(),b1,b2,e1,e2,e3,e4,e5⟩) λ_=>?_;refine md [] rfl (by simp) ?_;refine Lt Ah rfl rfl (λ_=>⟨by simp,by simp;omega⟩) (by simp) ?_
  refine mg [] rfl (by simp) ?_;refine Bk Ah 8 [.raw (ptr kb)] rfl rfl (λ_ vs I w bs h=>aJ rfl hkb h) rfl rfl (by simp) ?_;refine mg [] rfl (by simp) ?_;refine Az (fr:=[]) [(9,1)] [] rfl (by simp) hc ⟨⟨rfl,rfl,rfl⟩,trivial⟩ rfl rfl rfl rfl ?_;cases v with
  | none =>
   simp only at g2;subst g2;simp only [Option.map_none] at z4;subst z4;refine mg [] rfl (by simp;rfl) ?_;refine Aa rfl (λh=>?_) (λh=>by simp at h);refine md [] rfl (by simp) ?_;exact Ab ⟨_,rfl,tV rfl,trivial⟩
  | some v =>
   simp only at g2;obtain ⟨q',g3,g4⟩:=g2;have hgo:=ih (i+1,vs++[v]) (by simp only;omega) ⟨by simp only;omega,by simp [z2],q',g3,by rw [z4,g4];cases q' <;> simp⟩;simp only [el] at hgo;have hll:(Bg vs).length<=3:=by simp;omega
   generalize Bg vs=l at *;obtain ⟨v1,v2,v3,v4⟩:=v;refine mg [] rfl (by simp;rfl) ?_;refine Aa rfl (λh=>by simp at h) (λh=>?_);refine md [] rfl (by simp) ?_;refine Bp Ah rfl ⟨by simp,by simp [maxLen] at hll ⊢;omega,by simp at hll ⊢;omega,trivial⟩ ?_;refine mg [] rfl (by simp) ?_;refine A3 7 11 rfl ?_;refine A3 5 8 rfl ?_;exact Ad hgo ⟨At (Bv (by omega) (by omega)),rfl,rfl,rfl,rfl,rfl,trivial⟩ ⟨rfl,rfl,by simp only [List.length_append];rfl,rfl,trivial⟩ rfl
 ·have hlt:¬i<ks.length:=by simp at h;omega
  refine Ar rfl ?_;rw [List.drop_eq_nil_of_le (by omega)] at z3;cases z3;simp only [Option.map_some,List.append_nil] at z4;subst z4;refine AZ 7 rfl ?_;refine md [] rfl (by simp) ?_;exact Ab ⟨_,rfl,tV rfl,trivial⟩
end Go.Hk
namespace Go.Hk
open Go.Proofs
set_option maxHeartbeats 4000000 in
theorem bM (c:Cse) (ho:OkW c.datas) (N:Nat) (hN:N<=1000000):∀(f:Nat) (m:Mi) (b:Nat) (r:Option Ty),Bc c.datas f m=some r->HH c.datas N m=true ->
  Bb Tryz.prog 113 [.imm (AL c (AB (Ds c.datas))),.raw (ptr b)] [(1,some (.hp (AU m b)))] (.ret (.imm (.agg (FG r))) []):=by
 intro f
 induction f with
 | zero=>intro m b r h;simp [Bc] at h
 | succ f ih =>
 intro m b r h hm;have hw:=Be.1 hm;have tail:∀(m:Mi) (x:Nat) (r:Option Ty),Bc c.datas (f+1) m=some r->HH c.datas N m=true->Ba m.hd≠0->DGo Tryz.prog Tryz.f113.ntmps [1] (MA eB Tryz.f113.results.toList (.ret (.imm (.agg (FG r))) [])) [.code (Fv Tryz.f113 2)] [(4,.ref 3 0),(1,.raw (ptr x)),(0,.imm (AL c (AB (Ds c.datas))))]
   [(3,some (.cells 107 5 [.imm (.int .i64 0),.imm (.int .i64 0),.imm (.str []),.nils,.imm (.bool false)])),(5,some (.hp (AU m x)))] [6,7,8,9,10,11,12]:=λm x r h hm hf=>by
  obtain ⟨o,h1,h2⟩:=Ln h hf;have hw:=Be.1 hm;have:=VO (AL c (AB (Ds c.datas))) m x (Bc c.datas f) o h1 hf hw.1.2.1 λk v y hk hv=>ih k y v hv (hw.2.2 k hk);rw [<- h2] at this;exact this
 by_cases hf:Ba m.hd=0
 case neg =>
  have T:=tail m b r h hm hf;obtain ⟨ty,nt,⟨a,b',t,d⟩,ks⟩:=m;simp only [Mi.hd,Ba] at hf;refine Ae Ah Tryz.func113 (by decide +kernel) rfl [5,3,6,7,8,9,10,11,12] rfl rfl ?_;refine JG 1 5 (λy:Opn=>BV ty nt (.mk a b' t d) ks y b) rfl (λvs I w bs h=>let ⟨y,hy⟩:=Dy h;⟨y,bs,λq hq=>hq,hy⟩) λy=>?_;refine md [] rfl (by simp) ?_;refine Bk Ah 5 [.imm (.int .i64 a)] rfl rfl (λ_ vs I w bs h=>Mk h) rfl rfl (by simp) ?_;refine mg [] rfl (by simp) ?_;refine Aa rfl (λh=>absurd (by simpa using h) hf) (λh=>?_);refine iN 1 rfl (by simp) ?_;refine BN 5 (λ_:Unit=>AU (.mk ty nt (.mk a b' t d) ks) b) rfl (λvs I w bs h=>⟨(),DW h⟩) λ_=>?_;exact Ad T ⟨rfl,rfl,rfl,trivial⟩ ⟨rfl,rfl,trivial⟩ rfl
 have hsr:1<=Ba m.ty/\Ba m.ty<=8:=of_decide_eq_true hw.2.1.2;have hnr:=VJ m.nt (by have:=hw.1.2.2;omega);obtain ⟨ni,hni,_,_⟩:=Pc m.nt m.nt.length 0 (by omega);have hnv:=Tk (Cy m.nt) (by rw [Cy,hni];simp [Ba]);have hne:Cy m.nt = .mk 1 ni [] []:=hni;rw [hne] at hnr hnv;have l1:Ba m.ty=1->r=some (.mk 1 ni [] []):=λe=>by rw [IR hf e,hne] at h;exact (Option.some.inj h).symm
 have l4:Ba m.ty=4\/Ba m.ty=5\/Ba m.ty=6\/Ba m.ty=7->r=some (.mk 5 0 [] []):=λe=>by rw [IQ hf e] at h;exact (Option.some.inj h).symm
 have hsm:=λty nt hd ks (e:m = .mk ty nt hd ks) y x=>Tu c ho ty nt hd ks y x (by have:=hw.1.1;rw [e] at this;exact this);have hcp:=λx=>Og c.datas N hN m x hm;have lsm:=λh1 h4=>EY (ds:=c.datas) (f:=f) hf h1 h4;rw [h] at lsm;have hhas:=λ(x:Nat) (y:Ty)=>Wn c (AB (Ds c.datas)) m y x ho hw.1.1;have tk:=λ(y:Ty) (x:Nat) (hy:y∈A9 c.datas m.ty) (hl:Bc c.datas (f+1) (AY c.datas m y)=some r)=>tail (AY c.datas m y) x r hl (KA ho hw.1.1 hw.2.1.2 (BL hy).1) (BL hy).2;clear tail ih h;have hrf:=Gl r;obtain ⟨⟨so,n,x0,ps⟩,nt,⟨a,b',t,d⟩,ks⟩:=m;simp only [Mi.hd,Mi.ty,Mi.nt,Ba] at *;subst hf;refine Ae Ah Tryz.func113 (by decide +kernel) rfl [5,3,6,7,8,9,10,11,12] rfl rfl ?_
 refine JG 1 5 (λy:Opn=>BV (.mk so n x0 ps) nt (.mk 0 b' t d) ks y b) rfl (λvs I w bs h=>let ⟨y,hy⟩:=Dy h;⟨y,bs,λq hq=>hq,hy⟩) λy=>?_;refine md [] rfl (by simp) ?_;refine Bk Ah 5 [.imm (.int .i64 0)] rfl rfl (λ_ vs I w bs h=>Mk h) rfl rfl (by simp) ?_;refine mg [] rfl (by simp) ?_;refine Aa rfl (λh=>?_) (λh=>by simp at h);refine md [] rfl (by simp) ?_;refine Bk Ah 5 [.imm (.int .i64 so)] rfl rfl (λ_ vs I w bs h=>Y7 h) rfl rfl (by simp) ?_;refine mg [] rfl (by simp) ?_;by_cases s1:so=1
 ·rw [l1 s1];subst s1;refine Aa rfl (λh=>?_) (λh=>by simp at h);refine md [] rfl (by simp) ?_;refine Bk Ah 5 [.raw (Ho y.no nt.length y.nc)] rfl rfl (λ_ vs I w bs h=>HY h) rfl rfl (by simp) ?_;refine mg [] rfl (by simp) ?_;refine Oc 5 (vs:=[.sl (Bo nt)]) rfl rfl (λ_=>⟨.inr ⟨_,rfl,λus I w bs h J hle hJ=>Hq h hle hJ⟩,trivial⟩) (λ_=>hnr) rfl (by simp) rfl ?_;refine mg [] rfl (by simp) ?_;refine Ac rfl (λ_=>hnv) (by simp) ?_;refine mg [] rfl (by simp) ?_;exact PF 3 [.int .i64 1,.int .i64 ni,.str [],.sl [],.bool true] rfl rfl (Ab ⟨_,rfl,tV rfl,trivial⟩)
 refine Aa rfl (λh=>absurd (by simpa using h) s1) (λh=>?_);clear h;refine md [] rfl (by simp) ?_;by_cases s4:so=4
 ·rw [l4 (by omega)];subst s4;refine Aa rfl (λh=>?_) (λh=>by simp at h);refine md [] rfl (by simp) ?_;refine Aa rfl (λh=>?_) (λh=>by simp at h);refine md [] rfl (by simp) ?_;exact Ab ⟨_,rfl,tV rfl,trivial⟩
 refine Aa rfl (λh=>absurd (by simpa using h) s4) (λh=>?_);clear h;refine md [] rfl (by simp) ?_;by_cases s5:so=5
 ·rw [l4 (by omega)];subst s5;refine Aa rfl (λh=>?_) (λh=>by simp at h);refine md [] rfl (by simp) ?_;refine Aa rfl (λh=>?_) (λh=>by simp at h);refine md [] rfl (by simp) ?_;exact Ab ⟨_,rfl,tV rfl,trivial⟩
 refine Aa rfl (λh=>absurd (by simpa using h) s5) (λh=>?_);clear h;refine md [] rfl (by simp) ?_;by_cases s6:so=6
 ·rw [l4 (by omega)];subst s6;refine Aa rfl (λh=>?_) (λh=>by simp at h);refine md [] rfl (by simp) ?_;refine Aa rfl (λh=>?_) (λh=>by simp at h);refine md [] rfl (by simp) ?_;exact Ab ⟨_,rfl,tV rfl,trivial⟩
 refine Aa rfl (λh=>absurd (by simpa using h) s6) (λh=>?_);clear h;refine md [] rfl (by simp) ?_;by_cases s7:so=7
 ·rw [l4 (by omega)];subst s7;refine Aa rfl (λh=>?_) (λh=>by simp at h);refine md [] rfl (by simp) ?_;exact Ab ⟨_,rfl,tV rfl,trivial⟩
 refine Aa rfl (λh=>absurd (by simpa using h) s7) (λh=>?_);clear h;refine md [] rfl (by simp) ?_;have lsm:=lsm s1 (by omega);have hS:=hsm _ _ _ _ rfl y b;have hbest:∀z,A8 c.datas (.mk (.mk so n x0 ps) nt (.mk 0 b' t d) ks)=some z->UV (Cb c.datas (.mk (.mk so n x0 ps) nt (.mk 0 b' t d) ks) none (A9 c.datas (.mk so n x0 ps)))=z/\z∈A9 c.datas (.mk so n x0 ps):=λz hz=>⟨by
  simp only [A8,Option.map_eq_some_iff] at hz;obtain ⟨p,hp,rfl⟩:=hz;show UV (Cb c.datas (.mk (.mk so n x0 ps) nt (.mk 0 b' t d) ks) none (A9 c.datas (Mi.mk (.mk so n x0 ps) nt (.mk 0 b' t d) ks).ty))=p.1;rw [hp];rfl,Hx hz⟩
 generalize UV (Cb c.datas (.mk (.mk so n x0 ps) nt (.mk 0 b' t d) ks) none (A9 c.datas (.mk so n x0 ps)))=bh at *;generalize A8 c.datas (.mk (.mk so n x0 ps) nt (.mk 0 b' t d) ks)=S at *;obtain ⟨h1,h2,h3,h4⟩:=bh;refine Az (fr:=[]) [(5,1)] [] rfl (by simp) hS ⟨⟨rfl,rfl,rfl⟩,trivial⟩ rfl rfl rfl rfl ?_;refine mg [] rfl (by simp) ?_;cases S with
 | none =>
  simp only [Option.some.injEq] at lsm;subst lsm;refine md [] rfl (by simp) ?_;refine Aa rfl (λh=>?_) (λh=>by simp at h);refine md [] rfl (by simp) ?_;exact Ab ⟨_,rfl,tV rfl,trivial⟩
 | some z =>
  obtain ⟨e,hz⟩:=hbest z rfl;subst e;simp only at lsm;refine md [] rfl (by simp) ?_;refine Aa rfl (λh=>by simp at h) (λh=>?_);clear h;refine BN 5 (λ_:Unit=>AU (.mk (.mk so n x0 ps) nt (.mk 0 b' t d) ks) b) rfl (λvs I w bs h=>⟨(),DW h⟩) λ_=>?_;refine md [] rfl (by simp) ?_;refine Az (fr:=[7,8]) [(5,1)] [(3,7),(2,8)] rfl (by simp) (hcp b) ⟨⟨rfl,rfl,rfl⟩,trivial⟩ rfl rfl rfl rfl ?_;refine Jf 8 9 (λob:Nat=>[ptr ob]) (λob=>AU (.mk (.mk so n x0 ps) nt (.mk 0 b' t d) ks) ob) rfl (λvs I w bs h=>let ⟨ob,F,e1,e2,e3⟩:=h;⟨ob,e1,F,e2,e3⟩) λob=>?_;refine md [] rfl (by simp) ?_;refine Az (fr:=[10]) [(9,1)] [(2,10)] rfl (by simp) (hhas ob (.mk h1 h2 h3 h4)) ⟨⟨rfl,rfl,rfl⟩,trivial⟩ rfl rfl rfl rfl ?_
  refine iN 1 rfl (by simp) ?_;have T:=tk (.mk h1 h2 h3 h4) ob hz lsm.symm;refine A3 10 5 rfl ?_;exact Ad T ⟨rfl,rfl,rfl,trivial⟩ ⟨rfl,rfl,trivial⟩ rfl
mutual
theorem T0 {ds:List Dt} (ho:OkW ds) {N:Nat}:∀(p:Ty) {m:Mi},HH ds N m=true->E6 ds m->HH ds N (Em ds p m)=true/\E6 ds (Em ds p m)/\(Em ds p m).ty=m.ty/\Iv (Em ds p m)<=max (Iv m) (An p+2)
 | .mk f n x ps,m,hw,hc=>by
  have hsw:=CS ho hw;have hsc:=Dq (ds:=ds) hc;have hsh:=Nr ds m;have hst:=EM ds m;simp only [Em,An]
  split
  ·exact ⟨hw,hc,rfl,by omega⟩
  ·split
   ·exact ⟨hsw,hsc,hst,by omega⟩
   ·rename_i h1 h2;generalize Af ds m=s at *;obtain ⟨ty,nt,hd,ks⟩:=s;obtain ⟨a1,a2,a3⟩:=Rc ho ps (l:=ks) (λk hk=>⟨(Be.1 hsw).2.2 k hk,(BQ.1 hsc).2.2 k hk⟩);have hlen:(CK ds ps ks).length=ks.length:=by simpa using congrArg List.length a2
    have w:=Be.1 hsw;have cc:=BQ.1 hsc;rw [GT] at hsh;simp only [Mi.ty,Mi.nt,Mi.hd,Mi.ks] at w cc hsh hst h2 ⊢;refine ⟨Be.2 ⟨⟨w.1.1,by show (CK ds ps ks).length<=3;rw [hlen];exact w.1.2.1,w.1.2.2⟩,w.2.1,λk hk=>(a1 k hk).1⟩,BQ.2 ⟨λh=>absurd (.inl h) h2,λh=>⟨(cc.2.1 h).1,by show (CK ds ps ks).map Mi.ty=_;rw [a2];exact (cc.2.1 h).2⟩,λk hk=>(a1 k hk).2⟩,hst,?_⟩;rw [GT];simp only [Mi.ks];omega
theorem Rc {ds:List Dt} (ho:OkW ds) {N:Nat}:∀(ps:List Ty) {l:List Mi},(∀k∈l,HH ds N k=true/\E6 ds k)->(∀k∈CK ds ps l,HH ds N k=true/\E6 ds k)/\(CK ds ps l).map Mi.ty=l.map Mi.ty/\FH (CK ds ps l)<=max (FH l) (Ai ps+2)
 | [],l,h=>⟨by simpa only [CK] using h,by simp only [CK],by simp only [CK];omega⟩
 | p::r,[],h=>⟨by simpa only [CK] using h,by simp only [CK],by simp [CK,FH]⟩
 | p::r,k::ks,h=>by
  obtain ⟨b1,b2,b3,b4⟩:=T0 ho p (h k (by simp)).1 (h k (by simp)).2;obtain ⟨c1,c2,c3⟩:=Rc ho r (l:=ks) (λy hy=>h y (by simp [hy]));simp only [CK]
  split
  ·refine ⟨λy hy=>?_,by simp only [List.map_cons,b3,c2],by simp only [FH,Ai];omega⟩;rcases List.mem_cons.1 hy with rfl | hy
   ·exact ⟨b1,b2⟩
   ·exact c1 y hy
  ·refine ⟨λy hy=>?_,by simp only [List.map_cons,b3],by simp only [FH,Ai];omega⟩;rcases List.mem_cons.1 hy with rfl | hy
   ·exact ⟨b1,b2⟩
   ·exact h y (by simp [hy])
end
mutual
theorem Pi (ds:List Dt):∀(p:Ty) (m:Mi),(A0 ds p m).1=0\/(A0 ds p m).1=1\/(A0 ds p m).1=2
 | .mk f n x ps,m=>by
  have h:=Nk ds ps (Af ds m).ks 0;simp only [A0]
  split
  ·exact .inr (.inl rfl)
  ·split
   ·exact .inr (.inr rfl)
   ·split
    ·exact .inl rfl
    ·exact h
theorem Nk (ds:List Dt):∀(ps:List Ty) (l:List Mi) (i:Int),(B8 ds i ps l).1=0\/(B8 ds i ps l).1=1\/(B8 ds i ps l).1=2
 | [],l,i=>.inr (.inl (by simp only [B8]))
 | p::r,[],i=>.inr (.inl (by simp only [B8]))
 | p::r,k::ks,i=>by
  have h1:=Pi ds p k;have h2:=Nk ds r ks (i+1);simp only [B8]
  split
  ·exact h2
  ·exact h1
end
theorem MOk.see {ds:List Dt} (ho:OkW ds) {t:Ty} {N:Nat} {m:Mi} (h:MOk ds t N m) {p:Ty} (hp:An p<=12):MOk ds t N (Em ds p m):=by
 obtain ⟨a,b,c,d⟩:=T0 ho p h.wf h.coh;have:=h.hgt;exact ⟨a,b,by rw [c,h.typ],by omega⟩
def K9 (x:Ty×Int):V:=.iface (if x.2=1 then 124 else 182) (.agg (Al x.1))
def BW (l:List (Ty×Int)):List (List V):=l.map λx=>[K9 x]
@[simp] theorem wishVs_length (l:List (Ty×Int)):(BW l).length=l.length:=by simp [BW]
theorem Qo (a b:List (Ty×Int)):BW (a++b)=BW a++BW b:=by simp [BW]
theorem Vm {l:List (Ty×Int)} {i:Nat} {x:Ty×Int} (h:l[i]?=some x):(BW l)[i]?=some [K9 x]:=by simp [BW,h]
theorem Te (l:List (Ty×Int)) (i:Nat):(BW l).drop i=BW (l.drop i):=by simp [BW,List.map_drop]
end Go.Hk
namespace Go.Hk
def Uk (P:Program) (t:TypeId) (m:String) (f:FuncId):Bool:=match P.info? t with
 | some i=>match i.methods.find? (·.name == m) with
  | some r=>r.path.toList.isEmpty&&(match r.func with
   | some (f',pr)=>Nat.beq f' f && !pr
   | none=>false)&&(match P.underlying t with
   | some (.pointer _)=>false
   | some _=>true
   | none=>false)
  | none=>false
 | none=>false
theorem bT {P:Program} {t:TypeId} {m:String} {f:FuncId} (h:Uk P t m f=true) (n:Nat) (v:Value) (w:World):(method (n+1) t v m).run P w = .ok (f,v) w:=by
 unfold Uk at h
 split at h
 ·rename_i i hi
  split at h
  ·rename_i r hr;simp only [Bool.and_eq_true] at h;obtain ⟨⟨h1,h2⟩,h3⟩:=h
   split at h2
   ·rename_i f' pr hf;simp only [Bool.and_eq_true,Bool.not_eq_true'] at h2;have hff:=Nat.eq_of_beq_eq_true h2.1;subst hff;have hpr:=h2.2;subst hpr;have hp:r.path.toList=[]:=List.isEmpty_iff.1 h1
    split at h3
    ·cases h3
    ·rename_i u hne hu;have hrecv:∀wr,(receiverAt t (.val v) false wr).run P w = .ok v w:=λwr=>by
      unfold receiverAt;rw [Sem.run_bind,run_underlying hu,Result.andThen_ok];cases u <;> first | rfl | exact absurd rfl (hne _)
     simp only [method,typeInfo,Sem.run_bind,run_program,Result.andThen_ok,hi,hr,hp,follow,Sem.run_pure,hf,hrecv]
    ·cases h3
   ·cases h2
  ·cases h
 ·cases h
section
variable {P:Program} {n:Nat} {F:List Nat} {Q:DQ} {tt:TT} {env env':Env} {st st':St} {ids ids':List Nat} {k todo todo':List DI} {cx:Prop} {d:D} {ob ob':List Prop}
 {I:Imm} {μ:Mu} {w:World} {a:Act}
theorem QA {o:Oper} {r:Operand} {m:String} {f:FuncId} {args:List Operand} {ts:Array TypeId} {ds:List D} {T:TypeId} {x:V} (ho:o.op = .call { callee:=.invoke r m,args:=⟨args⟩,argTypes:=ts }) (ht:C9 env r=some (.imm (.iface T x)))
  (ha:Hj cx env args=some (ds,ob)) (hob:A7 ob) (hm:Uk P T m f=true):D3 P o env f (.imm x::ds) cx:=by
 intro I μ a w hop hc;rw [ho] at hop;have hd:=F3 (I:=I) (μ:=μ) (a:=a) hc ha hob λy hy=>hop y (by simp [Op.operands,Call.operands,hy]);have hf:=(hop r (by simp [Op.operands,Call.operands]) _ ht).immInv;generalize hv:a.eval r=v at hf;cases hf with
 | iface _ u _ hu =>
  refine ⟨#[u]++(args.map a.eval).toArray,?_,?_⟩
  ·simp only [Array.toList_append];exact .mk (.imm _ _ hu) (by simpa using hd)
  ·have hs:∃n,P.types.size+Made.depth=n+1:=⟨P.types.size+(Made.depth-1),by unfold Made.depth;omega⟩
   obtain ⟨n,hs⟩:=hs;have hme:=bT hm n u w;have hx:((#[Value.iface T u]++(args.map a.eval).toArray).extract 1 (#[Value.iface T u]++(args.map a.eval).toArray).size)=(args.map a.eval).toArray:=by
    apply Array.ext';simp [List.extract_eq_take_drop];exact List.take_of_length_le (by simp)
   have h0:(#[Value.iface T u]++(args.map a.eval).toArray)[0]?=some (.iface T u):=by simp
   have e:(⟨args⟩:Array Operand).map a.eval=(args.map a.eval).toArray:=by simp
   simp only [execOp,ho,resolve,hv,e,Sem.run_bind,Sem.run_pure,Result.andThen_ok,invoke,h0,callMethod,hx,run_program,hs,hme]
structure kW where
 T:TypeId
 m:String
 vs:List V
 g:Option (Bool×Bool)
 ob:List Prop
 dst:Option Nat
 todo:List DI
def aZ (n:Nat) (env:Env) (todo:List DI):Option kW :=
 match AR todo ([],[]) with
 | some (all,o,todo')=>match o.op,BG all env o with
  | .call { callee:=.invoke r m,args:=⟨args⟩,.. },some g=>match C9 env r,Hj (Ag g) env args with
   | some (.imm (.iface T x)),some (ds,ob)=>match Kh (.imm x::ds),Bw n o.dst with
    | some vs,true=>match o.dst with
     | some t=>some ⟨T,m,vs,g,ob,some t,todo'⟩
     | none=>some ⟨T,m,vs,g,ob,none,todo'⟩
    | _,_=>none
   | _,_=>none
  | _,_=>none
 | none=>none
theorem fB (f:FuncId) {T:TypeId} {m:String} {vs:List V} {g:Option (Bool×Bool)} {ob:List Prop} {dst:Option Nat} {todo':List DI} {v:V} (h:aZ n env todo=some ⟨T,m,vs,g,ob,dst,todo'⟩) (hm:Uk P T m f=true) (hE:Ag g->Ak P f vs v) (hob:A7 ob)
  (hk:G P n F Q todo' (Bt dst (gD g (.imm v)) env) st ids):G P n F Q todo env st ids:=by
 unfold aZ at h
 split at h
 ·rename_i all o todo1 h1;have hnd:∀cc,o.op = .call cc->∀c,o.op ≠ .defer c:=λcc h c h'=>by rw [h] at h';cases h'
  split at h
  ·rename_i r m' args ts g' ho hg
   split at h
   ·rename_i T' x ds ob' ht ha
    split at h
    ·rename_i vs' hv hd;have fin:T'=T/\m'=m/\vs'=vs/\g'=g/\ob'=ob/\o.dst=dst/\todo1=todo':=by
      split at h <;> (rename_i hdst;cases h;exact ⟨rfl,rfl,rfl,rfl,rfl,hdst,rfl⟩)
     obtain ⟨rfl,rfl,rfl,rfl,rfl,rfl,rfl⟩:=fin;exact Bm (fr:=[]) (wr:=[]) h1 (NY hg (QA ho ht ha hob hm) hv hE) hd (hnd _ ho) hk
    ·cases h
   ·cases h
  ·cases h
 ·cases h
end
end Go.Hk
namespace Go.Hk
open Go.Proofs
theorem Oz:∀v:Ty,An v<=1000000000000000->Ak Tryz.prog 157 [.agg (Al v)] (.int .i64 (An v))
 | .mk f n x ps,hN=>by
  refine AM λhv=>?_;simp [BX,Eh,Al,maxLen] at hv;simp only [An] at hN;refine Ae Ah Tryz.func157 (by decide +kernel) rfl [1,2,3,4] rfl rfl ?_;refine mg [] rfl (by simp) ?_;refine Aj (λi:Nat=>[(9,.imm (.int .i64 i)),(8,.imm (.int .i64 ps.length)),(7,.imm (.sl (Bg ps))),(3,.imm (.int .i64 ((1+Ai (ps.take i):Nat):Int)))]) (λ_=>[]) [2,3,4] (λi=>ps.length-i) (λi=>i<=ps.length) 0 (Nat.zero_le _)
   ⟨rfl,At (by simp),rfl,rfl,trivial⟩ trivial rfl λi hi ih=>?_
  refine md [] rfl (by simp) ?_;refine Aa rfl (λh=>?_) (λh=>?_)
  ·simp at h;obtain ⟨p,hp⟩:=Am h;have hl:=B7 hp;have hs:=Oz p (by omega);have hn:Ai (ps.take (i+1))=Ai (ps.take i)+An p:=by
    have e:=Bs (ps.take i) [p];rw [AS hp,e];simp [Ai]
   refine md [] rfl (by simp) ?_;refine mi rfl (c:=Al p) (λ_=>⟨by simp,by simpa using Av hp,by simp⟩) (by simp) ?_;obtain ⟨p1,p2,p3,p4⟩:=p;refine mg [] rfl (by simp) ?_;refine Ac rfl (λ_=>hs) (by simp) ?_;refine mg [] rfl (by simp) ?_;exact Ad (ih (i+1) (by omega) (by omega)) ⟨At (Bv (by omega) (by omega)),rfl,rfl,At (by rw [Bv (by omega) (by omega)];omega),trivial⟩ trivial rfl
  ·simp at h;refine Ar rfl ?_;rw [List.take_of_length_le (by omega)];refine md [] rfl (by simp) ?_;simp only [An];exact Ab ⟨_,rfl,tV rfl,trivial⟩
termination_by v=>SizeOf.sizeOf v
decreasing_by
 have:=List.sizeOf_lt_of_mem (List.mem_of_getElem? hp);simp_wf;omega
theorem fQ (n:Int) (h : -1000000000000<=n/\n<=1000000000000):Ak Tryz.prog 198 [.int .i64 n] (.int .i64 (EA n)):=by
 refine Ae Ah Tryz.func198 (by decide +kernel) rfl [1,2] rfl rfl ?_;refine mg [] rfl (by simp) ?_;by_cases h0:0<n
 ·refine Aa rfl (λh=>?_) (λh=>absurd h0 (by simpa using h));refine md [] rfl (by simp) ?_;refine Ab ⟨_,rfl,tV ?_,trivial⟩;simp only [EA,if_pos h0];have e1:IntKind.i64.wrap (2*n)=2*n:=Bv (by omega) (by omega);rw [e1,Bv (by omega) (by omega)]
 ·refine Aa rfl (λh=>absurd (by simpa using h) h0) (λh=>?_);refine md [] rfl (by simp) ?_;refine Ab ⟨_,rfl,tV ?_,trivial⟩;simp only [EA,if_neg h0];rw [Bv (by omega) (by omega)]
theorem Pj (ds:List Dt) (s:Str):D5 false (Ed (Dd 0 ds)) (.str s) (.agg [.int .i64 0,.int .i64 0]) = .imm (.agg [.int .i64 (CH ds s).1,.int .i64 (CH ds s).2]):=by
 simp only [D5,M2,CH];cases h:F0 s 0 ds with
 | none=>simp
 | some p=>obtain ⟨a,b⟩:=p;simp
set_option maxHeartbeats 2000000 in
theorem TF (c:Cse) (sz:List (List V)) (ho:OkW c.datas):∀(a t b:Ty),AD c.datas t=true->Lc c.datas t a=true->Lc c.datas t b=true->Dn a=true->Dn b=true ->
  Ak Tryz.prog 158 [AL c sz,.agg (Al a),.agg (Al b)] (.int .i64 (Et c.datas a b))
 | .mk f n x ps,.mk so m0 x0 qs0,.mk g n' x' ps',hn,ha,hb,hia,hib=>by
  have hR:=λc'=>fQ c';obtain ⟨ds,⟨c1,c2,c3,c4⟩,rows⟩:=c;simp only [Dn,Bool.and_eq_true] at hia hib;have hia1:=of_decide_eq_true hia.1;have hib1:=of_decide_eq_true hib.1;simp only at hn ha hb ho;simp only [Lc] at ha hb;refine Ae Ah Tryz.func158 (by decide +kernel) rfl [1,2,3,4,5,6,7] rfl rfl ?_;refine mg [] rfl (by simp) ?_;simp only [Et];by_cases f1:f=1
  ·subst f1;refine Aa rfl (λh=>?_) (λh=>by simp at h);refine md [] rfl (by simp) ?_;refine Ac rfl (λ_=>hR n hia1) (by simp) ?_;refine mg [] rfl (by simp) ?_;refine Ac rfl (λ_=>hR n' hib1) (by simp) ?_;refine mg [] rfl (by simp;rfl) ?_;have hr:∀z:Int,-1000000000000<=z/\z<=1000000000000 -> -2000000000000<=EA z/\EA z<=2000000000000:=λz hz=>by simp only [EA];split <;> omega
   have:=hr n hia1;have:=hr n' hib1;refine Ab ⟨_,rfl,tV ?_,trivial⟩;rw [Bv (by omega) (by omega)];rfl
  refine Aa rfl (λh=>absurd (by simpa using h) f1) (λh=>?_);clear h;refine md [] rfl (by simp) ?_;by_cases f2:f=2
  ·subst f2;refine Aa rfl (λh=>?_) (λh=>by simp at h);refine md [] rfl (by simp) ?_;refine Ab ⟨_,rfl,tV ?_,trivial⟩;rw [Bv (by omega) (by omega)];rfl
  refine Aa rfl (λh=>absurd (by simpa using h) f2) (λh=>?_);clear h;refine md [] rfl (by simp) ?_;by_cases f4:f=4
  case neg =>
   refine Aa rfl (λh=>absurd (by simpa using h) f4) (λh=>?_);clear h;refine md [] rfl (by simp) ?_;rw [if_neg f1,if_neg f2,if_neg f4];exact Ab ⟨_,rfl,tV rfl,trivial⟩
  subst f4;have h8:so=8:=by
   by_cases e1:so=1
   ·rw [if_pos e1] at ha;simp at ha
   rw [if_neg e1] at ha;by_cases e2:so=2
   ·rw [if_pos e2] at ha;simp at ha
   rw [if_neg e2] at ha;by_cases e3:so=3
   ·rw [if_pos e3] at ha;simp at ha
   rw [if_neg e3] at ha;by_cases e8:so=8
   ·exact e8
   ·rw [if_neg e8] at ha;simp at ha
  subst h8;rw [if_neg (by decide),if_neg (by decide),if_neg (by decide),if_pos rfl] at ha hb;simp only [Bool.and_eq_true,decide_eq_true_eq] at ha hb;obtain ⟨_,ha1,ha2,ha3⟩:=ha;obtain ⟨hg,hb1,hb2,hb3⟩:=hb;rw [Ip ds 8 0 m0 x0 x [] qs0] at ha1 ha2 ha3;rw [Ip ds 8 0 m0 x0 x' [] qs0] at hb1 hb2 hb3;have hp:=(Cu hn 8 m0 x0 qs0 rfl rfl).1;have sa:=KO ho.dif (n:=m0) (s:=x) (ps:=qs0) hp ha1;have sb:=KO ho.dif (n:=m0) (s:=x') (ps:=qs0) hp hb1;have la:=Oh ho (.mk 8 m0 x0 qs0) x;have lb:=Oh ho (.mk 8 m0 x0 qs0) x';have hsame:=RT (ds:=ds) (t:=.mk 8 m0 x0 qs0) (s:=x) (s':=x') ha1;have hal:=L5 ho (.mk 8 m0 x0 qs0) x;have hnm:=Io ho.okd (t:=.mk 8 m0 x0 qs0) (s:=x) ha1;have lk1:=Pj ds x;have lk2:=Pj ds x'
  rw [if_neg (by decide),if_neg (by decide),if_pos rfl];rw [sa] at lk1 ⊢;rw [sb] at lk2 ⊢;generalize (CH ds x).1=s1 at *;generalize (CH ds x').1=s2 at *;clear sa sb;generalize B6 ds (.mk 8 m0 x0 qs0) x=e1 at *;generalize B6 ds (.mk 8 m0 x0 qs0) x'=e2 at *;obtain ⟨⟨n1,A1⟩,k1⟩:=e1;obtain ⟨⟨n2,A2⟩,k2⟩:=e2;simp only at ha1 ha2 ha3 hb1 hb2 hb3 la lb hsame hal hnm lk1 lk2 ⊢;refine Aa rfl (λh=>?_) (λh=>by simp at h);refine md [] rfl (by simp) ?_
  refine Fy Ah rfl rfl rfl (DV _) (by simp [Ag]) (z:=.agg #[.int .i64 0,.int .i64 0]) rfl (λ_=>.agg _ _ rfl (by decide) (λi c x h1 h2=>by match i,h1,h2 with | 0,h1,h2=>cases h1;cases h2;exact .int _ _ | 1,h1,h2=>cases h1;cases h2;exact .int _ _ | i+2,h1,h2=>simp at h2)) lk1 ?_;refine mg [] rfl (by simp [Ag]) ?_;refine Fy Ah rfl rfl rfl (DV _) (by simp [Ag]) (z:=.agg #[.int .i64 0,.int .i64 0]) rfl (λ_=>.agg _ _ rfl (by decide) (λi c x h1 h2=>by match i,h1,h2 with | 0,h1,h2=>cases h1;cases h2;exact .int _ _ | 1,h1,h2=>cases h1;cases h2;exact .int _ _ | i+2,h1,h2=>simp at h2)) lk2 ?_;refine mg [] rfl (by simp [Ag];rfl) ?_;by_cases hk:k1=k2
  case neg =>
   refine Aa rfl (λh=>?_) (λh=>by exfalso;simp at h;rw [Bv (by omega) (by omega)] at h;omega);refine md [] rfl (by simp) ?_;rw [if_pos (by omega)];refine Ab ⟨_,rfl,tV ?_,trivial⟩;rw [Bv (by omega) (by omega)]
  refine Aa rfl (λh=>by exfalso;simp at h;rw [Bv (by omega) (by omega)] at h;omega) (λh=>?_);clear h;subst hk;have hsame:=hsame rfl;cases hsame;rw [if_neg (by omega)];refine md [] rfl (by simp) ?_;refine Aj (λi:Nat=>[(53,.imm (.int .i64 i)),(52,.imm (.int .i64 ps.length)),(5,.ref 2 0),(4,.ref 1 0),(0,.imm (AL ⟨ds,.mk c1 c2 c3 c4,rows⟩ sz))])
   (λ_=>[(1,some (.immb 35 4 (Al (.mk 4 n x ps)))),(2,some (.immb 35 4 (Al (.mk g n' x' ps'))))]) [3,4,5,6,7] (λi=>ps.length-i)
   (λi=>i<=ps.length/\Dw ds ps ps'=Dw ds (ps.drop i) (ps'.drop i)) 0 ⟨Nat.zero_le _,rfl⟩ ⟨rfl,At (by simp),rfl,rfl,rfl,trivial⟩ ⟨rfl,rfl,trivial⟩ rfl λi hi ih=>?_
  obtain ⟨hi1,hi2⟩:=hi;refine md [] rfl (by simp) ?_;refine Aa rfl (λh=>?_) (λh=>?_)
  ·simp at h;obtain ⟨p,hp⟩:=Am h;obtain ⟨t,ht⟩:=Am (l:=A1) (i:=i) (by omega);obtain ⟨q,hq⟩:=Am (l:=ps') (i:=i) (by omega);have hO:=TF ⟨ds,.mk c1 c2 c3 c4,rows⟩ sz ho p t q (Dj hnm ht) (IJ ha3 ht hp) (IJ hb3 ht hq) (Ib hia.2 hp) (Ib hib.2 hq);simp only at hO;rw [Nc hp hq] at hi2;generalize Et ds p q=z at *;refine md [] rfl (by simp) ?_;refine mi rfl (c:=Al p) (λ_=>⟨by simp,by simpa using Av hp,by simp⟩) (by simp) ?_;refine mg [] rfl (by simp) ?_;refine mi rfl (c:=Al q) (λ_=>⟨by simp,by simpa using Av hq,by simp⟩) (by simp) ?_;refine mg [] rfl (by simp) ?_;refine Ac rfl (λ_=>hO) (by simp) ?_;refine mg [] rfl (by simp;rfl) ?_;by_cases hz:z=0
   ·rw [if_neg (by simpa using hz)] at hi2;refine Aa rfl (λh=>by simp at h;exact absurd hz h) (λh=>?_);refine md [] rfl (by simp) ?_;exact Ad (ih (i+1) (by omega) ⟨by omega,hi2⟩) ⟨At (Bv (by omega) (by omega)),rfl,rfl,rfl,rfl,trivial⟩ ⟨rfl,rfl,trivial⟩ rfl
   ·rw [if_pos hz] at hi2;refine Aa rfl (λh=>?_) (λh=>by simp at h;exact absurd h hz);refine md [] rfl (by simp) ?_;rw [hi2];exact Ab ⟨_,rfl,tV rfl,trivial⟩
  ·simp at h;refine Ar rfl ?_;refine md [] rfl (by simp) ?_;rw [hi2,List.drop_eq_nil_of_le (by omega)];simp only [Dw];exact Ab ⟨_,rfl,tV rfl,trivial⟩
termination_by a=>SizeOf.sizeOf a
decreasing_by
 have:=List.sizeOf_lt_of_mem (List.mem_of_getElem? hp);simp_wf;omega
@[simp] theorem someP_length (r:Option Ty):(FG r).length=5:=by cases r <;> simp [FG,zT]
set_option maxHeartbeats 1000000 in
theorem QW (c:Cse) (sz:List (List V)) (ho:OkW c.datas) (hn:AD c.datas c.type=true) (a b:Option Ty) (ha:∀v,a=some v->Rq c v) (hb:∀v,b=some v->Rq c v) :
  Ak Tryz.prog 111 [AL c sz,.agg (FG a),.agg (FG b)] (.agg (FG (Gj c.datas a b))):=by
 cases a with
 | none =>
  have e:Gj c.datas none b=b:=rfl;rw [e];cases b with
  | none =>
   refine Ae Ah Tryz.func111 (by decide +kernel) rfl [1,2,3,4,5] rfl rfl ?_;refine mg [] rfl (by simp) ?_;refine Aa rfl (λh=>?_) (λh=>by simp at h);refine md [] rfl (by simp) ?_;exact Ab ⟨_,rfl,tV rfl,trivial⟩
  | some y =>
   obtain ⟨y1,y2,y3,y4⟩:=y;refine Ae Ah Tryz.func111 (by decide +kernel) rfl [1,2,3,4,5] rfl rfl ?_;refine mg [] rfl (by simp) ?_;refine Aa rfl (λh=>?_) (λh=>by simp at h);refine md [] rfl (by simp) ?_;exact Ab ⟨_,rfl,tV rfl,trivial⟩
 | some x =>
 cases b with
 | none =>
  obtain ⟨x1,x2,x3,x4⟩:=x;refine Ae Ah Tryz.func111 (by decide +kernel) rfl [1,2,3,4,5] rfl rfl ?_;refine mg [] rfl (by simp) ?_;refine Aa rfl (λh=>by simp at h) (λh=>?_);refine md [] rfl (by simp) ?_;refine Aa rfl (λh=>?_) (λh=>by simp at h);refine md [] rfl (by simp) ?_;exact Ab ⟨_,rfl,tV rfl,trivial⟩
 | some y =>
  have hx:=ha x rfl;have hy:=hb y rfl;have hO:=TF c sz ho y c.type x hn hy.1 hx.1 hy.2.1 hx.2.1;have hX:=Oz x hx.2.2;have hY:=Oz y hy.2.2;have e:Gj c.datas (some x) (some y)=if (if An y=An x then Et c.datas y x<0 else An y<An x) then some y else some x:=by
   simp only [Gj,JK];by_cases h:An y=An x
   ·simp only [if_pos h,decide_eq_true_eq]
   ·simp only [if_neg h,decide_eq_true_eq]
  rw [e];clear e;have hnx:=hx.2.2;have hny:=hy.2.2;generalize Et c.datas y x=z at *;generalize An x=nx at *;generalize An y=ny at *;obtain ⟨x1,x2,x3,x4⟩:=x;obtain ⟨y1,y2,y3,y4⟩:=y;generalize hR:(if (if ny=nx then z<0 else ny<nx) then some (Ty.mk y1 y2 y3 y4) else some (Ty.mk x1 x2 x3 x4))=R;have hyes:(if ny=nx then z<0 else ny<nx)->R=some (Ty.mk y1 y2 y3 y4):=λh=>by rw [<- hR];exact if_pos h
  have hno:¬(if ny=nx then z<0 else ny<nx)->R=some (Ty.mk x1 x2 x3 x4):=λh=>by rw [<- hR];exact if_neg h
  clear hR;refine Ae Ah Tryz.func111 (by decide +kernel) rfl [1,2,3,4,5] rfl rfl ?_;refine mg [] rfl (by simp) ?_;refine Aa rfl (λh=>by simp at h) (λh=>?_);refine md [] rfl (by simp) ?_;refine Aa rfl (λh=>by simp at h) (λh=>?_);refine md [] rfl (by simp) ?_;refine Ac rfl (λ_=>hY) (by simp [Ag]) ?_;refine mg [] rfl (by simp [Ag]) ?_;refine Ac rfl (λ_=>hX) (by simp [Ag]) ?_;refine mg [] rfl (by simp [Ag];rfl) ?_;have ew:IntKind.i64.wrap ((ny:Int)-nx)=(ny:Int)-nx:=Bv (by omega) (by omega);by_cases hq:ny=nx
  ·subst hq;simp only [if_true] at hyes hno;refine Aa rfl (λh=>?_) (λh=>by exfalso;simp at h;exact h (by decide));refine md [] rfl (by simp) ?_;refine Ac rfl (λ_=>hO) (by simp) ?_;refine mg [] rfl (by simp) ?_;by_cases hz:z<0
   ·rw [hyes hz];refine Aa rfl (λh=>?_) (λh=>absurd hz (by simpa using h));refine md [] rfl (by simp) ?_;exact Ab ⟨_,rfl,tV rfl,trivial⟩
   ·rw [hno hz];refine Aa rfl (λh=>absurd (by simpa using h) hz) (λh=>?_);refine md [] rfl (by simp) ?_;exact Ab ⟨_,rfl,tV rfl,trivial⟩
  ·simp only [if_neg hq] at hyes hno;refine Aa rfl (λh=>by exfalso;simp [ew] at h;omega) (λh=>?_);refine md [] rfl (by simp) ?_;by_cases hz:ny<nx
   ·rw [hyes hz];refine Aa rfl (λh=>?_) (λh=>by exfalso;simp [ew] at h;omega);refine md [] rfl (by simp) ?_;exact Ab ⟨_,rfl,tV rfl,trivial⟩
   ·rw [hno hz];refine Aa rfl (λh=>by exfalso;simp [ew] at h;omega) (λh=>?_);refine md [] rfl (by simp) ?_;exact Ab ⟨_,rfl,tV rfl,trivial⟩
theorem TB (p:Ty):Ak Tryz.prog 244 [.agg (Al p)] (.agg (Al p)):=by
 obtain ⟨a,b,c,d⟩:=p;refine Ae Ah Tryz.func244 (by decide +kernel) rfl [1,2] rfl rfl ?_;refine mg [] rfl (by simp) ?_;exact Ab ⟨_,rfl,tV rfl,trivial⟩
theorem TA (p:Ty):Ak Tryz.prog 245 [.agg (Al p)] (.agg (Al p)):=by
 obtain ⟨a,b,c,d⟩:=p;refine Ae Ah Tryz.func245 (by decide +kernel) rfl [1,2] rfl rfl ?_;refine mg [] rfl (by simp) ?_;exact Ab ⟨_,rfl,tV rfl,trivial⟩
theorem Tb:∃z,(Tryz.prog.info? 124).bind (·.zero)=some z/\∀I,RepV I z (.agg [.int .i64 0,.int .i64 0,.str [],.sl []]):=by
 refine ⟨.agg #[.int .i64 0,.int .i64 0,.string ⟨#[]⟩,.slice none 0 0],by kernel_rfl,λI=>.agg _ _ rfl (by decide) λi c x hc hx=>?_⟩
 match i,hc,hx with
 | 0,hc,hx=>cases hc;cases hx;exact .int _ _
 | 1,hc,hx=>cases hc;cases hx;exact .int _ _
 | 2,hc,hx=>cases hc;cases hx;exact .str _ _ rfl
 | 3,hc,hx=>cases hc;cases hx;exact .slnil
 | i+4,hc,hx=>simp at hx
theorem bV (x:Ty×Int):Ak Tryz.prog 112 [K9 x] (.bool (decide (x.2=1))):=by
 obtain ⟨⟨a,b,c,d⟩,m⟩:=x;by_cases h:m=1
 ·subst h;refine Ae Ah Tryz.func112 (by decide +kernel) rfl [1,2] rfl rfl ?_;refine mg [] rfl (by simp) ?_;refine H9 Ah rfl (.inl ⟨rfl,rfl⟩) ?_;refine mg [] rfl (by simp) ?_;refine Aa rfl (λh=>?_) (λh=>by simp at h);refine md [] rfl (by simp) ?_;exact Ab ⟨_,rfl,tV rfl,trivial⟩
 ·have e:K9 (.mk a b c d,m) = .iface 182 (.agg (Al (.mk a b c d))):=by simp [K9,h]
  obtain ⟨z,hz,hzr⟩:=Tb;rw [e,show decide (m=1)=false from decide_eq_false h];refine Ae Ah Tryz.func112 (by decide +kernel) rfl [1,2] rfl rfl ?_;refine mg [] rfl (by simp) ?_;refine H9 Ah rfl (.inr ⟨by decide,z,_,hz,hzr,rfl⟩) ?_;refine mg [] rfl (by simp) ?_;refine Aa rfl (λh=>by simp at h) (λh=>?_);refine md [] rfl (by simp) ?_;exact Ab ⟨_,rfl,tV rfl,trivial⟩
theorem Ri {I:Imm} {μ:Mu}:∀{xs:List Value} {a b:List D},RepL I μ xs (a ++ .nils::b)->RepL I μ xs (a ++ .imm (.sl [])::b)
 | [],[],b,h=>absurd h.1 (by simp)
 | [],_::_,b,h=>absurd h.1 (by simp)
 | x::xs,[],b,h=>by
  obtain ⟨h1,h2⟩:=(show RepL I μ (x::xs) (.nils::b) from h).cons;refine .mk ?_ h2;cases h1;exact .imm _ _ .slnil
 | x::xs,d::a,b,h=>by
  obtain ⟨h1,h2⟩:=(show RepL I μ (x::xs) (d::(a ++ .nils::b)) from h).cons;exact .mk h1 (Ri h2)
theorem Za {P:Program} {f:FuncId} {a b:List D} {st:St} {out:Out} (h:Bb P f (a ++ .imm (.sl [])::b) st out):Bb P f (a ++ .nils::b) st out:=λI μ w xs hs hx=>h I μ w xs hs (Ri hx)
theorem Td (l:List (Ty×Int)):∀c∈BW l,c.length=1:=λc hc=>by simp only [BW,List.mem_map] at hc;obtain ⟨q,_,rfl⟩:=hc;rfl
theorem XO (x : Ty × Int) : ∃ T fm, K9 x = .iface T (.agg (Al x.1)) ∧ Uk Tryz.prog T "hearth/cover.pattern" fm = true ∧ Ak Tryz.prog fm [.agg (Al x.1)] (.agg (Al x.1)) := by
 obtain ⟨p,m⟩:=x;by_cases h:m=1
 ·exact ⟨124,244,by simp [K9,h],by kernel_rfl,TB p⟩
 ·exact ⟨182,245,by simp [K9,h],by kernel_rfl,TA p⟩
set_option maxHeartbeats 4000000 in
theorem Rd (c:Cse) (ho:OkW c.datas) (hn:AD c.datas c.type=true):∀(F f N:Nat),f<=F->∀(m x:Mi) (l:List (Ty×Int)) (r:Option Ty),N+f<=1000000->MOk c.datas c.type N m->MOk c.datas c.type N x->stl c.datas m x ->
  II c.datas c.type l->(∀y∈l,y.2=0\/y.2=1)->l.length<=1000->EB c.datas m l<f->Du c.datas f m l=some r ->
  Bb Tryz.prog 57 [.imm (AL c (AB (Ds c.datas))),.hv 1 0,.imm (.sl (BW l))] [(1,some (.hp (Hb x)))] (.ret (.imm (.agg (FG r))) []):=by
 intro F
 induction F with
 | zero=>intro f N hf m x l r _ _ _ _ _ _ _ hu;omega
 | succ F ih =>
 intro f N hfF m x l r hNf hm hx hs hr hb hll hu hS;have hrf:=Gl r;refine Ae Ah Tryz.func57 (by decide +kernel) rfl [2,3,4,5,6,7,8,9,10,11,12] rfl rfl ?_;refine Jf 1 2 (λob:Nat=>[ptr ob]) (λob=>AU x ob) rfl (λvs I w bs h=>let ⟨ob,F,e1,e2,e3⟩:=h;⟨ob,e1,F,e2,e3⟩) λob=>?_;refine md [] rfl (by simp) ?_;refine Aj (λz:Nat×Nat×Mi=>[(15,.imm (.int .i64 z.1)),(14,.imm (.int .i64 l.length)),(13,.imm (.sl (BW l))),(6,.ref 3 0),(2,.imm (.sl (BW l))),(1,.raw (ptr ob)),(0,.imm (AL c (AB (Ds c.datas))))])
  (λz=>[(3,some (.cells 107 5 [.imm (.int .i64 0),.imm (.int .i64 0),.imm (.str []),.nils,.imm (.bool false)])),(2,some (.hp (AU z.2.2 ob)))]) [4,5,6,7,8,9,10,11,12] (λz=>l.length-z.1)
  (λz=>z.1<=l.length/\z.2.1<=f/\MOk c.datas c.type N z.2.2/\stl c.datas m z.2.2/\EB c.datas m (l.drop z.1)<z.2.1/\Du c.datas z.2.1 m (l.drop z.1)=some r) (0,f,x) ⟨Nat.zero_le _,Nat.le_refl _,hx,hs,hu,hS⟩ ⟨rfl,At (by simp),rfl,rfl,rfl,rfl,rfl,trivial⟩ ⟨rfl,rfl,trivial⟩ rfl λz hz ihl=>?_
 obtain ⟨i,f',x⟩:=z;obtain ⟨z1,z2,hx,hs,hu,hS⟩:=hz;simp only at z1 z2 hx hs hu hS;refine md [] rfl (by simp) ?_;refine Aa rfl (λh=>?_) (λh=>?_)
 ·have hlt:i<l.length:=by simp at h;omega
  obtain ⟨y,hy⟩:=Am hlt;obtain ⟨p,bb⟩:=y;obtain ⟨T,fm,hwe,him,hpc⟩:=XO (p,bb);obtain ⟨hp1,hp2,hp3⟩:=hr (p,bb) (List.mem_of_getElem? hy);have hyb:=hb (p,bb) (List.mem_of_getElem? hy);have hho:=bV (p,bb);have hget:(BW l)[i]?=some [.iface T (.agg (Al p))]:=by rw [Vm hy,hwe]
  rw [hwe] at hho;have hdr:=Ap hy;rw [hdr] at hS hu;simp only at hp1 hp2 hp3 hyb hho hpc;obtain ⟨f',rfl⟩:∃g,f'=g+1:=⟨f'-1,by omega⟩
  have hsee:=ZX c (AB (Ds c.datas)) ho N (by omega) p x ob [] (by simp;omega) hx.wf hx.coh (by rw [hx.typ];exact hp1) hp2;replace hsee:=Za (a:=[.imm (AL c (AB (Ds c.datas))),.imm (.agg (Al p)),.raw (ptr ob)]) (b:=[]) hsee;have hst:=WO p hm.coh hs;have hxs:=hx.see ho hp3;have hL:=O4 p hm.coh hs;have hL2:=O4 p hm.coh hst;rw [<- hL] at hsee;refine md [] rfl (by simp) ?_;refine mi rfl (c:=[.iface T (.agg (Al p))]) (λ_=>⟨by simp,by simpa using hget,by simp⟩) (by simp) ?_;refine mg [] rfl (by simp) ?_;refine fB fm rfl him (λ_=>hpc) (by simp) ?_;refine mg [] rfl (by simp) ?_;simp only [Du] at hS;simp only [EB] at hu;by_cases h2:(A0 c.datas p m).1=2
  ·rw [show NE [] (A0 c.datas p m) = .tup [.imm (.bool false),.ip 170 (.sl (AB (A0 c.datas p m).2.1)::Bd (A0 c.datas p m).2.2) 0] from if_pos h2] at hsee;have hA:=M6 ho p hm.wf hm.coh (by rw [hm.typ];exact hp1) hp2 h2;have hB:=M6 ho p hxs.wf hxs.coh (by rw [hxs.typ];exact hp1) hp2 (by rw [<- hL2];exact h2);rw [<- hL2] at hB;have hmT:=hm.split ho hp1 hp2 hp3 h2;have hxT:=hxs.split ho hp1 hp2 hp3 (by rw [<- hL2];exact h2);rw [<- hL2] at hxT;have hlen:=IN c.datas p m;have hsup:=λis=>Vr c (AB (Ds c.datas)) ho N (by omega) (Em c.datas p x) ob (A0 c.datas p m).2.1 (A0 c.datas p m).2.2 is (by omega) hxs.wf hxs.coh hB.ok
   have hdl:∀is,EB c.datas (AH c.datas m (A0 c.datas p m).2.1 (A0 c.datas p m).2.2 is) ((p,bb)::l.drop (i+1))<f':=λis=>by have:=hA.less is;simp only [EB];omega
   have hrd:II c.datas c.type ((p,bb)::l.drop (i+1)):=λy h=>hr y (by rw [<- hdr] at h;exact List.mem_of_mem_drop h);obtain ⟨ra,ra1,ra2⟩:=En ho c.type f' (N+1) _ _ (by omega) (hmT true) hrd (hdl true);obtain ⟨rb,rb1,rb2⟩:=En ho c.type f' (N+1) _ _ (by omega) (hmT false) hrd (hdl false);rw [if_pos h2,ra1,rb1] at hS;simp only [gC,Option.some.injEq] at hS;have hll2:((p,bb)::l.drop (i+1)).length<=1000:=by rw [<- hdr,List.length_drop];omega
   have hbd:∀y∈(p,bb)::l.drop (i+1),y.2=0\/y.2=1:=λy h=>hb y (by rw [<- hdr] at h;exact List.mem_of_mem_drop h);have hYa:=ih f' (N+1) (by omega) _ _ _ ra (by omega) (hmT true) (hxT true) (hA.stl true _ hst) hrd hbd hll2 (hdl true) ra1;have hYb:=ih f' (N+1) (by omega) _ _ _ rb (by omega) (hmT false) (hxT false) (hA.stl false _ hst) hrd hbd hll2 (hdl false) rb1;have hsoon:=QW c (AB (Ds c.datas)) ho hn ra rb (λv hv=>IH rfl (ra2 v hv)) (λv hv=>IH rfl (rb2 v hv));rw [hS] at hsoon;rw [<- hdr,<- Te] at hYa hYb;generalize (A0 c.datas p m).2.1=path at *;generalize (A0 c.datas p m).2.2=hd at *;obtain ⟨d1,d2,d3,d4⟩:=hd
   refine Az (fr:=[4]) [(2,1)] [(2,4)] rfl (by simp) hsee ⟨⟨rfl,rfl,rfl⟩,trivial⟩ rfl rfl rfl rfl ?_;refine mg [] rfl (by simp) ?_;refine Aa rfl (λh=>?_) (λh=>by simp at h);refine md [] rfl (by simp) ?_;refine BT [(4,1)] [(3,5),(2,6)] [] (fr:=[5,6]) (nm:=[5,6,4]) rfl trivial (by simp) (hsup true) ⟨⟨rfl,rfl,rfl⟩,trivial⟩ rfl trivial rfl rfl rfl ?_;refine mg [] rfl (by simp;exact ⟨by omega,Td l⟩) ?_;refine BT [(6,1)] [] [] (fr:=[]) (nm:=[6]) rfl trivial (by simp) hYa ⟨⟨rfl,rfl,rfl⟩,trivial⟩ rfl trivial rfl rfl rfl ?_;refine mg [] rfl (by simp;rfl) ?_
   refine BT [(5,1)] [(3,8),(2,9)] [] (fr:=[8,9]) (nm:=[8,9,5]) rfl trivial (by simp) (hsup false) ⟨⟨rfl,rfl,rfl⟩,trivial⟩ rfl trivial rfl rfl rfl ?_;refine mg [] rfl (by simp;exact ⟨by omega,Td l⟩) ?_;refine BT [(9,1)] [] [] (fr:=[]) (nm:=[9]) rfl trivial (by simp) hYb ⟨⟨rfl,rfl,rfl⟩,trivial⟩ rfl trivial rfl rfl rfl ?_;refine mg [] rfl (by simp;rfl) ?_;refine Ac rfl (λ_=>hsoon) (by simp) ?_;refine mg [] rfl (by simp) ?_;exact Ab ⟨_,rfl,tV rfl,trivial⟩
  ·rw [show NE [] (A0 c.datas p m) = .imm (.tup [.bool (decide ((A0 c.datas p m).1=1)),.nilp]) from if_neg h2] at hsee;rw [if_neg h2] at hS;have hrg:=Pi c.datas p m;have hul:=Gw c.datas m (l.drop (i+1));have hih:=ihl (i+1,f',Em c.datas p x) (by simp only;omega);simp only at hih;generalize (A0 c.datas p m).1=q at *;refine Az (fr:=[4]) [(2,1)] [(2,4)] rfl (by simp) hsee ⟨⟨rfl,rfl,rfl⟩,trivial⟩ rfl rfl rfl rfl ?_;refine mg [] rfl (by simp) ?_;refine Aa rfl (λh=>by simp at h) (λh=>?_);clear h;refine md [] rfl (by simp) ?_;refine Ac rfl (λ_=>hho) (by simp) ?_;refine mg [] rfl (by simp) ?_;by_cases e:q=bb
   ·rw [if_pos e] at hS;refine Aa rfl (λh=>by exfalso;subst e;simp at h) (λh=>?_);refine md [] rfl (by simp) ?_;refine A3 4 2 rfl ?_;exact Ad (hih ⟨by omega,by omega,hxs,hst,by omega,hS⟩) ⟨At (Bv (by omega) (by omega)),rfl,rfl,rfl,rfl,rfl,rfl,trivial⟩ ⟨rfl,rfl,trivial⟩ rfl
   ·rw [if_neg e] at hS;simp only [Option.some.injEq] at hS;subst hS;refine Aa rfl (λh=>?_) (λh=>by
     exfalso;have:¬(q=1↔bb=1):=λh=>by omega
     simp at h;exact this (by rw [h]))
    refine md [] rfl (by simp) ?_;exact Ab ⟨_,rfl,tV rfl,trivial⟩
 ·have hlt:¬i<l.length:=by simp at h;omega
  obtain ⟨f',rfl⟩:∃g,f'=g+1:=⟨f'-1,by omega⟩
  rw [List.drop_eq_nil_of_le (by omega)] at hS;simp only [Du] at hS;have hS:Bc c.datas 1000 x=some r:=by
   rw [<- XX ho 14 m x hx.hgt hm.wf hs 1000 (by omega)];exact hS
  have hle:=bM c ho N (by omega) 1000 x ob r hS hx.wf;refine Ar rfl ?_;refine md [] rfl (by simp) ?_;refine Az (fr:=[]) [(2,1)] [] rfl (by simp) hle ⟨⟨rfl,rfl,rfl⟩,trivial⟩ rfl rfl rfl rfl ?_;refine mg [] rfl (by simp) ?_;exact Ab ⟨_,rfl,tV rfl,trivial⟩
theorem Vn (rows:List Ty) (k:Nat) {p:Ty} (h:rows[k]?=some p):DU rows (k:Int)=(rows.take k).map (·,(0:Int))++[(p,1)]:=by
 simp only [DU];rw [if_neg (by omega)];simp only [Int.toNat_natCast,h]
theorem XP (rows:List Ty) {row:Int} (h:row<0):DU rows row=rows.map (·,(0:Int)):=if_pos h
set_option maxHeartbeats 1000000 in
theorem KD (c:Cse) (sz:List (List V)) (hl:c.rows.length<=5) (row:Int) (h1 : -1<=row) (h2:row<c.rows.length):Ak Tryz.prog 59 [AL c sz,.int .i64 row] (.sl (BW (DU c.rows row))):=by
 have hw1:=λk p h=>Vn c.rows k (p:=p) h;have hw2:=λh=>XP c.rows (row:=row) h;obtain ⟨ds,⟨c1,c2,c3,c4⟩,rows⟩:=c;simp only at *;refine Ae Ah Tryz.func59 (by decide +kernel) rfl [1,2,3,4] rfl rfl ?_;refine mg [] rfl (by simp) ?_;refine Ct (e:=164) (sz:=1) 5 1 (by decide) rfl ?_;refine Aj (λi:Nat=>[(14,.imm (.int .i64 i)),(13,.imm (.int .i64 rows.length)),(12,.imm (.sl (Bg rows))),(5,.own 1 (BW ((rows.take i).map (·,(0:Int)))).length),(1,.imm (.int .i64 row))]) (λi=>[(1,some (.row 164 1 (BW ((rows.take i).map (·,(0:Int))))))]) [2,3,4] (λi=>rows.length-i)
  (λi=>i<=rows.length/\(0<=row->(i:Int)<=row)) 0 ⟨Nat.zero_le _,λh=>h⟩ ⟨rfl,At (by simp),rfl,rfl,rfl,trivial⟩ ⟨rfl,trivial⟩ rfl λi hi ih=>?_
 obtain ⟨i1,i2⟩:=hi;refine md [] rfl (by simp) ?_;refine Aa rfl (λh=>?_) (λh=>?_)
 ·simp at h;obtain ⟨p,hp⟩:=Am h;have hw1:=hw1 i p hp;have et:∀n:Int,BW ((rows.take i).map (·,(0:Int))++[(p,n)])=BW ((rows.take i).map (·,(0:Int)))++[[K9 (p,n)]]:=λn=>by rw [Qo];rfl
  have e2:(rows.take (i+1)).map (·,(0:Int))=(rows.take i).map (·,(0:Int))++[(p,0)]:=by rw [AS hp];simp
  have hll:(BW ((rows.take i).map (·,(0:Int)))).length<=5:=by simp;omega
  refine md [] rfl (by simp) ?_;refine mi rfl (c:=Al p) (λ_=>⟨by simp,by simpa using Av hp,by simp⟩) (by simp) ?_;obtain ⟨p1,p2,p3,p4⟩:=p;refine mg [] rfl (by simp) ?_;by_cases e:(i:Int)=row
  ·subst e;rw [hw1,et];generalize BW ((rows.take i).map (·,(0:Int)))=l at *;refine Aa rfl (λh=>?_) (λh=>by simp at h);refine md [] rfl (by simp) ?_;refine Bp Ah rfl ⟨by simp,by simp [maxLen] at hll ⊢;omega,by simp at hll ⊢;omega,trivial⟩ ?_;refine mg [] rfl (by simp) ?_;refine AZ 3 rfl ?_;exact Ab ⟨_,rfl,tV rfl,trivial⟩
  ·have hih:=ih (i+1) (by omega) ⟨by omega,λh=>by have:=i2 h;omega⟩;rw [e2,et] at hih;generalize BW ((rows.take i).map (·,(0:Int)))=l at *;refine Aa rfl (λh=>by exfalso;simp at h;exact e h) (λh=>?_);refine md [] rfl (by simp) ?_;refine Bp Ah rfl ⟨by simp,by simp [maxLen] at hll ⊢;omega,by simp at hll ⊢;omega,trivial⟩ ?_;refine mg [] rfl (by simp) ?_;refine A3 1 3 rfl ?_;exact Ad hih ⟨At (Bv (by omega) (by omega)),rfl,rfl,by simp only [List.length_append];rfl,rfl,trivial⟩ ⟨rfl,trivial⟩ rfl
 ·simp at h;have hr:row<0:=by
   by_cases e:0<=row
   ·have:=i2 e;omega
   ·omega
  refine Ar rfl ?_;refine AZ 1 rfl ?_;refine md [] rfl (by simp) ?_;rw [hw2 hr,List.take_of_length_le h];exact Ab ⟨_,rfl,tV rfl,trivial⟩
def Ja (r:Option Ty):V:=.tup [.agg (Al (r.getD zT)),.int .i64 (if r.isSome then 0 else 5)]
theorem P9 (r:Option Ty) (hr:∀v,r=some v->An v<=1000000000000):Ak Tryz.prog 56 [.agg (FG r)] (Ja r):=by
 cases r with
 | none =>
  refine Ae Ah Tryz.func56 (by decide +kernel) rfl [1,2,3] rfl rfl ?_;refine mg [] rfl (by simp) ?_;refine Aa rfl (λh=>?_) (λh=>by simp at h);refine md [] rfl (by simp) ?_;exact Ab ⟨_,rfl,tV rfl,trivial⟩
 | some v =>
  have hc:=In v (hr v rfl);obtain ⟨v1,v2,v3,v4⟩:=v;refine Ae Ah Tryz.func56 (by decide +kernel) rfl [1,2,3] rfl rfl ?_;refine mg [] rfl (by simp) ?_;refine Aa rfl (λh=>by simp at h) (λh=>?_);refine md [] rfl (by simp) ?_;refine Ac rfl (λ_=>hc) (by simp) ?_;refine mg [] rfl (by simp) ?_;exact Ab ⟨_,rfl,tV rfl,trivial⟩
theorem RowsOk.of {c:Cse} (h:Bz c=true):RowsOk c:=by
 have h':=h;simp only [Bz,Bool.and_eq_true,decide_eq_true_eq] at h';obtain ⟨_,_,_,h1,h2⟩:=CO h;refine ⟨λp hp=>?_,h1,h'.2.2.2⟩;obtain ⟨a,b⟩:=h2 p hp;simp only [Bx,Bool.and_eq_true,decide_eq_true_eq] at a;exact ⟨b,a.2.1,a.1⟩
theorem MOk.of {c:Cse} (h:Bz c=true):MOk c.datas c.type 0 (As c.type):=by
 exact ⟨Tg (CO h).2.2.1 (OkW.typ h),RW _ _,rfl,by simp [Iv,As,FH]⟩
theorem hQ (rows:List Ty) (row:Int):∀y∈DU rows row,y.2=0\/y.2=1:=by
 intro y hy;unfold DU at hy
 split at hy
 ·obtain ⟨p,_,rfl⟩:=List.mem_map.1 hy;exact .inl rfl
 ·rcases List.mem_append.1 hy with hy | hy
  ·obtain ⟨p,_,rfl⟩:=List.mem_map.1 hy;exact .inl rfl
  ·split at hy
   ·rw [List.mem_singleton.1 hy];exact .inr rfl
   ·cases hy
theorem Z0 {c:Cse} (h:RowsOk c) (row:Int):(DU c.rows row).length<=1000:=by
 have:=h.len;unfold DU
 split
 ·simp;omega
 ·split <;> simp <;> omega
theorem Mn (c:Cse) (h:Bz c=true) (N:Nat) (hN:N<=999000) (m x:Mi) (hm:MOk c.datas c.type N m) (hx:MOk c.datas c.type N x) (hs:stl c.datas m x) (row:Int) :
  Bb Tryz.prog 57 [.imm (AL c (AB (Ds c.datas))),.hv 1 0,.imm (.sl (BW (DU c.rows row)))] [(1,some (.hp (Hb x)))] (.ret (.imm (.agg (FG (Db c m row)))) [])/\∀v,Db c m row=some v->MK c.datas c.type v:=by
 have ho:=OkW.of h;have hr:=RowsOk.of h;obtain ⟨w1,w2⟩:=WI hr row;obtain ⟨v1,v2⟩:=Kk ho hN hm w1 w2;have hu:=Gw c.datas m (DU c.rows row);rw [show FK c.datas m (DU c.rows row)=Db c m row from rfl] at v1 v2;exact ⟨Rd c ho (CO h).2.2.1 60 60 N (Nat.le_refl _) m x _ _ (by omega) hm hx hs w1 (hQ _ _) (Z0 hr row) (by omega) v1,v2⟩
set_option maxHeartbeats 1000000 in
theorem K6 (c:Cse):Ak Tryz.prog 11 [.agg (dCse c)] (bif Bz c then Ja (Db c (As c.type) (-1)) else .tup [.agg (Al zT),.int .i64 2]):=by
 have hW:=EI c;have hF:=G0 (AL c (AB (Ds c.datas))) c.type;cases hb:Bz c with
 | false =>
  rw [hb] at hW;obtain ⟨ds,⟨c1,c2,c3,c4⟩,rows⟩:=c;refine Ae Ah Tryz.func11 (by decide +kernel) rfl [1,2,3,4] rfl rfl ?_;refine mg [] rfl (by simp) ?_;refine Ac rfl (λ_=>hW) (by simp) ?_;refine mg [] rfl (by simp) ?_;refine Aa rfl (λh=>?_) (λh=>by simp at h);refine md [] rfl (by simp) ?_;exact Ab ⟨_,rfl,tV rfl,trivial⟩
 | true =>
  rw [hb] at hW;have hU:=KD c (AB (Ds c.datas)) (RowsOk.of hb).len (-1) (by omega) (by omega);obtain ⟨hL1,hL2⟩:=Mn c hb 0 (by omega) _ _ (MOk.of hb) (MOk.of hb) (Ei _ _) (-1);have hFd:=P9 (Db c (As c.type) (-1)) λv hv=>(hL2 v hv).2.2;clear hL2;simp only [cond_true];have hfr:∃a b,Ja (Db c (As c.type) (-1)) = .tup [.agg a,.int .i64 b]/\a.length=4:=⟨_,_,rfl,by simp⟩
  obtain ⟨fa,fb,hfe,hfl⟩:=hfr;rw [hfe] at hFd ⊢;generalize Db c (As c.type) (-1)=R at *;have hrf:=Gl R;obtain ⟨a1,a2,a3,a4,rfl⟩:∃a1 a2 a3 a4,fa=[a1,a2,a3,a4]:=by
   match fa,hfl with
   | [a1,a2,a3,a4],_=>exact ⟨_,_,_,_,rfl⟩
  obtain ⟨ds,⟨c1,c2,c3,c4⟩,rows⟩:=c;refine Ae Ah Tryz.func11 (by decide +kernel) rfl [1,2,3,4] rfl rfl ?_;refine mg [] rfl (by simp) ?_;refine Ac rfl (λ_=>hW) (by simp) ?_;refine mg [] rfl (by simp) ?_;refine Aa rfl (λh=>by simp at h) (λh=>?_);refine md [] rfl (by simp) ?_;refine Az (fr:=[3]) [] [(2,3)] rfl (by simp) hF trivial rfl rfl rfl rfl ?_;refine mg [] rfl (by simp) ?_;refine Ac rfl (λ_=>hU) (by simp) ?_;refine mg [] rfl (by simp) ?_;refine Az (fr:=[]) [(3,1)] [] rfl (by simp) hL1 ⟨⟨rfl,rfl,rfl⟩,trivial⟩ rfl rfl rfl rfl ?_;refine mg [] rfl (by simp) ?_;refine Ac rfl (λ_=>hFd) (by simp) ?_;refine mg [] rfl (by simp) ?_;exact Ab ⟨_,rfl,tV rfl,trivial⟩
theorem Nv (r:Option Ty):∃a1 a2 a3 a4 b,Ja r = .tup [.agg [a1,a2,a3,a4],.int .i64 b]:=by
 unfold Ja;generalize r.getD zT=t;obtain ⟨a,b,c,d⟩:=t;exact ⟨_,_,_,_,_,rfl⟩
theorem Kj {c:Cse} {row:Int} (h:CT c row=true):0<=row/\row<c.rows.length:=by
 simpa [CT] using h
set_option maxHeartbeats 1000000 in
theorem RZ (c:Cse) (row:Int):Ak Tryz.prog 18 [.agg (dCse c),.int .i64 row] (bif Bz c&&CT c row then Ja (Db c (As c.type) row) else .tup [.agg (Al zT),.int .i64 2]):=by
 have hW:=EI c;have hF:=G0 (AL c (AB (Ds c.datas))) c.type;have hT:=O2 c row;rw [show (decide (0<=row)&&decide (row<c.rows.length))=CT c row from rfl] at hT;cases hb:Bz c with
 | false =>
  rw [hb] at hW;obtain ⟨ds,⟨c1,c2,c3,c4⟩,rows⟩:=c;refine Ae Ah Tryz.func18 (by decide +kernel) rfl [1,2,3,4] rfl rfl ?_;refine mg [] rfl (by simp) ?_;refine Ac rfl (λ_=>hW) (by simp) ?_;refine mg [] rfl (by simp) ?_;refine Ac (v:=.bool true) rfl (λh=>by simp [Ag] at h) (by simp [Ag]) ?_;refine mg [] rfl (by simp) ?_;refine Aa rfl (λh=>?_) (λh=>by simp at h);refine md [] rfl (by simp) ?_;exact Ab ⟨_,rfl,tV rfl,trivial⟩
 | true =>
 rw [hb] at hW;cases ht:CT c row with
 | false =>
  rw [ht] at hT;obtain ⟨ds,⟨c1,c2,c3,c4⟩,rows⟩:=c;refine Ae Ah Tryz.func18 (by decide +kernel) rfl [1,2,3,4] rfl rfl ?_;refine mg [] rfl (by simp) ?_;refine Ac rfl (λ_=>hW) (by simp) ?_;refine mg [] rfl (by simp) ?_;refine Ac rfl (λ_=>hT) (by simp [Ag]) ?_;refine mg [] rfl (by simp) ?_;refine Aa rfl (λh=>?_) (λh=>by simp at h);refine md [] rfl (by simp) ?_;exact Ab ⟨_,rfl,tV rfl,trivial⟩
 | true =>
  rw [ht] at hT;obtain ⟨r1,r2⟩:=Kj ht;have hU:=KD c (AB (Ds c.datas)) (RowsOk.of hb).len row (by omega) r2;obtain ⟨hL1,hL2⟩:=Mn c hb 0 (by omega) _ _ (MOk.of hb) (MOk.of hb) (Ei _ _) row;have hFd:=P9 (Db c (As c.type) row) λv hv=>(hL2 v hv).2.2;clear hL2;simp only [Bool.and_self,cond_true];obtain ⟨a1,a2,a3,a4,b,hfe⟩:=Nv (Db c (As c.type) row);rw [hfe] at hFd ⊢;generalize Db c (As c.type) row=R at *;obtain ⟨ds,⟨c1,c2,c3,c4⟩,rows⟩:=c;refine Ae Ah Tryz.func18 (by decide +kernel) rfl [1,2,3,4] rfl rfl ?_;refine mg [] rfl (by simp) ?_;refine Ac rfl (λ_=>hW) (by simp) ?_;refine mg [] rfl (by simp) ?_;refine Ac rfl (λ_=>hT) (by simp [Ag]) ?_;refine mg [] rfl (by simp) ?_
  refine Aa rfl (λh=>by simp at h) (λh=>?_);refine md [] rfl (by simp) ?_;refine Az (fr:=[3]) [] [(2,3)] rfl (by simp) hF trivial rfl rfl rfl rfl ?_;refine mg [] rfl (by simp) ?_;refine Ac rfl (λ_=>hU) (by simp) ?_;refine mg [] rfl (by simp) ?_;refine Az (fr:=[]) [(3,1)] [] rfl (by simp) hL1 ⟨⟨rfl,rfl,rfl⟩,trivial⟩ rfl rfl rfl rfl ?_;refine mg [] rfl (by simp) ?_;refine Ac rfl (λ_=>hFd) (by simp) ?_;refine mg [] rfl (by simp) ?_;exact Ab ⟨_,rfl,tV rfl,trivial⟩
def UU (c:Cse) (a b:Int):Option Ty:=match c.rows[a.toNat]?,c.rows[b.toNat]? with
 | some p,some q=>LB c p q
 | _,_=>none
theorem fP (c:Cse) (h:Bz c=true) (p q:Ty) (hp:p∈c.rows) (hq:q∈c.rows) :
  Bb Tryz.prog 57 [.imm (AL c (AB (Ds c.datas))),.hv 1 0,.imm (.sl (BW [(p,1),(q,1)]))] [(1,some (.hp (Hb (As c.type))))] (.ret (.imm (.agg (FG (LB c p q)))) [])/\∀v,LB c p q=some v->MK c.datas c.type v:=by
 have ho:=OkW.of h;have hr:=RowsOk.of h;have hm:=MOk.of h;have w1:II c.datas c.type [(p,1),(q,1)]:=λx hx=>by
  rcases List.mem_cons.1 hx with rfl | hx
  ·exact hr.pat p hp
  ·rw [List.mem_singleton.1 hx];exact hr.pat q hq
 have w2:F6 [(p,1),(q,1)]<60:=by
  have:=(hr.pat p hp).2.2;have:=(hr.pat q hq).2.2;simp [F6];omega
 obtain ⟨v1,v2⟩:=Kk ho (by omega) hm w1 w2;have hu:=Gw c.datas (As c.type) [(p,1),(q,1)];rw [show FK c.datas (As c.type) [(p,1),(q,1)]=LB c p q from rfl] at v1 v2;have hb:∀y∈[(p,(1:Int)),(q,1)],y.2=0\/y.2=1:=λy hy=>by
  rcases List.mem_cons.1 hy with rfl | hy
  ·exact .inr rfl
  ·rw [List.mem_singleton.1 hy];exact .inr rfl
 have hS:=Rd c ho (CO h).2.2.1 60 60 0 (Nat.le_refl _) (As c.type) (As c.type) [(p,1),(q,1)] (LB c p q) (by omega) hm hm (Ei _ _) w1 hb (by simp) (by omega);exact ⟨hS v1,v2⟩
set_option maxHeartbeats 2000000 in
theorem XL (c:Cse) (a b:Int):Ak Tryz.prog 19 [.agg (dCse c),.int .i64 a,.int .i64 b] (bif Bz c&&CT c a&&CT c b then Ja (UU c a b) else .tup [.agg (Al zT),.int .i64 2]):=by
 have hW:=EI c;have hF:=G0 (AL c (AB (Ds c.datas))) c.type;have hT:=λrow=>O2 c row;have hT:∀row,Ak Tryz.prog 67 [.agg (dCse c),.int .i64 row] (.bool (CT c row)):=λrow=>hT row;cases hb:Bz c with
 | false =>
  rw [hb] at hW;obtain ⟨ds,⟨c1,c2,c3,c4⟩,rows⟩:=c;refine Ae Ah Tryz.func19 (by decide +kernel) rfl [1,2,3,4] rfl rfl ?_;refine mg [] rfl (by simp) ?_;refine Ac rfl (λ_=>hW) (by simp) ?_;refine mg [] rfl (by simp) ?_;refine Ac (v:=.bool true) rfl (λh=>by simp [Ag] at h) (by simp [Ag]) ?_;refine mg [] rfl (by simp) ?_;refine Ac (v:=.bool true) rfl (λh=>by simp [Ag] at h) (by simp [Ag]) ?_;refine mg [] rfl (by simp) ?_;refine Aa rfl (λh=>?_) (λh=>by simp at h);refine md [] rfl (by simp) ?_;exact Ab ⟨_,rfl,tV rfl,trivial⟩
 | true =>
 rw [hb] at hW;have ha:=hT a;have hbb:=hT b;cases hta:CT c a with
 | false =>
  rw [hta] at ha;obtain ⟨ds,⟨c1,c2,c3,c4⟩,rows⟩:=c;refine Ae Ah Tryz.func19 (by decide +kernel) rfl [1,2,3,4] rfl rfl ?_;refine mg [] rfl (by simp) ?_;refine Ac rfl (λ_=>hW) (by simp) ?_;refine mg [] rfl (by simp) ?_;refine Ac rfl (λ_=>ha) (by simp [Ag]) ?_;refine mg [] rfl (by simp) ?_;refine Ac (v:=.bool true) rfl (λh=>by simp [Ag] at h) (by simp [Ag]) ?_;refine mg [] rfl (by simp) ?_;refine Aa rfl (λh=>?_) (λh=>by simp at h);refine md [] rfl (by simp) ?_;exact Ab ⟨_,rfl,tV rfl,trivial⟩
 | true =>
 rw [hta] at ha;cases htb:CT c b with
 | false =>
  rw [htb] at hbb;obtain ⟨ds,⟨c1,c2,c3,c4⟩,rows⟩:=c;refine Ae Ah Tryz.func19 (by decide +kernel) rfl [1,2,3,4] rfl rfl ?_;refine mg [] rfl (by simp) ?_;refine Ac rfl (λ_=>hW) (by simp) ?_;refine mg [] rfl (by simp) ?_;refine Ac rfl (λ_=>ha) (by simp [Ag]) ?_;refine mg [] rfl (by simp) ?_;refine Ac rfl (λ_=>hbb) (by simp [Ag]) ?_;refine mg [] rfl (by simp) ?_;refine Aa rfl (λh=>?_) (λh=>by simp at h);refine md [] rfl (by simp) ?_;exact Ab ⟨_,rfl,tV rfl,trivial⟩
 | true =>
  rw [htb] at hbb;obtain ⟨r1,r2⟩:=Kj hta;obtain ⟨s1,s2⟩:=Kj htb;obtain ⟨p,hp⟩:=Am (l:=c.rows) (i:=a.toNat) (by omega);obtain ⟨q,hq⟩:=Am (l:=c.rows) (i:=b.toNat) (by omega);have er:UU c a b=LB c p q:=by simp only [UU,hp,hq]
  rw [er];obtain ⟨hL1,hL2⟩:=fP c hb p q (List.mem_of_getElem? hp) (List.mem_of_getElem? hq);have hFd:=P9 (LB c p q) λv hv=>(hL2 v hv).2.2;clear hL2 er;simp only [Bool.and_self,cond_true];obtain ⟨a1,a2,a3,a4,b0,hfe⟩:=Nv (LB c p q);rw [hfe] at hFd ⊢;generalize LB c p q=R at *;obtain ⟨ds,⟨c1,c2,c3,c4⟩,rows⟩:=c;simp only at hp hq;obtain ⟨p1,p2,p3,p4⟩:=p;obtain ⟨q1,q2,q3,q4⟩:=q;refine Ae Ah Tryz.func19 (by decide +kernel) rfl [1,2,3,4] rfl rfl ?_;refine mg [] rfl (by simp) ?_;refine Ac rfl (λ_=>hW) (by simp) ?_;refine mg [] rfl (by simp) ?_;refine Ac rfl (λ_=>ha) (by simp [Ag]) ?_;refine mg [] rfl (by simp) ?_;refine Ac rfl (λ_=>hbb) (by simp [Ag]) ?_;refine mg [] rfl (by simp) ?_
  refine Aa rfl (λh=>by simp at h) (λh=>?_);refine md [] rfl (by simp) ?_;refine BT [] [(2,3)] [] (fr:=[3]) (nm:=[3]) rfl trivial (by simp) hF trivial rfl trivial rfl rfl rfl ?_;refine mg [] rfl (by simp) ?_;refine mi rfl (c:=Al (.mk p1 p2 p3 p4)) (λ_=>⟨r1,by simpa using Av hp,by simp⟩) (by simp) ?_;refine mg [] rfl (by simp) ?_;refine mi rfl (c:=Al (.mk q1 q2 q3 q4)) (λ_=>⟨s1,by simpa using Av hq,by simp⟩) (by simp) ?_;refine mg [] rfl (by simp) ?_;refine BT [(3,1)] [] [] (fr:=[]) (nm:=[3]) rfl trivial (by simp) hL1 ⟨⟨rfl,rfl,rfl⟩,trivial⟩ rfl trivial rfl rfl rfl ?_;refine mg [] rfl (by simp) ?_;refine Ac rfl (λ_=>hFd) (by simp) ?_;refine mg [] rfl (by simp;rfl) ?_
  exact Ab ⟨_,rfl,tV rfl,trivial⟩
set_option maxHeartbeats 1000000 in
theorem Qf (c:Cse):Ak Tryz.prog 12 [.agg (dCse c)] (bif Bz c then .tup [.sl (AB (Cx c c.rows.length)),.int .i64 0] else .tup [.sl [],.int .i64 2]):=by
 have hW:=EI c;have hF:=G0 (AL c (AB (Ds c.datas))) c.type;cases hb:Bz c with
 | false =>
  rw [hb] at hW;obtain ⟨ds,⟨c1,c2,c3,c4⟩,rows⟩:=c;refine Ae Ah Tryz.func12 (by decide +kernel) rfl [1,2,3,4] rfl rfl ?_;refine mg [] rfl (by simp) ?_;refine Ac rfl (λ_=>hW) (by simp) ?_;refine mg [] rfl (by simp) ?_;refine Aa rfl (λh=>?_) (λh=>by simp at h);refine md [] rfl (by simp) ?_;exact Ab ⟨_,rfl,tV rfl,trivial⟩
 | true =>
  rw [hb] at hW;have hl:=(RowsOk.of hb).len;have hU:=λrow h1 h2=>KD c (AB (Ds c.datas)) (RowsOk.of hb).len row h1 h2;have hL:=λrow=>(Mn c hb 0 (by omega) _ _ (MOk.of hb) (MOk.of hb) (Ei _ _) row).1;have hst:∀i,Cx c (i+1)=Cx c i++(if (Db c (As c.type) i).isSome then [] else [(i:Int)]):=λi=>rfl;have hul:=GD c;have h0:Cx c 0=[]:=rfl;simp only [cond_true];generalize Cx c=U at *;generalize Db c (As c.type)=L at *;obtain ⟨ds,⟨c1,c2,c3,c4⟩,rows⟩:=c;simp only at hl hst hU ⊢;refine Ae Ah Tryz.func12 (by decide +kernel) rfl [1,2,3,4,5,6] rfl rfl ?_;refine mg [] rfl (by simp) ?_;refine Ac rfl (λ_=>hW) (by simp) ?_;refine mg [] rfl (by simp) ?_;refine Aa rfl (λh=>by simp at h) (λh=>?_)
  refine md [] rfl (by simp) ?_;refine Ct (e:=3) (sz:=1) 6 2 (by decide) rfl ?_;have er:∀a b,AB (a++b)=AB a++AB b:=λa b=>by simp [AB]
  refine Aj (λi:Nat=>[(19,.imm (.int .i64 i)),(18,.imm (.int .i64 rows.length)),(6,.own 2 (AB (U i)).length),(4,.imm (AL ⟨ds,.mk c1 c2 c3 c4,rows⟩ (AB (Ds ds)))),(1,.ref 1 0)]) (λi=>[(1,some (.immb 29 6 (dCse ⟨ds,.mk c1 c2 c3 c4,rows⟩))),(2,some (.row 3 1 (AB (U i))))]) [3,4,5,6] (λi=>rows.length-i)
   (λi=>i<=rows.length) 0 (Nat.zero_le _) ⟨rfl,At (by simp),by rw [h0];rfl,rfl,rfl,trivial⟩ ⟨rfl,by rw [h0];rfl,trivial⟩ rfl λi hi ih=>?_
  refine md [] rfl (by simp) ?_;refine Aa rfl (λh=>?_) (λh=>?_)
  ·simp at h;have hUi:=hU i (by omega) (by omega);have hLi:=hL i;have hih:=ih (i+1) (by omega) (by omega);rw [hst,er] at hih;have hll:(AB (U i)).length<=5:=by have:=hul i;simp;omega
   generalize AB (U i)=l at *;refine md [] rfl (by simp) ?_;refine Az (fr:=[3]) [] [(2,3)] rfl (by simp) hF trivial rfl rfl rfl rfl ?_;refine mg [] rfl (by simp) ?_;refine Ac rfl (λ_=>hUi) (by simp) ?_;refine mg [] rfl (by simp) ?_;refine Az (fr:=[]) [(3,1)] [] rfl (by simp) hLi ⟨⟨rfl,rfl,rfl⟩,trivial⟩ rfl rfl rfl rfl ?_;cases hLv:L i with
   | none =>
    rw [hLv] at hih;simp only [Option.isSome_none,Bool.false_eq_true,if_false] at hih;refine mg [] rfl (by simp) ?_;refine Aa rfl (λh=>?_) (λh=>by simp at h);refine md [] rfl (by simp) ?_;refine Bp Ah rfl ⟨by simp,by simp [maxLen] at hll ⊢;omega,by simp at hll ⊢;omega,trivial⟩ ?_;refine mg [] rfl (by simp) ?_;refine A3 2 4 rfl ?_;exact Ad hih ⟨At (Bv (by omega) (by omega)),rfl,by simp only [List.length_append];rfl,rfl,rfl,trivial⟩ ⟨rfl,rfl,trivial⟩ rfl
   | some v =>
    rw [hLv] at hih;simp only [Option.isSome_some,if_true,show AB []=[] from rfl,List.append_nil] at hih;obtain ⟨v1,v2,v3,v4⟩:=v;refine mg [] rfl (by simp) ?_;refine Aa rfl (λh=>by simp at h) (λh=>?_);refine md [] rfl (by simp) ?_;exact Ad hih ⟨At (Bv (by omega) (by omega)),rfl,rfl,rfl,rfl,trivial⟩ ⟨rfl,rfl,trivial⟩ rfl
  ·simp at h;refine Ar rfl ?_;refine AZ 2 rfl ?_;refine md [] rfl (by simp) ?_;rw [show i=rows.length by omega];exact Ab ⟨_,rfl,tV rfl,trivial⟩
end Go.Hk
namespace Go.Hk
section
variable {P:Program} {n:Nat} {F:List Nat} {Q:DQ} {tt:TT} {env env':Env} {st st':St} {ids ids':List Nat} {k todo todo':List DI} {I:Imm} {μ:Mu} {w w':World} {a:Act}
theorem Hc:∀{ds:List D} {xs:List V},EL ds=some xs->ds.length=xs.length
 | [],xs,h=>by cases h;rfl
 | d::r,xs,h=>by
  unfold EL at h
  split at h
  ·rename_i e;cases e
  ·rename_i x r' e;cases e
   split at h
   ·rename_i ys hy;cases h;simp [Hc hy]
   ·cases h
  ·rename_i r' e;cases e
   split at h
   ·rename_i ys hy;cases h;simp [Hc hy]
   ·cases h
  ·cases h
theorem cU (k:Nat) {t:TypeId} {sz:Nat} {ds:List D} (xs:List V) (hk:lk st k=some (some (.cells t sz ds))) (hcl:EL ds=some xs) (h:DGo P n F Q todo env ((k,some (.immb t sz xs))::st) ids):DGo P n F Q todo env st ids:=by
 refine CE λI μ a w hc=>?_;obtain ⟨p1,p2⟩:=hc.toStRep.retell (st1:=(k,some (.immb t sz xs))::st) (λi bb hlb=>by
  rcases Ax.1 hlb with ⟨rfl,rfl⟩ | ⟨_,h2⟩
  ·refine ⟨_,hk,λgb hb=>?_⟩;obtain ⟨hs,b,us,e1,e2,e3,e4⟩:=hb;exact ⟨by rw [<- Hc hcl,hs],b,us,e1,e2,EK hcl e3,e4⟩
  ·exact ⟨bb,h2,λ_ h=>h⟩)
 exact ⟨I,μ,env,_,ids,p1,hc.env,p2,.refl _ _,h⟩
end
end Go.Hk
namespace Go.Hk
open Go.Proofs
def Lo (row:Int):List V:=[.int .i64 row,.sl [],.sl [],.sl []]
@[simp] theorem leafV_length (row:Int):(Lo row).length=4:=rfl
theorem Wl (row:Int):Ak Tryz.prog 134 [.agg (Lo row),.int .i64 400,.int .i64 100] (.int .i64 399):=by
 refine Ae Ah Tryz.func134 (by decide +kernel) rfl [1,2,3] rfl rfl ?_;refine mg [] rfl (by simp) ?_;refine Aa rfl (λh=>by simp at h) (λh=>?_);refine md [] rfl (by simp) ?_;refine Aj (λ_:Unit=>[(20,.imm (.int .i64 0)),(19,.imm (.int .i64 0)),(1,.imm (.int .i64 399))]) (λ_=>[]) [2,3] (λ_=>0) (λ_=>True) () trivial ⟨rfl,rfl,At rfl,trivial⟩ trivial rfl λ_ _ _=>?_;refine md [] rfl (by simp) ?_;refine Aa rfl (λh=>by simp at h) (λh=>?_);refine Ar rfl ?_;refine md [] rfl (by simp) ?_;exact Ab ⟨_,rfl,tV rfl,trivial⟩
theorem V0 (c:Cse) (sz:List (List V)) (row:Int) (m:Mi):Bb Tryz.prog 135 [.imm (AL c sz),.imm (.agg (Lo row)),.hv 1 0] [(1,some (.hp (Hb m)))] (.ret (.imm (.bool (decide (-1<=row)&&decide (row<c.rows.length)))) []):=by
 obtain ⟨ds,⟨c1,c2,c3,c4⟩,rows⟩:=c;refine Ae Ah Tryz.func135 (by decide +kernel) rfl [2,3,4,5] rfl rfl ?_;refine md [] rfl (by simp) ?_;refine Aa rfl (λh=>?_) (λh=>by exfalso;simp at h;exact h (by decide));refine md [] rfl (by simp;rfl) ?_;refine Ab ⟨_,rfl,tV (congrArg _ ?_),trivial⟩;simp
theorem Sz (c:Cse) (hb:Bz c=true) (row:Int) (h1 : -1<=row) (h2:row<c.rows.length):Ak Tryz.prog 87 [.agg (dCse c),.agg (Lo row)] (.tup [AL c (AB (Ds c.datas)),.int .i64 0]):=by
 have hW:=EI c;rw [hb] at hW;have hF:=G0 (AL c (AB (Ds c.datas))) c.type;have hH:=Wl row;have hR:=V0 c (AB (Ds c.datas)) row (As c.type);rw [show (decide (-1<=row)&&decide (row<c.rows.length))=true by simp [h1,h2]] at hR;obtain ⟨ds,⟨c1,c2,c3,c4⟩,rows⟩:=c;refine Ae Ah Tryz.func87 (by decide +kernel) rfl [1,2,3,4] rfl rfl ?_;refine mg [] rfl (by simp) ?_;refine Ac rfl (λ_=>hW) (by simp) ?_;refine mg [] rfl (by simp) ?_;refine Ac rfl (λ_=>hH) (by simp [Ag]) ?_;refine mg [] rfl (by simp) ?_;refine BT [] [(2,3)] [] (fr:=[3]) (nm:=[3]) rfl rfl (by simp [Ag]) hF trivial rfl trivial rfl rfl rfl ?_;refine mg [] rfl (by simp) ?_
 refine BT [(3,1)] [] [] (fr:=[]) (nm:=[3]) rfl rfl (by simp [Ag]) hR ⟨⟨rfl,rfl,rfl⟩,trivial⟩ rfl trivial rfl rfl rfl ?_;refine mg [] rfl (by simp;rfl) ?_;refine Aa rfl (λh=>by simp at h) (λh=>?_);refine md [] rfl (by simp) ?_;exact Ab ⟨_,rfl,tV rfl,trivial⟩
def D8 (c:Cse) (row:Int):Nat->Option Ty
 | 0=>none
 | k+1=>if (k:Int)-1=row then D8 c row k else Gj c.datas (D8 c row k) (Db c (As c.type) ((k:Int)-1))
theorem KL {c:Cse} (h:Bz c=true) (row:Int):∀k v,D8 c row k=some v->MK c.datas c.type v
 | 0,v,hv=>by cases hv
 | k+1,v,hv=>by
  simp only [D8] at hv
  split at hv
  ·exact KL h row k v hv
  ·rcases WP (ds:=c.datas) (D8 c row k) (Db c (As c.type) ((k:Int)-1)) with e | e
   ·exact KL h row k v (by rw [<- e];exact hv)
   ·exact (Mn c h 0 (by omega) _ _ (MOk.of h) (MOk.of h) (Ei _ _) _).2 v (by rw [<- e];exact hv)
set_option maxHeartbeats 2000000 in
theorem UW (c:Cse) (hb:Bz c=true) (row:Int):Bb Tryz.prog 99 [.imm (AL c (AB (Ds c.datas))),.imm (.agg (Lo row)),.hv 1 0] [(1,some (.hp (Hb (As c.type))))] (.ret (.imm (.agg (FG (D8 c row (c.rows.length+1))))) []):=by
 have hl:=(RowsOk.of hb).len;have hU:=λrow h1 h2=>KD c (AB (Ds c.datas)) (RowsOk.of hb).len row h1 h2;have hL:=λrow=>(Mn c hb 0 (by omega) _ _ (MOk.of hb) (MOk.of hb) (Ei _ _) row).1;have hLv:=λrow=>(Mn c hb 0 (by omega) _ _ (MOk.of hb) (MOk.of hb) (Ei _ _) row).2;have hcp:=λx=>Og c.datas 0 (by omega) (As c.type) x (MOk.of hb).wf;have hsv:=KL hb row;have hso:=λa b ha hbb=>QW c (AB (Ds c.datas)) (OkW.of hb) (CO hb).2.2.1 a b ha hbb;have hok:∀v,MK c.datas c.type v->Rq c v:=λv h=>IH rfl h;have hst:∀k,D8 c row (k+1)=if (k:Int)-1=row then D8 c row k else Gj c.datas (D8 c row k) (Db c (As c.type) ((k:Int)-1)):=λk=>rfl
 have h0:D8 c row 0=none:=rfl;generalize D8 c row=S at *;generalize As c.type=fr at *;generalize Db c fr=L at *;obtain ⟨ds,⟨c1,c2,c3,c4⟩,rows⟩:=c;simp only at hl hU hst hsv hLv hso ⊢;refine Ae Ah Tryz.func99 (by decide +kernel) rfl [2,3,4,5,6,7,8,9,10] rfl rfl ?_;refine Jf 1 2 (λob:Nat=>[ptr ob]) (λob=>AU fr ob) rfl (λvs I w bs h=>let ⟨ob,F,e1,e2,e3⟩:=h;⟨ob,e1,F,e2,e3⟩) λob=>?_;refine md [] rfl (by simp) ?_;refine Aa rfl (λh=>?_) (λh=>by exfalso;simp at h);refine md [] rfl (by simp) ?_;refine cU 5 [.int .i64 0,.int .i64 0,.str [],.sl [],.bool false] rfl rfl ?_
 refine Aj (λk:Nat=>[(8,.imm (.int .i64 ((k:Int)-1))),(7,.ref 5 0),(6,.ref 4 0),(4,.ref 3 0),(2,.raw (ptr ob)),(0,.imm (AL ⟨ds,.mk c1 c2 c3 c4,rows⟩ (AB (Ds ds))))])
  (λk=>[(5,some (.immb 107 5 (FG (S k)))),(3,some (.immb 68 4 (Lo row))),(4,some (.cells 107 5 [.imm (.int .i64 0),.imm (.int .i64 0),.imm (.str []),.nils,.imm (.bool false)])),(2,some (.hp (AU fr ob)))]) [6,7,8,9,10] (λk=>rows.length+1-k)
  (λk=>k<=rows.length+1) 0 (Nat.zero_le _) ⟨At (by simp),rfl,rfl,rfl,rfl,rfl,trivial⟩ ⟨by rw [h0];rfl,rfl,rfl,rfl,trivial⟩ rfl λk hk ih=>?_
 refine md [] rfl (by simp) ?_;refine Aa rfl (λh=>?_) (λh=>?_)
 ·have hlt:(k:Int)-1<rows.length:=by simpa using h
  have hih:=ih (k+1) (by omega) (by omega);have hrf:=Gl (S k);refine md [] rfl (by simp) ?_;by_cases e:(k:Int)-1=row
  ·refine Aa rfl (λh=>by exfalso;simp [e] at h) (λh=>?_);refine md [] rfl (by simp) ?_;rw [hst k,if_pos e] at hih;exact Ad hih ⟨At (by rw [Bv (by omega) (by omega)];omega),rfl,rfl,rfl,rfl,rfl,trivial⟩ ⟨rfl,rfl,rfl,rfl,trivial⟩ rfl
  ·refine Aa rfl (λh=>?_) (λh=>by exfalso;simp at h;exact e h);have hUi:=hU ((k:Int)-1) (by omega) hlt;have hLi:=hL ((k:Int)-1);have hsoi:=hso (S k) (L ((k:Int)-1)) (λv hv=>hok v (hsv k v hv)) (λv hv=>hok v (hLv _ v hv));rw [hst k,if_neg e] at hih;generalize L ((k:Int)-1)=Lk at *;generalize S k=Sk at *;generalize Gj ds Sk Lk=R at *;refine md [] rfl (by simp) ?_;refine BT [(2,1)] [(3,6),(2,7)] [] (fr:=[6,7]) (nm:=[6,7,2]) rfl trivial (by simp) (hcp ob) ⟨⟨rfl,rfl,rfl⟩,trivial⟩ rfl trivial rfl rfl rfl ?_;refine mg [] rfl (by simp) ?_;refine Ac rfl (λ_=>hUi) (by simp) ?_;refine mg [] rfl (by simp) ?_
   refine BT [(7,1)] [] [] (fr:=[]) (nm:=[7]) rfl trivial (by simp) hLi ⟨⟨rfl,rfl,rfl⟩,trivial⟩ rfl trivial rfl rfl rfl ?_;refine mg [] rfl (by simp) ?_;refine Ac rfl (λ_=>hsoi) (by simp) ?_;refine mg [] rfl (by simp;rfl) ?_;refine A3 6 2 rfl ?_;exact Ad hih ⟨At (by rw [Bv (by omega) (by omega)];omega),rfl,rfl,rfl,rfl,rfl,trivial⟩ ⟨rfl,rfl,rfl,rfl,trivial⟩ rfl
 ·have hlt:¬(k:Int)-1<rows.length:=by simpa using h
  have hrf:=Gl (S k);refine Ar rfl ?_;rw [show rows.length+1=k by omega];refine md [] rfl (by simp) ?_;exact Ab ⟨_,rfl,tV rfl,trivial⟩
set_option maxHeartbeats 1000000 in
theorem NB (c:Cse) (hb:Bz c=true) (row:Int) (h1 : -1<=row) (h2:row<c.rows.length):Ak Tryz.prog 50 [.agg (dCse c),.agg (Lo row)] (.tup [.agg (Al ((D8 c row (c.rows.length+1)).getD zT)),.int .i64 (if (D8 c row (c.rows.length+1)).isSome then 7 else 0)]):=by
 have hP:=Sz c hb row h1 h2;have hF:=G0 (AL c (AB (Ds c.datas))) c.type;have hA:=UW c hb row;have hv:=KL hb row (c.rows.length+1);generalize D8 c row (c.rows.length+1)=R at *;cases R with
 | none =>
  obtain ⟨ds,⟨c1,c2,c3,c4⟩,rows⟩:=c;refine Ae Ah Tryz.func50 (by decide +kernel) rfl [1,2,3,4,5,6] rfl rfl ?_;refine mg [] rfl (by simp) ?_;refine Ac rfl (λ_=>hP) (by simp) ?_;refine mg [] rfl (by simp) ?_;refine Aa rfl (λh=>by simp at h) (λh=>?_);refine md [] rfl (by simp) ?_;refine BT [] [(2,4)] [] (fr:=[4]) (nm:=[4]) rfl trivial (by simp) hF trivial rfl trivial rfl rfl rfl ?_;refine mg [] rfl (by simp) ?_;refine BT [(4,1)] [] [] (fr:=[]) (nm:=[4]) rfl trivial (by simp) hA ⟨⟨rfl,rfl,rfl⟩,trivial⟩ rfl trivial rfl rfl rfl ?_;refine mg [] rfl (by simp;rfl) ?_;refine Aa rfl (λh=>?_) (λh=>by simp at h);refine md [] rfl (by simp) ?_;exact Ab ⟨_,rfl,tV rfl,trivial⟩
 | some v =>
  have hc:=In v (hv v rfl).2.2;obtain ⟨v1,v2,v3,v4⟩:=v;obtain ⟨ds,⟨c1,c2,c3,c4⟩,rows⟩:=c;refine Ae Ah Tryz.func50 (by decide +kernel) rfl [1,2,3,4,5,6] rfl rfl ?_;refine mg [] rfl (by simp) ?_;refine Ac rfl (λ_=>hP) (by simp) ?_;refine mg [] rfl (by simp) ?_;refine Aa rfl (λh=>by simp at h) (λh=>?_);refine md [] rfl (by simp) ?_;refine BT [] [(2,4)] [] (fr:=[4]) (nm:=[4]) rfl trivial (by simp) hF trivial rfl trivial rfl rfl rfl ?_;refine mg [] rfl (by simp) ?_;refine BT [(4,1)] [] [] (fr:=[]) (nm:=[4]) rfl trivial (by simp) hA ⟨⟨rfl,rfl,rfl⟩,trivial⟩ rfl trivial rfl rfl rfl ?_;refine mg [] rfl (by simp;rfl) ?_;refine Aa rfl (λh=>by simp at h) (λh=>?_);refine md [] rfl (by simp) ?_
  refine Ac rfl (λ_=>hc) (by simp) ?_;refine mg [] rfl (by simp) ?_;exact Ab ⟨_,rfl,tV rfl,trivial⟩
def KS:Str:=[84,114,101,101]
def Cj:Str:=[76,101,97,102]
def I9:Str:=[78,111,100,101]
def Hf:Str:=[84,119,111]
def KR:Str:=[86,111,105,100]
def iI:Str:=[79,112,116]
def WU:Str:=[78,111,110,101]
def gE:Str:=[83,111,109,101]
def NL (s:Str):Ty:=.mk 8 0 s []
def Q7 (s:Str) (l:List Ty):Ty:=.mk 6 0 s l
def DG (s:Str) (l:List Ty):Ty:=.mk 4 0 s l
def LK:Ty:=.mk 1 0 [] []
def Y3 (s:Str):Ty:=.mk 2 0 s []
def bS (n:Int):Ty:=.mk 3 n [] []
def Hd (n:Int):Ty:=.mk 4 n [] []
def YS (n:Int):Ty:=.mk 1 n [] []
def FF (n:Int):Ty:=.mk 2 n [] []
def dB:Ty:=.mk 2 0 [] []
def cA:Cse:=⟨[⟨KS,[⟨Cj,[]⟩,⟨I9,[NL KS,.mk 1 0 [] [],NL KS]⟩]⟩],NL KS,[Q7 I9 [Q7 Cj [],bS 0,Y3 [120]],Q7 I9 [Y3 [121],bS 1,LK],Q7 Cj []]⟩
def cB:Cse:=⟨[⟨Hf,[⟨Hf,[dB,dB]⟩]⟩],NL Hf,[Q7 Hf [Hd 1,LK],Q7 Hf [LK,Hd 1],Q7 Hf [Hd 0,Hd 0],Y3 [122]]⟩
def cC:Cse:=⟨[⟨KR,[⟨KR,[NL KR]⟩]⟩,⟨iI,[⟨WU,[]⟩,⟨gE,[NL KR]⟩]⟩],NL iI,[Q7 WU []]⟩
def cD (l:List Ty):Cse:=⟨[],dB,l⟩
theorem M1 (s:Str) (l:List Ty):Ak Tryz.prog 93 [.str s,.sl (Bg l)] (.agg (Cw ⟨s,l⟩)):=by
 refine Ae Ah Tryz.func93 (by decide +kernel) rfl [1,2,3] rfl rfl ?_;refine mg [] rfl (by simp) ?_;exact Ab ⟨_,rfl,tV rfl,trivial⟩
theorem G8 (s:Str):Ak Tryz.prog 94 [.str s] (.agg (Al (NL s))):=by
 refine Ae Ah Tryz.func94 (by decide +kernel) rfl [1,2,3] rfl rfl ?_;refine mg [] rfl (by simp) ?_;exact Ab ⟨_,rfl,tV rfl,trivial⟩
theorem GY (s:Str) (l:List Ty):Ak Tryz.prog 95 [.str s,.sl (Bg l)] (.agg (Al (Q7 s l))):=by
 refine Ae Ah Tryz.func95 (by decide +kernel) rfl [1,2,3] rfl rfl ?_;refine mg [] rfl (by simp) ?_;exact Ab ⟨_,rfl,tV rfl,trivial⟩
theorem Fq (s:Str) (l:List Ty):Ak Tryz.prog 45 [.str s,.sl (Bg l)] (.agg (Al (DG s l))):=by
 refine Ae Ah Tryz.func45 (by decide +kernel) rfl [1,2,3] rfl rfl ?_;refine mg [] rfl (by simp) ?_;exact Ab ⟨_,rfl,tV rfl,trivial⟩
theorem NS:Ak Tryz.prog 53 [] (.agg (Al LK)):=by
 refine Ae Ah Tryz.func53 (by decide +kernel) rfl [1,2,3] rfl rfl ?_;refine mg [] rfl (by simp) ?_;exact Ab ⟨_,rfl,tV rfl,trivial⟩
theorem Pd (s:Str):Ak Tryz.prog 97 [.str s] (.agg (Al (Y3 s))):=by
 refine Ae Ah Tryz.func97 (by decide +kernel) rfl [1,2,3] rfl rfl ?_;refine mg [] rfl (by simp) ?_;exact Ab ⟨_,rfl,tV rfl,trivial⟩
theorem Rs (n:Int):Ak Tryz.prog 96 [.int .i64 n] (.agg (Al (bS n))):=by
 refine Ae Ah Tryz.func96 (by decide +kernel) rfl [1,2,3] rfl rfl ?_;refine mg [] rfl (by simp) ?_;exact Ab ⟨_,rfl,tV rfl,trivial⟩
theorem Hr (n:Int):Ak Tryz.prog 52 [.int .i64 n] (.agg (Al (Hd n))):=by
 refine Ae Ah Tryz.func52 (by decide +kernel) rfl [1,2,3] rfl rfl ?_;refine mg [] rfl (by simp) ?_;exact Ab ⟨_,rfl,tV rfl,trivial⟩
theorem QE (n:Int):Ak Tryz.prog 46 [.int .i64 n] (.agg (Al (YS n))):=by
 refine Ae Ah Tryz.func46 (by decide +kernel) rfl [1,2,3] rfl rfl ?_;refine mg [] rfl (by simp) ?_;exact Ab ⟨_,rfl,tV rfl,trivial⟩
theorem PX (n:Int):Ak Tryz.prog 54 [.int .i64 n] (.agg (Al (FF n))):=by
 refine Ae Ah Tryz.func54 (by decide +kernel) rfl [1,2,3] rfl rfl ?_;refine mg [] rfl (by simp) ?_;exact Ab ⟨_,rfl,tV rfl,trivial⟩
theorem kY (l:List Ty):Ak Tryz.prog 51 [.sl (Bg l)] (.agg (dCse (cD l))):=by
 refine Ae Ah Tryz.func51 (by decide +kernel) rfl [1,2,3] rfl rfl ?_;refine mg [] rfl (by simp) ?_;exact Ab ⟨_,rfl,tV rfl,trivial⟩
theorem fY:Ak Tryz.prog 44 [] (.agg (dCse cA)):=by
 refine Ae Ah Tryz.func44 (by decide +kernel) rfl [1,2,3] rfl rfl ?_;refine mg [] rfl (by simp) ?_;refine Ac rfl (λ_=>M1 Cj []) (by simp) ?_;refine mg [] rfl (by simp) ?_;refine Ac rfl (λ_=>G8 KS) (by simp) ?_;refine mg [] rfl (by simp) ?_;refine Ac rfl (λ_=>G8 KS) (by simp) ?_;refine mg [] rfl (by simp) ?_;refine Ac rfl (λ_=>M1 I9 [NL KS,.mk 1 0 [] [],NL KS]) (by simp) ?_;refine mg [] rfl (by simp) ?_;refine Ac rfl (λ_=>GY Cj []) (by simp) ?_;refine mg [] rfl (by simp) ?_;refine Ac rfl (λ_=>Rs 0) (by simp) ?_;refine mg [] rfl (by simp) ?_;refine Ac rfl (λ_=>Pd [120]) (by simp) ?_;refine mg [] rfl (by simp) ?_;refine Ac rfl (λ_=>GY I9 [Q7 Cj [],bS 0,Y3 [120]]) (by simp) ?_
 refine mg [] rfl (by simp) ?_;refine Ac rfl (λ_=>Pd [121]) (by simp) ?_;refine mg [] rfl (by simp) ?_;refine Ac rfl (λ_=>Rs 1) (by simp) ?_;refine mg [] rfl (by simp) ?_;refine Ac rfl (λ_=>NS) (by simp) ?_;refine mg [] rfl (by simp) ?_;refine Ac rfl (λ_=>GY I9 [Y3 [121],bS 1,LK]) (by simp) ?_;refine mg [] rfl (by simp) ?_;refine Ac rfl (λ_=>GY Cj []) (by simp) ?_;refine mg [] rfl (by simp) ?_;refine Ac rfl (λ_=>G8 KS) (by simp) ?_;refine mg [] rfl (by simp;rfl) ?_;exact Ab ⟨_,rfl,tV rfl,trivial⟩
theorem fX:Ak Tryz.prog 49 [] (.agg (dCse cB)):=by
 refine Ae Ah Tryz.func49 (by decide +kernel) rfl [1,2,3,4,5] rfl rfl ?_;refine mg [] rfl (by simp) ?_;refine Ac rfl (λ_=>Hr 1) (by simp) ?_;refine mg [] rfl (by simp) ?_;refine Ac rfl (λ_=>NS) (by simp) ?_;refine mg [] rfl (by simp) ?_;refine Ac rfl (λ_=>GY Hf [Hd 1,LK]) (by simp) ?_;refine mg [] rfl (by simp) ?_;refine Ac rfl (λ_=>NS) (by simp) ?_;refine mg [] rfl (by simp) ?_;refine Ac rfl (λ_=>Hr 1) (by simp) ?_;refine mg [] rfl (by simp) ?_;refine Ac rfl (λ_=>GY Hf [LK,Hd 1]) (by simp) ?_;refine mg [] rfl (by simp) ?_;refine Ac rfl (λ_=>Hr 0) (by simp) ?_;refine mg [] rfl (by simp) ?_;refine Ac rfl (λ_=>Hr 0) (by simp) ?_;refine mg [] rfl (by simp) ?_
 refine Ac rfl (λ_=>GY Hf [Hd 0,Hd 0]) (by simp) ?_;refine mg [] rfl (by simp) ?_;refine Ac rfl (λ_=>Pd [122]) (by simp) ?_;refine mg [] rfl (by simp) ?_;refine Ac rfl (λ_=>M1 Hf [dB,dB]) (by simp) ?_;refine mg [] rfl (by simp) ?_;refine Ac rfl (λ_=>G8 Hf) (by simp) ?_;refine mg [] rfl (by simp) ?_;exact Ab ⟨_,rfl,tV rfl,trivial⟩
theorem C_ok:Ak Tryz.prog 48 [] (.agg (dCse cC)):=by
 refine Ae Ah Tryz.func48 (by decide +kernel) rfl [1,2,3,4,5] rfl rfl ?_;refine mg [] rfl (by simp) ?_;refine Ac rfl (λ_=>G8 KR) (by simp) ?_;refine mg [] rfl (by simp) ?_;refine Ac rfl (λ_=>M1 KR [NL KR]) (by simp) ?_;refine mg [] rfl (by simp) ?_;refine Ac rfl (λ_=>M1 WU []) (by simp) ?_;refine mg [] rfl (by simp) ?_;refine Ac rfl (λ_=>G8 KR) (by simp) ?_;refine mg [] rfl (by simp) ?_;refine Ac rfl (λ_=>M1 gE [NL KR]) (by simp) ?_;refine mg [] rfl (by simp) ?_;refine Ac rfl (λ_=>G8 iI) (by simp) ?_;refine mg [] rfl (by simp) ?_;refine Ac rfl (λ_=>GY WU []) (by simp) ?_;refine mg [] rfl (by simp;rfl) ?_;exact Ab ⟨_,rfl,tV rfl,trivial⟩
def vA:Ty:=DG I9 [DG Cj [],YS 0,DG Cj []]
def wA:Ty:=DG I9 [DG Cj [],YS (-1),DG Cj []]
set_option maxRecDepth 100000
theorem kcA:Bz cA=true:=by kernel_rfl
theorem lC:Bz cB=true:=by kernel_rfl
theorem kcC:Bz cC=true:=by kernel_rfl
theorem kcD:Bz (cD [Hd 1,Hd 0])=true:=by kernel_rfl
theorem kcW:Bz (cD [LK])=true:=by kernel_rfl
theorem iR:Ak Tryz.prog 24 [.agg (dCse cA),.int .i64 0,.agg (Al vA)] (.tup [.sl [.str [120]::Al (DG Cj [])],.int .i64 0]):=by
 have h:=Zs cA 0 vA (by decide);rw [show SA cA 0 vA=([([120],DG Cj [])],0) by kernel_rfl] at h;exact h
theorem iS:Ak Tryz.prog 47 [.agg (dCse cA),.agg (Al (DG Cj []))] (.tup [.int .i64 2,.int .i64 0]):=by
 have h:=Zu cA (DG Cj []);rw [show Ir cA (DG Cj [])=true by kernel_rfl,show Mw (DG Cj []) 0 cA.rows=2 by kernel_rfl] at h;exact h
theorem iQ:Ak Tryz.prog 11 [.agg (dCse cA)] (.tup [.agg (Al wA),.int .i64 0]):=by
 have h:=K6 cA;rw [kcA,show Db cA (As cA.type) (-1)=some wA by kernel_rfl] at h;exact h
theorem iP:Ak Tryz.prog 11 [.agg (dCse cC)] (.tup [.agg (Al zT),.int .i64 5]):=by
 have h:=K6 cC;rw [kcC,show Db cC (As cC.type) (-1)=none by kernel_rfl] at h;exact h
theorem kC:Ak Tryz.prog 18 [.agg (dCse cB),.int .i64 1] (.tup [.agg (Al (DG Hf [FF 0,FF 1])),.int .i64 0]):=by
 have h:=RZ cB 1;rw [lC,show CT cB 1=true by kernel_rfl,show Db cB (As cB.type) 1=some (DG Hf [FF 0,FF 1]) by kernel_rfl] at h;exact h
theorem kB:Ak Tryz.prog 18 [.agg (dCse cB),.int .i64 3] (.tup [.agg (Al zT),.int .i64 5]):=by
 have h:=RZ cB 3;rw [lC,show CT cB 3=true by kernel_rfl,show Db cB (As cB.type) 3=none by kernel_rfl] at h;exact h
theorem kUse:Ak Tryz.prog 12 [.agg (dCse cB)] (.tup [.sl [[.int .i64 3]],.int .i64 0]):=by
 have h:=Qf cB;rw [lC,show Cx cB cB.rows.length=[3] by kernel_rfl] at h;exact h
theorem iT:Ak Tryz.prog 19 [.agg (dCse cB),.int .i64 0,.int .i64 1] (.tup [.agg (Al (DG Hf [FF 1,FF 1])),.int .i64 0]):=by
 have h:=XL cB 0 1;rw [lC,show CT cB 0=true by kernel_rfl,show CT cB 1=true by kernel_rfl,show UU cB 0 1=some (DG Hf [FF 1,FF 1]) by kernel_rfl] at h;exact h
theorem iU:Ak Tryz.prog 19 [.agg (dCse cA),.int .i64 0,.int .i64 1] (.tup [.agg (Al zT),.int .i64 5]):=by
 have h:=XL cA 0 1;rw [kcA,show CT cA 0=true by kernel_rfl,show CT cA 1=true by kernel_rfl,show UU cA 0 1=none by kernel_rfl] at h;exact h
theorem kD:Ak Tryz.prog 50 [.agg (dCse (cD [Hd 1,Hd 0])),.agg (Lo 1)] (.tup [.agg (Al (FF 1)),.int .i64 7]):=by
 have h:=NB (cD [Hd 1,Hd 0]) kcD 1 (by decide) (by decide);rw [show D8 (cD [Hd 1,Hd 0]) 1 ((cD [Hd 1,Hd 0]).rows.length+1)=some (FF 1) by kernel_rfl] at h;exact h
theorem kE:Ak Tryz.prog 50 [.agg (dCse (cD [LK])),.agg (Lo 0)] (.tup [.agg (Al zT),.int .i64 0]):=by
 have h:=NB (cD [LK]) kcW 0 (by decide) (by decide);rw [show D8 (cD [LK]) 0 ((cD [LK]).rows.length+1)=none by kernel_rfl] at h;exact h
theorem Pq (a b:Ty) (h:Rf a b=true):Ak Tryz.prog 38 [.agg (Al a),.agg (Al b)] (.bool true):=by
 have:=Ve a b;rw [h] at this;exact this
set_option maxHeartbeats 2000000 in
theorem YG:Ak Tryz.prog 10 [] (.bool true):=by
 refine Ae Ah Tryz.func10 (by decide +kernel) rfl [1,2,3,4,5,6,7,8,9,10,11,12] rfl rfl ?_;refine mg [] rfl (by simp) ?_;refine Ac rfl (λ_=>fY) (by simp) ?_;refine mg [] rfl (by simp) ?_;refine Ac rfl (λ_=>Fq Cj []) (by simp) ?_;refine mg [] rfl (by simp) ?_;refine Ac rfl (λ_=>QE 0) (by simp) ?_;refine mg [] rfl (by simp) ?_;refine Ac rfl (λ_=>Fq Cj []) (by simp) ?_;refine mg [] rfl (by simp) ?_;refine Ac rfl (λ_=>Fq I9 [DG Cj [],YS 0,DG Cj []]) (by simp) ?_;refine mg [] rfl (by simp) ?_;refine Ac rfl (λ_=>iR) (by simp) ?_;refine mg [] rfl (by simp) ?_;refine Ac rfl (λ_=>fY) (by simp) ?_;refine mg [] rfl (by simp) ?_;refine Ac rfl (λ_=>Fq Cj []) (by simp) ?_;refine mg [] rfl (by simp) ?_
 refine Ac rfl (λ_=>iS) (by simp) ?_;refine mg [] rfl (by simp) ?_;refine Ac rfl (λ_=>fY) (by simp) ?_;refine mg [] rfl (by simp) ?_;refine Ac rfl (λ_=>iQ) (by simp) ?_;refine mg [] rfl (by simp) ?_;refine Ac rfl (λ_=>C_ok) (by simp) ?_;refine mg [] rfl (by simp) ?_;refine Ac rfl (λ_=>iP) (by simp) ?_;refine mg [] rfl (by simp) ?_;refine Ac rfl (λ_=>fX) (by simp) ?_;refine mg [] rfl (by simp) ?_;refine Ac rfl (λ_=>kC) (by simp) ?_;refine mg [] rfl (by simp) ?_;refine Ac rfl (λ_=>fX) (by simp) ?_;refine mg [] rfl (by simp) ?_;refine Ac rfl (λ_=>kB) (by simp) ?_;refine mg [] rfl (by simp) ?_;refine Ac rfl (λ_=>fX) (by simp) ?_;refine mg [] rfl (by simp) ?_;refine Ac rfl (λ_=>kUse) (by simp) ?_
 refine mg [] rfl (by simp) ?_;refine Ac rfl (λ_=>fX) (by simp) ?_;refine mg [] rfl (by simp) ?_;refine Ac rfl (λ_=>iT) (by simp) ?_;refine mg [] rfl (by simp) ?_;refine Ac rfl (λ_=>fY) (by simp) ?_;refine mg [] rfl (by simp) ?_;refine Ac rfl (λ_=>iU) (by simp) ?_;refine mg [] rfl (by simp) ?_;refine Ac rfl (λ_=>Hr 1) (by simp) ?_;refine mg [] rfl (by simp) ?_;refine Ac rfl (λ_=>Hr 0) (by simp) ?_;refine mg [] rfl (by simp) ?_;refine Ac rfl (λ_=>kY [Hd 1,Hd 0]) (by simp) ?_;refine mg [] rfl (by simp) ?_;refine Ac rfl (λ_=>kD) (by simp) ?_;refine mg [] rfl (by simp) ?_;refine Ac rfl (λ_=>NS) (by simp) ?_;refine mg [] rfl (by simp) ?_;refine Ac rfl (λ_=>kY [LK]) (by simp) ?_
 refine mg [] rfl (by simp) ?_;refine Ac rfl (λ_=>kE) (by simp) ?_;refine mg [] rfl (by simp) ?_;refine Aa rfl (λh=>by simp at h) (λh=>?_);refine md [] rfl (by simp) ?_;refine mi rfl (c:=.str [120]::Al (DG Cj [])) (λ_=>⟨by simp,rfl,rfl⟩) (by simp [Ag]) ?_;refine mg [] rfl (by simp) ?_;refine mi rfl (c:=.str [120]::Al (DG Cj [])) (λ_=>⟨by simp,rfl,rfl⟩) (by simp [Ag]) ?_;refine mg [] rfl (by simp) ?_;refine Ac rfl (λ_=>Fq Cj []) (by simp) ?_;refine mg [] rfl (by simp) ?_;refine Ac rfl (λ_=>Pq (DG Cj []) (DG Cj []) rfl) (by simp [Ag]) ?_;refine mg [] rfl (by simp) ?_;refine mi rfl (c:=[.int .i64 3]) (λ_=>⟨by simp,rfl,rfl⟩) (by simp [Ag]) ?_;refine mg [] rfl (by simp;rfl) ?_
 refine Aa rfl (λh=>by simp at h) (λh=>?_);refine md [] rfl (by simp) ?_;refine Ac rfl (λ_=>Fq Cj []) (by simp) ?_;refine mg [] rfl (by simp) ?_;refine Ac rfl (λ_=>QE (-1)) (by simp) ?_;refine mg [] rfl (by simp) ?_;refine Ac rfl (λ_=>Fq Cj []) (by simp) ?_;refine mg [] rfl (by simp) ?_;refine Ac rfl (λ_=>Fq I9 [DG Cj [],YS (-1),DG Cj []]) (by simp) ?_;refine mg [] rfl (by simp) ?_;refine Ac rfl (λ_=>Pq wA (DG I9 [DG Cj [],YS (-1),DG Cj []]) rfl) (by simp) ?_;refine mg [] rfl (by simp) ?_;refine Ac rfl (λ_=>PX 0) (by simp) ?_;refine mg [] rfl (by simp) ?_;refine Ac rfl (λ_=>PX 1) (by simp) ?_;refine mg [] rfl (by simp) ?_;refine Ac rfl (λ_=>Fq Hf [FF 0,FF 1]) (by simp [Ag]) ?_
 refine mg [] rfl (by simp) ?_;refine Ac rfl (λ_=>Pq (DG Hf [FF 0,FF 1]) (DG Hf [FF 0,FF 1]) rfl) (by simp [Ag]) ?_;refine mg [] rfl (by simp) ?_;refine Ac rfl (λ_=>PX 1) (by simp) ?_;refine mg [] rfl (by simp) ?_;refine Ac rfl (λ_=>PX 1) (by simp) ?_;refine mg [] rfl (by simp) ?_;refine Ac rfl (λ_=>Fq Hf [FF 1,FF 1]) (by simp [Ag]) ?_;refine mg [] rfl (by simp) ?_;refine Ac rfl (λ_=>Pq (DG Hf [FF 1,FF 1]) (DG Hf [FF 1,FF 1]) rfl) (by simp [Ag]) ?_;refine mg [] rfl (by simp) ?_;refine Ac rfl (λ_=>PX 1) (by simp) ?_;refine mg [] rfl (by simp) ?_;refine Ac rfl (λ_=>Pq (FF 1) (FF 1) rfl) (by simp [Ag]) ?_;refine mg [] rfl (by simp;rfl) ?_;exact Ab ⟨_,rfl,tV rfl,trivial⟩
end Go.Hk
namespace Go.Hk
open Go.Proofs
theorem Ru:Ak Tryz.prog 14 [.agg (Al zT)] (.bool true):=by
 refine Ae Ah Tryz.func14 (by decide +kernel) rfl [1,2] rfl rfl ?_;refine mg [] rfl (by simp) ?_;refine Ac rfl (λ_=>Pq zT zT rfl) (by simp) ?_;refine mg [] rfl (by simp) ?_;exact Ab ⟨_,rfl,tV rfl,trivial⟩
theorem ZP (r:Option Ty):Ak Tryz.prog 16 [.agg (Al (r.getD zT)),.int .i64 (if r.isSome then 0 else 5),.agg (CI r),.int .i64 5] (.bool true):=by
 cases r with
 | none =>
  refine Ae Ah Tryz.func16 (by decide +kernel) rfl [1,2,3] rfl rfl ?_;refine mg [] rfl (by simp) ?_;refine Aa rfl (λh=>?_) (λh=>by simp at h);refine md [] rfl (by simp) ?_;refine Ac rfl (λ_=>Ru) (by simp [Ag]) ?_;refine mg [] rfl (by simp) ?_;exact Ab ⟨_,rfl,tV rfl,trivial⟩
 | some v =>
  have hS:=Pq v v (OB v);obtain ⟨v1,v2,v3,v4⟩:=v;refine Ae Ah Tryz.func16 (by decide +kernel) rfl [1,2,3] rfl rfl ?_;refine mg [] rfl (by simp) ?_;refine Aa rfl (λh=>by simp at h) (λh=>?_);refine md [] rfl (by simp) ?_;refine Ac rfl (λ_=>hS) (by simp [Ag]) ?_;refine mg [] rfl (by simp) ?_;exact Ab ⟨_,rfl,tV rfl,trivial⟩
theorem YV (r:Option Ty):∃a1 a2 a3 a4,Al (r.getD zT)=[a1,a2,a3,a4]:=by
 generalize r.getD zT=t;obtain ⟨a,b,c,d⟩:=t;exact ⟨_,_,_,_,rfl⟩
theorem Vt (r:Option Ty):∃x1 v1 v2 v3 v4,CI r=[x1,v1,v2,v3,v4]:=by
 cases r with
 | none=>exact ⟨_,_,_,_,_,rfl⟩
 | some v=>obtain ⟨a,b,c,d⟩:=v;exact ⟨_,_,_,_,_,rfl⟩
set_option maxHeartbeats 2000000 in
theorem CoverMisses_of (c:Cse):Ak Tryz.prog 3 [.agg (dCse c)] (.bool true):=by
 have hS:=Ya c;have hM:=K6 c;have hU:=Qf c;have hC:=fW c;rw [<- Zp] at hC;have hk:=YG;have h4:=λh:Bz c=true=>Vh c (OkW.of h) (CO h).2.2.1 (RowsOk.of h) (MOk.of h);have hU4:=λh:Bz c=true=>Vd c (OkW.of h) (CO h).2.2.1 (RowsOk.of h) (MOk.of h);have hlen:=λh:Bz c=true=>(RowsOk.of h).len;have hul:=GD c c.rows.length;have hso:=ZP (Db c (As c.type) (-1));unfold Ja at hM;generalize Db c (As c.type) (-1)=R at *;generalize Cx c c.rows.length=U at *;generalize Vu c=s1 at *;generalize Bz c=b1 at *;obtain ⟨g1,g2,g3,g4,hg⟩:=YV R;obtain ⟨x1,y1,y2,y3,y4,hr⟩:=Vt R;rw [hg] at hM hso;rw [hr] at hso h4;generalize (if R.isSome=true then (0:Int) else 5)=e at *;obtain ⟨ds,⟨c1,c2,c3,c4⟩,rows⟩:=c
 simp only at hul hlen;refine Ae Ah Tryz.func3 (by decide +kernel) rfl [1,2,3] rfl rfl ?_;refine mg [] rfl (by simp) ?_;refine Ac rfl (λ_=>hS) (by simp) ?_;refine mg [] rfl (by simp) ?_;cases s1 with
 | false =>
  refine Aa rfl (λh=>?_) (λh=>by simp at h);refine md [] rfl (by simp) ?_;refine Ac rfl (λ_=>hk) (by simp) ?_;refine mg [] rfl (by simp) ?_;exact Ab ⟨_,rfl,tV rfl,trivial⟩
 | true =>
 refine Aa rfl (λh=>by simp at h) (λh=>?_);clear h;cases b1 with
 | false =>
  refine md [] rfl (by simp) ?_;refine Ac rfl (λ_=>hM) (by simp) ?_;refine mg [] rfl (by simp) ?_;refine Ac rfl (λ_=>hU) (by simp) ?_;refine mg [] rfl (by simp) ?_;refine Ac rfl (λ_=>hC) (by simp) ?_;refine mg [] rfl (by simp) ?_;refine Aa rfl (λh=>?_) (λh=>by simp at h);refine md [] rfl (by simp) ?_;refine Ac rfl (λ_=>Ru) (by simp [Ag]) ?_;refine mg [] rfl (by simp) ?_;refine Ac rfl (λ_=>hk) (by simp) ?_;refine mg [] rfl (by simp) ?_;exact Ab ⟨_,rfl,tV rfl,trivial⟩
 | true =>
  have hlen:=hlen rfl;refine md [] rfl (by simp) ?_;refine Ac rfl (λ_=>hM) (by simp) ?_;refine mg [] rfl (by simp) ?_;refine Ac rfl (λ_=>hU) (by simp) ?_;refine mg [] rfl (by simp) ?_;refine Ac rfl (λ_=>hC) (by simp) ?_;refine mg [] rfl (by simp) ?_;refine Aa rfl (λh=>by simp at h) (λh=>?_);clear h;refine md [] rfl (by simp) ?_;refine Ac rfl (λ_=>hU4 rfl) (by simp) ?_;refine mg [] rfl (by simp) ?_;refine Ac rfl (λ_=>h4 rfl) (by simp [Ag]) ?_;refine mg [] rfl (by simp) ?_;refine Ac rfl (λ_=>hso) (by simp [Ag]) ?_;refine mg [] rfl (by simp;rfl) ?_;refine Aa rfl (λh=>by simp at h) (λh=>?_);clear h;refine md [] rfl (by simp) ?_
  refine Aj (λi:Nat=>[(8,.imm (.int .i64 i)),(7,.imm (.sl (AB U))),(5,.imm (.sl (AB U)))]) (λ_=>[]) [2,3] (λi=>U.length-i) (λi=>i<=U.length) 0 (Nat.zero_le _) ⟨rfl,rfl,rfl,trivial⟩ trivial rfl λi hi ih=>?_;refine md [] rfl (by simp) ?_;refine Aa rfl (λh=>?_) (λh=>?_)
  ·simp at h;have hgt:=Eo h;refine md [] rfl (by simp) ?_;refine mi rfl (c:=[.int .i64 (U.getD i 0)]) (λ_=>⟨by simp,by simpa using hgt,rfl⟩) (by simp) ?_;refine mg [] rfl (by simp) ?_;refine mi rfl (c:=[.int .i64 (U.getD i 0)]) (λ_=>⟨by simp,by simpa using hgt,rfl⟩) (by simp) ?_;refine mg [] rfl (by simp;rfl) ?_;refine Aa rfl (λh=>by simp at h) (λh=>?_);refine md [] rfl (by simp) ?_;exact Ad (ih (i+1) (by omega) (by omega)) ⟨At (Bv (by omega) (by omega)),rfl,rfl,trivial⟩ trivial rfl
  ·refine Ar rfl ?_;refine md [] rfl (by simp) ?_;refine Ac rfl (λ_=>hk) (by simp) ?_;refine mg [] rfl (by simp) ?_;exact Ab ⟨_,rfl,tV rfl,trivial⟩
end Go.Hk
namespace Go.Hk
open Go.RowKit Go.WideShapes Go.ChangeShapes
theorem Ext.below {I I':Imm} {μ μ':Mu} {w w':World} {st':St} (h:Ext I μ [] w I' μ' st' w'):Below w.heap.size w w' :=
 ⟨h.os,h.tape,h.output,h.size,λk hk=>h.block k hk (by rintro ⟨id,blk,g,hl,_⟩;cases hl)⟩
theorem bQ {H:Type} {enc:TypeId×Value->H} {P:Program} {f:Func} {s:ChangeSpec} {apart fresh handsOn again:Bool} {W W':World} {args:Array Value} {v:Value} {ds gs:List (DataW H)} {before pa pv:List MemPlace}
  (hW:DataW.Whole enc P f.params.toList s.vars apart W args.toList ds gs before) (hb:Below W.heap.size W W') (hps:before=pa++pv)
  (hres:∀(b:Nat) (sp:Nat->Bool) (hd:Bool),DataW.TrodAll enc P W' b sp hd f.resultTypes.toList (v.resultList f.resultTypes.size) (s.fn H (ds++gs)).results [])
  (hargs:∀sp:Nat->Bool,(∀p∈before,sp p.block=true)->DataW.TrodAll enc P W' 0 sp true f.params.toList args.toList (s.fn H (ds++gs)).args pa)
  (hvars:∀sp:Nat->Bool,(∀p∈before,sp p.block=true)->DataW.TrodVars enc P W' sp s.vars (s.fn H (ds++gs)).vars pv)
  (hok:∀(j:Nat) (t:TypeId) (r:Value),f.resultTypes[j]?=some t->(v.resultList f.resultTypes.size)[j]?=some r->Value.okWide P W' .any 0 t r) :
  s.post enc P f apart fresh handsOn again W args v W':=by
 have lt:∀p∈before,decide (p.block<W.heap.size)=true:=λp hp=>by simpa using hW.lt p hp
 refine ⟨ds,gs,before,[],pa,pv,hW,hres _ _ _,hargs (λb=>decide (b<W.heap.size)) lt,hvars (λb=>decide (b<W.heap.size)) lt,World.keptBut_mono (λp hp=>⟨hp,.inr ?_⟩) (hb.frame (· ∈ before)),λ_=>⟨hok,?_⟩⟩
 ·rw [hps] at hp;exact List.mem_append.1 hp
 ·have hlt:=hW.lt;obtain ⟨_,_,_,_,_,hz,hn⟩:=hW;refine ⟨(s.fn H (ds++gs)).results++(s.fn H (ds++gs)).args,(s.fn H (ds++gs)).vars,pa++pv,⟨pa,pv,?_,hvars _ (λ_ _=>rfl),rfl,λb off hp=>?_,λha=>?_⟩,λp hp _=>by rw [hps];exact hp⟩
  ·have:=trodAll_append (hargs (λ_=>true) λ_ _=>rfl) (hres 0 (λ_=>true) true);simpa using this
  ·have hin:MemPlace.cell b off∈before:=by rw [hps];exact hp
   rw [hb.frozen (hlt _ hin)];exact hz b off hin
  ·rw [<- hps];exact hn ha
end Go.Hk
namespace Go.Hk
def NH (W:World):Imm:=λb=>W.heap[b]?
theorem eW (W:World):(NH W).ok W:=λ_ _ h=>h
def Rds (P:Program) (W:World) (n:Nat) (t:TypeId) (cs:List Value):Prop :=
 ∃(H:Type) (enc:TypeId×Value->H) (x:DataW H×List MemPlace),DataW.trod enc P W 0 (λ_=>true) true n t cs=some x
def RV (W:World) (cs:List Value) (xs:List V):Prop:=RepVL (NH W) cs xs/\∀c∈cs,c.oneCell'=true
theorem RV.app {W:World} {a b:List Value} {x y:List V} (h:RV W a x) (k:RV W b y):RV W (a++b) (x++y) :=
 ⟨h.1.append k.1,λc hc=>(List.mem_append.1 hc).elim (h.2 c) (k.2 c)⟩
theorem RV.one {W:World} {v:Value} {x:V} (h:RepV (NH W) v x) (h1:v.oneCell'=true):RV W [v] [x] :=
 ⟨.mk h .nil,λc hc=>by simp at hc;rw [hc];exact h1⟩
theorem RV.agg {W:World} {cs:Array Value} {xs:List V} (h:RV W cs.toList xs):RepV (NH W) (.agg cs) (.agg xs) :=
 .agg _ _ (by simpa using h.1.1) h.2 (λi c x a b=>h.1.2 i c x (by simpa using a) b)
theorem RV.len {W:World} {cs:List Value} {xs:List V} (h:RV W cs xs):cs.length=xs.length:=h.1.1
section
variable {P:Program} {W:World} {tt:TT} {n:Nat} {t:TypeId} {cs:List Value}
theorem WZ {k:IntKind} {a:Bool} {sz by_:Nat} {z:List D} (htt:TTok P tt) (hl:lk tt t=some ⟨.int k,a,sz,by_,z⟩) (h:Rds P W n t cs):∃m,RV W cs [.int k m]/\(Lit.int k m).wf=true:=by
 obtain ⟨H,enc,x,h⟩:=h;have hu:P.underlying t=some (.int k):=htt.sh hl;cases n with
 | zero=>simp [DataW.trod] at h
 | succ n =>
  unfold DataW.trod at h;rw [hu] at h
  split at h <;> simp_all
  rename_i k' m heq;exact ⟨m,.one (.int _ _) rfl,h.1.2⟩
theorem Su {a:Bool} {sz by_:Nat} {z:List D} (htt:TTok P tt) (hl:lk tt t=some ⟨.str,a,sz,by_,z⟩) (h:Rds P W n t cs):∃s,RV W cs [.str s]/\s.length<=maxLen:=by
 obtain ⟨H,enc,x,h⟩:=h;have hu:P.underlying t=some .string:=htt.sh hl;cases n with
 | zero=>simp [DataW.trod] at h
 | succ n =>
  unfold DataW.trod at h;rw [hu] at h
  split at h <;> simp_all
  rename_i s;exact ⟨s.data.toList,.one (.str _ _ rfl) rfl,by have:=h.1;simpa using this⟩
theorem PU {a:Addr} {k:Nat} {cs':List Value} (h:W.cells? 0 a k=some cs') (hk:0<k):a.spot=none/\∀(j:Nat) (v:Value),cs'[j]?=some v->(NH W).cell a.block (a.off+j)=some v:=by
 obtain ⟨_,h2,h3⟩:=World.cells?_some h;have cell:∀(b:Addr) (v:Value),W.cell? b=some v->b.spot=none/\(NH W).cell b.block b.off=some v:=by
  intro b v hb;unfold World.cell? at hb
  split at hb
  ·rename_i c t0 fz hh
   split at hb
   ·cases hb
   ·rename_i hs;refine ⟨by cases h:b.spot with | none=>rfl | some _=>rw [h] at hs;exact absurd rfl hs,?_⟩;unfold Imm.cell NH;rw [hh];exact hb
  ·cases hb
 have hs:a.spot=none:=by
  have hlt:0<cs'.length:=by omega
  have:=h3 0 hk;rw [List.getElem?_eq_getElem hlt] at this;exact (cell (a.add 0) _ this).1
 refine ⟨hs,λj v hv=>?_⟩;have hj:=(List.getElem?_eq_some_iff.1 hv).1;have:=(cell (a.add j) v (by rw [h3 j (by omega)];exact hv)).2;unfold Addr.add at this;by_cases h0:j=0
 ·subst h0;simpa using this
 ·rw [if_neg h0] at this;exact this
theorem Hw {α:Type} {e:TypeId} {a:Bool} {sz by_:Nat} {z:List D} {i:TyI} {d:α->List V} (htt:TTok P tt) (hl:lk tt t=some ⟨.sl e,a,sz,by_,z⟩) (hi:lk tt e=some i) (hpos:0<i.size)
  (hd:∀x,(d x).length=i.size) (hel:∀m,m<n->∀cs',Rds P W m e cs'->∃x,RV W cs' (d x)) (h:Rds P W n t cs):∃xs:List α,RV W cs [.sl (xs.map d)]:=by
 obtain ⟨H,enc,x,h⟩:=h;have hu:P.underlying t=some (.slice e):=htt.sh hl;have hce:P.cellsOf e=i.size:=(htt e i hi).cellsOf;rcases DataW.trod_slice hu h with ⟨rfl,_⟩ | ⟨ad,len,cap,elems,rest,m,rfl,rfl,_,_,h1,h2,h3,h4,h5,_⟩
 ·exact ⟨[],.one .slnil rfl⟩
 rw [hce] at h4 h5;have he:∀k,k<len->∃(cs':List Value) (x:α),W.cells? 0 (ad.add (k*i.size)) i.size=some cs'/\RV W cs' (d x):=by
  intro k hk;have:=h4 k hk;rw [List.getElem?_eq_getElem (by omega)] at this;obtain ⟨cs',q1,q2⟩:=Option.bind_eq_some_iff.1 this;obtain ⟨x,hx⟩:=hel m (by omega) cs' ⟨H,enc,_,q2⟩;exact ⟨cs',x,q1,hx⟩
 have hch:∃(C:Nat->List Value) (X:Nat->Option α),∀k,k<len->∃x,X k=some x/\W.cells? 0 (ad.add (k*i.size)) i.size=some (C k)/\RV W (C k) (d x):=by
  classical
  refine ⟨λk=>if hk:k<len then (he k hk).choose else [],λk=>if hk:k<len then some ((he k hk).choose_spec.choose) else none,λk hk=>?_⟩;simp only [hk,dif_pos];exact ⟨_,rfl,(he k hk).choose_spec.choose_spec⟩
 obtain ⟨C,X,hCX⟩:=hch;have hlist:∀l,l<=len->∃xs:List α,xs.length=l/\∀k x,xs[k]?=some x->X k=some x:=by
  intro l
  induction l with
  | zero=>exact λ_=>⟨[],rfl,λk x h=>by simp at h⟩
  | succ l ih =>
   intro hl';obtain ⟨xs,q1,q2⟩:=ih (by omega);obtain ⟨x,hx,_⟩:=hCX l (by omega);refine ⟨xs++[x],by simp [q1],λk y hy=>?_⟩;by_cases hk:k<xs.length
   ·rw [List.getElem?_append_left hk] at hy;exact q2 k y hy
   ·rw [List.getElem?_append_right (by omega)] at hy;have:k-xs.length=0:=by
     have:=(List.getElem?_eq_some_iff.1 hy).1;simp at this;omega
    rw [this] at hy;cases hy;have:k=l:=by omega
    rw [this];exact hx
 obtain ⟨xs,hx1,hx2⟩:=hlist len (Nat.le_refl _);refine ⟨xs,.one ?_ rfl⟩;by_cases hcap:cap=0
 ·have:len=0:=by omega
  subst this;subst hcap;have:xs=[]:=List.eq_nil_of_length_eq_zero hx1;subst this;exact .sl0 ad
 have hspot:ad.spot=none:=by
  by_cases hlen:0<len
  ·obtain ⟨x,_,q,_⟩:=hCX 0 hlen;have:=(PU q hpos).1;simpa [Addr.add] using this
  ·have h6:=h5 rfl;have h7:=h6.2 0 (by omega);rw [List.getElem?_eq_getElem (by omega)] at h7;obtain ⟨cs',q1,q2⟩:=Option.bind_eq_some_iff.1 h7;have:=(PU q1 hpos).1;have hl0:len=0:=by omega
   subst hl0;simpa [Addr.add] using this
 obtain ⟨b,o,sp⟩:=ad;simp only at hspot;subst hspot;have hget:∀(k:Nat) (e:List V),(xs.map d)[k]?=some e->k<len/\∃x,X k=some x/\e=d x/\W.cells? 0 ⟨b,o+k*i.size,none⟩ i.size=some (C k)/\RV W (C k) (d x):=by
  intro k e hk;rw [List.getElem?_map,Option.map_eq_some_iff] at hk;obtain ⟨x,q1,q2⟩:=hk;have hlt:=(List.getElem?_eq_some_iff.1 q1).1;obtain ⟨y,r1,r2,r3⟩:=hCX k (by omega);rw [hx2 k x q1] at r1;cases r1;refine ⟨by omega,x,hx2 k x q1,q2.symm,?_,r3⟩;rw [<- r2];congr 1;unfold Addr.add;by_cases h0:k*i.size=0
  ·simp [h0]
  ·simp [h0]
 refine .sl b o len cap i.size _ (λk j=>(C k).getD j undef) (by simp [hx1]) h1 h2 (λe he=>?_) (λk e j x hk hj=>?_) (λk e j x hk hj=>?_)
 ·obtain ⟨x,_,rfl⟩:=List.mem_map.1 he;exact hd x
 ·obtain ⟨_,y,_,rfl,q3,q4⟩:=hget k e hk;have hlt:j<(C k).length:=by rw [q4.len];exact (List.getElem?_eq_some_iff.1 hj).1
  have hv:(C k)[j]?=some ((C k)[j]):=List.getElem?_eq_getElem hlt;have hD:(C k).getD j undef=(C k)[j]:=by simp [List.getD,hv]
  show (NH W).cell b (o+k*i.size+j)=some ((C k).getD j undef)/\((C k).getD j undef).oneCell'=true;rw [hD];exact ⟨(PU q3 hpos).2 j _ hv,q4.2 _ (List.getElem_mem _)⟩
 ·obtain ⟨_,y,_,rfl,q3,q4⟩:=hget k e hk;have hlt:j<(C k).length:=by rw [q4.len];exact (List.getElem?_eq_some_iff.1 hj).1
  have hv:(C k)[j]?=some ((C k)[j]):=List.getElem?_eq_getElem hlt;have hD:(C k).getD j undef=(C k)[j]:=by simp [List.getD,hv]
  show RepV (NH W) ((C k).getD j undef) x;rw [hD];exact q4.1.2 j _ x hv hj
theorem HO {fs:List (Nat×TypeId)} {a:Bool} {sz by_:Nat} {z:List D} (htt:TTok P tt) (hl:lk tt t=some ⟨.struct fs,a,sz,by_,z⟩) (h:Rds P W n t cs) :
  cs.length=sz/\∃m,n=m+1/\∀(j off:Nat) (ft:TypeId) (i:TyI),fs[j]?=some (off,ft)->lk tt ft=some i->Rds P W m ft ((cs.drop off).take i.size):=by
 obtain ⟨H,enc,x,h⟩:=h;obtain ⟨fields,hu,hmap,_⟩:∃fields,P.underlying t=some (.struct fields)/\fields.toList.map (λf=>(f.offset,f.type))=fs/\∀f∈fields.toList,0<P.cellsOf f.type:=htt.sh hl;obtain ⟨xs,m,rfl,_,h1,h2,h3⟩:=DataW.trod_struct hu h;refine ⟨by rw [h1];exact (htt t _ hl).cellsOf,m,rfl,λj off ft i hj hi=>?_⟩;rw [<- hmap,List.getElem?_map,Option.map_eq_some_iff] at hj;obtain ⟨f,q1,q2⟩:=hj;cases q2;have hf:fields[j]?=some f:=by rw [<- Array.getElem?_toList];exact q1
 have hlt:=(Array.getElem?_eq_some_iff.1 hf).1;have:=h3 j f hf;rw [List.getElem?_eq_getElem (by omega),(htt _ i hi).cellsOf] at this;exact ⟨H,enc,_,this⟩
end
end Go.Hk
namespace Go.Hk
open Go.Proofs
section
variable {W:World}
theorem four {α:Type} {l:List α} (h:l.length=4):∃a b c d,l=[a,b,c,d]:=by
 match l,h with
 | [a,b,c,d],_=>exact ⟨a,b,c,d,rfl⟩
theorem PH (l:List Ty):l.map Al=Bg l:=(Cq l).symm
theorem Rk (tt0 ts tl:TypeId) (hs:lk ZB tt0=some ⟨.struct [(0,ts),(1,3),(2,9),(3,tl)],true,4,56,[.imm (.int .i64 0),.imm (.int .i64 0),.imm (.str []),.nils]⟩)
  (h1:lk ZB ts=some ⟨.int .i64,false,1,8,[.imm (.int .i64 0)]⟩) (h2:lk ZB tl=some ⟨.sl tt0,false,1,24,[.nils]⟩) :
  ∀(n:Nat) (cs:List Value),Rds Tryz.prog W n tt0 cs->∃t:Ty,RV W cs (Al t):=by
 intro n
 induction n using Nat.strongRecOn with
 | ind n ih =>
  intro cs h;obtain ⟨hl,m,rfl,hf⟩:=HO B0 hs h;obtain ⟨a,b,c,d,rfl⟩:=four hl;obtain ⟨s,r1,_⟩:=WZ B0 h1 (hf 0 0 ts _ rfl h1);obtain ⟨k,r2,_⟩:=WZ B0 rfl (hf 1 1 3 _ rfl rfl);obtain ⟨x,r3,_⟩:=Su B0 rfl (hf 2 2 9 _ rfl rfl);obtain ⟨ps,r4⟩:=Hw (d:=Al) B0 h2 hs (show 0<4 by decide) dTyc_length (λm' hm cs'=>ih m' (by omega) cs') (hf 3 3 tl _ rfl h2);exact ⟨.mk s k x ps,by rw [Al,<- PH];exact ((r1.app r2).app r3).app r4⟩
theorem Rj (n:Nat) (cs:List Value) (h:Rds Tryz.prog W n 26 cs):∃t:Ty,RV W cs (Al t):=Rk 26 23 24 rfl rfl rfl n cs h
theorem aL (n:Nat) (cs:List Value) (h:Rds Tryz.prog W n 62 cs):∃t:Ty,RV W cs (Al t):=Rk 62 60 27 rfl rfl rfl n cs h
theorem aM (n:Nat) (cs:List Value) (h:Rds Tryz.prog W n 90 cs):∃c:Cd,RV W cs (Cw c):=by
 obtain ⟨hl,m,rfl,hf⟩:=HO B0 rfl h
 match cs,hl with
 | [a,b],_ =>
 obtain ⟨x,r1,_⟩:=Su B0 rfl (hf 0 0 9 _ rfl rfl);obtain ⟨ts,r2⟩:=Hw (d:=Al) B0 rfl (e:=26) rfl (by decide) dTyc_length (λm' hm cs'=>Rj m' cs') (hf 1 1 24 _ rfl rfl);exact ⟨⟨x,ts⟩,by rw [Cw,<- PH];exact r1.app r2⟩
theorem Yt (n:Nat) (cs:List Value) (h:Rds Tryz.prog W n 87 cs):∃c:Dt,RV W cs (BU c):=by
 obtain ⟨hl,m,rfl,hf⟩:=HO B0 rfl h
 match cs,hl with
 | [a,b],_ =>
 obtain ⟨x,r1,_⟩:=Su B0 rfl (hf 0 0 9 _ rfl rfl);obtain ⟨ts,r2⟩:=Hw (d:=Cw) B0 rfl (e:=90) rfl (by decide) (λ_=>rfl) (λm' hm cs'=>aM m' cs') (hf 1 1 85 _ rfl rfl);exact ⟨⟨x,ts⟩,r1.app r2⟩
end
end Go.Hk
namespace Go.Hk
open Go.Proofs
section
variable {W:World}
theorem read_case (n:Nat) (cs:List Value) (h:Rds Tryz.prog W n 29 cs):∃c:Cse,RV W cs (dCse c):=by
 obtain ⟨hl,m,rfl,hf⟩:=HO F9 rfl h
 match cs,hl with
 | [a0,a1,a2,a3,a4,a5],_ =>
 obtain ⟨ds,r1⟩:=Hw (d:=BU) F9 rfl (e:=87) rfl (by decide) (λ_=>rfl) (λm' hm cs'=>Yt m' cs') (hf 0 0 22 _ rfl rfl);obtain ⟨t1,r2⟩:=Rj _ _ (hf 1 1 26 _ rfl rfl);obtain ⟨ps,r3⟩:=Hw (d:=Al) F9 rfl (e:=62) rfl (by decide) dTyc_length (λm' hm cs'=>aL m' cs') (hf 2 5 27 _ rfl rfl);exact ⟨⟨ds,t1,ps⟩,by rw [dCse,<- PH];exact (r1.app r2).app r3⟩
end
end Go.Hk
namespace Go.Hk
open Go.RowKit Go.WideShapes Go.ChangeShapes Go.ChangeAt
theorem KH {H:Type} {enc:TypeId×Value->H} {P:Program} (hl:laidOutB P=true) {W W':World} (hb:Below W.heap.size W W') {sp:Nat->Bool} :
  ∀{ts:List TypeId} {vs:List Value} {ds:List (DataW H)} {ps:List MemPlace},ts.all (λt=>P.readableRec t&&decide (t<P.types.size))=true->DataW.TrodAll enc P W 0 (λ_=>true) true ts vs ds ps ->
   (∀p∈ps,p.block<W.heap.size)->(∀p∈ps,sp p.block=true)->DataW.TrodAll enc P W' 0 sp true ts vs ds ps
 | [],[],[],_,_,h,_,_=>h
 | [],[],_::_,_,_,h,_,_=>h.elim
 | [],_::_,_,_,_,h,_,_=>h.elim
 | _::_,[],_,_,_,h,_,_=>h.elim
 | _::_,_::_,[],_,_,h,_,_=>h.elim
 | t::ts,v::vs,d::ds,ps,ht,h,hlt,hs=>by
  obtain ⟨p,q,h1,h2,rfl⟩:=h;rw [List.all_cons,Bool.and_eq_true,Bool.and_eq_true,decide_eq_true_eq] at ht;refine ⟨p,q,WideElems.Trod_stays hl ht.1.1 ht.1.2 h1 (λx hx=>hb.same (hlt x (List.mem_append_left _ hx))) (λx hx=>hs x (List.mem_append_left _ hx)),?_,rfl⟩;exact KH hl hb ht.2 h2 (λx hx=>hlt x (List.mem_append_right _ hx)) (λx hx=>hs x (List.mem_append_right _ hx))
theorem Rds.of {H:Type} {enc:TypeId×Value->H} {P:Program} {W:World} {t:TypeId} {v:Value} {d:DataW H} {ps:List MemPlace} (h:DataW.Trod enc P W 0 (λ_=>true) true t v d ps):∃n,Rds P W n t v.cells.toList:=by
 obtain ⟨n,hn⟩:=h;exact ⟨n,H,enc,_,hn⟩
section
variable {H:Type} {enc:TypeId×Value->H} {P:Program} {W:World} {sp:Nat->Bool} {hd:Bool}
theorem ZE {vs:List Value} {ds:List (DataW H)} {ps:List MemPlace} (h:DataW.TrodAll enc P W 0 sp hd [] vs ds ps):vs=[]/\ds=[]:=by
 cases vs with
 | nil=>cases ds with
  | nil=>exact ⟨rfl,rfl⟩
  | cons=>exact h.elim
 | cons=>cases ds <;> exact h.elim
theorem ZD {t:TypeId} {ts:List TypeId} {vs:List Value} {ds:List (DataW H)} {ps:List MemPlace} (h:DataW.TrodAll enc P W 0 sp hd (t::ts) vs ds ps) :
  ∃v vs' d ds' p q,vs=v::vs'/\ds=d::ds'/\DataW.Trod enc P W 0 sp hd t v d p/\DataW.TrodAll enc P W 0 sp hd ts vs' ds' q:=by
 cases vs with
 | nil=>cases ds <;> exact h.elim
 | cons v vs=>cases ds with
  | nil=>exact h.elim
  | cons d ds =>
   obtain ⟨p,q,h1,h2,_⟩:=h;exact ⟨v,vs,d,ds,p,q,rfl,rfl,h1,h2⟩
theorem trodAll1 {t:TypeId} {vs:List Value} {ds:List (DataW H)} {ps:List MemPlace} (h:DataW.TrodAll enc P W 0 sp hd [t] vs ds ps):∃v d p,vs=[v]/\ds=[d]/\DataW.Trod enc P W 0 sp hd t v d p:=by
 obtain ⟨v,vs',d,ds',p,q,rfl,rfl,h1,h2⟩:=ZD h;obtain ⟨rfl,rfl⟩:=ZE h2;exact ⟨v,d,p,rfl,rfl,h1⟩
end
theorem agg_of {P:Program} {W:World} {base:Nat} {t:TypeId} {v:Value} {fs:Array Field} (hu:P.underlying t=some (.struct fs)) (h:Value.okWide P W .any base t v):∃cs,v = .agg cs:=by
 unfold Value.okWide at h;rw [hu] at h;obtain ⟨cs,e,_⟩:=h;exact ⟨cs,e⟩
theorem Q9 {P : Program} {f : FuncId} {fn : Func} {c : Code} (hf : P.funcs[f]? = some fn) (hname : (fn.name == "runtime.NumGoroutine") = false) (hb : fn.body = some c) {W : World} {args : Array Value} {vs : List V} {b : Bool} (hv : RepVL (NH W) args.toList vs) (hp : Ak P f vs (.bool b)) :
  Calls P f args W λe W'=>e = .returned (.bool b)/\Below W.heap.size W W':=by
 have h:=hp (NH W) (λ_=>none) W args { imm:=eW W,blk:=λid blk hl=>(by cases hl),apart:=λid blk g b hl=>(by cases hl),inj:=λi j bi bj gi gj b hl=>(by cases hl),nodup:=.nil,idsFree:=λid hi=>(by cases hi) }
  ⟨by simpa using hv.1,λi v d h1 h2=>by
   rw [List.getElem?_map,Option.map_eq_some_iff] at h2;obtain ⟨x,q1,rfl⟩:=h2;exact .imm _ _ (hv.2 i v x h1 q1)⟩
 rw [BB hf hname hb] at h;refine Calls.mono h λe w' he=>?_;cases e with
 | returned v =>
  obtain ⟨I',μ',h1,_,_,h4⟩:=he;cases h1 with
  | imm v x hx =>
   cases hx;exact ⟨rfl,h4.below⟩
 | panicked=>exact he.elim
 | outgrown=>exact he.elim
theorem law_done {H:Type} {enc:TypeId×Value->H} {P:Program} {f:FuncId} {fn:Func} {c:Code} {s:ChangeSpec} {apart fresh handsOn again:Bool} {W:World} {args:Array Value} {ds gs:List (DataW H)} {before:List MemPlace} {tb:TypeId} {vs:List V}
  (hW : DataW.Whole enc P fn.params.toList s.vars apart W args.toList ds gs before) (hv : s.vars = []) (hf : P.funcs[f]? = some fn) (hname : (fn.name == "runtime.NumGoroutine") = false) (hb : fn.body = some c) (hrt : fn.resultTypes = #[tb]) (hbool : P.underlying tb = some .bool)
  (hl:laidOutB P=true) (hpar:fn.params.toList.all (λt=>P.readableRec t&&decide (t<P.types.size))=true) (hs:s.fn H ds={ results:=[.lit (.bool true)],args:=ds }) (hx:RepVL (NH W) args.toList vs) (hp:Ak P f vs (.bool true)) :
  Calls P f args W λe W'=>∃v,e = .returned v/\s.post enc P fn apart fresh handsOn again W args v W':=by
 refine (Q9 hf hname hb hx hp).mono λe W' ⟨he,hg⟩=>?_;subst he;have hW':=hW;obtain ⟨p,q,hA,hV,e1,hfz,hnd⟩:=hW;rw [hv] at hV;have hg0:gs=[]/\q=[]:=by
  cases gs with
  | nil=>exact ⟨rfl,hV⟩
  | cons=>exact hV.elim
 obtain ⟨rfl,rfl⟩:=hg0;rw [List.append_nil] at e1;subst e1;have hlt:=hW'.lt;refine ⟨_,rfl,bQ (pa:=before) (pv:=[]) hW' hg (by simp) (λb sp hd=>?_) (λsp hsp=>?_) (λsp hsp=>?_) ?_⟩
 ·rw [List.append_nil,hs,hrt];exact trodAll_cons_mk (shut_bool hbool _) trodAll_mk0
 ·rw [List.append_nil,hs];exact KH hl hg hpar hA hlt hsp
 ·rw [List.append_nil,hs,hv];rfl
 ·exact ok_one hrt rfl (okWide_bool_mk hbool _)
end Go.Hk
namespace Go.Proofs.YtondpmificgknaaGreat.coverMisses
open Go.ChangeShapes Go.WideShapes Go.RowKit
set_option linter.unusedVariables false
theorem own:ownKnob Tryz.prog.godebug=none:=by kernel_rfl
theorem iO (os:Os) (started:os.Started) (H:Type) (enc:TypeId×Value->H) :
  ReturnsInHanded {} Tryz.checked os 3 .any (Rows.coverMissesSpec.pre6 enc Tryz.prog Tryz.f3 Rows.coverMissesRow.domain false) (Rows.coverMissesSpec.post enc Tryz.prog Tryz.f3 false true false false):=by
 refine returnsInHanded_of_change (C:=Tryz.checked) own started (by kernel_rfl) Tryz.func3
  (ChangeSpec.witness6 (enc:=enc) (C:=Tryz.checked) false ⟨#[],#[.agg #[.slice none 0 0,.int .i64 0,.int .i64 0,.string ⟨#[]⟩,.slice none 0 0,.slice none 0 0]],[]⟩ 8 (by kernel_rfl) (by kernel_rfl) (by kernel_rfl) (by kernel_rfl)) ?_
 intro W base args ds gs before hval hW hcnd _;obtain ⟨p,q,hA,_⟩:=id hW;obtain ⟨v1,d1,p1,e1,rfl,hd1⟩:=Hk.trodAll1 (t:=29) hA;obtain ⟨args⟩:=args;simp only at e1;subst e1;obtain ⟨n1,hn1⟩:=Hk.Rds.of hd1;obtain ⟨m1,hm1⟩:=Hk.read_case n1 _ hn1;obtain ⟨c1,rfl⟩:=Hk.agg_of Tryz.underlying29 (hval 0 29 v1 rfl rfl);exact Hk.law_done hW rfl Tryz.func3 (by decide +kernel) rfl rfl Tryz.underlying4 (by kernel_rfl) (by kernel_rfl) rfl (vs:=[.agg (Hk.dCse m1)]) (.mk (Hk.RV.agg hm1) .nil) (Hk.CoverMisses_of m1)
theorem over:Rows.coverMissesRow.holds Tryz.pinned (OpenSpec.ofChange Rows.coverMissesSpec) :=
 OpenClaim.holds_of_wide 3 Tryz.f3 rfl rfl rfl rfl rfl rfl rfl ⟨rfl,rfl,rfl,rfl,rfl⟩ rfl rfl rfl rfl rfl (by kernel_rfl) Tryz.func3 (by kernel_rfl)
  (of_decide_eq_true (by kernel_rfl)) (by unfold Func.isWrapper;first | (rw [if_pos (by decide +kernel)];kernel_rfl) | (rw [if_neg (by decide +kernel)];exact ⟨rfl,rfl⟩))
  (λos started H enc _=>iO os started H enc)
theorem proved:Rows.CoverMissesSaid :=
 over
end Go.Proofs.YtondpmificgknaaGreat.coverMisses
