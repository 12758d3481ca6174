/- A tree that grows is formed (hearthref04.formed). (And what it stands on.) -/
import Derived.Test.YtegabgaflilabaaGreatVe
import Derived.Test.YtegabgaflilabaaGreatVd
import Derived.Test.YtegabgaflilabaaGreatVc
set_option linter.unusedSimpArgs false
set_option linter.unusedVariables false

set_option maxRecDepth 100000
set_option maxHeartbeats 4000000
namespace Go.Hk
open Go.Proofs
def B8 (l:List Ty):List (List V):=l.map Bv
@[simp] theorem hdsV_length (l:List Ty):(B8 l).length=l.length:=by simp [B8]
@[simp] theorem headV_length (h:Ty):(Bv h).length=3:=by obtain ⟨a,b,c,d⟩:=h;rfl
theorem Ku {l:List Ty} {i:Nat} {h:Ty} (e:l[i]?=some h):(B8 l)[i]?=some (Bv h):=by simp [B8,e]
theorem OL (a b:List Ty):B8 (a++b)=B8 a++B8 b:=by simp [B8]
theorem ZB (l:List Ty):∀c∈B8 l,c.length=3:=λc hc=>by obtain ⟨h,_,rfl⟩:=List.mem_map.1 hc;simp
def UB (h:Ty):Int->List Ty->Int
 | _,[]=>-1
 | i,x::r=>if AB h x=true then i else UB h (i+1) r
theorem Wo (h:Ty):∀(l:List Ty) (i:Int),0<=i->decide (0<=UB h i l)=Bj l h
 | [],i,_=>rfl
 | x::r,i,hi=>by
  have ih:=Wo h r (i+1) (by omega);have e:Bj (x::r) h=(AB h x||Bj r h):=by rw [H3 h x];rfl
  rw [e];by_cases hb:AB h x=true
  ·simp only [UB,if_pos hb];rw [hb];simp [hi]
  ·simp only [UB,if_neg hb];rw [ih];simp [hb]
theorem eJ (l:List Ty) (h:Ty):Al Tryz.prog 178 [.sl (B8 l),.agg (Bv h)] (.int .i64 (UB h 0 l)):=by
 obtain ⟨h1,h2,h3,h4⟩:=h;refine AW λhv=>?_;simp [Ct,ET,maxLen,Bv] at hv;refine Ae Ai Tryz.func178 (by decide +kernel) rfl [1,2] rfl rfl ?_;refine Aj rfl ?_;refine An (λi:Nat=>[(8,.imm (.int .i64 i)),(7,.imm (.int .i64 l.length)),(0,.imm (.sl (B8 l))),(3,.ref 1 0)]) (λ_=>[(1,some (.immb 122 3 (Bv (.mk h1 h2 h3 h4))))]) [2] (λi=>l.length-i) (λi=>i<=l.length/\UB (.mk h1 h2 h3 h4) 0 l=UB (.mk h1 h2 h3 h4) i (l.drop i)) 0
  ⟨Nat.zero_le _,rfl⟩ ⟨rfl,A0 (by simp),rfl,rfl,trivial⟩ ⟨rfl,trivial⟩ rfl λi hi ih=>?_
 obtain ⟨hi1,hi2⟩:=hi;refine Ak rfl ?_;refine Ab rfl (λh=>?_) (λh=>?_)
 ·simp at h;obtain ⟨x,hx⟩:=As h;rw [Av hx] at hi2;simp only [UB] at hi2;refine Ak rfl ?_;refine mi rfl (c:=Bv x) (λ_=>⟨by simp,by simpa using Ku hx,by simp⟩) (by simp [Ap]) ?_;obtain ⟨x1,x2,x3,x4⟩:=x;refine Du rfl ?_;refine Wz Ai rfl MI (by simp [Ap]) ?_;refine mg [] rfl (by simp [Ap];rfl) ?_;by_cases e:AB (.mk h1 h2 h3 h4) (.mk x1 x2 x3 x4)=true
  ·rw [if_pos e] at hi2;simp only [AB] at e;refine Ab rfl (λh=>?_) (λh=>by exfalso;simp at h e;grind);refine Ak rfl ?_;refine Aa rfl rfl ?_;rw [hi2]
  ·rw [if_neg e] at hi2;simp only [AB] at e;refine Ab rfl (λh=>by exfalso;simp at h e;grind) (λh=>?_);refine Ak rfl ?_;exact Ad (ih (i+1) (by omega) ⟨by omega,hi2⟩) ⟨A0 (B2 (by omega) (by omega)),rfl,rfl,rfl,trivial⟩ ⟨rfl,trivial⟩ rfl
 ·simp at h;rw [List.drop_eq_nil_of_le (by omega)] at hi2;refine Aw rfl ?_;refine Ak rfl ?_;refine Aa rfl rfl ?_;rw [hi2];rfl
theorem GU (l:List Ty) (h:Ty):Al Tryz.prog 134 [.sl (B8 l),.agg (Bv h)] (.bool (Bj l h)):=by
 have hI:=eJ l h;have hh:=Wo h l 0 (by omega);generalize UB h 0 l=k at *;obtain ⟨h1,h2,h3,h4⟩:=h;refine Ae Ai Tryz.func134 (by decide +kernel) rfl [1,2] rfl rfl ?_;refine Aj rfl ?_;refine Ag rfl hI ?_;refine Aj rfl ?_;rw [<- hh];exact Aa rfl rfl rfl
theorem PT (h:Ty) (hf:AK h≠0):Al Tryz.prog 92 [.agg (Bv h)] (.agg (G0 h)):=by
 obtain ⟨h1,h2,h3,h4⟩:=h;refine Ae Ai Tryz.func92 (by decide +kernel) rfl [1,2] rfl rfl ?_;refine Aj rfl ?_;simp only [G0,AK] at hf ⊢;rw [if_neg hf];exact K2 2 [.imm (.int .i64 h1),.imm (.int .i64 h2),.imm (.str h3),.imm .nilsl] rfl (by simp [Z3]) (Au ⟨_,rfl,tV rfl,trivial⟩)
theorem eM (path:List Int) (hl:path.length<=1000000):Al Tryz.prog 135 [.sl (AJ path)] (.sl (AJ path)):=by
 have hs:∀c∈AJ path,c.length=1:=λc hc=>by simp only [AJ,List.mem_map] at hc;obtain ⟨q,_,rfl⟩:=hc;rfl
 have hl:(AJ path).length<=1000000:=by simpa using hl
 generalize AJ path=l at *;refine Ae Ai Tryz.func135 (by decide +kernel) rfl [1,2] rfl rfl ?_;refine Aj rfl ?_;refine TO Ai rfl λb hb=>?_;cases b with
 | true =>
  have he:l=[]:=by
   cases l with
   | nil=>rfl
   | cons a b=>exact absurd (hb (by simp)) (by simp)
  subst he;refine Ak rfl ?_;refine Ah rfl λh=>?_;refine Ak rfl ?_;exact Aa rfl rfl rfl
 | false =>
  refine Ak rfl ?_;refine At rfl λh=>?_;cases l with
  | nil =>
   refine Ak rfl ?_;refine dN Ai rfl ?_;refine Aj rfl ?_;exact Aa rfl rfl rfl
  | cons a b =>
   refine Ak rfl ?_;refine T9 Ai rfl ⟨hs,by simp only [maxLen,List.length_nil] at *;omega,by simp only [List.length_nil] at *;omega,λc hc=>by simp at hc,by simp⟩ (by simp) ?_;refine Aj rfl ?_;exact Aa rfl rfl rfl
theorem lJ (path:List Int):Bt Tryz.prog 136 [.imm (.sl (AJ path))] [] (.ret (.clip (AJ path)) []):=by
 generalize AJ path=l at *;refine Ae Ai Tryz.func136 (by decide +kernel) rfl [1,2] rfl rfl ?_;refine Aj rfl ?_;refine pZ Ai rfl rfl rfl ?_;refine Aj rfl ?_;exact Au ⟨_,rfl,rfl,trivial⟩
theorem XR (nt:List Ty) (hl:nt.length<=1000000):Al Tryz.prog 161 [.sl (B8 nt)] (.agg (Bv (CE nt))):=by
 have hA:=λh=>GU nt h;refine Ae Ai Tryz.func161 (by decide +kernel) rfl [1,2,3] rfl rfl ?_;refine Aj rfl ?_;refine An (λi:Nat=>[(3,.imm (.int .i64 i)),(2,.ref 1 0),(0,.imm (.sl (B8 nt)))]) (λ_=>[(1,some (.immb 122 3 [.int .i64 0,.int .i64 0,.str []]))]) [2,3] (λi=>nt.length+1-i)
  (λi=>i<=nt.length/\CE nt=JC nt (nt.length-i) i/\∀j:Nat,j<i->Bj nt (.mk 1 j [] [])=true) 0 ⟨Nat.zero_le _,rfl,λj h=>by omega⟩ ⟨rfl,rfl,rfl,trivial⟩ ⟨rfl,trivial⟩ rfl λi hi ih=>?_
 obtain ⟨hi1,hi2,hi3⟩:=hi;rw [N9 hi1 hi3] at hi2;have h1:=hA (.mk 1 i [] []);have h2:=hA (.mk 1 (0-i) [] []);have hih:Bj nt (.mk 1 i [] [])=true->Bj nt (.mk 1 (0-i) [] [])=true->_:=λe1 e2=>ih (i+1) (by omega) ⟨Jm (i:=i+1) (λj hj=>by
   by_cases e:j=i
   ·rw [e];exact e1
   ·exact hi3 j (by omega)),by rw [hi2,e1,e2];simp,λj hj=>by
   by_cases e:j=i
   ·rw [e];exact e1
   ·exact hi3 j (by omega)⟩
 generalize CE nt=R at *;generalize Bj nt (.mk 1 i [] [])=b1 at *;generalize Bj nt (.mk 1 (0-i) [] [])=b2 at *;clear ih hi3;have hw:IntKind.i64.wrap (0-(i:Int))=0-i:=B2 (by omega) (by omega);have hn:∀q:Nat,q<2->∃x:Ty,[[V.int .i64 1,.int .i64 i,.str []],[.int .i64 1,.int .i64 (IntKind.i64.wrap (0-(i:Int))),.str []]][q]?=some (Bv x)/\x=(if q=0 then .mk 1 i [] [] else .mk 1 (0-i) [] []):=λq hq=>by
  have:q=0\/q=1:=by omega
  rcases this with rfl | rfl
  ·exact ⟨_,rfl,rfl⟩
  ·exact ⟨.mk 1 (0-i) [] [],by rw [hw];rfl,rfl⟩
 refine Ak rfl ?_;obtain ⟨L2,hL⟩:∃L2,L2=[[V.int .i64 1,.int .i64 i,.str []],[.int .i64 1,.int .i64 (IntKind.i64.wrap (0-(i:Int))),.str []]]:=⟨_,rfl⟩
 rw [<- hL] at hn;have hl2:L2.length=2:=by rw [hL];rfl
 refine An (λq:Nat=>[(15,.imm (.int .i64 q)),(14,.imm (.int .i64 2)),(13,.imm (.sl L2)),(3,.imm (.int .i64 i)),(2,.ref 1 0),(0,.imm (.sl (B8 nt)))]) (λ_=>[(1,some (.immb 122 3 [.int .i64 0,.int .i64 0,.str []]))]) [2,3] (λq=>2-q)
  (λq=>q<=2/\(1<=q->b1=true)/\(2<=q->b2=true)) 0 ⟨Nat.zero_le _,λh=>by omega,λh=>by omega⟩ ⟨rfl,rfl,by rw [hL];rfl,rfl,rfl,rfl,trivial⟩ ⟨rfl,trivial⟩ rfl λq hq jh=>?_
 obtain ⟨hq1,hq2,hq3⟩:=hq;refine Ak rfl ?_;refine Ab rfl (λh=>?_) (λh=>?_)
 ·have hq:q<2:=by simp at h;omega
  obtain ⟨x,x1,x2⟩:=hn q hq;refine Ak rfl ?_;refine mi rfl (c:=Bv x) (λ_=>⟨by simp,by simpa using x1,by simp⟩) (by simp) ?_;have hx:Al Tryz.prog 134 [.sl (B8 nt),.agg (Bv x)] (.bool (if q=0 then b1 else b2)):=by
   rw [x2];by_cases e:q=0
   ·rw [if_pos e,if_pos e];exact h1
   ·rw [if_neg e,if_neg e];exact h2
  have hb:(if q=0 then b1 else b2)=false->R=x:=λhb=>by
   rw [hi2,x2];by_cases e:q=0
   ·rw [if_pos e] at hb ⊢;rw [if_pos hb]
   ·rw [if_neg e] at hb ⊢;rw [if_neg (by rw [hq2 (by omega)];simp),if_pos hb]
  have hb':(if q=0 then b1 else b2)=true->(1<=q+1->b1=true)/\(2<=q+1->b2=true):=λhb=>by
   by_cases e:q=0
   ·rw [if_pos e] at hb;exact ⟨λ_=>hb,λh=>by omega⟩
   ·rw [if_neg e] at hb;exact ⟨λ_=>hq2 (by omega),λ_=>hb⟩
  generalize (if q=0 then b1 else b2)=bq at *;obtain ⟨y1,y2,y3,y4⟩:=x;refine Aj rfl ?_;refine Ag rfl hx ?_;refine Aj rfl ?_;cases bq with
  | false =>
   refine Ah rfl λh=>?_;refine Ak rfl ?_;rw [hb rfl];exact Aa rfl rfl rfl
  | true =>
   refine At rfl λh=>?_;refine Ak rfl ?_;exact Ad (jh (q+1) (by omega) ⟨by omega,hb' rfl⟩) ⟨A0 (B2 (by omega) (by omega)),rfl,rfl,rfl,rfl,rfl,trivial⟩ ⟨rfl,trivial⟩ rfl
 ·have hq:¬q<2:=by simp at h;omega
  refine Aw rfl ?_;refine Ak rfl ?_;exact Ad (hih (hq2 (by omega)) (hq3 (by omega))) ⟨A0 (B2 (by omega) (by omega)),rfl,rfl,trivial⟩ ⟨rfl,trivial⟩ rfl
end Go.Hk
namespace Go.Hk
theorem iD {P:Program} {f:FuncId} {vs:List V} {k:Nat} {e:TypeId} {sz:Nat} {es:List (List V)} (h:Bt P f (vs.map .imm) [] (.ret (.own k es.length) [(k,some (.row e sz es))])):Al P f vs (.sl es):=by
 intro I μ w xs hst hx;refine (h I μ w xs hst hx).mono (λu w' hu=>?_) (λ_ _ h=>h.elim);obtain ⟨I',μ',r1,r2,r3,r4⟩:=hu;have hlive:Az [(k,some (Blk.row e sz es))] k (.row e sz es):=by simp [Az,lk]
 obtain ⟨g,hg,ys,hown,hrep,hsz,hone,hp⟩:=r2.blk k _ hlive;have hu:u=g:=by
  cases r1 with
  | own _ _ ad cap hm=>rw [hm] at hg;cases hg;rfl
 subst hu;have hno0:∀b,¬BA μ [] b:=λb ⟨i,bi,g,h,_⟩=>by simp [Az,lk] at h
 obtain ⟨J,hJ,hJs,hJr,hJo⟩:∃J:Imm,I'.le J/\(∀b,b<w.heap.size->J b=I' b)/\RepV J u (.sl es)/\(∀k o,J k=some o->(I' k=some o\/w'.heap[k]?=some o)):=by
  rcases hown.2 with ⟨rfl,h0⟩ | ⟨gb,cap,cur,rfl,_,hheap,hle,hcm,hcs,htake⟩
  ·have:es=[]:=List.eq_nil_of_length_eq_zero h0;subst this;exact ⟨I',Imm.le_refl I',λ_ _=>rfl,.slnil,λk o h=>.inl h⟩
  ·have hno:=(r2.apart k _ _ gb hlive hg rfl).1;have hge:w.heap.size<=gb:=by
    rcases Nat.lt_or_ge gb w.heap.size with hlt | hge
    ·exact absurd (r4.fresh gb hlt ⟨k,_,_,hlive,hg,rfl⟩) (hno0 gb)
    ·exact hge
   have hle':I'.le (λk=>if k=gb then some (.cells cur e (0,0)) else I' k):=λk o h=>by
    have:k≠gb:=λe=>by rw [e,hno] at h;cases h
    simp [this,h]
   refine ⟨_,hle',λb hb=>if_neg (by omega),?_,λk o h=>?_⟩
   ·refine X4 (w:=w') (xs:=ys) (u:=.slice (some ⟨gb,0,none⟩) es.length cap) hown (hrep.mono hle') hsz ?_ (b:=gb) rfl hheap (by simp);intro v hv;obtain ⟨q,hq⟩:=List.mem_iff_getElem?.1 hv;have hlt:q<es.flatten.length:=by rw [<- hrep.1];exact (List.getElem?_eq_some_iff.1 hq).1
    obtain ⟨c,hc,hx⟩:=List.mem_flatten.1 (List.getElem_mem hlt);exact (hrep.2 q v _ hq (List.getElem?_eq_getElem hlt)).one (hone c hc _ hx)
   ·by_cases hk:k=gb
    ·subst hk;simp at h;subst h;exact .inr hheap
    ·simp [hk] at h;exact .inl h
 refine ⟨J,μ',.imm _ _ hJr,?_,r3,?_⟩
 ·exact { imm:=λb o h=>(hJo b o h).elim (λh=>r2.imm b o h) id,blk:=λi b h=>by simp [Az,lk] at h,apart:=λi b g k h=>by simp [Az,lk] at h,inj:=λi j bi bj gi gj k h=>by simp [Az,lk] at h,nodup:=r2.nodup,idsFree:=r2.idsFree }
 ·exact { imm:=λb o h=>hJ b o (r4.imm b o h),os:=r4.os,tape:=r4.tape,output:=r4.output,size:=r4.size,block:=r4.block,fresh:=λb _ ⟨i,bi,g,h,_⟩=>by simp [Az,lk] at h,old:=λb hb ho=>by rw [hJs b hb];exact r4.old b hb ho }
end Go.Hk
namespace Go.Hk
open Go.Proofs
theorem T7 (c:Cse) (sz:List (List V)) (t:Ty) (ho:OkW c.datas) (ht:AI c.datas t=true) :
  Bt Tryz.prog 176 [.imm (AQ c sz),.imm (.agg (Ao t))] [] (.ret (.own 2 (B8 (A6 c.datas t)).length) [(2,some (.row 122 3 (B8 (A6 c.datas t))))]):=by
 obtain ⟨ds,⟨c1,c2,c3,c4⟩,rows⟩:=c;obtain ⟨so,n,x,ps⟩:=t;simp only at ho ht ⊢;simp only [A6];refine Ae Ai Tryz.func176 (by decide +kernel) rfl [1,2,3,4] rfl rfl ?_;refine Aj rfl ?_;by_cases h2:so=2
 ·subst h2;refine Ah rfl λh=>?_;refine pK 4 rfl (by simp) ?_;refine Y1 Ai 2 rfl (by simp) ?_;refine Aj rfl ?_;exact Au ⟨_,rfl,rfl,rfl,trivial⟩
 rw [if_neg h2];refine Ab rfl (λh=>absurd (by simpa using h) h2) (λh=>?_);clear h;refine Ak rfl ?_;by_cases h3:so=3
 ·subst h3;refine Ah rfl λh=>?_;refine pK 3 rfl (by simp) ?_;refine Y1 Ai 2 rfl (by simp) ?_;refine Aj rfl ?_;exact Au ⟨_,rfl,rfl,rfl,trivial⟩
 rw [if_neg h3];refine Ab rfl (λh=>absurd (by simpa using h) h3) (λh=>?_);clear h;refine Ak rfl ?_;by_cases h8:so=8
 case neg =>
  rw [if_neg h8];refine Ab rfl (λh=>absurd (by simpa using h) h8) (λh=>?_);refine Ak rfl ?_;refine CZ (e:=122) (sz:=3) 4 2 (by decide) rfl ?_;exact Au ⟨_,rfl,rfl,rfl,trivial⟩
 subst h8;rw [if_pos rfl];obtain ⟨hp,d,hd⟩:=Cr ht 8 n x ps rfl rfl;have hdl:=(ho.lim d (List.mem_of_getElem? hd)).1;rw [hd];simp only;refine Ah rfl λh=>?_;clear h;refine Ak rfl ?_;refine Gr Ai rfl rfl rfl (EK _) (by simp [Ap]) (z:=.int .i64 0) rfl (λ_=>.int _ _) (HV ds x) ?_;refine Aj rfl ?_;rw [show K1 ds x=Ba x 0 ds by simp [K1,hp]];refine mi rfl (c:=Cv d) (λ_=>⟨hp,by simpa using Be hd,by simp⟩) (by simp) ?_;obtain ⟨dn,dc⟩:=d;simp only at hdl;refine mg [] rfl (by simp;rfl) ?_;refine CZ (e:=122) (sz:=3) 5 2 (by decide) rfl ?_;have el:∀i c,dc[i]?=some c->B8 ((dc.take (i+1)).map D2)=B8 ((dc.take i).map D2)++[Bv (D2 c)]:=λi c hc=>by rw [Bh hc,List.map_append,OL];rfl
 refine An (λi:Nat=>[(37,.imm (.int .i64 i)),(36,.imm (.int .i64 dc.length)),(35,.imm (.sl (dc.map CM))),(5,.own 2 (B8 ((dc.take i).map D2)).length)]) (λi=>[(2,some (.row 122 3 (B8 ((dc.take i).map D2))))]) [3,4] (λi=>dc.length-i)
  (λi=>i<=dc.length) 0 (Nat.zero_le _) ⟨rfl,A0 (by simp),rfl,rfl,trivial⟩ ⟨rfl,trivial⟩ rfl λi hi ih=>?_
 refine Ak rfl ?_;refine Ab rfl (λh=>?_) (λh=>?_)
 ·simp at h;obtain ⟨e,he⟩:=As h;have et:=el i e he;have hlen:(B8 ((dc.take i).map D2)).length<=5:=by simp;omega
  have hih:=ih (i+1) (by omega) (by omega);rw [et] at hih;generalize B8 ((dc.take i).map D2)=l at *;refine Ak rfl ?_;refine mi rfl (c:=CM e) (λ_=>⟨by omega,by simpa using Be he,by simp⟩) (by simp) ?_;obtain ⟨en,ea⟩:=e;refine Aj rfl ?_;refine BE Ai rfl ⟨by simp [D2],by simp [maxLen] at hlen ⊢;omega,by simp at hlen ⊢;omega,trivial⟩ ?_;refine Aj rfl ?_;refine AF 2 4 rfl ?_;exact Ad hih ⟨A0 (B2 (by omega) (by omega)),rfl,rfl,by simp only [List.length_append];rfl,trivial⟩ ⟨rfl,trivial⟩ rfl
 ·simp at h;refine Aw rfl ?_;refine Ak rfl ?_;rw [List.take_of_length_le (by omega)];exact Au ⟨_,rfl,rfl,rfl,trivial⟩
theorem jQ (c:Cse) (sz:List (List V)) (t:Ty) (ho:OkW c.datas) (ht:AI c.datas t=true):Al Tryz.prog 176 [AQ c sz,.agg (Ao t)] (.sl (B8 (A6 c.datas t))) :=
 iD (T7 c sz t ho ht)
def ptr (b:Nat):Value:=.pointer (some ⟨b,0,none⟩)
def Tl (I:Imm) (w:World) (nt:List Ty) (nv:Value):Prop:=(∃xs,w.ownsRow 0 122 3 nv nt.length xs/\RepVL I xs (B8 nt).flatten)/\(nt=[]->nv = .slice none 0 0)
def KU (w:World) (kbs:List Nat) (kv:Value):Prop:=w.ownsRow 0 96 1 kv kbs.length (kbs.map ptr)
def Io (I:Imm) (w:World) (ty:Ty) (nt:List Ty) (hd:Ty) (nv kv:Value) (kbs:List Nat) (b:Nat):Prop :=
 (∃vs ts hs,w.heap[b]?=some (.cells vs 161 (0,0))/\vs.toList=ts++hs++[nv,kv]/\RepVL I ts (Ao ty)/\RepVL I hs (Bv hd))/\Tl I w nt nv/\KU w kbs kv
def AU (nv kv:Value) (b:Nat):List Nat:=b::(nv.ownBlock.toList++kv.ownBlock.toList)
mutual
def Fl (I:Imm) (w:World):Mi->Nat->List Nat->Prop
 | .mk ty nt hd ks,b,F=>∃nv kv kbs Fk,Io I w ty nt hd nv kv kbs b/\D8 I w ks kbs Fk/\F=AU nv kv b++Fk/\F.Nodup
def D8 (I:Imm) (w:World):List Mi->List Nat->List Nat->Prop
 | [],kbs,F=>kbs=[]/\F=[]
 | k::r,kbs,F=>∃kb kr F1 F2,kbs=kb::kr/\Fl I w k kb F1/\D8 I w r kr F2/\F=F1++F2
end
section
variable {I J:Imm} {w w':World}
theorem BV {e:TypeId} {sz n:Nat} {v:Value} {xs:List Value} (h:∀q∈v.ownBlock.toList,w'.heap[q]?=w.heap[q]?) (hr:w.ownsRow 0 e sz v n xs):w'.ownsRow 0 e sz v n xs:=by
 refine ⟨hr.1,?_⟩;rcases hr.2 with h0 | ⟨g,cap,cur,rfl,h1,h2,h3⟩
 ·exact .inl h0
 ·exact .inr ⟨g,cap,cur,rfl,h1,(h g (by simp [Value.ownBlock])).trans h2,h3⟩
theorem FI {ty:Ty} {nt:List Ty} {hd:Ty} {nv kv:Value} {kbs:List Nat} {b:Nat} (h:∀q∈AU nv kv b,w'.heap[q]?=w.heap[q]?) (hn:Io I w ty nt hd nv kv kbs b):Io I w' ty nt hd nv kv kbs b:=by
 obtain ⟨⟨vs,ts,hs,h1,h2⟩,⟨⟨xs,h3,h4⟩,h5⟩,h6⟩:=hn;exact ⟨⟨vs,ts,hs,(h b (by simp [AU])).trans h1,h2⟩,⟨⟨xs,BV (λq hq=>h q (by simp only [AU,List.mem_cons,List.mem_append];exact .inr (.inl hq))) h3,h4⟩,h5⟩,BV (λq hq=>h q (by simp only [AU,List.mem_cons,List.mem_append];exact .inr (.inr hq))) h6⟩
theorem EM {ty:Ty} {nt:List Ty} {hd:Ty} {nv kv:Value} {kbs:List Nat} {b:Nat} (h:I.le J) (hn:Io I w ty nt hd nv kv kbs b):Io J w ty nt hd nv kv kbs b:=by
 obtain ⟨⟨vs,ts,hs,h1,h2,h3,h4⟩,⟨⟨xs,h5,h6⟩,h7⟩,h8⟩:=hn;exact ⟨⟨vs,ts,hs,h1,h2,h3.mono h,h4.mono h⟩,⟨⟨xs,h5,h6.mono h⟩,h7⟩,h8⟩
mutual
theorem Hv:∀{c:Mi} {b:Nat} {F:List Nat},(∀q∈F,w'.heap[q]?=w.heap[q]?)->Fl I w c b F->Fl I w' c b F
 | .mk ty nt hd ks,b,F,h,⟨nv,kv,kbs,Fk,h1,h2,h3,h4⟩=>⟨nv,kv,kbs,Fk,FI (λq hq=>h q (by rw [h3];simp [hq])) h1,CA (λq hq=>h q (by rw [h3];simp [hq])) h2,h3,h4⟩
theorem CA:∀{ks:List Mi} {kbs:List Nat} {F:List Nat},(∀q∈F,w'.heap[q]?=w.heap[q]?)->D8 I w ks kbs F->D8 I w' ks kbs F
 | [],_,_,_,h=>h
 | k::r,kbs,F,h,⟨kb,kr,F1,F2,h1,h2,h3,h4⟩=>⟨kb,kr,F1,F2,h1,Hv (λq hq=>h q (by rw [h4];simp [hq])) h2,CA (λq hq=>h q (by rw [h4];simp [hq])) h3,h4⟩
end
mutual
theorem HS (hI:I.le J):∀{c:Mi} {b:Nat} {F:List Nat},Fl I w c b F->Fl J w c b F
 | .mk ty nt hd ks,b,F,⟨nv,kv,kbs,Fk,h1,h2,h3,h4⟩=>⟨nv,kv,kbs,Fk,EM hI h1,DZ hI h2,h3,h4⟩
theorem DZ (hI:I.le J):∀{ks:List Mi} {kbs:List Nat} {F:List Nat},D8 I w ks kbs F->D8 J w ks kbs F
 | [],_,_,h=>h
 | k::r,kbs,F,⟨kb,kr,F1,F2,h1,h2,h3,h4⟩=>⟨kb,kr,F1,F2,h1,HS hI h2,DZ hI h3,h4⟩
end
theorem Jn {c:Mi} {b:Nat} {F:List Nat} (h:Fl I w c b F):F.Nodup:=by
 obtain ⟨ty,nt,hd,ks⟩:=c;obtain ⟨_,_,_,_,_,_,_,h⟩:=h;exact h
theorem H1:∀{ks:List Mi} {kbs:List Nat} {F:List Nat},D8 I w ks kbs F->kbs.length=ks.length
 | [],_,_,h=>by rw [h.1];rfl
 | k::r,_,_,⟨kb,kr,F1,F2,h1,_,h3,_⟩=>by rw [h1];simp [H1 h3]
theorem LJ:∀{ks:List Mi} {kbs:List Nat} {F:List Nat} {i:Nat} {k:Mi},D8 I w ks kbs F->ks[i]?=some k->∃kb F1 Fk F2,kbs[i]?=some kb/\Fl I w k kb Fk/\F=F1++Fk++F2 /\
  ∀J w2 k' Fk',I.le J->(∀q∈F1++F2,w2.heap[q]?=w.heap[q]?)->Fl J w2 k' kb Fk'->D8 J w2 (ks.set i k') kbs (F1++Fk'++F2)
 | [],_,_,i,k,_,h=>by simp at h
 | x::r,kbs,F,0,k,⟨kb,kr,F1,F2,h1,h2,h3,h4⟩,h=>by
  simp at h;subst h;subst h1;refine ⟨kb,[],F1,F2,rfl,h2,by simpa using h4,λJ w2 k' Fk' hI hw hk=>?_⟩;simp only [List.set_cons_zero];exact ⟨kb,kr,Fk',F2,rfl,hk,DZ hI (CA (λq hq=>hw q (by simp [hq])) h3),by simp⟩
 | x::r,kbs,F,i+1,k,⟨kb,kr,F1,F2,h1,h2,h3,h4⟩,h=>by
  subst h1;obtain ⟨kb',G1,Gk,G2,g1,g2,g3,g4⟩:=LJ h3 (i:=i) (k:=k) (by simpa using h);refine ⟨kb',F1++G1,Gk,G2,by simpa using g1,g2,by rw [h4,g3];simp,λJ w2 k' Fk' hI hw hk=>?_⟩;simp only [List.set_cons_succ];exact ⟨kb,kr,F1,G1++Fk'++G2,rfl,HS hI (Hv (λq hq=>hw q (by simp [hq])) h2),g4 J w2 k' Fk' hI (λq hq=>hw q (by simp at hq ⊢;rcases hq with h | h <;> simp [h])) hk,by simp⟩
end
def Bk (c:Mi) (b:Nat):Asn where
 P _ I w bs:=∃F,Fl I w c b F/\∀q∈F,q∈bs
 mono:=λh ⟨F,h1,h2⟩=>⟨F,HS h h1,h2⟩
 loc:=λh ⟨F,h1,h2⟩=>⟨F,Hv (λq hq=>h q (h2 q hq)) h1,h2⟩
def GF (c:Mi):Asn where
 P us I w bs:=∃b F,us=[ptr b]/\Fl I w c b F/\∀q∈F,q∈bs
 mono:=λh ⟨b,F,h0,h1,h2⟩=>⟨b,F,h0,HS h h1,h2⟩
 loc:=λh ⟨b,F,h0,h1,h2⟩=>⟨b,F,h0,Hv (λq hq=>h q (h2 q hq)) h1,h2⟩
def CU (ty:Ty) (nt:List Ty) (hd:Ty) (ks:List Mi) (nv kv:Value) (kbs:List Nat) (b:Nat):Asn where
 P _ I w bs:=∃Fk,Io I w ty nt hd nv kv kbs b/\D8 I w ks kbs Fk/\(AU nv kv b++Fk).Nodup/\∀q∈AU nv kv b++Fk,q∈bs
 mono:=λh ⟨F,h1,h2,h3⟩=>⟨F,EM h h1,DZ h h2,h3⟩
 loc:=λh ⟨F,h1,h2,h3,h4⟩=>⟨F,FI (λq hq=>h q (h4 q (by simp [hq]))) h1,CA (λq hq=>h q (h4 q (by simp [hq]))) h2,h3,h4⟩
def GE (b x:Nat) (T:Mi->Mi):Asn where
 P _ I w bs:=∀J w2 k F,I.le J->(∀q∈bs,w2.heap[q]?=w.heap[q]?)->Fl J w2 k x F->(∀q∈F,q∉bs)->∃G,Fl J w2 (T k) b G/\∀q∈G,q∈bs\/q∈F
 mono:=λh h1 J w2 k F hJ=>h1 J w2 k F (λb o hb=>hJ b o (h b o hb))
 loc:=λh h1 J w2 k F hJ hw=>h1 J w2 k F hJ λq hq=>(hw q hq).trans (h q hq)
theorem KO {I:Imm} {w:World} {ty:Ty} {nt:List Ty} {hd:Ty} {ks:List Mi} {b:Nat} {us:List Value} {bs:List Nat} (h:(Bk (.mk ty nt hd ks) b).P us I w bs):∃x:Value×Value×List Nat,(CU ty nt hd ks x.1 x.2.1 x.2.2 b).P us I w bs:=by
 obtain ⟨F,⟨nv,kv,kbs,Fk,h1,h2,h3,h4⟩,h5⟩:=h;subst h3;exact ⟨(nv,kv,kbs),Fk,h1,h2,h4,h5⟩
theorem KP {I:Imm} {w:World} {ty:Ty} {nt:List Ty} {hd:Ty} {ks:List Mi} {nv kv:Value} {kbs:List Nat} {b:Nat} {us vs:List Value} {bs:List Nat} (h:(CU ty nt hd ks nv kv kbs b).P us I w bs):(Bk (.mk ty nt hd ks) b).P vs I w bs:=by
 obtain ⟨Fk,h1,h2,h3,h4⟩:=h;exact ⟨_,⟨nv,kv,kbs,Fk,h1,h2,rfl,h3⟩,h4⟩
theorem S5 {I:Imm} {w:World} {b x:Nat} {T:Mi->Mi} {k:Mi} {us vs:List Value} {b1 b2:List Nat} (h:(GE b x T).P us I w b1) (hk:(Bk k x).P vs I w b2) (hd:∀q∈b1,q∉b2):∃bs,(∀q∈bs,q∈b1\/q∈b2)/\(Bk (T k) b).P [] I w bs:=by
 obtain ⟨F,h1,h2⟩:=hk;obtain ⟨G,g1,g2⟩:=h I w k F (Imm.le_refl I) (λ_ _=>rfl) h1 (λq hq hq1=>hd q hq1 (h2 q hq));exact ⟨G,λq hq=>(g2 q hq).imp id (h2 q),G,g1,λq hq=>hq⟩
theorem aG {I:Imm} {w:World} {b x y:Nat} {T S:Mi->Mi} {us vs:List Value} {b1 b2:List Nat} (h:(GE b x T).P us I w b1) (hk:(GE x y S).P vs I w b2) (hd:∀q∈b1,q∉b2):(GE b y (λk=>T (S k))).P [] I w (b1++b2):=by
 intro J w2 k F hJ hw hm hF;obtain ⟨G,g1,g2⟩:=hk J w2 k F hJ (λq hq=>hw q (by simp [hq])) hm (λq hq hq2=>hF q hq (by simp [hq2]));obtain ⟨G',g3,g4⟩:=h J w2 (S k) G hJ (λq hq=>hw q (by simp [hq])) g1 (λq hq hq1=>by
  rcases g2 q hq with h | h
  ·exact hd q hq1 h
  ·exact hF q h (by simp [hq1]))
 refine ⟨G',g3,λq hq=>?_⟩;rcases g4 q hq with h | h
 ·exact .inl (by simp [h])
 ·rcases g2 q h with h | h
  ·exact .inl (by simp [h])
  ·exact .inr h
theorem lU {I:Imm} {w:World} {b:Nat} {us:List Value} {bs:List Nat}:(GE b b (λk=>k)).P us I w bs:=λJ w2 k F _ _ hm _=>⟨F,hm,λq hq=>.inr hq⟩
end Go.Hk
namespace Go.Hk
section
variable {P:Program} {n:Nat} {F:List Nat} {Q:DQ} {tt:TT} {env env':Env} {st st':St} {ids ids':List Nat} {k todo todo':List DI} {I:Imm} {μ:Mu} {w w':World} {a:Act}
theorem H7 (id t j:Nat) {B:Asn} (A:Asn) {v:Value} (hl:lk st id=some (some (.hp B))) (ht:lk env t=some (.raw v)) (h1:v.oneCell'=true)
  (hA:∀us I w bs,B.P us I w bs->A.P [v] I w bs) (h:DGo P n F Q todo ((t,.hv j 0)::env) ((j,some (.hp A))::(id,none)::st) ids'):DGo P n F Q todo env st (j::ids'):=by
 refine Dl λI μ a w hc=>?_;obtain ⟨g,hg,us,bs,rfl,hP⟩:=hc.blk id _ hl;obtain ⟨q1,q2,q3⟩:=StRep.relay (R:=[id]) (new:=[(j,NM [v] bs,.hp A)]) (ids':=ids') hc.toStRep
  (λp hp b hb=>by
   rw [List.mem_singleton.1 hp] at hb;exact ⟨id,_,_,by simp,hl,hg,Bb.2 (Bb.1 hb)⟩)
  (λp hp q hq b _ _=>by rw [List.mem_singleton.1 hp,List.mem_singleton.1 hq]) (Imm.le_refl I) hc.imm (λb o h=>.inl h)
  (λ_ p hp=>by rw [List.mem_singleton.1 hp];exact ⟨[v],bs,rfl,hA us I w bs hP⟩)
 have hmj:E3 [(j,NM [v] bs,.hp A)] μ j=some (NM [v] bs):=by simp [E3,lk]
 refine ⟨I,_,_,_,ids',q2,λt' d hd=>?_,q3,.of_le q1,h⟩;by_cases e:t=t'
 ·subst e;rw [Ax] at hd;cases hd;have hv:=(hc.env t _ ht).rawInv;rw [hv];exact .hv v j 0 [v] bs hmj rfl h1
 ·rw [A5 _ _ e] at hd;exact (hc.env t' d hd).mono (Imm.le_refl I) q1
end
end Go.Hk
namespace Go.Hk
open Go.Proofs
def I7:Value:=.slice none 0 0
theorem JV {I:Imm} {v:Value} (h:RepD I noMu v .nils):v=I7:=by cases h;rfl
theorem R8 {I:Imm} {w:World} {ty:Ty} {hd:Ty} {b:Nat} {us:List Value} {bs:List Nat} (h:(RS b 161 ((Ao ty++Bv hd).map .imm++[.nils,.nils])).P us I w bs):(Bk (.mk ty [] hd []) b).P us I w bs:=by
 obtain ⟨h1,vs,h2,h3,h4⟩:=h;obtain ⟨t1,t2,t3,t4⟩:=ty;obtain ⟨f1,f2,f3,f4⟩:=hd;have hl:=h3.1;simp only [Ao,Bv,List.map_append,List.map_cons,List.map_nil,List.cons_append,List.nil_append,List.length_cons,List.length_nil] at hl h3
 match hvs:vs.toList,hl with
 | [a0,a1,a2,a3,a4,a5,a6,a7,a8],_ =>
 rw [hvs] at h3;have e7:a7=I7:=JV (h3.2 7 a7 _ rfl rfl);have e8:a8=I7:=JV (h3.2 8 a8 _ rfl rfl);subst e7;subst e8;subst h1;refine ⟨[b],⟨I7,I7,[],[],⟨⟨vs,[a0,a1,a2,a3],[a4,a5,a6],h2,by rw [hvs];rfl,?_,?_⟩,⟨⟨[],World.ownsRow_nil w 0 _ 3,.nil⟩,λ_=>rfl⟩,World.ownsRow_nil w 0 _ 1⟩,⟨rfl,rfl⟩,rfl,by simp⟩,λq hq=>hq⟩
 ·exact .mk (h3.2 0 a0 _ rfl rfl).immInv (.mk (h3.2 1 a1 _ rfl rfl).immInv (.mk (h3.2 2 a2 _ rfl rfl).immInv (.mk (h3.2 3 a3 _ rfl rfl).immInv .nil)))
 ·exact .mk (h3.2 4 a4 _ rfl rfl).immInv (.mk (h3.2 5 a5 _ rfl rfl).immInv (.mk (h3.2 6 a6 _ rfl rfl).immInv .nil))
theorem Gt (wd:V) (t:Ty):Bt Tryz.prog 42 [.imm wd,.imm (.agg (Ao t))] [] (.ret (.hv 2 0) [(2,some (.hp (GF (Ay t))))]):=by
 obtain ⟨t1,t2,t3,t4⟩:=t;refine Ae Ai Tryz.func42 (by decide +kernel) rfl [1,3,4,2] rfl rfl ?_;refine Aj rfl ?_;refine GN 3 4 rfl rfl λb=>?_;refine H7 4 4 2 (GF (Ay (.mk t1 t2 t3 t4))) rfl rfl rfl (λus I w bs h=>?_) ?_
 ·obtain ⟨F,h1,h2⟩:=R8 (ty:=.mk t1 t2 t3 t4) (hd:=zT) h;exact ⟨b,F,rfl,h1,h2⟩
 exact Au ⟨_,rfl,rfl,rfl,trivial⟩
section
variable {I J:Imm} {w w':World} {ty:Ty} {nt:List Ty} {hd:Ty} {ks:List Mi} {nv kv:Value} {kbs:List Nat} {b:Nat} {us:List Value} {bs:List Nat}
theorem Q4 {e:TypeId} {sz n:Nat} {v:Value} {xs:List Value} {q:Nat} (h:w.ownsRow 0 e sz v n xs) (hq:q∈v.ownBlock.toList):q<w.heap.size:=by
 rcases h.2 with ⟨rfl,_⟩ | ⟨g,cap,cur,rfl,_,h2,_⟩
 ·simp [Value.ownBlock] at hq
 ·simp [Value.ownBlock] at hq;subst hq;exact BT h2
theorem U1 (h:Io I w ty nt hd nv kv kbs b):∀q∈AU nv kv b,q<w.heap.size:=by
 obtain ⟨⟨vs,ts,hs,h1,_⟩,⟨⟨xs,h2,_⟩,_⟩,h3⟩:=h;intro q hq;simp only [AU,List.mem_cons,List.mem_append] at hq;rcases hq with rfl | hq | hq
 ·exact BT h1
 ·exact Q4 h2 hq
 ·exact Q4 h3 hq
mutual
theorem Z8:∀{c:Mi} {b:Nat} {F:List Nat},Fl I w c b F->∀q∈F,q<w.heap.size
 | .mk ty nt hd ks,b,F,⟨nv,kv,kbs,Fk,h1,h2,h3,_⟩,q,hq=>by
  rw [h3] at hq;rcases List.mem_append.1 hq with hq | hq
  ·exact U1 h1 q hq
  ·exact P8 h2 q hq
theorem P8:∀{ks:List Mi} {kbs:List Nat} {F:List Nat},D8 I w ks kbs F->∀q∈F,q<w.heap.size
 | [],_,_,h,q,hq=>by rw [h.2] at hq;cases hq
 | k::r,kbs,F,⟨kb,kr,F1,F2,h1,h2,h3,h4⟩,q,hq=>by
  rw [h4] at hq;rcases List.mem_append.1 hq with hq | hq
  ·exact Z8 h2 q hq
  ·exact P8 h3 q hq
end
theorem Lq:∀{ks:List Mi} {kbs:List Nat} {F:List Nat} {ks2:List Mi} {kbs2:List Nat} {F2:List Nat},D8 I w ks kbs F->D8 I w ks2 kbs2 F2->D8 I w (ks++ks2) (kbs++kbs2) (F++F2)
 | [],_,_,_,_,_,h,h2=>by rw [h.1,h.2];exact h2
 | k::r,kbs,F,_,_,_,⟨kb,kr,F1,F2',h1,h2,h3,h4⟩,h5=>⟨kb,_,F1,_,by rw [h1];rfl,h2,Lq h3 h5,by rw [h4];simp⟩
theorem FR {off:Nat} {ds sub:List D} (h:Dm I w b 0 ds) (hs:∀(j:Nat) d,sub[j]?=some d->ds[off+j]?=some d):Dm I w b off sub:=by
 obtain ⟨vs,t,k,h1,h2⟩:=h;refine ⟨vs,t,k,h1,λj d hd=>?_⟩;obtain ⟨c,h3,h4⟩:=h2 _ _ (hs j d hd);exact ⟨c,by simpa using h3,h4⟩
def iV (ty hd:Ty) (nv kv:Value):List D:=(Ao ty++Bv hd).map .imm++[.raw nv,.raw kv]
theorem EJ (h:Io I w ty nt hd nv kv kbs b):Dm I w b 0 (iV ty hd nv kv):=by
 obtain ⟨⟨vs,ts,hs,h1,h2,h3,h4⟩,⟨⟨xs,h5,_⟩,_⟩,h6⟩:=h;obtain ⟨t1,t2,t3,t4⟩:=ty;obtain ⟨f1,f2,f3,f4⟩:=hd;have hl3:=h3.1;have hl4:=h4.1;have h3:=h3.2;have h4:=h4.2;simp only [Ao,Bv,List.length_cons,List.length_nil] at hl3 hl4 h3 h4;have hn:=HN h5;have hk:=HN h6
 match ts,hl3 with
 | [a0,a1,a2,a3],_ =>
 match hs,hl4 with
 | [a4,a5,a6],_ =>
 have g:∀(j:Nat) (c:Value),([a0,a1,a2,a3,a4,a5,a6,nv,kv]:List Value)[j]?=some c->vs[0+j]?=some c:=λj c hc=>by
  have:vs.toList[j]?=some c:=by rw [h2];exact hc
  simpa using this
 refine ⟨vs,_,_,h1,λj d hd=>?_⟩;simp only [iV,Ao,Bv,List.map_append,List.map_cons,List.map_nil,List.cons_append,List.nil_append] at hd;have r0:=h3 0 a0 _ rfl rfl;have r1:=h3 1 a1 _ rfl rfl;have r2:=h3 2 a2 _ rfl rfl;have r3:=h3 3 a3 _ rfl rfl;have r4:=h4 0 a4 _ rfl rfl;have r5:=h4 1 a5 _ rfl rfl;have r6:=h4 2 a6 _ rfl rfl
 match j,hd with
 | 0,hd=>cases hd;exact ⟨a0,g 0 a0 rfl,r0.one rfl,.imm _ _ r0⟩
 | 1,hd=>cases hd;exact ⟨a1,g 1 a1 rfl,r1.one rfl,.imm _ _ r1⟩
 | 2,hd=>cases hd;exact ⟨a2,g 2 a2 rfl,r2.one rfl,.imm _ _ r2⟩
 | 3,hd=>cases hd;exact ⟨a3,g 3 a3 rfl,r3.one rfl,.imm _ _ r3⟩
 | 4,hd=>cases hd;exact ⟨a4,g 4 a4 rfl,r4.one rfl,.imm _ _ r4⟩
 | 5,hd=>cases hd;exact ⟨a5,g 5 a5 rfl,r5.one rfl,.imm _ _ r5⟩
 | 6,hd=>cases hd;exact ⟨a6,g 6 a6 rfl,r6.one rfl,.imm _ _ r6⟩
 | 7,hd=>cases hd;exact ⟨nv,g 7 nv rfl,hn,.raw _ hn⟩
 | 8,hd=>cases hd;exact ⟨kv,g 8 kv rfl,hk,.raw _ hk⟩
 | j+9,hd=>simp at hd
theorem KQ (h:(CU ty nt hd ks nv kv kbs b).P us I w bs):Dm I w b 0 ((Ao ty).map .imm):=by
 obtain ⟨F,h,_⟩:=h;obtain ⟨t1,t2,t3,t4⟩:=ty;obtain ⟨f1,f2,f3,f4⟩:=hd;exact FR (off:=0) (EJ h) λj d hd=>by match j,hd with | 0,hd=>exact hd | 1,hd=>exact hd | 2,hd=>exact hd | 3,hd=>exact hd | j+4,hd=>simp [Ao] at hd
theorem cH (h:(CU ty nt hd ks nv kv kbs b).P us I w bs):Dm I w b 0 [.imm (.int .i64 (AK ty))]:=by
 obtain ⟨F,h,_⟩:=h;obtain ⟨t1,t2,t3,t4⟩:=ty;obtain ⟨f1,f2,f3,f4⟩:=hd;exact FR (off:=0) (EJ h) λj d hd=>by match j,hd with | 0,hd=>exact hd | j+1,hd=>simp at hd
theorem P6 (h:(CU ty nt hd ks nv kv kbs b).P us I w bs):Dm I w b 4 ((Bv hd).map .imm):=by
 obtain ⟨F,h,_⟩:=h;obtain ⟨t1,t2,t3,t4⟩:=ty;obtain ⟨f1,f2,f3,f4⟩:=hd;exact FR (EJ h) λj d hd=>by match j,hd with | 0,hd=>exact hd | 1,hd=>exact hd | 2,hd=>exact hd | j+3,hd=>simp [Bv] at hd
theorem NF (h:(CU ty nt hd ks nv kv kbs b).P us I w bs):Dm I w b 4 [.imm (.int .i64 (AK hd))]:=by
 obtain ⟨F,h,_⟩:=h;obtain ⟨t1,t2,t3,t4⟩:=ty;obtain ⟨f1,f2,f3,f4⟩:=hd;exact FR (EJ h) λj d hd=>by match j,hd with | 0,hd=>exact hd | j+1,hd=>simp at hd
theorem Jq (h:(CU ty nt hd ks nv kv kbs b).P us I w bs):Dm I w b 7 [.raw nv]:=by
 obtain ⟨F,h,_⟩:=h;obtain ⟨t1,t2,t3,t4⟩:=ty;obtain ⟨f1,f2,f3,f4⟩:=hd;exact FR (EJ h) λj d hd=>by match j,hd with | 0,hd=>exact hd | j+1,hd=>simp at hd
theorem KR (h:(CU ty nt hd ks nv kv kbs b).P us I w bs):Dm I w b 8 [.raw kv]:=by
 obtain ⟨F,h,_⟩:=h;obtain ⟨t1,t2,t3,t4⟩:=ty;obtain ⟨f1,f2,f3,f4⟩:=hd;exact FR (EJ h) λj d hd=>by match j,hd with | 0,hd=>exact hd | j+1,hd=>simp at hd
theorem CX {b q:Nat} {cs:Array Value} (h:q≠b):(w.setRow b cs).heap[q]?=w.heap[q]?:=setRow_other w b q cs h
theorem LF {nv kv:Value} {b:Nat} {F:List Nat} (h:(AU nv kv b++F).Nodup):(∀q∈nv.ownBlock.toList++kv.ownBlock.toList++F,q≠b):=by
 simp only [AU,List.cons_append,List.nodup_cons] at h;intro q hq e;subst e;exact h.1 (by simpa using hq)
theorem LG {off:Nat} {ds:List D} {nt':List Ty} {hd':Ty} {ks':List Mi} {nv' kv':Value} {kbs':List Nat} (hoff:off+ds.length<=9)
  (hcell:∀(I:Imm) (ts hs cs:List Value),RepVL I ts (Ao ty)->RepVL I hs (Bv hd)->RepL I noMu cs ds->∃hs',(ts++hs++[nv,kv]).take off++cs++(ts++hs++[nv,kv]).drop (off+ds.length)=ts++hs'++[nv',kv']/\RepVL I hs' (Bv hd'))
  (hnot:∀I w,Tl I w nt nv->Tl I w nt' nv') (hrow:∀w,KU w kbs kv->KU w kbs' kv') (hkids:∀I w F,D8 I w ks kbs F->∃F',D8 I w ks' kbs' F'/\F'.Sublist F)
  (hn:nv'.ownBlock.toList.Sublist nv.ownBlock.toList) (hk:kv'.ownBlock.toList.Sublist kv.ownBlock.toList) :
  Nj (CU ty nt hd ks nv kv kbs b) (CU ty nt' hd' ks' nv' kv' kbs' b) b off ds:=by
 intro us I w bs ⟨Fk,⟨⟨vs,ts,hs,h1,h2,h3,h4⟩,h5,h6⟩,h7,h8,h9⟩;have hl:vs.toList.length=9:=by
  have:=h3.1;have:=h4.1;obtain ⟨t1,t2,t3,t4⟩:=ty;obtain ⟨f1,f2,f3,f4⟩:=hd;rw [h2];simp [Ao,Bv] at *;omega
 have hvl:vs.size=9:=by simpa using hl
 refine ⟨h9 b (by simp [AU]),vs,_,h1,by omega,λcs hcs hone=>?_⟩;obtain ⟨hs',e1,e2⟩:=hcell I ts hs cs h3 h4 hcs;obtain ⟨F',g1,g2⟩:=hkids I w Fk h7;have hne:=LF h8;have hsub:(AU nv' kv' b++F').Sublist (AU nv kv b++Fk):=by
  simp only [AU,List.cons_append];exact .cons_cons _ ((hn.append hk).append g2)
 have hnot':=hnot I w h5;have hrow':=hrow w h6;refine ⟨F',⟨⟨_,ts,hs',setRow_heap w b vs _ _ _ h1,by rw [List.toList_toArray,h2];exact e1,h3,e2⟩,⟨?_,hnot'.2⟩,?_⟩,?_,h8.sublist hsub,λq hq=>h9 q (hsub.subset hq)⟩
 ·obtain ⟨⟨xs,x1,x2⟩,_⟩:=hnot';exact ⟨xs,BV (λq hq=>CX (hne q (by simp only [List.mem_append];exact .inl (.inl (hn.subset hq))))) x1,x2⟩
 ·exact BV (λq hq=>CX (hne q (by simp only [List.mem_append];exact .inl (.inr (hk.subset hq))))) hrow'
 ·exact CA (λq hq=>CX (hne q (by simp only [List.mem_append];exact .inr (g2.subset hq)))) g1
theorem gU {cs:List Value} {xs:List V} (h:RepL I noMu cs (xs.map .imm)):RepVL I cs xs:=by
 refine ⟨by simpa using h.1,λi v x hv hx=>(h.2 i v (.imm x) hv (by simp [hx])).immInv⟩
theorem mB {ts hs cs:List Value} {nv kv:Value} (h1:ts.length=4) (h2:hs.length=3) (h3:cs.length=3):(ts++hs++[nv,kv]).take 4++cs++(ts++hs++[nv,kv]).drop (4+3)=ts++cs++[nv,kv]:=by
 match ts,h1 with
 | [a0,a1,a2,a3],_ =>
 match hs,h2 with
 | [a4,a5,a6],_=>simp
theorem PX:(Ao ty).length=4:=by obtain ⟨t1,t2,t3,t4⟩:=ty;rfl
theorem fV (h:Ty):Nj (CU ty nt hd ks nv kv kbs b) (CU ty nt h ks nv kv kbs b) b 4 ((Bv h).map .imm):=by
 refine LG (by simp) (λI ts hs cs h1 h2 h3=>⟨cs,?_,gU h3⟩) (λ_ _ h=>h) (λ_ h=>h) (λ_ _ F h=>⟨F,h,.refl _⟩) (.refl _) (.refl _);have e3:cs.length=3:=by have:=h3.1;simpa using this
 have:=mB (nv:=nv) (kv:=kv) (by rw [h1.1,PX]) (by rw [h2.1];simp) e3;simpa using this
theorem fT:Nj (CU ty nt hd ks nv kv kbs b) (CU ty [] hd ks I7 kv kbs b) b 7 [.nils]:=by
 refine LG (by simp) (λI ts hs cs h1 h2 h3=>⟨hs,?_,h2⟩) (λI w _=>⟨⟨[],World.ownsRow_nil w 0 _ 3,.nil⟩,λ_=>rfl⟩) (λ_ h=>h) (λ_ _ F h=>⟨F,h,.refl _⟩) (by simp [I7,Value.ownBlock]) (.refl _);have e1:ts.length=4:=by rw [h1.1,PX]
 have e2:hs.length=3:=by rw [h2.1];simp
 have e3:=h3.1
 match ts,e1 with
 | [a0,a1,a2,a3],_ =>
 match hs,e2 with
 | [a4,a5,a6],_ =>
 match cs,e3,h3 with
 | [c],_,h3 =>
  have:c=I7:=JV (h3.2 0 c _ rfl rfl);subst this;simp
theorem fU:Nj (CU ty nt hd ks nv kv kbs b) (CU ty nt hd [] nv I7 [] b) b 8 [.nils]:=by
 refine LG (by simp) (λI ts hs cs h1 h2 h3=>⟨hs,?_,h2⟩) (λ_ _ h=>h) (λw _=>World.ownsRow_nil w 0 _ 1) (λ_ _ F h=>⟨[],⟨rfl,rfl⟩,List.nil_sublist _⟩) (.refl _) (by simp [I7,Value.ownBlock]);have e1:ts.length=4:=by rw [h1.1,PX]
 have e2:hs.length=3:=by rw [h2.1];simp
 have e3:=h3.1
 match ts,e1 with
 | [a0,a1,a2,a3],_ =>
 match hs,e2 with
 | [a4,a5,a6],_ =>
 match cs,e3,h3 with
 | [c],_,h3 =>
  have:c=I7:=JV (h3.2 0 c _ rfl rfl);subst this;simp
end
end Go.Hk
namespace Go.Hk
open Go.Proofs
section
variable {I J:Imm} {w w':World} {ty:Ty} {nt:List Ty} {hd:Ty} {ks:List Mi} {nv kv:Value} {kbs:List Nat} {b:Nat} {us:List Value} {bs:List Nat}
def ZQ (I:Imm) (w:World) (ty hd:Ty) (nv kv:Value) (b:Nat):Prop:=∃vs ts hs,w.heap[b]?=some (.cells vs 161 (0,0))/\vs.toList=ts++hs++[nv,kv]/\RepVL I ts (Ao ty)/\RepVL I hs (Bv hd)
def ZX (ty:Ty) (nt:List Ty) (hd:Ty) (ks:List Mi) (b:Nat):Asn where
 P us I w bs:=∃v nv kv kbs Fk,us=[v]/\ZQ I w ty hd nv kv b/\Tl I w nt nv/\KU w kbs v/\D8 I w ks kbs Fk/\(AU nv v b++Fk).Nodup/\∀q∈AU nv v b++Fk,q∈bs
 mono:=λh ⟨v,nv,kv,kbs,Fk,h0,⟨vs,ts,hs,h1,h2,h3,h4⟩,⟨⟨xs,h5,h6⟩,h7⟩,h8,h9,h10⟩=>⟨v,nv,kv,kbs,Fk,h0,⟨vs,ts,hs,h1,h2,h3.mono h,h4.mono h⟩,⟨⟨xs,h5,h6.mono h⟩,h7⟩,h8,DZ h h9,h10⟩
 loc:=λh ⟨v,nv,kv,kbs,Fk,h0,⟨vs,ts,hs,h1,h2⟩,⟨⟨xs,h5,h6⟩,h7⟩,h8,h9,h10,h11⟩=>⟨v,nv,kv,kbs,Fk,h0,⟨vs,ts,hs,(h b (h11 b (by simp [AU]))).trans h1,h2⟩,
  ⟨⟨xs,BV (λq hq=>h q (h11 q (by simp only [AU,List.cons_append,List.mem_cons,List.mem_append];exact .inr (.inl (.inl hq))))) h5,h6⟩,h7⟩,BV (λq hq=>h q (h11 q (by simp only [AU,List.cons_append,List.mem_cons,List.mem_append];exact .inr (.inl (.inr hq))))) h8,
  CA (λq hq=>h q (h11 q (by simp [hq]))) h9,h10,h11⟩
theorem Uz {e:TypeId} {sz:Nat} {base v':Value} {len:Nat} {xs news:List Value} (h:UU w e sz base len xs news v' w') {q:Nat} (hq:q∈v'.ownBlock.toList):(q∈base.ownBlock.toList)\/w.heap.size<=q:=by
 have hq:v'.ownBlock=some q:=by simpa [Option.mem_toList] using hq
 rcases h.2.2 q hq with h | h
 ·exact .inl (by simp [h])
 ·exact .inr h
theorem ZT {k:Mi} {bytes:Nat} (hb:bytes<=100000) (hl:ks.length<=100):lM (CU ty nt hd ks nv kv kbs b) (lF 96 (GF k)) (ZX ty nt hd (ks++[k]) b) 96 1 bytes kv:=by
 intro us vs I w b1 b2 ⟨Fk,⟨hcell,hnot,hrow⟩,h2,h3,h4⟩ ⟨c,u,us2,bs',g1,g2,g3,g4,⟨kb,F,g5,g6,g7⟩,g8,g9⟩ hdis;subst g5;have hkb:kbs.length<=100:=by rw [H1 h2];exact hl
 have hu:u=ptr kb:=by simpa using g2.symm
 subst hu;refine ⟨kbs.length,1,1,kbs.map ptr,[ptr kb],⟨c,0,none⟩,hrow,λq hq=>h4 q (by simp [AU,hq]),by rw [g1];rfl,rfl,λj u hu=>?_,λu hu=>by simp at hu;subst hu;rfl,⟨by simp only [maxLen];omega,?_⟩,λv' w' hg=>?_⟩
 ·match j with
  | 0 =>
   simp at hu;subst hu;rw [Dz];exact DA g3 0 _ (by simp)
  | j+1=>simp at hu
 ·have:(kbs.length+1)*bytes<=101*100000:=Nat.mul_le_mul (by omega) hb;omega
 have hb2:∀q∈F,q∈b2:=λq hq=>by rw [g9];exact List.mem_cons_of_mem _ (g7 q hq)
 have hne:∀q,q<w.heap.size->q∉kv.ownBlock.toList->w'.heap[q]?=w.heap[q]?:=λq hq hk=>hg.2.1.block q hq (λe=>hk (by simp [e]));have hbase:∀q∈kv.ownBlock.toList,q∈b1:=λq hq=>h4 q (by simp only [AU,List.cons_append,List.mem_cons,List.mem_append];exact .inr (.inl (.inr hq)));have hnod:=h3;simp only [AU,List.cons_append,List.append_assoc] at hnod;obtain ⟨n1,n2⟩:=List.nodup_cons.1 hnod;obtain ⟨n3,n4,n5⟩:=List.nodup_append.1 n2;obtain ⟨n6,n7,n8⟩:=List.nodup_append.1 n4;have hbk:b∉kv.ownBlock.toList:=λh=>n1 (by simp only [List.mem_append];exact .inr (.inl h));have hnk:∀q∈nv.ownBlock.toList,q∉kv.ownBlock.toList:=λq hq hk=>n5 q hq q (by simp only [List.mem_append];exact .inl hk) rfl
 have hFk:∀q∈Fk,q∉kv.ownBlock.toList:=λq hq hk=>n8 q hk q hq rfl;have hltn:=U1 (I:=I) (w:=w) (ty:=ty) (nt:=nt) (hd:=hd) (nv:=nv) (kv:=kv) (kbs:=kbs) (b:=b) ⟨hcell,hnot,hrow⟩;have hltb:b<w.heap.size:=hltn b (by simp [AU]);have hltnv:∀q∈nv.ownBlock.toList,q<w.heap.size:=λq hq=>hltn q (by simp only [AU,List.mem_cons,List.mem_append];exact .inr (.inl hq));have hltF:=P8 h2;have hltG:=Z8 g6;have hFb:∀q∈F,q∉kv.ownBlock.toList:=λq hq hk=>hdis q (hbase q hk) (hb2 q hq);refine ⟨AU nv v' b++(Fk++F),λq hq=>?_,v',nv,kv,kbs++[kb],Fk++F,rfl,?_,?_,?_,?_,?_,λq hq=>hq⟩
 ·simp only [AU,List.cons_append,List.mem_cons,List.mem_append] at hq;have hw:q∈b1\/q∈b2\/(w.heap.size<=q/\q∈v'.ownBlock.toList):=by
   rcases hq with rfl | (hq | hq) | hq | hq
   ·exact .inl (h4 q (by simp [AU]))
   ·exact .inl (h4 q (by simp only [AU,List.cons_append,List.mem_cons,List.mem_append];exact .inr (.inl (.inl hq))))
   ·rcases Uz hg hq with h | h
    ·exact .inl (hbase q h)
    ·exact .inr (.inr ⟨h,hq⟩)
   ·exact .inl (h4 q (by simp [hq]))
   ·exact .inr (.inl (hb2 q hq))
  rcases hw with h | h | ⟨h,hq⟩
  ·exact .inl (.inl h)
  ·exact .inl (.inr h)
  ·exact .inr ⟨h,Q4 hg.1 hq⟩
 ·obtain ⟨vs0,ts,hs,c1,c2⟩:=hcell;exact ⟨vs0,ts,hs,(hne b hltb hbk).trans c1,c2⟩
 ·obtain ⟨⟨xs,x1,x2⟩,x3⟩:=hnot;exact ⟨⟨xs,BV (λq hq=>hne q (hltnv q hq) (hnk q hq)) x1,x2⟩,x3⟩
 ·have:=hg.1;simp only [KU,List.map_append,List.length_append,List.length_cons,List.length_nil,List.map_cons,List.map_nil];exact this
 ·exact Lq (CA (λq hq=>hne q (hltF q hq) (hFk q hq)) h2) ⟨kb,[],F,[],rfl,Hv (λq hq=>hne q (hltG q hq) (hFb q hq)) g6,⟨rfl,rfl⟩,by simp⟩
 ·have hv1:∀q∈v'.ownBlock.toList,q∈kv.ownBlock.toList\/w.heap.size<=q:=λq hq=>Uz hg hq;have hvn:v'.ownBlock.toList.Nodup:=by cases v'.ownBlock <;> simp
  simp only [AU,List.cons_append,List.append_assoc];refine List.nodup_cons.2 ⟨λh=>?_,List.nodup_append.2 ⟨n3,List.nodup_append.2 ⟨hvn,List.nodup_append.2 ⟨n7,Jn g6,λx hx y hy e=>?_⟩,λx hx y hy e=>?_⟩,λx hx y hy e=>?_⟩⟩
  ·simp only [List.mem_append] at h;rcases h with h | h | h | h
   ·exact n1 (by simp only [List.mem_append];exact .inl h)
   ·rcases hv1 b h with h | h
    ·exact hbk h
    ·omega
   ·exact n1 (by simp only [List.mem_append];exact .inr (.inr h))
   ·exact hdis b (h4 b (by simp [AU])) (hb2 b h)
  ·subst e;exact hdis x (h4 x (by simp [hx])) (hb2 x hy)
  ·subst e;rcases List.mem_append.1 hy with hy | hy
   ·rcases hv1 x hx with h | h
    ·exact hFk x hy h
    ·have:=hltF x hy;omega
   ·rcases hv1 x hx with h | h
    ·exact hFb x hy h
    ·have:=hltG x hy;omega
  ·subst e;have hxb1:x∈b1:=h4 x (by simp only [AU,List.cons_append,List.mem_cons,List.mem_append];exact .inr (.inl (.inl hx)));simp only [List.mem_append] at hy;rcases hy with hy | hy | hy
   ·rcases hv1 x hy with h | h
    ·exact hnk x hx h
    ·have:=hltnv x hx;omega
   ·exact n5 x hx x (by simp only [List.mem_append];exact .inr hy) rfl
   ·exact hdis x hxb1 (hb2 x hy)
theorem Z4 {vs:List Value} (h:(CU ty nt hd ks nv kv kbs b).P us I w bs):(CU ty nt hd ks nv kv kbs b).P vs I w bs:=h
theorem V4:RK (ZX ty nt hd ks b) (Bk (.mk ty nt hd ks) b) b 8 0:=by
 intro us I w bs ⟨v,nv,kv,kbs,Fk,h0,⟨vs,ts,hs,h1,h2,h3,h4⟩,h5,h6,h7,h8,h9⟩;have e1:ts.length=4:=by rw [h3.1,PX]
 have e2:hs.length=3:=by rw [h4.1];simp
 have hl:vs.toList.length=9:=by rw [h2];simp [e1,e2]
 refine ⟨h9 b (by simp [AU]),vs,_,h1,by simp at hl;omega,λu hu h1u=>?_⟩;subst h0;have hu:v=u:=by simpa using hu
 subst hu;have hne:=LF h8;refine ⟨AU nv v b++Fk,⟨nv,v,kbs,Fk,⟨⟨_,ts,hs,setRow_heap w b vs _ _ _ h1,?_,h3,h4⟩,⟨?_,h5.2⟩,?_⟩,?_,rfl,h8⟩,h9⟩
 ·rw [List.toList_toArray,h2]
  match ts,e1 with
  | [a0,a1,a2,a3],_ =>
  match hs,e2 with
  | [a4,a5,a6],_=>simp
 ·obtain ⟨⟨xs,x1,x2⟩,_⟩:=h5;exact ⟨xs,BV (λq hq=>CX (hne q (by simp only [List.mem_append];exact .inl (.inl hq)))) x1,x2⟩
 ·exact BV (λq hq=>CX (hne q (by simp only [List.mem_append];exact .inl (.inr hq)))) h6
 ·exact CA (λq hq=>CX (hne q (by simp only [List.mem_append];exact .inr hq))) h7
end
theorem Yx (c:Cse) (sz:List (List V)) (m:Mi) (h:Ty) (b:Nat) (ho:OkW c.datas) (hn:AI c.datas m.ty=true) :
  Bt Tryz.prog 138 [.imm (AQ c sz),.raw (ptr b),.imm (.agg (Bv h))] [(1,some (.hp (Bk m b)))] (.ret HF [(2,some (.hp (Bk (AY c.datas m h) b)))]):=by
 have hA:=PK c sz m.ty (C5 h) ho.dif hn;have hlen:=ES ho m.ty (C5 h);simp only [AY];generalize AZ c.datas m.ty (C5 h)=L at *;obtain ⟨L,lb⟩:=L;simp only at hA hlen ⊢;obtain ⟨⟨so,n,x,ps⟩,nt,⟨f,hd2,hd3,hd4⟩,ks⟩:=m;obtain ⟨h1,h2,h3,h4⟩:=h;simp only [Mi.ty] at *;refine Ae Ai Tryz.func138 (by decide +kernel) rfl [2,3,4,5,6,7,8] rfl rfl ?_;refine Lc 1 2 (λy:Value×Value×List Nat=>CU _ nt _ ks y.1 y.2.1 y.2.2 b) rfl (λvs I w bs h=>let ⟨y,hy⟩:=KO h;⟨y,bs,λq hq=>hq,Z4 hy⟩) λy=>?_;obtain ⟨nv,kv,kbs⟩:=y;refine Ak rfl ?_;refine Rj Ai 2 _ rfl rfl (fV (.mk h1 h2 h3 h4)) ?_;refine Aj rfl ?_;refine Rj Ai 2 _ rfl rfl fT ?_;refine Aj rfl ?_;refine Rj Ai 2 _ rfl rfl fU ?_;refine Aj rfl ?_
 refine B5 Ai 2 ((Ao (.mk so n x ps)).map .imm) rfl rfl (λ_ vs I w bs h=>KQ h) rfl rfl (by simp [Ap]) ?_;refine Du rfl ?_;refine AE rfl hA ?_;refine mg [] rfl (by simp [Ap];rfl) ?_;have el:∀i t,L[i]?=some t->(L.take (i+1)).map Ay=(L.take i).map Ay++[Ay t]:=λi t ht=>by rw [Bh ht,List.map_append];rfl
 refine Cl 2 (λ_:Unit=>Bk (.mk (.mk so n x ps) [] (.mk h1 h2 h3 h4) []) b) rfl (λvs I w bs h=>⟨(),KP h⟩) λ_=>?_;refine An (λi:Nat=>[(33,.imm (.int .i64 i)),(32,.imm (.int .i64 L.length)),(31,.imm (.sl (Bx L))),(1,.raw (ptr b)),(0,.imm (AQ c sz))])
  (λi=>[(2,some (.hp (Bk (.mk (.mk so n x ps) [] (.mk h1 h2 h3 h4) ((L.take i).map Ay)) b)))]) [4,5,6,7,8] (λi=>L.length-i)
  (λi=>i<=L.length) 0 (Nat.zero_le _) ⟨rfl,A0 (by simp),rfl,rfl,rfl,trivial⟩ ⟨rfl,trivial⟩ rfl λi hi ih=>?_
 refine Ak rfl ?_;refine Ab rfl (λh=>?_) (λh=>?_)
 ·simp at h;obtain ⟨t,ht⟩:=As h;have hih:=ih (i+1) (by omega) (by omega);rw [el i t ht] at hih;have hkl:((L.take i).map Ay).length<=100:=by simp;omega
  generalize (L.take i).map Ay=K at *;refine Cl 2 (λy:Value×Value×List Nat=>CU (.mk so n x ps) [] (.mk h1 h2 h3 h4) K y.1 y.2.1 y.2.2 b) rfl (λvs I w bs h=>KO h) λy=>?_;obtain ⟨nv,kv,kbs⟩:=y;refine Ak rfl ?_;refine mi rfl (c:=Ao t) (λ_=>⟨by simp,by simpa using A4 ht,by simp⟩) (by simp) ?_;obtain ⟨t1,t2,t3,t4⟩:=t;refine Aj rfl ?_;refine B5 Ai 2 [.raw kv] rfl rfl (λ_ vs I w bs h=>KR h) rfl rfl (by simp [Ap]) ?_;refine Du rfl ?_;refine BX [] [(2,5)] [] (fr:=[5]) (nm:=[5]) rfl trivial (by simp) (Gt (AQ c sz) (.mk t1 t2 t3 t4)) trivial rfl trivial rfl rfl rfl ?_;refine Aj rfl ?_;refine jX Ai 5 6 rfl rfl ?_;refine Aj rfl ?_
  refine jY Ai 2 6 7 (ZX (.mk so n x ps) [] (.mk h1 h2 h3 h4) (K++[Ay (.mk t1 t2 t3 t4)]) b) rfl rfl rfl (by decide) (ZT (bytes:=8) (by decide) hkl) ?_;refine Aj rfl ?_;refine NO Ai 7 _ rfl rfl V4 ?_;refine mg [] rfl (by simp [Ap];rfl) ?_;refine AF 2 7 rfl ?_;exact Ad hih ⟨A0 (B2 (by omega) (by omega)),rfl,rfl,rfl,rfl,trivial⟩ ⟨rfl,trivial⟩ rfl
 ·simp at h;refine Aw rfl ?_;rw [List.take_of_length_le (by omega)];exact C7 ⟨_,rfl,rfl,rfl,trivial⟩
end Go.Hk
namespace Go.Hk
open Go.Proofs
def Pp (q:Ty->Bool):Int->List Ty->Int
 | _,[]=>-1
 | i,x::r=>if q x=true then i else Pp q (i+1) r
theorem T3 (q:Ty->Bool):∀(l:List Ty) (i:Nat),(Pp q i l = -1/\∀x∈l,q x=false)\/∃(k:Nat) (x:Ty),Pp q i l=((i+k:Nat):Int)/\l[k]?=some x/\q x=true/\∀y∈l.take k,q y=false
 | [],i=>.inl ⟨rfl,λx hx=>by cases hx⟩
 | x::r,i=>by
  by_cases hx:q x=true
  ·exact .inr ⟨0,x,by simp only [Pp,if_pos hx];rfl,rfl,hx,λy hy=>by simp at hy⟩
  ·have hxf:q x=false:=by simpa using hx
   have e:Pp q i (x::r)=Pp q ((i+1:Nat):Int) r:=by simp only [Pp,if_neg hx];rfl
   rw [e];rcases T3 q r (i+1) with ⟨h1,h2⟩ | ⟨k,y,h1,h2,h3,h4⟩
   ·exact .inl ⟨h1,λy hy=>by rcases List.mem_cons.1 hy with rfl | hy;exact hxf;exact h2 y hy⟩
   ·refine .inr ⟨k+1,y,by rw [h1];congr 1;omega,by simpa using h2,h3,λz hz=>?_⟩;rw [List.take_succ_cons] at hz;rcases List.mem_cons.1 hz with rfl | hz
    ·exact hxf
    ·exact h4 z hz
theorem Sv (L:List Ty) (g:FuncId) (a b:List V) (q:Ty->Bool) (hq:∀h,Al Tryz.prog g (a++[.agg (Bv h)]++b) (.bool (q h))) :
  Al Tryz.prog 195 [.sl (B8 L),.clo (.func g) a b] (.int .i64 (Pp q 0 L)):=by
 refine AW λhv=>?_;simp [Ct,ET,maxLen] at hv;have hl:=hv.1;refine Ae Ai Tryz.func195 (by decide +kernel) rfl [1,2] rfl rfl ?_;refine Aj rfl ?_;refine An (λi:Nat=>[(8,.imm (.int .i64 i)),(7,.imm (.int .i64 L.length)),(0,.imm (.sl (B8 L))),(1,.imm (.clo (.func g) a b))]) (λ_=>[]) [1,2] (λi=>L.length-i) (λi=>i<=L.length/\Pp q 0 L=Pp q i (L.drop i)) 0
  ⟨Nat.zero_le _,rfl⟩ ⟨rfl,A0 (by simp),rfl,rfl,trivial⟩ trivial rfl λi hi ih=>?_
 obtain ⟨hi1,hi2⟩:=hi;refine Ak rfl ?_;refine Ab rfl (λh=>?_) (λh=>?_)
 ·simp at h;obtain ⟨x,hx⟩:=As h;rw [Av hx] at hi2;simp only [Pp] at hi2;have hqx:=hq x;refine Ak rfl ?_;refine mi rfl (c:=Bv x) (λ_=>⟨by simp,by simpa using Ku hx,by simp⟩) (by simp) ?_;obtain ⟨x1,x2,x3,x4⟩:=x;refine Aj rfl ?_;refine PD rfl (λ_=>hqx) (by simp) ?_;refine Aj rfl ?_;cases hb:q (.mk x1 x2 x3 x4) with
  | true =>
   rw [if_pos hb] at hi2;refine Ah rfl λh=>?_;refine Ak rfl ?_;refine Aa rfl rfl ?_;rw [hi2]
  | false =>
   rw [if_neg (by simp [hb])] at hi2;refine At rfl λh=>?_;refine Ak rfl ?_;exact Ad (ih (i+1) (by omega) ⟨by omega,hi2⟩) ⟨A0 (B2 (by omega) (by omega)),rfl,rfl,rfl,trivial⟩ trivial rfl
 ·simp at h;rw [List.drop_eq_nil_of_le (by omega)] at hi2;refine Aw rfl ?_;refine Ak rfl ?_;refine Aa rfl rfl ?_;rw [hi2];rfl
theorem Qt {e:TypeId} {sz:Nat} {es:List (List V)} {v:Value} {vs:List Value} {I:Imm} {w:World} {bs:List Nat} (hp:0<sz) (h:(UT e sz es v).P vs I w bs) :
  ∃xs,w.ownsRow 0 e sz v es.length xs/\RepVL I xs es.flatten/\(∀c∈es,c.length=sz)/\(∀c∈es,∀x∈c,V.one x=true)/\0<sz/\∀k,v.ownBlock=some k->k∈bs:=by
 rcases h with ⟨rfl,rfl,rfl⟩ | ⟨b,cap,cur,rfl,rfl,h3,h4,h5,h6,h7,h8,h9,h10⟩
 ·exact ⟨[],World.ownsRow_nil w 0 e sz,.nil,by simp,by simp,hp,λk hk=>by cases hk⟩
 ·have hcs:cur.toList.length=cap*sz:=by simpa using h6
  refine ⟨_,⟨by rw [List.length_take,hcs];exact Nat.min_eq_left (Nat.mul_le_mul_right _ h4),.inr ⟨b,cap,cur,rfl,Nat.zero_le _,h3,h4,h5,h6,rfl⟩⟩,h7,h8,h9,h10,λk hk=>by simpa [Value.ownBlock] using hk.symm⟩
theorem eA {e:TypeId} {sz:Nat} {es es1:List (List V)} {b cap len:Nat} (hes:es1=es.take es1.length) (hlen:es.length=es1.length+len):UV (UT e sz es (.slice (some ⟨b,0,none⟩) es.length cap)) (UT e sz es1 (.slice (some ⟨b,0,none⟩) es1.length cap)) b (es1.length*sz) (len*sz):=by
 intro us I w bs h;rcases h with ⟨h,_⟩ | ⟨b',cap',cur,h1,h2,h3,h4,h5,h6,h7,h8,h9,h10⟩
 ·cases h
 cases h1;subst h2;refine ⟨by simp,cur,e,h3,by rw [h6,<- Nat.add_mul,<- hlen];exact Nat.mul_le_mul_right _ h4,λnews n1 n2=>?_⟩;have hle:es1.length<=es.length:=by omega
 have hcs:cur.toList.length=cap*sz:=by simpa using h6
 have hc:es1.length*sz<=cur.toList.length:=by rw [hcs];exact Nat.mul_le_mul_right _ (by omega)
 have hmem:∀c∈es1,c∈es:=λc hc=>by rw [hes] at hc;exact List.mem_of_mem_take hc
 refine .inr ⟨b,cap,_,rfl,rfl,setRow_heap w b cur _ e _ h3,by omega,h5,?_,?_,λc hc=>h8 c (hmem c hc),λc hc=>h9 c (hmem c hc),h10⟩
 ·have e1:es1.length*sz+len*sz<=cap*sz:=by rw [<- Nat.add_mul,<- hlen];exact Nat.mul_le_mul_right _ h4
  rw [List.size_toArray,List.length_append,List.length_append,List.length_take,List.length_drop,hcs,n1];omega
 ·rw [List.toList_toArray,List.append_assoc,List.take_append_of_le_length (by rw [List.length_take];omega),List.take_take,Nat.min_self];have e2:cur.toList.take (es1.length*sz)=(cur.toList.take (es.length*sz)).take (es1.length*sz):=by rw [List.take_take,Nat.min_eq_left (Nat.mul_le_mul_right _ hle)]
  have e3:es1.flatten=es.flatten.take (es1.length*sz):=by
   have:=congrArg List.flatten (List.take_append_drop es1.length es);rw [<- hes,List.flatten_append] at this;rw [<- this,List.take_append_of_le_length (by rw [AX (λc hc=>h8 c (hmem c hc))];omega),List.take_of_length_le (by rw [AX (λc hc=>h8 c (hmem c hc))];omega)]
  rw [e2,e3];refine ⟨(List.length_take).trans (by rw [h7.1];exact (List.length_take).symm),λi v x hv hx=>?_⟩;rw [List.getElem?_take] at hv hx
  split at hv
  ·rename_i hi;rw [if_pos hi] at hx;exact h7.2 i v x hv hx
  ·cases hv
def F4 (q:Ty->Bool) (L:List Ty):List Ty:=L.filter λh=>!q h
theorem QR {q:Ty->Bool} {L:List Ty} {j:Nat} {x:Ty} (h:L[j]?=some x):F4 q (L.take (j+1))=F4 q (L.take j)++(if q x=true then [] else [x]):=by
 rw [Bh h];cases hb:q x <;> simp [F4,hb]
theorem QS {q:Ty->Bool} {L:List Ty} (h:∀x∈L,q x=false):F4 q L=L:=List.filter_eq_self.2 λx hx=>by simp [h x hx]
theorem RQ (L:List Ty) (hL:L.length<=1000) (g:FuncId) (a b:List V) (q:Ty->Bool) (hq:∀h,Al Tryz.prog g (a++[.agg (Bv h)]++b) (.bool (q h))) :
  Bt Tryz.prog 175 [.own 1 (B8 L).length,.imm (.clo (.func g) a b)] [(1,some (.row 122 3 (B8 L)))]
   (.ret (.own 2 (B8 (F4 q L)).length) [(2,some (.row 122 3 (B8 (F4 q L))))]):=by
 have hI:=Sv L g a b q hq;have hs:=T3 q L 0;rw [show ((0:Nat):Int)=0 from rfl] at hs;refine Ae Ai Tryz.func175 (by decide +kernel) rfl [3,2,4,5,6] rfl rfl ?_;refine Aj rfl ?_;refine Ia rfl (v:=.int .i64 (Pp q 0 L)) (λ_=>hI) rfl (by simp) ?_;refine Aj rfl ?_;rcases hs with ⟨h1,h2⟩ | ⟨k,x,h1,h2,h3,h4⟩
 ·rw [h1];refine Ah rfl λh=>?_;refine Ak rfl ?_;rw [QS h2];refine LP 1 3 rfl λv=>?_;refine OV 3 4 2 (B8 L) rfl rfl (λvs I w bs h=>Qt (by decide) h) ?_;exact Au ⟨_,rfl,rfl,rfl,trivial⟩
 rw [h1];have hk:=(List.getElem?_eq_some_iff.1 h2).1;refine At rfl λh=>?_;clear h;have ew:IntKind.i64.wrap (((0+k:Nat):Int)+1)=((k+1:Nat):Int):=by rw [B2 (by omega) (by omega)];omega
 refine Ak rfl ?_;refine An (λy:Nat×Nat×List Ty=>[(6,.imm (.int .i64 y.2.1)),(5,.imm (.int .i64 y.1)),(1,.imm (.clo (.func g) a b)),(0,.own 1 (B8 L).length)]) (λy=>[(1,some (.row 122 3 (B8 y.2.2)))]) [3,2,4,5,6] (λy=>L.length-y.2.1)
  (λy=>y.1<y.2.1/\y.2.1<=L.length/\y.2.2.length=L.length/\y.2.2.take y.1=F4 q (L.take y.2.1)/\y.2.2.drop y.2.1=L.drop y.2.1) (k,k+1,L)
  ⟨by simp,by simp only;omega,rfl,?_,rfl⟩ ⟨A0 ew,A0 (by simp),rfl,rfl,trivial⟩ ⟨rfl,trivial⟩ rfl λy hy ih=>?_
 ·rw [QR h2,if_pos h3,QS h4];simp
 obtain ⟨i,j,R⟩:=y;obtain ⟨hi1,hi2,hi3,hi4,hi5⟩:=hy;simp only at hi1 hi2 hi3 hi4 hi5;refine Ak rfl ?_;refine Ab rfl (λh=>?_) (λh=>?_)
 ·have hj:j<L.length:=by simp at h;omega
  obtain ⟨x,hx⟩:=As hj;have hRx:R[j]?=some x:=by
   have:=congrArg (·[0]?) hi5;simpa [hx] using this
  have hqx:=hq x;refine Ak rfl ?_;refine Dv Ai rfl (λ_=>⟨by simp,by simp <;> omega⟩) (by simp) ?_;refine Aj rfl ?_;refine Jz Ai (e:=Bv x) rfl (λ_=>by simpa using Ku hRx) rfl (by simp) ?_;obtain ⟨x1,x2,x3,x4⟩:=x;have ht:=QR (q:=q) hx;have hgo:=λi' R' (h1:i'<j+1) (h2:R'.length=L.length) (h3:R'.take i'=F4 q (L.take (j+1))) (h4:R'.drop (j+1)=L.drop (j+1))=>ih (i',j+1,R') (by simp only;omega) ⟨h1,by simp only;omega,h2,h3,h4⟩;have hd1:R.drop (j+1)=L.drop (j+1):=by rw [<- List.drop_drop,hi5,List.drop_drop]
  refine Aj rfl ?_;refine PD rfl (λ_=>hqx) (by simp) ?_;refine Aj rfl ?_;cases hb:q (.mk x1 x2 x3 x4) with
  | true =>
   rw [if_pos hb,List.append_nil] at ht;refine At rfl λh=>?_;refine Ak rfl ?_;exact Ad (hgo i R (by omega) hi3 (by rw [ht];exact hi4) hd1) ⟨A0 (B2 (by simp only;omega) (by simp only;omega)),rfl,rfl,rfl,trivial⟩ ⟨rfl,trivial⟩ rfl
  | false =>
   rw [if_neg (by simp [hb])] at ht;obtain ⟨o,hoo⟩:=As (l:=R) (i:=i) (by omega);refine Ah rfl λh=>?_;refine Ak rfl ?_;refine Dv Ai rfl (λ_=>⟨by simp,by simp <;> omega⟩) (by simp) ?_;refine Aj rfl ?_;refine II Ai (e:=Bv o) (e':=Bv (.mk x1 x2 x3 x4)) rfl (by simpa using Ku hoo) (by show 0+3<=3;decide) (by obtain ⟨o1,o2,o3,o4⟩:=o;rfl) (by simp) ?_;refine Aj rfl ?_;refine Ad (hgo (i+1) (R.set i (.mk x1 x2 x3 x4)) (by omega) (by simp [hi3]) ?_ ?_) ⟨A0 (B2 (by simp only;omega) (by simp only;omega)),A0 (B2 (by simp only;omega) (by simp only;omega)),rfl,rfl,trivial⟩ ⟨by simp only [B8,List.map_set];rfl,trivial⟩ rfl
   ·rw [ht,<- hi4];have e1:(R.set i (.mk x1 x2 x3 x4))[i]?=some (.mk x1 x2 x3 x4):=List.getElem?_set_self (by omega);rw [Bh e1,List.take_set_of_le (Nat.le_refl i)]
   ·rw [List.drop_set_of_lt (by omega)];exact hd1
 ·have hj:j=L.length:=by simp at h;omega
  refine Aw rfl ?_;refine LP 1 3 rfl λv=>?_;refine Cl 3 (λ_:{ y:Nat×Nat // v = .slice (some ⟨y.1,0,none⟩) (B8 R).length y.2/\(B8 R).length<=y.2 }=>UT 122 3 (B8 R) v) rfl (λvs I w bs h=>?_) λy=>?_
  ·have hn:(B8 R)≠[]:=λe=>by
    have:(B8 R).length=0:=by rw [e];rfl
    simp at this;subst this;simp at hi3;omega
   have h':=h;rcases h' with ⟨_,h',_⟩ | ⟨gb,cap,cur,h1,_,_,h4,_⟩
   ·exact absurd h' hn
   ·exact ⟨⟨(gb,cap),h1,h4⟩,h⟩
  obtain ⟨⟨gb,cap⟩,rfl,hcap⟩:=y;simp only at hcap;have hRl:(B8 R).length=L.length:=by simp [hi3]
  have hkl:(F4 q (L.take j)).length=i:=by rw [<- hi4,List.length_take];omega
  rw [hj,List.take_length] at hkl hi4;refine Ak rfl ?_;refine jW Ai rfl ⟨by simp,by simp only;omega,by simp only;omega,by simp only;omega⟩ ?_;obtain ⟨d,hd⟩:∃d,(B8 R).length-i=d+1:=⟨(B8 R).length-i-1,by omega⟩
  simp only [B9,Int.toNat_natCast];rw [hd];have hRt:B8 (F4 q L)=(B8 R).take i:=by rw [<- hi4];simp [B8]
  have hkl2:(B8 (F4 q L)).length=i:=by simpa using hkl
  refine pY Ai 3 (UT 122 3 (B8 (F4 q L)) (.slice (some ⟨gb,0,none⟩) (B8 (F4 q L)).length cap)) rfl rfl ?_ ?_
  ·have:=eA (e:=122) (sz:=3) (es:=B8 R) (es1:=B8 (F4 q L)) (b:=gb) (cap:=cap) (len:=d+1) (by rw [hkl2];exact hRt) (by rw [hkl2];omega);rw [hkl2] at this ⊢;show UV _ _ gb (0+i*3) ((d+1)*3);rw [Nat.zero_add];exact this
  refine Aj rfl ?_;refine jW Ai rfl ⟨by simp,by simp only;omega,by simp only;omega,by simp only;omega⟩ ?_;simp only [B9,Int.toNat_natCast,Int.toNat_zero,Nat.zero_mul,Nat.sub_zero,Nat.add_zero];refine Aj rfl ?_;rw [<- hkl2];refine OV 3 4 2 (B8 (F4 q L)) rfl rfl (λvs I w bs h=>Qt (by decide) h) ?_;exact Au ⟨_,rfl,rfl,rfl,trivial⟩
def Tr (ty:Ty) (nt:List Ty) (hd:Ty):V:=.ip 161 (Ao ty++Bv hd++[.sl (B8 nt)]) 0
theorem T8 (h:Ty):∀x∈Bv h,V.one x=true:=by
 obtain ⟨a,b,c,d⟩:=h;intro x hx;simp only [Bv,List.mem_cons,List.not_mem_nil,or_false] at hx;rcases hx with rfl | rfl | rfl <;> rfl
theorem Vj {I J:Imm} {w:World} {nt:List Ty} {nv:Value} {bs:List Nat} (h:Tl I w nt nv) (hb:∀q∈nv.ownBlock.toList,q∈bs) (hle:I.le J) (hJ:∀b∈bs,J b=w.heap[b]?):RepV J nv (.sl (B8 nt)):=by
 obtain ⟨⟨xs,h1,h2⟩,h3⟩:=h;cases ho:nv.ownBlock with
 | none =>
  rcases h1.2 with ⟨rfl,h0⟩ | ⟨g,cap,cur,rfl,_⟩
  ·rw [List.eq_nil_of_length_eq_zero h0];exact .slnil
  ·simp [Value.ownBlock] at ho
 | some g =>
  have hlt:=Q4 h1 (q:=g) (by simp [ho]);have hg:w.heap[g]?=some w.heap[g]:=Array.getElem?_eq_getElem hlt;refine X4 (w:=w) (es:=B8 nt) (by simpa using h1) (h2.mono hle) (ZB nt) ?_ ho hg (by rw [hJ g (hb g (by simp [ho]))];exact hg);intro v hv;obtain ⟨q,hq⟩:=List.mem_iff_getElem?.1 hv;have hl:q<(B8 nt).flatten.length:=by rw [<- h2.1];exact (List.getElem?_eq_some_iff.1 hq).1
  obtain ⟨c,hc,hx⟩:=List.mem_flatten.1 (List.getElem_mem hl);obtain ⟨x,_,rfl⟩:=List.mem_map.1 hc;exact (h2.2 q v _ hq (List.getElem?_eq_getElem hl)).one (T8 x _ hx)
theorem aH {I J:Imm} {w:World} {ty:Ty} {nt:List Ty} {hd:Ty} {ks:List Mi} {nv kv:Value} {kbs:List Nat} {b:Nat} {us:List Value} {bs:List Nat} (h:(CU ty nt hd ks nv kv kbs b).P us I w bs) (hle:I.le J) (hJ:∀b∈bs,J b=w.heap[b]?) :
  RepV J (ptr b) (Tr ty nt hd):=by
 obtain ⟨Fk,⟨⟨vs,ts,hs,h1,h2,h3,h4⟩,hnot,hrow⟩,_,_,h8⟩:=h;have hN:=Vj (bs:=bs) hnot (λq hq=>h8 q (by simp only [AU,List.cons_append,List.mem_cons,List.mem_append];exact .inr (.inl (.inl hq)))) hle hJ;have hall:RepVL J (ts++hs++[nv]) (Ao ty++Bv hd++[.sl (B8 nt)]):=((h3.mono hle).append (h4.mono hle)).append (.mk hN .nil);have hJb:J b=some (.cells vs 161 (0,0)):=by rw [hJ b (h8 b (by simp [AU]))];exact h1
 have hget:∀(j:Nat) (x:V),(Ao ty++Bv hd++[.sl (B8 nt)])[j]?=some x->∃v,vs[j]?=some v/\RepV J v x/\v.oneCell'=true:=by
  intro j x hx;have hlt:j<(ts++hs++[nv]).length:=by rw [hall.1];exact (List.getElem?_eq_some_iff.1 hx).1
  have hv:=List.getElem?_eq_getElem hlt;have hr:=hall.2 j _ x hv hx;refine ⟨_,?_,hr,?_⟩
  ·have:vs.toList[j]?=some (ts++hs++[nv])[j]:=by
    rw [h2,show ts++hs++[nv,kv]=(ts++hs++[nv])++[kv] by simp,List.getElem?_append_left hlt];exact hv
   simpa using this
  ·refine hr.one ?_;have hm:=List.mem_of_getElem? hx;simp only [List.mem_append,List.mem_singleton] at hm;rcases hm with (hm | hm) | rfl
   ·obtain ⟨t1,t2,t3,t4⟩:=ty;simp only [Ao,List.mem_cons,List.not_mem_nil,or_false] at hm;rcases hm with rfl | rfl | rfl | rfl <;> rfl
   ·exact T8 hd x hm
   ·rfl
 have:=RepV.ip (I:=J) b 0 161 (Ao ty++Bv hd++[.sl (B8 nt)]) 0 (λj=>(vs[j]?).getD undef) (λj x hx=>?_) (λj x hx=>?_)
 ·simpa [Tr,ptr] using this
 ·obtain ⟨v,v1,v2,v3⟩:=hget j x hx;rw [v1];simp only [Imm.cell,hJb,Nat.zero_add,v1,Option.getD_some];exact ⟨trivial,v3⟩
 ·obtain ⟨v,v1,v2,v3⟩:=hget j x hx;rw [v1];exact v2
theorem cV (ty:Ty) (nt:List Ty) (hd h:Ty):Al Tryz.prog 177 [.agg (Bv h),.ip 96 [Tr ty nt hd] 0] (.bool (Bj nt h)):=by
 have hC:=GU nt h;obtain ⟨t1,t2,t3,t4⟩:=ty;obtain ⟨f1,f2,f3,f4⟩:=hd;obtain ⟨h1,h2,h3,h4⟩:=h;refine Uw ?_;refine Ae Ai Tryz.func177 (by decide +kernel) rfl [1,2] rfl rfl ?_;refine Aj rfl ?_;refine Ag rfl hC ?_;refine mg [] rfl (by simp;rfl) ?_;exact Aa rfl rfl rfl
def RL (A B:Asn):Asn where
 P _ I w bs:=∃b1 b2,(∀q∈b1,q∈bs)/\(∀q∈b2,q∈bs)/\(∀q∈b1,q∉b2)/\A.P [] I w b1/\B.P [] I w b2
 mono:=λh ⟨b1,b2,h1,h2,h3,h4,h5⟩=>⟨b1,b2,h1,h2,h3,A.mono h h4,B.mono h h5⟩
 loc:=λh ⟨b1,b2,h1,h2,h3,h4,h5⟩=>⟨b1,b2,h1,h2,h3,A.loc (λq hq=>h q (h1 q hq)) h4,B.loc (λq hq=>h q (h2 q hq)) h5⟩
theorem Vz (l:List Ty):N0 (B8 l)=true:=by
 induction l with
 | nil=>rfl
 | cons h r ih=>obtain ⟨a,b,c,d⟩:=h;simpa [B8,Bv,N0,D7,Fz] using ih
def WX (b bb:Nat):Asn:=RS bb 96 [.raw (ptr b)]
theorem fA {I J:Imm} {w:World} {ty:Ty} {nt:List Ty} {hd:Ty} {ks:List Mi} {nv kv:Value} {kbs:List Nat} {b bb:Nat} {us:List Value} {bs:List Nat} (h:(RL (WX b bb) (CU ty nt hd ks nv kv kbs b)).P us I w bs) (hle:I.le J) (hJ:∀b∈bs,J b=w.heap[b]?) :
  RepV J (ptr bb) (.ip 96 [Tr ty nt hd] 0):=by
 obtain ⟨b1,b2,h1,h2,h3,⟨e1,vs,e2,e3,e4⟩,h5⟩:=h;have hv:=aH h5 hle (λq hq=>hJ q (h2 q hq));have hl:=e3.1
 match hvs:vs.toList,hl with
 | [x],_ =>
 rw [hvs] at e3;have hx:x=ptr b:=(e3.2 0 x _ rfl rfl).rawInv;subst hx;have hv0:vs[0]?=some (ptr b):=by
  have:vs.toList[0]?=some (ptr b):=by rw [hvs];rfl
  simpa using this
 have hJb:J bb=some (.cells vs 96 (0,0)):=by rw [hJ bb (h1 bb (by rw [e1];simp))];exact e2
 have:=RepV.ip (I:=J) bb 0 96 [Tr ty nt hd] 0 (λ_=>ptr b) (λj x hx=>?_) (λj x hx=>?_)
 ·simpa [ptr] using this
 ·match j,hx with
  | 0,_=>exact ⟨by simp only [Imm.cell,hJb,Nat.add_zero,hv0],rfl⟩
  | j+1,hx=>simp at hx
 ·match j,hx with
  | 0,hx=>simp at hx;subst hx;exact hv
  | j+1,hx=>simp at hx
theorem nK (L:List Ty) (hL:L.length<=1000) (ty:Ty) (nt:List Ty) (hd:Ty) (ks:List Mi) (nv kv:Value) (kbs:List Nat) (b bb:Nat) :
  Bt Tryz.prog 175 [.own 1 (B8 L).length,.fn (.func 177) [] [.raw (ptr bb)]]
   [(3,some (.hp (RL (WX b bb) (CU ty nt hd ks nv kv kbs b)))),(1,some (.row 122 3 (B8 L)))]
   (.ret (.own 2 (B8 (F4 (λh=>Bj nt h) L)).length) [(3,some (.hp (RL (WX b bb) (CU ty nt hd ks nv kv kbs b)))),(2,some (.row 122 3 (B8 (F4 (λh=>Bj nt h) L))))]):=by
 refine OS (st0:=[(1,some (.row 122 3 (B8 L)))]) 3 (RL (WX b bb) (CU ty nt hd ks nv kv kbs b)) (RQ L hL 177 [] [.ip 96 [Tr ty nt hd] 0] (λh=>Bj nt h) (λh=>cV ty nt hd h)) rfl ⟨Vz _,trivial⟩ (by simp [Ey]) (by simp [Ey]) (by simp [IR]) λvs I J μ w bs h hle hb xs hx=>?_;refine ⟨hx.1,λi v d h1 h2=>?_⟩
 match i with
 | 0=>exact hx.2 0 v d h1 h2
 | 1 =>
  simp at h2;subst h2;have hr:=hx.2 1 v _ h1 rfl;refine .imm _ _ ?_;cases hr with
  | fn _ first cap _ _ hf hc q1 q2 =>
   refine .clo _ first cap [] _ (by simpa using hf) (by simpa using hc) (λi c x _ hx=>by simp at hx) (λi c x hc' hx'=>?_)
   match i with
   | 0 =>
    simp at hx';subst hx';have:=(q2 0 c _ hc' rfl).rawInv;subst this;exact fA h hle hb
   | i+1=>simp at hx'
 | i+2=>simp at h2
def H0 (ds:List Dt) (m:Mi):Bool:=decide (AK (Ac ds m).hd≠0)
theorem Wf (c:Cse) (sz:List (List V)) (m:Mi) (b:Nat) (ho:OkW c.datas) (hn:AI c.datas m.ty=true) :
  Bt Tryz.prog 133 [.imm (AQ c sz),.raw (ptr b)] [(1,some (.hp (Bk m b)))] (.ret (.imm (.bool (H0 c.datas m))) [(2,some (.hp (Bk (Ac c.datas m) b)))]):=by
 have hH:=T7 c sz m.ty ho hn;have hl:=Jy ho m.ty;have hs:=λh=>Yx c sz m h b ho hn;have hk0:AK m.hd≠0->Ac c.datas m=m/\H0 c.datas m=true:=λh=>by
  have:=CJ (ds:=c.datas) h;exact ⟨this,by simp only [H0,this];exact decide_eq_true h⟩
 have hk1:AK m.hd=0->∀h,HW c.datas m=[h]->Ac c.datas m=AY c.datas m h/\H0 c.datas m=true:=λh x hx=>by
  have e:Ac c.datas m=AY c.datas m x:=by simp only [Ac,h,hx];rfl
  exact ⟨e,by simp only [H0,e];exact decide_eq_true (Bs (DG hx).1).2⟩
 have hk2:AK m.hd=0->(∀h,HW c.datas m≠[h])->Ac c.datas m=m/\H0 c.datas m=false:=λh hx=>by
  rcases Dc (ds:=c.datas) m with e | ⟨_,y,y1,_⟩
  ·exact ⟨e,by simp only [H0,e,h];rfl⟩
  ·exact absurd y1 (hx y)
 have hleft:F4 (λh=>Bj m.nt h) (A6 c.datas m.ty)=HW c.datas m:=rfl;have hll:(HW c.datas m).length<=5:=Nat.le_trans (List.length_filter_le _ _) hl;generalize H0 c.datas m=kb at *;generalize Ac c.datas m=S at *;generalize HW c.datas m=Lf at *;generalize A6 c.datas m.ty=Hs at *;obtain ⟨kn,hkn⟩:∃kn:Ty->Mi,kn=AY c.datas m:=⟨_,rfl⟩
 simp only [<- hkn] at hs hk1;clear hkn hn;obtain ⟨⟨so,n,x,ps⟩,nt,⟨f,hd2,hd3,hd4⟩,ks⟩:=m;simp only [Mi.ty,Mi.nt,Mi.hd,AK] at *;refine Ae Ai Tryz.func133 (by decide +kernel) rfl [3,4,5,6,7,8,9,10,11,12] rfl rfl ?_;refine qI 3 rfl (by simp) ?_;refine GN 3 4 rfl rfl λbb=>?_;refine Cl 4 (λ_:Unit=>WX b bb) rfl (λvs I w bs h=>⟨(),h⟩) λ_=>?_;refine Lc 1 5 (λy:Value×Value×List Nat=>CU _ nt _ ks y.1 y.2.1 y.2.2 b) rfl (λvs I w bs h=>let ⟨y,hy⟩:=KO h;⟨y,bs,λq hq=>hq,Z4 hy⟩) λy=>?_;obtain ⟨nv,kv,kbs⟩:=y;have hbox:∀vs I w bs,(WX b bb).P vs I w bs->Dm I w bb 0 [.raw (ptr b)]:=λvs I w bs ⟨_,us,h2,h3,h4⟩=>⟨us,_,_,h2,λj d hd=>by
  have hl:j<us.toList.length:=by rw [h3.1];exact (List.getElem?_eq_some_iff.1 hd).1
  have hj:=List.getElem?_eq_getElem hl;exact ⟨_,by simp,h4 _ (List.getElem_mem hl),h3.2 j _ d hj hd⟩⟩
 refine Ak rfl ?_;refine B5 Ai 4 [.raw (ptr b)] rfl rfl (λ_=>hbox) rfl rfl (by simp) ?_;refine Aj rfl ?_;refine B5 Ai 5 [.imm (.int .i64 f)] rfl rfl (λ_ vs I w bs h=>NF h) rfl rfl (by simp) ?_;refine Aj rfl ?_;by_cases hf:f=0
 case neg =>
  refine Ab rfl (λh=>?_) (λh=>absurd (by simpa using h) hf);refine Ak rfl ?_;obtain ⟨e1,e2⟩:=hk0 hf;rw [e1,e2];refine Cl 5 (λ_:Unit=>Bk (.mk (.mk so n x ps) nt (.mk f hd2 hd3 hd4) ks) b) rfl (λvs I w bs h=>⟨(),KP h⟩) λ_=>?_;refine AF 5 2 rfl ?_;exact Au ⟨_,rfl,rfl,rfl,trivial⟩
 replace hk1:=hk1 hf;replace hk2:=hk2 hf;subst hf;clear hk0;refine At rfl λh=>?_;clear h;refine Ak rfl ?_;refine B5 Ai 4 [.raw (ptr b)] rfl rfl (λ_=>hbox) rfl rfl (by simp) ?_;refine Aj rfl ?_;refine B5 Ai 5 ((Ao (.mk so n x ps)).map .imm) rfl rfl (λ_ vs I w bs h=>KQ h) rfl rfl (by simp) ?_;refine Aj rfl ?_;refine AC (fr:=[6]) [] [(2,6)] rfl (by simp) hH trivial rfl rfl rfl rfl ?_;refine Aj rfl ?_;refine GM 4 5 7 (λ_:Unit=>RL (WX b bb) (CU (.mk so n x ps) nt (.mk 0 hd2 hd3 hd4) ks nv kv kbs b)) rfl rfl (by decide) (λvs us I w b1 b2 h1 h2 h3=>⟨(),b1++b2,λq hq=>List.mem_append.1 hq,b1,b2,λq hq=>List.mem_append_left _ hq,λq hq=>List.mem_append_right _ hq,h3,h1,h2⟩) λ_=>?_;refine Ak rfl ?_
 refine AC (fr:=[8]) [(7,3),(6,1)] [(2,8)] rfl (by simp) (nK Hs (by omega) (.mk so n x ps) nt (.mk 0 hd2 hd3 hd4) ks nv kv kbs b bb) ⟨⟨rfl,rfl,rfl⟩,⟨rfl,rfl,rfl⟩,trivial⟩ rfl rfl rfl rfl ?_;rw [hleft];refine Aj rfl ?_;refine Bw 8 rfl ?_;refine J3 7 9 10 (λ_:Unit=>WX b bb) (λ_:Unit=>Bk (.mk (.mk so n x ps) nt (.mk 0 hd2 hd3 hd4) ks) b) rfl (λvs I w bs ⟨b1,b2,h1,h2,h3,h4,h5⟩=>⟨(),b1,b2,h1,h2,h3,h4,KP h5⟩) λ_=>?_
 match Lf,hk1,hk2,hll with
 | [],_,hk2,_ =>
  obtain ⟨e1,e2⟩:=hk2 (λh=>by simp);rw [e1,e2];refine At rfl λh=>?_;refine Ak rfl ?_;refine AF 10 2 rfl ?_;exact Au ⟨_,rfl,rfl,rfl,trivial⟩
 | y::z::r,_,hk2,hll =>
  obtain ⟨e1,e2⟩:=hk2 (λh=>by simp);rw [e1,e2];refine Ab rfl (λh=>by simp [B8] at h;omega) (λh=>?_);refine Ak rfl ?_;refine AF 10 2 rfl ?_;exact Au ⟨_,rfl,tV (congrArg _ (by simp [B8];omega)),rfl,trivial⟩
 | [y],hk1,_,_ =>
  obtain ⟨e1,e2⟩:=hk1 y rfl;rw [e1,e2];refine Ab rfl (λh=>?_) (λh=>by simp [B8] at h);refine Ak rfl ?_;refine B5 Ai 9 [.raw (ptr b)] rfl rfl (λ_=>hbox) rfl rfl (by simp) ?_;refine Aj rfl ?_;refine mi rfl (c:=Bv y) (λ_=>⟨by simp,rfl,by simp⟩) (by simp) ?_;obtain ⟨y1,y2,y3,y4⟩:=y;refine Aj rfl ?_;refine BX [(10,1)] [(2,11)] [] (fr:=[11]) (nm:=[11,10]) rfl trivial (by simp) (hs (.mk y1 y2 y3 y4)) ⟨⟨rfl,rfl,rfl⟩,trivial⟩ rfl trivial rfl rfl rfl ?_;refine mg [] rfl (by simp;rfl) ?_;refine AF 11 2 rfl ?_;exact Au ⟨_,rfl,rfl,rfl,trivial⟩
def Iv (o:Option Nat) (n c:Nat):Value:=.slice (o.map λg=>⟨g,0,none⟩) n c
theorem Zv {w:World} {e:TypeId} {sz n:Nat} {v:Value} {xs:List Value} (h:w.ownsRow 0 e sz v n xs):∃o c,v=Iv o n c:=by
 rcases h.2 with ⟨rfl,rfl⟩ | ⟨g,cap,cur,rfl,_⟩
 ·exact ⟨none,0,rfl⟩
 ·exact ⟨some g,cap,rfl⟩
section
variable {I J:Imm} {w w':World} {ty:Ty} {nt:List Ty} {hd:Ty} {ks:List Mi} {nv kv:Value} {kbs:List Nat} {b:Nat} {us:List Value} {bs:List Nat}
structure Opn where
 no:Option Nat
 nc:Nat
 ko:Option Nat
 kc:Nat
 kbs:List Nat
def Cw (ty:Ty) (nt:List Ty) (hd:Ty) (ks:List Mi) (y:Opn) (b:Nat):Asn:=CU ty nt hd ks (Iv y.no nt.length y.nc) (Iv y.ko ks.length y.kc) y.kbs b
theorem Ei (h:(Bk (.mk ty nt hd ks) b).P us I w bs):∃y:Opn,(Cw ty nt hd ks y b).P us I w bs:=by
 obtain ⟨⟨nv,kv,kbs⟩,F,h1,h2,h3⟩:=KO h;obtain ⟨no,nc,e1⟩:=Zv h1.2.1.1.choose_spec.1;obtain ⟨ko,kc,e2⟩:=Zv h1.2.2;have hl:=H1 h2;simp only at *;subst e1;rw [hl] at e2;subst e2;exact ⟨⟨no,nc,ko,kc,kbs⟩,F,h1,h2,h3⟩
theorem EL {y:Opn} {vs:List Value} (h:(Cw ty nt hd ks y b).P us I w bs):(Bk (.mk ty nt hd ks) b).P vs I w bs:=KP h
theorem I5 {y:Opn} (h:(Cw ty nt hd ks y b).P us I w bs):y.kbs.length=ks.length:=by
 obtain ⟨F,h1,h2,_⟩:=h;exact H1 h2
theorem P5 {y:Opn} (h:(Cw ty nt hd ks y b).P us I w bs) (hk:ks≠[]):∃g,y.ko=some g/\(∃cur,w.heap[g]?=some (.cells cur 96 (0,0))/\cur.size=y.kc*1/\cur.toList.take ks.length=y.kbs.map ptr/\ks.length<=y.kc):=by
 obtain ⟨F,h1,h2,_⟩:=h;have hl:=H1 h2;rcases h1.2.2.2 with ⟨_,h0⟩ | ⟨g,cap,cur,e,_,e1,e2,_,e3,e4⟩
 ·rw [hl] at h0;exact absurd (List.eq_nil_of_length_eq_zero h0) hk
 ·cases ho:y.ko with
  | none=>rw [ho] at e;simp [Iv] at e
  | some g' =>
   rw [ho] at e;simp only [Iv,Option.map_some,Value.slice.injEq,Option.some.injEq,Addr.mk.injEq,and_true] at e;obtain ⟨rfl,e5,rfl⟩:=e;exact ⟨g',rfl,cur,e1,e3,by rw [hl,Nat.mul_one] at e4;exact e4,by rw [<- hl];exact e2⟩
theorem mI {y:Opn} (h:(Cw ty [] hd ks y b).P us I w bs):y.no=none/\y.nc=0:=by
 obtain ⟨F,h1,_⟩:=h;have:=h1.2.1.2 rfl;simp only [Iv,I7,Value.slice.injEq,Option.map_eq_none_iff] at this;exact ⟨this.1,this.2.2⟩
theorem VX {y:Opn} {g i kb:Nat} (hko:y.ko=some g) (hkb:y.kbs[i]?=some kb) (h:(Cw ty nt hd ks y b).P us I w bs):Dm I w g (0+i*1) [.raw (ptr kb)]:=by
 have hlen:=I5 h;have hi:=(List.getElem?_eq_some_iff.1 hkb).1;obtain ⟨g',e,cur,e1,e2,e3,e4⟩:=P5 h (λe=>by rw [e] at hlen;simp at hlen;rw [hlen] at hi;simp at hi);rw [hko] at e;cases e;refine ⟨cur,_,_,e1,λj d hd=>?_⟩
 match j with
 | 0 =>
  simp at hd;subst hd;refine ⟨ptr kb,?_,rfl,.raw _ rfl⟩;have:(cur.toList.take ks.length)[i]?=some (ptr kb):=by rw [e3];simp [hkb]
  rw [List.getElem?_take] at this
  split at this
  ·simpa using this
  ·cases this
 | j+1=>simp at hd
def RP (ty:Ty) (nt:List Ty) (hd:Ty) (ks:List Mi) (y:Opn) (b i kb:Nat):Asn where
 P _ I w bs:=∀J w2 k F,I.le J->(∀q∈bs,w2.heap[q]?=w.heap[q]?)->Fl J w2 k kb F->(∀q∈F,q∉bs)->∃G,(Cw ty nt hd (ks.set i k) y b).P [] J w2 G/\∀q∈G,q∈bs\/q∈F
 mono:=λh h1 J w2 k F hJ=>h1 J w2 k F (λb o hb=>hJ b o (h b o hb))
 loc:=λh h1 J w2 k F hJ hw=>h1 J w2 k F hJ λq hq=>(hw q hq).trans (h q hq)
theorem Q6 {y:Opn} {i kb:Nat} {k:Mi} (h:(Cw ty nt hd ks y b).P us I w bs) (hk:ks[i]?=some k) (hkb:y.kbs[i]?=some kb) :
  ∃b1 b2,(∀q∈b1,q∈bs)/\(∀q∈b2,q∈bs)/\(∀q∈b1,q∉b2)/\(RP ty nt hd ks y b i kb).P [] I w b1/\(Bk k kb).P [] I w b2:=by
 obtain ⟨Fk,h1,h2,h3,h4⟩:=h;obtain ⟨kb',F1,Fi,F2,g1,g2,g3,g4⟩:=LJ h2 hk;rw [hkb] at g1;cases g1;subst g3;generalize hnv:Iv y.no nt.length y.nc=nv at *;generalize hkv:Iv y.ko ks.length y.kc=kv at *;refine ⟨AU nv kv b++(F1++F2),Fi,λq hq=>h4 q (by simp at hq ⊢;rcases hq with h | h | h <;> simp [h]),λq hq=>h4 q (by simp [hq]),λq hq hq2=>?_,?_,⟨Fi,g2,λq hq=>hq⟩⟩
 ·have e:AU nv kv b++(F1++Fi++F2)=(AU nv kv b++F1)++Fi++F2:=by simp
  rw [e] at h3;have hn:=List.nodup_append.1 h3;have hn2:=List.nodup_append.1 hn.1;rcases List.mem_append.1 hq with hq | hq
  ·exact hn2.2.2 q (by simp [hq]) q hq2 rfl
  ·rcases List.mem_append.1 hq with hq | hq
   ·exact hn2.2.2 q (by simp [hq]) q hq2 rfl
   ·exact hn.2.2 q (by simp [hq2]) q hq rfl
 ·intro J w2 k' F hJ hw hm hd';refine ⟨AU nv kv b++(F1++F++F2),⟨F1++F++F2,?_,g4 J w2 k' F hJ (λq hq=>hw q (by simp only [List.mem_append] at hq ⊢;exact .inr hq)) hm,?_,λq hq=>?_⟩,λq hq=>?_⟩
  ·rw [List.length_set,hnv,hkv];exact EM hJ (FI (λq hq=>hw q (by simp [hq])) h1)
  ·rw [List.length_set,hnv,hkv];have hF:=Jn hm;have e:AU nv kv b++(F1++Fi++F2)=(AU nv kv b++F1)++(Fi++F2):=by simp
   have e2:AU nv kv b++(F1++F++F2)=(AU nv kv b++F1)++(F++F2):=by simp
   rw [e] at h3;rw [e2];obtain ⟨a1,a2,a3⟩:=List.nodup_append.1 h3;obtain ⟨a4,a5,a6⟩:=List.nodup_append.1 a2;refine List.nodup_append.2 ⟨a1,List.nodup_append.2 ⟨hF,a5,λx hx y hy e=>hd' x hx (by subst e;simp [hy])⟩,λx hx y hy e=>?_⟩;subst e;rcases List.mem_append.1 hy with hy | hy
   ·exact hd' x hy (by simp only [List.mem_append] at hx ⊢;rcases hx with h | h <;> simp [h])
   ·exact a3 x hx x (by simp [hy]) rfl
  ·rw [List.length_set,hnv,hkv] at hq;exact hq
  ·simp only [List.mem_append] at hq ⊢;rcases hq with h | (h | h) | h <;> simp [h]
theorem T4 {y:Opn} {i kb:Nat} {k:Mi} {vs:List Value} {b1 b2:List Nat} (h:(RP ty nt hd ks y b i kb).P us I w b1) (hk:(Bk k kb).P vs I w b2) (hd':∀q∈b1,q∉b2):∃bs,(∀q∈bs,q∈b1\/q∈b2)/\(Cw ty nt hd (ks.set i k) y b).P [] I w bs:=by
 obtain ⟨F,h1,h2⟩:=hk;obtain ⟨G,g1,g2⟩:=h I w k F (Imm.le_refl I) (λ_ _=>rfl) h1 (λq hq hq1=>hd' q hq1 (h2 q hq));exact ⟨G,λq hq=>(g2 q hq).imp id (h2 q),g1⟩
end
theorem gB {α:Type} {l:List α} {i:Nat} {a:α} (h:l[i]?=some a):l.set i a=l:=by
 apply List.ext_getElem?;intro j;rw [List.getElem?_set]
 split
 ·rename_i e;subst e
  split
  ·exact h.symm
  ·rename_i hn;exact absurd (List.getElem?_eq_some_iff.1 h).1 hn
 ·rfl
theorem YX:Bt Tryz.prog 154 [.raw I7] [] (.ret .nils []):=by
 refine Ae Ai Tryz.func154 (by decide +kernel) rfl [1,2] rfl rfl ?_;refine Aj rfl ?_;refine pX Ai rfl ?_;refine Aj rfl ?_;refine Ah rfl λh=>?_;refine Ak rfl ?_;exact Au ⟨_,rfl,rfl,trivial⟩
theorem YW (l:List Ty) (hne:l≠[]) (hl:l.length<=1000000):Bt Tryz.prog 154 [.imm (.sl (B8 l))] [] (.ret (.own 2 (B8 l).length) [(2,some (.row 122 3 (B8 l)))]):=by
 have hs:=ZB l;have hl:(B8 l).length<=1000000:=by simpa using hl
 have hn:B8 l≠[]:=λe=>hne (by simpa [B8] using e);generalize B8 l=es at *;refine Ae Ai Tryz.func154 (by decide +kernel) rfl [2,1] rfl rfl ?_;refine Aj rfl ?_;refine TO Ai rfl λb hb=>?_;have hb:b=false:=hb hn;subst hb;refine Ak rfl ?_;refine At rfl λh=>?_;refine Ak rfl ?_;refine BE Ai rfl ⟨hs,by simp only [maxLen,List.length_nil] at *;omega,by simp only [List.length_nil] at *;omega,λc hc=>by simp at hc,hn⟩ ?_;refine Aj rfl ?_;exact Au ⟨_,rfl,rfl,rfl,trivial⟩
end Go.Hk
namespace Go.Hk
open Go.Proofs
theorem Ix {I J:Imm} {w:World} {ty:Ty} {nt:List Ty} {hd:Ty} {ks:List Mi} {y:Opn} {b:Nat} {us:List Value} {bs:List Nat} (h:(Cw ty nt hd ks y b).P us I w bs) (hle:I.le J) (hJ:∀b∈bs,J b=w.heap[b]?):RepV J (Iv y.no nt.length y.nc) (.sl (B8 nt)):=by
 obtain ⟨F,h1,h2,h3,h4⟩:=h;exact Vj h1.2.1 (λq hq=>h4 q (by simp only [AU,List.cons_append,List.mem_cons,List.mem_append];exact .inr (.inl (.inl hq)))) hle hJ
theorem dZ (ty:Ty) (nt:List Ty) (hd:Ty) (ks:List Mi) (y:Opn) (b:Nat) (hne:nt≠[]) (hl:nt.length<=1000000) :
  Bt Tryz.prog 154 [.raw (Iv y.no nt.length y.nc)] [(3,some (.hp (Cw ty nt hd ks y b)))] (.ret (.own 2 (B8 nt).length) [(3,some (.hp (Cw ty nt hd ks y b))),(2,some (.row 122 3 (B8 nt)))]):=by
 refine OS (st0:=[]) 3 (Cw ty nt hd ks y b) (YW nt hne hl) rfl ⟨Vz _,trivial⟩ (by simp [Ey]) (by simp [Ey]) (by simp [IR]) λvs I J μ w bs h hle hb xs hx=>?_;refine ⟨hx.1,λi v d h1 h2=>?_⟩
 match i with
 | 0 =>
  simp at h2;subst h2;have:=(hx.2 0 v _ h1 rfl).rawInv;subst this;exact .imm _ _ (Ix h hle hb)
 | i+1=>simp at h2
theorem eE {I:Imm} {w:World} {ty:Ty} {nt:List Ty} {hd:Ty} {b:Nat} {v:Value} {us vs:List Value} {b1 b2:List Nat} (hne:nt≠[]) (h:(RS b 161 ((Ao ty++Bv hd).map .imm++[.raw v,.nils])).P us I w b1) (hr:(UT 122 3 (B8 nt) v).P vs I w b2) (hd':∀q∈b1,q∉b2) :
  ∃bs,(∀q∈bs,q∈b1\/q∈b2)/\(Bk (.mk ty nt hd []) b).P [] I w bs:=by
 obtain ⟨h1,ws,h2,h3,h4⟩:=h;obtain ⟨xs,r1,r2,_,_,_,r6⟩:=Qt (by decide) hr;obtain ⟨t1,t2,t3,t4⟩:=ty;obtain ⟨f1,f2,f3,f4⟩:=hd;have hl:=h3.1;simp only [Ao,Bv,List.map_append,List.map_cons,List.map_nil,List.cons_append,List.nil_append,List.length_cons,List.length_nil] at hl h3
 match hvs:ws.toList,hl with
 | [a0,a1,a2,a3,a4,a5,a6,a7,a8],_ =>
 rw [hvs] at h3;have e7:a7=v:=(h3.2 7 a7 _ rfl rfl).rawInv;have e8:a8=I7:=JV (h3.2 8 a8 _ rfl rfl);subst e7;subst e8;have hF:AU a7 I7 b=b::a7.ownBlock.toList:=by simp [AU,I7,Value.ownBlock]
 refine ⟨AU a7 I7 b,λq hq=>?_,AU a7 I7 b,⟨a7,I7,[],[],⟨⟨ws,[a0,a1,a2,a3],[a4,a5,a6],h2,by rw [hvs];rfl,?_,?_⟩,⟨⟨xs,by simpa using r1,r2⟩,λe=>absurd e hne⟩,World.ownsRow_nil w 0 _ 1⟩,⟨rfl,rfl⟩,by simp,?_⟩,λq hq=>hq⟩
 ·rw [hF] at hq;rcases List.mem_cons.1 hq with rfl | hq
  ·exact .inl (by rw [h1];simp)
  ·exact .inr (r6 q (by simpa [Option.mem_toList] using hq))
 ·exact .mk (h3.2 0 a0 _ rfl rfl).immInv (.mk (h3.2 1 a1 _ rfl rfl).immInv (.mk (h3.2 2 a2 _ rfl rfl).immInv (.mk (h3.2 3 a3 _ rfl rfl).immInv .nil)))
 ·exact .mk (h3.2 4 a4 _ rfl rfl).immInv (.mk (h3.2 5 a5 _ rfl rfl).immInv (.mk (h3.2 6 a6 _ rfl rfl).immInv .nil))
 ·rw [hF];refine List.nodup_cons.2 ⟨λhq=>?_,by cases a7.ownBlock <;> simp⟩;have:=r6 b (by simpa [Option.mem_toList] using hq);exact hd' b (by rw [h1];simp) this
theorem PF (ds:List Dt) (N:Nat) (hN:N<=1000000):∀(m:Mi) (b:Nat),GV ds N m=true ->
  Bt Tryz.prog 121 [.raw (ptr b)] [(1,some (.hp (Bk m b)))] (.ret (.hv 2 0) [(3,some (.hp (Bk m b))),(2,some (.hp (GF m)))])
 | .mk (.mk so n x ps) nt (.mk f hd2 hd3 hd4) ks,b,hw=>by
  have hwi:=AR.1 hw;simp only [Mi.nt,Mi.ks] at hwi;have hnt:nt.length<=1000000:=by omega
  have hkl:ks.length<=3:=hwi.1.2.1;refine Ae Ai Tryz.func121 (by decide +kernel) rfl [4,5,6,7,8,9,10,11,12] rfl rfl ?_;have J:∀(y:Opn) (ob:Nat),DGo Tryz.prog Tryz.f121.ntmps (Ey [(1,some (.hp (Bk (.mk (.mk so n x ps) nt (.mk f hd2 hd3 hd4) ks) b)))]) (Nk aJ Tryz.f121.results.toList (.ret (.hv 2 0) [(3,some (.hp (Bk (.mk (.mk so n x ps) nt (.mk f hd2 hd3 hd4) ks) b))),(2,some (.hp (GF (.mk (.mk so n x ps) nt (.mk f hd2 hd3 hd4) ks))))]))
    [.code (Gi Tryz.f121 2)] [(3,.raw (ptr ob)),(0,.raw (ptr b))] [(4,some (.hp (Cw (.mk so n x ps) nt (.mk f hd2 hd3 hd4) ks y b))),(9,some (.hp (Bk (.mk (.mk so n x ps) nt (.mk f hd2 hd3 hd4) []) ob)))] [5,6,7,8,10,11,12,13,14,2]:=by
   intro y ob;refine Ak rfl ?_;refine B5 Ai 4 [.raw (Iv y.ko ks.length y.kc)] rfl rfl (λ_ vs I w bs h=>KR h) rfl rfl (by simp [Ap]) ?_;refine Du rfl ?_;refine An (λi:Nat=>[(26,.imm (.int .i64 i)),(25,.imm (.int .i64 ks.length)),(24,.raw (Iv y.ko ks.length y.kc)),(3,.raw (ptr ob))])
    (λi=>[(4,some (.hp (Cw (.mk so n x ps) nt (.mk f hd2 hd3 hd4) ks y b))),(9,some (.hp (Bk (.mk (.mk so n x ps) nt (.mk f hd2 hd3 hd4) (ks.take i)) ob)))]) [5,6,7,8,10,11,12,13,14,2] (λi=>ks.length-i)
    (λi=>i<=ks.length) 0 (Nat.zero_le _) ⟨rfl,rfl,rfl,rfl,trivial⟩ ⟨rfl,rfl,trivial⟩ rfl λi hi ih=>?_
   refine Ak rfl ?_;refine Ab rfl (λh=>?_) (λh=>?_)
   ·simp at h;obtain ⟨k,hk⟩:=As h;have hC:=PF ds N hN k;have hih:=ih (i+1) (by omega) (by omega);rw [Bh hk] at hih;refine Cl 4 (λ_:{ z:Nat×Nat // y.ko=some z.1/\y.kbs[i]?=some z.2 }=>Cw (.mk so n x ps) nt (.mk f hd2 hd3 hd4) ks y b) rfl (λvs I w bs hA=>?_) λz=>?_
    ·obtain ⟨g,g1,_⟩:=P5 hA (λe=>by rw [e] at h;simp at h);have hl:=I5 hA;exact ⟨⟨(g,y.kbs[i]'(by omega)),g1,List.getElem?_eq_getElem (by omega)⟩,hA⟩
    obtain ⟨⟨g,kb⟩,hko,hkb⟩:=z;simp only at hko hkb;obtain ⟨no,nc,ko,kc,kbs⟩:=y;simp only at hko hkb;subst hko;have hC:=hC kb (hwi.2.2 k (List.mem_of_getElem? hk));refine Cl 9 (λz:Opn=>Cw (.mk so n x ps) nt (.mk f hd2 hd3 hd4) (ks.take i) z ob) rfl (λvs I w bs h=>let ⟨z,hz⟩:=Ei h;⟨z,hz⟩) λz=>?_;refine Ak rfl ?_;refine ML Ai rfl rfl (λ_=>⟨by simp,by simp;omega⟩) (by simp) ?_;refine Aj rfl ?_;refine B5 Ai 4 [.raw (ptr kb)] rfl rfl (λ_ vs I w bs h=>VX rfl hkb h) rfl rfl (by simp) ?_;refine qI 2 rfl (by simp) ?_
    refine J3 4 5 6 (λ_:Unit=>RP (.mk so n x ps) nt (.mk f hd2 hd3 hd4) ks ⟨no,nc,some g,kc,kbs⟩ b i kb) (λ_:Unit=>Bk k kb) rfl (λvs I w bs h=>let ⟨b1,b2,h1,h2,h3,h4,h5⟩:=Q6 h hk hkb;⟨(),b1,b2,h1,h2,h3,h4,h5⟩) λ_=>?_;refine Ak rfl ?_;refine B5 Ai 9 [.raw (Iv z.ko (ks.take i).length z.kc)] rfl rfl (λ_ vs I w bs h=>KR h) rfl rfl (by simp [Ap]) ?_;refine Du rfl ?_;refine BX [(6,1)] [(3,7),(2,8)] [] (fr:=[7,8]) (nm:=[7,8,6]) rfl trivial (by simp) hC ⟨⟨rfl,rfl,rfl⟩,trivial⟩ rfl trivial rfl rfl rfl ?_;refine Aj rfl ?_;refine jX Ai 8 10 rfl rfl ?_;refine Aj rfl ?_
    refine jY Ai 9 10 11 (ZX (.mk so n x ps) nt (.mk f hd2 hd3 hd4) (ks.take i++[k]) ob) rfl rfl rfl (by decide) (ZT (bytes:=8) (by decide) (by simp;omega)) ?_;refine Aj rfl ?_;refine NO Ai 11 _ rfl rfl V4 ?_;refine mg [] rfl (by simp [Ap];rfl) ?_;refine GM 5 7 12 (λ_:Unit=>Cw (.mk so n x ps) nt (.mk f hd2 hd3 hd4) ks ⟨no,nc,some g,kc,kbs⟩ b) rfl rfl (by decide) (λvs us I w b1 b2 h1 h2 h3=>let ⟨bs,e1,e2⟩:=T4 h1 h2 h3;⟨(),bs,e1,by rw [gB hk] at e2;exact e2⟩) λ_=>?_;refine AF 4 12 rfl ?_;refine AF 9 11 rfl ?_;exact Ad hih ⟨A0 (B2 (by omega) (by omega)),rfl,rfl,rfl,trivial⟩ ⟨rfl,rfl,trivial⟩ rfl
   ·simp at h;refine Aw rfl ?_;rw [List.take_of_length_le (by omega)];refine Ak rfl ?_;refine Cl 4 (λ_:Unit=>Bk (.mk (.mk so n x ps) nt (.mk f hd2 hd3 hd4) ks) b) rfl (λvs I w bs h=>⟨(),EL h⟩) λ_=>?_;refine H7 9 2 5 (GF (.mk (.mk so n x ps) nt (.mk f hd2 hd3 hd4) ks)) rfl rfl rfl (λus I w bs h=>let ⟨F,h1,h2⟩:=h;⟨ob,F,rfl,h1,h2⟩) ?_;refine AF 5 2 rfl ?_;refine AF 4 3 rfl ?_;exact Au ⟨_,rfl,rfl,rfl,rfl,trivial⟩
  refine Lc 1 4 (λy:Opn=>Cw _ nt _ ks y b) rfl (λvs I w bs h=>let ⟨y,hy⟩:=Ei h;⟨y,bs,λq hq=>hq,hy⟩) λy=>?_;by_cases hne:nt=[]
  ·subst hne;refine Cl 4 (λ_:PLift (y.no=none/\y.nc=0)=>Cw _ [] _ ks y b) rfl (λvs I w bs h=>⟨⟨mI h⟩,h⟩) λhy=>?_;obtain ⟨no,nc,ko,kc,kbs⟩:=y;obtain ⟨⟨rfl,rfl⟩⟩:=hy;refine Ak rfl ?_;refine B5 Ai 4 ((Ao (.mk so n x ps)).map .imm) rfl rfl (λ_ vs I w bs h=>KQ h) rfl rfl (by simp [Ap]) ?_;refine Du rfl ?_;refine B5 Ai 4 ((Bv (.mk f hd2 hd3 hd4)).map .imm) rfl rfl (λ_ vs I w bs h=>P6 h) rfl rfl (by simp [Ap]) ?_;refine Du rfl ?_;refine B5 Ai 4 [.raw I7] rfl rfl (λ_ vs I w bs h=>Jq h) rfl rfl (by simp [Ap]) ?_;refine Du rfl ?_;refine BX [] [] [] (fr:=[]) (nm:=[]) rfl trivial (by simp) YX trivial rfl trivial rfl rfl rfl ?_;refine qI 4 rfl (by simp [Ap];rfl) ?_;refine GN 5 6 rfl rfl λob=>?_
   refine Cl 6 (λ_:Unit=>Bk (.mk (.mk so n x ps) [] (.mk f hd2 hd3 hd4) []) ob) rfl (λvs I w bs h=>⟨(),R8 h⟩) λ_=>?_;refine AF 6 9 rfl ?_;exact Ad (J _ ob) ⟨rfl,rfl,trivial⟩ ⟨rfl,rfl,trivial⟩ rfl
  ·refine Ak rfl ?_;refine B5 Ai 4 ((Ao (.mk so n x ps)).map .imm) rfl rfl (λ_ vs I w bs h=>KQ h) rfl rfl (by simp [Ap]) ?_;refine Du rfl ?_;refine B5 Ai 4 ((Bv (.mk f hd2 hd3 hd4)).map .imm) rfl rfl (λ_ vs I w bs h=>P6 h) rfl rfl (by simp [Ap]) ?_;refine Du rfl ?_;refine B5 Ai 4 [.raw (Iv y.no nt.length y.nc)] rfl rfl (λ_ vs I w bs h=>Jq h) rfl rfl (by simp [Ap]) ?_;refine Du rfl ?_;refine BX [(4,3)] [(2,5)] [4] (fr:=[5]) (nm:=[5]) rfl trivial (by simp) (dZ _ nt _ ks y b hne hnt) ⟨⟨rfl,rfl,rfl⟩,trivial⟩ rfl ⟨⟨rfl,rfl⟩,trivial⟩ rfl rfl rfl ?_;refine qI 4 rfl (by simp [Ap];rfl) ?_;refine LP 5 7 rfl λv=>?_;refine GN 6 8 rfl rfl λob=>?_
   refine GM 8 7 9 (λ_:Unit=>Bk (.mk (.mk so n x ps) nt (.mk f hd2 hd3 hd4) []) ob) rfl rfl (by decide) (λvs us I w b1 b2 h1 h2 h3=>let ⟨bs,e1,e2⟩:=eE hne h1 h2 h3;⟨(),bs,e1,e2⟩) λ_=>?_;exact Ad (J _ ob) ⟨rfl,rfl,trivial⟩ ⟨rfl,rfl,trivial⟩ rfl
termination_by m=>SizeOf.sizeOf m
decreasing_by
 have:=List.sizeOf_lt_of_mem (List.mem_of_getElem? hk);simp_wf;omega
def CS (ds:List Dt):Mi->List Int->Mi
 | m,[]=>m
 | m,i::p=>match (Ac ds m).ks[i.toNat]? with
  | some k=>CS ds k p
  | none=>m
def Nm (ds:List Dt):Mi->List Int->Mi->Mi
 | _,[],k=>k
 | m,i::p,k=>match (Ac ds m).ks[i.toNat]? with
  | some x=>.mk (Ac ds m).ty (Ac ds m).nt (Ac ds m).hd ((Ac ds m).ks.set i.toNat (Nm ds x p k))
  | none=>m
theorem SJ {ds:List Dt} (h:Ty):∀(path:List Int) (m:Mi),In ds m path->A3 ds m path h true=Nm ds m path (AY ds (CS ds m path) h) /\
  A3 ds m path h false=Nm ds m path (.mk (CS ds m path).ty ((CS ds m path).nt++[h]) (CS ds m path).hd (CS ds m path).ks)
 | [],m,_=>⟨rfl,rfl⟩
 | i::p,m,⟨_,k,hk,hp⟩=>by
  obtain ⟨h1,h2⟩:=SJ h p k hp;simp only [A3,Nm,CS,hk,h1,h2];exact ⟨trivial,trivial⟩
def AtA (ds:List Dt) (m:Mi) (b:Nat) (path:List Int):Asn where
 P us I w bs:=∃x b1 b2,us=[ptr x]/\(∀q∈b1,q∈bs)/\(∀q∈b2,q∈bs)/\(∀q∈b1,q∉b2)/\(GE b x (Nm ds m path)).P [] I w b1/\(Bk (CS ds m path) x).P [] I w b2
 mono:=λh ⟨x,b1,b2,h0,h1,h2,h3,h4,h5⟩=>⟨x,b1,b2,h0,h1,h2,h3,(GE _ _ _).mono h h4,(Bk _ _).mono h h5⟩
 loc:=λh ⟨x,b1,b2,h0,h1,h2,h3,h4,h5⟩=>⟨x,b1,b2,h0,h1,h2,h3,(GE _ _ _).loc (λq hq=>h q (h1 q hq)) h4,(Bk _ _).loc (λq hq=>h q (h2 q hq)) h5⟩
theorem Uh {I:Imm} {w:World} {ty:Ty} {nt:List Ty} {hd:Ty} {ks:List Mi} {y:Opn} {b i kb:Nat} {us vs:List Value} {bs:List Nat} (h:(RP ty nt hd ks y b i kb).P us I w bs):(GE b kb (λk=>.mk ty nt hd (ks.set i k))).P vs I w bs:=by
 intro J w2 k F hJ hw hm hF;obtain ⟨G,g1,g2⟩:=h J w2 k F hJ hw hm hF;obtain ⟨F',f1,f2⟩:=EL (vs:=[]) g1;exact ⟨F',f1,λq hq=>g2 q (f2 q hq)⟩
structure AtI where
 i:Nat
 x:Nat
 n:Mi
 T:Mi->Mi
theorem rH (c:Cse) (sz:List (List V)) (ho:OkW c.datas) (N:Nat) (m:Mi) (b:Nat) (path:List Int) (hl:path.length<=1000000) (hw:GV c.datas N m=true) (hc:Ed c.datas m) (hp:In c.datas m path) :
  Bt Tryz.prog 137 [.imm (AQ c sz),.raw (ptr b),.imm (.sl (AJ path))] [(1,some (.hp (Bk m b)))] (.ret (.hv 2 0) [(2,some (.hp (AtA c.datas m b path)))]):=by
 have hK:=λn x hn=>Wf c sz n x ho hn;refine Ae Ai Tryz.func137 (by decide +kernel) rfl [4,5,6,7,8,9,10,11,12] rfl rfl ?_;refine J3 1 4 5 (λ_:Unit=>GE b b (λk=>k)) (λ_:Unit=>Bk m b) rfl (λvs I w bs h=>⟨(),[],bs,(λq hq=>by cases hq),(λq hq=>hq),(λq hq=>by cases hq),lU,h⟩) λ_=>?_;refine Ak rfl ?_;refine An (λy:AtI=>[(11,.imm (.int .i64 y.i)),(10,.imm (.int .i64 path.length)),(9,.imm (.sl (AJ path))),(1,.raw (ptr y.x)),(0,.imm (AQ c sz))])
  (λy=>[(4,some (.hp (GE b y.x y.T))),(5,some (.hp (Bk y.n y.x)))]) [6,7,8,9,10,11,12] (λy=>path.length-y.i)
  (λy=>y.i<=path.length/\GV c.datas N y.n=true/\Ed c.datas y.n/\In c.datas y.n (path.drop y.i)/\CS c.datas y.n (path.drop y.i)=CS c.datas m path/\∀k,y.T (Nm c.datas y.n (path.drop y.i) k)=Nm c.datas m path k)
  ⟨0,b,m,λk=>k⟩ ⟨Nat.zero_le _,hw,hc,hp,rfl,λk=>rfl⟩ ⟨rfl,A0 (by simp),rfl,rfl,rfl,trivial⟩ ⟨rfl,rfl,trivial⟩ rfl λy hi ih=>?_
 obtain ⟨i,x,n,T⟩:=y;obtain ⟨hi1,hi2,hi3,hi4,hi5,hi6⟩:=hi;simp only at hi1 hi2 hi3 hi4 hi5 hi6;refine Ak rfl ?_;refine Ab rfl (λh=>?_) (λh=>?_)
 ·have hlt:i<path.length:=by simp at h;omega
  obtain ⟨j,hj⟩:=As hlt;rw [Av hj] at hi4 hi5 hi6;obtain ⟨hj0,k,hk,hk2⟩:=hi4;have hsw:=Cy ho hi2;have hsc:=Da (ds:=c.datas) hi3;have hkm:=List.mem_of_getElem? hk;have hne:AK (Ac c.datas n).hd≠0:=λe=>by rw [(BI.1 hsc).1 e] at hkm;cases hkm
  have hkb:H0 c.datas n=true:=decide_eq_true hne;have hKn:=hK n x (AR.1 hi2).1.1;rw [hkb] at hKn;simp only [CS,Nm,hk] at hi5 hi6;have hwk:=(AR.1 hsw).2.2 k hkm;have hck:=(BI.1 hsc).2.2 k hkm;have hjl:=(List.getElem?_eq_some_iff.1 hk).1;have hkl:=(AR.1 hsw).1.2.1;generalize Ac c.datas n=S at *;obtain ⟨ty,nt,hd,ks⟩:=S;simp only [Mi.ks,Mi.ty,Mi.nt,Mi.hd] at *;refine Ak rfl ?_;refine mi rfl (c:=[.int .i64 j]) (λ_=>⟨by simp,by simp [AJ,hj],rfl⟩) (by simp) ?_;refine Aj rfl ?_;refine AC (fr:=[6]) [(5,1)] [(2,6)] rfl (by simp) hKn ⟨⟨rfl,rfl,rfl⟩,trivial⟩ rfl rfl rfl rfl ?_;refine Cl 6 (λy:Opn=>Cw ty nt hd ks y x) rfl (λvs I w bs h=>Ei h) λy=>?_;refine Ak rfl ?_
  refine B5 Ai 6 [.raw (Iv y.ko ks.length y.kc)] rfl rfl (λ_ vs I w bs h=>KR h) rfl rfl (by simp [Ap]) ?_;refine Du rfl ?_;refine Ab rfl (λh=>by exfalso;simp at h;omega) (λh=>?_);clear h;obtain ⟨q,rfl⟩:∃q:Nat,j=q:=⟨j.toNat,by omega⟩
  simp only [Int.toNat_natCast] at *;refine Cl 6 (λ_:{ z:Nat×Nat // y.ko=some z.1/\y.kbs[q]?=some z.2 }=>Cw ty nt hd ks y x) rfl (λvs I w bs hA=>?_) λz=>?_
  ·obtain ⟨g,g1,_⟩:=P5 hA (λe=>by rw [e] at hjl;simp at hjl);have hl:=I5 hA;exact ⟨⟨(g,y.kbs[q]'(by omega)),g1,List.getElem?_eq_getElem (by omega)⟩,hA⟩
  obtain ⟨⟨g,kb⟩,hko,hkb2⟩:=z;simp only at hko hkb2;obtain ⟨no,nc,ko,kc,kbs⟩:=y;simp only at hko hkb2;subst hko;refine Ak rfl ?_;refine B5 Ai 6 [.raw (Iv (some g) ks.length kc)] rfl rfl (λ_ vs I w bs h=>KR h) rfl rfl (by simp [Ap]) ?_;refine Du rfl ?_;refine ML Ai rfl rfl (λ_=>⟨by simp,by simp;omega⟩) (by simp) ?_;refine Aj rfl ?_;refine B5 Ai 6 [.raw (ptr kb)] rfl rfl (λ_ vs I w bs h=>VX rfl hkb2 h) rfl rfl (by simp) ?_;refine Aj rfl ?_;refine J3 6 7 8 (λ_:Unit=>GE x kb (λk'=>.mk ty nt hd (ks.set q k'))) (λ_:Unit=>Bk k kb) rfl (λvs I w bs h=>let ⟨b1,b2,h1,h2,h3,h4,h5⟩:=Q6 h hk hkb2;⟨(),b1,b2,h1,h2,h3,Uh h4,h5⟩) λ_=>?_
  refine GM 4 7 9 (λ_:Unit=>GE b kb (λk'=>T (.mk ty nt hd (ks.set q k')))) rfl rfl (by decide) (λvs us I w b1 b2 h1 h2 h3=>⟨(),b1++b2,λq hq=>List.mem_append.1 hq,aG h1 h2 h3⟩) λ_=>?_;refine AF 4 9 rfl ?_;refine AF 5 8 rfl ?_;exact Ad (ih ⟨i+1,kb,k,λk'=>T (.mk ty nt hd (ks.set q k'))⟩ (by simp only;omega) ⟨by simp only;omega,hwk,hck,hk2,hi5,hi6⟩) ⟨A0 (B2 (by omega) (by omega)),rfl,rfl,rfl,rfl,trivial⟩ ⟨rfl,rfl,trivial⟩ rfl
 ·have hlt:¬i<path.length:=by simp at h;omega
  refine Aw rfl ?_;rw [List.drop_eq_nil_of_le (by omega)] at hi5 hi6;simp only [CS,Nm] at hi5 hi6;have hT:T=Nm c.datas m path:=funext hi6;subst hT;subst hi5;refine Ak rfl ?_;refine GM 4 5 6 (λ_:Unit=>RL (GE b x (Nm c.datas m path)) (Bk (CS c.datas m path) x)) rfl rfl (by decide) (λvs us I w b1 b2 h1 h2 h3=>⟨(),b1++b2,λq hq=>List.mem_append.1 hq,b1,b2,λq hq=>List.mem_append_left _ hq,λq hq=>List.mem_append_right _ hq,h3,h1,h2⟩) λ_=>?_;refine H7 6 6 7 (AtA c.datas m b path) rfl rfl rfl (λus I w bs ⟨b1,b2,h1,h2,h3,h4,h5⟩=>⟨x,b1,b2,rfl,h1,h2,h3,h4,h5⟩) ?_;refine AF 7 2 rfl ?_;exact Au ⟨_,rfl,rfl,rfl,trivial⟩
section
variable {I J:Imm} {w w':World} {ty:Ty} {nt:List Ty} {hd:Ty} {ks:List Mi} {nv kv:Value} {kbs:List Nat} {b:Nat} {us:List Value} {bs:List Nat}
def lD (ty:Ty) (nt:List Ty) (hd:Ty) (ks:List Mi) (b:Nat):Asn where
 P us I w bs:=∃v nv kv kbs Fk,us=[v]/\ZQ I w ty hd nv kv b/\Tl I w nt v/\KU w kbs kv/\D8 I w ks kbs Fk/\(AU v kv b++Fk).Nodup/\∀q∈AU v kv b++Fk,q∈bs
 mono:=λh ⟨v,nv,kv,kbs,Fk,h0,⟨vs,ts,hs,h1,h2,h3,h4⟩,⟨⟨xs,h5,h6⟩,h7⟩,h8,h9,h10⟩=>⟨v,nv,kv,kbs,Fk,h0,⟨vs,ts,hs,h1,h2,h3.mono h,h4.mono h⟩,⟨⟨xs,h5,h6.mono h⟩,h7⟩,h8,DZ h h9,h10⟩
 loc:=λh ⟨v,nv,kv,kbs,Fk,h0,⟨vs,ts,hs,h1,h2⟩,⟨⟨xs,h5,h6⟩,h7⟩,h8,h9,h10,h11⟩=>⟨v,nv,kv,kbs,Fk,h0,⟨vs,ts,hs,(h b (h11 b (by simp [AU]))).trans h1,h2⟩,
  ⟨⟨xs,BV (λq hq=>h q (h11 q (by simp only [AU,List.cons_append,List.mem_cons,List.mem_append];exact .inr (.inl (.inl hq))))) h5,h6⟩,h7⟩,BV (λq hq=>h q (h11 q (by simp only [AU,List.cons_append,List.mem_cons,List.mem_append];exact .inr (.inl (.inr hq))))) h8,
  CA (λq hq=>h q (h11 q (by simp [hq]))) h9,h10,h11⟩
theorem nQ {h:Ty} {bytes:Nat} (hb:bytes<=1000) (hl:nt.length<=1000000):lL (CU ty nt hd ks nv kv kbs b) (lD ty (nt++[h]) hd ks b) 122 3 bytes nv [Bv h]:=by
 refine ⟨λc hc=>by simp at hc;subst hc;simp,λus I w b1 ⟨Fk,⟨hcell,hnot,hrow⟩,h2,h3,h4⟩=>?_⟩;obtain ⟨⟨xs,x1,x2⟩,x3⟩:=hnot;refine ⟨nt.length,xs,x1,λq hq=>h4 q (by simp [AU,hq]),⟨by simp only [maxLen,List.length_singleton];omega,?_⟩,λv' w' news n1 n2 hg=>?_⟩
 ·have:(nt.length+1)*bytes<=1000001*1000:=Nat.mul_le_mul (by omega) hb;simp only [List.length_singleton];omega
 have hne:∀q,q<w.heap.size->q∉nv.ownBlock.toList->w'.heap[q]?=w.heap[q]?:=λq hq hk=>hg.2.1.block q hq (λe=>hk (by simp [e]));have hbase:∀q∈nv.ownBlock.toList,q∈b1:=λq hq=>h4 q (by simp only [AU,List.cons_append,List.mem_cons,List.mem_append];exact .inr (.inl (.inl hq)));have hnod:=h3;simp only [AU,List.cons_append,List.append_assoc] at hnod;obtain ⟨n1',n2'⟩:=List.nodup_cons.1 hnod;obtain ⟨n3,n4,n5⟩:=List.nodup_append.1 n2';obtain ⟨n6,n7,n8⟩:=List.nodup_append.1 n4;have hbk:b∉nv.ownBlock.toList:=λh=>n1' (by simp only [List.mem_append];exact .inl h);have hkk:∀q∈kv.ownBlock.toList,q∉nv.ownBlock.toList:=λq hq hk=>n5 q hk q (by simp only [List.mem_append];exact .inl hq) rfl
 have hFk:∀q∈Fk,q∉nv.ownBlock.toList:=λq hq hk=>n5 q hk q (by simp only [List.mem_append];exact .inr hq) rfl;have hltn:=U1 (I:=I) (w:=w) (ty:=ty) (nt:=nt) (hd:=hd) (nv:=nv) (kv:=kv) (kbs:=kbs) (b:=b) ⟨hcell,⟨⟨xs,x1,x2⟩,x3⟩,hrow⟩;have hltb:b<w.heap.size:=hltn b (by simp [AU]);have hltkv:∀q∈kv.ownBlock.toList,q<w.heap.size:=λq hq=>hltn q (by simp only [AU,List.mem_cons,List.mem_append];exact .inr (.inr hq));have hltF:=P8 h2;have hv1:∀q∈v'.ownBlock.toList,q∈nv.ownBlock.toList\/w.heap.size<=q:=λq hq=>Uz hg hq;refine ⟨AU v' kv b++Fk,λq hq=>?_,v',nv,kv,kbs,Fk,rfl,?_,⟨⟨xs++news,?_,?_⟩,λe=>by simp at e⟩,?_,?_,?_,λq hq=>hq⟩
 ·simp only [AU,List.cons_append,List.mem_cons,List.mem_append] at hq;have hw:q∈b1\/(w.heap.size<=q/\q∈v'.ownBlock.toList):=by
   rcases hq with rfl | (hq | hq) | hq
   ·exact .inl (h4 q (by simp [AU]))
   ·rcases hv1 q hq with h | h
    ·exact .inl (hbase q h)
    ·exact .inr ⟨h,hq⟩
   ·exact .inl (h4 q (by simp only [AU,List.cons_append,List.mem_cons,List.mem_append];exact .inr (.inl (.inr hq))))
   ·exact .inl (h4 q (by simp [hq]))
  rcases hw with h | ⟨h,hq⟩
  ·exact .inl h
  ·exact .inr ⟨h,Q4 hg.1 hq⟩
 ·obtain ⟨vs0,ts,hs,c1,c2⟩:=hcell;exact ⟨vs0,ts,hs,(hne b hltb hbk).trans c1,c2⟩
 ·rw [List.length_append];exact hg.1
 ·rw [OL,List.flatten_append];exact x2.append n1
 ·exact BV (λq hq=>hne q (hltkv q hq) (hkk q hq)) hrow
 ·exact CA (λq hq=>hne q (hltF q hq) (hFk q hq)) h2
 ·have hvn:v'.ownBlock.toList.Nodup:=by cases v'.ownBlock <;> simp
  simp only [AU,List.cons_append,List.append_assoc];refine List.nodup_cons.2 ⟨λh=>?_,List.nodup_append.2 ⟨hvn,n4,λx hx y hy e=>?_⟩⟩
  ·rcases List.mem_append.1 h with h | h
   ·rcases hv1 b h with h | h
    ·exact hbk h
    ·omega
   ·exact n1' (List.mem_append_right _ h)
  ·subst e;rcases List.mem_append.1 hy with hy | hy
   ·rcases hv1 x hx with h | h
    ·exact hkk x hy h
    ·have:=hltkv x hy;omega
   ·rcases hv1 x hx with h | h
    ·exact hFk x hy h
    ·have:=hltF x hy;omega
theorem mE:RK (lD ty nt hd ks b) (Bk (.mk ty nt hd ks) b) b 7 0:=by
 intro us I w bs ⟨v,nv,kv,kbs,Fk,h0,⟨vs,ts,hs,h1,h2,h3,h4⟩,h5,h6,h7,h8,h9⟩;have e1:ts.length=4:=by rw [h3.1,PX]
 have e2:hs.length=3:=by rw [h4.1];simp
 have hl:vs.toList.length=9:=by rw [h2];simp [e1,e2]
 refine ⟨h9 b (by simp [AU]),vs,_,h1,by simp at hl;omega,λu hu h1u=>?_⟩;subst h0;have hu:v=u:=by simpa using hu
 subst hu;have hne:=LF h8;refine ⟨AU v kv b++Fk,⟨v,kv,kbs,Fk,⟨⟨_,ts,hs,setRow_heap w b vs _ _ _ h1,?_,h3,h4⟩,⟨?_,h5.2⟩,?_⟩,?_,rfl,h8⟩,h9⟩
 ·rw [List.toList_toArray,h2]
  match ts,e1 with
  | [a0,a1,a2,a3],_ =>
  match hs,e2 with
  | [a4,a5,a6],_=>simp
 ·obtain ⟨⟨xs,x1,x2⟩,_⟩:=h5;exact ⟨xs,BV (λq hq=>CX (hne q (by simp only [List.mem_append];exact .inl (.inl hq)))) x1,x2⟩
 ·exact BV (λq hq=>CX (hne q (by simp only [List.mem_append];exact .inl (.inr hq)))) h6
 ·exact CA (λq hq=>CX (hne q (by simp only [List.mem_append];exact .inr hq))) h7
end
theorem Ue {ds:List Dt} (ho:OkW ds) {N:Nat}:∀(path:List Int) (m:Mi),GV ds N m=true->In ds m path->GV ds N (CS ds m path)=true
 | [],m,h,_=>h
 | i::p,m,h,⟨_,k,hk,hp⟩=>by
  simp only [CS,hk];exact Ue ho p k ((AR.1 (Cy ho h)).2.2 k (List.mem_of_getElem? hk)) hp
theorem Qe (c:Cse) (sz:List (List V)) (ho:OkW c.datas) (N:Nat) (hN:N<=1000000) (m:Mi) (b:Nat) (path:List Int) (h:Ty) (is:Bool) (hl:path.length<=1000000) (hw:GV c.datas N m=true) (hc:Ed c.datas m) (hp:In c.datas m path) :
  Bt Tryz.prog 91 [.imm (AQ c sz),.raw (ptr b),.imm (.sl (AJ path)),.imm (.agg (Bv h)),.imm (.bool is)] [(1,some (.hp (Bk m b)))] (.ret (.hv 2 0) [(3,some (.hp (Bk m b))),(2,some (.hp (GF (A3 c.datas m path h is))))]):=by
 have hC:=PF c.datas N hN m b hw;have hA:=λx=>rH c sz ho N m x path hl hw hc hp;have hwp:=AR.1 (Ue ho path m hw hp);have hH:=λx=>Yx c sz (CS c.datas m path) h x ho hwp.1.1;obtain ⟨s1,s2⟩:=SJ h path m hp;have hnl:=hwp.1.2.2;obtain ⟨h1,h2,h3,h4⟩:=h;refine Ae Ai Tryz.func91 (by decide +kernel) rfl [4,5,6,7,8,9,10,11,12,13,14] rfl rfl ?_;refine Aj rfl ?_;refine AC (fr:=[5,6]) [(1,1)] [(3,5),(2,6)] rfl (by simp) hC ⟨⟨rfl,rfl,rfl⟩,trivial⟩ rfl rfl rfl rfl ?_;refine IJ 6 7 (λob:Nat=>[ptr ob]) (λob=>Bk m ob) rfl (λvs I w bs h=>let ⟨ob,F,e1,e2,e3⟩:=h;⟨ob,e1,F,e2,e3⟩) λob=>?_;refine Ak rfl ?_;refine AC (fr:=[8]) [(7,1)] [(2,8)] rfl (by simp) (hA ob) ⟨⟨rfl,rfl,rfl⟩,trivial⟩ rfl rfl rfl rfl ?_
 refine IJ 8 9 (λx:Nat=>[ptr x]) (λx=>RL (GE ob x (Nm c.datas m path)) (Bk (CS c.datas m path) x)) rfl (λvs I w bs h=>let ⟨x,b1,b2,e1,e2⟩:=h;⟨x,e1,b1,b2,e2⟩) λx=>?_;refine J3 9 10 11 (λ_:Unit=>GE ob x (Nm c.datas m path)) (λ_:Unit=>Bk (CS c.datas m path) x) rfl (λvs I w bs ⟨b1,b2,h1,h2,h3,h4,h5⟩=>⟨(),b1,b2,h1,h2,h3,h4,h5⟩) λ_=>?_;refine Ak rfl ?_;cases is with
 | true =>
  refine Ah rfl λh=>?_;refine Ak rfl ?_;refine AC (fr:=[12]) [(11,1)] [(2,12)] rfl (by simp) (hH x) ⟨⟨rfl,rfl,rfl⟩,trivial⟩ rfl rfl rfl rfl ?_;refine Aj rfl ?_;refine GM 10 12 13 (λ_:Unit=>Bk (A3 c.datas m path (.mk h1 h2 h3 h4) true) ob) rfl rfl (by decide) (λvs us I w b1 b2 k1 k2 k3=>let ⟨bs,e1,e2⟩:=S5 k1 k2 k3;⟨(),bs,e1,by rw [s1];exact e2⟩) λ_=>?_;refine H7 13 10 14 (GF (A3 c.datas m path (.mk h1 h2 h3 h4) true)) rfl rfl rfl (λus I w bs h=>let ⟨F,e1,e2⟩:=h;⟨ob,F,rfl,e1,e2⟩) ?_;refine AF 14 2 rfl ?_;refine AF 5 3 rfl ?_;exact Au ⟨_,rfl,rfl,rfl,rfl,trivial⟩
 | false =>
  refine At rfl λh=>?_;generalize hP:CS c.datas m path=P0 at *;obtain ⟨pty,pnt,phd,pks⟩:=P0;simp only [Mi.nt,Mi.ty,Mi.hd,Mi.ks] at hnl s2;refine Cl 11 (λy:Opn=>Cw pty pnt phd pks y x) rfl (λvs I w bs h=>Ei h) λy=>?_;refine Ak rfl ?_;refine B5 Ai 11 [.raw (Iv y.no pnt.length y.nc)] rfl rfl (λ_ vs I w bs h=>Jq h) rfl rfl (by simp [Ap]) ?_;refine Du rfl ?_;refine qA Ai 11 12 (lD pty (pnt++[Ty.mk h1 h2 h3 h4]) phd pks x) rfl rfl (nQ (h:=Ty.mk h1 h2 h3 h4) (bytes:=32) (by decide) (by omega)) ?_;refine Aj rfl ?_;refine NO Ai 12 _ rfl rfl mE ?_;refine mg [] rfl (by simp [Ap];rfl) ?_
  refine GM 10 12 13 (λ_:Unit=>Bk (A3 c.datas m path (.mk h1 h2 h3 h4) false) ob) rfl rfl (by decide) (λvs us I w b1 b2 k1 k2 k3=>let ⟨bs,e1,e2⟩:=S5 k1 k2 k3;⟨(),bs,e1,by rw [s2];exact e2⟩) λ_=>?_;refine H7 13 10 14 (GF (A3 c.datas m path (.mk h1 h2 h3 h4) false)) rfl rfl rfl (λus I w bs h=>let ⟨F,e1,e2⟩:=h;⟨ob,F,rfl,e1,e2⟩) ?_;refine AF 14 2 rfl ?_;refine AF 5 3 rfl ?_;exact Au ⟨_,rfl,rfl,rfl,rfl,trivial⟩
end Go.Hk
namespace Go.Hk
open Go.Proofs
section
variable {I J:Imm} {w w':World} {ty:Ty} {nt:List Ty} {hd:Ty} {ks:List Mi} {b:Nat} {us:List Value} {bs:List Nat}
def Xl (ty:Ty) (nt:List Ty) (hd:Ty) (ks:List Mi) (y:Opn) (b i kb:Nat):Asn where
 P us I w bs:=Io I w ty nt hd (Iv y.no nt.length y.nc) (Iv y.ko ks.length y.kc) y.kbs b/\y.kbs.length=ks.length/\(∀q∈AU (Iv y.no nt.length y.nc) (Iv y.ko ks.length y.kc) b,q∈bs)/\(RP ty nt hd ks y b i kb).P us I w bs
 mono:=λh ⟨h1,h2,h3,h4⟩=>⟨EM h h1,h2,h3,(RP ty nt hd ks y b i kb).mono h h4⟩
 loc:=λh ⟨h1,h2,h3,h4⟩=>⟨FI (λq hq=>h q (h3 q hq)) h1,h2,h3,(RP ty nt hd ks y b i kb).loc h h4⟩
theorem VF {y:Opn} {i kb:Nat} {k:Mi} (h:(Cw ty nt hd ks y b).P us I w bs) (hk:ks[i]?=some k) (hkb:y.kbs[i]?=some kb) :
  ∃b1 b2,(∀q∈b1,q∈bs)/\(∀q∈b2,q∈bs)/\(∀q∈b1,q∉b2)/\(Xl ty nt hd ks y b i kb).P [] I w b1/\(Bk k kb).P [] I w b2:=by
 have h0:=h;obtain ⟨Fk,h1,h2,h3,h4⟩:=h0;have hl:=I5 h;obtain ⟨kb',F1,Fi,F2,g1,g2,g3,g4⟩:=LJ h2 hk;rw [hkb] at g1;cases g1;subst g3;generalize hnv:Iv y.no nt.length y.nc=nv at *;generalize hkv:Iv y.ko ks.length y.kc=kv at *;refine ⟨AU nv kv b++(F1++F2),Fi,λq hq=>h4 q (by simp at hq ⊢;rcases hq with h | h | h <;> simp [h]),λq hq=>h4 q (by simp [hq]),λq hq hq2=>?_,⟨by rw [hnv,hkv];exact h1,hl,λq hq=>by rw [hnv,hkv] at hq;simp [hq],?_⟩,⟨Fi,g2,λq hq=>hq⟩⟩
 ·have e:AU nv kv b++(F1++Fi++F2)=(AU nv kv b++F1)++Fi++F2:=by simp
  rw [e] at h3;have hn:=List.nodup_append.1 h3;have hn2:=List.nodup_append.1 hn.1;rcases List.mem_append.1 hq with hq | hq
  ·exact hn2.2.2 q (by simp [hq]) q hq2 rfl
  ·rcases List.mem_append.1 hq with hq | hq
   ·exact hn2.2.2 q (by simp [hq]) q hq2 rfl
   ·exact hn.2.2 q (by simp [hq2]) q hq rfl
 ·intro J w2 k' F hJ hw hm hd';refine ⟨AU nv kv b++(F1++F++F2),⟨F1++F++F2,?_,g4 J w2 k' F hJ (λq hq=>hw q (by simp only [List.mem_append] at hq ⊢;exact .inr hq)) hm,?_,λq hq=>?_⟩,λq hq=>?_⟩
  ·rw [List.length_set,hnv,hkv];exact EM hJ (FI (λq hq=>hw q (by simp [hq])) h1)
  ·rw [List.length_set,hnv,hkv];have hF:=Jn hm;have e:AU nv kv b++(F1++Fi++F2)=(AU nv kv b++F1)++(Fi++F2):=by simp
   have e2:AU nv kv b++(F1++F++F2)=(AU nv kv b++F1)++(F++F2):=by simp
   rw [e] at h3;rw [e2];obtain ⟨a1,a2,a3⟩:=List.nodup_append.1 h3;obtain ⟨a4,a5,a6⟩:=List.nodup_append.1 a2;refine List.nodup_append.2 ⟨a1,List.nodup_append.2 ⟨hF,a5,λx hx y hy e=>hd' x hx (by subst e;simp [hy])⟩,λx hx y hy e=>?_⟩;subst e;rcases List.mem_append.1 hy with hy | hy
   ·exact hd' x hy (by simp only [List.mem_append] at hx ⊢;rcases hx with h | h <;> simp [h])
   ·exact a3 x hx x (by simp [hy]) rfl
  ·rw [List.length_set,hnv,hkv] at hq;exact hq
  ·simp only [List.mem_append] at hq ⊢;rcases hq with h | (h | h) | h <;> simp [h]
theorem mW {y:Opn} {i kb:Nat} (h:(Xl ty nt hd ks y b i kb).P us I w bs):Dm I w b 8 [.raw (Iv y.ko ks.length y.kc)]:=by
 obtain ⟨h,_⟩:=h;obtain ⟨t1,t2,t3,t4⟩:=ty;obtain ⟨f1,f2,f3,f4⟩:=hd;exact FR (EJ h) λj d hd=>by match j,hd with | 0,hd=>exact hd | j+1,hd=>simp at hd
theorem jO {y:Opn} {g i kb:Nat} (hko:y.ko=some g) (hkb:y.kbs[i]?=some kb) (h:(Xl ty nt hd ks y b i kb).P us I w bs):Dm I w g (0+i*1) [.raw (ptr kb)]:=by
 obtain ⟨h1,h2,h3,_⟩:=h;have hi:=(List.getElem?_eq_some_iff.1 hkb).1;rcases h1.2.2.2 with ⟨_,h0⟩ | ⟨g',cap,cur,e,_,e1,e2,_,e3,e4⟩
 ·omega
 rw [hko] at e;simp only [Iv,Option.map_some,Value.slice.injEq,Option.some.injEq,Addr.mk.injEq,and_true] at e;obtain ⟨rfl,e5,rfl⟩:=e;refine ⟨cur,_,_,e1,λj d hd=>?_⟩
 match j with
 | 0 =>
  simp at hd;subst hd;refine ⟨ptr kb,?_,rfl,.raw _ rfl⟩;have:(cur.toList.take (y.kbs.length*1))[i]?=some (ptr kb):=by rw [e4];simp [hkb]
  rw [List.getElem?_take] at this
  split at this
  ·simpa using this
  ·cases this
 | j+1=>simp at hd
theorem QZ {y:Opn} {i kb:Nat} {k:Mi} {vs:List Value} {b1 b2:List Nat} (h:(Xl ty nt hd ks y b i kb).P us I w b1) (hk:(Bk k kb).P vs I w b2) (hd':∀q∈b1,q∉b2):∃bs,(∀q∈bs,q∈b1\/q∈b2)/\(Cw ty nt hd (ks.set i k) y b).P [] I w bs:=T4 h.2.2.2 hk hd'
end
def Mr (path:List Int) (r:Int×List Int×Ty):D:=if r.1=2 then .tup [.imm (.bool false),.ip 156 (.sl (AJ (path++r.2.1))::Bv r.2.2) 0] else .imm (.tup [.bool (decide (r.1=1)),.nilp])
theorem aY {ds:List Dt} {f n:Int} {x:Str} {ps:List Ty} {m:Mi} :
  (f=1\/f=2->Ar ds (.mk f n x ps) m=(1,[],zT)/\EG ds (.mk f n x ps) m=m) /\
  (¬(f=1\/f=2)->AK (Ac ds m).hd=0->EG ds (.mk f n x ps) m=Ac ds m/\(Bj (Ac ds m).nt (AO (.mk f n x ps))=true->Ar ds (.mk f n x ps) m=(0,[],zT))/\(Bj (Ac ds m).nt (AO (.mk f n x ps))=false->Ar ds (.mk f n x ps) m=(2,[],AO (.mk f n x ps)))) /\
  (¬(f=1\/f=2)->AK (Ac ds m).hd≠0->AB (Ac ds m).hd (AO (.mk f n x ps))=false->EG ds (.mk f n x ps) m=Ac ds m/\Ar ds (.mk f n x ps) m=(0,[],zT)) /\
  (¬(f=1\/f=2)->AK (Ac ds m).hd≠0->AB (Ac ds m).hd (AO (.mk f n x ps))=true->EG ds (.mk f n x ps) m = .mk (Ac ds m).ty (Ac ds m).nt (Ac ds m).hd (Dq ds ps (Ac ds m).ks)/\Ar ds (.mk f n x ps) m=AP ds 0 ps (Ac ds m).ks):=by
 refine ⟨λh=>?_,λh h0=>?_,λh h0 h1=>?_,λh h0 h1=>?_⟩
 ·exact ⟨by simp only [Ar,if_pos h],by simp only [EG,if_pos h]⟩
 ·refine ⟨by simp only [EG,if_neg h,if_pos (Or.inl h0)],λhb=>?_,λhb=>?_⟩
  ·simp only [Ar,if_neg h];rw [if_neg (λhh=>by rw [hb] at hh;cases hh.2),if_pos (Or.inl h0)]
  ·simp only [Ar,if_neg h];rw [if_pos ⟨h0,hb⟩]
 ·refine ⟨by simp only [EG,if_neg h,if_pos (Or.inr h1)],?_⟩;simp only [Ar,if_neg h];rw [if_neg (λhh=>h0 hh.1),if_pos (Or.inr h1)]
 ·have hn:¬(AK (Ac ds m).hd=0\/AB (Ac ds m).hd (AO (.mk f n x ps))=false):=λh=>by
   rcases h with h | h
   ·exact h0 h
   ·rw [h1] at h;cases h
  refine ⟨by simp only [EG,if_neg h,if_neg hn],?_⟩;simp only [Ar,if_neg h];rw [if_neg (λhh=>h0 hh.1),if_neg hn]
theorem Qs (l:List Int):∀c∈AJ l,c.length=1:=λc hc=>by simp only [AJ,List.mem_map] at hc;obtain ⟨q,_,rfl⟩:=hc;rfl
theorem kW (path:List Int) (i:Int) (r1:Int) (r2:List Int) (r3:Ty):Mr (path++[i]) (r1,r2,r3)=Mr path (r1,i::r2,r3):=by
 simp only [Mr,List.append_assoc,List.singleton_append]
theorem aV {α:Type} {l:List α} {i:Nat} (a:α) (h:i<l.length):l.set i a=l.take i++a::l.drop (i+1):=by
 apply List.ext_getElem?;intro j;rw [List.getElem?_set];by_cases e:i=j
 ·subst e;rw [if_pos rfl,if_pos h,List.getElem?_append_right (by simp;omega)];simp [Nat.min_eq_left (Nat.le_of_lt h)]
 ·rw [if_neg e];rcases Nat.lt_or_ge j i with hj | hj
  ·rw [List.getElem?_append_left (by simp;omega),List.getElem?_take,if_pos hj]
  ·rw [List.getElem?_append_right (by simp;omega),List.length_take,Nat.min_eq_left (Nat.le_of_lt h)];obtain ⟨q,hq⟩:∃q,j-i=q+1:=⟨j-i-1,by omega⟩
   rw [hq,List.getElem?_cons_succ,List.getElem?_drop];congr 1;omega
theorem Xz (c:Cse) (sz:List (List V)) (ho:OkW c.datas) (N:Nat) (hN:N<=1000000):∀(p:Ty) (m:Mi) (b:Nat) (path:List Int),path.length+Aq p<=1000000->GV c.datas N m=true->Ed c.datas m->Cz c.datas m.ty p=true->BP p=true ->
  Bt Tryz.prog 90 [.imm (AQ c sz),.imm (.agg (Ao p)),.raw (ptr b),.imm (.sl (AJ path))] [(1,some (.hp (Bk m b)))] (.ret (Mr path (Ar c.datas p m)) [(2,some (.hp (Bk (EG c.datas p m) b)))])
 | .mk f n x ps,m,b,path,hN1,hw,hc,hpt,hpp=>by
  have hK:=Wf c sz m b ho (AR.1 hw).1.1;have hW:=Ma (.mk f n x ps);have hcl:=eM path (by omega);have hfit:=Ic ho (.mk f n x ps) hw hc hpt hpp;have hsw:=Cy ho hw;have hsc:=Da (ds:=c.datas) hc;have hkp:¬(f=1\/f=2)->AK (Ac c.datas m).hd≠0->AB (Ac c.datas m).hd (AO (.mk f n x ps))=true->ps.length=(Ac c.datas m).ks.length/\∀(i:Nat) k p,(Ac c.datas m).ks[i]?=some k->ps[i]?=some p->Cz c.datas k.ty p=true/\BP p=true:=λh12 h0 hE=>by
   obtain ⟨k1,k2,k3,k4⟩:=Ke (AR.1 hw).1.1 hpt hpp h12;have hks:=((BI.1 hsc).2.1 h0).2;rw [IG hE,D6] at hks;refine ⟨by rw [<- k2,<- hks,List.length_map],λi k p hk hp=>⟨JZ k3 (by rw [<- hks];simp [hk]) hp,O6 k4 hp⟩⟩
  obtain ⟨e1,e2,e3,e4⟩:=aY (ds:=c.datas) (f:=f) (n:=n) (x:=x) (ps:=ps) (m:=m);simp only [Aq] at hN1;simp only [Y6] at hfit;refine Ae Ai Tryz.func90 (by decide +kernel) rfl [3,4,5,6,7,8,9,10,11,12] rfl rfl ?_;refine Aj rfl ?_;by_cases h12:f=1\/f=2
  ·obtain ⟨q1,q2⟩:=e1 h12;rw [q1,q2];refine Ab rfl (λh=>?_) (λh=>by exfalso;revert h;rcases h12 with rfl | rfl <;> simp);refine Ak rfl ?_;refine Lc 1 4 (λ_:Unit=>Bk m b) rfl (λvs I w bs h=>let ⟨F,k1,k2⟩:=h;⟨(),bs,λq hq=>hq,F,k1,k2⟩) λ_=>?_;refine AF 4 2 rfl ?_;exact Au ⟨_,rfl,rfl,rfl,trivial⟩
  replace e2:=e2 h12;replace e3:=e3 h12;replace e4:=e4 h12;replace hkp:=hkp h12;clear e1;refine Ab rfl (λh=>by exfalso;apply h12;simpa using h) (λh=>?_);clear h;refine Ak rfl ?_;refine Ag rfl hW ?_;have hkb:H0 c.datas m=decide (AK (Ac c.datas m).hd≠0):=rfl;generalize Ar c.datas (.mk f n x ps) m=L at *;generalize EG c.datas (.mk f n x ps) m=ST at *;generalize AO (.mk f n x ps)=h at *;generalize Ac c.datas m=S at *;generalize H0 c.datas m=kb at *;obtain ⟨ty,nt,hd,ks⟩:=S;simp only [Mi.ty,Mi.nt,Mi.hd,Mi.ks] at *;obtain ⟨h1,h2,h3,h4⟩:=h;refine Aj rfl ?_;refine AC (fr:=[5]) [(1,1)] [(2,5)] rfl (by simp) hK ⟨⟨rfl,rfl,rfl⟩,trivial⟩ rfl rfl rfl rfl ?_;refine Aj rfl ?_
  have hCt:=GU nt (.mk h1 h2 h3 h4);by_cases h0:AK hd=0
  ·have hkf:kb=false:=by rw [hkb];exact decide_eq_false (λhh=>hh h0)
   subst hkf;obtain ⟨q1,q2,q3⟩:=e2 h0;refine Ah rfl λh=>?_;refine Cl 5 (λy:Opn=>Cw ty nt hd ks y b) rfl (λvs I w bs h=>Ei h) λy=>?_;refine Ak rfl ?_;refine B5 Ai 5 [.raw (Iv y.no nt.length y.nc)] rfl rfl (λ_ vs I w bs h=>Jq h) rfl rfl (by simp [Ap]) ?_;refine Du rfl ?_;refine PC 5 (vs:=[.sl (B8 nt),.agg (Bv (.mk h1 h2 h3 h4))]) rfl rfl (λ_=>⟨.inr ⟨_,rfl,λus I w bs h J hle hJ=>Ix h hle hJ⟩,.inl rfl,trivial⟩) (λ_=>hCt) rfl (by simp) rfl ?_;refine mg [] rfl (by simp [Ap];rfl) ?_;refine Cl 5 (λ_:Unit=>Bk (.mk ty nt hd ks) b) rfl (λvs I w bs h=>⟨(),EL h⟩) λ_=>?_;rw [q1];cases hb:Bj nt (.mk h1 h2 h3 h4) with
   | true =>
    rw [q2 hb];refine Ah rfl λh=>?_;refine Ak rfl ?_;refine AF 5 2 rfl ?_;exact Au ⟨_,rfl,rfl,rfl,trivial⟩
   | false =>
    rw [q3 hb];refine At rfl λh=>?_;refine Ak rfl ?_;refine Ag rfl hcl ?_;refine mg [] rfl (by simp;rfl) ?_;refine OZ 9 rfl rfl ?_;refine AF 5 2 rfl ?_;have hap:path++[]=path:=List.append_nil path;simp only [Mr,if_true,hap];exact Au ⟨_,rfl,rfl,rfl,trivial⟩
  have hkt:kb=true:=by rw [hkb];exact decide_eq_true h0
  subst hkt;refine At rfl λh=>?_;refine Cl 5 (λy:Opn=>Cw ty nt hd ks y b) rfl (λvs I w bs h=>Ei h) λy=>?_;refine Ak rfl ?_;obtain ⟨d1,d2,d3,d4⟩:=hd;refine B5 Ai 5 ((Bv (.mk d1 d2 d3 d4)).map .imm) rfl rfl (λ_ vs I w bs h=>P6 h) rfl rfl (by simp [Ap]) ?_;refine Du rfl ?_;refine Wz Ai rfl MI (by simp [Ap]) ?_;refine mg [] rfl (by simp [Ap];rfl) ?_;cases hE:AB (.mk d1 d2 d3 d4) (.mk h1 h2 h3 h4) with
  | false =>
   obtain ⟨q1,q2⟩:=e3 h0 hE;rw [q1,q2];simp only [AB] at hE;refine Cl 5 (λ_:Unit=>Bk (.mk ty nt (.mk d1 d2 d3 d4) ks) b) rfl (λvs I w bs h=>⟨(),EL h⟩) λ_=>?_;refine Ab rfl (λh=>?_) (λh=>by exfalso;simp at h hE;grind);refine Ak rfl ?_;refine AF 5 2 rfl ?_;exact Au ⟨_,rfl,rfl,rfl,trivial⟩
  | true =>
  obtain ⟨q1,q2⟩:=e4 h0 hE;rw [q1,q2];have hEf:(AK (Ty.mk d1 d2 d3 d4)=0)=False:=by simp [h0]
  simp only [AB] at hE;refine Ab rfl (λh=>by exfalso;simp at h hE;grind) (λh=>?_);clear h;refine Ak rfl ?_;obtain ⟨hpl,hkp⟩:=hkp h0 (by simp only [AB];exact hE);have hks3:ks.length<=3:=(AR.1 hsw).1.2.1;refine An (λz:Nat×List Mi=>[(49,.imm (.int .i64 z.1)),(48,.imm (.int .i64 ps.length)),(47,.imm (.sl (Bx ps))),(3,.imm (.sl (AJ path))),(2,.raw (ptr b)),(0,.imm (AQ c sz))])
   (λz=>[(5,some (.hp (Cw ty nt (.mk d1 d2 d3 d4) z.2 y b)))]) [6,7,8,9,10,11,12] (λz=>ps.length-z.1)
   (λz=>z.1<=ps.length/\z.2.length=ks.length/\z.2.drop z.1=ks.drop z.1/\AP c.datas 0 ps ks=AP c.datas z.1 (ps.drop z.1) (ks.drop z.1)/\Dq c.datas ps ks=z.2.take z.1++Dq c.datas (ps.drop z.1) (ks.drop z.1)) (0,ks)
   ⟨Nat.zero_le _,rfl,rfl,rfl,rfl⟩ ⟨rfl,A0 (by simp),rfl,rfl,rfl,rfl,trivial⟩ ⟨rfl,trivial⟩ rfl λz hz ih=>?_
  obtain ⟨i,K⟩:=z;obtain ⟨z1,z2,z3,z4,z5⟩:=hz;simp only at z1 z2 z3 z4 z5;refine Ak rfl ?_;refine Ab rfl (λh=>?_) (λh=>?_)
  ·have hlt:i<ps.length:=by simp at h;omega
   obtain ⟨p,hp⟩:=As hlt;obtain ⟨k,hk⟩:=As (l:=ks) (i:=i) (by omega);have hKk:K[i]?=some k:=by
    have:=congrArg (·[0]?) z3;simpa [hk] using this
   obtain ⟨r1,r2⟩:=hkp i k p hk hp;have hnp:=BR hp;have hS:=λkb=>Xz c sz ho N hN p k kb (path++[(i:Int)]) (by simp;omega) ((AR.1 hsw).2.2 k (List.mem_of_getElem? hk)) ((BI.1 hsc).2.2 k (List.mem_of_getElem? hk)) r1 r2;rw [QK hp hk] at z4;rw [Av hp,Av hk] at z5;simp only [Dq] at z5;have hKi:i<K.length:=by omega
   have hdr:K.drop (i+1)=ks.drop (i+1):=by rw [<- List.drop_drop,z3,List.drop_drop]
   have hset:=aV (EG c.datas p k) hKi;have hn1:∀e:(Ar c.datas p k).1≠1,Dq c.datas ps ks=K.set i (EG c.datas p k):=λe=>by rw [z5,hset,if_neg e,hdr]
   have hn2:(Ar c.datas p k).1=1->Dq c.datas ps ks=(K.set i (EG c.datas p k)).take (i+1)++Dq c.datas (ps.drop (i+1)) (ks.drop (i+1)):=λe=>by
    have e1:(K.set i (EG c.datas p k))[i]?=some (EG c.datas p k):=List.getElem?_set_self hKi;rw [z5,if_pos e,Bh e1,List.take_set_of_le (Nat.le_refl i)];simp
   have hn3:(K.set i (EG c.datas p k)).drop (i+1)=ks.drop (i+1):=by rw [List.drop_set_of_lt (by omega)];exact hdr
   have hih:=λe:(Ar c.datas p k).1=1=>ih (i+1,K.set i (EG c.datas p k)) (by simp only;omega) ⟨by simp only;omega,by simp [z2],hn3,by rw [z4,if_pos e],hn2 e⟩;have hz4:(Ar c.datas p k).1≠1->AP c.datas 0 ps ks=((Ar c.datas p k).1,(i:Int)::(Ar c.datas p k).2.1,(Ar c.datas p k).2.2):=λe=>by rw [z4,if_neg e]
   clear ih z4 z5 hn2 hn3 hset;generalize EG c.datas p k=k' at *;generalize Ar c.datas p k=r at *;obtain ⟨r1',r2',r3'⟩:=r;simp only at hih hz4 hn1;refine Cl 5 (λ_:{ z:Nat×Nat // y.ko=some z.1/\y.kbs[i]?=some z.2 }=>Cw ty nt (.mk d1 d2 d3 d4) K y b) rfl (λvs I w bs hA=>?_) λz=>?_
   ·obtain ⟨g,g1,_⟩:=P5 hA (λe=>by have e:K=[]:=e;rw [e] at hKi;simp at hKi);have hl:y.kbs.length=K.length:=I5 hA;exact ⟨⟨(g,y.kbs[i]'(by omega)),g1,List.getElem?_eq_getElem (by omega)⟩,hA⟩
   obtain ⟨⟨g,kb⟩,hko,hkb2⟩:=z;simp only at hko hkb2;obtain ⟨no,nc,ko,kc,kbs⟩:=y;simp only at hko hkb2;subst hko;refine J3 5 6 7 (λ_:Unit=>Xl ty nt (.mk d1 d2 d3 d4) K ⟨no,nc,some g,kc,kbs⟩ b i kb) (λ_:Unit=>Bk k kb) rfl (λvs I w bs h=>let ⟨b1,b2,h1,h2,h3,h4,h5⟩:=VF h hKk hkb2;⟨(),b1,b2,h1,h2,h3,h4,h5⟩) λ_=>?_;refine Ak rfl ?_;refine mi rfl (c:=Ao p) (λ_=>⟨by simp,by simpa using A4 hp,by simp⟩) (by simp) ?_;obtain ⟨p1,p2,p3,p4⟩:=p;refine Aj rfl ?_;refine B5 Ai 6 [.raw (Iv (some g) K.length kc)] rfl rfl (λ_ vs I w bs h=>mW h) rfl rfl (by simp [Ap]) ?_;refine Du rfl ?_;refine ML Ai rfl rfl (λ_=>⟨by simp,by simp;omega⟩) (by simp) ?_;refine Aj rfl ?_
   refine B5 Ai 6 [.raw (ptr kb)] rfl rfl (λ_ vs I w bs h=>jO rfl hkb2 h) rfl rfl (by simp) ?_;refine Aj rfl ?_;refine BX [] [] [] (fr:=[]) (nm:=[]) rfl trivial (by simp) (lJ path) trivial rfl trivial rfl rfl rfl ?_;refine Aj rfl ?_;refine T9 Ai rfl ⟨by simp,by simp [maxLen];omega,by simp;omega,Qs path,by simp⟩ (Qs path) ?_;refine Aj rfl ?_;have hap:AJ path++[[V.int .i64 (i:Int)]]=AJ (path++[(i:Int)]):=by simp [AJ]
   rw [hap];have hSk:=hS kb;by_cases hr1:r1'=1
   ·have hQ1:Mr (path++[(i:Int)]) (r1',r2',r3') = .imm (.tup [.bool true,.nilp]):=by rw [hr1];rfl
    rw [hQ1] at hSk;refine BX [(7,1)] [(2,9)] [] (fr:=[9]) (nm:=[9,7]) rfl trivial (by simp) hSk ⟨⟨rfl,rfl,rfl⟩,trivial⟩ rfl trivial rfl rfl rfl ?_;refine mg [] rfl (by simp [Ap];rfl) ?_;refine GM 6 9 10 (λ_:Unit=>Cw ty nt (.mk d1 d2 d3 d4) (K.set i k') ⟨no,nc,some g,kc,kbs⟩ b) rfl rfl (by decide) (λvs us I w b1 b2 h1 h2 h3=>let ⟨bs,e1,e2⟩:=QZ h1 h2 h3;⟨(),bs,e1,e2⟩) λ_=>?_;refine At rfl λh=>?_;refine Ak rfl ?_;refine AF 5 10 rfl ?_;exact Ad (hih hr1) ⟨A0 (B2 (by omega) (by omega)),rfl,rfl,rfl,rfl,rfl,trivial⟩ ⟨rfl,trivial⟩ rfl
   ·rw [hz4 hr1,hn1 hr1,<- kW];have hQc:(∃cs,Mr (path++[(i:Int)]) (r1',r2',r3') = .tup [.imm (.bool false),.ip 156 cs 0])\/Mr (path++[(i:Int)]) (r1',r2',r3') = .imm (.tup [.bool false,.nilp]):=by
     by_cases e:r1'=2
     ·rw [e];exact .inl ⟨_,rfl⟩
     ·simp only [Mr,if_neg e,decide_eq_false hr1];exact .inr trivial
    generalize Mr (path++[(i:Int)]) (r1',r2',r3')=Qd at *;rcases hQc with ⟨cs,rfl⟩ | rfl
    all_goals
     refine BX [(7,1)] [(2,9)] [] (fr:=[9]) (nm:=[9,7]) rfl trivial (by simp) hSk ⟨⟨rfl,rfl,rfl⟩,trivial⟩ rfl trivial rfl rfl rfl ?_;refine mg [] rfl (by simp [Ap];rfl) ?_;refine GM 6 9 10 (λ_:Unit=>Bk (.mk ty nt (.mk d1 d2 d3 d4) (K.set i k')) b) rfl rfl (by decide) (λvs us I w b1 b2 h1 h2 h3=>let ⟨bs,e1,e2⟩:=QZ h1 h2 h3;⟨(),bs,e1,EL e2⟩) λ_=>?_;refine Ah rfl λh=>?_;refine Ak rfl ?_;refine AF 10 2 rfl ?_;exact Au ⟨_,rfl,rfl,rfl,trivial⟩
  ·have hlt:¬i<ps.length:=by simp at h;omega
   refine Aw rfl ?_;rw [List.drop_eq_nil_of_le (by omega)] at z4 z5;simp only [AP,Dq] at z4 z5;rw [<- z3,List.take_append_drop] at z5;rw [z4,z5];refine Cl 5 (λ_:Unit=>Bk (.mk ty nt (.mk d1 d2 d3 d4) K) b) rfl (λvs I w bs h=>⟨(),EL h⟩) λ_=>?_;refine Ak rfl ?_;refine AF 5 2 rfl ?_;exact Au ⟨_,rfl,rfl,rfl,trivial⟩
termination_by p=>SizeOf.sizeOf p
decreasing_by
 have:=List.sizeOf_lt_of_mem (List.mem_of_getElem? hp);simp_wf;omega
end Go.Hk
namespace Go.Hk
open Go.Proofs
def WZ:Option (Ty×Int)->Ty
 | none=>zT
 | some p=>p.1
def RE:Option (Ty×Int)->Int
 | none=>0
 | some p=>p.2
theorem nM {ds:List Dt} (ho:OkW ds) (m:Mi) (h:Ty):0<=Bf ds m h/\Bf ds m h<=769:=by
 unfold Bf
 split
 ·exact Ny ho (ES ho m.ty (C5 h))
 ·omega
theorem Vt (c:Cse) (ho:OkW c.datas) (ty:Ty) (nt:List Ty) (hd:Ty) (ks:List Mi) (y:Opn) (b:Nat) (hn:AI c.datas ty=true) :
  Bt Tryz.prog 162 [.imm (AQ c (AJ (Do c.datas))),.raw (ptr b)] [(1,some (.hp (Cw ty nt hd ks y b)))]
   (.ret (.imm (.tup [.agg (Bv (WZ (C0 c.datas (.mk ty nt hd ks) none (A6 c.datas ty)))),.bool (AH c.datas (.mk ty nt hd ks)).isSome])) [(1,some (.hp (Cw ty nt hd ks y b)))]):=by
 have hH:=jQ c (AJ (Do c.datas)) ty ho hn;have hAr:=λs=>PK c (AJ (Do c.datas)) ty s ho.dif hn;have hSz:=λs=>Ze c (Do c.datas) (JO ho) ho.d4 (AZ c.datas ty s).1 (C4 ho.okd) (ES ho ty s);have hCt:=λh=>GU nt h;have hl:=Jy ho ty;have hcst:=λh=>nM ho (.mk ty nt hd ks) h;have hstep:∀(bb:Option (Ty×Int)) (i:Nat) (h:Ty),(A6 c.datas ty)[i]?=some h->C0 c.datas (.mk ty nt hd ks) bb ((A6 c.datas ty).drop i) =
   C0 c.datas (.mk ty nt hd ks) (if 0<Bf c.datas (.mk ty nt hd ks) h/\Bj nt h=false/\DR bb (Bf c.datas (.mk ty nt hd ks) h)=true then some (h,Bf c.datas (.mk ty nt hd ks) h) else bb) ((A6 c.datas ty).drop (i+1)):=λbb i h hh=>by rw [Av hh];rfl
 have hc4:∀h,AK h=4->Bf c.datas (.mk ty nt hd ks) h=AM c.datas (Do c.datas) 1 (AZ c.datas ty (C5 h)).1:=λh e=>if_pos e;have hc0:∀h,AK h≠4->Bf c.datas (.mk ty nt hd ks) h=1:=λh e=>if_neg e;have hres:(AH c.datas (.mk ty nt hd ks)).isSome=decide (0<RE (C0 c.datas (.mk ty nt hd ks) none (A6 c.datas ty))):=by
  simp only [AH,Option.isSome_map,Mi.ty];cases hq:C0 c.datas (.mk ty nt hd ks) none (A6 c.datas ty) with
  | none=>rfl
  | some p =>
   obtain ⟨q1,_,_⟩:=FE hq;rcases q1 with q1 | ⟨_,_,q3,_⟩
   ·cases q1
   ·simp [RE,q3]
 rw [hres];clear hres;have hnil:∀bb,C0 c.datas (.mk ty nt hd ks) bb []=bb:=λ_=>rfl;generalize A6 c.datas ty=L at *;generalize Bf c.datas (.mk ty nt hd ks)=cost at *;generalize hR:C0 c.datas (.mk ty nt hd ks) none L=R at *;generalize C0 c.datas (.mk ty nt hd ks)=pk at *;obtain ⟨t1,t2,t3,t4⟩:=ty;refine Ae Ai Tryz.func162 (by decide +kernel) rfl [2,3,4,5,6] rfl rfl ?_;refine Aj rfl ?_;refine B5 Ai 1 ((Ao (.mk t1 t2 t3 t4)).map .imm) rfl rfl (λ_ vs I w bs h=>KQ h) rfl rfl (by simp [Ap]) ?_;refine Aj rfl ?_;refine Ag rfl hH ?_;refine Aj rfl ?_
 refine An (λz:Nat×Option (Ty×Int)=>[(20,.imm (.int .i64 z.1)),(19,.imm (.int .i64 L.length)),(18,.imm (.sl (B8 L))),(7,.imm (.int .i64 (RE z.2))),(6,.ref 3 0),(4,.ref 2 0),(1,.raw (ptr b)),(0,.imm (AQ c (AJ (Do c.datas))))])
  (λz=>[(1,some (.hp (Cw (.mk t1 t2 t3 t4) nt hd ks y b))),(2,some (.immb 122 3 [.int .i64 0,.int .i64 0,.str []])),(3,some (.immb 122 3 (Bv (WZ z.2))))]) [4,5,6] (λz=>L.length-z.1)
  (λz=>z.1<=L.length/\R=pk z.2 (L.drop z.1)/\∀p,z.2=some p->0<p.2/\p.2<=769) (0,none) ⟨Nat.zero_le _,hR.symm,λp h=>by cases h⟩ ⟨rfl,A0 (by simp),rfl,rfl,rfl,rfl,rfl,rfl,trivial⟩ ⟨rfl,rfl,rfl,trivial⟩ rfl λz hz ih=>?_
 obtain ⟨i,bb⟩:=z;obtain ⟨z1,z2,z3⟩:=hz;simp only at z1 z2 z3;refine Ak rfl ?_;refine Ab rfl (λh=>?_) (λh=>?_)
 ·have hlt:i<L.length:=by simp at h;omega
  obtain ⟨h,hh⟩:=As hlt;rw [hstep bb i h hh] at z2;have hCth:=hCt h;have hco:=hcst h;have hc4:=hc4 h;have hc0:=hc0 h;have hArh:=hAr (C5 h);have hSzh:=hSz (C5 h);have hbet:DR bb (cost h)=true↔RE bb=0\/cost h<RE bb:=by
   cases bb with
   | none=>simp [DR,RE]
   | some p=>have:=z3 p rfl;simp only [DR,RE,decide_eq_true_eq];omega
  generalize cost h=n at *;obtain ⟨h1,h2,h3,h4⟩:=h;simp only [AK] at hc4 hc0;refine Ak rfl ?_;refine mi rfl (c:=Bv (.mk h1 h2 h3 h4)) (λ_=>⟨by simp,by simpa using Ku hh,by simp⟩) (by simp) ?_;refine Aj rfl ?_;by_cases e4:h1=4
  ·have hn:=hc4 e4;rw [<- hn] at hSzh;subst e4;refine Ah rfl λh=>?_;refine Ak rfl ?_;refine B5 Ai 1 ((Ao (.mk t1 t2 t3 t4)).map .imm) rfl rfl (λ_ vs I w bs h=>KQ h) rfl rfl (by simp [Ap]) ?_;refine Du rfl ?_;refine Ag rfl hArh ?_;refine mg [] rfl (by simp [Ap];rfl) ?_;refine Ag rfl hSzh ?_;refine Du rfl ?_;refine B5 Ai 1 [.raw (Iv y.no nt.length y.nc)] rfl rfl (λ_ vs I w bs h=>Jq h) rfl rfl (by simp [Ap]) ?_;refine Du rfl ?_;refine PC 1 (vs:=[.sl (B8 nt),.agg (Bv (.mk 4 h2 h3 h4))]) rfl rfl (λ_=>⟨.inr ⟨_,rfl,λus I w bs h J hle hJ=>Ix h hle hJ⟩,.inl rfl,trivial⟩) (λ_=>hCth) rfl (by simp [Ap]) rfl ?_;refine mg [] rfl (by simp [Ap];exact ⟨rfl,λa b c=>⟨⟨a,b⟩,c⟩⟩) ?_
   by_cases hcc:0<n/\Bj nt (.mk 4 h2 h3 h4)=false/\DR bb n=true
   ·rw [if_pos hcc] at z2;rw [hbet] at hcc;refine Ab rfl (λh=>?_) (λh=>by exfalso;simp at h;grind);refine Ak rfl ?_;exact Ad (ih (i+1,some (.mk 4 h2 h3 h4,n)) (by simp only;omega) ⟨by simp only;omega,z2,λp hp=>by cases hp;exact ⟨hcc.1,hco.2⟩⟩) ⟨A0 (B2 (by omega) (by omega)),rfl,rfl,rfl,rfl,rfl,rfl,rfl,trivial⟩ ⟨rfl,rfl,rfl,trivial⟩ rfl
   ·rw [if_neg hcc] at z2;rw [hbet] at hcc;refine Ab rfl (λh=>by exfalso;simp at h;grind) (λh=>?_);refine Ak rfl ?_;exact Ad (ih (i+1,bb) (by simp only;omega) ⟨by simp only;omega,z2,z3⟩) ⟨A0 (B2 (by omega) (by omega)),rfl,rfl,rfl,rfl,rfl,rfl,rfl,trivial⟩ ⟨rfl,rfl,rfl,trivial⟩ rfl
  ·have hn:=hc0 e4;subst hn;refine Ab rfl (λh=>absurd (by simpa using h) e4) (λh=>?_);clear h;refine mdqc rfl ?_;refine B5 Ai 1 [.raw (Iv y.no nt.length y.nc)] rfl rfl (λ_ vs I w bs h=>Jq h) rfl rfl (by simp [Ap]) ?_;refine Du rfl ?_;refine PC 1 (vs:=[.sl (B8 nt),.agg (Bv (.mk h1 h2 h3 h4))]) rfl rfl (λ_=>⟨.inr ⟨_,rfl,λus I w bs h J hle hJ=>Ix h hle hJ⟩,.inl rfl,trivial⟩) (λ_=>hCth) rfl (by simp [Ap]) rfl ?_;refine mg [] rfl (by simp [Ap];exact ⟨rfl,λa b=>⟨a,b⟩⟩) ?_;by_cases hcc:(0:Int)<1/\Bj nt (.mk h1 h2 h3 h4)=false/\DR bb 1=true
   ·rw [if_pos hcc] at z2;rw [hbet] at hcc;refine Ab rfl (λh=>?_) (λh=>by exfalso;simp at h;grind);refine Ak rfl ?_;exact Ad (ih (i+1,some (.mk h1 h2 h3 h4,1)) (by simp only;omega) ⟨by simp only;omega,z2,λp hp=>by cases hp;exact ⟨hcc.1,hco.2⟩⟩) ⟨A0 (B2 (by omega) (by omega)),rfl,rfl,rfl,rfl,rfl,rfl,rfl,trivial⟩ ⟨rfl,rfl,rfl,trivial⟩ rfl
   ·rw [if_neg hcc] at z2;rw [hbet] at hcc;refine Ab rfl (λh=>by exfalso;simp at h;grind) (λh=>?_);refine Ak rfl ?_;exact Ad (ih (i+1,bb) (by simp only;omega) ⟨by simp only;omega,z2,z3⟩) ⟨A0 (B2 (by omega) (by omega)),rfl,rfl,rfl,rfl,rfl,rfl,rfl,trivial⟩ ⟨rfl,rfl,rfl,trivial⟩ rfl
 ·have hlt:¬i<L.length:=by simp at h;omega
  refine Aw rfl ?_;rw [List.drop_eq_nil_of_le (by omega),hnil] at z2;subst z2;refine Ak rfl ?_;exact Au ⟨_,rfl,rfl,rfl,trivial⟩
def GC:Option Ty->List V
 | none=>Ao zT++[.bool false]
 | some v=>Ao v++[.bool true]
theorem Hl (r:Option Ty):∃v1 v2 v3 v4 v5,GC r=[v1,v2,v3,v4,v5]:=by
 cases r with
 | none=>exact ⟨_,_,_,_,_,rfl⟩
 | some v=>obtain ⟨a,b,c,d⟩:=v;exact ⟨_,_,_,_,_,rfl⟩
section
variable {I J:Imm} {w w':World} {ty:Ty} {nt:List Ty} {hd:Ty} {ks:List Mi} {b:Nat} {us:List Value} {bs:List Nat}
def Nl (ty:Ty) (nt:List Ty) (hd:Ty) (ks:List Mi) (y:Opn) (b i:Nat):Asn where
 P _ I w bs:=Io I w ty nt hd (Iv y.no nt.length y.nc) (Iv y.ko ks.length y.kc) y.kbs b/\y.kbs.length=ks.length/\(∀q∈AU (Iv y.no nt.length y.nc) (Iv y.ko ks.length y.kc) b,q∈bs) /\
  ∃Fk,D8 I w (ks.drop i) (y.kbs.drop i) Fk/\(AU (Iv y.no nt.length y.nc) (Iv y.ko ks.length y.kc) b++Fk).Nodup/\∀q∈Fk,q∈bs
 mono:=λh ⟨h1,h2,h3,Fk,h4,h5⟩=>⟨EM h h1,h2,h3,Fk,DZ h h4,h5⟩
 loc:=λh ⟨h1,h2,h3,Fk,h4,h5,h6⟩=>⟨FI (λq hq=>h q (h3 q hq)) h1,h2,h3,Fk,CA (λq hq=>h q (h6 q hq)) h4,h5,h6⟩
theorem bH {y:Opn} (h:(Cw ty nt hd ks y b).P us I w bs):(Nl ty nt hd ks y b 0).P us I w bs:=by
 have hl:=I5 h;obtain ⟨Fk,h1,h2,h3,h4⟩:=h;exact ⟨h1,hl,λq hq=>h4 q (by simp [hq]),Fk,h2,h3,λq hq=>h4 q (by simp [hq])⟩
theorem X9 {y:Opn} {i kb:Nat} {k:Mi} (h:(Nl ty nt hd ks y b i).P us I w bs) (hk:ks[i]?=some k) (hkb:y.kbs[i]?=some kb) :
  ∃b1 b2,(∀q∈b1,q∈bs)/\(∀q∈b2,q∈bs)/\(∀q∈b1,q∉b2)/\(Nl ty nt hd ks y b (i+1)).P [] I w b1/\(Bk k kb).P [] I w b2:=by
 obtain ⟨h1,h2,h3,Fk,h4,h5,h6⟩:=h;rw [Av hk,Av hkb] at h4;obtain ⟨kb',kr,F1,F2,e1,e2,e3,e4⟩:=h4;cases e1;subst e4;generalize hN:AU (Iv y.no nt.length y.nc) (Iv y.ko ks.length y.kc) b=Nf at *;refine ⟨Nf++F2,F1,λq hq=>?_,λq hq=>h6 q (by simp [hq]),λq hq hq2=>?_,⟨h1,h2,λq hq=>by rw [hN] at hq;simp [hq],F2,e3,?_,λq hq=>by simp [hq]⟩,⟨F1,e2,λq hq=>hq⟩⟩
 ·rcases List.mem_append.1 hq with h | h
  ·exact h3 q h
  ·exact h6 q (by simp [h])
 ·obtain ⟨a1,a2,a3⟩:=List.nodup_append.1 h5;rcases List.mem_append.1 hq with h | h
  ·exact a3 q h q (by simp [hq2]) rfl
  ·obtain ⟨_,_,a4⟩:=List.nodup_append.1 a2;exact a4 q hq2 q h rfl
 ·rw [hN];obtain ⟨a1,a2,a3⟩:=List.nodup_append.1 h5;obtain ⟨_,a5,_⟩:=List.nodup_append.1 a2;exact List.nodup_append.2 ⟨a1,a5,λx hx y hy=>a3 x hx y (by simp [hy])⟩
theorem gT {y:Opn} {g i kb:Nat} {j:Nat} (hko:y.ko=some g) (hkb:y.kbs[i]?=some kb) (h:(Nl ty nt hd ks y b j).P us I w bs):Dm I w g (0+i*1) [.raw (ptr kb)]:=by
 obtain ⟨h1,h2,h3,_⟩:=h;have hi:=(List.getElem?_eq_some_iff.1 hkb).1;rcases h1.2.2.2 with ⟨_,h0⟩ | ⟨g',cap,cur,e,_,e1,e2,_,e3,e4⟩
 ·omega
 rw [hko] at e;simp only [Iv,Option.map_some,Value.slice.injEq,Option.some.injEq,Addr.mk.injEq,and_true] at e;obtain ⟨rfl,e5,rfl⟩:=e;refine ⟨cur,_,_,e1,λj d hd=>?_⟩
 match j with
 | 0 =>
  simp at hd;subst hd;refine ⟨ptr kb,?_,rfl,.raw _ rfl⟩;have:(cur.toList.take (y.kbs.length*1))[i]?=some (ptr kb):=by rw [e4];simp [hkb]
  rw [List.getElem?_take] at this
  split at this
  ·simpa using this
  ·cases this
 | j+1=>simp at hd
theorem mC {y:Opn} {i j:Nat} (h:(Nl ty nt hd ks y b j).P us I w bs) (hi:i<ks.length):∃z:Nat×Nat,y.ko=some z.1/\y.kbs[i]?=some z.2:=by
 obtain ⟨h1,h2,h3,_⟩:=h;rcases h1.2.2.2 with ⟨_,h0⟩ | ⟨g',cap,cur,e,_⟩
 ·omega
 cases ho:y.ko with
 | none=>rw [ho] at e;simp [Iv] at e
 | some g=>exact ⟨(g,y.kbs[i]'(by omega)),rfl,List.getElem?_eq_getElem (by omega)⟩
end
theorem XW (W:V) (m:Mi) (x:Nat) (g:Mi->Option (Option Ty)) (o:Option (List Ty)) (h1:Bu g m.ks=some o) (hf:AK m.hd≠0) (hlk:m.ks.length<=3)
  (ihk:∀k v x,k∈m.ks->g k=some v->Bt Tryz.prog 119 [.imm W,.raw (ptr x)] [(1,some (.hp (Bk k x)))] (.ret (.imm (.agg (GC v))) [])) :
  DGo Tryz.prog Tryz.f119.ntmps [1] (Nk aJ Tryz.f119.results.toList (.ret (.imm (.agg (GC (o.map (CB m.hd))))) [])) [.code (Gi Tryz.f119 2)] [(4,.ref 3 0),(1,.raw (ptr x)),(0,.imm W)]
   [(3,some (.cells 126 5 [.imm (.int .i64 0),.imm (.int .i64 0),.imm (.str []),.nils,.imm (.bool false)])),(5,some (.hp (Bk m x)))] [6,7,8,9,10,11,12]:=by
 have hV:=PT m.hd hf;obtain ⟨ty,nt,⟨a,b,t,d⟩,ks⟩:=m;simp only [Mi.hd,Mi.ks,AK] at *;have hd:G0 (.mk a b t d)=[.int .i64 a,.int .i64 b,.str t,.nilsl]:=by simp [G0,hf]
 refine Cl 5 (λy:Opn=>Cw ty nt (.mk a b t d) ks y x) rfl (λvs I w bs h=>Ei h) λy=>?_;refine Ak rfl ?_;refine B5 Ai 5 ((Bv (.mk a b t d)).map .imm) rfl rfl (λ_ vs I w bs h=>P6 h) rfl rfl (by simp [Ap]) ?_;refine Aj rfl ?_;rw [hd] at hV;refine Ag rfl hV ?_;refine Aj rfl ?_;refine B5 Ai 5 [.raw (Iv y.ko ks.length y.kc)] rfl rfl (λ_ vs I w bs h=>KR h) rfl rfl (by simp [Ap]) ?_;refine Aj rfl ?_;refine OW (e:=46) (sz:=4) 6 7 [.imm (.int .i64 a),.imm (.int .i64 b),.imm (.str t),.own 7 0] (by decide) rfl (by simp [qV]) ?_;refine Cl 5 (λ_:Unit=>Nl ty nt (.mk a b t d) ks y x 0) rfl (λvs I w bs h=>⟨(),bH h⟩) λ_=>?_;have el:∀(l:List Ty) (v:Ty),Bx (l++[v])=Bx l++[Ao v]:=λl v=>by rw [K6];rfl
 refine An (λz:Nat×List Ty=>[(63,.imm (.int .i64 z.1)),(62,.imm (.int .i64 ks.length)),(61,.raw (Iv y.ko ks.length y.kc)),(7,.ref 6 0),(4,.ref 3 0),(0,.imm W)])
  (λz=>[(3,some (.cells 126 5 [.imm (.int .i64 0),.imm (.int .i64 0),.imm (.str []),.nils,.imm (.bool false)])),(5,some (.hp (Nl ty nt (.mk a b t d) ks y x z.1))),
   (6,some (.cells 46 4 [.imm (.int .i64 a),.imm (.int .i64 b),.imm (.str t),.own 7 (Bx z.2).length])),(7,some (.row 46 4 (Bx z.2)))]) [8,9,10,11,12] (λz=>ks.length-z.1)
  (λz=>z.1<=ks.length/\z.2.length=z.1/\∃q,Bu g (ks.drop z.1)=some q/\o=q.map (z.2 ++ ·)) (0,[]) ⟨Nat.zero_le _,rfl,o,h1,by cases o <;> simp⟩ ⟨rfl,rfl,rfl,rfl,rfl,rfl,trivial⟩ ⟨rfl,rfl,rfl,rfl,trivial⟩ rfl λz hz ih=>?_
 obtain ⟨i,vs⟩:=z;obtain ⟨z1,z2,q,z3,z4⟩:=hz;simp only at z1 z2 z3 z4;refine Ak rfl ?_;refine Ab rfl (λh=>?_) (λh=>?_)
 ·have hlt:i<ks.length:=by simp at h;omega
  obtain ⟨k,hk⟩:=As hlt;rw [Av hk] at z3;obtain ⟨v,g1,g2⟩:=OG z3;refine Cl 5 (λ_:{ z:Nat×Nat // y.ko=some z.1/\y.kbs[i]?=some z.2 }=>Nl ty nt (.mk a b t d) ks y x i) rfl (λvs I w bs hA=>let ⟨z,hz⟩:=mC hA hlt;⟨⟨z,hz⟩,hA⟩) λz=>?_;obtain ⟨⟨gg,kb⟩,hko,hkb⟩:=z;simp only at hko hkb;obtain ⟨no,nc,ko,kc,kbs⟩:=y;simp only at hko hkb;subst hko;have hc:=ihk k v kb (List.mem_of_getElem? hk) g1;refine J3 5 8 9 (λ_:Unit=>Nl ty nt (.mk a b t d) ks ⟨no,nc,some gg,kc,kbs⟩ x (i+1)) (λ_:Unit=>Bk k kb) rfl (λvs I w bs h=>let ⟨b1,b2,e1,e2,e3,e4,e5⟩:=X9 h hk hkb;⟨(),b1,b2,e1,e2,e3,e4,e5⟩) λ_=>?_;refine Ak rfl ?_;refine ML Ai rfl rfl (λ_=>⟨by simp,by simp;omega⟩) (by simp) ?_;refine Aj rfl ?_
  refine B5 Ai 8 [.raw (ptr kb)] rfl rfl (λ_ vs I w bs h=>gT rfl hkb h) rfl rfl (by simp) ?_;refine Aj rfl ?_;refine AC (fr:=[]) [(9,1)] [] rfl (by simp) hc ⟨⟨rfl,rfl,rfl⟩,trivial⟩ rfl rfl rfl rfl ?_;cases v with
  | none =>
   simp only at g2;subst g2;simp only [Option.map_none] at z4;subst z4;refine mg [] rfl (by simp;rfl) ?_;refine Ah rfl λh=>?_;refine Ak rfl ?_;exact Aa rfl rfl rfl
  | some v =>
   simp only at g2;obtain ⟨q',g3,g4⟩:=g2;have hgo:=ih (i+1,vs++[v]) (by simp only;omega) ⟨by simp only;omega,by simp [z2],q',g3,by rw [z4,g4];cases q' <;> simp⟩;simp only [el] at hgo;have hll:(Bx vs).length<=3:=by simp;omega
   generalize Bx vs=l at *;obtain ⟨v1,v2,v3,v4⟩:=v;refine mg [] rfl (by simp;rfl) ?_;refine At rfl λh=>?_;refine Ak rfl ?_;refine BE Ai rfl ⟨by simp,by simp [maxLen] at hll ⊢;omega,by simp at hll ⊢;omega,trivial⟩ ?_;refine Aj rfl ?_;refine AF 7 11 rfl ?_;refine AF 5 8 rfl ?_;exact Ad hgo ⟨A0 (B2 (by omega) (by omega)),rfl,rfl,rfl,rfl,rfl,trivial⟩ ⟨rfl,rfl,by simp only [List.length_append];rfl,rfl,trivial⟩ rfl
 ·have hlt:¬i<ks.length:=by simp at h;omega
  refine Aw rfl ?_;rw [List.drop_eq_nil_of_le (by omega)] at z3;cases z3;simp only [Option.map_some,List.append_nil] at z4;subst z4;refine Bw 7 rfl ?_;refine Ak rfl ?_;exact Aa rfl rfl rfl
end Go.Hk
namespace Go.Hk
open Go.Proofs
theorem jE (c:Cse) (ho:OkW c.datas) (N:Nat) (hN:N<=1000000):∀(f:Nat) (m:Mi) (b:Nat) (r:Option Ty),AT c.datas f m=some r->GV c.datas N m=true ->
  Bt Tryz.prog 119 [.imm (AQ c (AJ (Do c.datas))),.raw (ptr b)] [(1,some (.hp (Bk m b)))] (.ret (.imm (.agg (GC r))) []):=by
 intro f
 induction f with
 | zero=>intro m b r h;simp [AT] at h
 | succ f ih =>
 intro m b r h hm;have hw:=AR.1 hm;have tail:∀(m:Mi) (x:Nat) (r:Option Ty),AT c.datas (f+1) m=some r->GV c.datas N m=true->AK m.hd≠0->DGo Tryz.prog Tryz.f119.ntmps [1] (Nk aJ Tryz.f119.results.toList (.ret (.imm (.agg (GC r))) [])) [.code (Gi Tryz.f119 2)] [(4,.ref 3 0),(1,.raw (ptr x)),(0,.imm (AQ c (AJ (Do c.datas))))]
   [(3,some (.cells 126 5 [.imm (.int .i64 0),.imm (.int .i64 0),.imm (.str []),.nils,.imm (.bool false)])),(5,some (.hp (Bk m x)))] [6,7,8,9,10,11,12]:=λm x r h hm hf=>by
  obtain ⟨o,h1,h2⟩:=MD h hf;have hw:=AR.1 hm;have:=XW (AQ c (AJ (Do c.datas))) m x (AT c.datas f) o h1 hf hw.1.2.1 λk v y hk hv=>ih k y v hv (hw.2.2 k hk);rw [<- h2] at this;exact this
 by_cases hf:AK m.hd=0
 case neg =>
  have T:=tail m b r h hm hf;obtain ⟨ty,nt,⟨a,b',t,d⟩,ks⟩:=m;simp only [Mi.hd,AK] at hf;refine Ae Ai Tryz.func119 (by decide +kernel) rfl [5,3,6,7,8,9,10,11,12] rfl rfl ?_;refine Lc 1 5 (λy:Opn=>Cw ty nt (.mk a b' t d) ks y b) rfl (λvs I w bs h=>let ⟨y,hy⟩:=Ei h;⟨y,bs,λq hq=>hq,hy⟩) λy=>?_;refine Ak rfl ?_;refine B5 Ai 5 [.imm (.int .i64 a)] rfl rfl (λ_ vs I w bs h=>NF h) rfl rfl (by simp) ?_;refine Aj rfl ?_;refine Ab rfl (λh=>absurd (by simpa using h) hf) (λh=>?_);refine pK 1 rfl (by simp) ?_;refine Cl 5 (λ_:Unit=>Bk (.mk ty nt (.mk a b' t d) ks) b) rfl (λvs I w bs h=>⟨(),EL h⟩) λ_=>?_;exact Ad T ⟨rfl,rfl,rfl,trivial⟩ ⟨rfl,rfl,trivial⟩ rfl
 have hsr:1<=AK m.ty/\AK m.ty<=8:=of_decide_eq_true hw.2.1.2;have hnr:=XR m.nt (by have:=hw.1.2.2;omega);obtain ⟨ni,hni,_,_⟩:=M3 m.nt m.nt.length 0 (by omega);have hnv:=PT (CE m.nt) (by rw [CE,hni];simp [AK]);have hne:CE m.nt = .mk 1 ni [] []:=hni;rw [hne] at hnr hnv;have l1:AK m.ty=1->r=some (.mk 1 ni [] []):=λe=>by rw [Hz hf e,hne] at h;exact (Option.some.inj h).symm
 have l4:AK m.ty=4\/AK m.ty=5\/AK m.ty=6\/AK m.ty=7->r=some (.mk 5 0 [] []):=λe=>by rw [Hy hf e] at h;exact (Option.some.inj h).symm
 have hsm:=λty nt hd ks (e:m = .mk ty nt hd ks) y x=>Vt c ho ty nt hd ks y x (by have:=hw.1.1;rw [e] at this;exact this);have hcp:=λx=>PF c.datas N hN m x hm;have lsm:=λh1 h4=>Ej (ds:=c.datas) (f:=f) hf h1 h4;rw [h] at lsm;have hhas:=λ(x:Nat) (y:Ty)=>Yx c (AJ (Do c.datas)) m y x ho hw.1.1;have tk:=λ(y:Ty) (x:Nat) (hy:y∈A6 c.datas m.ty) (hl:AT c.datas (f+1) (AY c.datas m y)=some r)=>tail (AY c.datas m y) x r hl (JI ho hw.1.1 hw.2.1.2 (Bs hy).1) (Bs hy).2;clear tail ih h;have hrf:=Hl r;obtain ⟨⟨so,n,x0,ps⟩,nt,⟨a,b',t,d⟩,ks⟩:=m;simp only [Mi.hd,Mi.ty,Mi.nt,AK] at *;subst hf;refine Ae Ai Tryz.func119 (by decide +kernel) rfl [5,3,6,7,8,9,10,11,12] rfl rfl ?_
 refine Lc 1 5 (λy:Opn=>Cw (.mk so n x0 ps) nt (.mk 0 b' t d) ks y b) rfl (λvs I w bs h=>let ⟨y,hy⟩:=Ei h;⟨y,bs,λq hq=>hq,hy⟩) λy=>?_;refine Ak rfl ?_;refine B5 Ai 5 [.imm (.int .i64 0)] rfl rfl (λ_ vs I w bs h=>NF h) rfl rfl (by simp) ?_;refine Aj rfl ?_;refine Ah rfl λh=>?_;refine Ak rfl ?_;refine B5 Ai 5 [.imm (.int .i64 so)] rfl rfl (λ_ vs I w bs h=>cH h) rfl rfl (by simp) ?_;refine Aj rfl ?_;by_cases s1:so=1
 ·rw [l1 s1];subst s1;refine Ah rfl λh=>?_;refine Ak rfl ?_;refine B5 Ai 5 [.raw (Iv y.no nt.length y.nc)] rfl rfl (λ_ vs I w bs h=>Jq h) rfl rfl (by simp) ?_;refine Aj rfl ?_;refine PC 5 (vs:=[.sl (B8 nt)]) rfl rfl (λ_=>⟨.inr ⟨_,rfl,λus I w bs h J hle hJ=>Ix h hle hJ⟩,trivial⟩) (λ_=>hnr) rfl (by simp) rfl ?_;refine Aj rfl ?_;refine Ag rfl hnv ?_;refine Aj rfl ?_;exact Rt 3 [.int .i64 1,.int .i64 ni,.str [],.sl [],.bool true] rfl rfl (Au ⟨_,rfl,tV rfl,trivial⟩)
 refine Ab rfl (λh=>absurd (by simpa using h) s1) (λh=>?_);clear h;refine Ak rfl ?_;by_cases s4:so=4
 ·rw [l4 (by omega)];subst s4;refine Ah rfl λh=>?_;refine Ak rfl ?_;refine Ah rfl λh=>?_;refine Ak rfl ?_;exact Aa rfl rfl rfl
 refine Ab rfl (λh=>absurd (by simpa using h) s4) (λh=>?_);clear h;refine Ak rfl ?_;by_cases s5:so=5
 ·rw [l4 (by omega)];subst s5;refine Ah rfl λh=>?_;refine Ak rfl ?_;refine Ah rfl λh=>?_;refine Ak rfl ?_;exact Aa rfl rfl rfl
 refine Ab rfl (λh=>absurd (by simpa using h) s5) (λh=>?_);clear h;refine Ak rfl ?_;by_cases s6:so=6
 ·rw [l4 (by omega)];subst s6;refine Ah rfl λh=>?_;refine Ak rfl ?_;refine Ah rfl λh=>?_;refine Ak rfl ?_;exact Aa rfl rfl rfl
 refine Ab rfl (λh=>absurd (by simpa using h) s6) (λh=>?_);clear h;refine Ak rfl ?_;by_cases s7:so=7
 ·rw [l4 (by omega)];subst s7;refine Ah rfl λh=>?_;refine Ak rfl ?_;exact Aa rfl rfl rfl
 refine Ab rfl (λh=>absurd (by simpa using h) s7) (λh=>?_);clear h;refine Ak rfl ?_;have lsm:=lsm s1 (by omega);have hS:=hsm _ _ _ _ rfl y b;have hbest:∀z,AH c.datas (.mk (.mk so n x0 ps) nt (.mk 0 b' t d) ks)=some z->WZ (C0 c.datas (.mk (.mk so n x0 ps) nt (.mk 0 b' t d) ks) none (A6 c.datas (.mk so n x0 ps)))=z/\z∈A6 c.datas (.mk so n x0 ps):=λz hz=>⟨by
  simp only [AH,Option.map_eq_some_iff] at hz;obtain ⟨p,hp,rfl⟩:=hz;show WZ (C0 c.datas (.mk (.mk so n x0 ps) nt (.mk 0 b' t d) ks) none (A6 c.datas (Mi.mk (.mk so n x0 ps) nt (.mk 0 b' t d) ks).ty))=p.1;rw [hp];rfl,Gp hz⟩
 generalize WZ (C0 c.datas (.mk (.mk so n x0 ps) nt (.mk 0 b' t d) ks) none (A6 c.datas (.mk so n x0 ps)))=bh at *;generalize AH c.datas (.mk (.mk so n x0 ps) nt (.mk 0 b' t d) ks)=S at *;obtain ⟨h1,h2,h3,h4⟩:=bh;refine AC (fr:=[]) [(5,1)] [] rfl (by simp) hS ⟨⟨rfl,rfl,rfl⟩,trivial⟩ rfl rfl rfl rfl ?_;refine Aj rfl ?_;cases S with
 | none =>
  simp only [Option.some.injEq] at lsm;subst lsm;refine Ak rfl ?_;refine Ah rfl λh=>?_;refine Ak rfl ?_;exact Aa rfl rfl rfl
 | some z =>
  obtain ⟨e,hz⟩:=hbest z rfl;subst e;simp only at lsm;refine Ak rfl ?_;refine At rfl λh=>?_;clear h;refine Cl 5 (λ_:Unit=>Bk (.mk (.mk so n x0 ps) nt (.mk 0 b' t d) ks) b) rfl (λvs I w bs h=>⟨(),EL h⟩) λ_=>?_;refine Ak rfl ?_;refine AC (fr:=[7,8]) [(5,1)] [(3,7),(2,8)] rfl (by simp) (hcp b) ⟨⟨rfl,rfl,rfl⟩,trivial⟩ rfl rfl rfl rfl ?_;refine IJ 8 9 (λob:Nat=>[ptr ob]) (λob=>Bk (.mk (.mk so n x0 ps) nt (.mk 0 b' t d) ks) ob) rfl (λvs I w bs h=>let ⟨ob,F,e1,e2,e3⟩:=h;⟨ob,e1,F,e2,e3⟩) λob=>?_;refine Ak rfl ?_;refine AC (fr:=[10]) [(9,1)] [(2,10)] rfl (by simp) (hhas ob (.mk h1 h2 h3 h4)) ⟨⟨rfl,rfl,rfl⟩,trivial⟩ rfl rfl rfl rfl ?_;refine pK 1 rfl (by simp) ?_
  have T:=tk (.mk h1 h2 h3 h4) ob hz lsm.symm;refine AF 10 5 rfl ?_;exact Ad T ⟨rfl,rfl,rfl,trivial⟩ ⟨rfl,rfl,trivial⟩ rfl
end Go.Hk
namespace Go.Hk
def Wn (P:Program) (t:TypeId) (m:String) (f:FuncId):Bool:=match P.info? t with
 | some i=>match i.methods.find? (·.name == m) with
  | some r=>r.path.toList.isEmpty&&(match r.func with
   | some (f',pr)=>Nat.beq f' f && !pr
   | none=>false)&&(match P.underlying t with
   | some (.pointer _)=>false
   | some _=>true
   | none=>false)
  | none=>false
 | none=>false
theorem jN {P:Program} {t:TypeId} {m:String} {f:FuncId} (h:Wn P t m f=true) (n:Nat) (v:Value) (w:World):(method (n+1) t v m).run P w = .ok (f,v) w:=by
 unfold Wn at h
 split at h
 ·rename_i i hi
  split at h
  ·rename_i r hr;simp only [Bool.and_eq_true] at h;obtain ⟨⟨h1,h2⟩,h3⟩:=h
   split at h2
   ·rename_i f' pr hf;simp only [Bool.and_eq_true,Bool.not_eq_true'] at h2;have hff:=Nat.eq_of_beq_eq_true h2.1;subst hff;have hpr:=h2.2;subst hpr;have hp:r.path.toList=[]:=List.isEmpty_iff.1 h1
    split at h3
    ·cases h3
    ·rename_i u hne hu;have hrecv:∀wr,(receiverAt t (.val v) false wr).run P w = .ok v w:=λwr=>by
      unfold receiverAt;rw [Sem.run_bind,run_underlying hu,Result.andThen_ok];cases u <;> first | rfl | exact absurd rfl (hne _)
     simp only [method,typeInfo,Sem.run_bind,run_program,Result.andThen_ok,hi,hr,hp,follow,Sem.run_pure,hf,hrecv]
    ·cases h3
   ·cases h2
  ·cases h
 ·cases h
section
variable {P:Program} {n:Nat} {F:List Nat} {Q:DQ} {tt:TT} {env env':Env} {st st':St} {ids ids':List Nat} {k todo todo':List DI} {cx:Prop} {d:D} {ob ob':List Prop}
 {I:Imm} {μ:Mu} {w:World} {a:Act}
theorem Ss {o:Oper} {r:Operand} {m:String} {f:FuncId} {args:List Operand} {ts:Array TypeId} {ds:List D} {T:TypeId} {x:V} (ho:o.op = .call { callee:=.invoke r m,args:=⟨args⟩,argTypes:=ts }) (ht:CV env r=some (.imm (.iface T x)))
  (ha:Ir cx env args=some (ds,ob)) (hob:AA ob) (hm:Wn P T m f=true):En P o env f (.imm x::ds) cx:=by
 intro I μ a w hop hc;rw [ho] at hop;have hd:=Gv (I:=I) (μ:=μ) (a:=a) hc ha hob λy hy=>hop y (by simp [Op.operands,Call.operands,hy]);have hf:=(hop r (by simp [Op.operands,Call.operands]) _ ht).immInv;generalize hv:a.eval r=v at hf;cases hf with
 | iface _ u _ hu =>
  refine ⟨#[u]++(args.map a.eval).toArray,?_,?_⟩
  ·simp only [Array.toList_append];exact .mk (.imm _ _ hu) (by simpa using hd)
  ·have hs:∃n,P.types.size+Made.depth=n+1:=⟨P.types.size+(Made.depth-1),by unfold Made.depth;omega⟩
   obtain ⟨n,hs⟩:=hs;have hme:=jN hm n u w;have hx:((#[Value.iface T u]++(args.map a.eval).toArray).extract 1 (#[Value.iface T u]++(args.map a.eval).toArray).size)=(args.map a.eval).toArray:=by
    apply Array.ext';simp [List.extract_eq_take_drop];exact List.take_of_length_le (by simp)
   have h0:(#[Value.iface T u]++(args.map a.eval).toArray)[0]?=some (.iface T u):=by simp
   have e:(⟨args⟩:Array Operand).map a.eval=(args.map a.eval).toArray:=by simp
   simp only [execOp,ho,resolve,hv,e,Sem.run_bind,Sem.run_pure,Result.andThen_ok,invoke,h0,callMethod,hx,run_program,hs,hme]
structure rQ where
 T:TypeId
 m:String
 vs:List V
 g:Option (Bool×Bool)
 ob:List Prop
 dst:Option Nat
 todo:List DI
def iK (n:Nat) (env:Env) (todo:List DI):Option rQ :=
 match Bg todo ([],[]) with
 | some (all,o,todo')=>match o.op,Ca all env o with
  | .call { callee:=.invoke r m,args:=⟨args⟩,.. },some g=>match CV env r,Ir (Ap g) env args with
   | some (.imm (.iface T x)),some (ds,ob)=>match L5 (.imm x::ds),BH n o.dst with
    | some vs,true=>match o.dst with
     | some t=>some ⟨T,m,vs,g,ob,some t,todo'⟩
     | none=>some ⟨T,m,vs,g,ob,none,todo'⟩
    | _,_=>none
   | _,_=>none
  | _,_=>none
 | none=>none
theorem nB (f:FuncId) {T:TypeId} {m:String} {vs:List V} {g:Option (Bool×Bool)} {ob:List Prop} {dst:Option Nat} {todo':List DI} {v:V} (h:iK n env todo=some ⟨T,m,vs,g,ob,dst,todo'⟩) (hm:Wn P T m f=true) (hE:Ap g->Al P f vs v) (hob:AA ob)
  (hk:G P n F Q todo' (B9 dst (gD g (.imm v)) env) st ids):G P n F Q todo env st ids:=by
 unfold iK at h
 split at h
 ·rename_i all o todo1 h1;have hnd:∀cc,o.op = .call cc->∀c,o.op ≠ .defer c:=λcc h c h'=>by rw [h] at h';cases h'
  split at h
  ·rename_i r m' args ts g' ho hg
   split at h
   ·rename_i T' x ds ob' ht ha
    split at h
    ·rename_i vs' hv hd;have fin:T'=T/\m'=m/\vs'=vs/\g'=g/\ob'=ob/\o.dst=dst/\todo1=todo':=by
      split at h <;> (rename_i hdst;cases h;exact ⟨rfl,rfl,rfl,rfl,rfl,hdst,rfl⟩)
     obtain ⟨rfl,rfl,rfl,rfl,rfl,rfl,rfl⟩:=fin;exact B6 (fr:=[]) (wr:=[]) h1 (P7 hg (Ss ho ht ha hob hm) hv hE) hd (hnd _ ho) hk
    ·cases h
   ·cases h
  ·cases h
 ·cases h
end
end Go.Hk
namespace Go.Hk
open Go.Proofs
theorem PY:∀v:Ty,Aq v<=1000000000000000->Al Tryz.prog 159 [.agg (Ao v)] (.int .i64 (Aq v))
 | .mk f n x ps,hN=>by
  refine AW λhv=>?_;simp [Ct,ET,Ao,maxLen] at hv;simp only [Aq] at hN;refine Ae Ai Tryz.func159 (by decide +kernel) rfl [1,2,3,4] rfl rfl ?_;refine Aj rfl ?_;refine An (λi:Nat=>[(9,.imm (.int .i64 i)),(8,.imm (.int .i64 ps.length)),(7,.imm (.sl (Bx ps))),(3,.imm (.int .i64 ((1+Am (ps.take i):Nat):Int)))]) (λ_=>[]) [2,3,4] (λi=>ps.length-i) (λi=>i<=ps.length) 0 (Nat.zero_le _)
   ⟨rfl,A0 (by simp),rfl,rfl,trivial⟩ trivial rfl λi hi ih=>?_
  refine Ak rfl ?_;refine Ab rfl (λh=>?_) (λh=>?_)
  ·simp at h;obtain ⟨p,hp⟩:=As h;have hl:=BR hp;have hs:=PY p (by omega);have hn:Am (ps.take (i+1))=Am (ps.take i)+Aq p:=by
    have e:=BC (ps.take i) [p];rw [Bh hp,e];simp [Am]
   refine Ak rfl ?_;refine mi rfl (c:=Ao p) (λ_=>⟨by simp,by simpa using A4 hp,by simp⟩) (by simp) ?_;obtain ⟨p1,p2,p3,p4⟩:=p;refine Aj rfl ?_;refine Ag rfl hs ?_;refine Aj rfl ?_;exact Ad (ih (i+1) (by omega) (by omega)) ⟨A0 (B2 (by omega) (by omega)),rfl,rfl,A0 (by rw [B2 (by omega) (by omega)];omega),trivial⟩ trivial rfl
  ·simp at h;refine Aw rfl ?_;rw [List.take_of_length_le (by omega)];refine Ak rfl ?_;simp only [Aq];exact Aa rfl rfl rfl
termination_by v=>SizeOf.sizeOf v
decreasing_by
 have:=List.sizeOf_lt_of_mem (List.mem_of_getElem? hp);simp_wf;omega
theorem nP (n:Int) (h : -1000000000000<=n/\n<=1000000000000):Al Tryz.prog 184 [.int .i64 n] (.int .i64 (DE n)):=by
 refine Ae Ai Tryz.func184 (by decide +kernel) rfl [1,2] rfl rfl ?_;refine Aj rfl ?_;by_cases h0:0<n
 ·refine Ab rfl (λh=>?_) (λh=>absurd h0 (by simpa using h));refine Ak rfl ?_;refine Aa rfl rfl ?_;simp only [DE,if_pos h0];have e1:IntKind.i64.wrap (2*n)=2*n:=B2 (by omega) (by omega);rw [e1,B2 (by omega) (by omega)]
 ·refine Ab rfl (λh=>absurd (by simpa using h) h0) (λh=>?_);refine Ak rfl ?_;refine Aa rfl rfl ?_;simp only [DE,if_neg h0];rw [B2 (by omega) (by omega)]
theorem QL (ds:List Dt) (s:Str):Er false (EU (DP 0 ds)) (.str s) (.agg [.int .i64 0,.int .i64 0]) = .imm (.agg [.int .i64 (Cg ds s).1,.int .i64 (Cg ds s).2]):=by
 simp only [Er,NX,Cg];cases h:Gu s 0 ds with
 | none=>simp
 | some p=>obtain ⟨a,b⟩:=p;simp
theorem VE (c:Cse) (sz:List (List V)) (ho:OkW c.datas):∀(a t b:Ty),AI c.datas t=true->LE c.datas t a=true->LE c.datas t b=true->Ea a=true->Ea b=true ->
  Al Tryz.prog 160 [AQ c sz,.agg (Ao a),.agg (Ao b)] (.int .i64 (Cc c.datas a b))
 | .mk f n x ps,.mk so m0 x0 qs0,.mk g n' x' ps',hn,ha,hb,hia,hib=>by
  have hR:=λc'=>nP c';obtain ⟨ds,⟨c1,c2,c3,c4⟩,rows⟩:=c;simp only [Ea,Bool.and_eq_true] at hia hib;have hia1:=of_decide_eq_true hia.1;have hib1:=of_decide_eq_true hib.1;simp only at hn ha hb ho;simp only [LE] at ha hb;refine Ae Ai Tryz.func160 (by decide +kernel) rfl [1,2,3,4,5,6,7] rfl rfl ?_;refine Aj rfl ?_;simp only [Cc];by_cases f1:f=1
  ·subst f1;refine Ah rfl λh=>?_;refine Ak rfl ?_;refine Af rfl (λ_=>hR n hia1) (by simp) ?_;refine Aj rfl ?_;refine Af rfl (λ_=>hR n' hib1) (by simp) ?_;refine mg [] rfl (by simp;rfl) ?_;have hr:∀z:Int,-1000000000000<=z/\z<=1000000000000 -> -2000000000000<=DE z/\DE z<=2000000000000:=λz hz=>by simp only [DE];split <;> omega
   have:=hr n hia1;have:=hr n' hib1;refine Aa rfl rfl ?_;rw [B2 (by omega) (by omega)];rfl
  refine Ab rfl (λh=>absurd (by simpa using h) f1) (λh=>?_);clear h;refine Ak rfl ?_;by_cases f2:f=2
  ·subst f2;refine Ah rfl λh=>?_;refine Ak rfl ?_;refine Aa rfl rfl ?_;rw [B2 (by omega) (by omega)];rfl
  refine Ab rfl (λh=>absurd (by simpa using h) f2) (λh=>?_);clear h;refine Ak rfl ?_;by_cases f4:f=4
  case neg =>
   refine Ab rfl (λh=>absurd (by simpa using h) f4) (λh=>?_);clear h;refine Ak rfl ?_;rw [if_neg f1,if_neg f2,if_neg f4];exact Aa rfl rfl rfl
  subst f4;have h8:so=8:=by
   by_cases e1:so=1
   ·rw [if_pos e1] at ha;simp at ha
   rw [if_neg e1] at ha;by_cases e2:so=2
   ·rw [if_pos e2] at ha;simp at ha
   rw [if_neg e2] at ha;by_cases e3:so=3
   ·rw [if_pos e3] at ha;simp at ha
   rw [if_neg e3] at ha;by_cases e8:so=8
   ·exact e8
   ·rw [if_neg e8] at ha;simp at ha
  subst h8;rw [if_neg (by decide),if_neg (by decide),if_neg (by decide),if_pos rfl] at ha hb;simp only [Bool.and_eq_true,decide_eq_true_eq] at ha hb;obtain ⟨_,ha1,ha2,ha3⟩:=ha;obtain ⟨hg,hb1,hb2,hb3⟩:=hb;rw [J7 ds 8 0 m0 x0 x [] qs0] at ha1 ha2 ha3;rw [J7 ds 8 0 m0 x0 x' [] qs0] at hb1 hb2 hb3;have hp:=(Cr hn 8 m0 x0 qs0 rfl rfl).1;have sa:=Gj ho.dif (n:=m0) (s:=x) (ps:=qs0) hp ha1;have sb:=Gj ho.dif (n:=m0) (s:=x') (ps:=qs0) hp hb1;have la:=PG ho (.mk 8 m0 x0 qs0) x;have lb:=PG ho (.mk 8 m0 x0 qs0) x';have hsame:=NY (ds:=ds) (t:=.mk 8 m0 x0 qs0) (s:=x) (s':=x') ha1;have hal:=MY ho (.mk 8 m0 x0 qs0) x;have hnm:=J6 ho.okd (t:=.mk 8 m0 x0 qs0) (s:=x) ha1;have lk1:=QL ds x;have lk2:=QL ds x'
  rw [if_neg (by decide),if_neg (by decide),if_pos rfl];rw [sa] at lk1 ⊢;rw [sb] at lk2 ⊢;generalize (Cg ds x).1=s1 at *;generalize (Cg ds x').1=s2 at *;clear sa sb;generalize BN ds (.mk 8 m0 x0 qs0) x=e1 at *;generalize BN ds (.mk 8 m0 x0 qs0) x'=e2 at *;obtain ⟨⟨n1,A1⟩,k1⟩:=e1;obtain ⟨⟨n2,A2⟩,k2⟩:=e2;simp only at ha1 ha2 ha3 hb1 hb2 hb3 la lb hsame hal hnm lk1 lk2 ⊢;refine Ah rfl λh=>?_;refine Ak rfl ?_;refine Gr Ai rfl rfl rfl (EK _) (by simp [Ap]) (z:=.agg #[.int .i64 0,.int .i64 0]) rfl (λ_=>.agg _ _ rfl (by decide) (λi c x h1 h2=>by match i,h1,h2 with | 0,h1,h2=>cases h1;cases h2;exact .int _ _ | 1,h1,h2=>cases h1;cases h2;exact .int _ _ | i+2,h1,h2=>simp at h2)) lk1 ?_
  refine Du rfl ?_;refine Gr Ai rfl rfl rfl (EK _) (by simp [Ap]) (z:=.agg #[.int .i64 0,.int .i64 0]) rfl (λ_=>.agg _ _ rfl (by decide) (λi c x h1 h2=>by match i,h1,h2 with | 0,h1,h2=>cases h1;cases h2;exact .int _ _ | 1,h1,h2=>cases h1;cases h2;exact .int _ _ | i+2,h1,h2=>simp at h2)) lk2 ?_;refine mg [] rfl (by simp [Ap];rfl) ?_;by_cases hk:k1=k2
  case neg =>
   refine Ab rfl (λh=>?_) (λh=>by exfalso;simp at h;rw [B2 (by omega) (by omega)] at h;omega);refine Ak rfl ?_;rw [if_pos (by omega)];refine Aa rfl rfl ?_;rw [B2 (by omega) (by omega)]
  refine Ab rfl (λh=>by exfalso;simp at h;rw [B2 (by omega) (by omega)] at h;omega) (λh=>?_);clear h;subst hk;have hsame:=hsame rfl;cases hsame;rw [if_neg (by omega)];refine Ak rfl ?_;refine An (λi:Nat=>[(53,.imm (.int .i64 i)),(52,.imm (.int .i64 ps.length)),(5,.ref 2 0),(4,.ref 1 0),(0,.imm (AQ ⟨ds,.mk c1 c2 c3 c4,rows⟩ sz))])
   (λ_=>[(1,some (.immb 46 4 (Ao (.mk 4 n x ps)))),(2,some (.immb 46 4 (Ao (.mk g n' x' ps'))))]) [3,4,5,6,7] (λi=>ps.length-i)
   (λi=>i<=ps.length/\BW ds ps ps'=BW ds (ps.drop i) (ps'.drop i)) 0 ⟨Nat.zero_le _,rfl⟩ ⟨rfl,A0 (by simp),rfl,rfl,rfl,trivial⟩ ⟨rfl,rfl,trivial⟩ rfl λi hi ih=>?_
  obtain ⟨hi1,hi2⟩:=hi;refine Ak rfl ?_;refine Ab rfl (λh=>?_) (λh=>?_)
  ·simp at h;obtain ⟨p,hp⟩:=As h;obtain ⟨t,ht⟩:=As (l:=A1) (i:=i) (by omega);obtain ⟨q,hq⟩:=As (l:=ps') (i:=i) (by omega);have hO:=VE ⟨ds,.mk c1 c2 c3 c4,rows⟩ sz ho p t q (D3 hnm ht) (Kf ha3 ht hp) (Kf hb3 ht hq) (Jt hia.2 hp) (Jt hib.2 hq);simp only at hO;rw [O8 hp hq] at hi2;generalize Cc ds p q=z at *;refine Ak rfl ?_;refine mi rfl (c:=Ao p) (λ_=>⟨by simp,by simpa using A4 hp,by simp⟩) (by simp) ?_;refine Aj rfl ?_;refine mi rfl (c:=Ao q) (λ_=>⟨by simp,by simpa using A4 hq,by simp⟩) (by simp) ?_;refine Aj rfl ?_;refine Ag rfl hO ?_;refine mg [] rfl (by simp;rfl) ?_;by_cases hz:z=0
   ·rw [if_neg (by simpa using hz)] at hi2;refine Ab rfl (λh=>by simp at h;exact absurd hz h) (λh=>?_);refine Ak rfl ?_;exact Ad (ih (i+1) (by omega) ⟨by omega,hi2⟩) ⟨A0 (B2 (by omega) (by omega)),rfl,rfl,rfl,rfl,trivial⟩ ⟨rfl,rfl,trivial⟩ rfl
   ·rw [if_pos hz] at hi2;refine Ab rfl (λh=>?_) (λh=>by simp at h;exact absurd h hz);refine Ak rfl ?_;rw [hi2];exact Aa rfl rfl rfl
  ·simp at h;refine Aw rfl ?_;refine Ak rfl ?_;rw [hi2,List.drop_eq_nil_of_le (by omega)];simp only [BW];exact Aa rfl rfl rfl
termination_by a=>SizeOf.sizeOf a
decreasing_by
 have:=List.sizeOf_lt_of_mem (List.mem_of_getElem? hp);simp_wf;omega
@[simp] theorem someP_length (r:Option Ty):(GC r).length=5:=by cases r <;> simp [GC,zT]
theorem SK (c:Cse) (sz:List (List V)) (ho:OkW c.datas) (hn:AI c.datas c.type=true) (a b:Option Ty) (ha:∀v,a=some v->Th c v) (hb:∀v,b=some v->Th c v) :
  Al Tryz.prog 117 [AQ c sz,.agg (GC a),.agg (GC b)] (.agg (GC (Gl c.datas a b))):=by
 cases a with
 | none =>
  have e:Gl c.datas none b=b:=rfl;rw [e];cases b with
  | none =>
   refine Ae Ai Tryz.func117 (by decide +kernel) rfl [1,2,3,4,5] rfl rfl ?_;refine Aj rfl ?_;refine Ah rfl λh=>?_;refine Ak rfl ?_;exact Aa rfl rfl rfl
  | some y =>
   obtain ⟨y1,y2,y3,y4⟩:=y;refine Ae Ai Tryz.func117 (by decide +kernel) rfl [1,2,3,4,5] rfl rfl ?_;refine Aj rfl ?_;refine Ah rfl λh=>?_;refine Ak rfl ?_;exact Aa rfl rfl rfl
 | some x =>
 cases b with
 | none =>
  obtain ⟨x1,x2,x3,x4⟩:=x;refine Ae Ai Tryz.func117 (by decide +kernel) rfl [1,2,3,4,5] rfl rfl ?_;refine Aj rfl ?_;refine At rfl λh=>?_;refine Ak rfl ?_;refine Ah rfl λh=>?_;refine Ak rfl ?_;exact Aa rfl rfl rfl
 | some y =>
  have hx:=ha x rfl;have hy:=hb y rfl;have hO:=VE c sz ho y c.type x hn hy.1 hx.1 hy.2.1 hx.2.1;have hX:=PY x hx.2.2;have hY:=PY y hy.2.2;have e:Gl c.datas (some x) (some y)=if (if Aq y=Aq x then Cc c.datas y x<0 else Aq y<Aq x) then some y else some x:=by
   simp only [Gl,Cm];by_cases h:Aq y=Aq x
   ·simp only [if_pos h,decide_eq_true_eq]
   ·simp only [if_neg h,decide_eq_true_eq]
  rw [e];clear e;have hnx:=hx.2.2;have hny:=hy.2.2;generalize Cc c.datas y x=z at *;generalize Aq x=nx at *;generalize Aq y=ny at *;obtain ⟨x1,x2,x3,x4⟩:=x;obtain ⟨y1,y2,y3,y4⟩:=y;generalize hR:(if (if ny=nx then z<0 else ny<nx) then some (Ty.mk y1 y2 y3 y4) else some (Ty.mk x1 x2 x3 x4))=R;have hyes:(if ny=nx then z<0 else ny<nx)->R=some (Ty.mk y1 y2 y3 y4):=λh=>by rw [<- hR];exact if_pos h
  have hno:¬(if ny=nx then z<0 else ny<nx)->R=some (Ty.mk x1 x2 x3 x4):=λh=>by rw [<- hR];exact if_neg h
  clear hR;refine Ae Ai Tryz.func117 (by decide +kernel) rfl [1,2,3,4,5] rfl rfl ?_;refine Aj rfl ?_;refine At rfl λh=>?_;refine Ak rfl ?_;refine At rfl λh=>?_;refine Ak rfl ?_;refine AE rfl hY ?_;refine Du rfl ?_;refine AE rfl hX ?_;refine mg [] rfl (by simp [Ap];rfl) ?_;have ew:IntKind.i64.wrap ((ny:Int)-nx)=(ny:Int)-nx:=B2 (by omega) (by omega);by_cases hq:ny=nx
  ·subst hq;simp only [if_true] at hyes hno;refine Ab rfl (λh=>?_) (λh=>by exfalso;simp at h;exact h (by decide));refine Ak rfl ?_;refine Ag rfl hO ?_;refine Aj rfl ?_;by_cases hz:z<0
   ·rw [hyes hz];refine Ab rfl (λh=>?_) (λh=>absurd hz (by simpa using h));refine Ak rfl ?_;exact Aa rfl rfl rfl
   ·rw [hno hz];refine Ab rfl (λh=>absurd (by simpa using h) hz) (λh=>?_);refine Ak rfl ?_;exact Aa rfl rfl rfl
  ·simp only [if_neg hq] at hyes hno;refine Ab rfl (λh=>by exfalso;simp [ew] at h;omega) (λh=>?_);refine Ak rfl ?_;by_cases hz:ny<nx
   ·rw [hyes hz];refine Ab rfl (λh=>?_) (λh=>by exfalso;simp [ew] at h;omega);refine Ak rfl ?_;exact Aa rfl rfl rfl
   ·rw [hno hz];refine Ab rfl (λh=>by exfalso;simp [ew] at h;omega) (λh=>?_);refine Ak rfl ?_;exact Aa rfl rfl rfl
theorem VA (p:Ty):Al Tryz.prog 228 [.agg (Ao p)] (.agg (Ao p)):=by
 obtain ⟨a,b,c,d⟩:=p;refine Ae Ai Tryz.func228 (by decide +kernel) rfl [1,2] rfl rfl ?_;refine Aj rfl ?_;exact Aa rfl rfl rfl
theorem V9 (p:Ty):Al Tryz.prog 229 [.agg (Ao p)] (.agg (Ao p)):=by
 obtain ⟨a,b,c,d⟩:=p;refine Ae Ai Tryz.func229 (by decide +kernel) rfl [1,2] rfl rfl ?_;refine Aj rfl ?_;exact Aa rfl rfl rfl
theorem Vb:∃z,(Tryz.prog.info? 139).bind (·.zero)=some z/\∀I,RepV I z (.agg [.int .i64 0,.int .i64 0,.str [],.sl []]):=by
 refine ⟨.agg #[.int .i64 0,.int .i64 0,.string ⟨#[]⟩,.slice none 0 0],by kernel_rfl,λI=>.agg _ _ rfl (by decide) λi c x hc hx=>?_⟩
 match i,hc,hx with
 | 0,hc,hx=>cases hc;cases hx;exact .int _ _
 | 1,hc,hx=>cases hc;cases hx;exact .int _ _
 | 2,hc,hx=>cases hc;cases hx;exact .str _ _ rfl
 | 3,hc,hx=>cases hc;cases hx;exact .slnil
 | i+4,hc,hx=>simp at hx
theorem jP (x:Ty×Int):Al Tryz.prog 118 [LY x] (.bool (decide (x.2=1))):=by
 obtain ⟨⟨a,b,c,d⟩,m⟩:=x;by_cases h:m=1
 ·subst h;refine Ae Ai Tryz.func118 (by decide +kernel) rfl [1,2] rfl rfl ?_;refine Aj rfl ?_;refine IH Ai rfl (.inl ⟨rfl,rfl⟩) ?_;refine Aj rfl ?_;refine Ah rfl λh=>?_;refine Ak rfl ?_;exact Aa rfl rfl rfl
 ·have e:LY (.mk a b c d,m) = .iface 201 (.agg (Ao (.mk a b c d))):=by simp [LY,h]
  obtain ⟨z,hz,hzr⟩:=Vb;rw [e,show decide (m=1)=false from decide_eq_false h];refine Ae Ai Tryz.func118 (by decide +kernel) rfl [1,2] rfl rfl ?_;refine Aj rfl ?_;refine IH Ai rfl (.inr ⟨by decide,z,_,hz,hzr,rfl⟩) ?_;refine Aj rfl ?_;refine At rfl λh=>?_;refine Ak rfl ?_;exact Aa rfl rfl rfl
theorem SX {I:Imm} {μ:Mu}:∀{xs:List Value} {a b:List D},RepL I μ xs (a ++ .nils::b)->RepL I μ xs (a ++ .imm (.sl [])::b)
 | [],[],b,h=>absurd h.1 (by simp)
 | [],_::_,b,h=>absurd h.1 (by simp)
 | x::xs,[],b,h=>by
  obtain ⟨h1,h2⟩:=(show RepL I μ (x::xs) (.nils::b) from h).cons;refine .mk ?_ h2;cases h1;exact .imm _ _ .slnil
 | x::xs,d::a,b,h=>by
  obtain ⟨h1,h2⟩:=(show RepL I μ (x::xs) (d::(a ++ .nils::b)) from h).cons;exact .mk h1 (SX h2)
theorem TM {P:Program} {f:FuncId} {a b:List D} {st:St} {out:Out} (h:Bt P f (a ++ .imm (.sl [])::b) st out):Bt P f (a ++ .nils::b) st out:=λI μ w xs hs hx=>h I μ w xs hs (SX hx)
theorem Vd (l:List (Ty×Int)):∀c∈Cx l,c.length=1:=λc hc=>by simp only [Cx,List.mem_map] at hc;obtain ⟨q,_,rfl⟩:=hc;rfl
theorem aF (x : Ty × Int) : ∃ T fm, LY x = .iface T (.agg (Ao x.1)) ∧ Wn Tryz.prog T "hearth/cover.pattern" fm = true ∧ Al Tryz.prog fm [.agg (Ao x.1)] (.agg (Ao x.1)) := by
 obtain ⟨p,m⟩:=x;by_cases h:m=1
 ·exact ⟨139,228,by simp [LY,h],by kernel_rfl,VA p⟩
 ·exact ⟨201,229,by simp [LY,h],by kernel_rfl,V9 p⟩
theorem SS (c:Cse) (ho:OkW c.datas) (hn:AI c.datas c.type=true):∀(F f N:Nat),f<=F->∀(m x:Mi) (l:List (Ty×Int)) (r:Option Ty),N+f<=1000000->MOk c.datas c.type N m->MOk c.datas c.type N x->stl c.datas m x ->
  Je c.datas c.type l->(∀y∈l,y.2=0\/y.2=1)->l.length<=1000->F3 c.datas m l<f->CQ c.datas f m l=some r ->
  Bt Tryz.prog 67 [.imm (AQ c (AJ (Do c.datas))),.hv 1 0,.imm (.sl (Cx l))] [(1,some (.hp (GF x)))] (.ret (.imm (.agg (GC r))) []):=by
 intro F
 induction F with
 | zero=>intro f N hf m x l r _ _ _ _ _ _ _ hu;omega
 | succ F ih =>
 intro f N hfF m x l r hNf hm hx hs hr hb hll hu hS;have hrf:=Hl r;refine Ae Ai Tryz.func67 (by decide +kernel) rfl [2,3,4,5,6,7,8,9,10,11,12] rfl rfl ?_;refine IJ 1 2 (λob:Nat=>[ptr ob]) (λob=>Bk x ob) rfl (λvs I w bs h=>let ⟨ob,F,e1,e2,e3⟩:=h;⟨ob,e1,F,e2,e3⟩) λob=>?_;refine Ak rfl ?_;refine An (λz:Nat×Nat×Mi=>[(15,.imm (.int .i64 z.1)),(14,.imm (.int .i64 l.length)),(13,.imm (.sl (Cx l))),(6,.ref 3 0),(2,.imm (.sl (Cx l))),(1,.raw (ptr ob)),(0,.imm (AQ c (AJ (Do c.datas))))])
  (λz=>[(3,some (.cells 126 5 [.imm (.int .i64 0),.imm (.int .i64 0),.imm (.str []),.nils,.imm (.bool false)])),(2,some (.hp (Bk z.2.2 ob)))]) [4,5,6,7,8,9,10,11,12] (λz=>l.length-z.1)
  (λz=>z.1<=l.length/\z.2.1<=f/\MOk c.datas c.type N z.2.2/\stl c.datas m z.2.2/\F3 c.datas m (l.drop z.1)<z.2.1/\CQ c.datas z.2.1 m (l.drop z.1)=some r) (0,f,x) ⟨Nat.zero_le _,Nat.le_refl _,hx,hs,hu,hS⟩ ⟨rfl,A0 (by simp),rfl,rfl,rfl,rfl,rfl,trivial⟩ ⟨rfl,rfl,trivial⟩ rfl λz hz ihl=>?_
 obtain ⟨i,f',x⟩:=z;obtain ⟨z1,z2,hx,hs,hu,hS⟩:=hz;simp only at z1 z2 hx hs hu hS;refine Ak rfl ?_;refine Ab rfl (λh=>?_) (λh=>?_)
 ·have hlt:i<l.length:=by simp at h;omega
  obtain ⟨y,hy⟩:=As hlt;obtain ⟨p,bb⟩:=y;obtain ⟨T,fm,hwe,him,hpc⟩:=aF (p,bb);obtain ⟨hp1,hp2,hp3⟩:=hr (p,bb) (List.mem_of_getElem? hy);have hyb:=hb (p,bb) (List.mem_of_getElem? hy);have hho:=jP (p,bb);have hget:(Cx l)[i]?=some [.iface T (.agg (Ao p))]:=by rw [Xp hy,hwe]
  rw [hwe] at hho;have hdr:=Av hy;rw [hdr] at hS hu;simp only at hp1 hp2 hp3 hyb hho hpc;obtain ⟨f',rfl⟩:∃g,f'=g+1:=⟨f'-1,by omega⟩
  have hsee:=Xz c (AJ (Do c.datas)) ho N (by omega) p x ob [] (by simp;omega) hx.wf hx.coh (by rw [hx.typ];exact hp1) hp2;replace hsee:=TM (a:=[.imm (AQ c (AJ (Do c.datas))),.imm (.agg (Ao p)),.raw (ptr ob)]) (b:=[]) hsee;have hst:=Uk p hm.coh hs;have hxs:=hx.see ho hp3;have hL:=JR p hm.coh hs;have hL2:=JR p hm.coh hst;rw [<- hL] at hsee;refine Ak rfl ?_;refine mi rfl (c:=[.iface T (.agg (Ao p))]) (λ_=>⟨by simp,by simpa using hget,by simp⟩) (by simp) ?_;refine Aj rfl ?_;refine nB fm rfl him (λ_=>hpc) (by simp) ?_;refine Aj rfl ?_;simp only [CQ] at hS;simp only [F3] at hu;by_cases h2:(Ar c.datas p m).1=2
  ·rw [show Mr [] (Ar c.datas p m) = .tup [.imm (.bool false),.ip 156 (.sl (AJ (Ar c.datas p m).2.1)::Bv (Ar c.datas p m).2.2) 0] from if_pos h2] at hsee;have hA:=GB ho p hm.wf hm.coh (by rw [hm.typ];exact hp1) hp2 h2;have hB:=GB ho p hxs.wf hxs.coh (by rw [hxs.typ];exact hp1) hp2 (by rw [<- hL2];exact h2);rw [<- hL2] at hB;have hmT:=hm.split ho hp1 hp2 hp3 h2;have hxT:=hxs.split ho hp1 hp2 hp3 (by rw [<- hL2];exact h2);rw [<- hL2] at hxT;have hlen:=Fo c.datas p m;have hsup:=λis=>Qe c (AJ (Do c.datas)) ho N (by omega) (EG c.datas p x) ob (Ar c.datas p m).2.1 (Ar c.datas p m).2.2 is (by omega) hxs.wf hxs.coh hB.ok
   have hdl:∀is,F3 c.datas (A3 c.datas m (Ar c.datas p m).2.1 (Ar c.datas p m).2.2 is) ((p,bb)::l.drop (i+1))<f':=λis=>by have:=hA.less is;simp only [F3];omega
   have hrd:Je c.datas c.type ((p,bb)::l.drop (i+1)):=λy h=>hr y (by rw [<- hdr] at h;exact List.mem_of_mem_drop h);obtain ⟨ra,ra1,ra2⟩:=Fe ho c.type f' (N+1) _ _ (by omega) (hmT true) hrd (hdl true);obtain ⟨rb,rb1,rb2⟩:=Fe ho c.type f' (N+1) _ _ (by omega) (hmT false) hrd (hdl false);rw [if_pos h2,ra1,rb1] at hS;simp only [Vs,Option.some.injEq] at hS;have hll2:((p,bb)::l.drop (i+1)).length<=1000:=by rw [<- hdr,List.length_drop];omega
   have hbd:∀y∈(p,bb)::l.drop (i+1),y.2=0\/y.2=1:=λy h=>hb y (by rw [<- hdr] at h;exact List.mem_of_mem_drop h);have hYa:=ih f' (N+1) (by omega) _ _ _ ra (by omega) (hmT true) (hxT true) (hA.stl true _ hst) hrd hbd hll2 (hdl true) ra1;have hYb:=ih f' (N+1) (by omega) _ _ _ rb (by omega) (hmT false) (hxT false) (hA.stl false _ hst) hrd hbd hll2 (hdl false) rb1;have hsoon:=SK c (AJ (Do c.datas)) ho hn ra rb (λv hv=>Kd rfl (ra2 v hv)) (λv hv=>Kd rfl (rb2 v hv));rw [hS] at hsoon;rw [<- hdr,<- Ve] at hYa hYb;generalize (Ar c.datas p m).2.1=path at *;generalize (Ar c.datas p m).2.2=hd at *;obtain ⟨d1,d2,d3,d4⟩:=hd
   refine AC (fr:=[4]) [(2,1)] [(2,4)] rfl (by simp) hsee ⟨⟨rfl,rfl,rfl⟩,trivial⟩ rfl rfl rfl rfl ?_;refine Aj rfl ?_;refine Ah rfl λh=>?_;refine Ak rfl ?_;refine BX [(4,1)] [(3,5),(2,6)] [] (fr:=[5,6]) (nm:=[5,6,4]) rfl trivial (by simp) (hsup true) ⟨⟨rfl,rfl,rfl⟩,trivial⟩ rfl trivial rfl rfl rfl ?_;refine mg [] rfl (by simp;exact ⟨by omega,Vd l⟩) ?_;refine BX [(6,1)] [] [] (fr:=[]) (nm:=[6]) rfl trivial (by simp) hYa ⟨⟨rfl,rfl,rfl⟩,trivial⟩ rfl trivial rfl rfl rfl ?_;refine mg [] rfl (by simp;rfl) ?_;refine BX [(5,1)] [(3,8),(2,9)] [] (fr:=[8,9]) (nm:=[8,9,5]) rfl trivial (by simp) (hsup false) ⟨⟨rfl,rfl,rfl⟩,trivial⟩ rfl trivial rfl rfl rfl ?_
   refine mg [] rfl (by simp;exact ⟨by omega,Vd l⟩) ?_;refine BX [(9,1)] [] [] (fr:=[]) (nm:=[9]) rfl trivial (by simp) hYb ⟨⟨rfl,rfl,rfl⟩,trivial⟩ rfl trivial rfl rfl rfl ?_;refine mg [] rfl (by simp;rfl) ?_;refine Ag rfl hsoon ?_;refine Aj rfl ?_;exact Aa rfl rfl rfl
  ·rw [show Mr [] (Ar c.datas p m) = .imm (.tup [.bool (decide ((Ar c.datas p m).1=1)),.nilp]) from if_neg h2] at hsee;rw [if_neg h2] at hS;have hrg:=FK c.datas p m;have hul:=Hx c.datas m (l.drop (i+1));have hih:=ihl (i+1,f',EG c.datas p x) (by simp only;omega);simp only at hih;generalize (Ar c.datas p m).1=q at *;refine AC (fr:=[4]) [(2,1)] [(2,4)] rfl (by simp) hsee ⟨⟨rfl,rfl,rfl⟩,trivial⟩ rfl rfl rfl rfl ?_;refine Aj rfl ?_;refine At rfl λh=>?_;clear h;refine Ak rfl ?_;refine Ag rfl hho ?_;refine Aj rfl ?_;by_cases e:q=bb
   ·rw [if_pos e] at hS;refine Ab rfl (λh=>by exfalso;subst e;simp at h) (λh=>?_);refine Ak rfl ?_;refine AF 4 2 rfl ?_;exact Ad (hih ⟨by omega,by omega,hxs,hst,by omega,hS⟩) ⟨A0 (B2 (by omega) (by omega)),rfl,rfl,rfl,rfl,rfl,rfl,trivial⟩ ⟨rfl,rfl,trivial⟩ rfl
   ·rw [if_neg e] at hS;simp only [Option.some.injEq] at hS;subst hS;refine Ab rfl (λh=>?_) (λh=>by
     exfalso;have:¬(q=1↔bb=1):=λh=>by omega
     simp at h;exact this (by rw [h]))
    refine Ak rfl ?_;exact Aa rfl rfl rfl
 ·have hlt:¬i<l.length:=by simp at h;omega
  obtain ⟨f',rfl⟩:∃g,f'=g+1:=⟨f'-1,by omega⟩
  rw [List.drop_eq_nil_of_le (by omega)] at hS;simp only [CQ] at hS;have hS:AT c.datas 1000 x=some r:=by
   rw [<- aO ho 14 m x hx.hgt hm.wf hs 1000 (by omega)];exact hS
  have hle:=jE c ho N (by omega) 1000 x ob r hS hx.wf;refine Aw rfl ?_;refine Ak rfl ?_;refine AC (fr:=[]) [(2,1)] [] rfl (by simp) hle ⟨⟨rfl,rfl,rfl⟩,trivial⟩ rfl rfl rfl rfl ?_;refine Aj rfl ?_;exact Aa rfl rfl rfl
theorem PO (rows:List Ty) (k:Nat) {p:Ty} (h:rows[k]?=some p):Eo rows (k:Int)=(rows.take k).map (·,(0:Int))++[(p,1)]:=by
 simp only [Eo];rw [if_neg (by omega)];simp only [Int.toNat_natCast,h]
theorem Sy (rows:List Ty) {row:Int} (h:row<0):Eo rows row=rows.map (·,(0:Int)):=if_pos h
theorem Mc (c:Cse) (sz:List (List V)) (hl:c.rows.length<=5) (row:Int) (h1 : -1<=row) (h2:row<c.rows.length):Al Tryz.prog 68 [AQ c sz,.int .i64 row] (.sl (Cx (Eo c.rows row))):=by
 have hw1:=λk p h=>PO c.rows k (p:=p) h;have hw2:=λh=>Sy c.rows (row:=row) h;obtain ⟨ds,⟨c1,c2,c3,c4⟩,rows⟩:=c;simp only at *;refine Ae Ai Tryz.func68 (by decide +kernel) rfl [1,2,3,4] rfl rfl ?_;refine Aj rfl ?_;refine CZ (e:=197) (sz:=1) 5 1 (by decide) rfl ?_;refine An (λi:Nat=>[(14,.imm (.int .i64 i)),(13,.imm (.int .i64 rows.length)),(12,.imm (.sl (Bx rows))),(5,.own 1 (Cx ((rows.take i).map (·,(0:Int)))).length),(1,.imm (.int .i64 row))]) (λi=>[(1,some (.row 197 1 (Cx ((rows.take i).map (·,(0:Int))))))]) [2,3,4] (λi=>rows.length-i)
  (λi=>i<=rows.length/\(0<=row->(i:Int)<=row)) 0 ⟨Nat.zero_le _,λh=>h⟩ ⟨rfl,A0 (by simp),rfl,rfl,rfl,trivial⟩ ⟨rfl,trivial⟩ rfl λi hi ih=>?_
 obtain ⟨i1,i2⟩:=hi;refine Ak rfl ?_;refine Ab rfl (λh=>?_) (λh=>?_)
 ·simp at h;obtain ⟨p,hp⟩:=As h;have hw1:=hw1 i p hp;have et:∀n:Int,Cx ((rows.take i).map (·,(0:Int))++[(p,n)])=Cx ((rows.take i).map (·,(0:Int)))++[[LY (p,n)]]:=λn=>by rw [RT];rfl
  have e2:(rows.take (i+1)).map (·,(0:Int))=(rows.take i).map (·,(0:Int))++[(p,0)]:=by rw [Bh hp];simp
  have hll:(Cx ((rows.take i).map (·,(0:Int)))).length<=5:=by simp;omega
  refine Ak rfl ?_;refine mi rfl (c:=Ao p) (λ_=>⟨by simp,by simpa using A4 hp,by simp⟩) (by simp) ?_;obtain ⟨p1,p2,p3,p4⟩:=p;refine Aj rfl ?_;by_cases e:(i:Int)=row
  ·subst e;rw [hw1,et];generalize Cx ((rows.take i).map (·,(0:Int)))=l at *;refine Ah rfl λh=>?_;refine Ak rfl ?_;refine BE Ai rfl ⟨by simp,by simp [maxLen] at hll ⊢;omega,by simp at hll ⊢;omega,trivial⟩ ?_;refine Aj rfl ?_;refine Bw 3 rfl ?_;exact Aa rfl rfl rfl
  ·have hih:=ih (i+1) (by omega) ⟨by omega,λh=>by have:=i2 h;omega⟩;rw [e2,et] at hih;generalize Cx ((rows.take i).map (·,(0:Int)))=l at *;refine Ab rfl (λh=>by exfalso;simp at h;exact e h) (λh=>?_);refine Ak rfl ?_;refine BE Ai rfl ⟨by simp,by simp [maxLen] at hll ⊢;omega,by simp at hll ⊢;omega,trivial⟩ ?_;refine Aj rfl ?_;refine AF 1 3 rfl ?_;exact Ad hih ⟨A0 (B2 (by omega) (by omega)),rfl,rfl,by simp only [List.length_append];rfl,rfl,trivial⟩ ⟨rfl,trivial⟩ rfl
 ·simp at h;have hr:row<0:=by
   by_cases e:0<=row
   ·have:=i2 e;omega
   ·omega
  refine Aw rfl ?_;refine Bw 1 rfl ?_;refine Ak rfl ?_;rw [hw2 hr,List.take_of_length_le h];exact Aa rfl rfl rfl
def LM (r:Option Ty):V:=.tup [.agg (Ao (r.getD zT)),.int .i64 (if r.isSome then 0 else 5)]
theorem Rm (r:Option Ty) (hr:∀v,r=some v->Aq v<=1000000000000):Al Tryz.prog 66 [.agg (GC r)] (LM r):=by
 cases r with
 | none =>
  refine Ae Ai Tryz.func66 (by decide +kernel) rfl [1,2,3] rfl rfl ?_;refine Aj rfl ?_;refine Ah rfl λh=>?_;refine Ak rfl ?_;exact Aa rfl rfl rfl
 | some v =>
  have hc:=J5 v (hr v rfl);obtain ⟨v1,v2,v3,v4⟩:=v;refine Ae Ai Tryz.func66 (by decide +kernel) rfl [1,2,3] rfl rfl ?_;refine Aj rfl ?_;refine At rfl λh=>?_;refine Ak rfl ?_;refine Ag rfl hc ?_;refine Aj rfl ?_;exact Aa rfl rfl rfl
theorem RowsOk.of {c:Cse} (h:By c=true):RowsOk c:=by
 have h':=h;simp only [By,Bool.and_eq_true,decide_eq_true_eq] at h';obtain ⟨_,_,_,h1,h2⟩:=CN h;refine ⟨λp hp=>?_,h1,h'.2.2.2⟩;obtain ⟨a,b⟩:=h2 p hp;simp only [BJ,Bool.and_eq_true,decide_eq_true_eq] at a;exact ⟨b,a.2.1,a.1⟩
theorem MOk.of {c:Cse} (h:By c=true):MOk c.datas c.type 0 (Ay c.type):=by
 exact ⟨Vg (CN h).2.2.1 (OkW.typ h),TS _ _,rfl,by simp [JG,Ay,GD]⟩
theorem eV (rows:List Ty) (row:Int):∀y∈Eo rows row,y.2=0\/y.2=1:=by
 intro y hy;unfold Eo at hy
 split at hy
 ·obtain ⟨p,_,rfl⟩:=List.mem_map.1 hy;exact .inl rfl
 ·rcases List.mem_append.1 hy with hy | hy
  ·obtain ⟨p,_,rfl⟩:=List.mem_map.1 hy;exact .inl rfl
  ·split at hy
   ·rw [List.mem_singleton.1 hy];exact .inr rfl
   ·cases hy
theorem eU {c:Cse} (h:RowsOk c) (row:Int):(Eo c.rows row).length<=1000:=by
 have:=h.len;unfold Eo
 split
 ·simp;omega
 ·split <;> simp <;> omega
theorem NI (c:Cse) (h:By c=true) (N:Nat) (hN:N<=999000) (m x:Mi) (hm:MOk c.datas c.type N m) (hx:MOk c.datas c.type N x) (hs:stl c.datas m x) (row:Int) :
  Bt Tryz.prog 67 [.imm (AQ c (AJ (Do c.datas))),.hv 1 0,.imm (.sl (Cx (Eo c.rows row)))] [(1,some (.hp (GF x)))] (.ret (.imm (.agg (GC (EW c m row)))) [])/\∀v,EW c m row=some v->Oo c.datas c.type v:=by
 have ho:=OkW.of h;have hr:=RowsOk.of h;obtain ⟨w1,w2⟩:=Ud hr row;obtain ⟨v1,v2⟩:=IX ho hN hm w1 w2;have hu:=Hx c.datas m (Eo c.rows row);rw [show FZ c.datas m (Eo c.rows row)=EW c m row from rfl] at v1 v2;exact ⟨SS c ho (CN h).2.2.1 60 60 N (Nat.le_refl _) m x _ _ (by omega) hm hx hs w1 (eV _ _) (eU hr row) (by omega) v1,v2⟩
theorem RN (c:Cse):Al Tryz.prog 18 [.agg (dCse c)] (bif By c then LM (EW c (Ay c.type) (-1)) else .tup [.agg (Ao zT),.int .i64 2]):=by
 have hW:=EB c;have hF:=Gt (AQ c (AJ (Do c.datas))) c.type;cases hb:By c with
 | false =>
  rw [hb] at hW;obtain ⟨ds,⟨c1,c2,c3,c4⟩,rows⟩:=c;refine Ae Ai Tryz.func18 (by decide +kernel) rfl [1,2,3,4] rfl rfl ?_;refine Aj rfl ?_;refine Ag rfl hW ?_;refine Aj rfl ?_;refine Ah rfl λh=>?_;refine Ak rfl ?_;exact Aa rfl rfl rfl
 | true =>
  rw [hb] at hW;have hU:=Mc c (AJ (Do c.datas)) (RowsOk.of hb).len (-1) (by omega) (by omega);obtain ⟨hL1,hL2⟩:=NI c hb 0 (by omega) _ _ (MOk.of hb) (MOk.of hb) (E1 _ _) (-1);have hFd:=Rm (EW c (Ay c.type) (-1)) λv hv=>(hL2 v hv).2.2;clear hL2;simp only [cond_true];have hfr:∃a b,LM (EW c (Ay c.type) (-1)) = .tup [.agg a,.int .i64 b]/\a.length=4:=⟨_,_,rfl,by simp⟩
  obtain ⟨fa,fb,hfe,hfl⟩:=hfr;rw [hfe] at hFd ⊢;generalize EW c (Ay c.type) (-1)=R at *;have hrf:=Hl R;obtain ⟨a1,a2,a3,a4,rfl⟩:∃a1 a2 a3 a4,fa=[a1,a2,a3,a4]:=by
   match fa,hfl with
   | [a1,a2,a3,a4],_=>exact ⟨_,_,_,_,rfl⟩
  obtain ⟨ds,⟨c1,c2,c3,c4⟩,rows⟩:=c;refine Ae Ai Tryz.func18 (by decide +kernel) rfl [1,2,3,4] rfl rfl ?_;refine Aj rfl ?_;refine Ag rfl hW ?_;refine Aj rfl ?_;refine At rfl λh=>?_;refine Ak rfl ?_;refine AC (fr:=[3]) [] [(2,3)] rfl (by simp) hF trivial rfl rfl rfl rfl ?_;refine Aj rfl ?_;refine Ag rfl hU ?_;refine Aj rfl ?_;refine AC (fr:=[]) [(3,1)] [] rfl (by simp) hL1 ⟨⟨rfl,rfl,rfl⟩,trivial⟩ rfl rfl rfl rfl ?_;refine Aj rfl ?_;refine Ag rfl hFd ?_;refine Aj rfl ?_;exact Aa rfl rfl rfl
theorem OO (r:Option Ty):∃a1 a2 a3 a4 b,LM r = .tup [.agg [a1,a2,a3,a4],.int .i64 b]:=by
 unfold LM;generalize r.getD zT=t;obtain ⟨a,b,c,d⟩:=t;exact ⟨_,_,_,_,_,rfl⟩
theorem L7 {c:Cse} {row:Int} (h:D5 c row=true):0<=row/\row<c.rows.length:=by
 simpa [D5] using h
theorem TX (c:Cse) (row:Int):Al Tryz.prog 19 [.agg (dCse c),.int .i64 row] (bif By c&&D5 c row then LM (EW c (Ay c.type) row) else .tup [.agg (Ao zT),.int .i64 2]):=by
 have hW:=EB c;have hF:=Gt (AQ c (AJ (Do c.datas))) c.type;have hT:=Qb c row;rw [show (decide (0<=row)&&decide (row<c.rows.length))=D5 c row from rfl] at hT;cases hb:By c with
 | false =>
  rw [hb] at hW;obtain ⟨ds,⟨c1,c2,c3,c4⟩,rows⟩:=c;refine Ae Ai Tryz.func19 (by decide +kernel) rfl [1,2,3,4] rfl rfl ?_;refine Aj rfl ?_;refine Ag rfl hW ?_;refine Aj rfl ?_;refine Af (v:=.bool true) rfl (λh=>by simp [Ap] at h) (by simp [Ap]) ?_;refine Aj rfl ?_;refine Ah rfl λh=>?_;refine Ak rfl ?_;exact Aa rfl rfl rfl
 | true =>
 rw [hb] at hW;cases ht:D5 c row with
 | false =>
  rw [ht] at hT;obtain ⟨ds,⟨c1,c2,c3,c4⟩,rows⟩:=c;refine Ae Ai Tryz.func19 (by decide +kernel) rfl [1,2,3,4] rfl rfl ?_;refine Aj rfl ?_;refine Ag rfl hW ?_;refine Aj rfl ?_;refine AE rfl hT ?_;refine Aj rfl ?_;refine Ah rfl λh=>?_;refine Ak rfl ?_;exact Aa rfl rfl rfl
 | true =>
  rw [ht] at hT;obtain ⟨r1,r2⟩:=L7 ht;have hU:=Mc c (AJ (Do c.datas)) (RowsOk.of hb).len row (by omega) r2;obtain ⟨hL1,hL2⟩:=NI c hb 0 (by omega) _ _ (MOk.of hb) (MOk.of hb) (E1 _ _) row;have hFd:=Rm (EW c (Ay c.type) row) λv hv=>(hL2 v hv).2.2;clear hL2;simp only [Bool.and_self,cond_true];obtain ⟨a1,a2,a3,a4,b,hfe⟩:=OO (EW c (Ay c.type) row);rw [hfe] at hFd ⊢;generalize EW c (Ay c.type) row=R at *;obtain ⟨ds,⟨c1,c2,c3,c4⟩,rows⟩:=c;refine Ae Ai Tryz.func19 (by decide +kernel) rfl [1,2,3,4] rfl rfl ?_;refine Aj rfl ?_;refine Ag rfl hW ?_;refine Aj rfl ?_;refine AE rfl hT ?_;refine Aj rfl ?_;refine At rfl λh=>?_;refine Ak rfl ?_
  refine AC (fr:=[3]) [] [(2,3)] rfl (by simp) hF trivial rfl rfl rfl rfl ?_;refine Aj rfl ?_;refine Ag rfl hU ?_;refine Aj rfl ?_;refine AC (fr:=[]) [(3,1)] [] rfl (by simp) hL1 ⟨⟨rfl,rfl,rfl⟩,trivial⟩ rfl rfl rfl rfl ?_;refine Aj rfl ?_;refine Ag rfl hFd ?_;refine Aj rfl ?_;exact Aa rfl rfl rfl
def WY (c:Cse) (a b:Int):Option Ty:=match c.rows[a.toNat]?,c.rows[b.toNat]? with
 | some p,some q=>Nh c p q
 | _,_=>none
theorem nO (c:Cse) (h:By c=true) (p q:Ty) (hp:p∈c.rows) (hq:q∈c.rows) :
  Bt Tryz.prog 67 [.imm (AQ c (AJ (Do c.datas))),.hv 1 0,.imm (.sl (Cx [(p,1),(q,1)]))] [(1,some (.hp (GF (Ay c.type))))] (.ret (.imm (.agg (GC (Nh c p q)))) [])/\∀v,Nh c p q=some v->Oo c.datas c.type v:=by
 have ho:=OkW.of h;have hr:=RowsOk.of h;have hm:=MOk.of h;have w1:Je c.datas c.type [(p,1),(q,1)]:=λx hx=>by
  rcases List.mem_cons.1 hx with rfl | hx
  ·exact hr.pat p hp
  ·rw [List.mem_singleton.1 hx];exact hr.pat q hq
 have w2:Gy [(p,1),(q,1)]<60:=by
  have:=(hr.pat p hp).2.2;have:=(hr.pat q hq).2.2;simp [Gy];omega
 obtain ⟨v1,v2⟩:=IX ho (by omega) hm w1 w2;have hu:=Hx c.datas (Ay c.type) [(p,1),(q,1)];rw [show FZ c.datas (Ay c.type) [(p,1),(q,1)]=Nh c p q from rfl] at v1 v2;have hb:∀y∈[(p,(1:Int)),(q,1)],y.2=0\/y.2=1:=λy hy=>by
  rcases List.mem_cons.1 hy with rfl | hy
  ·exact .inr rfl
  ·rw [List.mem_singleton.1 hy];exact .inr rfl
 have hS:=SS c ho (CN h).2.2.1 60 60 0 (Nat.le_refl _) (Ay c.type) (Ay c.type) [(p,1),(q,1)] (Nh c p q) (by omega) hm hm (E1 _ _) w1 hb (by simp) (by omega);exact ⟨hS v1,v2⟩
theorem aC (c:Cse) (a b:Int):Al Tryz.prog 33 [.agg (dCse c),.int .i64 a,.int .i64 b] (bif By c&&D5 c a&&D5 c b then LM (WY c a b) else .tup [.agg (Ao zT),.int .i64 2]):=by
 have hW:=EB c;have hF:=Gt (AQ c (AJ (Do c.datas))) c.type;have hT:=λrow=>Qb c row;have hT:∀row,Al Tryz.prog 57 [.agg (dCse c),.int .i64 row] (.bool (D5 c row)):=λrow=>hT row;cases hb:By c with
 | false =>
  rw [hb] at hW;obtain ⟨ds,⟨c1,c2,c3,c4⟩,rows⟩:=c;refine Ae Ai Tryz.func33 (by decide +kernel) rfl [1,2,3,4] rfl rfl ?_;refine Aj rfl ?_;refine Ag rfl hW ?_;refine Aj rfl ?_;refine Af (v:=.bool true) rfl (λh=>by simp [Ap] at h) (by simp [Ap]) ?_;refine Aj rfl ?_;refine Af (v:=.bool true) rfl (λh=>by simp [Ap] at h) (by simp [Ap]) ?_;refine Aj rfl ?_;refine Ah rfl λh=>?_;refine Ak rfl ?_;exact Aa rfl rfl rfl
 | true =>
 rw [hb] at hW;have ha:=hT a;have hbb:=hT b;cases hta:D5 c a with
 | false =>
  rw [hta] at ha;obtain ⟨ds,⟨c1,c2,c3,c4⟩,rows⟩:=c;refine Ae Ai Tryz.func33 (by decide +kernel) rfl [1,2,3,4] rfl rfl ?_;refine Aj rfl ?_;refine Ag rfl hW ?_;refine Aj rfl ?_;refine AE rfl ha ?_;refine Aj rfl ?_;refine Af (v:=.bool true) rfl (λh=>by simp [Ap] at h) (by simp [Ap]) ?_;refine Aj rfl ?_;refine Ah rfl λh=>?_;refine Ak rfl ?_;exact Aa rfl rfl rfl
 | true =>
 rw [hta] at ha;cases htb:D5 c b with
 | false =>
  rw [htb] at hbb;obtain ⟨ds,⟨c1,c2,c3,c4⟩,rows⟩:=c;refine Ae Ai Tryz.func33 (by decide +kernel) rfl [1,2,3,4] rfl rfl ?_;refine Aj rfl ?_;refine Ag rfl hW ?_;refine Aj rfl ?_;refine AE rfl ha ?_;refine Aj rfl ?_;refine AE rfl hbb ?_;refine Aj rfl ?_;refine Ah rfl λh=>?_;refine Ak rfl ?_;exact Aa rfl rfl rfl
 | true =>
  rw [htb] at hbb;obtain ⟨r1,r2⟩:=L7 hta;obtain ⟨s1,s2⟩:=L7 htb;obtain ⟨p,hp⟩:=As (l:=c.rows) (i:=a.toNat) (by omega);obtain ⟨q,hq⟩:=As (l:=c.rows) (i:=b.toNat) (by omega);have er:WY c a b=Nh c p q:=by simp only [WY,hp,hq]
  rw [er];obtain ⟨hL1,hL2⟩:=nO c hb p q (List.mem_of_getElem? hp) (List.mem_of_getElem? hq);have hFd:=Rm (Nh c p q) λv hv=>(hL2 v hv).2.2;clear hL2 er;simp only [Bool.and_self,cond_true];obtain ⟨a1,a2,a3,a4,b0,hfe⟩:=OO (Nh c p q);rw [hfe] at hFd ⊢;generalize Nh c p q=R at *;obtain ⟨ds,⟨c1,c2,c3,c4⟩,rows⟩:=c;simp only at hp hq;obtain ⟨p1,p2,p3,p4⟩:=p;obtain ⟨q1,q2,q3,q4⟩:=q;refine Ae Ai Tryz.func33 (by decide +kernel) rfl [1,2,3,4] rfl rfl ?_;refine Aj rfl ?_;refine Ag rfl hW ?_;refine Aj rfl ?_;refine AE rfl ha ?_;refine Aj rfl ?_;refine AE rfl hbb ?_;refine Aj rfl ?_;refine At rfl λh=>?_;refine Ak rfl ?_
  refine BX [] [(2,3)] [] (fr:=[3]) (nm:=[3]) rfl trivial (by simp) hF trivial rfl trivial rfl rfl rfl ?_;refine Aj rfl ?_;refine mi rfl (c:=Ao (.mk p1 p2 p3 p4)) (λ_=>⟨r1,by simpa using A4 hp,by simp⟩) (by simp) ?_;refine Aj rfl ?_;refine mi rfl (c:=Ao (.mk q1 q2 q3 q4)) (λ_=>⟨s1,by simpa using A4 hq,by simp⟩) (by simp) ?_;refine Aj rfl ?_;refine BX [(3,1)] [] [] (fr:=[]) (nm:=[3]) rfl trivial (by simp) hL1 ⟨⟨rfl,rfl,rfl⟩,trivial⟩ rfl trivial rfl rfl rfl ?_;refine Aj rfl ?_;refine Ag rfl hFd ?_;refine mg [] rfl (by simp;rfl) ?_;exact Aa rfl rfl rfl
theorem YU (c:Cse):Al Tryz.prog 20 [.agg (dCse c)] (bif By c then .tup [.sl (AJ (EZ c c.rows.length)),.int .i64 0] else .tup [.sl [],.int .i64 2]):=by
 have hW:=EB c;have hF:=Gt (AQ c (AJ (Do c.datas))) c.type;cases hb:By c with
 | false =>
  rw [hb] at hW;obtain ⟨ds,⟨c1,c2,c3,c4⟩,rows⟩:=c;refine Ae Ai Tryz.func20 (by decide +kernel) rfl [1,2,3,4] rfl rfl ?_;refine Aj rfl ?_;refine Ag rfl hW ?_;refine Aj rfl ?_;refine Ah rfl λh=>?_;refine Ak rfl ?_;exact Aa rfl rfl rfl
 | true =>
  rw [hb] at hW;have hl:=(RowsOk.of hb).len;have hU:=λrow h1 h2=>Mc c (AJ (Do c.datas)) (RowsOk.of hb).len row h1 h2;have hL:=λrow=>(NI c hb 0 (by omega) _ _ (MOk.of hb) (MOk.of hb) (E1 _ _) row).1;have hst:∀i,EZ c (i+1)=EZ c i++(if (EW c (Ay c.type) i).isSome then [] else [(i:Int)]):=λi=>rfl;have hul:=Oq c;have h0:EZ c 0=[]:=rfl;simp only [cond_true];generalize EZ c=U at *;generalize EW c (Ay c.type)=L at *;obtain ⟨ds,⟨c1,c2,c3,c4⟩,rows⟩:=c;simp only at hl hst hU ⊢;refine Ae Ai Tryz.func20 (by decide +kernel) rfl [1,2,3,4,5,6] rfl rfl ?_;refine Aj rfl ?_;refine Ag rfl hW ?_;refine Aj rfl ?_;refine At rfl λh=>?_;refine Ak rfl ?_;refine CZ (e:=3) (sz:=1) 6 2 (by decide) rfl ?_
  have er:∀a b,AJ (a++b)=AJ a++AJ b:=λa b=>by simp [AJ]
  refine An (λi:Nat=>[(19,.imm (.int .i64 i)),(18,.imm (.int .i64 rows.length)),(6,.own 2 (AJ (U i)).length),(4,.imm (AQ ⟨ds,.mk c1 c2 c3 c4,rows⟩ (AJ (Do ds)))),(1,.ref 1 0)]) (λi=>[(1,some (.immb 29 6 (dCse ⟨ds,.mk c1 c2 c3 c4,rows⟩))),(2,some (.row 3 1 (AJ (U i))))]) [3,4,5,6] (λi=>rows.length-i)
   (λi=>i<=rows.length) 0 (Nat.zero_le _) ⟨rfl,A0 (by simp),by rw [h0];rfl,rfl,rfl,trivial⟩ ⟨rfl,by rw [h0];rfl,trivial⟩ rfl λi hi ih=>?_
  refine Ak rfl ?_;refine Ab rfl (λh=>?_) (λh=>?_)
  ·simp at h;have hUi:=hU i (by omega) (by omega);have hLi:=hL i;have hih:=ih (i+1) (by omega) (by omega);rw [hst,er] at hih;have hll:(AJ (U i)).length<=5:=by have:=hul i;simp;omega
   generalize AJ (U i)=l at *;refine Ak rfl ?_;refine AC (fr:=[3]) [] [(2,3)] rfl (by simp) hF trivial rfl rfl rfl rfl ?_;refine Aj rfl ?_;refine Ag rfl hUi ?_;refine Aj rfl ?_;refine AC (fr:=[]) [(3,1)] [] rfl (by simp) hLi ⟨⟨rfl,rfl,rfl⟩,trivial⟩ rfl rfl rfl rfl ?_;cases hLv:L i with
   | none =>
    rw [hLv] at hih;simp only [Option.isSome_none,Bool.false_eq_true,if_false] at hih;refine Aj rfl ?_;refine Ah rfl λh=>?_;refine Ak rfl ?_;refine BE Ai rfl ⟨by simp,by simp [maxLen] at hll ⊢;omega,by simp at hll ⊢;omega,trivial⟩ ?_;refine Aj rfl ?_;refine AF 2 4 rfl ?_;exact Ad hih ⟨A0 (B2 (by omega) (by omega)),rfl,by simp only [List.length_append];rfl,rfl,rfl,trivial⟩ ⟨rfl,rfl,trivial⟩ rfl
   | some v =>
    rw [hLv] at hih;simp only [Option.isSome_some,if_true,show AJ []=[] from rfl,List.append_nil] at hih;obtain ⟨v1,v2,v3,v4⟩:=v;refine Aj rfl ?_;refine At rfl λh=>?_;refine Ak rfl ?_;exact Ad hih ⟨A0 (B2 (by omega) (by omega)),rfl,rfl,rfl,rfl,trivial⟩ ⟨rfl,rfl,trivial⟩ rfl
  ·simp at h;refine Aw rfl ?_;refine Bw 2 rfl ?_;refine Ak rfl ?_;rw [show i=rows.length by omega];exact Aa rfl rfl rfl
theorem grtW.of {c:Cse} (h:By c=true):grtW c.datas:=by
 simp only [By,J8,Bool.and_eq_true] at h;obtain ⟨h1,_⟩:=JW h.1.1.1.1;intro d hd k hk;simp only [HQ,Bool.and_eq_true,List.all_eq_true] at h1;have hd:=h1.1.2 d hd;simp only [Ft,Bool.and_eq_true,List.all_eq_true] at hd;have hk:=hd.2 k hk;simp only [K8,Bool.and_eq_true] at hk;exact hk.1.1
theorem NR (v:Ty):∀(rows:List Ty) (i:Nat),Dw v i rows = -1↔∀p∈rows,(Bo p v).2=false
 | [],i=>by simp [Dw]
 | p::r,i=>by
  simp only [Dw,List.mem_cons,forall_eq_or_imp];cases hm:(Bo p v).2 with
  | true=>simp
  | false=>simp only [cond_false,true_and];exact NR v r (i+1)
theorem Rn (v:Ty):∀(rows:List Ty) (i:Nat),Dw v i rows = -1\/(i:Int)<=Dw v i rows
 | [],i=>.inl rfl
 | p::r,i=>by
  simp only [Dw];cases (Bo p v).2 with
  | true=>right;simp
  | false =>
   simp only [cond_false];rcases Rn v r (i+1) with h | h
   ·exact .inl h
   ·right;omega
theorem Ro (v:Ty):∀(rows:List Ty) (i k:Nat) (p:Ty),rows[k]?=some p->(Dw v i rows=((i+k:Nat):Int)↔(∀q∈rows.take k,(Bo q v).2=false)/\(Bo p v).2=true)
 | [],i,k,p,h=>by simp at h
 | x::r,i,0,p,h=>by
  simp at h;subst h;have hg:=Rn v r (i+1);simp only [Dw,List.take_zero,List.not_mem_nil,false_implies,implies_true,true_and];cases hm:(Bo x v).2 with
  | true=>simp
  | false =>
   simp only [cond_false,Bool.false_eq_true,iff_false];intro e;rcases hg with h | h <;> omega
 | x::r,i,k+1,p,h=>by
  have ih:=Ro v r (i+1) k p (by simpa using h);simp only [Dw,List.take_succ_cons,List.mem_cons,forall_eq_or_imp];cases hm:(Bo x v).2 with
  | true =>
   simp only [cond_true,Bool.true_eq_false,false_and,iff_false];omega
  | false =>
   simp only [cond_false,true_and];rw [<- ih];rw [show i+(k+1)=i+1+k by omega]
theorem Y7 (v:Ty) (rows:List Ty) (row:Int) (h1 : -1<=row) (h2:row<rows.length):Om (Eo rows row) v↔Dw v 0 rows=row:=by
 have hmap:∀l:List Ty,Om (l.map (·,(0:Int))) v↔∀p∈l,(Bo p v).2=false:=λl=>by
  simp only [Om,List.mem_map,forall_exists_index,and_imp,forall_apply_eq_imp_iff₂];constructor
  ·intro h p hp;have:=h p hp;cases e:(Bo p v).2 with
   | false=>rfl
   | true=>have:=this.1 e;omega
  ·intro h p hp;rw [h p hp];simp
 by_cases h0:row<0
 ·rw [Sy rows h0,hmap,show row = -1 by omega,NR]
 ·obtain ⟨k,rfl⟩:∃k:Nat,row=k:=⟨row.toNat,by omega⟩
  obtain ⟨p,hp⟩:=As (l:=rows) (i:=k) (by omega);rw [PO rows k hp];have:=Ro v rows 0 k p hp;rw [Nat.zero_add] at this;rw [this,<- hmap];constructor
  ·intro h;exact ⟨λx hx=>h x (List.mem_append_left _ hx),(h (p,1) (by simp)).2 rfl⟩
  ·rintro ⟨a,b⟩ x hx;rcases List.mem_append.1 hx with hx | hx
   ·exact a x hx
   ·rw [List.mem_singleton.1 hx];simp [b]
end Go.Hk
namespace Go.Hk
section
variable {P:Program} {n:Nat} {F:List Nat} {Q:DQ} {tt:TT} {env env':Env} {st st':St} {ids ids':List Nat} {k todo todo':List DI} {I:Imm} {μ:Mu} {w w':World} {a:Act}
theorem Ij:∀{ds:List D} {xs:List V},FA ds=some xs->ds.length=xs.length
 | [],xs,h=>by cases h;rfl
 | d::r,xs,h=>by
  unfold FA at h
  split at h
  ·rename_i e;cases e
  ·rename_i x r' e;cases e
   split at h
   ·rename_i ys hy;cases h;simp [Ij hy]
   ·cases h
  ·rename_i r' e;cases e
   split at h
   ·rename_i ys hy;cases h;simp [Ij hy]
   ·cases h
  ·cases h
theorem Rv (k:Nat) {t:TypeId} {sz:Nat} {ds:List D} (xs:List V) (hk:lk st k=some (some (.cells t sz ds))) (hcl:FA ds=some xs) (h:DGo P n F Q todo env ((k,some (.immb t sz xs))::st) ids):DGo P n F Q todo env st ids:=by
 refine Dl λI μ a w hc=>?_;obtain ⟨p1,p2⟩:=hc.toStRep.retell (st1:=(k,some (.immb t sz xs))::st) (λi bb hlb=>by
  rcases A8.1 hlb with ⟨rfl,rfl⟩ | ⟨_,h2⟩
  ·refine ⟨_,hk,λgb hb=>?_⟩;obtain ⟨hs,b,us,e1,e2,e3,e4⟩:=hb;exact ⟨by rw [<- Ij hcl,hs],b,us,e1,e2,F9 hcl e3,e4⟩
  ·exact ⟨bb,h2,λ_ h=>h⟩)
 exact ⟨I,μ,env,_,ids,p1,hc.env,p2,.refl _ _,h⟩
end
end Go.Hk
namespace Go.Hk
open Go.Proofs
def ME (row:Int):List V:=[.int .i64 row,.sl [],.sl [],.sl []]
@[simp] theorem leafV_length (row:Int):(ME row).length=4:=rfl
theorem Yv (row:Int):Al Tryz.prog 112 [.agg (ME row),.int .i64 400,.int .i64 100] (.int .i64 399):=by
 refine Ae Ai Tryz.func112 (by decide +kernel) rfl [1,2,3] rfl rfl ?_;refine Aj rfl ?_;refine At rfl λh=>?_;refine Ak rfl ?_;refine An (λ_:Unit=>[(20,.imm (.int .i64 0)),(19,.imm (.int .i64 0)),(1,.imm (.int .i64 399))]) (λ_=>[]) [2,3] (λ_=>0) (λ_=>True) () trivial ⟨rfl,rfl,A0 rfl,trivial⟩ trivial rfl λ_ _ _=>?_;refine Ak rfl ?_;refine At rfl λh=>?_;refine Aw rfl ?_;refine Ak rfl ?_;exact Aa rfl rfl rfl
theorem X6 (c:Cse) (sz:List (List V)) (row:Int) (m:Mi):Bt Tryz.prog 113 [.imm (AQ c sz),.imm (.agg (ME row)),.hv 1 0] [(1,some (.hp (GF m)))] (.ret (.imm (.bool (decide (-1<=row)&&decide (row<c.rows.length)))) []):=by
 obtain ⟨ds,⟨c1,c2,c3,c4⟩,rows⟩:=c;refine Ae Ai Tryz.func113 (by decide +kernel) rfl [2,3,4,5] rfl rfl ?_;refine Ak rfl ?_;refine Ab rfl (λh=>?_) (λh=>by exfalso;simp at h;exact h (by decide));refine md [] rfl (by simp;rfl) ?_;refine Aa rfl rfl (congrArg _ ?_);simp
theorem Uy (c:Cse) (hb:By c=true) (row:Int) (h1 : -1<=row) (h2:row<c.rows.length):Al Tryz.prog 60 [.agg (dCse c),.agg (ME row)] (.tup [AQ c (AJ (Do c.datas)),.int .i64 0]):=by
 have hW:=EB c;rw [hb] at hW;have hF:=Gt (AQ c (AJ (Do c.datas))) c.type;have hH:=Yv row;have hR:=X6 c (AJ (Do c.datas)) row (Ay c.type);rw [show (decide (-1<=row)&&decide (row<c.rows.length))=true by simp [h1,h2]] at hR;obtain ⟨ds,⟨c1,c2,c3,c4⟩,rows⟩:=c;refine Ae Ai Tryz.func60 (by decide +kernel) rfl [1,2,3,4] rfl rfl ?_;refine Aj rfl ?_;refine Ag rfl hW ?_;refine Aj rfl ?_;refine AE rfl hH ?_;refine Aj rfl ?_;refine BX [] [(2,3)] [] (fr:=[3]) (nm:=[3]) rfl rfl (by simp [Ap]) hF trivial rfl trivial rfl rfl rfl ?_;refine Aj rfl ?_;refine BX [(3,1)] [] [] (fr:=[]) (nm:=[3]) rfl rfl (by simp [Ap]) hR ⟨⟨rfl,rfl,rfl⟩,trivial⟩ rfl trivial rfl rfl rfl ?_;refine mg [] rfl (by simp;rfl) ?_
 refine At rfl λh=>?_;refine Ak rfl ?_;exact Aa rfl rfl rfl
def Ev (c:Cse) (row:Int):Nat->Option Ty
 | 0=>none
 | k+1=>if (k:Int)-1=row then Ev c row k else Gl c.datas (Ev c row k) (EW c (Ay c.type) ((k:Int)-1))
theorem Mm {c:Cse} (h:By c=true) (row:Int):∀k v,Ev c row k=some v->Oo c.datas c.type v
 | 0,v,hv=>by cases hv
 | k+1,v,hv=>by
  simp only [Ev] at hv
  split at hv
  ·exact Mm h row k v hv
  ·rcases Zd (ds:=c.datas) (Ev c row k) (EW c (Ay c.type) ((k:Int)-1)) with e | e
   ·exact Mm h row k v (by rw [<- e];exact hv)
   ·exact (NI c h 0 (by omega) _ _ (MOk.of h) (MOk.of h) (E1 _ _) _).2 v (by rw [<- e];exact hv)
theorem Xb (c:Cse) (hb:By c=true) (row:Int):Bt Tryz.prog 79 [.imm (AQ c (AJ (Do c.datas))),.imm (.agg (ME row)),.hv 1 0] [(1,some (.hp (GF (Ay c.type))))] (.ret (.imm (.agg (GC (Ev c row (c.rows.length+1))))) []):=by
 have hl:=(RowsOk.of hb).len;have hU:=λrow h1 h2=>Mc c (AJ (Do c.datas)) (RowsOk.of hb).len row h1 h2;have hL:=λrow=>(NI c hb 0 (by omega) _ _ (MOk.of hb) (MOk.of hb) (E1 _ _) row).1;have hLv:=λrow=>(NI c hb 0 (by omega) _ _ (MOk.of hb) (MOk.of hb) (E1 _ _) row).2;have hcp:=λx=>PF c.datas 0 (by omega) (Ay c.type) x (MOk.of hb).wf;have hsv:=Mm hb row;have hso:=λa b ha hbb=>SK c (AJ (Do c.datas)) (OkW.of hb) (CN hb).2.2.1 a b ha hbb;have hok:∀v,Oo c.datas c.type v->Th c v:=λv h=>Kd rfl h;have hst:∀k,Ev c row (k+1)=if (k:Int)-1=row then Ev c row k else Gl c.datas (Ev c row k) (EW c (Ay c.type) ((k:Int)-1)):=λk=>rfl
 have h0:Ev c row 0=none:=rfl;generalize Ev c row=S at *;generalize Ay c.type=fr at *;generalize EW c fr=L at *;obtain ⟨ds,⟨c1,c2,c3,c4⟩,rows⟩:=c;simp only at hl hU hst hsv hLv hso ⊢;refine Ae Ai Tryz.func79 (by decide +kernel) rfl [2,3,4,5,6,7,8,9,10] rfl rfl ?_;refine IJ 1 2 (λob:Nat=>[ptr ob]) (λob=>Bk fr ob) rfl (λvs I w bs h=>let ⟨ob,F,e1,e2,e3⟩:=h;⟨ob,e1,F,e2,e3⟩) λob=>?_;refine Ak rfl ?_;refine Ab rfl (λh=>?_) (λh=>by exfalso;simp at h);refine Ak rfl ?_;refine Rv 5 [.int .i64 0,.int .i64 0,.str [],.sl [],.bool false] rfl rfl ?_
 refine An (λk:Nat=>[(8,.imm (.int .i64 ((k:Int)-1))),(7,.ref 5 0),(6,.ref 4 0),(4,.ref 3 0),(2,.raw (ptr ob)),(0,.imm (AQ ⟨ds,.mk c1 c2 c3 c4,rows⟩ (AJ (Do ds))))])
  (λk=>[(5,some (.immb 126 5 (GC (S k)))),(3,some (.immb 36 4 (ME row))),(4,some (.cells 126 5 [.imm (.int .i64 0),.imm (.int .i64 0),.imm (.str []),.nils,.imm (.bool false)])),(2,some (.hp (Bk fr ob)))]) [6,7,8,9,10] (λk=>rows.length+1-k)
  (λk=>k<=rows.length+1) 0 (Nat.zero_le _) ⟨A0 (by simp),rfl,rfl,rfl,rfl,rfl,trivial⟩ ⟨by rw [h0];rfl,rfl,rfl,rfl,trivial⟩ rfl λk hk ih=>?_
 refine Ak rfl ?_;refine Ab rfl (λh=>?_) (λh=>?_)
 ·have hlt:(k:Int)-1<rows.length:=by simpa using h
  have hih:=ih (k+1) (by omega) (by omega);have hrf:=Hl (S k);refine Ak rfl ?_;by_cases e:(k:Int)-1=row
  ·refine Ab rfl (λh=>by exfalso;simp [e] at h) (λh=>?_);refine Ak rfl ?_;rw [hst k,if_pos e] at hih;exact Ad hih ⟨A0 (by rw [B2 (by omega) (by omega)];omega),rfl,rfl,rfl,rfl,rfl,trivial⟩ ⟨rfl,rfl,rfl,rfl,trivial⟩ rfl
  ·refine Ab rfl (λh=>?_) (λh=>by exfalso;simp at h;exact e h);have hUi:=hU ((k:Int)-1) (by omega) hlt;have hLi:=hL ((k:Int)-1);have hsoi:=hso (S k) (L ((k:Int)-1)) (λv hv=>hok v (hsv k v hv)) (λv hv=>hok v (hLv _ v hv));rw [hst k,if_neg e] at hih;generalize L ((k:Int)-1)=Lk at *;generalize S k=Sk at *;generalize Gl ds Sk Lk=R at *;refine Ak rfl ?_;refine BX [(2,1)] [(3,6),(2,7)] [] (fr:=[6,7]) (nm:=[6,7,2]) rfl trivial (by simp) (hcp ob) ⟨⟨rfl,rfl,rfl⟩,trivial⟩ rfl trivial rfl rfl rfl ?_;refine Aj rfl ?_;refine Ag rfl hUi ?_;refine Aj rfl ?_;refine BX [(7,1)] [] [] (fr:=[]) (nm:=[7]) rfl trivial (by simp) hLi ⟨⟨rfl,rfl,rfl⟩,trivial⟩ rfl trivial rfl rfl rfl ?_;refine Aj rfl ?_
   refine Ag rfl hsoi ?_;refine mg [] rfl (by simp;rfl) ?_;refine AF 6 2 rfl ?_;exact Ad hih ⟨A0 (by rw [B2 (by omega) (by omega)];omega),rfl,rfl,rfl,rfl,rfl,trivial⟩ ⟨rfl,rfl,rfl,rfl,trivial⟩ rfl
 ·have hlt:¬(k:Int)-1<rows.length:=by simpa using h
  have hrf:=Hl (S k);refine Aw rfl ?_;rw [show rows.length+1=k by omega];refine Ak rfl ?_;exact Aa rfl rfl rfl
theorem Pf (c:Cse) (hb:By c=true) (row:Int) (h1 : -1<=row) (h2:row<c.rows.length):Al Tryz.prog 34 [.agg (dCse c),.agg (ME row)] (.tup [.agg (Ao ((Ev c row (c.rows.length+1)).getD zT)),.int .i64 (if (Ev c row (c.rows.length+1)).isSome then 7 else 0)]):=by
 have hP:=Uy c hb row h1 h2;have hF:=Gt (AQ c (AJ (Do c.datas))) c.type;have hA:=Xb c hb row;have hv:=Mm hb row (c.rows.length+1);generalize Ev c row (c.rows.length+1)=R at *;cases R with
 | none =>
  obtain ⟨ds,⟨c1,c2,c3,c4⟩,rows⟩:=c;refine Ae Ai Tryz.func34 (by decide +kernel) rfl [1,2,3,4,5,6] rfl rfl ?_;refine Aj rfl ?_;refine Ag rfl hP ?_;refine Aj rfl ?_;refine At rfl λh=>?_;refine Ak rfl ?_;refine BX [] [(2,4)] [] (fr:=[4]) (nm:=[4]) rfl trivial (by simp) hF trivial rfl trivial rfl rfl rfl ?_;refine Aj rfl ?_;refine BX [(4,1)] [] [] (fr:=[]) (nm:=[4]) rfl trivial (by simp) hA ⟨⟨rfl,rfl,rfl⟩,trivial⟩ rfl trivial rfl rfl rfl ?_;refine mg [] rfl (by simp;rfl) ?_;refine Ah rfl λh=>?_;refine Ak rfl ?_;exact Aa rfl rfl rfl
 | some v =>
  have hc:=J5 v (hv v rfl).2.2;obtain ⟨v1,v2,v3,v4⟩:=v;obtain ⟨ds,⟨c1,c2,c3,c4⟩,rows⟩:=c;refine Ae Ai Tryz.func34 (by decide +kernel) rfl [1,2,3,4,5,6] rfl rfl ?_;refine Aj rfl ?_;refine Ag rfl hP ?_;refine Aj rfl ?_;refine At rfl λh=>?_;refine Ak rfl ?_;refine BX [] [(2,4)] [] (fr:=[4]) (nm:=[4]) rfl trivial (by simp) hF trivial rfl trivial rfl rfl rfl ?_;refine Aj rfl ?_;refine BX [(4,1)] [] [] (fr:=[]) (nm:=[4]) rfl trivial (by simp) hA ⟨⟨rfl,rfl,rfl⟩,trivial⟩ rfl trivial rfl rfl rfl ?_;refine mg [] rfl (by simp;rfl) ?_;refine At rfl λh=>?_;refine Ak rfl ?_;refine Ag rfl hc ?_;refine Aj rfl ?_;exact Aa rfl rfl rfl
def Mt:Str:=[84,114,101,101]
def CD:Str:=[76,101,97,102]
def JT:Str:=[78,111,100,101]
def Im:Str:=[84,119,111]
def Ms:Str:=[86,111,105,100]
def pE:Str:=[79,112,116]
def Zj:Str:=[78,111,110,101]
def oC:Str:=[83,111,109,101]
def Ps (s:Str):Ty:=.mk 8 0 s []
def Sp (s:Str) (l:List Ty):Ty:=.mk 6 0 s l
def E4 (s:Str) (l:List Ty):Ty:=.mk 4 0 s l
def Nq:Ty:=.mk 1 0 [] []
def bY (s:Str):Ty:=.mk 2 0 s []
def jM (n:Int):Ty:=.mk 3 n [] []
def Ik (n:Int):Ty:=.mk 4 n [] []
def dH (n:Int):Ty:=.mk 1 n [] []
def GA (n:Int):Ty:=.mk 2 n [] []
def kS:Ty:=.mk 2 0 [] []
def cA:Cse:=⟨[⟨Mt,[⟨CD,[]⟩,⟨JT,[Ps Mt,.mk 1 0 [] [],Ps Mt]⟩]⟩],Ps Mt,[Sp JT [Sp CD [],jM 0,bY [120]],Sp JT [bY [121],jM 1,Nq],Sp CD []]⟩
def cB:Cse:=⟨[⟨Im,[⟨Im,[kS,kS]⟩]⟩],Ps Im,[Sp Im [Ik 1,Nq],Sp Im [Nq,Ik 1],Sp Im [Ik 0,Ik 0],bY [122]]⟩
def cC:Cse:=⟨[⟨Ms,[⟨Ms,[Ps Ms]⟩]⟩,⟨pE,[⟨Zj,[]⟩,⟨oC,[Ps Ms]⟩]⟩],Ps pE,[Sp Zj []]⟩
def cD (l:List Ty):Cse:=⟨[],kS,l⟩
theorem NW (s:Str) (l:List Ty):Al Tryz.prog 73 [.str s,.sl (Bx l)] (.agg (CM ⟨s,l⟩)):=by
 refine Ae Ai Tryz.func73 (by decide +kernel) rfl [1,2,3] rfl rfl ?_;refine Aj rfl ?_;exact Aa rfl rfl rfl
theorem HA (s:Str):Al Tryz.prog 74 [.str s] (.agg (Ao (Ps s))):=by
 refine Ae Ai Tryz.func74 (by decide +kernel) rfl [1,2,3] rfl rfl ?_;refine Aj rfl ?_;exact Aa rfl rfl rfl
theorem Ig (s:Str) (l:List Ty):Al Tryz.prog 75 [.str s,.sl (Bx l)] (.agg (Ao (Sp s l))):=by
 refine Ae Ai Tryz.func75 (by decide +kernel) rfl [1,2,3] rfl rfl ?_;refine Aj rfl ?_;exact Aa rfl rfl rfl
theorem Gd (s:Str) (l:List Ty):Al Tryz.prog 28 [.str s,.sl (Bx l)] (.agg (Ao (E4 s l))):=by
 refine Ae Ai Tryz.func28 (by decide +kernel) rfl [1,2,3] rfl rfl ?_;refine Aj rfl ?_;exact Aa rfl rfl rfl
theorem P1:Al Tryz.prog 37 [] (.agg (Ao Nq)):=by
 refine Ae Ai Tryz.func37 (by decide +kernel) rfl [1,2,3] rfl rfl ?_;refine Aj rfl ?_;exact Aa rfl rfl rfl
theorem QF (s:Str):Al Tryz.prog 77 [.str s] (.agg (Ao (bY s))):=by
 refine Ae Ai Tryz.func77 (by decide +kernel) rfl [1,2,3] rfl rfl ?_;refine Aj rfl ?_;exact Aa rfl rfl rfl
theorem Tk (n:Int):Al Tryz.prog 76 [.int .i64 n] (.agg (Ao (jM n))):=by
 refine Ae Ai Tryz.func76 (by decide +kernel) rfl [1,2,3] rfl rfl ?_;refine Aj rfl ?_;exact Aa rfl rfl rfl
theorem Iz (n:Int):Al Tryz.prog 36 [.int .i64 n] (.agg (Ao (Ik n))):=by
 refine Ae Ai Tryz.func36 (by decide +kernel) rfl [1,2,3] rfl rfl ?_;refine Aj rfl ?_;exact Aa rfl rfl rfl
theorem Sz (n:Int):Al Tryz.prog 29 [.int .i64 n] (.agg (Ao (dH n))):=by
 refine Ae Ai Tryz.func29 (by decide +kernel) rfl [1,2,3] rfl rfl ?_;refine Aj rfl ?_;exact Aa rfl rfl rfl
theorem RD (n:Int):Al Tryz.prog 39 [.int .i64 n] (.agg (Ao (GA n))):=by
 refine Ae Ai Tryz.func39 (by decide +kernel) rfl [1,2,3] rfl rfl ?_;refine Aj rfl ?_;exact Aa rfl rfl rfl
theorem rS (l:List Ty):Al Tryz.prog 35 [.sl (Bx l)] (.agg (dCse (cD l))):=by
 refine Ae Ai Tryz.func35 (by decide +kernel) rfl [1,2,3] rfl rfl ?_;refine Aj rfl ?_;exact Aa rfl rfl rfl
theorem nZ:Al Tryz.prog 27 [] (.agg (dCse cA)):=by
 refine Ae Ai Tryz.func27 (by decide +kernel) rfl [1,2,3] rfl rfl ?_;refine Aj rfl ?_;refine Af rfl (λ_=>NW CD []) (by simp) ?_;refine Aj rfl ?_;refine Af rfl (λ_=>HA Mt) (by simp) ?_;refine Aj rfl ?_;refine Af rfl (λ_=>HA Mt) (by simp) ?_;refine Aj rfl ?_;refine Af rfl (λ_=>NW JT [Ps Mt,.mk 1 0 [] [],Ps Mt]) (by simp) ?_;refine Aj rfl ?_;refine Af rfl (λ_=>Ig CD []) (by simp) ?_;refine Aj rfl ?_;refine Af rfl (λ_=>Tk 0) (by simp) ?_;refine Aj rfl ?_;refine Af rfl (λ_=>QF [120]) (by simp) ?_;refine Aj rfl ?_;refine Af rfl (λ_=>Ig JT [Sp CD [],jM 0,bY [120]]) (by simp) ?_;refine Aj rfl ?_;refine Af rfl (λ_=>QF [121]) (by simp) ?_;refine Aj rfl ?_;refine Af rfl (λ_=>Tk 1) (by simp) ?_
 refine Aj rfl ?_;refine Ag rfl P1 ?_;refine Aj rfl ?_;refine Af rfl (λ_=>Ig JT [bY [121],jM 1,Nq]) (by simp) ?_;refine Aj rfl ?_;refine Af rfl (λ_=>Ig CD []) (by simp) ?_;refine Aj rfl ?_;refine Af rfl (λ_=>HA Mt) (by simp) ?_;refine mg [] rfl (by simp;rfl) ?_;exact Aa rfl rfl rfl
theorem nY:Al Tryz.prog 32 [] (.agg (dCse cB)):=by
 refine Ae Ai Tryz.func32 (by decide +kernel) rfl [1,2,3,4,5] rfl rfl ?_;refine Aj rfl ?_;refine Af rfl (λ_=>Iz 1) (by simp) ?_;refine Aj rfl ?_;refine Ag rfl P1 ?_;refine Aj rfl ?_;refine Af rfl (λ_=>Ig Im [Ik 1,Nq]) (by simp) ?_;refine Aj rfl ?_;refine Ag rfl P1 ?_;refine Aj rfl ?_;refine Af rfl (λ_=>Iz 1) (by simp) ?_;refine Aj rfl ?_;refine Af rfl (λ_=>Ig Im [Nq,Ik 1]) (by simp) ?_;refine Aj rfl ?_;refine Af rfl (λ_=>Iz 0) (by simp) ?_;refine Aj rfl ?_;refine Af rfl (λ_=>Iz 0) (by simp) ?_;refine Aj rfl ?_;refine Af rfl (λ_=>Ig Im [Ik 0,Ik 0]) (by simp) ?_;refine Aj rfl ?_;refine Af rfl (λ_=>QF [122]) (by simp) ?_;refine Aj rfl ?_;refine Af rfl (λ_=>NW Im [kS,kS]) (by simp) ?_
 refine Aj rfl ?_;refine Af rfl (λ_=>HA Im) (by simp) ?_;refine Aj rfl ?_;exact Aa rfl rfl rfl
theorem C_ok:Al Tryz.prog 31 [] (.agg (dCse cC)):=by
 refine Ae Ai Tryz.func31 (by decide +kernel) rfl [1,2,3,4,5] rfl rfl ?_;refine Aj rfl ?_;refine Af rfl (λ_=>HA Ms) (by simp) ?_;refine Aj rfl ?_;refine Af rfl (λ_=>NW Ms [Ps Ms]) (by simp) ?_;refine Aj rfl ?_;refine Af rfl (λ_=>NW Zj []) (by simp) ?_;refine Aj rfl ?_;refine Af rfl (λ_=>HA Ms) (by simp) ?_;refine Aj rfl ?_;refine Af rfl (λ_=>NW oC [Ps Ms]) (by simp) ?_;refine Aj rfl ?_;refine Af rfl (λ_=>HA pE) (by simp) ?_;refine Aj rfl ?_;refine Af rfl (λ_=>Ig Zj []) (by simp) ?_;refine mg [] rfl (by simp;rfl) ?_;exact Aa rfl rfl rfl
def vA:Ty:=E4 JT [E4 CD [],dH 0,E4 CD []]
def wA:Ty:=E4 JT [E4 CD [],dH (-1),E4 CD []]
set_option maxRecDepth 100000
theorem kcA:By cA=true:=by kernel_rfl
theorem rW:By cB=true:=by kernel_rfl
theorem kcC:By cC=true:=by kernel_rfl
theorem kcD:By (cD [Ik 1,Ik 0])=true:=by kernel_rfl
theorem kcW:By (cD [Nq])=true:=by kernel_rfl
theorem pO:Al Tryz.prog 16 [.agg (dCse cA),.int .i64 0,.agg (Ao vA)] (.tup [.sl [.str [120]::Ao (E4 CD [])],.int .i64 0]):=by
 have h:=eI cA 0 vA (by decide);rw [show U4 cA 0 vA=([([120],E4 CD [])],0) by kernel_rfl] at h;exact h
theorem pP:Al Tryz.prog 30 [.agg (dCse cA),.agg (Ao (E4 CD []))] (.tup [.int .i64 2,.int .i64 0]):=by
 have h:=eK cA (E4 CD []);rw [show JA cA (E4 CD [])=true by kernel_rfl,show Dw (E4 CD []) 0 cA.rows=2 by kernel_rfl] at h;exact h
theorem pN:Al Tryz.prog 18 [.agg (dCse cA)] (.tup [.agg (Ao wA),.int .i64 0]):=by
 have h:=RN cA;rw [kcA,show EW cA (Ay cA.type) (-1)=some wA by kernel_rfl] at h;exact h
theorem pM:Al Tryz.prog 18 [.agg (dCse cC)] (.tup [.agg (Ao zT),.int .i64 5]):=by
 have h:=RN cC;rw [kcC,show EW cC (Ay cC.type) (-1)=none by kernel_rfl] at h;exact h
theorem qY:Al Tryz.prog 19 [.agg (dCse cB),.int .i64 1] (.tup [.agg (Ao (E4 Im [GA 0,GA 1])),.int .i64 0]):=by
 have h:=TX cB 1;rw [rW,show D5 cB 1=true by kernel_rfl,show EW cB (Ay cB.type) 1=some (E4 Im [GA 0,GA 1]) by kernel_rfl] at h;exact h
theorem qX:Al Tryz.prog 19 [.agg (dCse cB),.int .i64 3] (.tup [.agg (Ao zT),.int .i64 5]):=by
 have h:=TX cB 3;rw [rW,show D5 cB 3=true by kernel_rfl,show EW cB (Ay cB.type) 3=none by kernel_rfl] at h;exact h
theorem kUse:Al Tryz.prog 20 [.agg (dCse cB)] (.tup [.sl [[.int .i64 3]],.int .i64 0]):=by
 have h:=YU cB;rw [rW,show EZ cB cB.rows.length=[3] by kernel_rfl] at h;exact h
theorem pQ:Al Tryz.prog 33 [.agg (dCse cB),.int .i64 0,.int .i64 1] (.tup [.agg (Ao (E4 Im [GA 1,GA 1])),.int .i64 0]):=by
 have h:=aC cB 0 1;rw [rW,show D5 cB 0=true by kernel_rfl,show D5 cB 1=true by kernel_rfl,show WY cB 0 1=some (E4 Im [GA 1,GA 1]) by kernel_rfl] at h;exact h
theorem pR:Al Tryz.prog 33 [.agg (dCse cA),.int .i64 0,.int .i64 1] (.tup [.agg (Ao zT),.int .i64 5]):=by
 have h:=aC cA 0 1;rw [kcA,show D5 cA 0=true by kernel_rfl,show D5 cA 1=true by kernel_rfl,show WY cA 0 1=none by kernel_rfl] at h;exact h
theorem qZ:Al Tryz.prog 34 [.agg (dCse (cD [Ik 1,Ik 0])),.agg (ME 1)] (.tup [.agg (Ao (GA 1)),.int .i64 7]):=by
 have h:=Pf (cD [Ik 1,Ik 0]) kcD 1 (by decide) (by decide);rw [show Ev (cD [Ik 1,Ik 0]) 1 ((cD [Ik 1,Ik 0]).rows.length+1)=some (GA 1) by kernel_rfl] at h;exact h
theorem rA:Al Tryz.prog 34 [.agg (dCse (cD [Nq])),.agg (ME 0)] (.tup [.agg (Ao zT),.int .i64 0]):=by
 have h:=Pf (cD [Nq]) kcW 0 (by decide) (by decide);rw [show Ev (cD [Nq]) 0 ((cD [Nq]).rows.length+1)=none by kernel_rfl] at h;exact h
theorem Wh (a b:Ty) (h:Zi a b=true):Al Tryz.prog 38 [.agg (Ao a),.agg (Ao b)] (.bool true):=by
 have:=Xi a b;rw [h] at this;exact this
theorem cU:Al Tryz.prog 6 [] (.bool true):=by
 refine Ae Ai Tryz.func6 (by decide +kernel) rfl [1,2,3,4,5,6,7,8,9,10,11,12] rfl rfl ?_;refine Aj rfl ?_;refine Ag rfl nZ ?_;refine Aj rfl ?_;refine Af rfl (λ_=>Gd CD []) (by simp) ?_;refine Aj rfl ?_;refine Af rfl (λ_=>Sz 0) (by simp) ?_;refine Aj rfl ?_;refine Af rfl (λ_=>Gd CD []) (by simp) ?_;refine Aj rfl ?_;refine Af rfl (λ_=>Gd JT [E4 CD [],dH 0,E4 CD []]) (by simp) ?_;refine Aj rfl ?_;refine Ag rfl pO ?_;refine Aj rfl ?_;refine Ag rfl nZ ?_;refine Aj rfl ?_;refine Af rfl (λ_=>Gd CD []) (by simp) ?_;refine Aj rfl ?_;refine Ag rfl pP ?_;refine Aj rfl ?_;refine Ag rfl nZ ?_;refine Aj rfl ?_;refine Ag rfl pN ?_;refine Aj rfl ?_;refine Ag rfl C_ok ?_;refine Aj rfl ?_;refine Ag rfl pM ?_
 refine Aj rfl ?_;refine Ag rfl nY ?_;refine Aj rfl ?_;refine Ag rfl qY ?_;refine Aj rfl ?_;refine Ag rfl nY ?_;refine Aj rfl ?_;refine Ag rfl qX ?_;refine Aj rfl ?_;refine Ag rfl nY ?_;refine Aj rfl ?_;refine Ag rfl kUse ?_;refine Aj rfl ?_;refine Ag rfl nY ?_;refine Aj rfl ?_;refine Ag rfl pQ ?_;refine Aj rfl ?_;refine Ag rfl nZ ?_;refine Aj rfl ?_;refine Ag rfl pR ?_;refine Aj rfl ?_;refine Af rfl (λ_=>Iz 1) (by simp) ?_;refine Aj rfl ?_;refine Af rfl (λ_=>Iz 0) (by simp) ?_;refine Aj rfl ?_;refine Af rfl (λ_=>rS [Ik 1,Ik 0]) (by simp) ?_;refine Aj rfl ?_;refine Ag rfl qZ ?_;refine Aj rfl ?_;refine Ag rfl P1 ?_;refine Aj rfl ?_;refine Af rfl (λ_=>rS [Nq]) (by simp) ?_;refine Aj rfl ?_
 refine Ag rfl rA ?_;refine Aj rfl ?_;refine At rfl λh=>?_;refine Ak rfl ?_;refine mi rfl (c:=.str [120]::Ao (E4 CD [])) (λ_=>⟨by simp,rfl,rfl⟩) (by simp [Ap]) ?_;refine Aj rfl ?_;refine mi rfl (c:=.str [120]::Ao (E4 CD [])) (λ_=>⟨by simp,rfl,rfl⟩) (by simp [Ap]) ?_;refine Aj rfl ?_;refine Af rfl (λ_=>Gd CD []) (by simp) ?_;refine Aj rfl ?_;refine Af rfl (λ_=>Wh (E4 CD []) (E4 CD []) rfl) (by simp [Ap]) ?_;refine Aj rfl ?_;refine mi rfl (c:=[.int .i64 3]) (λ_=>⟨by simp,rfl,rfl⟩) (by simp [Ap]) ?_;refine mg [] rfl (by simp;rfl) ?_;refine At rfl λh=>?_;refine Ak rfl ?_;refine Af rfl (λ_=>Gd CD []) (by simp) ?_;refine Aj rfl ?_;refine Af rfl (λ_=>Sz (-1)) (by simp) ?_;refine Aj rfl ?_
 refine Af rfl (λ_=>Gd CD []) (by simp) ?_;refine Aj rfl ?_;refine Af rfl (λ_=>Gd JT [E4 CD [],dH (-1),E4 CD []]) (by simp) ?_;refine Aj rfl ?_;refine Af rfl (λ_=>Wh wA (E4 JT [E4 CD [],dH (-1),E4 CD []]) rfl) (by simp) ?_;refine Aj rfl ?_;refine Af rfl (λ_=>RD 0) (by simp) ?_;refine Aj rfl ?_;refine Af rfl (λ_=>RD 1) (by simp) ?_;refine Aj rfl ?_;refine Af rfl (λ_=>Gd Im [GA 0,GA 1]) (by simp [Ap]) ?_;refine Aj rfl ?_;refine Af rfl (λ_=>Wh (E4 Im [GA 0,GA 1]) (E4 Im [GA 0,GA 1]) rfl) (by simp [Ap]) ?_;refine Aj rfl ?_;refine Af rfl (λ_=>RD 1) (by simp) ?_;refine Aj rfl ?_;refine Af rfl (λ_=>RD 1) (by simp) ?_;refine Aj rfl ?_;refine Af rfl (λ_=>Gd Im [GA 1,GA 1]) (by simp [Ap]) ?_
 refine Aj rfl ?_;refine Af rfl (λ_=>Wh (E4 Im [GA 1,GA 1]) (E4 Im [GA 1,GA 1]) rfl) (by simp [Ap]) ?_;refine Aj rfl ?_;refine Af rfl (λ_=>RD 1) (by simp) ?_;refine Aj rfl ?_;refine Af rfl (λ_=>Wh (GA 1) (GA 1) rfl) (by simp [Ap]) ?_;refine mg [] rfl (by simp;rfl) ?_;exact Aa rfl rfl rfl
end Go.Hk
namespace Go.Hk
open Go.Proofs
end Go.Hk
namespace Go.Hk
section
variable {P:Program} {n:Nat} {F:List Nat} {Q:DQ} {tt:TT} {env env':Env} {st st' st0 st1:St} {ids ids' fr:List Nat} {k todo todo':List DI} {I J:Imm} {μ:Mu} {w:World} {a:Act} {Pn:V->Prop}
end
end Go.Hk
namespace Go.Hk
section
variable {P:Program} {n:Nat} {F:List Nat} {Q:DQ} {env:Env} {st:St} {ids:List Nat} {todo:List DI} {ob:List Prop}
end
end Go.Hk
namespace Go.Hk
open Go.Proofs
theorem TTok.app {P:Program} {a b:TT} (ha:TTok P a) (hb:TTok P b):TTok P (a++b):=by
 intro t i h
 induction a with
 | nil=>exact hb t i h
 | cons x r ih =>
  obtain ⟨k,v⟩:=x;simp only [List.cons_append,lk] at h;cases e:Nat.beq k t with
  | true=>rw [e] at h;exact ha t i (by simp only [lk,e];exact h)
  | false =>
   rw [e] at h;have hr:∀{r:TT},lk (r++b) t=some i->(∀j,lk r t=some j->TyOk P t j)->TyOk P t i:=by
    intro r
    induction r with
    | nil=>intro h _;exact hb t i h
    | cons y q iq =>
     obtain ⟨k2,v2⟩:=y;intro h hj;simp only [List.cons_append,lk] at h hj;cases e2:Nat.beq k2 t with
     | true=>rw [e2] at h hj;exact hj i h
     | false=>rw [e2] at h hj;exact iq h hj
   exact hr h λj hj=>ha t j (by simp only [lk,e];exact hj)
section
variable {n:Nat} {F:List Nat} {Q:DQ} {env env':Env} {st st':St} {ids ids':List Nat} {k todo:List DI} {ob:List Prop}
end
end Go.Hk
namespace Go.Hk
open Go.Proofs
inductive Nd where
 | mk (row:Int) (path:List Int) (heads:List Ty) (kids:List Nd)
mutual
def G9:Nd->List V
 | .mk r p h k=>[.int .i64 r,.sl (AJ p),.sl (BQ h),.sl (HD k)]
def HD:List Nd->List (List V)
 | []=>[]
 | t::r=>G9 t::HD r
end
@[simp] theorem dNd_length (t:Nd):(G9 t).length=4:=by cases t;rfl
theorem ZK (l:List Nd):HD l=l.map G9:=by induction l with
 | nil=>rfl
 | cons t r ih=>simp [HD,ih]
@[simp] theorem dNds_length (l:List Nd):(HD l).length=l.length:=by rw [ZK];simp
theorem kO {l:List Nd} {i:Nat} {t:Nd} (h:l[i]?=some t):(HD l)[i]?=some (G9 t):=by rw [ZK,List.getElem?_map,h];rfl
def DH (r:Int):Nd:=.mk r [] [] []
def Es (ds:List Dt) (g:List Ty->Nat->Mi->Int->Nd×Bool×Int):List Ty->Nat->Mi->Int->Nd×Bool×Int
 | [],_,_,L=>(DH (-1),true,L)
 | p::r,i,m,L =>
  if (Ar ds p m).1=2 then
   match g (p::r) i (A3 ds m (Ar ds p m).2.1 (Ar ds p m).2.2 true) L with
   | (_,false,L2)=>(DH 0,false,L2)
   | (a,true,L2)=>match g r (i+1) (A3 ds m (Ar ds p m).2.1 (Ar ds p m).2.2 false) L2 with
    | (b,fine,L3)=>(.mk 0 (Ar ds p m).2.1 [(Ar ds p m).2.2] [a,b],fine,L3)
  else if (Ar ds p m).1=1 then (DH i,true,L) else Es ds g r (i+1) m L
def B1 (ds:List Dt):Nat->List Ty->Nat->Mi->Int->Nd×Bool×Int
 | 0,_,_,_,left=>(DH 0,false,left-1)
 | d+1,l,i,m,left=>if left<1 then (DH 0,false,left-1) else Es ds (B1 ds d) l i m (left-1)
theorem LL {ds:List Dt} {g:List Ty->Nat->Mi->Int->Nd×Bool×Int} (hg:∀l i m L,0<=L -> -1<=(g l i m L).2.2/\(g l i m L).2.2<=L/\((g l i m L).2.1=true->0<=(g l i m L).2.2)) :
  ∀l i m L,0<=L -> -1<=(Es ds g l i m L).2.2/\(Es ds g l i m L).2.2<=L/\((Es ds g l i m L).2.1=true->0<=(Es ds g l i m L).2.2)
 | [],i,m,L,h=>by simp only [Es];omega
 | p::r,i,m,L,h=>by
  simp only [Es]
  split
  ·have h1:=hg (p::r) i (A3 ds m (Ar ds p m).2.1 (Ar ds p m).2.2 true) L h;generalize g (p::r) i (A3 ds m (Ar ds p m).2.1 (Ar ds p m).2.2 true) L=A at *;obtain ⟨a,f,L2⟩:=A;cases f with
   | false=>simp only at h1 ⊢;exact ⟨h1.1,h1.2.1,λh=>by cases h⟩
   | true =>
    have h2:=hg r (i+1) (A3 ds m (Ar ds p m).2.1 (Ar ds p m).2.2 false) L2 (h1.2.2 rfl);simp only at h1 ⊢;exact ⟨h2.1,Int.le_trans h2.2.1 h1.2.1,h2.2.2⟩
  ·split
   ·simp only;omega
   ·exact LL hg r (i+1) m L h
theorem FP (ds:List Dt):∀(d:Nat) l i m L,0<=L -> -1<=(B1 ds d l i m L).2.2/\(B1 ds d l i m L).2.2<=L/\((B1 ds d l i m L).2.1=true->0<=(B1 ds d l i m L).2.2)
 | 0,l,i,m,L,h=>by simp only [B1];exact ⟨by omega,by omega,λh=>by cases h⟩
 | d+1,l,i,m,L,h=>by
  simp only [B1]
  split
  ·simp only;exact ⟨by omega,by omega,λh=>by cases h⟩
  ·have:=LL (ds:=ds) (FP ds d) l i m (L-1) (by omega);exact ⟨this.1,by omega,this.2.2⟩
theorem UC {ds:List Dt} {h:Ty}:∀(path:List Int) (m:Mi),J0 ds h m path->AK h≠0
 | [],_,⟨_,_,h3⟩=>(M2 h3).1
 | _::q,_,⟨k,_,_,h3⟩=>UC q k h3
theorem mY (c:Cse) (ho:OkW c.datas) (hn:AI c.datas c.type=true) (hr:RowsOk c):∀(d N:Nat) (m x:Mi) (row:Nat) (left:Int),N+d<=100000->MOk c.datas c.type N m->MOk c.datas c.type N x->stl c.datas m x->row<=c.rows.length->0<=left->left<=1000 ->
  Bt Tryz.prog 41 [.ref 1 0,.hv 2 0,.imm (.int .i64 row),.imm (.int .i64 d)] [(1,some (.cells 94 2 [.imm (AQ c (AJ (Do c.datas))),.imm (.int .i64 left)])),(2,some (.hp (GF x)))]
   (.ret (.imm (.tup [.agg (G9 (B1 c.datas d (c.rows.drop row) row m left).1),.bool (B1 c.datas d (c.rows.drop row) row m left).2.1])) [(1,some (.cells 94 2 [.imm (AQ c (AJ (Do c.datas))),.imm (.int .i64 (B1 c.datas d (c.rows.drop row) row m left).2.2)]))]):=by
 intro d
 induction d with
 | zero =>
  intro N m x row left hN hm hx hs hrow h0 h1;simp only [B1];refine Ae Ai Tryz.func41 (by decide +kernel) rfl [3,4,5,6] rfl rfl ?_;refine Ak rfl ?_;refine Ah rfl λh=>?_;refine Ak rfl ?_;refine H5 (env':=[(8,.ref 3 0),(9,.imm (.bool false))]) (st':=[(3,some (.cells 36 4 [.imm (.int .i64 0),.nils,.nils,.nils])),(1,some (.cells 94 2 [.imm (AQ c (AJ (Do c.datas))),.imm (.int .i64 (IntKind.i64.wrap (left-1)))]))]) (ids':=[4,5,6]) ⟨rfl,rfl,trivial⟩ ⟨rfl,⟨rfl,rfl,rfl⟩,trivial⟩ rfl ?_;rw [B2 (by omega) (by omega)];exact Au ⟨_,rfl,tV rfl,rfl,trivial⟩
 | succ d ih =>
 intro N m x row left hN hm hx hs hrow h0 h1;obtain ⟨ds,⟨c1,c2,c3,c4⟩,rows⟩:=c;by_cases hl:left<1
 ·rw [show B1 ds (d+1) (rows.drop row) row m left=(DH 0,false,left-1) by simp only [B1];rw [if_pos hl]];refine Ae Ai Tryz.func41 (by decide +kernel) rfl [3,4,5,6] rfl rfl ?_;refine Ak rfl ?_;refine Ab rfl (λh=>?_) (λh=>by exfalso;simp at h;rw [B2 (by omega) (by omega)] at h;omega);refine Ak rfl ?_;refine H5 (env':=[(8,.ref 3 0),(9,.imm (.bool false))]) (st':=[(3,some (.cells 36 4 [.imm (.int .i64 0),.nils,.nils,.nils])),(1,some (.cells 94 2 [.imm (AQ ⟨ds,.mk c1 c2 c3 c4,rows⟩ (AJ (Do ds))),.imm (.int .i64 (IntKind.i64.wrap (left-1)))]))]) (ids':=[4,5,6]) ⟨rfl,rfl,trivial⟩ ⟨rfl,⟨rfl,rfl,rfl⟩,trivial⟩ rfl ?_;rw [B2 (by omega) (by omega)];exact Au ⟨_,rfl,tV rfl,rfl,trivial⟩
 have hGl:=LL (ds:=ds) (FP ds d);rw [show B1 ds (d+1) (rows.drop row) row m left=Es ds (B1 ds d) (rows.drop row) row m (left-1) by simp only [B1];rw [if_neg hl]];obtain ⟨L,hLL⟩:∃L,IntKind.i64.wrap (left-1)=L:=⟨_,rfl⟩
 have eL:L=left-1:=by rw [<- hLL,B2 (by omega) (by omega)]
 rw [<- eL];have hrl:=hr.len;simp only at hrl hrow ih ho hn;generalize hR:Es ds (B1 ds d) (rows.drop row) row m L=R;refine Ae Ai Tryz.func41 (by decide +kernel) rfl [3,4,5,6,7,8,9,10,11,12] rfl rfl ?_;refine IJ 2 3 (λob:Nat=>[ptr ob]) (λob=>Bk x ob) rfl (λvs I w bs h=>let ⟨ob,F,e1,e2,e3⟩:=h;⟨ob,e1,F,e2,e3⟩) λob=>?_;refine Ak rfl ?_;rw [hLL];refine Ab rfl (λh=>by exfalso;simp at h;omega) (λh=>?_);clear h hLL;refine Ak rfl ?_;refine An (λz:Nat×Mi=>[(2,.imm (.int .i64 z.1)),(0,.ref 1 0),(1,.raw (ptr ob)),(3,.imm (.int .i64 ((d+1:Nat):Int))),(8,.ref 4 0)])
  (λz=>[(1,some (.cells 94 2 [.imm (AQ ⟨ds,.mk c1 c2 c3 c4,rows⟩ (AJ (Do ds))),.imm (.int .i64 L)])),(4,some (.cells 36 4 [.imm (.int .i64 0),.nils,.nils,.nils])),(3,some (.hp (Bk z.2 ob)))]) [5,6,7,8,9,10,11,12] (λz=>rows.length-z.1)
  (λz=>z.1<=rows.length/\MOk ds (.mk c1 c2 c3 c4) N z.2/\stl ds m z.2/\Es ds (B1 ds d) (rows.drop z.1) z.1 m L=R) (row,x) ⟨hrow,hx,hs,hR⟩ ⟨rfl,rfl,rfl,rfl,rfl,trivial⟩ ⟨⟨rfl,rfl,rfl⟩,rfl,rfl,trivial⟩ rfl λz hz ihl=>?_
 clear hR hx hs;obtain ⟨i,x⟩:=z;obtain ⟨z1,hx,hs,hR⟩:=hz;simp only at z1 hx hs hR;refine Ak rfl ?_;refine Ab rfl (λh=>?_) (λh=>?_)
 ·have hlt:i<rows.length:=by simp at h;omega
  obtain ⟨p,hp⟩:=As hlt;obtain ⟨hp1,hp2,hp3⟩:=hr.pat p (List.mem_of_getElem? hp);have hget:=A4 hp;have hdr:=Av hp;have hsee:=Xz ⟨ds,.mk c1 c2 c3 c4,rows⟩ (AJ (Do ds)) ho N (by omega) p x ob [] (by simp;omega) hx.wf hx.coh (by rw [hx.typ];exact hp1) hp2;replace hsee:=TM (a:=[.imm (AQ ⟨ds,.mk c1 c2 c3 c4,rows⟩ (AJ (Do ds))),.imm (.agg (Ao p)),.raw (ptr ob)]) (b:=[]) hsee;have hst:=Uk p hm.coh hs;have hxs:=hx.see ho hp3;have hL:=JR p hm.coh hs;have hL2:=JR p hm.coh hst;rw [<- hL] at hsee;rw [hdr] at hR;simp only [Es] at hR;refine Ak rfl ?_;refine mi rfl (c:=Ao p) (λ_=>⟨by simp,by simpa using hget,by simp⟩) (by simp) ?_;refine Aj rfl ?_;by_cases h2:(Ar ds p m).1=2
  ·rw [show Mr [] (Ar ds p m) = .tup [.imm (.bool false),.ip 156 (.sl (AJ (Ar ds p m).2.1)::Bv (Ar ds p m).2.2) 0] from if_pos h2] at hsee;have hA:=GB ho p hm.wf hm.coh (by rw [hm.typ];exact hp1) hp2 h2;have hB:=GB ho p hxs.wf hxs.coh (by rw [hxs.typ];exact hp1) hp2 (by rw [<- hL2];exact h2);rw [<- hL2] at hB;have hmT:=hm.split ho hp1 hp2 hp3 h2;have hxT:=hxs.split ho hp1 hp2 hp3 (by rw [<- hL2];exact h2);rw [<- hL2] at hxT;have hlen:=Fo ds p m;have hsup:=λis=>Qe ⟨ds,.mk c1 c2 c3 c4,rows⟩ (AJ (Do ds)) ho N (by omega) (EG ds p x) ob (Ar ds p m).2.1 (Ar ds p m).2.2 is (by omega) hxs.wf hxs.coh hB.ok;rw [if_pos h2] at hR
   have hYa:=ih (N+1) _ _ i L (by omega) (hmT true) (hxT true) (hA.stl true _ hst) (by omega) (by omega) (by omega);rw [hdr] at hYa;have hLa:=FP ds d (p::rows.drop (i+1)) i (A3 ds m (Ar ds p m).2.1 (Ar ds p m).2.2 true) L (by omega);generalize B1 ds d (p::rows.drop (i+1)) i (A3 ds m (Ar ds p m).2.1 (Ar ds p m).2.2 true) L=A at *;obtain ⟨a,fa,L2⟩:=A;simp only at hYa hLa;have ed:IntKind.i64.wrap (((d+1:Nat):Int)-1)=(d:Int):=by rw [B2 (by omega) (by omega)];omega
   have ei:IntKind.i64.wrap ((i:Int)+1)=((i+1:Nat):Int):=by rw [B2 (by omega) (by omega)];omega
   rw [<- ed] at hYa;have hYb:=λh=>ih (N+1) _ _ (i+1) L2 (by omega) (hmT false) (hxT false) (hA.stl false _ hst) (by omega) h (by omega);have hval:=PT (Ar ds p m).2.2 (UC _ _ ((Jp ho p (v:=zT) hm.wf hm.coh (by rw [hm.typ];exact hp1) hp2).1 h2));generalize (Ar ds p m).2.1=path at *;generalize (Ar ds p m).2.2=hd at *;obtain ⟨d1,d2,d3,d4⟩:=hd;refine AC (fr:=[5]) [(3,1)] [(2,5)] rfl (by simp) hsee ⟨⟨rfl,rfl,rfl⟩,trivial⟩ rfl rfl rfl rfl ?_;refine mg [] rfl (by simp;rfl) ?_;refine At rfl λh=>?_;clear h;refine Ak rfl ?_;refine At rfl λh=>?_;clear h;refine Ak rfl ?_
   refine BX [(5,1)] [(3,6),(2,7)] [] (fr:=[6,7]) (nm:=[6,7,5]) rfl trivial (by simp) (hsup true) ⟨⟨rfl,rfl,rfl⟩,trivial⟩ rfl trivial rfl rfl rfl ?_;refine Aj rfl ?_;refine BX [(1,1),(7,2)] [] [] (fr:=[]) (nm:=[1,1,7]) rfl trivial (by simp) hYa ⟨⟨rfl,rfl,rfl⟩,⟨rfl,rfl,rfl⟩,trivial⟩ rfl trivial rfl rfl rfl ?_;refine mg [] rfl (by simp;rfl) ?_;cases fa with
   | false =>
    simp only at hR;subst hR;refine Ah rfl λh=>?_;refine Ak rfl ?_;exact Au ⟨_,rfl,tV rfl,rfl,trivial⟩
   | true =>
    have hLb:=FP ds d (rows.drop (i+1)) (i+1) (A3 ds m path (.mk d1 d2 d3 d4) false) L2 (hLa.2.2 rfl);replace hYb:=hYb (hLa.2.2 rfl);simp only at hR;generalize B1 ds d (rows.drop (i+1)) (i+1) (A3 ds m path (.mk d1 d2 d3 d4) false) L2=B at *;obtain ⟨b,fb,L3⟩:=B;simp only at hYb hLb hR;subst hR;rw [<- ed,<- ei] at hYb;refine At rfl λh=>?_;clear h;refine Ak rfl ?_;refine BX [(6,1)] [(3,9),(2,10)] [] (fr:=[9,10]) (nm:=[9,10,6]) rfl trivial (by simp) (hsup false) ⟨⟨rfl,rfl,rfl⟩,trivial⟩ rfl trivial rfl rfl rfl ?_;refine Aj rfl ?_;refine BX [(1,1),(10,2)] [] [] (fr:=[]) (nm:=[1,1,10]) rfl trivial (by simp) hYb ⟨⟨rfl,rfl,rfl⟩,⟨rfl,rfl,rfl⟩,trivial⟩ rfl trivial rfl rfl rfl ?_
    refine mg [] rfl (by simp;rfl) ?_;refine Ag rfl hval ?_;refine mg [] rfl (by simp;rfl) ?_;exact Au ⟨_,rfl,tV rfl,rfl,trivial⟩
  ·rw [show Mr [] (Ar ds p m) = .imm (.tup [.bool (decide ((Ar ds p m).1=1)),.nilp]) from if_neg h2] at hsee;rw [if_neg h2] at hR;have hih:=ihl (i+1,EG ds p x) (by simp only;omega);simp only at hih;have hrg:=FK ds p m;generalize (Ar ds p m).1=q at *;refine AC (fr:=[5]) [(3,1)] [(2,5)] rfl (by simp) hsee ⟨⟨rfl,rfl,rfl⟩,trivial⟩ rfl rfl rfl rfl ?_;refine mg [] rfl (by simp;rfl) ?_;by_cases e:q=1
   ·rw [if_pos e] at hR;subst hR;refine Ab rfl (λh=>?_) (λh=>by exfalso;subst e;simp at h);refine Ak rfl ?_;exact Au ⟨_,rfl,tV rfl,rfl,trivial⟩
   ·rw [if_neg e] at hR;refine Ab rfl (λh=>by exfalso;simp at h;exact e h) (λh=>?_);refine Ak rfl ?_;refine Ah rfl λh=>?_;refine Ak rfl ?_;refine AF 5 3 rfl ?_;exact Ad (hih ⟨by omega,hxs,hst,hR⟩) ⟨A0 (B2 (by omega) (by omega)),rfl,rfl,rfl,rfl,trivial⟩ ⟨rfl,rfl,rfl,trivial⟩ rfl
 ·have hlt:¬i<rows.length:=by simp at h;omega
  rw [List.drop_eq_nil_of_le (by omega)] at hR;simp only [Es] at hR;subst hR;refine Aw rfl ?_;refine Ak rfl ?_;exact Au ⟨_,rfl,tV rfl,rfl,trivial⟩
theorem jU {P:Program} {n:Nat} {F:List Nat} {Q:DQ} {env env':Env} {st st':St} {ids ids':List Nat} {k:List DI} {all rest:List Oper} (hE:Xu env env') (hS:aM st st') (hI:(Jh ids'&&QY ids (Va env'++Fw st'++F) ids')=true) (h:G P n F Q (.ops all rest::k) env' st' ids'):G P n F Q (.ops all rest::k) env st ids:=H5 hE hS hI h
def CR (c:Cse):Nd×Bool×Int:=B1 c.datas 100 c.rows 0 (Ay c.type) 400
def fN (c:Cse):V:=if (CR c).2.1=true then .tup [.agg (G9 (CR c).1),.int .i64 0] else .tup [.agg (G9 (DH 0)),.int .i64 3]
theorem nU (c:Cse):Al Tryz.prog 7 [.agg (dCse c)] (bif By c then fN c else .tup [.agg (G9 (DH 0)),.int .i64 2]):=by
 have hW:=EB c;cases hb:By c with
 | false =>
  rw [hb] at hW;obtain ⟨ds,⟨c1,c2,c3,c4⟩,rows⟩:=c;refine Ae Ai Tryz.func7 (by decide +kernel) rfl [1,2,3,4] rfl rfl ?_;refine Aj rfl ?_;refine Ag rfl hW ?_;refine Aj rfl ?_;refine Ah rfl λh=>?_;refine Ak rfl ?_;exact Aa rfl rfl rfl
 | true =>
  rw [hb] at hW;have hF:=Gt (AQ c (AJ (Do c.datas))) c.type;have hG:=mY c (OkW.of hb) (CN hb).2.2.1 (RowsOk.of hb) 100 0 (Ay c.type) (Ay c.type) 0 400 (by omega) (MOk.of hb) (MOk.of hb) (E1 _ _) (Nat.zero_le _) (by omega) (by omega);rw [List.drop_zero,show B1 c.datas 100 c.rows 0 (Ay c.type) 400=CR c from rfl] at hG;simp only [cond_true,fN];generalize CR c=T at *;obtain ⟨⟨t1,t2,t3,t4⟩,fine,L⟩:=T;simp only at hG ⊢;obtain ⟨ds,⟨c1,c2,c3,c4⟩,rows⟩:=c;refine Ae Ai Tryz.func7 (by decide +kernel) rfl [1,2,3,4,5,6,7,8] rfl rfl ?_;refine Aj rfl ?_;refine Ag rfl hW ?_;refine Aj rfl ?_;refine At rfl λh=>?_;clear h;refine Ak rfl ?_
  refine AC (fr:=[4]) [] [(2,4)] rfl (by simp) hF trivial rfl rfl rfl rfl ?_;refine Aj rfl ?_;refine jU (env':=[(22,.ref 3 0),(26,.hv 4 0),(2,.ref 2 0)]) (st':=[(3,some (.cells 94 2 [.imm (AQ ⟨ds,.mk c1 c2 c3 c4,rows⟩ (AJ (Do ds))),.imm (.int .i64 400)])),(4,some (.hp (GF (Ay (.mk c1 c2 c3 c4))))),(2,some (.cells 36 4 [.imm (.int .i64 0),.nils,.nils,.nils]))]) (ids':=[5,6,7,8]) ⟨rfl,rfl,rfl,trivial⟩ ⟨⟨rfl,rfl,rfl⟩,rfl,rfl,trivial⟩ rfl ?_;refine AC (fr:=[]) [(3,1),(4,2)] [] rfl (by simp) hG ⟨⟨rfl,rfl,rfl⟩,⟨rfl,rfl,rfl⟩,trivial⟩ rfl rfl rfl rfl ?_;refine Aj rfl ?_;cases fine with
  | true =>
   refine At rfl λh=>?_;refine Ak rfl ?_;exact Aa rfl rfl rfl
  | false =>
   refine Ah rfl λh=>?_;refine Ak rfl ?_;exact Aa rfl rfl rfl
theorem D9 {ds:List Dt} {d:Nat} {l:List Ty} {i:Nat} {m:Mi} {left:Int}:B1 ds (d+1) l i m left=if left<1 then (DH 0,false,left-1) else Es ds (B1 ds d) l i m (left-1):=rfl
def pF (T:Nd×Bool×Int):V:=.tup [.agg (G9 T.1),.int .i64 (if T.2.1=true then T.2.2 else -1)]
theorem SV (c:Cse) (m:Mi) (row left d:Int) (h:left<1\/d<1):Al Tryz.prog 49 [.agg (dCse c),.agg (DL m),.int .i64 row,.int .i64 left,.int .i64 d] (.tup [.agg (G9 (DH 0)),.int .i64 (-1)]):=by
 obtain ⟨ds,⟨c1,c2,c3,c4⟩,rows⟩:=c;obtain ⟨⟨so,n,x,ps⟩,nt,⟨hf,hd2,hd3,hd4⟩,ks⟩:=m;refine Ae Ai Tryz.func49 (by decide +kernel) rfl [1,2,3,4] rfl rfl ?_;refine Aj rfl ?_;refine Ab rfl (λh=>?_) (λh'=>by exfalso;simp at h';omega);refine Ak rfl ?_;exact Aa rfl rfl rfl
theorem bD (c:Cse) (ho:OkW c.datas) (hn:AI c.datas c.type=true) (hr:RowsOk c):∀(d N:Nat) (m:Mi) (row:Nat) (left:Int),N+d<=100000->MOk c.datas c.type N m->row<=c.rows.length->0<=left->left<=1000 ->
  Al Tryz.prog 49 [.agg (dCse c),.agg (DL m),.int .i64 row,.int .i64 left,.int .i64 d] (pF (B1 c.datas d (c.rows.drop row) row m left)):=by
 intro d
 induction d with
 | zero =>
  intro N m row left hN hm hrow h0 h1;simp only [B1];exact SV c m row left _ (.inr (by omega))
 | succ d ih =>
 intro N m row left hN hm hrow h0 h1;by_cases hl:left<1
 ·rw [show B1 c.datas (d+1) (c.rows.drop row) row m left=(DH 0,false,left-1) by simp only [B1];rw [if_pos hl]];exact SV c m row left _ (.inl (by omega))
 have hrl:=hr.len;obtain ⟨k,hk⟩:∃k,c.rows.length-row=k:=⟨_,rfl⟩
 induction k generalizing row with
 | zero =>
  rw [show B1 c.datas (d+1) (c.rows.drop row) row m left=(DH (-1),true,left-1) by
   simp only [B1];rw [if_neg hl,List.drop_eq_nil_of_le (by omega)];rfl]
  clear ih;obtain ⟨ds,⟨c1,c2,c3,c4⟩,rows⟩:=c;obtain ⟨⟨so,n,x,ps⟩,nt,⟨hf,hd2,hd3,hd4⟩,ks⟩:=m;simp only at hrow hk hrl;refine Ae Ai Tryz.func49 (by decide +kernel) rfl [1,2,3,4] rfl rfl ?_;refine Aj rfl ?_;refine Ab rfl (λh=>by exfalso;simp at h;omega) (λh=>?_);clear h;refine Ak rfl ?_;refine Ab rfl (λh=>?_) (λh=>by exfalso;simp at h;omega);refine Ak rfl ?_;rw [B2 (by omega) (by omega)];exact Aa rfl rfl rfl
 | succ k ihk =>
  have hlt:row<c.rows.length:=by omega
  obtain ⟨p,hp⟩:=As hlt;obtain ⟨hp1,hp2,hp3⟩:=hr.pat p (List.mem_of_getElem? hp);have hget:=A4 hp;have hdr:=Av hp;have hL:=QM c ho N p m (by omega) hm.wf (Ic ho p hm.wf hm.coh (by rw [hm.typ];exact hp1) hp2);have hnext:=ihk (row+1) (by omega) (by omega);have hG:B1 c.datas (d+1) (c.rows.drop row) row m left=if (Ar c.datas p m).1=2 then
    (match B1 c.datas d (p::c.rows.drop (row+1)) row (A3 c.datas m (Ar c.datas p m).2.1 (Ar c.datas p m).2.2 true) (left-1) with
    | (_,false,L2)=>(DH 0,false,L2)
    | (a,true,L2)=>match B1 c.datas d (c.rows.drop (row+1)) (row+1) (A3 c.datas m (Ar c.datas p m).2.1 (Ar c.datas p m).2.2 false) L2 with
     | (b,fine,L3)=>(.mk 0 (Ar c.datas p m).2.1 [(Ar c.datas p m).2.2] [a,b],fine,L3))
   else if (Ar c.datas p m).1=1 then (DH row,true,left-1) else B1 c.datas (d+1) (c.rows.drop (row+1)) (row+1) m left:=by
   rw [D9 (l:=c.rows.drop row),if_neg hl,D9 (l:=c.rows.drop (row+1)),if_neg hl,hdr];rfl
  rw [hG];clear hG ihk;have hrg:=FK c.datas p m;have ed:IntKind.i64.wrap (((d+1:Nat):Int)-1)=(d:Int):=by rw [B2 (by omega) (by omega)];omega
  have ei:IntKind.i64.wrap ((row:Int)+1)=((row+1:Nat):Int):=by rw [B2 (by omega) (by omega)];omega
  have el:IntKind.i64.wrap (left-1)=left-1:=B2 (by omega) (by omega);by_cases h2:(Ar c.datas p m).1=2
  ·rw [if_pos h2];have A:=GB ho p hm.wf hm.coh (by rw [hm.typ];exact hp1) hp2 h2;have mT:=hm.split ho hp1 hp2 hp3 h2 true;have mF:=hm.split ho hp1 hp2 hp3 h2 false;have sT:=Ef c ho N (by omega) (Ar c.datas p m).2.2 true _ m hm.wf A.ok;have sF:=Ef c ho N (by omega) (Ar c.datas p m).2.2 false _ m hm.wf A.ok;have hpl:((Ar c.datas p m).2.1.length:Int)<=12:=by have:=Fo c.datas p m;omega
   have cT:=ih (N+1) _ row (left-1) (by omega) mT (by omega) (by omega) (by omega);have hLa:=FP c.datas d (c.rows.drop row) row (A3 c.datas m (Ar c.datas p m).2.1 (Ar c.datas p m).2.2 true) (left-1) (by omega);have cF:=λL2 h h'=>ih (N+1) _ (row+1) L2 (by omega) mF (by omega) h h';rw [hdr] at cT hLa;generalize B1 c.datas d (p::c.rows.drop (row+1)) row (A3 c.datas m (Ar c.datas p m).2.1 (Ar c.datas p m).2.2 true) (left-1)=TA at *;obtain ⟨⟨a1,a2,a3,a4⟩,fa,L2⟩:=TA;clear ih hnext A mT mF;generalize A3 c.datas m (Ar c.datas p m).2.1 (Ar c.datas p m).2.2 true=MT at *;generalize A3 c.datas m (Ar c.datas p m).2.1 (Ar c.datas p m).2.2 false=MF at *;generalize Ar c.datas p m=lk3 at *
   obtain ⟨q,path,h⟩:=lk3;simp only at h2 hL sT sF hpl hLa cT;subst h2;obtain ⟨ds,⟨c1,c2,c3,c4⟩,rows⟩:=c;obtain ⟨⟨so,n,x,ps⟩,nt,⟨hf,hd2,hd3,hd4⟩,ks⟩:=m;obtain ⟨h1',h2',h3',h4'⟩:=h;refine Ae Ai Tryz.func49 (by decide +kernel) rfl [1,2,3,4,5,6] rfl rfl ?_;refine Aj rfl ?_;refine Ab rfl (λh=>by exfalso;simp at h;omega) (λh=>?_);clear h;refine Ak rfl ?_;refine Ab rfl (λh=>by exfalso;simp at h;simp only at hlt;omega) (λh=>?_);clear h;refine Ak rfl ?_;refine mi rfl (c:=Ao p) (λ_=>⟨by simp,by simpa using hget,by simp⟩) (by simp) ?_;refine Aj rfl ?_;refine Ag rfl hL ?_;refine mg [] rfl (by simp;rfl) ?_;refine At rfl λh=>?_;clear h;refine Ak rfl ?_;refine At rfl λh=>?_;clear h;refine Ak rfl ?_
   refine Ag rfl sT ?_;refine Aj rfl ?_;rw [<- el,<- ed] at cT;cases fa with
   | false =>
    refine Ag rfl cT ?_;refine mg [] rfl (by simp;rfl) ?_;refine Ah rfl λh=>?_;refine Ak rfl ?_;exact Aa rfl rfl rfl
   | true =>
    have hL2:=hLa.2.2 rfl;replace cF:=cF L2 hL2 (by omega);simp only;generalize B1 ds d (rows.drop (row+1)) (row+1) MF L2=TB at *;obtain ⟨⟨b1,b2,b3,b4⟩,fb,L3⟩:=TB;rw [<- ed,<- ei] at cF;refine Ag rfl cT ?_;refine mg [] rfl (by simp;rfl) ?_;refine Ab rfl (λh=>by exfalso;simp at h;omega) (λh=>?_);clear h;refine Ak rfl ?_;refine Ag rfl sF ?_;refine Aj rfl ?_;refine Ag rfl cF ?_;refine mg [] rfl (by simp;rfl) ?_;exact Aa rfl rfl rfl
  ·rw [if_neg h2];clear ih;generalize hT:B1 c.datas (d+1) (c.rows.drop (row+1)) (row+1) m left=T at *;obtain ⟨⟨t1,t2,t3,t4⟩,ft,L3⟩:=T;rw [<- ei] at hnext;generalize Ar c.datas p m=lk3 at *;obtain ⟨q,path,h⟩:=lk3;simp only at h2 hL hrg;obtain ⟨ds,⟨c1,c2,c3,c4⟩,rows⟩:=c;obtain ⟨⟨so,n,x,ps⟩,nt,⟨hf,hd2,hd3,hd4⟩,ks⟩:=m;obtain ⟨h1',h2',h3',h4'⟩:=h;refine Ae Ai Tryz.func49 (by decide +kernel) rfl [1,2,3,4,5,6] rfl rfl ?_;refine Aj rfl ?_;refine Ab rfl (λh=>by exfalso;simp at h;omega) (λh=>?_);clear h;refine Ak rfl ?_;refine Ab rfl (λh=>by exfalso;simp at h;simp only at hlt;omega) (λh=>?_);clear h;refine Ak rfl ?_;refine mi rfl (c:=Ao p) (λ_=>⟨by simp,by simpa using hget,by simp⟩) (by simp) ?_
   refine Aj rfl ?_;refine Ag rfl hL ?_;refine mg [] rfl (by simp;rfl) ?_;by_cases e:q=1
   ·subst e;refine At rfl λh=>?_;clear h;refine Ak rfl ?_;refine Ah rfl λh=>?_;refine Ak rfl ?_;rw [el];exact Aa rfl rfl rfl
   ·rw [if_neg e];refine Ab rfl (λh=>?_) (λh=>by exfalso;simp at h;omega);refine Ak rfl ?_;refine Ag rfl hnext ?_;refine Aj rfl ?_;exact Aa rfl rfl rfl
theorem eN (c:Cse) (hb:By c=true):Al Tryz.prog 10 [.agg (dCse c)] (.tup [.agg (G9 (CR c).1),.bool (CR c).2.1]):=by
 have hG:=bD c (OkW.of hb) (CN hb).2.2.1 (RowsOk.of hb) 100 0 (Ay c.type) 0 400 (by omega) (MOk.of hb) (Nat.zero_le _) (by omega) (by omega);rw [List.drop_zero,show B1 c.datas 100 c.rows 0 (Ay c.type) 400=CR c from rfl] at hG;have hl:=FP c.datas 100 c.rows 0 (Ay c.type) 400 (by omega);rw [show B1 c.datas 100 c.rows 0 (Ay c.type) 400=CR c from rfl] at hl;generalize CR c=T at *;obtain ⟨⟨t1,t2,t3,t4⟩,fine,L⟩:=T;simp only at hl ⊢;obtain ⟨ds,⟨c1,c2,c3,c4⟩,rows⟩:=c;refine Ae Ai Tryz.func10 (by decide +kernel) rfl [1,2,3,4] rfl rfl ?_;refine Aj rfl ?_;refine Ag rfl hG ?_;cases fine with
 | true =>
  refine Aj rfl ?_;refine Aa rfl rfl ?_;simp [G9];exact hl.2.2 rfl
 | false =>
  refine Aj rfl ?_;exact Aa rfl rfl rfl
mutual
theorem Tw (ds:List Dt):∀(p:Ty) (m:Mi),(Ar ds p m).1=2->AK (Ac ds (CS ds m (Ar ds p m).2.1)).hd=0
 | .mk f n x ps,m,h=>by
  simp only [Ar] at h ⊢;by_cases h1:f=1\/f=2
  ·rw [if_pos h1] at h;simp at h
  ·rw [if_neg h1] at h ⊢;by_cases h2:AK (Ac ds m).hd=0/\Bj (Ac ds m).nt (AO (.mk f n x ps))=false
   ·rw [if_pos h2];exact h2.1
   ·rw [if_neg h2] at h ⊢;by_cases h3:AK (Ac ds m).hd=0\/AB (Ac ds m).hd (AO (.mk f n x ps))=false
    ·rw [if_pos h3] at h;simp at h
    ·rw [if_neg h3] at h ⊢;obtain ⟨j,k,e1,e2,e3⟩:=QJ ds ps (Ac ds m).ks 0 h;rw [e1];simp only [CS,Int.zero_add,Int.toNat_natCast,e2];exact e3
theorem QJ (ds:List Dt):∀(ps:List Ty) (l:List Mi) (i:Int),(AP ds i ps l).1=2->∃(j:Nat) (k:Mi),(AP ds i ps l).2.1=(i+j)::(AP ds i ps l).2.1.tail/\l[j]?=some k/\AK (Ac ds (CS ds k (AP ds i ps l).2.1.tail)).hd=0
 | [],l,i,h=>by simp [AP] at h
 | p::r,[],i,h=>by simp [AP] at h
 | p::r,k::ks,i,h=>by
  simp only [AP] at h ⊢;by_cases h1:(Ar ds p k).1=1
  ·rw [if_pos h1] at h ⊢;obtain ⟨j,y,e1,e2,e3⟩:=QJ ds r ks (i+1) h;exact ⟨j+1,y,by rw [e1];simp only [List.tail_cons,List.cons.injEq,and_true];omega,by simpa using e2,e3⟩
  ·rw [if_neg h1] at h ⊢;exact ⟨0,k,by simp,rfl,Tw ds p k h⟩
end
theorem TD {ds:List Dt} {h:Ty}:∀(path:List Int) (m:Mi),J0 ds h m path->Bj (CS ds m path).nt h=false/\Lj ds (CS ds m path).ty h
 | [],_,⟨_,h2,h3⟩=>⟨h2,h3⟩
 | _::q,_,⟨k,h1,_,h3⟩=>by simp only [CS,h1];exact TD q k h3
theorem Tg {ds:List Dt} {m:Mi} (h0:AK (Ac ds m).hd=0):Ac ds m=m:=by
 rcases Dc (ds:=ds) m with e | ⟨_,y,y1,y2⟩
 ·exact e
 ·rw [y2] at h0;exact absurd h0 (Bs (DG y1).1).2
theorem mJ {ds:List Dt} {t h:Ty} (hh:Lj ds t h):P9 ds t (Dx h)=true:=by
 rcases hh with hh | ⟨h1,n,rfl,h2,h3⟩
 ·obtain ⟨hp,hf⟩:=Bs hh;have hb:Dx h=h:=by obtain ⟨a,b,c,d⟩:=h;simp only [B4] at hp;subst hp;rfl
  rw [hb];have ht:AK t≠1:=λe=>by
   obtain ⟨a,b,c,d⟩:=t;simp only [AK] at e;subst e;simp [A6] at hh
  simp only [P9,if_neg ht,hp,Bool.and_eq_true];refine ⟨?_,rfl⟩;simp only [Bj,List.any_eq_true];exact ⟨h,hh,by obtain ⟨a,b,c,d⟩:=h;simp [AB]⟩
 ·show (if AK t=1 then _ else _)=true;rw [if_pos h1];simp [Dx,AK,Z5,Hu,Fp];omega
theorem kV (c:Cse) (ho:OkW c.datas) (N:Nat) (hN:N<=1000000):∀(path:List Int) (m:Mi),GV c.datas N m=true->In c.datas m path ->
  Al Tryz.prog 103 [.agg (dCse c),.agg (DL m),.sl (AJ path)] (.tup [.agg (DL (Ac c.datas (CS c.datas m path))),.bool true])
 | [],m,hm,hp=>by
  have hS:=HJ c m ho (AR.1 hm).1.1;simp only [CS];generalize Ac c.datas m=M at *;obtain ⟨ds,⟨c1,c2,c3,c4⟩,rows⟩:=c;obtain ⟨⟨so,n,x,ps⟩,nt,⟨hf,hd2,hd3,hd4⟩,ks⟩:=m;obtain ⟨⟨so',n',x',ps'⟩,nt',⟨hf',hd2',hd3',hd4'⟩,ks'⟩:=M;refine Ae Ai Tryz.func103 (by decide +kernel) rfl [1,2,3] rfl rfl ?_;refine Aj rfl ?_;refine Ag rfl hS ?_;refine Aj rfl ?_;refine Ab rfl (λh=>?_) (λh=>by simp [AJ] at h);refine Ak rfl ?_;exact Aa rfl rfl rfl
 | i::path,m,hm,hp=>by
  obtain ⟨p1,k,p2,p3⟩:=hp;have hS:=HJ c m ho (AR.1 hm).1.1;have hsw:=Cy ho hm;have hkl:=(List.getElem?_eq_some_iff.1 p2).1;have hR:=kV c ho N hN path k ((AR.1 hsw).2.2 k (List.mem_of_getElem? p2)) p3;have hI:=UA i 0 (((Ac c.datas m).ks.length:Int)-1);rw [show Fp i 0 (((Ac c.datas m).ks.length:Int)-1)=true by simp only [Fp,Bool.and_eq_true,decide_eq_true_eq];omega] at hI;have hk3:=(AR.1 hsw).1.2.1;simp only [CS,p2];generalize Ac c.datas (CS c.datas k path)=R at *;generalize Ac c.datas m=M at *;obtain ⟨ds,⟨c1,c2,c3,c4⟩,rows⟩:=c;obtain ⟨⟨so,n,x,ps⟩,nt,⟨hf,hd2,hd3,hd4⟩,ks⟩:=m;obtain ⟨⟨so',n',x',ps'⟩,nt',⟨hf',hd2',hd3',hd4'⟩,ks'⟩:=M;obtain ⟨⟨sr,nr,xr,pr⟩,ntr,⟨hr1,hr2,hr3,hr4⟩,kr⟩:=R
  simp only [Mi.ks] at p2 hkl hI hk3;have hdl:(Fx ks').length=ks'.length:=by rw [Ie,List.length_map]
  rw [<- hdl] at hI hk3;rw [<- B2 (x:=((Fx ks').length:Int)-1) (by omega) (by omega)] at hI;have hgk:(Fx ks')[i.toNat]?=some (DL k):=by rw [Ie,List.getElem?_map,p2];rfl
  refine Ae Ai Tryz.func103 (by decide +kernel) rfl [1,2,3] rfl rfl ?_;refine Aj rfl ?_;refine Ag rfl hS ?_;refine Aj rfl ?_;refine Ab rfl (λh=>by exfalso;simp [AJ] at h;omega) (λh=>?_);clear h;refine Ak rfl ?_;refine mi rfl (c:=[.int .i64 i]) (λ_=>⟨by simp,by simp [AJ],rfl⟩) (by simp) ?_;refine Aj rfl ?_;refine Ag rfl hI ?_;refine mg [] rfl (by simp;rfl) ?_;refine At rfl λh=>?_;clear h;refine Ak rfl ?_;refine mi rfl (c:=[.int .i64 i]) (λ_=>⟨by simp,by simp [AJ],rfl⟩) (by simp) ?_;refine Aj rfl ?_;refine mi rfl (c:=DL k) (λ_=>⟨by simpa using p1,by simpa using hgk,by simp⟩) (by simp) ?_;refine mg [] rfl (by simp;exact ⟨by omega,Qs _⟩) ?_;refine Ag rfl hR ?_;refine mg [] rfl (by simp;rfl) ?_
  exact Aa rfl rfl rfl
theorem OP (c:Cse) (m:Mi) (r:Int) (h1 : -1<=r) (h2:r<c.rows.length) (h3:c.rows.length<=1000):Al Tryz.prog 52 [.agg (dCse c),.agg (G9 (DH r)),.agg (DL m)] (.bool true):=by
 have hI:=UA r (-1) ((c.rows.length:Int)-1);rw [show Fp r (-1) ((c.rows.length:Int)-1)=true by simp only [Fp,Bool.and_eq_true,decide_eq_true_eq];omega] at hI;have hdl:(Bx c.rows).length=c.rows.length:=by rw [C8,List.length_map]
 rw [<- hdl] at hI h3;rw [<- B2 (x:=((Bx c.rows).length:Int)-1) (by omega) (by omega)] at hI;obtain ⟨ds,⟨c1,c2,c3,c4⟩,rows⟩:=c;obtain ⟨⟨so,n,x,ps⟩,nt,⟨hf,hd2,hd3,hd4⟩,ks⟩:=m;refine Ae Ai Tryz.func52 (by decide +kernel) rfl [1,2,3,4] rfl rfl ?_;refine Aj rfl ?_;refine Ab rfl (λh=>?_) (λh=>by simp [BQ] at h);refine Ak rfl ?_;refine AE rfl hI ?_;refine Aj rfl ?_;exact Au ⟨_,rfl,tV (by simp [AJ]),trivial⟩
theorem dU (l:List Ty):∀c∈BQ l,c.length=4:=λc hc=>by
 obtain ⟨x,_,rfl⟩:=List.mem_map.1 hc;exact dHd_length x
theorem W1 (c:Cse) (m q MT MF:Mi) (path:List Int) (h:Ty) (a b:Nd) (hpl:(path.length:Int)<=100) (hq0:AK q.hd=0)
  (hAt:Al Tryz.prog 103 [.agg (dCse c),.agg (DL m),.sl (AJ path)] (.tup [.agg (DL q),.bool true]))
  (hI:Al Tryz.prog 104 [.agg (dCse c),.agg (Ao q.ty),.agg (G0 h)] (.bool true))
  (hH:Al Tryz.prog 105 [.sl (BQ q.nt),.agg (G0 h)] (.bool false))
  (hH0:Al Tryz.prog 105 [.sl [],.agg (G0 h)] (.bool false))
  (sT:Al Tryz.prog 101 [.agg (dCse c),.agg (DL m),.sl (AJ path),.agg (G0 h),.bool true] (.agg (DL MT)))
  (sF:Al Tryz.prog 101 [.agg (dCse c),.agg (DL m),.sl (AJ path),.agg (G0 h),.bool false] (.agg (DL MF)))
  (hA:Al Tryz.prog 52 [.agg (dCse c),.agg (G9 a),.agg (DL MT)] (.bool true))
  (hB:Al Tryz.prog 52 [.agg (dCse c),.agg (G9 b),.agg (DL MF)] (.bool true)) :
  Al Tryz.prog 52 [.agg (dCse c),.agg (G9 (.mk 0 path [h] [a,b])),.agg (DL m)] (.bool true):=by
 obtain ⟨ds,⟨c1,c2,c3,c4⟩,rows⟩:=c;obtain ⟨⟨so,n,x,ps⟩,nt,⟨hf,hd2,hd3,hd4⟩,ks⟩:=m;obtain ⟨⟨so',n',x',ps'⟩,nt',⟨hf',hd2',hd3',hd4'⟩,ks'⟩:=q;obtain ⟨⟨so1,n1,x1,ps1⟩,nt1,⟨hf1,hd21,hd31,hd41⟩,ks1⟩:=MT;obtain ⟨⟨so2,n2,x2,ps2⟩,nt2,⟨hf2,hd22,hd32,hd42⟩,ks2⟩:=MF;obtain ⟨a1,a2,a3,a4⟩:=a;obtain ⟨b1,b2,b3,b4⟩:=b;obtain ⟨z1,z2,z3,z4⟩:=h;simp only [Mi.hd,AK] at hq0;subst hq0;refine Ae Ai Tryz.func52 (by decide +kernel) rfl [1,2,3,4,5,6,7,8] rfl rfl ?_;refine Aj rfl ?_;refine Ab rfl (λh=>by simp [BQ] at h) (λh=>?_);clear h;refine Ak rfl ?_;refine Ab rfl (λh=>by exfalso;simp at h;omega) (λh=>?_);clear h;refine Ak rfl ?_;refine Ag rfl hAt ?_;refine Aj rfl ?_
 refine Ab rfl (λh=>by exfalso;simp [HD,BQ] at h;exact h (by decide)) (λh=>?_);clear h;refine Ak rfl ?_;refine An (λi:Nat=>[(10,.imm (.int .i64 i)),(3,.ref 1 0),(4,.ref 2 0),(5,.ref 3 0),(7,.ref 4 0),(9,.ref 5 0)])
  (λi=>[(1,some (.immb 29 6 (dCse ⟨ds,.mk c1 c2 c3 c4,rows⟩))),(2,some (.immb 36 4 (G9 (.mk 0 path [.mk z1 z2 z3 z4] [.mk a1 a2 a3 a4,.mk b1 b2 b3 b4])))),(3,some (.immb 108 10 (DL (.mk (.mk so n x ps) nt (.mk hf hd2 hd3 hd4) ks)))),
   (4,some (.immb 108 10 (DL (.mk (.mk so' n' x' ps') nt' (.mk 0 hd2' hd3' hd4') ks')))),(5,some (.immb 108 10 (DL (if i=0 then .mk (.mk so n x ps) nt (.mk hf hd2 hd3 hd4) ks else .mk (.mk so2 n2 x2 ps2) nt2 (.mk hf2 hd22 hd32 hd42) ks2))))]) [6,7,8] (λi=>1-i) (λi=>i<=1) 0 (by omega)
  ⟨rfl,rfl,rfl,rfl,rfl,rfl,trivial⟩ ⟨rfl,rfl,rfl,rfl,rfl,trivial⟩ rfl λi hi ih=>?_
 obtain hi | hi:i=0\/i=1:=by omega
 ·subst hi;have hih:=ih 1 (by omega) (by omega);simp only [if_pos,if_neg (show ¬(1:Nat)=0 by decide)] at hih ⊢;refine Ak rfl ?_;refine Ab rfl (λh=>?_) (λh=>by exfalso;simp [BQ] at h);clear h;refine Ak rfl ?_;refine mi rfl (c:=G0 (.mk z1 z2 z3 z4)) (λ_=>⟨by simp,by simp [BQ],by simp⟩) (by simp) ?_;refine Aj rfl ?_;refine Ag rfl hI ?_;refine Aj rfl ?_;refine AE rfl hH ?_;refine mg [] rfl (by simp;exact dU _) ?_;refine AE rfl hH0 ?_;refine Aj rfl ?_;refine mi rfl (c:=[.int .i64 a1,.sl (AJ a2),.sl (BQ a3),.sl (HD a4)]) (λ_=>⟨by simp,by simp [HD,G9],by simp⟩) (by simp [Ap]) ?_;refine Aj rfl ?_;refine AE rfl sT ?_;refine Aj rfl ?_;refine AE rfl hA ?_;refine mg [] rfl (by simp;kernel_rfl) ?_
  refine At rfl λh=>?_;clear h;refine Ak rfl ?_;refine Ag rfl sF ?_;refine Aj rfl ?_;exact Ad hih ⟨A0 (B2 (by omega) (by omega)),rfl,rfl,rfl,rfl,rfl,trivial⟩ ⟨rfl,rfl,rfl,rfl,rfl,trivial⟩ rfl
 ·subst hi;simp only [if_neg (show ¬(1:Nat)=0 by decide)];refine Ak rfl ?_;refine Ab rfl (λh=>by exfalso;simp [BQ] at h) (λh=>?_);clear h;refine Aw rfl ?_;refine Ak rfl ?_;refine mi rfl (c:=G9 (.mk b1 b2 b3 b4)) (λ_=>⟨by simp [BQ],by simp [BQ,HD],by simp⟩) (by simp) ?_;refine Aj rfl ?_;refine Ag rfl hB ?_;refine mg [] rfl (by simp;rfl) ?_;exact Aa rfl rfl rfl
theorem Rh {c:Cse} (ho:OkW c.datas) (hr:RowsOk c) {K:Nat->Mi->Nat->Nd->Prop} (B:Mi->Nat->Prop)
  (hleaf:∀N m row p,N<=100000->MOk c.datas c.type N m->B m row->c.rows[row]?=some p->(Ar c.datas p m).1=1->K N m row (DH row))
  (hend:∀N m,N<=100000->MOk c.datas c.type N m->B m c.rows.length->K N m c.rows.length (DH (-1)))
  (hskip:∀N m row p t,N<=100000->MOk c.datas c.type N m->B m row->c.rows[row]?=some p->(Ar c.datas p m).1=0->B m (row+1)/\(K N m (row+1) t->K N m row t))
  (hsplit:∀N m row p a b,N<=100000->MOk c.datas c.type N m->B m row->c.rows[row]?=some p->(Ar c.datas p m).1=2 ->
   B (A3 c.datas m (Ar c.datas p m).2.1 (Ar c.datas p m).2.2 true) row/\B (A3 c.datas m (Ar c.datas p m).2.1 (Ar c.datas p m).2.2 false) (row+1) /\
   (K (N+1) (A3 c.datas m (Ar c.datas p m).2.1 (Ar c.datas p m).2.2 true) row a->K (N+1) (A3 c.datas m (Ar c.datas p m).2.1 (Ar c.datas p m).2.2 false) (row+1) b->K N m row (.mk 0 (Ar c.datas p m).2.1 [(Ar c.datas p m).2.2] [a,b]))) :
  ∀(d N:Nat) (m:Mi) (row:Nat) (left:Int),N+d<=100000->MOk c.datas c.type N m->B m row->row<=c.rows.length->(B1 c.datas d (c.rows.drop row) row m left).2.1=true->K N m row (B1 c.datas d (c.rows.drop row) row m left).1:=by
 intro d
 induction d with
 | zero=>intro N m row left _ _ _ _ h;simp [B1] at h
 | succ d ih =>
 intro N m row left hN hm hB hrow hf;by_cases hl:left<1
 ·rw [D9,if_pos hl] at hf;simp at hf
 obtain ⟨k,hk⟩:∃k,c.rows.length-row=k:=⟨_,rfl⟩
 induction k generalizing row with
 | zero =>
  have:row=c.rows.length:=by omega
  subst this;rw [D9,if_neg hl,List.drop_eq_nil_of_le (Nat.le_refl _)];exact hend N m (by omega) hm hB
 | succ k ihk =>
  have hlt:row<c.rows.length:=by omega
  obtain ⟨p,hp⟩:=As hlt;obtain ⟨hp1,hp2,hp3⟩:=hr.pat p (List.mem_of_getElem? hp);have hdr:=Av hp;have hrg:=FK c.datas p m;by_cases h2:(Ar c.datas p m).1=2
  ·rw [D9,if_neg hl,hdr] at hf ⊢;simp only [Es] at hf ⊢;rw [if_pos h2] at hf ⊢;have mT:=hm.split ho hp1 hp2 hp3 h2 true;have mF:=hm.split ho hp1 hp2 hp3 h2 false;obtain ⟨s1,s2,s3⟩:=hsplit N m row p (B1 c.datas d (p::c.rows.drop (row+1)) row (A3 c.datas m (Ar c.datas p m).2.1 (Ar c.datas p m).2.2 true) (left-1)).1 (B1 c.datas d (c.rows.drop (row+1)) (row+1) (A3 c.datas m (Ar c.datas p m).2.1 (Ar c.datas p m).2.2 false) (B1 c.datas d (p::c.rows.drop (row+1)) row (A3 c.datas m (Ar c.datas p m).2.1 (Ar c.datas p m).2.2 true) (left-1)).2.2).1 (by omega) hm hB hp h2;have iA:=ih (N+1) _ row (left-1) (by omega) mT s1 hrow;rw [hdr] at iA
   generalize B1 c.datas d (p::c.rows.drop (row+1)) row (A3 c.datas m (Ar c.datas p m).2.1 (Ar c.datas p m).2.2 true) (left-1)=A at *;obtain ⟨a,fa,L2⟩:=A;have iB:=ih (N+1) _ (row+1) L2 (by omega) mF s2 (by omega);simp only at iA iB s3 hf ⊢;cases fa with
   | false=>simp at hf
   | true =>
    simp only at hf ⊢;exact s3 (iA rfl) (iB hf)
  ·by_cases h1:(Ar c.datas p m).1=1
   ·rw [D9,if_neg hl,hdr];simp only [Es];rw [if_neg h2,if_pos h1];exact hleaf N m row p (by omega) hm hB hp h1
   ·have e:B1 c.datas (d+1) (c.rows.drop row) row m left=B1 c.datas (d+1) (c.rows.drop (row+1)) (row+1) m left:=by
     rw [D9 (l:=c.rows.drop row),if_neg hl,D9 (l:=c.rows.drop (row+1)),if_neg hl,hdr];simp only [Es];rw [if_neg h2,if_neg h1]
    rw [e] at hf ⊢;obtain ⟨b1,b2⟩:=hskip N m row p (B1 c.datas (d+1) (c.rows.drop (row+1)) (row+1) m left).1 (by omega) hm hB hp (by omega);exact b2 (ihk (row+1) b1 (by omega) hf (by omega))
theorem Tb {P:Program} {f:FuncId} {vs vs':List V} {v:V} (hl:vs'.length=vs.length) (hv:∀(i:Nat) (x:V),vs'[i]?=some x->vs[i]?=some x\/∃z,vs[i]?=some z/\x=unn z) (h:Al P f vs' v):Al P f vs v:=by
 intro I μ w xs hst hx;refine h I μ w xs hst ⟨by rw [hx.1];simp [hl],λi u d hu hd=>?_⟩;rw [List.getElem?_map] at hd;cases hz:vs'[i]? with
 | none=>rw [hz] at hd;cases hd
 | some x =>
  rw [hz] at hd;cases hd;rcases hv i x hz with h | ⟨z,h,rfl⟩
  ·exact hx.2 i u (.imm x) hu (by rw [List.getElem?_map,h];rfl)
  ·exact .imm _ _ (hx.2 i u (.imm z) hu (by rw [List.getElem?_map,h];rfl)).immInv.unn
theorem dG (c:Cse) (ho:OkW c.datas) {t h:Ty} (hn:AI c.datas t=true) (hh:Lj c.datas t h):Al Tryz.prog 104 [.agg (dCse c),.agg (Ao t),.agg (G0 h)] (.bool true):=by
 have:=Yt c t (Dx h) ho.okd hn;rw [mJ hh] at this;generalize dCse c=C at *;generalize Ao t=T at *;refine Tb (vs':=[.agg C,.agg T,.agg (Ao (Dx h))]) rfl (λi x hx=>?_) this
 match i,hx with
 | 0,hx=>exact .inl hx
 | 1,hx=>exact .inl hx
 | 2,hx =>
  refine .inr ⟨.agg (G0 h),rfl,?_⟩;rw [<- Option.some.inj hx];simp only [unn,PV]
theorem W2 (c:Cse) (ho:OkW c.datas) (hr:RowsOk c):∀(d N:Nat) (m:Mi) (row:Nat) (left:Int),N+d<=100000->MOk c.datas c.type N m->row<=c.rows.length->(B1 c.datas d (c.rows.drop row) row m left).2.1=true ->
  Al Tryz.prog 52 [.agg (dCse c),.agg (G9 (B1 c.datas d (c.rows.drop row) row m left).1),.agg (DL m)] (.bool true):=by
 have hrl:=hr.len;intro d N m row left hN hm hrow hf;refine Rh ho hr (K:=λ_ m _ t=>Al Tryz.prog 52 [.agg (dCse c),.agg (G9 t),.agg (DL m)] (.bool true)) (λ_ _=>True)
  (λN m row p _ _ _ hp _=>OP c m row (by omega) (by have:=(List.getElem?_eq_some_iff.1 hp).1;omega) (by omega))
  (λN m _ _ _=>OP c m (-1) (by omega) (by omega) (by omega))
  (λN m row p t _ _ _ _ _=>⟨trivial,λh=>h⟩) (λN m row p a b hN hm _ hp h2=>⟨trivial,trivial,λhA hB=>?_⟩) d N m row left hN hm trivial hrow hf
 obtain ⟨hp1,hp2,hp3⟩:=hr.pat p (List.mem_of_getElem? hp);have A:=GB ho p hm.wf hm.coh (by rw [hm.typ];exact hp1) hp2 h2;have hfree:=(Jp ho p (v:=zT) hm.wf hm.coh (by rw [hm.typ];exact hp1) hp2).1 h2;have hop:=Tw c.datas p m h2;have hat:=kV c ho N (by omega) (Ar c.datas p m).2.1 m hm.wf A.ok;have sT:=Ef c ho N (by omega) (Ar c.datas p m).2.2 true _ m hm.wf A.ok;have sF:=Ef c ho N (by omega) (Ar c.datas p m).2.2 false _ m hm.wf A.ok;have hwp:=AR.1 (Ue ho (Ar c.datas p m).2.1 m hm.wf A.ok);obtain ⟨f1,f2⟩:=TD _ _ hfree;have hlen:=Fo c.datas p m;rw [Tg hop] at hat hop;have hI:=dG c ho hwp.1.1 f2;refine W1 c m _ _ _ _ _ a b (by omega) hop hat hI ?_ ?_ sT sF hA hB
 ·have:=Kw (CS c.datas m (Ar c.datas p m).2.1).nt (Ar c.datas p m).2.2;rw [f1] at this;exact this
 ·exact Kw [] (Ar c.datas p m).2.2
end Go.Hk
