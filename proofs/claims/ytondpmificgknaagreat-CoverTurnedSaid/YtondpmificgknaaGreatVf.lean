/- hearthlaw04.CoverTurned returns true for every case, row and value, and changes nothing: rows that match no value both can change places. No condition. (And what it stands on.) -/
import Derived.Test.YtondpmificgknaaGreatVe
import Derived.Test.YtondpmificgknaaGreatVb
import Derived.Below
import Derived.ChangeSame
import Derived.ChangeOld
import Derived.Carry
import Derived.ChangeArms
import Derived.DataReads
import Derived.WideKeyArgs
import Derived.OpenShut
import Derived.RowKit
import Derived.ProofKit
import Derived.Test.YtondpmificgknaaGreatRows
import Derived.WalkKit
set_option linter.unusedSimpArgs false
set_option linter.unusedVariables false

set_option maxRecDepth 100000
namespace Go.Hk
open Go.Proofs
section
variable {I J:Imm} {w w':World} {ty:Ty} {nt:List Ty} {hd:Ty} {ks:List Mi} {nv kv:Value} {kbs:List Nat} {b:Nat} {us:List Value} {bs:List Nat}
def Y7 (I:Imm) (w:World) (ty hd:Ty) (nv kv:Value) (b:Nat):Prop:=∃vs ts hs,w.heap[b]?=some (.cells vs 177 (0,0))/\vs.toList=ts++hs++[nv,kv]/\RepVL I ts (dTyc ty)/\RepVL I hs (Be hd)
def YE (ty:Ty) (nt:List Ty) (hd:Ty) (ks:List Mi) (b:Nat):Asn where
 P us I w bs:=∃v nv kv kbs Fk,us=[v]/\Y7 I w ty hd nv kv b/\Sc I w nt nv/\JO w kbs v/\Dh I w ks kbs Fk/\(AG nv v b++Fk).Nodup/\∀q∈AG nv v b++Fk,q∈bs
 mono:=λh ⟨v,nv,kv,kbs,Fk,h0,⟨vs,ts,hs,h1,h2,h3,h4⟩,⟨⟨xs,h5,h6⟩,h7⟩,h8,h9,h10⟩=>⟨v,nv,kv,kbs,Fk,h0,⟨vs,ts,hs,h1,h2,h3.mono h,h4.mono h⟩,⟨⟨xs,h5,h6.mono h⟩,h7⟩,h8,D2 h h9,h10⟩
 loc:=λh ⟨v,nv,kv,kbs,Fk,h0,⟨vs,ts,hs,h1,h2⟩,⟨⟨xs,h5,h6⟩,h7⟩,h8,h9,h10,h11⟩=>⟨v,nv,kv,kbs,Fk,h0,⟨vs,ts,hs,(h b (h11 b (by simp [AG]))).trans h1,h2⟩,
  ⟨⟨xs,BG (λq hq=>h q (h11 q (by simp only [AG,List.cons_append,List.mem_cons,List.mem_append];exact .inr (.inl (.inl hq))))) h5,h6⟩,h7⟩,BG (λq hq=>h q (h11 q (by simp only [AG,List.cons_append,List.mem_cons,List.mem_append];exact .inr (.inl (.inr hq))))) h8,
  Cr (λq hq=>h q (h11 q (by simp [hq]))) h9,h10,h11⟩
theorem Tt {e:TypeId} {sz:Nat} {base v':Value} {len:Nat} {xs news:List Value} (h:TL w e sz base len xs news v' w') {q:Nat} (hq:q∈v'.ownBlock.toList):(q∈base.ownBlock.toList)\/w.heap.size<=q:=by
 have hq:v'.ownBlock=some q:=by simpa [Option.mem_toList] using hq
 rcases h.2.2 q hq with h | h
 ·exact .inl (by simp [h])
 ·exact .inr h
theorem YA {k:Mi} {bytes:Nat} (hb:bytes<=100000) (hl:ks.length<=100):gJ (CD ty nt hd ks nv kv kbs b) (gB 109 (Hv k)) (YE ty nt hd (ks++[k]) b) 109 1 bytes kv:=by
 intro us vs I w b1 b2 ⟨Fk,⟨hcell,hnot,hrow⟩,h2,h3,h4⟩ ⟨c,u,us2,bs',g1,g2,g3,g4,⟨kb,F,g5,g6,g7⟩,g8,g9⟩ hdis;subst g5;have hkb:kbs.length<=100:=by rw [GB h2];exact hl
 have hu:u=ptr kb:=by simpa using g2.symm
 subst hu;refine ⟨kbs.length,1,1,kbs.map ptr,[ptr kb],⟨c,0,none⟩,hrow,λq hq=>h4 q (by simp [AG,hq]),by rw [g1];rfl,rfl,λj u hu=>?_,λu hu=>by simp at hu;subst hu;rfl,⟨by simp only [maxLen];omega,?_⟩,λv' w' hg=>?_⟩
 ·match j with
  | 0 =>
   simp at hu;subst hu;rw [Da];exact Dj g3 0 _ (by simp)
  | j+1=>simp at hu
 ·have:(kbs.length+1)*bytes<=101*100000:=Nat.mul_le_mul (by omega) hb;omega
 have hb2:∀q∈F,q∈b2:=λq hq=>by rw [g9];exact List.mem_cons_of_mem _ (g7 q hq)
 have hne:∀q,q<w.heap.size->q∉kv.ownBlock.toList->w'.heap[q]?=w.heap[q]?:=λq hq hk=>hg.2.1.block q hq (λe=>hk (by simp [e]));have hbase:∀q∈kv.ownBlock.toList,q∈b1:=λq hq=>h4 q (by simp only [AG,List.cons_append,List.mem_cons,List.mem_append];exact .inr (.inl (.inr hq)));have hnod:=h3;simp only [AG,List.cons_append,List.append_assoc] at hnod;obtain ⟨n1,n2⟩:=List.nodup_cons.1 hnod;obtain ⟨n3,n4,n5⟩:=List.nodup_append.1 n2;obtain ⟨n6,n7,n8⟩:=List.nodup_append.1 n4;have hbk:b∉kv.ownBlock.toList:=λh=>n1 (by simp only [List.mem_append];exact .inr (.inl h));have hnk:∀q∈nv.ownBlock.toList,q∉kv.ownBlock.toList:=λq hq hk=>n5 q hq q (by simp only [List.mem_append];exact .inl hk) rfl
 have hFk:∀q∈Fk,q∉kv.ownBlock.toList:=λq hq hk=>n8 q hk q hq rfl;have hltn:=Tw (I:=I) (w:=w) (ty:=ty) (nt:=nt) (hd:=hd) (nv:=nv) (kv:=kv) (kbs:=kbs) (b:=b) ⟨hcell,hnot,hrow⟩;have hltb:b<w.heap.size:=hltn b (by simp [AG]);have hltnv:∀q∈nv.ownBlock.toList,q<w.heap.size:=λq hq=>hltn q (by simp only [AG,List.mem_cons,List.mem_append];exact .inr (.inl hq));have hltF:=OP h2;have hltG:=Ym g6;have hFb:∀q∈F,q∉kv.ownBlock.toList:=λq hq hk=>hdis q (hbase q hk) (hb2 q hq);refine ⟨AG nv v' b++(Fk++F),λq hq=>?_,v',nv,kv,kbs++[kb],Fk++F,rfl,?_,?_,?_,?_,?_,λq hq=>hq⟩
 ·simp only [AG,List.cons_append,List.mem_cons,List.mem_append] at hq;have hw:q∈b1\/q∈b2\/(w.heap.size<=q/\q∈v'.ownBlock.toList):=by
   rcases hq with rfl | (hq | hq) | hq | hq
   ·exact .inl (h4 q (by simp [AG]))
   ·exact .inl (h4 q (by simp only [AG,List.cons_append,List.mem_cons,List.mem_append];exact .inr (.inl (.inl hq))))
   ·rcases Tt hg hq with h | h
    ·exact .inl (hbase q h)
    ·exact .inr (.inr ⟨h,hq⟩)
   ·exact .inl (h4 q (by simp [hq]))
   ·exact .inr (.inl (hb2 q hq))
  rcases hw with h | h | ⟨h,hq⟩
  ·exact .inl (.inl h)
  ·exact .inl (.inr h)
  ·exact .inr ⟨h,PJ hg.1 hq⟩
 ·obtain ⟨vs0,ts,hs,c1,c2⟩:=hcell;exact ⟨vs0,ts,hs,(hne b hltb hbk).trans c1,c2⟩
 ·obtain ⟨⟨xs,x1,x2⟩,x3⟩:=hnot;exact ⟨⟨xs,BG (λq hq=>hne q (hltnv q hq) (hnk q hq)) x1,x2⟩,x3⟩
 ·have:=hg.1;simp only [JO,List.map_append,List.length_append,List.length_cons,List.length_nil,List.map_cons,List.map_nil];exact this
 ·exact Kq (Cr (λq hq=>hne q (hltF q hq) (hFk q hq)) h2) ⟨kb,[],F,[],rfl,G8 (λq hq=>hne q (hltG q hq) (hFb q hq)) g6,⟨rfl,rfl⟩,by simp⟩
 ·have hv1:∀q∈v'.ownBlock.toList,q∈kv.ownBlock.toList\/w.heap.size<=q:=λq hq=>Tt hg hq;have hvn:v'.ownBlock.toList.Nodup:=by cases v'.ownBlock <;> simp
  simp only [AG,List.cons_append,List.append_assoc];refine List.nodup_cons.2 ⟨λh=>?_,List.nodup_append.2 ⟨n3,List.nodup_append.2 ⟨hvn,List.nodup_append.2 ⟨n7,Iv g6,λx hx y hy e=>?_⟩,λx hx y hy e=>?_⟩,λx hx y hy e=>?_⟩⟩
  ·simp only [List.mem_append] at h;rcases h with h | h | h | h
   ·exact n1 (by simp only [List.mem_append];exact .inl h)
   ·rcases hv1 b h with h | h
    ·exact hbk h
    ·omega
   ·exact n1 (by simp only [List.mem_append];exact .inr (.inr h))
   ·exact hdis b (h4 b (by simp [AG])) (hb2 b h)
  ·subst e;exact hdis x (h4 x (by simp [hx])) (hb2 x hy)
  ·subst e;rcases List.mem_append.1 hy with hy | hy
   ·rcases hv1 x hx with h | h
    ·exact hFk x hy h
    ·have:=hltF x hy;omega
   ·rcases hv1 x hx with h | h
    ·exact hFb x hy h
    ·have:=hltG x hy;omega
  ·subst e;have hxb1:x∈b1:=h4 x (by simp only [AG,List.cons_append,List.mem_cons,List.mem_append];exact .inr (.inl (.inl hx)));simp only [List.mem_append] at hy;rcases hy with hy | hy | hy
   ·rcases hv1 x hy with h | h
    ·exact hnk x hx h
    ·have:=hltnv x hx;omega
   ·exact n5 x hx x (by simp only [List.mem_append];exact .inr hy) rfl
   ·exact hdis x hxb1 (hb2 x hy)
theorem Yj {vs:List Value} (h:(CD ty nt hd ks nv kv kbs b).P us I w bs):(CD ty nt hd ks nv kv kbs b).P vs I w bs:=h
theorem U1:QW (YE ty nt hd ks b) (AV (.mk ty nt hd ks) b) b 8 0:=by
 intro us I w bs ⟨v,nv,kv,kbs,Fk,h0,⟨vs,ts,hs,h1,h2,h3,h4⟩,h5,h6,h7,h8,h9⟩;have e1:ts.length=4:=by rw [h3.1,Pk]
 have e2:hs.length=3:=by rw [h4.1];simp
 have hl:vs.toList.length=9:=by rw [h2];simp [e1,e2]
 refine ⟨h9 b (by simp [AG]),vs,_,h1,by simp at hl;omega,λu hu h1u=>?_⟩;subst h0;have hu:v=u:=by simpa using hu
 subst hu;have hne:=KC h8;refine ⟨AG nv v b++Fk,⟨nv,v,kbs,Fk,⟨⟨_,ts,hs,setRow_heap w b vs _ _ _ h1,?_,h3,h4⟩,⟨?_,h5.2⟩,?_⟩,?_,rfl,h8⟩,h9⟩
 ·rw [List.toList_toArray,h2]
  match ts,e1 with
  | [a0,a1,a2,a3],_ =>
  match hs,e2 with
  | [a4,a5,a6],_=>simp
 ·obtain ⟨⟨xs,x1,x2⟩,_⟩:=h5;exact ⟨xs,BG (λq hq=>CG (hne q (by simp only [List.mem_append];exact .inl (.inl hq)))) x1,x2⟩
 ·exact BG (λq hq=>CG (hne q (by simp only [List.mem_append];exact .inl (.inr hq)))) h6
 ·exact Cr (λq hq=>CG (hne q (by simp only [List.mem_append];exact .inr hq))) h7
end
set_option maxHeartbeats 2000000 in
theorem Xk (c:Cse) (sz:List (List V)) (m:Mi) (h:Ty) (b:Nat) (ho:OkW c.datas) (hn:AB c.datas m.ty=true) :
  Bc Tryz.prog 156 [.imm (AL c sz),.raw (ptr b),.imm (.agg (Be h))] [(1,some (.hp (AV m b)))] (.ret GW [(2,some (.hp (AV (AX c.datas m h) b)))]):=by
 have hA:=Pb c sz m.ty (C4 h) ho.dif hn;have hlen:=Ep ho m.ty (C4 h);simp only [AX];generalize AK c.datas m.ty (C4 h)=L at *;obtain ⟨L,lb⟩:=L;simp only at hA hlen ⊢;obtain ⟨⟨so,n,x,ps⟩,nt,⟨f,hd2,hd3,hd4⟩,ks⟩:=m;obtain ⟨h1,h2,h3,h4⟩:=h;simp only [Mi.ty] at *;refine Ad Aj Tryz.func156 (by decide +kernel) rfl [2,3,4,5,6,7,8] rfl rfl ?_;refine JV 1 2 (λy:Value×Value×List Nat=>CD _ nt _ ks y.1 y.2.1 y.2.2 b) rfl (λvs I w bs h=>let ⟨y,hy⟩:=JI h;⟨y,bs,λq hq=>hq,Yj hy⟩) λy=>?_;obtain ⟨nv,kv,kbs⟩:=y;refine md [] rfl (by simp) ?_;refine Qw Aj 2 _ rfl rfl (bM (.mk h1 h2 h3 h4)) ?_;refine mg [] rfl (by simp) ?_;refine Qw Aj 2 _ rfl rfl bK ?_;refine mg [] rfl (by simp) ?_;refine Qw Aj 2 _ rfl rfl bL ?_
 refine mg [] rfl (by simp) ?_;refine Bl Aj 2 ((dTyc (.mk so n x ps)).map .imm) rfl rfl (λ_ vs I w bs h=>JK h) rfl rfl (by simp [Ah]) ?_;refine mg [] rfl (by simp [Ah]) ?_;refine Ac rfl (λ_=>hA) (by simp [Ah]) ?_;refine mg [] rfl (by simp [Ah];rfl) ?_;have el:∀i t,L[i]?=some t->(L.take (i+1)).map Aq=(L.take i).map Aq++[Aq t]:=λi t ht=>by rw [Bb ht,List.map_append];rfl
 refine BU 2 (λ_:Unit=>AV (.mk (.mk so n x ps) [] (.mk h1 h2 h3 h4) []) b) rfl (λvs I w bs h=>⟨(),JJ h⟩) λ_=>?_;refine Ak (λi:Nat=>[(33,.imm (.int .i64 i)),(32,.imm (.int .i64 L.length)),(31,.imm (.sl (Bq L))),(1,.raw (ptr b)),(0,.imm (AL c sz))])
  (λi=>[(2,some (.hp (AV (.mk (.mk so n x ps) [] (.mk h1 h2 h3 h4) ((L.take i).map Aq)) b)))]) [4,5,6,7,8] (λi=>L.length-i)
  (λi=>i<=L.length) 0 (Nat.zero_le _) ⟨rfl,As (by simp),rfl,rfl,rfl,trivial⟩ ⟨rfl,trivial⟩ rfl λi hi ih=>?_
 refine md [] rfl (by simp) ?_;refine Aa rfl (λh=>?_) (λh=>?_)
 ·simp at h;obtain ⟨t,ht⟩:=Am h;have hih:=ih (i+1) (by omega) (by omega);rw [el i t ht] at hih;have hkl:((L.take i).map Aq).length<=100:=by simp;omega
  generalize (L.take i).map Aq=K at *;refine BU 2 (λy:Value×Value×List Nat=>CD (.mk so n x ps) [] (.mk h1 h2 h3 h4) K y.1 y.2.1 y.2.2 b) rfl (λvs I w bs h=>JI h) λy=>?_;obtain ⟨nv,kv,kbs⟩:=y;refine md [] rfl (by simp) ?_;refine mi rfl (c:=dTyc t) (λ_=>⟨by simp,by simpa using At ht,by simp⟩) (by simp) ?_;obtain ⟨t1,t2,t3,t4⟩:=t;refine mg [] rfl (by simp) ?_;refine Bl Aj 2 [.raw kv] rfl rfl (λ_ vs I w bs h=>JL h) rfl rfl (by simp [Ah]) ?_;refine mg [] rfl (by simp [Ah]) ?_;refine Ce [] [(2,5)] [] (fr:=[5]) (nm:=[5]) rfl trivial (by simp) (GD (AL c sz) (.mk t1 t2 t3 t4)) trivial rfl trivial rfl rfl rfl ?_;refine mg [] rfl (by simp) ?_;refine eP Aj 5 6 rfl rfl ?_;refine mg [] rfl (by simp) ?_
  refine eQ Aj 2 6 7 (YE (.mk so n x ps) [] (.mk h1 h2 h3 h4) (K++[Aq (.mk t1 t2 t3 t4)]) b) rfl rfl rfl (by decide) (YA (bytes:=8) (by decide) hkl) ?_;refine mg [] rfl (by simp) ?_;refine MY Aj 7 _ rfl rfl U1 ?_;refine mg [] rfl (by simp [Ah];rfl) ?_;refine A6 2 7 rfl ?_;exact Ae hih ⟨As (B9 (by omega) (by omega)),rfl,rfl,rfl,rfl,trivial⟩ ⟨rfl,trivial⟩ rfl
 ·simp at h;refine Ar rfl ?_;rw [List.take_of_length_le (by omega)];exact Cn ⟨_,rfl,rfl,rfl,trivial⟩
end Go.Hk
namespace Go.Hk
open Go.Proofs
def O5 (q:Ty->Bool):Int->List Ty->Int
 | _,[]=>-1
 | i,x::r=>if q x=true then i else O5 q (i+1) r
theorem Sv (q:Ty->Bool):∀(l:List Ty) (i:Nat),(O5 q i l = -1/\∀x∈l,q x=false)\/∃(k:Nat) (x:Ty),O5 q i l=((i+k:Nat):Int)/\l[k]?=some x/\q x=true/\∀y∈l.take k,q y=false
 | [],i=>.inl ⟨rfl,λx hx=>by cases hx⟩
 | x::r,i=>by
  by_cases hx:q x=true
  ·exact .inr ⟨0,x,by simp only [O5,if_pos hx];rfl,rfl,hx,λy hy=>by simp at hy⟩
  ·have hxf:q x=false:=by simpa using hx
   have e:O5 q i (x::r)=O5 q ((i+1:Nat):Int) r:=by simp only [O5,if_neg hx];rfl
   rw [e];rcases Sv q r (i+1) with ⟨h1,h2⟩ | ⟨k,y,h1,h2,h3,h4⟩
   ·exact .inl ⟨h1,λy hy=>by rcases List.mem_cons.1 hy with rfl | hy;exact hxf;exact h2 y hy⟩
   ·refine .inr ⟨k+1,y,by rw [h1];congr 1;omega,by simpa using h2,h3,λz hz=>?_⟩;rw [List.take_succ_cons] at hz;rcases List.mem_cons.1 hz with rfl | hz
    ·exact hxf
    ·exact h4 z hz
theorem R0 (L:List Ty) (g:FuncId) (a b:List V) (q:Ty->Bool) (hq:∀h,Al Tryz.prog g (a++[.agg (Be h)]++b) (.bool (q h))) :
  Al Tryz.prog 215 [.sl (Bp L),.clo (.func g) a b] (.int .i64 (O5 q 0 L)):=by
 refine AF λhv=>?_;simp [Ca,Ee,maxLen] at hv;have hl:=hv.1;refine Ad Aj Tryz.func215 (by decide +kernel) rfl [1,2] rfl rfl ?_;refine mg [] rfl (by simp) ?_;refine Ak (λi:Nat=>[(8,.imm (.int .i64 i)),(7,.imm (.int .i64 L.length)),(0,.imm (.sl (Bp L))),(1,.imm (.clo (.func g) a b))]) (λ_=>[]) [1,2] (λi=>L.length-i) (λi=>i<=L.length/\O5 q 0 L=O5 q i (L.drop i)) 0
  ⟨Nat.zero_le _,rfl⟩ ⟨rfl,As (by simp),rfl,rfl,trivial⟩ trivial rfl λi hi ih=>?_
 obtain ⟨hi1,hi2⟩:=hi;refine md [] rfl (by simp) ?_;refine Aa rfl (λh=>?_) (λh=>?_)
 ·simp at h;obtain ⟨x,hx⟩:=Am h;rw [An hx] at hi2;simp only [O5] at hi2;have hqx:=hq x;refine md [] rfl (by simp) ?_;refine mi rfl (c:=Be x) (λ_=>⟨by simp,by simpa using Ju hx,by simp⟩) (by simp) ?_;obtain ⟨x1,x2,x3,x4⟩:=x;refine mg [] rfl (by simp) ?_;refine OT rfl (λ_=>hqx) (by simp) ?_;refine mg [] rfl (by simp) ?_;cases hb:q (.mk x1 x2 x3 x4) with
  | true =>
   rw [if_pos hb] at hi2;refine Aa rfl (λh=>?_) (λh=>by simp at h);refine md [] rfl (by simp) ?_;refine Ab ⟨_,rfl,tV ?_,trivial⟩;rw [hi2]
  | false =>
   rw [if_neg (by simp [hb])] at hi2;refine Aa rfl (λh=>by simp at h) (λh=>?_);refine md [] rfl (by simp) ?_;exact Ae (ih (i+1) (by omega) ⟨by omega,hi2⟩) ⟨As (B9 (by omega) (by omega)),rfl,rfl,rfl,trivial⟩ trivial rfl
 ·simp at h;rw [List.drop_eq_nil_of_le (by omega)] at hi2;refine Ar rfl ?_;refine md [] rfl (by simp) ?_;refine Ab ⟨_,rfl,tV ?_,trivial⟩;rw [hi2];rfl
theorem P8 {e:TypeId} {sz:Nat} {es:List (List V)} {v:Value} {vs:List Value} {I:Imm} {w:World} {bs:List Nat} (hp:0<sz) (h:(TK e sz es v).P vs I w bs) :
  ∃xs,w.ownsRow 0 e sz v es.length xs/\RepVL I xs es.flatten/\(∀c∈es,c.length=sz)/\(∀c∈es,∀x∈c,V.one x=true)/\0<sz/\∀k,v.ownBlock=some k->k∈bs:=by
 rcases h with ⟨rfl,rfl,rfl⟩ | ⟨b,cap,cur,rfl,rfl,h3,h4,h5,h6,h7,h8,h9,h10⟩
 ·exact ⟨[],World.ownsRow_nil w 0 e sz,.nil,by simp,by simp,hp,λk hk=>by cases hk⟩
 ·have hcs:cur.toList.length=cap*sz:=by simpa using h6
  refine ⟨_,⟨by rw [List.length_take,hcs];exact Nat.min_eq_left (Nat.mul_le_mul_right _ h4),.inr ⟨b,cap,cur,rfl,Nat.zero_le _,h3,h4,h5,h6,rfl⟩⟩,h7,h8,h9,h10,λk hk=>by simpa [Value.ownBlock] using hk.symm⟩
theorem aG {e:TypeId} {sz:Nat} {es es1:List (List V)} {b cap len:Nat} (hes:es1=es.take es1.length) (hlen:es.length=es1.length+len):TM (TK e sz es (.slice (some ⟨b,0,none⟩) es.length cap)) (TK e sz es1 (.slice (some ⟨b,0,none⟩) es1.length cap)) b (es1.length*sz) (len*sz):=by
 intro us I w bs h;rcases h with ⟨h,_⟩ | ⟨b',cap',cur,h1,h2,h3,h4,h5,h6,h7,h8,h9,h10⟩
 ·cases h
 cases h1;subst h2;refine ⟨by simp,cur,e,h3,by rw [h6,<- Nat.add_mul,<- hlen];exact Nat.mul_le_mul_right _ h4,λnews n1 n2=>?_⟩;have hle:es1.length<=es.length:=by omega
 have hcs:cur.toList.length=cap*sz:=by simpa using h6
 have hc:es1.length*sz<=cur.toList.length:=by rw [hcs];exact Nat.mul_le_mul_right _ (by omega)
 have hmem:∀c∈es1,c∈es:=λc hc=>by rw [hes] at hc;exact List.mem_of_mem_take hc
 refine .inr ⟨b,cap,_,rfl,rfl,setRow_heap w b cur _ e _ h3,by omega,h5,?_,?_,λc hc=>h8 c (hmem c hc),λc hc=>h9 c (hmem c hc),h10⟩
 ·have e1:es1.length*sz+len*sz<=cap*sz:=by rw [<- Nat.add_mul,<- hlen];exact Nat.mul_le_mul_right _ h4
  rw [List.size_toArray,List.length_append,List.length_append,List.length_take,List.length_drop,hcs,n1];omega
 ·rw [List.toList_toArray,List.append_assoc,List.take_append_of_le_length (by rw [List.length_take];omega),List.take_take,Nat.min_self];have e2:cur.toList.take (es1.length*sz)=(cur.toList.take (es.length*sz)).take (es1.length*sz):=by rw [List.take_take,Nat.min_eq_left (Nat.mul_le_mul_right _ hle)]
  have e3:es1.flatten=es.flatten.take (es1.length*sz):=by
   have:=congrArg List.flatten (List.take_append_drop es1.length es);rw [<- hes,List.flatten_append] at this;rw [<- this,List.take_append_of_le_length (by rw [AI (λc hc=>h8 c (hmem c hc))];omega),List.take_of_length_le (by rw [AI (λc hc=>h8 c (hmem c hc))];omega)]
  rw [e2,e3];refine ⟨(List.length_take).trans (by rw [h7.1];exact (List.length_take).symm),λi v x hv hx=>?_⟩;rw [List.getElem?_take] at hv hx
  split at hv
  ·rename_i hi;rw [if_pos hi] at hx;exact h7.2 i v x hv hx
  ·cases hv
def EN (q:Ty->Bool) (L:List Ty):List Ty:=L.filter λh=>!q h
theorem Qj {q:Ty->Bool} {L:List Ty} {j:Nat} {x:Ty} (h:L[j]?=some x):EN q (L.take (j+1))=EN q (L.take j)++(if q x=true then [] else [x]):=by
 rw [Bb h];cases hb:q x <;> simp [EN,hb]
theorem Qk {q:Ty->Bool} {L:List Ty} (h:∀x∈L,q x=false):EN q L=L:=List.filter_eq_self.2 λx hx=>by simp [h x hx]
set_option maxHeartbeats 4000000 in
theorem Rc (L:List Ty) (hL:L.length<=1000) (g:FuncId) (a b:List V) (q:Ty->Bool) (hq:∀h,Al Tryz.prog g (a++[.agg (Be h)]++b) (.bool (q h))) :
  Bc Tryz.prog 194 [.own 1 (Bp L).length,.imm (.clo (.func g) a b)] [(1,some (.row 150 3 (Bp L)))]
   (.ret (.own 2 (Bp (EN q L)).length) [(2,some (.row 150 3 (Bp (EN q L))))]):=by
 have hI:=R0 L g a b q hq;have hs:=Sv q L 0;rw [show ((0:Nat):Int)=0 from rfl] at hs;refine Ad Aj Tryz.func194 (by decide +kernel) rfl [3,2,4,5,6] rfl rfl ?_;refine mg [] rfl (by simp) ?_;refine I9 rfl (v:=.int .i64 (O5 q 0 L)) (λ_=>hI) rfl (by simp) ?_;refine mg [] rfl (by simp) ?_;rcases hs with ⟨h1,h2⟩ | ⟨k,x,h1,h2,h3,h4⟩
 ·rw [h1];refine Aa rfl (λh=>?_) (λh=>by simp at h);refine md [] rfl (by simp) ?_;rw [Qk h2];refine KR 1 3 rfl λv=>?_;refine Ol 3 4 2 (Bp L) rfl rfl (λvs I w bs h=>P8 (by decide) h) ?_;exact Ab ⟨_,rfl,rfl,rfl,trivial⟩
 rw [h1];have hk:=(List.getElem?_eq_some_iff.1 h2).1;refine Aa rfl (λh=>by simp at h) (λh=>?_);clear h;have ew:IntKind.i64.wrap (((0+k:Nat):Int)+1)=((k+1:Nat):Int):=by rw [B9 (by omega) (by omega)];omega
 refine md [] rfl (by simp) ?_;refine Ak (λy:Nat×Nat×List Ty=>[(6,.imm (.int .i64 y.2.1)),(5,.imm (.int .i64 y.1)),(1,.imm (.clo (.func g) a b)),(0,.own 1 (Bp L).length)]) (λy=>[(1,some (.row 150 3 (Bp y.2.2)))]) [3,2,4,5,6] (λy=>L.length-y.2.1)
  (λy=>y.1<y.2.1/\y.2.1<=L.length/\y.2.2.length=L.length/\y.2.2.take y.1=EN q (L.take y.2.1)/\y.2.2.drop y.2.1=L.drop y.2.1) (k,k+1,L)
  ⟨by simp,by simp only;omega,rfl,?_,rfl⟩ ⟨As ew,As (by simp),rfl,rfl,trivial⟩ ⟨rfl,trivial⟩ rfl λy hy ih=>?_
 ·rw [Qj h2,if_pos h3,Qk h4];simp
 obtain ⟨i,j,R⟩:=y;obtain ⟨hi1,hi2,hi3,hi4,hi5⟩:=hy;simp only at hi1 hi2 hi3 hi4 hi5;refine md [] rfl (by simp) ?_;refine Aa rfl (λh=>?_) (λh=>?_)
 ·have hj:j<L.length:=by simp at h;omega
  obtain ⟨x,hx⟩:=Am hj;have hRx:R[j]?=some x:=by
   have:=congrArg (·[0]?) hi5;simpa [hx] using this
  have hqx:=hq x;refine md [] rfl (by simp) ?_;refine E9 Aj rfl (λ_=>⟨by simp,by simp <;> omega⟩) (by simp) ?_;refine mg [] rfl (by simp) ?_;refine OQ Aj (e:=Be x) rfl (λ_=>by simpa using Ju hRx) rfl (by simp) ?_;obtain ⟨x1,x2,x3,x4⟩:=x;have ht:=Qj (q:=q) hx;have hgo:=λi' R' (h1:i'<j+1) (h2:R'.length=L.length) (h3:R'.take i'=EN q (L.take (j+1))) (h4:R'.drop (j+1)=L.drop (j+1))=>ih (i',j+1,R') (by simp only;omega) ⟨h1,by simp only;omega,h2,h3,h4⟩;have hd1:R.drop (j+1)=L.drop (j+1):=by rw [<- List.drop_drop,hi5,List.drop_drop]
  refine mg [] rfl (by simp) ?_;refine OT rfl (λ_=>hqx) (by simp) ?_;refine mg [] rfl (by simp) ?_;cases hb:q (.mk x1 x2 x3 x4) with
  | true =>
   rw [if_pos hb,List.append_nil] at ht;refine Aa rfl (λh=>by simp at h) (λh=>?_);refine md [] rfl (by simp) ?_;exact Ae (hgo i R (by omega) hi3 (by rw [ht];exact hi4) hd1) ⟨As (B9 (by simp only;omega) (by simp only;omega)),rfl,rfl,rfl,trivial⟩ ⟨rfl,trivial⟩ rfl
  | false =>
   rw [if_neg (by simp [hb])] at ht;obtain ⟨o,hoo⟩:=Am (l:=R) (i:=i) (by omega);refine Aa rfl (λh=>?_) (λh=>by simp at h);refine md [] rfl (by simp) ?_;refine E9 Aj rfl (λ_=>⟨by simp,by simp <;> omega⟩) (by simp) ?_;refine mg [] rfl (by simp) ?_;refine Jx Aj (e:=Be o) (e':=Be (.mk x1 x2 x3 x4)) rfl (by simpa using Ju hoo) (by show 0+3<=3;decide) (by obtain ⟨o1,o2,o3,o4⟩:=o;rfl) (by simp) ?_;refine mg [] rfl (by simp) ?_;refine Ae (hgo (i+1) (R.set i (.mk x1 x2 x3 x4)) (by omega) (by simp [hi3]) ?_ ?_) ⟨As (B9 (by simp only;omega) (by simp only;omega)),As (B9 (by simp only;omega) (by simp only;omega)),rfl,rfl,trivial⟩ ⟨by simp only [Bp,List.map_set];rfl,trivial⟩ rfl
   ·rw [ht,<- hi4];have e1:(R.set i (.mk x1 x2 x3 x4))[i]?=some (.mk x1 x2 x3 x4):=List.getElem?_set_self (by omega);rw [Bb e1,List.take_set_of_le (Nat.le_refl i)]
   ·rw [List.drop_set_of_lt (by omega)];exact hd1
 ·have hj:j=L.length:=by simp at h;omega
  refine Ar rfl ?_;refine KR 1 3 rfl λv=>?_;refine BU 3 (λ_:{ y:Nat×Nat // v = .slice (some ⟨y.1,0,none⟩) (Bp R).length y.2/\(Bp R).length<=y.2 }=>TK 150 3 (Bp R) v) rfl (λvs I w bs h=>?_) λy=>?_
  ·have hn:(Bp R)≠[]:=λe=>by
    have:(Bp R).length=0:=by rw [e];rfl
    simp at this;subst this;simp at hi3;omega
   have h':=h;rcases h' with ⟨_,h',_⟩ | ⟨gb,cap,cur,h1,_,_,h4,_⟩
   ·exact absurd h' hn
   ·exact ⟨⟨(gb,cap),h1,h4⟩,h⟩
  obtain ⟨⟨gb,cap⟩,rfl,hcap⟩:=y;simp only at hcap;have hRl:(Bp R).length=L.length:=by simp [hi3]
  have hkl:(EN q (L.take j)).length=i:=by rw [<- hi4,List.length_take];omega
  rw [hj,List.take_length] at hkl hi4;refine md [] rfl (by simp) ?_;refine eN Aj rfl ⟨by simp,by simp only;omega,by simp only;omega,by simp only;omega⟩ ?_;obtain ⟨d,hd⟩:∃d,(Bp R).length-i=d+1:=⟨(Bp R).length-i-1,by omega⟩
  simp only [B1,Int.toNat_natCast];rw [hd];have hRt:Bp (EN q L)=(Bp R).take i:=by rw [<- hi4];simp [Bp]
  have hkl2:(Bp (EN q L)).length=i:=by simpa using hkl
  refine lY Aj 3 (TK 150 3 (Bp (EN q L)) (.slice (some ⟨gb,0,none⟩) (Bp (EN q L)).length cap)) rfl rfl ?_ ?_
  ·have:=aG (e:=150) (sz:=3) (es:=Bp R) (es1:=Bp (EN q L)) (b:=gb) (cap:=cap) (len:=d+1) (by rw [hkl2];exact hRt) (by rw [hkl2];omega);rw [hkl2] at this ⊢;show TM _ _ gb (0+i*3) ((d+1)*3);rw [Nat.zero_add];exact this
  refine mg [] rfl (by simp) ?_;refine eN Aj rfl ⟨by simp,by simp only;omega,by simp only;omega,by simp only;omega⟩ ?_;simp only [B1,Int.toNat_natCast,Int.toNat_zero,Nat.zero_mul,Nat.sub_zero,Nat.add_zero];refine mg [] rfl (by simp) ?_;rw [<- hkl2];refine Ol 3 4 2 (Bp (EN q L)) rfl rfl (λvs I w bs h=>P8 (by decide) h) ?_;exact Ab ⟨_,rfl,rfl,rfl,trivial⟩
def Sl (ty:Ty) (nt:List Ty) (hd:Ty):V:=.ip 177 (dTyc ty++Be hd++[.sl (Bp nt)]) 0
theorem S4 (h:Ty):∀x∈Be h,V.one x=true:=by
 obtain ⟨a,b,c,d⟩:=h;intro x hx;simp only [Be,List.mem_cons,List.not_mem_nil,or_false] at hx;rcases hx with rfl | rfl | rfl <;> rfl
theorem Uc {I J:Imm} {w:World} {nt:List Ty} {nv:Value} {bs:List Nat} (h:Sc I w nt nv) (hb:∀q∈nv.ownBlock.toList,q∈bs) (hle:I.le J) (hJ:∀b∈bs,J b=w.heap[b]?):RepV J nv (.sl (Bp nt)):=by
 obtain ⟨⟨xs,h1,h2⟩,h3⟩:=h;cases ho:nv.ownBlock with
 | none =>
  rcases h1.2 with ⟨rfl,h0⟩ | ⟨g,cap,cur,rfl,_⟩
  ·rw [List.eq_nil_of_length_eq_zero h0];exact .slnil
  ·simp [Value.ownBlock] at ho
 | some g =>
  have hlt:=PJ h1 (q:=g) (by simp [ho]);have hg:w.heap[g]?=some w.heap[g]:=Array.getElem?_eq_getElem hlt;refine Ws (w:=w) (es:=Bp nt) (by simpa using h1) (h2.mono hle) (Yq nt) ?_ ho hg (by rw [hJ g (hb g (by simp [ho]))];exact hg);intro v hv;obtain ⟨q,hq⟩:=List.mem_iff_getElem?.1 hv;have hl:q<(Bp nt).flatten.length:=by rw [<- h2.1];exact (List.getElem?_eq_some_iff.1 hq).1
  obtain ⟨c,hc,hx⟩:=List.mem_flatten.1 (List.getElem_mem hl);obtain ⟨x,_,rfl⟩:=List.mem_map.1 hc;exact (h2.2 q v _ hq (List.getElem?_eq_getElem hl)).one (S4 x _ hx)
theorem YO {I J:Imm} {w:World} {ty:Ty} {nt:List Ty} {hd:Ty} {ks:List Mi} {nv kv:Value} {kbs:List Nat} {b:Nat} {us:List Value} {bs:List Nat} (h:(CD ty nt hd ks nv kv kbs b).P us I w bs) (hle:I.le J) (hJ:∀b∈bs,J b=w.heap[b]?) :
  RepV J (ptr b) (Sl ty nt hd):=by
 obtain ⟨Fk,⟨⟨vs,ts,hs,h1,h2,h3,h4⟩,hnot,hrow⟩,_,_,h8⟩:=h;have hN:=Uc (bs:=bs) hnot (λq hq=>h8 q (by simp only [AG,List.cons_append,List.mem_cons,List.mem_append];exact .inr (.inl (.inl hq)))) hle hJ;have hall:RepVL J (ts++hs++[nv]) (dTyc ty++Be hd++[.sl (Bp nt)]):=((h3.mono hle).append (h4.mono hle)).append (.mk hN .nil);have hJb:J b=some (.cells vs 177 (0,0)):=by rw [hJ b (h8 b (by simp [AG]))];exact h1
 have hget:∀(j:Nat) (x:V),(dTyc ty++Be hd++[.sl (Bp nt)])[j]?=some x->∃v,vs[j]?=some v/\RepV J v x/\v.oneCell'=true:=by
  intro j x hx;have hlt:j<(ts++hs++[nv]).length:=by rw [hall.1];exact (List.getElem?_eq_some_iff.1 hx).1
  have hv:=List.getElem?_eq_getElem hlt;have hr:=hall.2 j _ x hv hx;refine ⟨_,?_,hr,?_⟩
  ·have:vs.toList[j]?=some (ts++hs++[nv])[j]:=by
    rw [h2,show ts++hs++[nv,kv]=(ts++hs++[nv])++[kv] by simp,List.getElem?_append_left hlt];exact hv
   simpa using this
  ·refine hr.one ?_;have hm:=List.mem_of_getElem? hx;simp only [List.mem_append,List.mem_singleton] at hm;rcases hm with (hm | hm) | rfl
   ·obtain ⟨t1,t2,t3,t4⟩:=ty;simp only [dTyc,List.mem_cons,List.not_mem_nil,or_false] at hm;rcases hm with rfl | rfl | rfl | rfl <;> rfl
   ·exact S4 hd x hm
   ·rfl
 have:=RepV.ip (I:=J) b 0 177 (dTyc ty++Be hd++[.sl (Bp nt)]) 0 (λj=>(vs[j]?).getD undef) (λj x hx=>?_) (λj x hx=>?_)
 ·simpa [Sl,ptr] using this
 ·obtain ⟨v,v1,v2,v3⟩:=hget j x hx;rw [v1];simp only [Imm.cell,hJb,Nat.zero_add,v1,Option.getD_some];exact ⟨trivial,v3⟩
 ·obtain ⟨v,v1,v2,v3⟩:=hget j x hx;rw [v1];exact v2
theorem ZB (ty:Ty) (nt:List Ty) (hd h:Ty):Al Tryz.prog 196 [.agg (Be h),.ip 109 [Sl ty nt hd] 0] (.bool (BD nt h)):=by
 have hC:=Gg nt h;obtain ⟨t1,t2,t3,t4⟩:=ty;obtain ⟨f1,f2,f3,f4⟩:=hd;obtain ⟨h1,h2,h3,h4⟩:=h;refine Tq ?_;refine Ad Aj Tryz.func196 (by decide +kernel) rfl [1,2] rfl rfl ?_;refine mg [] rfl (by simp) ?_;refine Ac rfl (λ_=>hC) (by simp) ?_;refine mg [] rfl (by simp;rfl) ?_;exact Ab ⟨_,rfl,tV rfl,trivial⟩
def QX (A B:Asn):Asn where
 P _ I w bs:=∃b1 b2,(∀q∈b1,q∈bs)/\(∀q∈b2,q∈bs)/\(∀q∈b1,q∉b2)/\A.P [] I w b1/\B.P [] I w b2
 mono:=λh ⟨b1,b2,h1,h2,h3,h4,h5⟩=>⟨b1,b2,h1,h2,h3,A.mono h h4,B.mono h h5⟩
 loc:=λh ⟨b1,b2,h1,h2,h3,h4,h5⟩=>⟨b1,b2,h1,h2,h3,A.loc (λq hq=>h q (h1 q hq)) h4,B.loc (λq hq=>h q (h2 q hq)) h5⟩
theorem Uu (l:List Ty):MA (Bp l)=true:=by
 induction l with
 | nil=>rfl
 | cons h r ih=>obtain ⟨a,b,c,d⟩:=h;simpa [Bp,Be,MA,Dg,EL] using ih
def VT (b bb:Nat):Asn:=Re bb 109 [.raw (ptr b)]
theorem aU {I J:Imm} {w:World} {ty:Ty} {nt:List Ty} {hd:Ty} {ks:List Mi} {nv kv:Value} {kbs:List Nat} {b bb:Nat} {us:List Value} {bs:List Nat} (h:(QX (VT b bb) (CD ty nt hd ks nv kv kbs b)).P us I w bs) (hle:I.le J) (hJ:∀b∈bs,J b=w.heap[b]?) :
  RepV J (ptr bb) (.ip 109 [Sl ty nt hd] 0):=by
 obtain ⟨b1,b2,h1,h2,h3,⟨e1,vs,e2,e3,e4⟩,h5⟩:=h;have hv:=YO h5 hle (λq hq=>hJ q (h2 q hq));have hl:=e3.1
 match hvs:vs.toList,hl with
 | [x],_ =>
 rw [hvs] at e3;have hx:x=ptr b:=(e3.2 0 x _ rfl rfl).rawInv;subst hx;have hv0:vs[0]?=some (ptr b):=by
  have:vs.toList[0]?=some (ptr b):=by rw [hvs];rfl
  simpa using this
 have hJb:J bb=some (.cells vs 109 (0,0)):=by rw [hJ bb (h1 bb (by rw [e1];simp))];exact e2
 have:=RepV.ip (I:=J) bb 0 109 [Sl ty nt hd] 0 (λ_=>ptr b) (λj x hx=>?_) (λj x hx=>?_)
 ·simpa [ptr] using this
 ·match j,hx with
  | 0,_=>exact ⟨by simp only [Imm.cell,hJb,Nat.add_zero,hv0],rfl⟩
  | j+1,hx=>simp at hx
 ·match j,hx with
  | 0,hx=>simp at hx;subst hx;exact hv
  | j+1,hx=>simp at hx
theorem jB (L:List Ty) (hL:L.length<=1000) (ty:Ty) (nt:List Ty) (hd:Ty) (ks:List Mi) (nv kv:Value) (kbs:List Nat) (b bb:Nat) :
  Bc Tryz.prog 194 [.own 1 (Bp L).length,.fn (.func 196) [] [.raw (ptr bb)]]
   [(3,some (.hp (QX (VT b bb) (CD ty nt hd ks nv kv kbs b)))),(1,some (.row 150 3 (Bp L)))]
   (.ret (.own 2 (Bp (EN (λh=>BD nt h) L)).length) [(3,some (.hp (QX (VT b bb) (CD ty nt hd ks nv kv kbs b)))),(2,some (.row 150 3 (Bp (EN (λh=>BD nt h) L))))]):=by
 refine Oi (st0:=[(1,some (.row 150 3 (Bp L)))]) 3 (QX (VT b bb) (CD ty nt hd ks nv kv kbs b)) (Rc L hL 196 [] [.ip 109 [Sl ty nt hd] 0] (λh=>BD nt h) (λh=>ZB ty nt hd h)) rfl ⟨Uu _,trivial⟩ (by simp [DN]) (by simp [DN]) (by simp [It]) λvs I J μ w bs h hle hb xs hx=>?_;refine ⟨hx.1,λi v d h1 h2=>?_⟩
 match i with
 | 0=>exact hx.2 0 v d h1 h2
 | 1 =>
  simp at h2;subst h2;have hr:=hx.2 1 v _ h1 rfl;refine .imm _ _ ?_;cases hr with
  | fn _ first cap _ _ hf hc q1 q2 =>
   refine .clo _ first cap [] _ (by simpa using hf) (by simpa using hc) (λi c x _ hx=>by simp at hx) (λi c x hc' hx'=>?_)
   match i with
   | 0 =>
    simp at hx';subst hx';have:=(q2 0 c _ hc' rfl).rawInv;subst this;exact aU h hle hb
   | i+1=>simp at hx'
 | i+2=>simp at h2
def GA (ds:List Dt) (m:Mi):Bool:=decide (AC (Af ds m).hd≠0)
set_option maxHeartbeats 2000000 in
theorem Va (c:Cse) (sz:List (List V)) (m:Mi) (b:Nat) (ho:OkW c.datas) (hn:AB c.datas m.ty=true) :
  Bc Tryz.prog 151 [.imm (AL c sz),.raw (ptr b)] [(1,some (.hp (AV m b)))] (.ret (.imm (.bool (GA c.datas m))) [(2,some (.hp (AV (Af c.datas m) b)))]):=by
 have hH:=S3 c sz m.ty ho hn;have hl:=Qu ho m.ty;have hs:=λh=>Xk c sz m h b ho hn;have hk0:AC m.hd≠0->Af c.datas m=m/\GA c.datas m=true:=λh=>by
  have:=C1 (ds:=c.datas) h;exact ⟨this,by simp only [GA,this];exact decide_eq_true h⟩
 have hk1:AC m.hd=0->∀h,Hl c.datas m=[h]->Af c.datas m=AX c.datas m h/\GA c.datas m=true:=λh x hx=>by
  have e:Af c.datas m=AX c.datas m x:=by simp only [Af,h,hx];rfl
  exact ⟨e,by simp only [GA,e];exact decide_eq_true (Bs (D1 hx).1).2⟩
 have hk2:AC m.hd=0->(∀h,Hl c.datas m≠[h])->Af c.datas m=m/\GA c.datas m=false:=λh hx=>by
  rcases CI (ds:=c.datas) m with e | ⟨_,y,y1,_⟩
  ·exact ⟨e,by simp only [GA,e,h];rfl⟩
  ·exact absurd y1 (hx y)
 have hleft:EN (λh=>BD m.nt h) (A0 c.datas m.ty)=Hl c.datas m:=rfl;have hll:(Hl c.datas m).length<=5:=Nat.le_trans (List.length_filter_le _ _) hl;generalize GA c.datas m=kb at *;generalize Af c.datas m=S at *;generalize Hl c.datas m=Lf at *;generalize A0 c.datas m.ty=Hs at *;obtain ⟨kn,hkn⟩:∃kn:Ty->Mi,kn=AX c.datas m:=⟨_,rfl⟩
 simp only [<- hkn] at hs hk1;clear hkn hn;obtain ⟨⟨so,n,x,ps⟩,nt,⟨f,hd2,hd3,hd4⟩,ks⟩:=m;simp only [Mi.ty,Mi.nt,Mi.hd,AC] at *;refine Ad Aj Tryz.func151 (by decide +kernel) rfl [3,4,5,6,7,8,9,10,11,12] rfl rfl ?_;refine oA 3 rfl (by simp) ?_;refine Gb 3 4 rfl rfl λbb=>?_;refine BU 4 (λ_:Unit=>VT b bb) rfl (λvs I w bs h=>⟨(),h⟩) λ_=>?_;refine JV 1 5 (λy:Value×Value×List Nat=>CD _ nt _ ks y.1 y.2.1 y.2.2 b) rfl (λvs I w bs h=>let ⟨y,hy⟩:=JI h;⟨y,bs,λq hq=>hq,Yj hy⟩) λy=>?_;obtain ⟨nv,kv,kbs⟩:=y;have hbox:∀vs I w bs,(VT b bb).P vs I w bs->CP I w bb 0 [.raw (ptr b)]:=λvs I w bs ⟨_,us,h2,h3,h4⟩=>⟨us,_,_,h2,λj d hd=>by
  have hl:j<us.toList.length:=by rw [h3.1];exact (List.getElem?_eq_some_iff.1 hd).1
  have hj:=List.getElem?_eq_getElem hl;exact ⟨_,by simp,h4 _ (List.getElem_mem hl),h3.2 j _ d hj hd⟩⟩
 refine md [] rfl (by simp) ?_;refine Bl Aj 4 [.raw (ptr b)] rfl rfl (λ_=>hbox) rfl rfl (by simp) ?_;refine mg [] rfl (by simp) ?_;refine Bl Aj 5 [.imm (.int .i64 f)] rfl rfl (λ_ vs I w bs h=>MR h) rfl rfl (by simp) ?_;refine mg [] rfl (by simp) ?_;by_cases hf:f=0
 case neg =>
  refine Aa rfl (λh=>?_) (λh=>absurd (by simpa using h) hf);refine md [] rfl (by simp) ?_;obtain ⟨e1,e2⟩:=hk0 hf;rw [e1,e2];refine BU 5 (λ_:Unit=>AV (.mk (.mk so n x ps) nt (.mk f hd2 hd3 hd4) ks) b) rfl (λvs I w bs h=>⟨(),JJ h⟩) λ_=>?_;refine A6 5 2 rfl ?_;exact Ab ⟨_,rfl,rfl,rfl,trivial⟩
 replace hk1:=hk1 hf;replace hk2:=hk2 hf;subst hf;clear hk0;refine Aa rfl (λh=>by simp at h) (λh=>?_);clear h;refine md [] rfl (by simp) ?_;refine Bl Aj 4 [.raw (ptr b)] rfl rfl (λ_=>hbox) rfl rfl (by simp) ?_;refine mg [] rfl (by simp) ?_;refine Bl Aj 5 ((dTyc (.mk so n x ps)).map .imm) rfl rfl (λ_ vs I w bs h=>JK h) rfl rfl (by simp) ?_;refine mg [] rfl (by simp) ?_;refine Az (fr:=[6]) [] [(2,6)] rfl (by simp) hH trivial rfl rfl rfl rfl ?_;refine mg [] rfl (by simp) ?_
 refine Ga 4 5 7 (λ_:Unit=>QX (VT b bb) (CD (.mk so n x ps) nt (.mk 0 hd2 hd3 hd4) ks nv kv kbs b)) rfl rfl (by decide) (λvs us I w b1 b2 h1 h2 h3=>⟨(),b1++b2,λq hq=>List.mem_append.1 hq,b1,b2,λq hq=>List.mem_append_left _ hq,λq hq=>List.mem_append_right _ hq,h3,h1,h2⟩) λ_=>?_;refine md [] rfl (by simp) ?_;refine Az (fr:=[8]) [(7,3),(6,1)] [(2,8)] rfl (by simp) (jB Hs (by omega) (.mk so n x ps) nt (.mk 0 hd2 hd3 hd4) ks nv kv kbs b bb) ⟨⟨rfl,rfl,rfl⟩,⟨rfl,rfl,rfl⟩,trivial⟩ rfl rfl rfl rfl ?_;rw [hleft];refine mg [] rfl (by simp) ?_;refine BM 8 rfl ?_
 refine ID 7 9 10 (λ_:Unit=>VT b bb) (λ_:Unit=>AV (.mk (.mk so n x ps) nt (.mk 0 hd2 hd3 hd4) ks) b) rfl (λvs I w bs ⟨b1,b2,h1,h2,h3,h4,h5⟩=>⟨(),b1,b2,h1,h2,h3,h4,JJ h5⟩) λ_=>?_
 match Lf,hk1,hk2,hll with
 | [],_,hk2,_ =>
  obtain ⟨e1,e2⟩:=hk2 (λh=>by simp);rw [e1,e2];refine Aa rfl (λh=>by simp at h) (λh=>?_);refine md [] rfl (by simp) ?_;refine A6 10 2 rfl ?_;exact Ab ⟨_,rfl,rfl,rfl,trivial⟩
 | y::z::r,_,hk2,hll =>
  obtain ⟨e1,e2⟩:=hk2 (λh=>by simp);rw [e1,e2];refine Aa rfl (λh=>by simp [Bp] at h;omega) (λh=>?_);refine md [] rfl (by simp) ?_;refine A6 10 2 rfl ?_;exact Ab ⟨_,rfl,tV (congrArg _ (by simp [Bp];omega)),rfl,trivial⟩
 | [y],hk1,_,_ =>
  obtain ⟨e1,e2⟩:=hk1 y rfl;rw [e1,e2];refine Aa rfl (λh=>?_) (λh=>by simp [Bp] at h);refine md [] rfl (by simp) ?_;refine Bl Aj 9 [.raw (ptr b)] rfl rfl (λ_=>hbox) rfl rfl (by simp) ?_;refine mg [] rfl (by simp) ?_;refine mi rfl (c:=Be y) (λ_=>⟨by simp,rfl,by simp⟩) (by simp) ?_;obtain ⟨y1,y2,y3,y4⟩:=y;refine mg [] rfl (by simp) ?_;refine Ce [(10,1)] [(2,11)] [] (fr:=[11]) (nm:=[11,10]) rfl trivial (by simp) (hs (.mk y1 y2 y3 y4)) ⟨⟨rfl,rfl,rfl⟩,trivial⟩ rfl trivial rfl rfl rfl ?_;refine mg [] rfl (by simp;rfl) ?_;refine A6 11 2 rfl ?_;exact Ab ⟨_,rfl,rfl,rfl,trivial⟩
def H9 (o:Option Nat) (n c:Nat):Value:=.slice (o.map λg=>⟨g,0,none⟩) n c
theorem XZ {w:World} {e:TypeId} {sz n:Nat} {v:Value} {xs:List Value} (h:w.ownsRow 0 e sz v n xs):∃o c,v=H9 o n c:=by
 rcases h.2 with ⟨rfl,rfl⟩ | ⟨g,cap,cur,rfl,_⟩
 ·exact ⟨none,0,rfl⟩
 ·exact ⟨some g,cap,rfl⟩
section
variable {I J:Imm} {w w':World} {ty:Ty} {nt:List Ty} {hd:Ty} {ks:List Mi} {nv kv:Value} {kbs:List Nat} {b:Nat} {us:List Value} {bs:List Nat}
structure Opn where
 no:Option Nat
 nc:Nat
 ko:Option Nat
 kc:Nat
 kbs:List Nat
def Cf (ty:Ty) (nt:List Ty) (hd:Ty) (ks:List Mi) (y:Opn) (b:Nat):Asn:=CD ty nt hd ks (H9 y.no nt.length y.nc) (H9 y.ko ks.length y.kc) y.kbs b
theorem D9 (h:(AV (.mk ty nt hd ks) b).P us I w bs):∃y:Opn,(Cf ty nt hd ks y b).P us I w bs:=by
 obtain ⟨⟨nv,kv,kbs⟩,F,h1,h2,h3⟩:=JI h;obtain ⟨no,nc,e1⟩:=XZ h1.2.1.1.choose_spec.1;obtain ⟨ko,kc,e2⟩:=XZ h1.2.2;have hl:=GB h2;simp only at *;subst e1;rw [hl] at e2;subst e2;exact ⟨⟨no,nc,ko,kc,kbs⟩,F,h1,h2,h3⟩
theorem Eh {y:Opn} {vs:List Value} (h:(Cf ty nt hd ks y b).P us I w bs):(AV (.mk ty nt hd ks) b).P vs I w bs:=JJ h
theorem HI {y:Opn} (h:(Cf ty nt hd ks y b).P us I w bs):y.kbs.length=ks.length:=by
 obtain ⟨F,h1,h2,_⟩:=h;exact GB h2
theorem OL {y:Opn} (h:(Cf ty nt hd ks y b).P us I w bs) (hk:ks≠[]):∃g,y.ko=some g/\(∃cur,w.heap[g]?=some (.cells cur 109 (0,0))/\cur.size=y.kc*1/\cur.toList.take ks.length=y.kbs.map ptr/\ks.length<=y.kc):=by
 obtain ⟨F,h1,h2,_⟩:=h;have hl:=GB h2;rcases h1.2.2.2 with ⟨_,h0⟩ | ⟨g,cap,cur,e,_,e1,e2,_,e3,e4⟩
 ·rw [hl] at h0;exact absurd (List.eq_nil_of_length_eq_zero h0) hk
 ·cases ho:y.ko with
  | none=>rw [ho] at e;simp [H9] at e
  | some g' =>
   rw [ho] at e;simp only [H9,Option.map_some,Value.slice.injEq,Option.some.injEq,Addr.mk.injEq,and_true] at e;obtain ⟨rfl,e5,rfl⟩:=e;exact ⟨g',rfl,cur,e1,e3,by rw [hl,Nat.mul_one] at e4;exact e4,by rw [<- hl];exact e2⟩
theorem iA {y:Opn} (h:(Cf ty [] hd ks y b).P us I w bs):y.no=none/\y.nc=0:=by
 obtain ⟨F,h1,_⟩:=h;have:=h1.2.1.2 rfl;simp only [H9,HK,Value.slice.injEq,Option.map_eq_none_iff] at this;exact ⟨this.1,this.2.2⟩
theorem US {y:Opn} {g i kb:Nat} (hko:y.ko=some g) (hkb:y.kbs[i]?=some kb) (h:(Cf ty nt hd ks y b).P us I w bs):CP I w g (0+i*1) [.raw (ptr kb)]:=by
 have hlen:=HI h;have hi:=(List.getElem?_eq_some_iff.1 hkb).1;obtain ⟨g',e,cur,e1,e2,e3,e4⟩:=OL h (λe=>by rw [e] at hlen;simp at hlen;rw [hlen] at hi;simp at hi);rw [hko] at e;cases e;refine ⟨cur,_,_,e1,λj d hd=>?_⟩
 match j with
 | 0 =>
  simp at hd;subst hd;refine ⟨ptr kb,?_,rfl,.raw _ rfl⟩;have:(cur.toList.take ks.length)[i]?=some (ptr kb):=by rw [e3];simp [hkb]
  rw [List.getElem?_take] at this
  split at this
  ·simpa using this
  ·cases this
 | j+1=>simp at hd
def Rb (ty:Ty) (nt:List Ty) (hd:Ty) (ks:List Mi) (y:Opn) (b i kb:Nat):Asn where
 P _ I w bs:=∀J w2 k F,I.le J->(∀q∈bs,w2.heap[q]?=w.heap[q]?)->E4 J w2 k kb F->(∀q∈F,q∉bs)->∃G,(Cf ty nt hd (ks.set i k) y b).P [] J w2 G/\∀q∈G,q∈bs\/q∈F
 mono:=λh h1 J w2 k F hJ=>h1 J w2 k F (λb o hb=>hJ b o (h b o hb))
 loc:=λh h1 J w2 k F hJ hw=>h1 J w2 k F hJ λq hq=>(hw q hq).trans (h q hq)
theorem PL {y:Opn} {i kb:Nat} {k:Mi} (h:(Cf ty nt hd ks y b).P us I w bs) (hk:ks[i]?=some k) (hkb:y.kbs[i]?=some kb) :
  ∃b1 b2,(∀q∈b1,q∈bs)/\(∀q∈b2,q∈bs)/\(∀q∈b1,q∉b2)/\(Rb ty nt hd ks y b i kb).P [] I w b1/\(AV k kb).P [] I w b2:=by
 obtain ⟨Fk,h1,h2,h3,h4⟩:=h;obtain ⟨kb',F1,Fi,F2,g1,g2,g3,g4⟩:=KJ h2 hk;rw [hkb] at g1;cases g1;subst g3;generalize hnv:H9 y.no nt.length y.nc=nv at *;generalize hkv:H9 y.ko ks.length y.kc=kv at *;refine ⟨AG nv kv b++(F1++F2),Fi,λq hq=>h4 q (by simp at hq ⊢;rcases hq with h | h | h <;> simp [h]),λq hq=>h4 q (by simp [hq]),λq hq hq2=>?_,?_,⟨Fi,g2,λq hq=>hq⟩⟩
 ·have e:AG nv kv b++(F1++Fi++F2)=(AG nv kv b++F1)++Fi++F2:=by simp
  rw [e] at h3;have hn:=List.nodup_append.1 h3;have hn2:=List.nodup_append.1 hn.1;rcases List.mem_append.1 hq with hq | hq
  ·exact hn2.2.2 q (by simp [hq]) q hq2 rfl
  ·rcases List.mem_append.1 hq with hq | hq
   ·exact hn2.2.2 q (by simp [hq]) q hq2 rfl
   ·exact hn.2.2 q (by simp [hq2]) q hq rfl
 ·intro J w2 k' F hJ hw hm hd';refine ⟨AG nv kv b++(F1++F++F2),⟨F1++F++F2,?_,g4 J w2 k' F hJ (λq hq=>hw q (by simp only [List.mem_append] at hq ⊢;exact .inr hq)) hm,?_,λq hq=>?_⟩,λq hq=>?_⟩
  ·rw [List.length_set,hnv,hkv];exact Ej hJ (Fb (λq hq=>hw q (by simp [hq])) h1)
  ·rw [List.length_set,hnv,hkv];have hF:=Iv hm;have e:AG nv kv b++(F1++Fi++F2)=(AG nv kv b++F1)++(Fi++F2):=by simp
   have e2:AG nv kv b++(F1++F++F2)=(AG nv kv b++F1)++(F++F2):=by simp
   rw [e] at h3;rw [e2];obtain ⟨a1,a2,a3⟩:=List.nodup_append.1 h3;obtain ⟨a4,a5,a6⟩:=List.nodup_append.1 a2;refine List.nodup_append.2 ⟨a1,List.nodup_append.2 ⟨hF,a5,λx hx y hy e=>hd' x hx (by subst e;simp [hy])⟩,λx hx y hy e=>?_⟩;subst e;rcases List.mem_append.1 hy with hy | hy
   ·exact hd' x hy (by simp only [List.mem_append] at hx ⊢;rcases hx with h | h <;> simp [h])
   ·exact a3 x hx x (by simp [hy]) rfl
  ·rw [List.length_set,hnv,hkv] at hq;exact hq
  ·simp only [List.mem_append] at hq ⊢;rcases hq with h | (h | h) | h <;> simp [h]
theorem Sx {y:Opn} {i kb:Nat} {k:Mi} {vs:List Value} {b1 b2:List Nat} (h:(Rb ty nt hd ks y b i kb).P us I w b1) (hk:(AV k kb).P vs I w b2) (hd':∀q∈b1,q∉b2):∃bs,(∀q∈bs,q∈b1\/q∈b2)/\(Cf ty nt hd (ks.set i k) y b).P [] I w bs:=by
 obtain ⟨F,h1,h2⟩:=hk;obtain ⟨G,g1,g2⟩:=h I w k F (Imm.le_refl I) (λ_ _=>rfl) h1 (λq hq hq1=>hd' q hq1 (h2 q hq));exact ⟨G,λq hq=>(g2 q hq).imp id (h2 q),g1⟩
end
theorem bR {α:Type} {l:List α} {i:Nat} {a:α} (h:l[i]?=some a):l.set i a=l:=by
 apply List.ext_getElem?;intro j;rw [List.getElem?_set]
 split
 ·rename_i e;subst e
  split
  ·exact h.symm
  ·rename_i hn;exact absurd (List.getElem?_eq_some_iff.1 h).1 hn
 ·rfl
theorem XD:Bc Tryz.prog 177 [.raw HK] [] (.ret .nils []):=by
 refine Ad Aj Tryz.func177 (by decide +kernel) rfl [1,2] rfl rfl ?_;refine mg [] rfl (by simp) ?_;refine lX Aj rfl ?_;refine mg [] rfl (by simp) ?_;refine Aa rfl (λh=>?_) (λh=>by simp at h);refine md [] rfl (by simp) ?_;exact Ab ⟨_,rfl,rfl,trivial⟩
theorem XC (l:List Ty) (hne:l≠[]) (hl:l.length<=1000000):Bc Tryz.prog 177 [.imm (.sl (Bp l))] [] (.ret (.own 2 (Bp l).length) [(2,some (.row 150 3 (Bp l)))]):=by
 have hs:=Yq l;have hl:(Bp l).length<=1000000:=by simpa using hl
 have hn:Bp l≠[]:=λe=>hne (by simpa [Bp] using e);generalize Bp l=es at *;refine Ad Aj Tryz.func177 (by decide +kernel) rfl [2,1] rfl rfl ?_;refine mg [] rfl (by simp) ?_;refine Nd Aj rfl λb hb=>?_;have hb:b=false:=hb hn;subst hb;refine md [] rfl (by simp) ?_;refine Aa rfl (λh=>by simp at h) (λh=>?_);refine md [] rfl (by simp) ?_;refine BR Aj rfl ⟨hs,by simp only [maxLen,List.length_nil] at *;omega,by simp only [List.length_nil] at *;omega,λc hc=>by simp at hc,hn⟩ ?_;refine mg [] rfl (by simp) ?_;exact Ab ⟨_,rfl,rfl,rfl,trivial⟩
end Go.Hk
namespace Go.Hk
open Go.Proofs
theorem HC {I J:Imm} {w:World} {ty:Ty} {nt:List Ty} {hd:Ty} {ks:List Mi} {y:Opn} {b:Nat} {us:List Value} {bs:List Nat} (h:(Cf ty nt hd ks y b).P us I w bs) (hle:I.le J) (hJ:∀b∈bs,J b=w.heap[b]?):RepV J (H9 y.no nt.length y.nc) (.sl (Bp nt)):=by
 obtain ⟨F,h1,h2,h3,h4⟩:=h;exact Uc h1.2.1 (λq hq=>h4 q (by simp only [AG,List.cons_append,List.mem_cons,List.mem_append];exact .inr (.inl (.inl hq)))) hle hJ
theorem aF (ty:Ty) (nt:List Ty) (hd:Ty) (ks:List Mi) (y:Opn) (b:Nat) (hne:nt≠[]) (hl:nt.length<=1000000) :
  Bc Tryz.prog 177 [.raw (H9 y.no nt.length y.nc)] [(3,some (.hp (Cf ty nt hd ks y b)))] (.ret (.own 2 (Bp nt).length) [(3,some (.hp (Cf ty nt hd ks y b))),(2,some (.row 150 3 (Bp nt)))]):=by
 refine Oi (st0:=[]) 3 (Cf ty nt hd ks y b) (XC nt hne hl) rfl ⟨Uu _,trivial⟩ (by simp [DN]) (by simp [DN]) (by simp [It]) λvs I J μ w bs h hle hb xs hx=>?_;refine ⟨hx.1,λi v d h1 h2=>?_⟩
 match i with
 | 0 =>
  simp at h2;subst h2;have:=(hx.2 0 v _ h1 rfl).rawInv;subst this;exact .imm _ _ (HC h hle hb)
 | i+1=>simp at h2
theorem aJ {I:Imm} {w:World} {ty:Ty} {nt:List Ty} {hd:Ty} {b:Nat} {v:Value} {us vs:List Value} {b1 b2:List Nat} (hne:nt≠[]) (h:(Re b 177 ((dTyc ty++Be hd).map .imm++[.raw v,.nils])).P us I w b1) (hr:(TK 150 3 (Bp nt) v).P vs I w b2) (hd':∀q∈b1,q∉b2) :
  ∃bs,(∀q∈bs,q∈b1\/q∈b2)/\(AV (.mk ty nt hd []) b).P [] I w bs:=by
 obtain ⟨h1,ws,h2,h3,h4⟩:=h;obtain ⟨xs,r1,r2,_,_,_,r6⟩:=P8 (by decide) hr;obtain ⟨t1,t2,t3,t4⟩:=ty;obtain ⟨f1,f2,f3,f4⟩:=hd;have hl:=h3.1;simp only [dTyc,Be,List.map_append,List.map_cons,List.map_nil,List.cons_append,List.nil_append,List.length_cons,List.length_nil] at hl h3
 match hvs:ws.toList,hl with
 | [a0,a1,a2,a3,a4,a5,a6,a7,a8],_ =>
 rw [hvs] at h3;have e7:a7=v:=(h3.2 7 a7 _ rfl rfl).rawInv;have e8:a8=HK:=IY (h3.2 8 a8 _ rfl rfl);subst e7;subst e8;have hF:AG a7 HK b=b::a7.ownBlock.toList:=by simp [AG,HK,Value.ownBlock]
 refine ⟨AG a7 HK b,λq hq=>?_,AG a7 HK b,⟨a7,HK,[],[],⟨⟨ws,[a0,a1,a2,a3],[a4,a5,a6],h2,by rw [hvs];rfl,?_,?_⟩,⟨⟨xs,by simpa using r1,r2⟩,λe=>absurd e hne⟩,World.ownsRow_nil w 0 _ 1⟩,⟨rfl,rfl⟩,by simp,?_⟩,λq hq=>hq⟩
 ·rw [hF] at hq;rcases List.mem_cons.1 hq with rfl | hq
  ·exact .inl (by rw [h1];simp)
  ·exact .inr (r6 q (by simpa [Option.mem_toList] using hq))
 ·exact .mk (h3.2 0 a0 _ rfl rfl).immInv (.mk (h3.2 1 a1 _ rfl rfl).immInv (.mk (h3.2 2 a2 _ rfl rfl).immInv (.mk (h3.2 3 a3 _ rfl rfl).immInv .nil)))
 ·exact .mk (h3.2 4 a4 _ rfl rfl).immInv (.mk (h3.2 5 a5 _ rfl rfl).immInv (.mk (h3.2 6 a6 _ rfl rfl).immInv .nil))
 ·rw [hF];refine List.nodup_cons.2 ⟨λhq=>?_,by cases a7.ownBlock <;> simp⟩;have:=r6 b (by simpa [Option.mem_toList] using hq);exact hd' b (by rw [h1];simp) this
set_option maxHeartbeats 4000000 in
theorem OW (ds:List Dt) (N:Nat) (hN:N<=1000000):∀(m:Mi) (b:Nat),GU ds N m=true ->
  Bc Tryz.prog 139 [.raw (ptr b)] [(1,some (.hp (AV m b)))] (.ret (.hv 2 0) [(3,some (.hp (AV m b))),(2,some (.hp (Hv m)))])
 | .mk (.mk so n x ps) nt (.mk f hd2 hd3 hd4) ks,b,hw=>by
  have hwi:=Bf.1 hw;simp only [Mi.nt,Mi.ks] at hwi;have hnt:nt.length<=1000000:=by omega
  have hkl:ks.length<=3:=hwi.1.2.1;refine Ad Aj Tryz.func139 (by decide +kernel) rfl [4,5,6,7,8,9,10,11,12] rfl rfl ?_;have J:∀(y:Opn) (ob:Nat),DGo Tryz.prog Tryz.f139.ntmps (DN [(1,some (.hp (AV (.mk (.mk so n x ps) nt (.mk f hd2 hd3 hd4) ks) b)))]) (Nt gS Tryz.f139.results.toList (.ret (.hv 2 0) [(3,some (.hp (AV (.mk (.mk so n x ps) nt (.mk f hd2 hd3 hd4) ks) b))),(2,some (.hp (Hv (.mk (.mk so n x ps) nt (.mk f hd2 hd3 hd4) ks))))]))
    [.code (F4 Tryz.f139 2)] [(3,.raw (ptr ob)),(0,.raw (ptr b))] [(4,some (.hp (Cf (.mk so n x ps) nt (.mk f hd2 hd3 hd4) ks y b))),(9,some (.hp (AV (.mk (.mk so n x ps) nt (.mk f hd2 hd3 hd4) []) ob)))] [5,6,7,8,10,11,12,13,14,2]:=by
   intro y ob;refine md [] rfl (by simp) ?_;refine Bl Aj 4 [.raw (H9 y.ko ks.length y.kc)] rfl rfl (λ_ vs I w bs h=>JL h) rfl rfl (by simp [Ah]) ?_;refine mg [] rfl (by simp [Ah]) ?_;refine Ak (λi:Nat=>[(26,.imm (.int .i64 i)),(25,.imm (.int .i64 ks.length)),(24,.raw (H9 y.ko ks.length y.kc)),(3,.raw (ptr ob))])
    (λi=>[(4,some (.hp (Cf (.mk so n x ps) nt (.mk f hd2 hd3 hd4) ks y b))),(9,some (.hp (AV (.mk (.mk so n x ps) nt (.mk f hd2 hd3 hd4) (ks.take i)) ob)))]) [5,6,7,8,10,11,12,13,14,2] (λi=>ks.length-i)
    (λi=>i<=ks.length) 0 (Nat.zero_le _) ⟨rfl,rfl,rfl,rfl,trivial⟩ ⟨rfl,rfl,trivial⟩ rfl λi hi ih=>?_
   refine md [] rfl (by simp) ?_;refine Aa rfl (λh=>?_) (λh=>?_)
   ·simp at h;obtain ⟨k,hk⟩:=Am h;have hC:=OW ds N hN k;have hih:=ih (i+1) (by omega) (by omega);rw [Bb hk] at hih;refine BU 4 (λ_:{ z:Nat×Nat // y.ko=some z.1/\y.kbs[i]?=some z.2 }=>Cf (.mk so n x ps) nt (.mk f hd2 hd3 hd4) ks y b) rfl (λvs I w bs hA=>?_) λz=>?_
    ·obtain ⟨g,g1,_⟩:=OL hA (λe=>by rw [e] at h;simp at h);have hl:=HI hA;exact ⟨⟨(g,y.kbs[i]'(by omega)),g1,List.getElem?_eq_getElem (by omega)⟩,hA⟩
    obtain ⟨⟨g,kb⟩,hko,hkb⟩:=z;simp only at hko hkb;obtain ⟨no,nc,ko,kc,kbs⟩:=y;simp only at hko hkb;subst hko;have hC:=hC kb (hwi.2.2 k (List.mem_of_getElem? hk));refine BU 9 (λz:Opn=>Cf (.mk so n x ps) nt (.mk f hd2 hd3 hd4) (ks.take i) z ob) rfl (λvs I w bs h=>let ⟨z,hz⟩:=D9 h;⟨z,hz⟩) λz=>?_;refine md [] rfl (by simp) ?_;refine LO Aj rfl rfl (λ_=>⟨by simp,by simp;omega⟩) (by simp) ?_;refine mg [] rfl (by simp) ?_;refine Bl Aj 4 [.raw (ptr kb)] rfl rfl (λ_ vs I w bs h=>US rfl hkb h) rfl rfl (by simp) ?_;refine oA 2 rfl (by simp) ?_
    refine ID 4 5 6 (λ_:Unit=>Rb (.mk so n x ps) nt (.mk f hd2 hd3 hd4) ks ⟨no,nc,some g,kc,kbs⟩ b i kb) (λ_:Unit=>AV k kb) rfl (λvs I w bs h=>let ⟨b1,b2,h1,h2,h3,h4,h5⟩:=PL h hk hkb;⟨(),b1,b2,h1,h2,h3,h4,h5⟩) λ_=>?_;refine md [] rfl (by simp) ?_;refine Bl Aj 9 [.raw (H9 z.ko (ks.take i).length z.kc)] rfl rfl (λ_ vs I w bs h=>JL h) rfl rfl (by simp [Ah]) ?_;refine mg [] rfl (by simp [Ah]) ?_;refine Ce [(6,1)] [(3,7),(2,8)] [] (fr:=[7,8]) (nm:=[7,8,6]) rfl trivial (by simp) hC ⟨⟨rfl,rfl,rfl⟩,trivial⟩ rfl trivial rfl rfl rfl ?_;refine mg [] rfl (by simp) ?_;refine eP Aj 8 10 rfl rfl ?_;refine mg [] rfl (by simp) ?_
    refine eQ Aj 9 10 11 (YE (.mk so n x ps) nt (.mk f hd2 hd3 hd4) (ks.take i++[k]) ob) rfl rfl rfl (by decide) (YA (bytes:=8) (by decide) (by simp;omega)) ?_;refine mg [] rfl (by simp) ?_;refine MY Aj 11 _ rfl rfl U1 ?_;refine mg [] rfl (by simp [Ah];rfl) ?_;refine Ga 5 7 12 (λ_:Unit=>Cf (.mk so n x ps) nt (.mk f hd2 hd3 hd4) ks ⟨no,nc,some g,kc,kbs⟩ b) rfl rfl (by decide) (λvs us I w b1 b2 h1 h2 h3=>let ⟨bs,e1,e2⟩:=Sx h1 h2 h3;⟨(),bs,e1,by rw [bR hk] at e2;exact e2⟩) λ_=>?_;refine A6 4 12 rfl ?_;refine A6 9 11 rfl ?_;exact Ae hih ⟨As (B9 (by omega) (by omega)),rfl,rfl,rfl,trivial⟩ ⟨rfl,rfl,trivial⟩ rfl
   ·simp at h;refine Ar rfl ?_;rw [List.take_of_length_le (by omega)];refine md [] rfl (by simp) ?_;refine BU 4 (λ_:Unit=>AV (.mk (.mk so n x ps) nt (.mk f hd2 hd3 hd4) ks) b) rfl (λvs I w bs h=>⟨(),Eh h⟩) λ_=>?_;refine GG 9 2 5 (Hv (.mk (.mk so n x ps) nt (.mk f hd2 hd3 hd4) ks)) rfl rfl rfl (λus I w bs h=>let ⟨F,h1,h2⟩:=h;⟨ob,F,rfl,h1,h2⟩) ?_;refine A6 5 2 rfl ?_;refine A6 4 3 rfl ?_;exact Ab ⟨_,rfl,rfl,rfl,rfl,trivial⟩
  refine JV 1 4 (λy:Opn=>Cf _ nt _ ks y b) rfl (λvs I w bs h=>let ⟨y,hy⟩:=D9 h;⟨y,bs,λq hq=>hq,hy⟩) λy=>?_;by_cases hne:nt=[]
  ·subst hne;refine BU 4 (λ_:PLift (y.no=none/\y.nc=0)=>Cf _ [] _ ks y b) rfl (λvs I w bs h=>⟨⟨iA h⟩,h⟩) λhy=>?_;obtain ⟨no,nc,ko,kc,kbs⟩:=y;obtain ⟨⟨rfl,rfl⟩⟩:=hy;refine md [] rfl (by simp) ?_;refine Bl Aj 4 ((dTyc (.mk so n x ps)).map .imm) rfl rfl (λ_ vs I w bs h=>JK h) rfl rfl (by simp [Ah]) ?_;refine mg [] rfl (by simp [Ah]) ?_;refine Bl Aj 4 ((Be (.mk f hd2 hd3 hd4)).map .imm) rfl rfl (λ_ vs I w bs h=>ON h) rfl rfl (by simp [Ah]) ?_;refine mg [] rfl (by simp [Ah]) ?_;refine Bl Aj 4 [.raw HK] rfl rfl (λ_ vs I w bs h=>Iy h) rfl rfl (by simp [Ah]) ?_;refine mg [] rfl (by simp [Ah]) ?_;refine Ce [] [] [] (fr:=[]) (nm:=[]) rfl trivial (by simp) XD trivial rfl trivial rfl rfl rfl ?_
   refine oA 4 rfl (by simp [Ah];rfl) ?_;refine Gb 5 6 rfl rfl λob=>?_;refine BU 6 (λ_:Unit=>AV (.mk (.mk so n x ps) [] (.mk f hd2 hd3 hd4) []) ob) rfl (λvs I w bs h=>⟨(),QK h⟩) λ_=>?_;refine A6 6 9 rfl ?_;exact Ae (J _ ob) ⟨rfl,rfl,trivial⟩ ⟨rfl,rfl,trivial⟩ rfl
  ·refine md [] rfl (by simp) ?_;refine Bl Aj 4 ((dTyc (.mk so n x ps)).map .imm) rfl rfl (λ_ vs I w bs h=>JK h) rfl rfl (by simp [Ah]) ?_;refine mg [] rfl (by simp [Ah]) ?_;refine Bl Aj 4 ((Be (.mk f hd2 hd3 hd4)).map .imm) rfl rfl (λ_ vs I w bs h=>ON h) rfl rfl (by simp [Ah]) ?_;refine mg [] rfl (by simp [Ah]) ?_;refine Bl Aj 4 [.raw (H9 y.no nt.length y.nc)] rfl rfl (λ_ vs I w bs h=>Iy h) rfl rfl (by simp [Ah]) ?_;refine mg [] rfl (by simp [Ah]) ?_;refine Ce [(4,3)] [(2,5)] [4] (fr:=[5]) (nm:=[5]) rfl trivial (by simp) (aF _ nt _ ks y b hne hnt) ⟨⟨rfl,rfl,rfl⟩,trivial⟩ rfl ⟨⟨rfl,rfl⟩,trivial⟩ rfl rfl rfl ?_;refine oA 4 rfl (by simp [Ah];rfl) ?_;refine KR 5 7 rfl λv=>?_
   refine Gb 6 8 rfl rfl λob=>?_;refine Ga 8 7 9 (λ_:Unit=>AV (.mk (.mk so n x ps) nt (.mk f hd2 hd3 hd4) []) ob) rfl rfl (by decide) (λvs us I w b1 b2 h1 h2 h3=>let ⟨bs,e1,e2⟩:=aJ hne h1 h2 h3;⟨(),bs,e1,e2⟩) λ_=>?_;exact Ae (J _ ob) ⟨rfl,rfl,trivial⟩ ⟨rfl,rfl,trivial⟩ rfl
termination_by m=>SizeOf.sizeOf m
decreasing_by
 have:=List.sizeOf_lt_of_mem (List.mem_of_getElem? hk);simp_wf;omega
def E0 (ds:List Dt):Mi->List Int->Mi
 | m,[]=>m
 | m,i::p=>match (Af ds m).ks[i.toNat]? with
  | some k=>E0 ds k p
  | none=>m
def Mo (ds:List Dt):Mi->List Int->Mi->Mi
 | _,[],k=>k
 | m,i::p,k=>match (Af ds m).ks[i.toNat]? with
  | some x=>.mk (Af ds m).ty (Af ds m).nt (Af ds m).hd ((Af ds m).ks.set i.toNat (Mo ds x p k))
  | none=>m
theorem RI {ds:List Dt} (h:Ty):∀(path:List Int) (m:Mi),Jf ds m path->A7 ds m path h true=Mo ds m path (AX ds (E0 ds m path) h) /\
  A7 ds m path h false=Mo ds m path (.mk (E0 ds m path).ty ((E0 ds m path).nt++[h]) (E0 ds m path).hd (E0 ds m path).ks)
 | [],m,_=>⟨rfl,rfl⟩
 | i::p,m,⟨_,k,hk,hp⟩=>by
  obtain ⟨h1,h2⟩:=RI h p k hp;simp only [A7,Mo,E0,hk,h1,h2];exact ⟨trivial,trivial⟩
def AtA (ds:List Dt) (m:Mi) (b:Nat) (path:List Int):Asn where
 P us I w bs:=∃x b1 b2,us=[ptr x]/\(∀q∈b1,q∈bs)/\(∀q∈b2,q∈bs)/\(∀q∈b1,q∉b2)/\(FQ b x (Mo ds m path)).P [] I w b1/\(AV (E0 ds m path) x).P [] I w b2
 mono:=λh ⟨x,b1,b2,h0,h1,h2,h3,h4,h5⟩=>⟨x,b1,b2,h0,h1,h2,h3,(FQ _ _ _).mono h h4,(AV _ _).mono h h5⟩
 loc:=λh ⟨x,b1,b2,h0,h1,h2,h3,h4,h5⟩=>⟨x,b1,b2,h0,h1,h2,h3,(FQ _ _ _).loc (λq hq=>h q (h1 q hq)) h4,(AV _ _).loc (λq hq=>h q (h2 q hq)) h5⟩
theorem Ta {I:Imm} {w:World} {ty:Ty} {nt:List Ty} {hd:Ty} {ks:List Mi} {y:Opn} {b i kb:Nat} {us vs:List Value} {bs:List Nat} (h:(Rb ty nt hd ks y b i kb).P us I w bs):(FQ b kb (λk=>.mk ty nt hd (ks.set i k))).P vs I w bs:=by
 intro J w2 k F hJ hw hm hF;obtain ⟨G,g1,g2⟩:=h J w2 k F hJ hw hm hF;obtain ⟨F',f1,f2⟩:=Eh (vs:=[]) g1;exact ⟨F',f1,λq hq=>g2 q (f2 q hq)⟩
structure AtI where
 i:Nat
 x:Nat
 n:Mi
 T:Mi->Mi
set_option maxHeartbeats 4000000 in
theorem nK (c:Cse) (sz:List (List V)) (ho:OkW c.datas) (N:Nat) (m:Mi) (b:Nat) (path:List Int) (hl:path.length<=1000000) (hw:GU c.datas N m=true) (hc:DF c.datas m) (hp:Jf c.datas m path) :
  Bc Tryz.prog 155 [.imm (AL c sz),.raw (ptr b),.imm (.sl (Bu path))] [(1,some (.hp (AV m b)))] (.ret (.hv 2 0) [(2,some (.hp (AtA c.datas m b path)))]):=by
 have hK:=λn x hn=>Va c sz n x ho hn;refine Ad Aj Tryz.func155 (by decide +kernel) rfl [4,5,6,7,8,9,10,11,12] rfl rfl ?_;refine ID 1 4 5 (λ_:Unit=>FQ b b (λk=>k)) (λ_:Unit=>AV m b) rfl (λvs I w bs h=>⟨(),[],bs,(λq hq=>by cases hq),(λq hq=>hq),(λq hq=>by cases hq),gP,h⟩) λ_=>?_;refine md [] rfl (by simp) ?_;refine Ak (λy:AtI=>[(11,.imm (.int .i64 y.i)),(10,.imm (.int .i64 path.length)),(9,.imm (.sl (Bu path))),(1,.raw (ptr y.x)),(0,.imm (AL c sz))])
  (λy=>[(4,some (.hp (FQ b y.x y.T))),(5,some (.hp (AV y.n y.x)))]) [6,7,8,9,10,11,12] (λy=>path.length-y.i)
  (λy=>y.i<=path.length/\GU c.datas N y.n=true/\DF c.datas y.n/\Jf c.datas y.n (path.drop y.i)/\E0 c.datas y.n (path.drop y.i)=E0 c.datas m path/\∀k,y.T (Mo c.datas y.n (path.drop y.i) k)=Mo c.datas m path k)
  ⟨0,b,m,λk=>k⟩ ⟨Nat.zero_le _,hw,hc,hp,rfl,λk=>rfl⟩ ⟨rfl,As (by simp),rfl,rfl,rfl,trivial⟩ ⟨rfl,rfl,trivial⟩ rfl λy hi ih=>?_
 obtain ⟨i,x,n,T⟩:=y;obtain ⟨hi1,hi2,hi3,hi4,hi5,hi6⟩:=hi;simp only at hi1 hi2 hi3 hi4 hi5 hi6;refine md [] rfl (by simp) ?_;refine Aa rfl (λh=>?_) (λh=>?_)
 ·have hlt:i<path.length:=by simp at h;omega
  obtain ⟨j,hj⟩:=Am hlt;rw [An hj] at hi4 hi5 hi6;obtain ⟨hj0,k,hk,hk2⟩:=hi4;have hsw:=Df ho hi2;have hsc:=Dd (ds:=c.datas) hi3;have hkm:=List.mem_of_getElem? hk;have hne:AC (Af c.datas n).hd≠0:=λe=>by rw [(B4.1 hsc).1 e] at hkm;cases hkm
  have hkb:GA c.datas n=true:=decide_eq_true hne;have hKn:=hK n x (Bf.1 hi2).1.1;rw [hkb] at hKn;simp only [E0,Mo,hk] at hi5 hi6;have hwk:=(Bf.1 hsw).2.2 k hkm;have hck:=(B4.1 hsc).2.2 k hkm;have hjl:=(List.getElem?_eq_some_iff.1 hk).1;have hkl:=(Bf.1 hsw).1.2.1;generalize Af c.datas n=S at *;obtain ⟨ty,nt,hd,ks⟩:=S;simp only [Mi.ks,Mi.ty,Mi.nt,Mi.hd] at *;refine md [] rfl (by simp) ?_;refine mi rfl (c:=[.int .i64 j]) (λ_=>⟨by simp,by simp [Bu,hj],rfl⟩) (by simp) ?_;refine mg [] rfl (by simp) ?_;refine Az (fr:=[6]) [(5,1)] [(2,6)] rfl (by simp) hKn ⟨⟨rfl,rfl,rfl⟩,trivial⟩ rfl rfl rfl rfl ?_;refine BU 6 (λy:Opn=>Cf ty nt hd ks y x) rfl (λvs I w bs h=>D9 h) λy=>?_;refine md [] rfl (by simp) ?_
  refine Bl Aj 6 [.raw (H9 y.ko ks.length y.kc)] rfl rfl (λ_ vs I w bs h=>JL h) rfl rfl (by simp [Ah]) ?_;refine mg [] rfl (by simp [Ah]) ?_;refine Aa rfl (λh=>by exfalso;simp at h;omega) (λh=>?_);clear h;obtain ⟨q,rfl⟩:∃q:Nat,j=q:=⟨j.toNat,by omega⟩
  simp only [Int.toNat_natCast] at *;refine BU 6 (λ_:{ z:Nat×Nat // y.ko=some z.1/\y.kbs[q]?=some z.2 }=>Cf ty nt hd ks y x) rfl (λvs I w bs hA=>?_) λz=>?_
  ·obtain ⟨g,g1,_⟩:=OL hA (λe=>by rw [e] at hjl;simp at hjl);have hl:=HI hA;exact ⟨⟨(g,y.kbs[q]'(by omega)),g1,List.getElem?_eq_getElem (by omega)⟩,hA⟩
  obtain ⟨⟨g,kb⟩,hko,hkb2⟩:=z;simp only at hko hkb2;obtain ⟨no,nc,ko,kc,kbs⟩:=y;simp only at hko hkb2;subst hko;refine md [] rfl (by simp) ?_;refine Bl Aj 6 [.raw (H9 (some g) ks.length kc)] rfl rfl (λ_ vs I w bs h=>JL h) rfl rfl (by simp [Ah]) ?_;refine mg [] rfl (by simp [Ah]) ?_;refine LO Aj rfl rfl (λ_=>⟨by simp,by simp;omega⟩) (by simp) ?_;refine mg [] rfl (by simp) ?_;refine Bl Aj 6 [.raw (ptr kb)] rfl rfl (λ_ vs I w bs h=>US rfl hkb2 h) rfl rfl (by simp) ?_;refine mg [] rfl (by simp) ?_;refine ID 6 7 8 (λ_:Unit=>FQ x kb (λk'=>.mk ty nt hd (ks.set q k'))) (λ_:Unit=>AV k kb) rfl (λvs I w bs h=>let ⟨b1,b2,h1,h2,h3,h4,h5⟩:=PL h hk hkb2;⟨(),b1,b2,h1,h2,h3,Ta h4,h5⟩) λ_=>?_
  refine Ga 4 7 9 (λ_:Unit=>FQ b kb (λk'=>T (.mk ty nt hd (ks.set q k')))) rfl rfl (by decide) (λvs us I w b1 b2 h1 h2 h3=>⟨(),b1++b2,λq hq=>List.mem_append.1 hq,YN h1 h2 h3⟩) λ_=>?_;refine A6 4 9 rfl ?_;refine A6 5 8 rfl ?_;exact Ae (ih ⟨i+1,kb,k,λk'=>T (.mk ty nt hd (ks.set q k'))⟩ (by simp only;omega) ⟨by simp only;omega,hwk,hck,hk2,hi5,hi6⟩) ⟨As (B9 (by omega) (by omega)),rfl,rfl,rfl,rfl,trivial⟩ ⟨rfl,rfl,trivial⟩ rfl
 ·have hlt:¬i<path.length:=by simp at h;omega
  refine Ar rfl ?_;rw [List.drop_eq_nil_of_le (by omega)] at hi5 hi6;simp only [E0,Mo] at hi5 hi6;have hT:T=Mo c.datas m path:=funext hi6;subst hT;subst hi5;refine md [] rfl (by simp) ?_;refine Ga 4 5 6 (λ_:Unit=>QX (FQ b x (Mo c.datas m path)) (AV (E0 c.datas m path) x)) rfl rfl (by decide) (λvs us I w b1 b2 h1 h2 h3=>⟨(),b1++b2,λq hq=>List.mem_append.1 hq,b1,b2,λq hq=>List.mem_append_left _ hq,λq hq=>List.mem_append_right _ hq,h3,h1,h2⟩) λ_=>?_;refine GG 6 6 7 (AtA c.datas m b path) rfl rfl rfl (λus I w bs ⟨b1,b2,h1,h2,h3,h4,h5⟩=>⟨x,b1,b2,rfl,h1,h2,h3,h4,h5⟩) ?_;refine A6 7 2 rfl ?_;exact Ab ⟨_,rfl,rfl,rfl,trivial⟩
section
variable {I J:Imm} {w w':World} {ty:Ty} {nt:List Ty} {hd:Ty} {ks:List Mi} {nv kv:Value} {kbs:List Nat} {b:Nat} {us:List Value} {bs:List Nat}
def fZ (ty:Ty) (nt:List Ty) (hd:Ty) (ks:List Mi) (b:Nat):Asn where
 P us I w bs:=∃v nv kv kbs Fk,us=[v]/\Y7 I w ty hd nv kv b/\Sc I w nt v/\JO w kbs kv/\Dh I w ks kbs Fk/\(AG v kv b++Fk).Nodup/\∀q∈AG v kv b++Fk,q∈bs
 mono:=λh ⟨v,nv,kv,kbs,Fk,h0,⟨vs,ts,hs,h1,h2,h3,h4⟩,⟨⟨xs,h5,h6⟩,h7⟩,h8,h9,h10⟩=>⟨v,nv,kv,kbs,Fk,h0,⟨vs,ts,hs,h1,h2,h3.mono h,h4.mono h⟩,⟨⟨xs,h5,h6.mono h⟩,h7⟩,h8,D2 h h9,h10⟩
 loc:=λh ⟨v,nv,kv,kbs,Fk,h0,⟨vs,ts,hs,h1,h2⟩,⟨⟨xs,h5,h6⟩,h7⟩,h8,h9,h10,h11⟩=>⟨v,nv,kv,kbs,Fk,h0,⟨vs,ts,hs,(h b (h11 b (by simp [AG]))).trans h1,h2⟩,
  ⟨⟨xs,BG (λq hq=>h q (h11 q (by simp only [AG,List.cons_append,List.mem_cons,List.mem_append];exact .inr (.inl (.inl hq))))) h5,h6⟩,h7⟩,BG (λq hq=>h q (h11 q (by simp only [AG,List.cons_append,List.mem_cons,List.mem_append];exact .inr (.inl (.inr hq))))) h8,
  Cr (λq hq=>h q (h11 q (by simp [hq]))) h9,h10,h11⟩
theorem jH {h:Ty} {bytes:Nat} (hb:bytes<=1000) (hl:nt.length<=1000000):gI (CD ty nt hd ks nv kv kbs b) (fZ ty (nt++[h]) hd ks b) 150 3 bytes nv [Be h]:=by
 refine ⟨λc hc=>by simp at hc;subst hc;simp,λus I w b1 ⟨Fk,⟨hcell,hnot,hrow⟩,h2,h3,h4⟩=>?_⟩;obtain ⟨⟨xs,x1,x2⟩,x3⟩:=hnot;refine ⟨nt.length,xs,x1,λq hq=>h4 q (by simp [AG,hq]),⟨by simp only [maxLen,List.length_singleton];omega,?_⟩,λv' w' news n1 n2 hg=>?_⟩
 ·have:(nt.length+1)*bytes<=1000001*1000:=Nat.mul_le_mul (by omega) hb;simp only [List.length_singleton];omega
 have hne:∀q,q<w.heap.size->q∉nv.ownBlock.toList->w'.heap[q]?=w.heap[q]?:=λq hq hk=>hg.2.1.block q hq (λe=>hk (by simp [e]));have hbase:∀q∈nv.ownBlock.toList,q∈b1:=λq hq=>h4 q (by simp only [AG,List.cons_append,List.mem_cons,List.mem_append];exact .inr (.inl (.inl hq)));have hnod:=h3;simp only [AG,List.cons_append,List.append_assoc] at hnod;obtain ⟨n1',n2'⟩:=List.nodup_cons.1 hnod;obtain ⟨n3,n4,n5⟩:=List.nodup_append.1 n2';obtain ⟨n6,n7,n8⟩:=List.nodup_append.1 n4;have hbk:b∉nv.ownBlock.toList:=λh=>n1' (by simp only [List.mem_append];exact .inl h);have hkk:∀q∈kv.ownBlock.toList,q∉nv.ownBlock.toList:=λq hq hk=>n5 q hk q (by simp only [List.mem_append];exact .inl hq) rfl
 have hFk:∀q∈Fk,q∉nv.ownBlock.toList:=λq hq hk=>n5 q hk q (by simp only [List.mem_append];exact .inr hq) rfl;have hltn:=Tw (I:=I) (w:=w) (ty:=ty) (nt:=nt) (hd:=hd) (nv:=nv) (kv:=kv) (kbs:=kbs) (b:=b) ⟨hcell,⟨⟨xs,x1,x2⟩,x3⟩,hrow⟩;have hltb:b<w.heap.size:=hltn b (by simp [AG]);have hltkv:∀q∈kv.ownBlock.toList,q<w.heap.size:=λq hq=>hltn q (by simp only [AG,List.mem_cons,List.mem_append];exact .inr (.inr hq));have hltF:=OP h2;have hv1:∀q∈v'.ownBlock.toList,q∈nv.ownBlock.toList\/w.heap.size<=q:=λq hq=>Tt hg hq;refine ⟨AG v' kv b++Fk,λq hq=>?_,v',nv,kv,kbs,Fk,rfl,?_,⟨⟨xs++news,?_,?_⟩,λe=>by simp at e⟩,?_,?_,?_,λq hq=>hq⟩
 ·simp only [AG,List.cons_append,List.mem_cons,List.mem_append] at hq;have hw:q∈b1\/(w.heap.size<=q/\q∈v'.ownBlock.toList):=by
   rcases hq with rfl | (hq | hq) | hq
   ·exact .inl (h4 q (by simp [AG]))
   ·rcases hv1 q hq with h | h
    ·exact .inl (hbase q h)
    ·exact .inr ⟨h,hq⟩
   ·exact .inl (h4 q (by simp only [AG,List.cons_append,List.mem_cons,List.mem_append];exact .inr (.inl (.inr hq))))
   ·exact .inl (h4 q (by simp [hq]))
  rcases hw with h | ⟨h,hq⟩
  ·exact .inl h
  ·exact .inr ⟨h,PJ hg.1 hq⟩
 ·obtain ⟨vs0,ts,hs,c1,c2⟩:=hcell;exact ⟨vs0,ts,hs,(hne b hltb hbk).trans c1,c2⟩
 ·rw [List.length_append];exact hg.1
 ·rw [Ob,List.flatten_append];exact x2.append n1
 ·exact BG (λq hq=>hne q (hltkv q hq) (hkk q hq)) hrow
 ·exact Cr (λq hq=>hne q (hltF q hq) (hFk q hq)) h2
 ·have hvn:v'.ownBlock.toList.Nodup:=by cases v'.ownBlock <;> simp
  simp only [AG,List.cons_append,List.append_assoc];refine List.nodup_cons.2 ⟨λh=>?_,List.nodup_append.2 ⟨hvn,n4,λx hx y hy e=>?_⟩⟩
  ·rcases List.mem_append.1 h with h | h
   ·rcases hv1 b h with h | h
    ·exact hbk h
    ·omega
   ·exact n1' (List.mem_append_right _ h)
  ·subst e;rcases List.mem_append.1 hy with hy | hy
   ·rcases hv1 x hx with h | h
    ·exact hkk x hy h
    ·have:=hltkv x hy;omega
   ·rcases hv1 x hx with h | h
    ·exact hFk x hy h
    ·have:=hltF x hy;omega
theorem gY:QW (fZ ty nt hd ks b) (AV (.mk ty nt hd ks) b) b 7 0:=by
 intro us I w bs ⟨v,nv,kv,kbs,Fk,h0,⟨vs,ts,hs,h1,h2,h3,h4⟩,h5,h6,h7,h8,h9⟩;have e1:ts.length=4:=by rw [h3.1,Pk]
 have e2:hs.length=3:=by rw [h4.1];simp
 have hl:vs.toList.length=9:=by rw [h2];simp [e1,e2]
 refine ⟨h9 b (by simp [AG]),vs,_,h1,by simp at hl;omega,λu hu h1u=>?_⟩;subst h0;have hu:v=u:=by simpa using hu
 subst hu;have hne:=KC h8;refine ⟨AG v kv b++Fk,⟨v,kv,kbs,Fk,⟨⟨_,ts,hs,setRow_heap w b vs _ _ _ h1,?_,h3,h4⟩,⟨?_,h5.2⟩,?_⟩,?_,rfl,h8⟩,h9⟩
 ·rw [List.toList_toArray,h2]
  match ts,e1 with
  | [a0,a1,a2,a3],_ =>
  match hs,e2 with
  | [a4,a5,a6],_=>simp
 ·obtain ⟨⟨xs,x1,x2⟩,_⟩:=h5;exact ⟨xs,BG (λq hq=>CG (hne q (by simp only [List.mem_append];exact .inl (.inl hq)))) x1,x2⟩
 ·exact BG (λq hq=>CG (hne q (by simp only [List.mem_append];exact .inl (.inr hq)))) h6
 ·exact Cr (λq hq=>CG (hne q (by simp only [List.mem_append];exact .inr hq))) h7
end
theorem XF {ds:List Dt} (ho:OkW ds) {N:Nat}:∀(path:List Int) (m:Mi),GU ds N m=true->Jf ds m path->GU ds N (E0 ds m path)=true
 | [],m,h,_=>h
 | i::p,m,h,⟨_,k,hk,hp⟩=>by
  simp only [E0,hk];exact XF ho p k ((Bf.1 (Df ho h)).2.2 k (List.mem_of_getElem? hk)) hp
set_option maxHeartbeats 4000000 in
theorem Wo (c:Cse) (sz:List (List V)) (ho:OkW c.datas) (N:Nat) (hN:N<=1000000) (m:Mi) (b:Nat) (path:List Int) (h:Ty) (is:Bool) (hl:path.length<=1000000) (hw:GU c.datas N m=true) (hc:DF c.datas m) (hp:Jf c.datas m path) :
  Bc Tryz.prog 110 [.imm (AL c sz),.raw (ptr b),.imm (.sl (Bu path)),.imm (.agg (Be h)),.imm (.bool is)] [(1,some (.hp (AV m b)))] (.ret (.hv 2 0) [(3,some (.hp (AV m b))),(2,some (.hp (Hv (A7 c.datas m path h is))))]):=by
 have hC:=OW c.datas N hN m b hw;have hA:=λx=>nK c sz ho N m x path hl hw hc hp;have hwp:=Bf.1 (XF ho path m hw hp);have hH:=λx=>Xk c sz (E0 c.datas m path) h x ho hwp.1.1;obtain ⟨s1,s2⟩:=RI h path m hp;have hnl:=hwp.1.2.2;obtain ⟨h1,h2,h3,h4⟩:=h;refine Ad Aj Tryz.func110 (by decide +kernel) rfl [4,5,6,7,8,9,10,11,12,13,14] rfl rfl ?_;refine mg [] rfl (by simp) ?_;refine Az (fr:=[5,6]) [(1,1)] [(3,5),(2,6)] rfl (by simp) hC ⟨⟨rfl,rfl,rfl⟩,trivial⟩ rfl rfl rfl rfl ?_;refine J0 6 7 (λob:Nat=>[ptr ob]) (λob=>AV m ob) rfl (λvs I w bs h=>let ⟨ob,F,e1,e2,e3⟩:=h;⟨ob,e1,F,e2,e3⟩) λob=>?_;refine md [] rfl (by simp) ?_
 refine Az (fr:=[8]) [(7,1)] [(2,8)] rfl (by simp) (hA ob) ⟨⟨rfl,rfl,rfl⟩,trivial⟩ rfl rfl rfl rfl ?_;refine J0 8 9 (λx:Nat=>[ptr x]) (λx=>QX (FQ ob x (Mo c.datas m path)) (AV (E0 c.datas m path) x)) rfl (λvs I w bs h=>let ⟨x,b1,b2,e1,e2⟩:=h;⟨x,e1,b1,b2,e2⟩) λx=>?_;refine ID 9 10 11 (λ_:Unit=>FQ ob x (Mo c.datas m path)) (λ_:Unit=>AV (E0 c.datas m path) x) rfl (λvs I w bs ⟨b1,b2,h1,h2,h3,h4,h5⟩=>⟨(),b1,b2,h1,h2,h3,h4,h5⟩) λ_=>?_;refine md [] rfl (by simp) ?_;cases is with
 | true =>
  refine Aa rfl (λh=>?_) (λh=>by simp at h);refine md [] rfl (by simp) ?_;refine Az (fr:=[12]) [(11,1)] [(2,12)] rfl (by simp) (hH x) ⟨⟨rfl,rfl,rfl⟩,trivial⟩ rfl rfl rfl rfl ?_;refine mg [] rfl (by simp) ?_;refine Ga 10 12 13 (λ_:Unit=>AV (A7 c.datas m path (.mk h1 h2 h3 h4) true) ob) rfl rfl (by decide) (λvs us I w b1 b2 k1 k2 k3=>let ⟨bs,e1,e2⟩:=R6 k1 k2 k3;⟨(),bs,e1,by rw [s1];exact e2⟩) λ_=>?_;refine GG 13 10 14 (Hv (A7 c.datas m path (.mk h1 h2 h3 h4) true)) rfl rfl rfl (λus I w bs h=>let ⟨F,e1,e2⟩:=h;⟨ob,F,rfl,e1,e2⟩) ?_;refine A6 14 2 rfl ?_;refine A6 5 3 rfl ?_;exact Ab ⟨_,rfl,rfl,rfl,rfl,trivial⟩
 | false =>
  refine Aa rfl (λh=>by simp at h) (λh=>?_);generalize hP:E0 c.datas m path=P0 at *;obtain ⟨pty,pnt,phd,pks⟩:=P0;simp only [Mi.nt,Mi.ty,Mi.hd,Mi.ks] at hnl s2;refine BU 11 (λy:Opn=>Cf pty pnt phd pks y x) rfl (λvs I w bs h=>D9 h) λy=>?_;refine md [] rfl (by simp) ?_;refine Bl Aj 11 [.raw (H9 y.no pnt.length y.nc)] rfl rfl (λ_ vs I w bs h=>Iy h) rfl rfl (by simp [Ah]) ?_;refine mg [] rfl (by simp [Ah]) ?_;refine mA Aj 11 12 (fZ pty (pnt++[Ty.mk h1 h2 h3 h4]) phd pks x) rfl rfl (jH (h:=Ty.mk h1 h2 h3 h4) (bytes:=32) (by decide) (by omega)) ?_;refine mg [] rfl (by simp) ?_;refine MY Aj 12 _ rfl rfl gY ?_;refine mg [] rfl (by simp [Ah];rfl) ?_
  refine Ga 10 12 13 (λ_:Unit=>AV (A7 c.datas m path (.mk h1 h2 h3 h4) false) ob) rfl rfl (by decide) (λvs us I w b1 b2 k1 k2 k3=>let ⟨bs,e1,e2⟩:=R6 k1 k2 k3;⟨(),bs,e1,by rw [s2];exact e2⟩) λ_=>?_;refine GG 13 10 14 (Hv (A7 c.datas m path (.mk h1 h2 h3 h4) false)) rfl rfl rfl (λus I w bs h=>let ⟨F,e1,e2⟩:=h;⟨ob,F,rfl,e1,e2⟩) ?_;refine A6 14 2 rfl ?_;refine A6 5 3 rfl ?_;exact Ab ⟨_,rfl,rfl,rfl,rfl,trivial⟩
end Go.Hk
namespace Go.Hk
open Go.Proofs
section
variable {I J:Imm} {w w':World} {ty:Ty} {nt:List Ty} {hd:Ty} {ks:List Mi} {b:Nat} {us:List Value} {bs:List Nat}
def Wh (ty:Ty) (nt:List Ty) (hd:Ty) (ks:List Mi) (y:Opn) (b i kb:Nat):Asn where
 P us I w bs:=H2 I w ty nt hd (H9 y.no nt.length y.nc) (H9 y.ko ks.length y.kc) y.kbs b/\y.kbs.length=ks.length/\(∀q∈AG (H9 y.no nt.length y.nc) (H9 y.ko ks.length y.kc) b,q∈bs)/\(Rb ty nt hd ks y b i kb).P us I w bs
 mono:=λh ⟨h1,h2,h3,h4⟩=>⟨Ej h h1,h2,h3,(Rb ty nt hd ks y b i kb).mono h h4⟩
 loc:=λh ⟨h1,h2,h3,h4⟩=>⟨Fb (λq hq=>h q (h3 q hq)) h1,h2,h3,(Rb ty nt hd ks y b i kb).loc h h4⟩
theorem UD {y:Opn} {i kb:Nat} {k:Mi} (h:(Cf ty nt hd ks y b).P us I w bs) (hk:ks[i]?=some k) (hkb:y.kbs[i]?=some kb) :
  ∃b1 b2,(∀q∈b1,q∈bs)/\(∀q∈b2,q∈bs)/\(∀q∈b1,q∉b2)/\(Wh ty nt hd ks y b i kb).P [] I w b1/\(AV k kb).P [] I w b2:=by
 have h0:=h;obtain ⟨Fk,h1,h2,h3,h4⟩:=h0;have hl:=HI h;obtain ⟨kb',F1,Fi,F2,g1,g2,g3,g4⟩:=KJ h2 hk;rw [hkb] at g1;cases g1;subst g3;generalize hnv:H9 y.no nt.length y.nc=nv at *;generalize hkv:H9 y.ko ks.length y.kc=kv at *;refine ⟨AG nv kv b++(F1++F2),Fi,λq hq=>h4 q (by simp at hq ⊢;rcases hq with h | h | h <;> simp [h]),λq hq=>h4 q (by simp [hq]),λq hq hq2=>?_,⟨by rw [hnv,hkv];exact h1,hl,λq hq=>by rw [hnv,hkv] at hq;simp [hq],?_⟩,⟨Fi,g2,λq hq=>hq⟩⟩
 ·have e:AG nv kv b++(F1++Fi++F2)=(AG nv kv b++F1)++Fi++F2:=by simp
  rw [e] at h3;have hn:=List.nodup_append.1 h3;have hn2:=List.nodup_append.1 hn.1;rcases List.mem_append.1 hq with hq | hq
  ·exact hn2.2.2 q (by simp [hq]) q hq2 rfl
  ·rcases List.mem_append.1 hq with hq | hq
   ·exact hn2.2.2 q (by simp [hq]) q hq2 rfl
   ·exact hn.2.2 q (by simp [hq2]) q hq rfl
 ·intro J w2 k' F hJ hw hm hd';refine ⟨AG nv kv b++(F1++F++F2),⟨F1++F++F2,?_,g4 J w2 k' F hJ (λq hq=>hw q (by simp only [List.mem_append] at hq ⊢;exact .inr hq)) hm,?_,λq hq=>?_⟩,λq hq=>?_⟩
  ·rw [List.length_set,hnv,hkv];exact Ej hJ (Fb (λq hq=>hw q (by simp [hq])) h1)
  ·rw [List.length_set,hnv,hkv];have hF:=Iv hm;have e:AG nv kv b++(F1++Fi++F2)=(AG nv kv b++F1)++(Fi++F2):=by simp
   have e2:AG nv kv b++(F1++F++F2)=(AG nv kv b++F1)++(F++F2):=by simp
   rw [e] at h3;rw [e2];obtain ⟨a1,a2,a3⟩:=List.nodup_append.1 h3;obtain ⟨a4,a5,a6⟩:=List.nodup_append.1 a2;refine List.nodup_append.2 ⟨a1,List.nodup_append.2 ⟨hF,a5,λx hx y hy e=>hd' x hx (by subst e;simp [hy])⟩,λx hx y hy e=>?_⟩;subst e;rcases List.mem_append.1 hy with hy | hy
   ·exact hd' x hy (by simp only [List.mem_append] at hx ⊢;rcases hx with h | h <;> simp [h])
   ·exact a3 x hx x (by simp [hy]) rfl
  ·rw [List.length_set,hnv,hkv] at hq;exact hq
  ·simp only [List.mem_append] at hq ⊢;rcases hq with h | (h | h) | h <;> simp [h]
theorem iO {y:Opn} {i kb:Nat} (h:(Wh ty nt hd ks y b i kb).P us I w bs):CP I w b 8 [.raw (H9 y.ko ks.length y.kc)]:=by
 obtain ⟨h,_⟩:=h;obtain ⟨t1,t2,t3,t4⟩:=ty;obtain ⟨f1,f2,f3,f4⟩:=hd;exact Fo (Ec h) λj d hd=>by match j,hd with | 0,hd=>exact hd | j+1,hd=>simp at hd
theorem eH {y:Opn} {g i kb:Nat} (hko:y.ko=some g) (hkb:y.kbs[i]?=some kb) (h:(Wh ty nt hd ks y b i kb).P us I w bs):CP I w g (0+i*1) [.raw (ptr kb)]:=by
 obtain ⟨h1,h2,h3,_⟩:=h;have hi:=(List.getElem?_eq_some_iff.1 hkb).1;rcases h1.2.2.2 with ⟨_,h0⟩ | ⟨g',cap,cur,e,_,e1,e2,_,e3,e4⟩
 ·omega
 rw [hko] at e;simp only [H9,Option.map_some,Value.slice.injEq,Option.some.injEq,Addr.mk.injEq,and_true] at e;obtain ⟨rfl,e5,rfl⟩:=e;refine ⟨cur,_,_,e1,λj d hd=>?_⟩
 match j with
 | 0 =>
  simp at hd;subst hd;refine ⟨ptr kb,?_,rfl,.raw _ rfl⟩;have:(cur.toList.take (y.kbs.length*1))[i]?=some (ptr kb):=by rw [e4];simp [hkb]
  rw [List.getElem?_take] at this
  split at this
  ·simpa using this
  ·cases this
 | j+1=>simp at hd
theorem Qq {y:Opn} {i kb:Nat} {k:Mi} {vs:List Value} {b1 b2:List Nat} (h:(Wh ty nt hd ks y b i kb).P us I w b1) (hk:(AV k kb).P vs I w b2) (hd':∀q∈b1,q∉b2):∃bs,(∀q∈bs,q∈b1\/q∈b2)/\(Cf ty nt hd (ks.set i k) y b).P [] I w bs:=Sx h.2.2.2 hk hd'
end
def O2 (path:List Int) (r:Int×List Int×Ty):D:=if r.1=2 then .tup [.imm (.bool false),.ip 170 (.sl (Bu (path++r.2.1))::Be r.2.2) 0] else .imm (.tup [.bool (decide (r.1=1)),.nilp])
theorem Zb {ds:List Dt} {f n:Int} {x:Str} {ps:List Ty} {m:Mi} :
  (f=1\/f=2->Ax ds (.mk f n x ps) m=(1,[],zT)/\Ey ds (.mk f n x ps) m=m) /\
  (¬(f=1\/f=2)->AC (Af ds m).hd=0->Ey ds (.mk f n x ps) m=Af ds m/\(BD (Af ds m).nt (AN (.mk f n x ps))=true->Ax ds (.mk f n x ps) m=(0,[],zT))/\(BD (Af ds m).nt (AN (.mk f n x ps))=false->Ax ds (.mk f n x ps) m=(2,[],AN (.mk f n x ps)))) /\
  (¬(f=1\/f=2)->AC (Af ds m).hd≠0->A5 (Af ds m).hd (AN (.mk f n x ps))=false->Ey ds (.mk f n x ps) m=Af ds m/\Ax ds (.mk f n x ps) m=(0,[],zT)) /\
  (¬(f=1\/f=2)->AC (Af ds m).hd≠0->A5 (Af ds m).hd (AN (.mk f n x ps))=true->Ey ds (.mk f n x ps) m = .mk (Af ds m).ty (Af ds m).nt (Af ds m).hd (CT ds ps (Af ds m).ks)/\Ax ds (.mk f n x ps) m=AW ds 0 ps (Af ds m).ks):=by
 refine ⟨λh=>?_,λh h0=>?_,λh h0 h1=>?_,λh h0 h1=>?_⟩
 ·exact ⟨by simp only [Ax,if_pos h],by simp only [Ey,if_pos h]⟩
 ·refine ⟨by simp only [Ey,if_neg h,if_pos (Or.inl h0)],λhb=>?_,λhb=>?_⟩
  ·simp only [Ax,if_neg h];rw [if_neg (λhh=>by rw [hb] at hh;cases hh.2),if_pos (Or.inl h0)]
  ·simp only [Ax,if_neg h];rw [if_pos ⟨h0,hb⟩]
 ·refine ⟨by simp only [Ey,if_neg h,if_pos (Or.inr h1)],?_⟩;simp only [Ax,if_neg h];rw [if_neg (λhh=>h0 hh.1),if_pos (Or.inr h1)]
 ·have hn:¬(AC (Af ds m).hd=0\/A5 (Af ds m).hd (AN (.mk f n x ps))=false):=λh=>by
   rcases h with h | h
   ·exact h0 h
   ·rw [h1] at h;cases h
  refine ⟨by simp only [Ey,if_neg h,if_neg hn],?_⟩;simp only [Ax,if_neg h];rw [if_neg (λhh=>h0 hh.1),if_neg hn]
theorem Ux (l:List Int):∀c∈Bu l,c.length=1:=λc hc=>by simp only [Bu,List.mem_map] at hc;obtain ⟨q,_,rfl⟩:=hc;rfl
theorem fS (path:List Int) (i:Int) (r1:Int) (r2:List Int) (r3:Ty):O2 (path++[i]) (r1,r2,r3)=O2 path (r1,i::r2,r3):=by
 simp only [O2,List.append_assoc,List.singleton_append]
theorem YY {α:Type} {l:List α} {i:Nat} (a:α) (h:i<l.length):l.set i a=l.take i++a::l.drop (i+1):=by
 apply List.ext_getElem?;intro j;rw [List.getElem?_set];by_cases e:i=j
 ·subst e;rw [if_pos rfl,if_pos h,List.getElem?_append_right (by simp;omega)];simp [Nat.min_eq_left (Nat.le_of_lt h)]
 ·rw [if_neg e];rcases Nat.lt_or_ge j i with hj | hj
  ·rw [List.getElem?_append_left (by simp;omega),List.getElem?_take,if_pos hj]
  ·rw [List.getElem?_append_right (by simp;omega),List.length_take,Nat.min_eq_left (Nat.le_of_lt h)];obtain ⟨q,hq⟩:∃q,j-i=q+1:=⟨j-i-1,by omega⟩
   rw [hq,List.getElem?_cons_succ,List.getElem?_drop];congr 1;omega
set_option maxHeartbeats 4000000 in
theorem bX (c:Cse) (sz:List (List V)) (ho:OkW c.datas) (N:Nat) (hN:N<=1000000):∀(p:Ty) (m:Mi) (b:Nat) (path:List Int),path.length+Ai p<=1000000->GU c.datas N m=true->DF c.datas m->Co c.datas m.ty p=true->BA p=true ->
  Bc Tryz.prog 109 [.imm (AL c sz),.imm (.agg (dTyc p)),.raw (ptr b),.imm (.sl (Bu path))] [(1,some (.hp (AV m b)))] (.ret (O2 path (Ax c.datas p m)) [(2,some (.hp (AV (Ey c.datas p m) b)))])
 | .mk f n x ps,m,b,path,hN1,hw,hc,hpt,hpp=>by
  have hK:=Va c sz m b ho (Bf.1 hw).1.1;have hW:=Lh (.mk f n x ps);have hcl:=aN path (by omega);have hfit:=Og ho (.mk f n x ps) hw hc hpt hpp;have hsw:=Df ho hw;have hsc:=Dd (ds:=c.datas) hc;have hkp:¬(f=1\/f=2)->AC (Af c.datas m).hd≠0->A5 (Af c.datas m).hd (AN (.mk f n x ps))=true->ps.length=(Af c.datas m).ks.length/\∀(i:Nat) k p,(Af c.datas m).ks[i]?=some k->ps[i]?=some p->Co c.datas k.ty p=true/\BA p=true:=λh12 h0 hE=>by
   obtain ⟨k1,k2,k3,k4⟩:=L5 (Bf.1 hw).1.1 hpt hpp h12;have hks:=((B4.1 hsc).2.1 h0).2;rw [Js hE,Dy] at hks;refine ⟨by rw [<- k2,<- hks,List.length_map],λi k p hk hp=>⟨Jc k3 (by rw [<- hks];simp [hk]) hp,NK k4 hp⟩⟩
  obtain ⟨e1,e2,e3,e4⟩:=Zb (ds:=c.datas) (f:=f) (n:=n) (x:=x) (ps:=ps) (m:=m);simp only [Ai] at hN1;simp only [iT] at hfit;refine Ad Aj Tryz.func109 (by decide +kernel) rfl [3,4,5,6,7,8,9,10,11,12] rfl rfl ?_;refine mg [] rfl (by simp) ?_;by_cases h12:f=1\/f=2
  ·obtain ⟨q1,q2⟩:=e1 h12;rw [q1,q2];refine Aa rfl (λh=>?_) (λh=>by exfalso;revert h;rcases h12 with rfl | rfl <;> simp);refine md [] rfl (by simp) ?_;refine JV 1 4 (λ_:Unit=>AV m b) rfl (λvs I w bs h=>let ⟨F,k1,k2⟩:=h;⟨(),bs,λq hq=>hq,F,k1,k2⟩) λ_=>?_;refine A6 4 2 rfl ?_;exact Ab ⟨_,rfl,rfl,rfl,trivial⟩
  replace e2:=e2 h12;replace e3:=e3 h12;replace e4:=e4 h12;replace hkp:=hkp h12;clear e1;refine Aa rfl (λh=>by exfalso;apply h12;simpa using h) (λh=>?_);clear h;refine md [] rfl (by simp) ?_;refine Ac rfl (λ_=>hW) (by simp) ?_;have hkb:GA c.datas m=decide (AC (Af c.datas m).hd≠0):=rfl;generalize Ax c.datas (.mk f n x ps) m=L at *;generalize Ey c.datas (.mk f n x ps) m=ST at *;generalize AN (.mk f n x ps)=h at *;generalize Af c.datas m=S at *;generalize GA c.datas m=kb at *;obtain ⟨ty,nt,hd,ks⟩:=S;simp only [Mi.ty,Mi.nt,Mi.hd,Mi.ks] at *;obtain ⟨h1,h2,h3,h4⟩:=h;refine mg [] rfl (by simp) ?_;refine Az (fr:=[5]) [(1,1)] [(2,5)] rfl (by simp) hK ⟨⟨rfl,rfl,rfl⟩,trivial⟩ rfl rfl rfl rfl ?_
  refine mg [] rfl (by simp) ?_;have hCt:=Gg nt (.mk h1 h2 h3 h4);by_cases h0:AC hd=0
  ·have hkf:kb=false:=by rw [hkb];exact decide_eq_false (λhh=>hh h0)
   subst hkf;obtain ⟨q1,q2,q3⟩:=e2 h0;refine Aa rfl (λh=>?_) (λh=>by simp at h);refine BU 5 (λy:Opn=>Cf ty nt hd ks y b) rfl (λvs I w bs h=>D9 h) λy=>?_;refine md [] rfl (by simp) ?_;refine Bl Aj 5 [.raw (H9 y.no nt.length y.nc)] rfl rfl (λ_ vs I w bs h=>Iy h) rfl rfl (by simp [Ah]) ?_;refine mg [] rfl (by simp [Ah]) ?_;refine OS 5 (vs:=[.sl (Bp nt),.agg (Be (.mk h1 h2 h3 h4))]) rfl rfl (λ_=>⟨.inr ⟨_,rfl,λus I w bs h J hle hJ=>HC h hle hJ⟩,.inl rfl,trivial⟩) (λ_=>hCt) rfl (by simp) rfl ?_;refine mg [] rfl (by simp [Ah];rfl) ?_;refine BU 5 (λ_:Unit=>AV (.mk ty nt hd ks) b) rfl (λvs I w bs h=>⟨(),Eh h⟩) λ_=>?_;rw [q1];cases hb:BD nt (.mk h1 h2 h3 h4) with
   | true =>
    rw [q2 hb];refine Aa rfl (λh=>?_) (λh=>by simp at h);refine md [] rfl (by simp) ?_;refine A6 5 2 rfl ?_;exact Ab ⟨_,rfl,rfl,rfl,trivial⟩
   | false =>
    rw [q3 hb];refine Aa rfl (λh=>by simp at h) (λh=>?_);refine md [] rfl (by simp) ?_;refine Ac rfl (λ_=>hcl) (by simp) ?_;refine mg [] rfl (by simp;rfl) ?_;refine Oo 9 rfl rfl ?_;refine A6 5 2 rfl ?_;have hap:path++[]=path:=List.append_nil path;simp only [O2,if_true,hap];exact Ab ⟨_,rfl,rfl,rfl,trivial⟩
  have hkt:kb=true:=by rw [hkb];exact decide_eq_true h0
  subst hkt;refine Aa rfl (λh=>by simp at h) (λh=>?_);refine BU 5 (λy:Opn=>Cf ty nt hd ks y b) rfl (λvs I w bs h=>D9 h) λy=>?_;refine md [] rfl (by simp) ?_;obtain ⟨d1,d2,d3,d4⟩:=hd;refine Bl Aj 5 ((Be (.mk d1 d2 d3 d4)).map .imm) rfl rfl (λ_ vs I w bs h=>ON h) rfl rfl (by simp [Ah]) ?_;refine mg [] rfl (by simp [Ah]) ?_;refine Vr Aj rfl LL (by simp [Ah]) ?_;refine mg [] rfl (by simp [Ah];rfl) ?_;cases hE:A5 (.mk d1 d2 d3 d4) (.mk h1 h2 h3 h4) with
  | false =>
   obtain ⟨q1,q2⟩:=e3 h0 hE;rw [q1,q2];simp only [A5] at hE;refine BU 5 (λ_:Unit=>AV (.mk ty nt (.mk d1 d2 d3 d4) ks) b) rfl (λvs I w bs h=>⟨(),Eh h⟩) λ_=>?_;refine Aa rfl (λh=>?_) (λh=>by exfalso;simp at h hE;grind);refine md [] rfl (by simp) ?_;refine A6 5 2 rfl ?_;exact Ab ⟨_,rfl,rfl,rfl,trivial⟩
  | true =>
  obtain ⟨q1,q2⟩:=e4 h0 hE;rw [q1,q2];have hEf:(AC (Ty.mk d1 d2 d3 d4)=0)=False:=by simp [h0]
  simp only [A5] at hE;refine Aa rfl (λh=>by exfalso;simp at h hE;grind) (λh=>?_);clear h;refine md [] rfl (by simp) ?_;obtain ⟨hpl,hkp⟩:=hkp h0 (by simp only [A5];exact hE);have hks3:ks.length<=3:=(Bf.1 hsw).1.2.1;refine Ak (λz:Nat×List Mi=>[(49,.imm (.int .i64 z.1)),(48,.imm (.int .i64 ps.length)),(47,.imm (.sl (Bq ps))),(3,.imm (.sl (Bu path))),(2,.raw (ptr b)),(0,.imm (AL c sz))])
   (λz=>[(5,some (.hp (Cf ty nt (.mk d1 d2 d3 d4) z.2 y b)))]) [6,7,8,9,10,11,12] (λz=>ps.length-z.1)
   (λz=>z.1<=ps.length/\z.2.length=ks.length/\z.2.drop z.1=ks.drop z.1/\AW c.datas 0 ps ks=AW c.datas z.1 (ps.drop z.1) (ks.drop z.1)/\CT c.datas ps ks=z.2.take z.1++CT c.datas (ps.drop z.1) (ks.drop z.1)) (0,ks)
   ⟨Nat.zero_le _,rfl,rfl,rfl,rfl⟩ ⟨rfl,As (by simp),rfl,rfl,rfl,rfl,trivial⟩ ⟨rfl,trivial⟩ rfl λz hz ih=>?_
  obtain ⟨i,K⟩:=z;obtain ⟨z1,z2,z3,z4,z5⟩:=hz;simp only at z1 z2 z3 z4 z5;refine md [] rfl (by simp) ?_;refine Aa rfl (λh=>?_) (λh=>?_)
  ·have hlt:i<ps.length:=by simp at h;omega
   obtain ⟨p,hp⟩:=Am hlt;obtain ⟨k,hk⟩:=Am (l:=ks) (i:=i) (by omega);have hKk:K[i]?=some k:=by
    have:=congrArg (·[0]?) z3;simpa [hk] using this
   obtain ⟨r1,r2⟩:=hkp i k p hk hp;have hnp:=BJ hp;have hS:=λkb=>bX c sz ho N hN p k kb (path++[(i:Int)]) (by simp;omega) ((Bf.1 hsw).2.2 k (List.mem_of_getElem? hk)) ((B4.1 hsc).2.2 k (List.mem_of_getElem? hk)) r1 r2;rw [WI hp hk] at z4;rw [An hp,An hk] at z5;simp only [CT] at z5;have hKi:i<K.length:=by omega
   have hdr:K.drop (i+1)=ks.drop (i+1):=by rw [<- List.drop_drop,z3,List.drop_drop]
   have hset:=YY (Ey c.datas p k) hKi;have hn1:∀e:(Ax c.datas p k).1≠1,CT c.datas ps ks=K.set i (Ey c.datas p k):=λe=>by rw [z5,hset,if_neg e,hdr]
   have hn2:(Ax c.datas p k).1=1->CT c.datas ps ks=(K.set i (Ey c.datas p k)).take (i+1)++CT c.datas (ps.drop (i+1)) (ks.drop (i+1)):=λe=>by
    have e1:(K.set i (Ey c.datas p k))[i]?=some (Ey c.datas p k):=List.getElem?_set_self hKi;rw [z5,if_pos e,Bb e1,List.take_set_of_le (Nat.le_refl i)];simp
   have hn3:(K.set i (Ey c.datas p k)).drop (i+1)=ks.drop (i+1):=by rw [List.drop_set_of_lt (by omega)];exact hdr
   have hih:=λe:(Ax c.datas p k).1=1=>ih (i+1,K.set i (Ey c.datas p k)) (by simp only;omega) ⟨by simp only;omega,by simp [z2],hn3,by rw [z4,if_pos e],hn2 e⟩;have hz4:(Ax c.datas p k).1≠1->AW c.datas 0 ps ks=((Ax c.datas p k).1,(i:Int)::(Ax c.datas p k).2.1,(Ax c.datas p k).2.2):=λe=>by rw [z4,if_neg e]
   clear ih z4 z5 hn2 hn3 hset;generalize Ey c.datas p k=k' at *;generalize Ax c.datas p k=r at *;obtain ⟨r1',r2',r3'⟩:=r;simp only at hih hz4 hn1;refine BU 5 (λ_:{ z:Nat×Nat // y.ko=some z.1/\y.kbs[i]?=some z.2 }=>Cf ty nt (.mk d1 d2 d3 d4) K y b) rfl (λvs I w bs hA=>?_) λz=>?_
   ·obtain ⟨g,g1,_⟩:=OL hA (λe=>by have e:K=[]:=e;rw [e] at hKi;simp at hKi);have hl:y.kbs.length=K.length:=HI hA;exact ⟨⟨(g,y.kbs[i]'(by omega)),g1,List.getElem?_eq_getElem (by omega)⟩,hA⟩
   obtain ⟨⟨g,kb⟩,hko,hkb2⟩:=z;simp only at hko hkb2;obtain ⟨no,nc,ko,kc,kbs⟩:=y;simp only at hko hkb2;subst hko;refine ID 5 6 7 (λ_:Unit=>Wh ty nt (.mk d1 d2 d3 d4) K ⟨no,nc,some g,kc,kbs⟩ b i kb) (λ_:Unit=>AV k kb) rfl (λvs I w bs h=>let ⟨b1,b2,h1,h2,h3,h4,h5⟩:=UD h hKk hkb2;⟨(),b1,b2,h1,h2,h3,h4,h5⟩) λ_=>?_;refine md [] rfl (by simp) ?_;refine mi rfl (c:=dTyc p) (λ_=>⟨by simp,by simpa using At hp,by simp⟩) (by simp) ?_;obtain ⟨p1,p2,p3,p4⟩:=p;refine mg [] rfl (by simp) ?_;refine Bl Aj 6 [.raw (H9 (some g) K.length kc)] rfl rfl (λ_ vs I w bs h=>iO h) rfl rfl (by simp [Ah]) ?_;refine mg [] rfl (by simp [Ah]) ?_;refine LO Aj rfl rfl (λ_=>⟨by simp,by simp;omega⟩) (by simp) ?_
   refine mg [] rfl (by simp) ?_;refine Bl Aj 6 [.raw (ptr kb)] rfl rfl (λ_ vs I w bs h=>eH rfl hkb2 h) rfl rfl (by simp) ?_;refine mg [] rfl (by simp) ?_;refine Ce [] [] [] (fr:=[]) (nm:=[]) rfl trivial (by simp) (gG path) trivial rfl trivial rfl rfl rfl ?_;refine mg [] rfl (by simp) ?_;refine S5 Aj rfl ⟨by simp,by simp [maxLen];omega,by simp;omega,Ux path,by simp⟩ (Ux path) ?_;refine mg [] rfl (by simp) ?_;have hap:Bu path++[[V.int .i64 (i:Int)]]=Bu (path++[(i:Int)]):=by simp [Bu]
   rw [hap];have hSk:=hS kb;by_cases hr1:r1'=1
   ·have hQ1:O2 (path++[(i:Int)]) (r1',r2',r3') = .imm (.tup [.bool true,.nilp]):=by rw [hr1];rfl
    rw [hQ1] at hSk;refine Ce [(7,1)] [(2,9)] [] (fr:=[9]) (nm:=[9,7]) rfl trivial (by simp) hSk ⟨⟨rfl,rfl,rfl⟩,trivial⟩ rfl trivial rfl rfl rfl ?_;refine mg [] rfl (by simp [Ah];rfl) ?_;refine Ga 6 9 10 (λ_:Unit=>Cf ty nt (.mk d1 d2 d3 d4) (K.set i k') ⟨no,nc,some g,kc,kbs⟩ b) rfl rfl (by decide) (λvs us I w b1 b2 h1 h2 h3=>let ⟨bs,e1,e2⟩:=Qq h1 h2 h3;⟨(),bs,e1,e2⟩) λ_=>?_;refine Aa rfl (λh=>by simp at h) (λh=>?_);refine md [] rfl (by simp) ?_;refine A6 5 10 rfl ?_;exact Ae (hih hr1) ⟨As (B9 (by omega) (by omega)),rfl,rfl,rfl,rfl,rfl,trivial⟩ ⟨rfl,trivial⟩ rfl
   ·rw [hz4 hr1,hn1 hr1,<- fS];have hQc:(∃cs,O2 (path++[(i:Int)]) (r1',r2',r3') = .tup [.imm (.bool false),.ip 170 cs 0])\/O2 (path++[(i:Int)]) (r1',r2',r3') = .imm (.tup [.bool false,.nilp]):=by
     by_cases e:r1'=2
     ·rw [e];exact .inl ⟨_,rfl⟩
     ·simp only [O2,if_neg e,decide_eq_false hr1];exact .inr trivial
    generalize O2 (path++[(i:Int)]) (r1',r2',r3')=Qd at *;rcases hQc with ⟨cs,rfl⟩ | rfl
    all_goals
     refine Ce [(7,1)] [(2,9)] [] (fr:=[9]) (nm:=[9,7]) rfl trivial (by simp) hSk ⟨⟨rfl,rfl,rfl⟩,trivial⟩ rfl trivial rfl rfl rfl ?_;refine mg [] rfl (by simp [Ah];rfl) ?_;refine Ga 6 9 10 (λ_:Unit=>AV (.mk ty nt (.mk d1 d2 d3 d4) (K.set i k')) b) rfl rfl (by decide) (λvs us I w b1 b2 h1 h2 h3=>let ⟨bs,e1,e2⟩:=Qq h1 h2 h3;⟨(),bs,e1,Eh e2⟩) λ_=>?_;refine Aa rfl (λh=>?_) (λh=>by simp at h);refine md [] rfl (by simp) ?_;refine A6 10 2 rfl ?_;exact Ab ⟨_,rfl,rfl,rfl,trivial⟩
  ·have hlt:¬i<ps.length:=by simp at h;omega
   refine Ar rfl ?_;rw [List.drop_eq_nil_of_le (by omega)] at z4 z5;simp only [AW,CT] at z4 z5;rw [<- z3,List.take_append_drop] at z5;rw [z4,z5];refine BU 5 (λ_:Unit=>AV (.mk ty nt (.mk d1 d2 d3 d4) K) b) rfl (λvs I w bs h=>⟨(),Eh h⟩) λ_=>?_;refine md [] rfl (by simp) ?_;refine A6 5 2 rfl ?_;exact Ab ⟨_,rfl,rfl,rfl,trivial⟩
termination_by p=>SizeOf.sizeOf p
decreasing_by
 have:=List.sizeOf_lt_of_mem (List.mem_of_getElem? hp);simp_wf;omega
end Go.Hk
namespace Go.Hk
open Go.Proofs
def VU:Option (Ty×Int)->Ty
 | none=>zT
 | some p=>p.1
def QQ:Option (Ty×Int)->Int
 | none=>0
 | some p=>p.2
theorem jD {ds:List Dt} (ho:OkW ds) (m:Mi) (h:Ty):0<=AP ds m h/\AP ds m h<=769:=by
 unfold AP
 split
 ·exact M7 ho (Ep ho m.ty (C4 h))
 ·omega
set_option maxHeartbeats 4000000 in
theorem Uo (c:Cse) (ho:OkW c.datas) (ty:Ty) (nt:List Ty) (hd:Ty) (ks:List Mi) (y:Opn) (b:Nat) (hn:AB c.datas ty=true) :
  Bc Tryz.prog 160 [.imm (AL c (Bu (D7 c.datas))),.raw (ptr b)] [(1,some (.hp (Cf ty nt hd ks y b)))]
   (.ret (.imm (.tup [.agg (Be (VU (Dm c.datas (.mk ty nt hd ks) none (A0 c.datas ty)))),.bool (A9 c.datas (.mk ty nt hd ks)).isSome])) [(1,some (.hp (Cf ty nt hd ks y b)))]):=by
 have hH:=eJ c (Bu (D7 c.datas)) ty ho hn;have hAr:=λs=>Pb c (Bu (D7 c.datas)) ty s ho.dif hn;have hSz:=λs=>XJ c (D7 c.datas) (Mz ho) ho.d4 (AK c.datas ty s).1 (BT ho.okd) (Ep ho ty s);have hCt:=λh=>Gg nt h;have hl:=Qu ho ty;have hcst:=λh=>jD ho (.mk ty nt hd ks) h;have hstep:∀(bb:Option (Ty×Int)) (i:Nat) (h:Ty),(A0 c.datas ty)[i]?=some h->Dm c.datas (.mk ty nt hd ks) bb ((A0 c.datas ty).drop i) =
   Dm c.datas (.mk ty nt hd ks) (if 0<AP c.datas (.mk ty nt hd ks) h/\BD nt h=false/\F3 bb (AP c.datas (.mk ty nt hd ks) h)=true then some (h,AP c.datas (.mk ty nt hd ks) h) else bb) ((A0 c.datas ty).drop (i+1)):=λbb i h hh=>by rw [An hh];rfl
 have hc4:∀h,AC h=4->AP c.datas (.mk ty nt hd ks) h=AM c.datas (D7 c.datas) 1 (AK c.datas ty (C4 h)).1:=λh e=>if_pos e;have hc0:∀h,AC h≠4->AP c.datas (.mk ty nt hd ks) h=1:=λh e=>if_neg e;have hres:(A9 c.datas (.mk ty nt hd ks)).isSome=decide (0<QQ (Dm c.datas (.mk ty nt hd ks) none (A0 c.datas ty))):=by
  simp only [A9,Option.isSome_map,Mi.ty];cases hq:Dm c.datas (.mk ty nt hd ks) none (A0 c.datas ty) with
  | none=>rfl
  | some p =>
   obtain ⟨q1,_,_⟩:=Eg hq;rcases q1 with q1 | ⟨_,_,q3,_⟩
   ·cases q1
   ·simp [QQ,q3]
 rw [hres];clear hres;have hnil:∀bb,Dm c.datas (.mk ty nt hd ks) bb []=bb:=λ_=>rfl;generalize A0 c.datas ty=L at *;generalize AP c.datas (.mk ty nt hd ks)=cost at *;generalize hR:Dm c.datas (.mk ty nt hd ks) none L=R at *;generalize Dm c.datas (.mk ty nt hd ks)=pk at *;obtain ⟨t1,t2,t3,t4⟩:=ty;refine Ad Aj Tryz.func160 (by decide +kernel) rfl [2,3,4,5,6] rfl rfl ?_;refine mg [] rfl (by simp) ?_;refine Bl Aj 1 ((dTyc (.mk t1 t2 t3 t4)).map .imm) rfl rfl (λ_ vs I w bs h=>JK h) rfl rfl (by simp [Ah]) ?_;refine mg [] rfl (by simp) ?_;refine Ac rfl (λ_=>hH) (by simp) ?_;refine mg [] rfl (by simp) ?_
 refine Ak (λz:Nat×Option (Ty×Int)=>[(20,.imm (.int .i64 z.1)),(19,.imm (.int .i64 L.length)),(18,.imm (.sl (Bp L))),(7,.imm (.int .i64 (QQ z.2))),(6,.ref 3 0),(4,.ref 2 0),(1,.raw (ptr b)),(0,.imm (AL c (Bu (D7 c.datas))))])
  (λz=>[(1,some (.hp (Cf (.mk t1 t2 t3 t4) nt hd ks y b))),(2,some (.immb 150 3 [.int .i64 0,.int .i64 0,.str []])),(3,some (.immb 150 3 (Be (VU z.2))))]) [4,5,6] (λz=>L.length-z.1)
  (λz=>z.1<=L.length/\R=pk z.2 (L.drop z.1)/\∀p,z.2=some p->0<p.2/\p.2<=769) (0,none) ⟨Nat.zero_le _,hR.symm,λp h=>by cases h⟩ ⟨rfl,As (by simp),rfl,rfl,rfl,rfl,rfl,rfl,trivial⟩ ⟨rfl,rfl,rfl,trivial⟩ rfl λz hz ih=>?_
 obtain ⟨i,bb⟩:=z;obtain ⟨z1,z2,z3⟩:=hz;simp only at z1 z2 z3;refine md [] rfl (by simp) ?_;refine Aa rfl (λh=>?_) (λh=>?_)
 ·have hlt:i<L.length:=by simp at h;omega
  obtain ⟨h,hh⟩:=Am hlt;rw [hstep bb i h hh] at z2;have hCth:=hCt h;have hco:=hcst h;have hc4:=hc4 h;have hc0:=hc0 h;have hArh:=hAr (C4 h);have hSzh:=hSz (C4 h);have hbet:F3 bb (cost h)=true↔QQ bb=0\/cost h<QQ bb:=by
   cases bb with
   | none=>simp [F3,QQ]
   | some p=>have:=z3 p rfl;simp only [F3,QQ,decide_eq_true_eq];omega
  generalize cost h=n at *;obtain ⟨h1,h2,h3,h4⟩:=h;simp only [AC] at hc4 hc0;refine md [] rfl (by simp) ?_;refine mi rfl (c:=Be (.mk h1 h2 h3 h4)) (λ_=>⟨by simp,by simpa using Ju hh,by simp⟩) (by simp) ?_;refine mg [] rfl (by simp) ?_;by_cases e4:h1=4
  ·have hn:=hc4 e4;rw [<- hn] at hSzh;subst e4;refine Aa rfl (λh=>?_) (λh=>by simp at h);refine md [] rfl (by simp) ?_;refine Bl Aj 1 ((dTyc (.mk t1 t2 t3 t4)).map .imm) rfl rfl (λ_ vs I w bs h=>JK h) rfl rfl (by simp [Ah]) ?_;refine mg [] rfl (by simp [Ah]) ?_;refine Ac rfl (λ_=>hArh) (by simp) ?_;refine mg [] rfl (by simp [Ah];rfl) ?_;refine Ac rfl (λ_=>hSzh) (by simp) ?_;refine mg [] rfl (by simp [Ah]) ?_;refine Bl Aj 1 [.raw (H9 y.no nt.length y.nc)] rfl rfl (λ_ vs I w bs h=>Iy h) rfl rfl (by simp [Ah]) ?_;refine mg [] rfl (by simp [Ah]) ?_
   refine OS 1 (vs:=[.sl (Bp nt),.agg (Be (.mk 4 h2 h3 h4))]) rfl rfl (λ_=>⟨.inr ⟨_,rfl,λus I w bs h J hle hJ=>HC h hle hJ⟩,.inl rfl,trivial⟩) (λ_=>hCth) rfl (by simp [Ah]) rfl ?_;refine mg [] rfl (by simp [Ah];exact ⟨rfl,λa b c=>⟨⟨a,b⟩,c⟩⟩) ?_;by_cases hcc:0<n/\BD nt (.mk 4 h2 h3 h4)=false/\F3 bb n=true
   ·rw [if_pos hcc] at z2;rw [hbet] at hcc;refine Aa rfl (λh=>?_) (λh=>by exfalso;simp at h;grind);refine md [] rfl (by simp) ?_;exact Ae (ih (i+1,some (.mk 4 h2 h3 h4,n)) (by simp only;omega) ⟨by simp only;omega,z2,λp hp=>by cases hp;exact ⟨hcc.1,hco.2⟩⟩) ⟨As (B9 (by omega) (by omega)),rfl,rfl,rfl,rfl,rfl,rfl,rfl,trivial⟩ ⟨rfl,rfl,rfl,trivial⟩ rfl
   ·rw [if_neg hcc] at z2;rw [hbet] at hcc;refine Aa rfl (λh=>by exfalso;simp at h;grind) (λh=>?_);refine md [] rfl (by simp) ?_;exact Ae (ih (i+1,bb) (by simp only;omega) ⟨by simp only;omega,z2,z3⟩) ⟨As (B9 (by omega) (by omega)),rfl,rfl,rfl,rfl,rfl,rfl,rfl,trivial⟩ ⟨rfl,rfl,rfl,trivial⟩ rfl
  ·have hn:=hc0 e4;subst hn;refine Aa rfl (λh=>absurd (by simpa using h) e4) (λh=>?_);clear h;refine md [] rfl (by simp [Ah]) ?_;refine Bl Aj 1 [.raw (H9 y.no nt.length y.nc)] rfl rfl (λ_ vs I w bs h=>Iy h) rfl rfl (by simp [Ah]) ?_;refine mg [] rfl (by simp [Ah]) ?_;refine OS 1 (vs:=[.sl (Bp nt),.agg (Be (.mk h1 h2 h3 h4))]) rfl rfl (λ_=>⟨.inr ⟨_,rfl,λus I w bs h J hle hJ=>HC h hle hJ⟩,.inl rfl,trivial⟩) (λ_=>hCth) rfl (by simp [Ah]) rfl ?_;refine mg [] rfl (by simp [Ah];exact ⟨rfl,λa b=>⟨a,b⟩⟩) ?_;by_cases hcc:(0:Int)<1/\BD nt (.mk h1 h2 h3 h4)=false/\F3 bb 1=true
   ·rw [if_pos hcc] at z2;rw [hbet] at hcc;refine Aa rfl (λh=>?_) (λh=>by exfalso;simp at h;grind);refine md [] rfl (by simp) ?_;exact Ae (ih (i+1,some (.mk h1 h2 h3 h4,1)) (by simp only;omega) ⟨by simp only;omega,z2,λp hp=>by cases hp;exact ⟨hcc.1,hco.2⟩⟩) ⟨As (B9 (by omega) (by omega)),rfl,rfl,rfl,rfl,rfl,rfl,rfl,trivial⟩ ⟨rfl,rfl,rfl,trivial⟩ rfl
   ·rw [if_neg hcc] at z2;rw [hbet] at hcc;refine Aa rfl (λh=>by exfalso;simp at h;grind) (λh=>?_);refine md [] rfl (by simp) ?_;exact Ae (ih (i+1,bb) (by simp only;omega) ⟨by simp only;omega,z2,z3⟩) ⟨As (B9 (by omega) (by omega)),rfl,rfl,rfl,rfl,rfl,rfl,rfl,trivial⟩ ⟨rfl,rfl,rfl,trivial⟩ rfl
 ·have hlt:¬i<L.length:=by simp at h;omega
  refine Ar rfl ?_;rw [List.drop_eq_nil_of_le (by omega),hnil] at z2;subst z2;refine md [] rfl (by simp) ?_;exact Ab ⟨_,rfl,rfl,rfl,trivial⟩
def FM:Option Ty->List V
 | none=>dTyc zT++[.bool false]
 | some v=>dTyc v++[.bool true]
theorem Gy (r:Option Ty):∃v1 v2 v3 v4 v5,FM r=[v1,v2,v3,v4,v5]:=by
 cases r with
 | none=>exact ⟨_,_,_,_,_,rfl⟩
 | some v=>obtain ⟨a,b,c,d⟩:=v;exact ⟨_,_,_,_,_,rfl⟩
section
variable {I J:Imm} {w w':World} {ty:Ty} {nt:List Ty} {hd:Ty} {ks:List Mi} {b:Nat} {us:List Value} {bs:List Nat}
def Mn (ty:Ty) (nt:List Ty) (hd:Ty) (ks:List Mi) (y:Opn) (b i:Nat):Asn where
 P _ I w bs:=H2 I w ty nt hd (H9 y.no nt.length y.nc) (H9 y.ko ks.length y.kc) y.kbs b/\y.kbs.length=ks.length/\(∀q∈AG (H9 y.no nt.length y.nc) (H9 y.ko ks.length y.kc) b,q∈bs) /\
  ∃Fk,Dh I w (ks.drop i) (y.kbs.drop i) Fk/\(AG (H9 y.no nt.length y.nc) (H9 y.ko ks.length y.kc) b++Fk).Nodup/\∀q∈Fk,q∈bs
 mono:=λh ⟨h1,h2,h3,Fk,h4,h5⟩=>⟨Ej h h1,h2,h3,Fk,D2 h h4,h5⟩
 loc:=λh ⟨h1,h2,h3,Fk,h4,h5,h6⟩=>⟨Fb (λq hq=>h q (h3 q hq)) h1,h2,h3,Fk,Cr (λq hq=>h q (h6 q hq)) h4,h5,h6⟩
theorem Zj {y:Opn} (h:(Cf ty nt hd ks y b).P us I w bs):(Mn ty nt hd ks y b 0).P us I w bs:=by
 have hl:=HI h;obtain ⟨Fk,h1,h2,h3,h4⟩:=h;exact ⟨h1,hl,λq hq=>h4 q (by simp [hq]),Fk,h2,h3,λq hq=>h4 q (by simp [hq])⟩
theorem Wx {y:Opn} {i kb:Nat} {k:Mi} (h:(Mn ty nt hd ks y b i).P us I w bs) (hk:ks[i]?=some k) (hkb:y.kbs[i]?=some kb) :
  ∃b1 b2,(∀q∈b1,q∈bs)/\(∀q∈b2,q∈bs)/\(∀q∈b1,q∉b2)/\(Mn ty nt hd ks y b (i+1)).P [] I w b1/\(AV k kb).P [] I w b2:=by
 obtain ⟨h1,h2,h3,Fk,h4,h5,h6⟩:=h;rw [An hk,An hkb] at h4;obtain ⟨kb',kr,F1,F2,e1,e2,e3,e4⟩:=h4;cases e1;subst e4;generalize hN:AG (H9 y.no nt.length y.nc) (H9 y.ko ks.length y.kc) b=Nf at *;refine ⟨Nf++F2,F1,λq hq=>?_,λq hq=>h6 q (by simp [hq]),λq hq hq2=>?_,⟨h1,h2,λq hq=>by rw [hN] at hq;simp [hq],F2,e3,?_,λq hq=>by simp [hq]⟩,⟨F1,e2,λq hq=>hq⟩⟩
 ·rcases List.mem_append.1 hq with h | h
  ·exact h3 q h
  ·exact h6 q (by simp [h])
 ·obtain ⟨a1,a2,a3⟩:=List.nodup_append.1 h5;rcases List.mem_append.1 hq with h | h
  ·exact a3 q h q (by simp [hq2]) rfl
  ·obtain ⟨_,_,a4⟩:=List.nodup_append.1 a2;exact a4 q hq2 q h rfl
 ·rw [hN];obtain ⟨a1,a2,a3⟩:=List.nodup_append.1 h5;obtain ⟨_,a5,_⟩:=List.nodup_append.1 a2;exact List.nodup_append.2 ⟨a1,a5,λx hx y hy=>a3 x hx y (by simp [hy])⟩
theorem cN {y:Opn} {g i kb:Nat} {j:Nat} (hko:y.ko=some g) (hkb:y.kbs[i]?=some kb) (h:(Mn ty nt hd ks y b j).P us I w bs):CP I w g (0+i*1) [.raw (ptr kb)]:=by
 obtain ⟨h1,h2,h3,_⟩:=h;have hi:=(List.getElem?_eq_some_iff.1 hkb).1;rcases h1.2.2.2 with ⟨_,h0⟩ | ⟨g',cap,cur,e,_,e1,e2,_,e3,e4⟩
 ·omega
 rw [hko] at e;simp only [H9,Option.map_some,Value.slice.injEq,Option.some.injEq,Addr.mk.injEq,and_true] at e;obtain ⟨rfl,e5,rfl⟩:=e;refine ⟨cur,_,_,e1,λj d hd=>?_⟩
 match j with
 | 0 =>
  simp at hd;subst hd;refine ⟨ptr kb,?_,rfl,.raw _ rfl⟩;have:(cur.toList.take (y.kbs.length*1))[i]?=some (ptr kb):=by rw [e4];simp [hkb]
  rw [List.getElem?_take] at this
  split at this
  ·simpa using this
  ·cases this
 | j+1=>simp at hd
theorem gW {y:Opn} {i j:Nat} (h:(Mn ty nt hd ks y b j).P us I w bs) (hi:i<ks.length):∃z:Nat×Nat,y.ko=some z.1/\y.kbs[i]?=some z.2:=by
 obtain ⟨h1,h2,h3,_⟩:=h;rcases h1.2.2.2 with ⟨_,h0⟩ | ⟨g',cap,cur,e,_⟩
 ·omega
 cases ho:y.ko with
 | none=>rw [ho] at e;simp [H9] at e
 | some g=>exact ⟨(g,y.kbs[i]'(by omega)),rfl,List.getElem?_eq_getElem (by omega)⟩
end
set_option maxHeartbeats 4000000 in
theorem WL (W:V) (m:Mi) (x:Nat) (g:Mi->Option (Option Ty)) (o:Option (List Ty)) (h1:Bd g m.ks=some o) (hf:AC m.hd≠0) (hlk:m.ks.length<=3)
  (ihk:∀k v x,k∈m.ks->g k=some v->Bc Tryz.prog 113 [.imm W,.raw (ptr x)] [(1,some (.hp (AV k x)))] (.ret (.imm (.agg (FM v))) [])) :
  DGo Tryz.prog Tryz.f113.ntmps [1] (Nt gS Tryz.f113.results.toList (.ret (.imm (.agg (FM (o.map (Cs m.hd))))) [])) [.code (F4 Tryz.f113 2)] [(4,.ref 3 0),(1,.raw (ptr x)),(0,.imm W)]
   [(3,some (.cells 107 5 [.imm (.int .i64 0),.imm (.int .i64 0),.imm (.str []),.nils,.imm (.bool false)])),(5,some (.hp (AV m x)))] [6,7,8,9,10,11,12]:=by
 have hV:=Ud m.hd hf;obtain ⟨ty,nt,⟨a,b,t,d⟩,ks⟩:=m;simp only [Mi.hd,Mi.ks,AC] at *;have hd:mD (.mk a b t d)=[.int .i64 a,.int .i64 b,.str t,.nilsl]:=by simp [mD,hf]
 refine BU 5 (λy:Opn=>Cf ty nt (.mk a b t d) ks y x) rfl (λvs I w bs h=>D9 h) λy=>?_;refine md [] rfl (by simp) ?_;refine Bl Aj 5 ((Be (.mk a b t d)).map .imm) rfl rfl (λ_ vs I w bs h=>ON h) rfl rfl (by simp [Ah]) ?_;refine mg [] rfl (by simp) ?_;rw [hd] at hV;refine Ac rfl (λ_=>hV) (by simp) ?_;refine mg [] rfl (by simp) ?_;refine Bl Aj 5 [.raw (H9 y.ko ks.length y.kc)] rfl rfl (λ_ vs I w bs h=>JL h) rfl rfl (by simp [Ah]) ?_;refine mg [] rfl (by simp) ?_;refine V4 (e:=35) (sz:=4) 6 7 [.imm (.int .i64 a),.imm (.int .i64 b),.imm (.str t),.own 7 0] (by decide) rfl (by simp [nZ]) ?_;refine BU 5 (λ_:Unit=>Mn ty nt (.mk a b t d) ks y x 0) rfl (λvs I w bs h=>⟨(),Zj h⟩) λ_=>?_
 have el:∀(l:List Ty) (v:Ty),Bq (l++[v])=Bq l++[dTyc v]:=λl v=>by rw [Oq];rfl
 refine Ak (λz:Nat×List Ty=>[(63,.imm (.int .i64 z.1)),(62,.imm (.int .i64 ks.length)),(61,.raw (H9 y.ko ks.length y.kc)),(7,.ref 6 0),(4,.ref 3 0),(0,.imm W)])
  (λz=>[(3,some (.cells 107 5 [.imm (.int .i64 0),.imm (.int .i64 0),.imm (.str []),.nils,.imm (.bool false)])),(5,some (.hp (Mn ty nt (.mk a b t d) ks y x z.1))),
   (6,some (.cells 35 4 [.imm (.int .i64 a),.imm (.int .i64 b),.imm (.str t),.own 7 (Bq z.2).length])),(7,some (.row 35 4 (Bq z.2)))]) [8,9,10,11,12] (λz=>ks.length-z.1)
  (λz=>z.1<=ks.length/\z.2.length=z.1/\∃q,Bd g (ks.drop z.1)=some q/\o=q.map (z.2 ++ ·)) (0,[]) ⟨Nat.zero_le _,rfl,o,h1,by cases o <;> simp⟩ ⟨rfl,rfl,rfl,rfl,rfl,rfl,trivial⟩ ⟨rfl,rfl,rfl,rfl,trivial⟩ rfl λz hz ih=>?_
 obtain ⟨i,vs⟩:=z;obtain ⟨z1,z2,q,z3,z4⟩:=hz;simp only at z1 z2 z3 z4;refine md [] rfl (by simp) ?_;refine Aa rfl (λh=>?_) (λh=>?_)
 ·have hlt:i<ks.length:=by simp at h;omega
  obtain ⟨k,hk⟩:=Am hlt;rw [An hk] at z3;obtain ⟨v,g1,g2⟩:=NV z3;refine BU 5 (λ_:{ z:Nat×Nat // y.ko=some z.1/\y.kbs[i]?=some z.2 }=>Mn ty nt (.mk a b t d) ks y x i) rfl (λvs I w bs hA=>let ⟨z,hz⟩:=gW hA hlt;⟨⟨z,hz⟩,hA⟩) λz=>?_;obtain ⟨⟨gg,kb⟩,hko,hkb⟩:=z;simp only at hko hkb;obtain ⟨no,nc,ko,kc,kbs⟩:=y;simp only at hko hkb;subst hko;have hc:=ihk k v kb (List.mem_of_getElem? hk) g1;refine ID 5 8 9 (λ_:Unit=>Mn ty nt (.mk a b t d) ks ⟨no,nc,some gg,kc,kbs⟩ x (i+1)) (λ_:Unit=>AV k kb) rfl (λvs I w bs h=>let ⟨b1,b2,e1,e2,e3,e4,e5⟩:=Wx h hk hkb;⟨(),b1,b2,e1,e2,e3,e4,e5⟩) λ_=>?_;refine md [] rfl (by simp) ?_;refine LO Aj rfl rfl (λ_=>⟨by simp,by simp;omega⟩) (by simp) ?_
  refine mg [] rfl (by simp) ?_;refine Bl Aj 8 [.raw (ptr kb)] rfl rfl (λ_ vs I w bs h=>cN rfl hkb h) rfl rfl (by simp) ?_;refine mg [] rfl (by simp) ?_;refine Az (fr:=[]) [(9,1)] [] rfl (by simp) hc ⟨⟨rfl,rfl,rfl⟩,trivial⟩ rfl rfl rfl rfl ?_;cases v with
  | none =>
   simp only at g2;subst g2;simp only [Option.map_none] at z4;subst z4;refine mg [] rfl (by simp;rfl) ?_;refine Aa rfl (λh=>?_) (λh=>by simp at h);refine md [] rfl (by simp) ?_;exact Ab ⟨_,rfl,tV rfl,trivial⟩
  | some v =>
   simp only at g2;obtain ⟨q',g3,g4⟩:=g2;have hgo:=ih (i+1,vs++[v]) (by simp only;omega) ⟨by simp only;omega,by simp [z2],q',g3,by rw [z4,g4];cases q' <;> simp⟩;simp only [el] at hgo;have hll:(Bq vs).length<=3:=by simp;omega
   generalize Bq vs=l at *;obtain ⟨v1,v2,v3,v4⟩:=v;refine mg [] rfl (by simp;rfl) ?_;refine Aa rfl (λh=>by simp at h) (λh=>?_);refine md [] rfl (by simp) ?_;refine BR Aj rfl ⟨by simp,by simp [maxLen] at hll ⊢;omega,by simp at hll ⊢;omega,trivial⟩ ?_;refine mg [] rfl (by simp) ?_;refine A6 7 11 rfl ?_;refine A6 5 8 rfl ?_;exact Ae hgo ⟨As (B9 (by omega) (by omega)),rfl,rfl,rfl,rfl,rfl,trivial⟩ ⟨rfl,rfl,by simp only [List.length_append];rfl,rfl,trivial⟩ rfl
 ·have hlt:¬i<ks.length:=by simp at h;omega
  refine Ar rfl ?_;rw [List.drop_eq_nil_of_le (by omega)] at z3;cases z3;simp only [Option.map_some,List.append_nil] at z4;subst z4;refine BM 7 rfl ?_;refine md [] rfl (by simp) ?_;exact Ab ⟨_,rfl,tV rfl,trivial⟩
end Go.Hk
namespace Go.Hk
open Go.Proofs
set_option maxHeartbeats 4000000 in
theorem dX (c:Cse) (ho:OkW c.datas) (N:Nat) (hN:N<=1000000):∀(f:Nat) (m:Mi) (b:Nat) (r:Option Ty),AD c.datas f m=some r->GU c.datas N m=true ->
  Bc Tryz.prog 113 [.imm (AL c (Bu (D7 c.datas))),.raw (ptr b)] [(1,some (.hp (AV m b)))] (.ret (.imm (.agg (FM r))) []):=by
 intro f
 induction f with
 | zero=>intro m b r h;simp [AD] at h
 | succ f ih =>
 intro m b r h hm;have hw:=Bf.1 hm;have tail:∀(m:Mi) (x:Nat) (r:Option Ty),AD c.datas (f+1) m=some r->GU c.datas N m=true->AC m.hd≠0->DGo Tryz.prog Tryz.f113.ntmps [1] (Nt gS Tryz.f113.results.toList (.ret (.imm (.agg (FM r))) [])) [.code (F4 Tryz.f113 2)] [(4,.ref 3 0),(1,.raw (ptr x)),(0,.imm (AL c (Bu (D7 c.datas))))]
   [(3,some (.cells 107 5 [.imm (.int .i64 0),.imm (.int .i64 0),.imm (.str []),.nils,.imm (.bool false)])),(5,some (.hp (AV m x)))] [6,7,8,9,10,11,12]:=λm x r h hm hf=>by
  obtain ⟨o,h1,h2⟩:=T2 h hf;have hw:=Bf.1 hm;have:=WL (AL c (Bu (D7 c.datas))) m x (AD c.datas f) o h1 hf hw.1.2.1 λk v y hk hv=>ih k y v hv (hw.2.2 k hk);rw [<- h2] at this;exact this
 by_cases hf:AC m.hd=0
 case neg =>
  have T:=tail m b r h hm hf;obtain ⟨ty,nt,⟨a,b',t,d⟩,ks⟩:=m;simp only [Mi.hd,AC] at hf;refine Ad Aj Tryz.func113 (by decide +kernel) rfl [5,3,6,7,8,9,10,11,12] rfl rfl ?_;refine JV 1 5 (λy:Opn=>Cf ty nt (.mk a b' t d) ks y b) rfl (λvs I w bs h=>let ⟨y,hy⟩:=D9 h;⟨y,bs,λq hq=>hq,hy⟩) λy=>?_;refine md [] rfl (by simp) ?_;refine Bl Aj 5 [.imm (.int .i64 a)] rfl rfl (λ_ vs I w bs h=>MR h) rfl rfl (by simp) ?_;refine mg [] rfl (by simp) ?_;refine Aa rfl (λh=>absurd (by simpa using h) hf) (λh=>?_);refine oB 1 rfl (by simp) ?_;refine BU 5 (λ_:Unit=>AV (.mk ty nt (.mk a b' t d) ks) b) rfl (λvs I w bs h=>⟨(),Eh h⟩) λ_=>?_;exact Ae T ⟨rfl,rfl,rfl,trivial⟩ ⟨rfl,rfl,trivial⟩ rfl
 have hsr:1<=AC m.ty/\AC m.ty<=8:=of_decide_eq_true hw.2.1.2;have hnr:=WE m.nt (by have:=hw.1.2.2;omega);obtain ⟨ni,hni,_,_⟩:=HM m.nt m.nt.length 0 (by omega);have hnv:=Ud (CW m.nt) (by rw [CW,hni];simp [AC]);have hne:CW m.nt = .mk 1 ni [] []:=hni;rw [hne] at hnr hnv;have l1:AC m.ty=1->r=some (.mk 1 ni [] []):=λe=>by rw [E7 hf e,hne] at h;exact (Option.some.inj h).symm
 have l4:AC m.ty=4\/AC m.ty=5\/AC m.ty=6\/AC m.ty=7->r=some (.mk 5 0 [] []):=λe=>by rw [E6 hf e] at h;exact (Option.some.inj h).symm
 have hsm:=λty nt hd ks (e:m = .mk ty nt hd ks) y x=>Uo c ho ty nt hd ks y x (by have:=hw.1.1;rw [e] at this;exact this);have hcp:=λx=>OW c.datas N hN m x hm;have lsm:=λh1 h4=>CX (ds:=c.datas) (f:=f) hf h1 h4;rw [h] at lsm;have hhas:=λ(x:Nat) (y:Ty)=>Xk c (Bu (D7 c.datas)) m y x ho hw.1.1;have tk:=λ(y:Ty) (x:Nat) (hy:y∈A0 c.datas m.ty) (hl:AD c.datas (f+1) (AX c.datas m y)=some r)=>tail (AX c.datas m y) x r hl (Le ho hw.1.1 hw.2.1.2 (Bs hy).1) (Bs hy).2;clear tail ih h;have hrf:=Gy r;obtain ⟨⟨so,n,x0,ps⟩,nt,⟨a,b',t,d⟩,ks⟩:=m;simp only [Mi.hd,Mi.ty,Mi.nt,AC] at *;subst hf;refine Ad Aj Tryz.func113 (by decide +kernel) rfl [5,3,6,7,8,9,10,11,12] rfl rfl ?_
 refine JV 1 5 (λy:Opn=>Cf (.mk so n x0 ps) nt (.mk 0 b' t d) ks y b) rfl (λvs I w bs h=>let ⟨y,hy⟩:=D9 h;⟨y,bs,λq hq=>hq,hy⟩) λy=>?_;refine md [] rfl (by simp) ?_;refine Bl Aj 5 [.imm (.int .i64 0)] rfl rfl (λ_ vs I w bs h=>MR h) rfl rfl (by simp) ?_;refine mg [] rfl (by simp) ?_;refine Aa rfl (λh=>?_) (λh=>by simp at h);refine md [] rfl (by simp) ?_;refine Bl Aj 5 [.imm (.int .i64 so)] rfl rfl (λ_ vs I w bs h=>Z1 h) rfl rfl (by simp) ?_;refine mg [] rfl (by simp) ?_;by_cases s1:so=1
 ·rw [l1 s1];subst s1;refine Aa rfl (λh=>?_) (λh=>by simp at h);refine md [] rfl (by simp) ?_;refine Bl Aj 5 [.raw (H9 y.no nt.length y.nc)] rfl rfl (λ_ vs I w bs h=>Iy h) rfl rfl (by simp) ?_;refine mg [] rfl (by simp) ?_;refine OS 5 (vs:=[.sl (Bp nt)]) rfl rfl (λ_=>⟨.inr ⟨_,rfl,λus I w bs h J hle hJ=>HC h hle hJ⟩,trivial⟩) (λ_=>hnr) rfl (by simp) rfl ?_;refine mg [] rfl (by simp) ?_;refine Ac rfl (λ_=>hnv) (by simp) ?_;refine mg [] rfl (by simp) ?_;exact fE 3 [.int .i64 1,.int .i64 ni,.str [],.sl [],.bool true] rfl rfl (Ab ⟨_,rfl,tV rfl,trivial⟩)
 refine Aa rfl (λh=>absurd (by simpa using h) s1) (λh=>?_);clear h;refine md [] rfl (by simp) ?_;by_cases s4:so=4
 ·rw [l4 (by omega)];subst s4;refine Aa rfl (λh=>?_) (λh=>by simp at h);refine md [] rfl (by simp) ?_;refine Aa rfl (λh=>?_) (λh=>by simp at h);refine md [] rfl (by simp) ?_;exact Ab ⟨_,rfl,tV rfl,trivial⟩
 refine Aa rfl (λh=>absurd (by simpa using h) s4) (λh=>?_);clear h;refine md [] rfl (by simp) ?_;by_cases s5:so=5
 ·rw [l4 (by omega)];subst s5;refine Aa rfl (λh=>?_) (λh=>by simp at h);refine md [] rfl (by simp) ?_;refine Aa rfl (λh=>?_) (λh=>by simp at h);refine md [] rfl (by simp) ?_;exact Ab ⟨_,rfl,tV rfl,trivial⟩
 refine Aa rfl (λh=>absurd (by simpa using h) s5) (λh=>?_);clear h;refine md [] rfl (by simp) ?_;by_cases s6:so=6
 ·rw [l4 (by omega)];subst s6;refine Aa rfl (λh=>?_) (λh=>by simp at h);refine md [] rfl (by simp) ?_;refine Aa rfl (λh=>?_) (λh=>by simp at h);refine md [] rfl (by simp) ?_;exact Ab ⟨_,rfl,tV rfl,trivial⟩
 refine Aa rfl (λh=>absurd (by simpa using h) s6) (λh=>?_);clear h;refine md [] rfl (by simp) ?_;by_cases s7:so=7
 ·rw [l4 (by omega)];subst s7;refine Aa rfl (λh=>?_) (λh=>by simp at h);refine md [] rfl (by simp) ?_;exact Ab ⟨_,rfl,tV rfl,trivial⟩
 refine Aa rfl (λh=>absurd (by simpa using h) s7) (λh=>?_);clear h;refine md [] rfl (by simp) ?_;have lsm:=lsm s1 (by omega);have hS:=hsm _ _ _ _ rfl y b;have hbest:∀z,A9 c.datas (.mk (.mk so n x0 ps) nt (.mk 0 b' t d) ks)=some z->VU (Dm c.datas (.mk (.mk so n x0 ps) nt (.mk 0 b' t d) ks) none (A0 c.datas (.mk so n x0 ps)))=z/\z∈A0 c.datas (.mk so n x0 ps):=λz hz=>⟨by
  simp only [A9,Option.map_eq_some_iff] at hz;obtain ⟨p,hp,rfl⟩:=hz;show VU (Dm c.datas (.mk (.mk so n x0 ps) nt (.mk 0 b' t d) ks) none (A0 c.datas (Mi.mk (.mk so n x0 ps) nt (.mk 0 b' t d) ks).ty))=p.1;rw [hp];rfl,G4 hz⟩
 generalize VU (Dm c.datas (.mk (.mk so n x0 ps) nt (.mk 0 b' t d) ks) none (A0 c.datas (.mk so n x0 ps)))=bh at *;generalize A9 c.datas (.mk (.mk so n x0 ps) nt (.mk 0 b' t d) ks)=S at *;obtain ⟨h1,h2,h3,h4⟩:=bh;refine Az (fr:=[]) [(5,1)] [] rfl (by simp) hS ⟨⟨rfl,rfl,rfl⟩,trivial⟩ rfl rfl rfl rfl ?_;refine mg [] rfl (by simp) ?_;cases S with
 | none =>
  simp only [Option.some.injEq] at lsm;subst lsm;refine md [] rfl (by simp) ?_;refine Aa rfl (λh=>?_) (λh=>by simp at h);refine md [] rfl (by simp) ?_;exact Ab ⟨_,rfl,tV rfl,trivial⟩
 | some z =>
  obtain ⟨e,hz⟩:=hbest z rfl;subst e;simp only at lsm;refine md [] rfl (by simp) ?_;refine Aa rfl (λh=>by simp at h) (λh=>?_);clear h;refine BU 5 (λ_:Unit=>AV (.mk (.mk so n x0 ps) nt (.mk 0 b' t d) ks) b) rfl (λvs I w bs h=>⟨(),Eh h⟩) λ_=>?_;refine md [] rfl (by simp) ?_;refine Az (fr:=[7,8]) [(5,1)] [(3,7),(2,8)] rfl (by simp) (hcp b) ⟨⟨rfl,rfl,rfl⟩,trivial⟩ rfl rfl rfl rfl ?_;refine J0 8 9 (λob:Nat=>[ptr ob]) (λob=>AV (.mk (.mk so n x0 ps) nt (.mk 0 b' t d) ks) ob) rfl (λvs I w bs h=>let ⟨ob,F,e1,e2,e3⟩:=h;⟨ob,e1,F,e2,e3⟩) λob=>?_;refine md [] rfl (by simp) ?_;refine Az (fr:=[10]) [(9,1)] [(2,10)] rfl (by simp) (hhas ob (.mk h1 h2 h3 h4)) ⟨⟨rfl,rfl,rfl⟩,trivial⟩ rfl rfl rfl rfl ?_
  refine oB 1 rfl (by simp) ?_;have T:=tk (.mk h1 h2 h3 h4) ob hz lsm.symm;refine A6 10 5 rfl ?_;exact Ae T ⟨rfl,rfl,rfl,trivial⟩ ⟨rfl,rfl,trivial⟩ rfl
end Go.Hk
namespace Go.Hk
def Vh (P:Program) (t:TypeId) (m:String) (f:FuncId):Bool:=match P.info? t with
 | some i=>match i.methods.find? (·.name == m) with
  | some r=>r.path.toList.isEmpty&&(match r.func with
   | some (f',pr)=>Nat.beq f' f && !pr
   | none=>false)&&(match P.underlying t with
   | some (.pointer _)=>false
   | some _=>true
   | none=>false)
  | none=>false
 | none=>false
theorem eG {P:Program} {t:TypeId} {m:String} {f:FuncId} (h:Vh P t m f=true) (n:Nat) (v:Value) (w:World):(method (n+1) t v m).run P w = .ok (f,v) w:=by
 unfold Vh at h
 split at h
 ·rename_i i hi
  split at h
  ·rename_i r hr;simp only [Bool.and_eq_true] at h;obtain ⟨⟨h1,h2⟩,h3⟩:=h
   split at h2
   ·rename_i f' pr hf;simp only [Bool.and_eq_true,Bool.not_eq_true'] at h2;have hff:=Nat.eq_of_beq_eq_true h2.1;subst hff;have hpr:=h2.2;subst hpr;have hp:r.path.toList=[]:=List.isEmpty_iff.1 h1
    split at h3
    ·cases h3
    ·rename_i u hne hu;have hrecv:∀wr,(receiverAt t (.val v) false wr).run P w = .ok v w:=λwr=>by
      unfold receiverAt;rw [Sem.run_bind,run_underlying hu,Result.andThen_ok];cases u <;> first | rfl | exact absurd rfl (hne _)
     simp only [method,typeInfo,Sem.run_bind,run_program,Result.andThen_ok,hi,hr,hp,follow,Sem.run_pure,hf,hrecv]
    ·cases h3
   ·cases h2
  ·cases h
 ·cases h
section
variable {P:Program} {n:Nat} {F:List Nat} {Q:DQ} {tt:TT} {env env':Env} {st st':St} {ids ids':List Nat} {k todo todo':List DI} {cx:Prop} {d:D} {ob ob':List Prop}
 {I:Imm} {μ:Mu} {w:World} {a:Act}
theorem Rz {o:Oper} {r:Operand} {m:String} {f:FuncId} {args:List Operand} {ts:Array TypeId} {ds:List D} {T:TypeId} {x:V} (ho:o.op = .call { callee:=.invoke r m,args:=⟨args⟩,argTypes:=ts }) (ht:Di env r=some (.imm (.iface T x)))
  (ha:H5 cx env args=some (ds,ob)) (hob:AA ob) (hm:Vh P T m f=true):DZ P o env f (.imm x::ds) cx:=by
 intro I μ a w hop hc;rw [ho] at hop;have hd:=FD (I:=I) (μ:=μ) (a:=a) hc ha hob λy hy=>hop y (by simp [Op.operands,Call.operands,hy]);have hf:=(hop r (by simp [Op.operands,Call.operands]) _ ht).immInv;generalize hv:a.eval r=v at hf;cases hf with
 | iface _ u _ hu =>
  refine ⟨#[u]++(args.map a.eval).toArray,?_,?_⟩
  ·simp only [Array.toList_append];exact .mk (.imm _ _ hu) (by simpa using hd)
  ·have hs:∃n,P.types.size+Made.depth=n+1:=⟨P.types.size+(Made.depth-1),by unfold Made.depth;omega⟩
   obtain ⟨n,hs⟩:=hs;have hme:=eG hm n u w;have hx:((#[Value.iface T u]++(args.map a.eval).toArray).extract 1 (#[Value.iface T u]++(args.map a.eval).toArray).size)=(args.map a.eval).toArray:=by
    apply Array.ext';simp [List.extract_eq_take_drop];exact List.take_of_length_le (by simp)
   have h0:(#[Value.iface T u]++(args.map a.eval).toArray)[0]?=some (.iface T u):=by simp
   have e:(⟨args⟩:Array Operand).map a.eval=(args.map a.eval).toArray:=by simp
   simp only [execOp,ho,resolve,hv,e,Sem.run_bind,Sem.run_pure,Result.andThen_ok,invoke,h0,callMethod,hx,run_program,hs,hme]
structure nU where
 T:TypeId
 m:String
 vs:List V
 g:Option (Bool×Bool)
 ob:List Prop
 dst:Option Nat
 todo:List DI
def dD (n:Nat) (env:Env) (todo:List DI):Option nU :=
 match AU todo ([],[]) with
 | some (all,o,todo')=>match o.op,BX all env o with
  | .call { callee:=.invoke r m,args:=⟨args⟩,.. },some g=>match Di env r,H5 (Ah g) env args with
   | some (.imm (.iface T x)),some (ds,ob)=>match K4 (.imm x::ds),B3 n o.dst with
    | some vs,true=>match o.dst with
     | some t=>some ⟨T,m,vs,g,ob,some t,todo'⟩
     | none=>some ⟨T,m,vs,g,ob,none,todo'⟩
    | _,_=>none
   | _,_=>none
  | _,_=>none
 | none=>none
theorem iR (f:FuncId) {T:TypeId} {m:String} {vs:List V} {g:Option (Bool×Bool)} {ob:List Prop} {dst:Option Nat} {todo':List DI} {v:V} (h:dD n env todo=some ⟨T,m,vs,g,ob,dst,todo'⟩) (hm:Vh P T m f=true) (hE:Ah g->Al P f vs v) (hob:AA ob)
  (hk:G P n F Q todo' (B1 dst (gD g (.imm v)) env) st ids):G P n F Q todo env st ids:=by
 unfold dD at h
 split at h
 ·rename_i all o todo1 h1;have hnd:∀cc,o.op = .call cc->∀c,o.op ≠ .defer c:=λcc h c h'=>by rw [h] at h';cases h'
  split at h
  ·rename_i r m' args ts g' ho hg
   split at h
   ·rename_i T' x ds ob' ht ha
    split at h
    ·rename_i vs' hv hd;have fin:T'=T/\m'=m/\vs'=vs/\g'=g/\ob'=ob/\o.dst=dst/\todo1=todo':=by
      split at h <;> (rename_i hdst;cases h;exact ⟨rfl,rfl,rfl,rfl,rfl,hdst,rfl⟩)
     obtain ⟨rfl,rfl,rfl,rfl,rfl,rfl,rfl⟩:=fin;exact By (fr:=[]) (wr:=[]) h1 (OO hg (Rz ho ht ha hob hm) hv hE) hd (hnd _ ho) hk
    ·cases h
   ·cases h
  ·cases h
 ·cases h
end
end Go.Hk
namespace Go.Hk
open Go.Proofs
theorem Po:∀v:Ty,Ai v<=1000000000000000->Al Tryz.prog 157 [.agg (dTyc v)] (.int .i64 (Ai v))
 | .mk f n x ps,hN=>by
  refine AF λhv=>?_;simp [Ca,Ee,dTyc,maxLen] at hv;simp only [Ai] at hN;refine Ad Aj Tryz.func157 (by decide +kernel) rfl [1,2,3,4] rfl rfl ?_;refine mg [] rfl (by simp) ?_;refine Ak (λi:Nat=>[(9,.imm (.int .i64 i)),(8,.imm (.int .i64 ps.length)),(7,.imm (.sl (Bq ps))),(3,.imm (.int .i64 ((1+Ag (ps.take i):Nat):Int)))]) (λ_=>[]) [2,3,4] (λi=>ps.length-i) (λi=>i<=ps.length) 0 (Nat.zero_le _)
   ⟨rfl,As (by simp),rfl,rfl,trivial⟩ trivial rfl λi hi ih=>?_
  refine md [] rfl (by simp) ?_;refine Aa rfl (λh=>?_) (λh=>?_)
  ·simp at h;obtain ⟨p,hp⟩:=Am h;have hl:=BJ hp;have hs:=Po p (by omega);have hn:Ag (ps.take (i+1))=Ag (ps.take i)+Ai p:=by
    have e:=Bj (ps.take i) [p];rw [Bb hp,e];simp [Ag]
   refine md [] rfl (by simp) ?_;refine mi rfl (c:=dTyc p) (λ_=>⟨by simp,by simpa using At hp,by simp⟩) (by simp) ?_;obtain ⟨p1,p2,p3,p4⟩:=p;refine mg [] rfl (by simp) ?_;refine Ac rfl (λ_=>hs) (by simp) ?_;refine mg [] rfl (by simp) ?_;exact Ae (ih (i+1) (by omega) (by omega)) ⟨As (B9 (by omega) (by omega)),rfl,rfl,As (by rw [B9 (by omega) (by omega)];omega),trivial⟩ trivial rfl
  ·simp at h;refine Ar rfl ?_;rw [List.take_of_length_le (by omega)];refine md [] rfl (by simp) ?_;simp only [Ai];exact Ab ⟨_,rfl,tV rfl,trivial⟩
termination_by v=>SizeOf.sizeOf v
decreasing_by
 have:=List.sizeOf_lt_of_mem (List.mem_of_getElem? hp);simp_wf;omega
theorem jG (n:Int) (h : -1000000000000<=n/\n<=1000000000000):Al Tryz.prog 198 [.int .i64 n] (.int .i64 (Dl n)):=by
 refine Ad Aj Tryz.func198 (by decide +kernel) rfl [1,2] rfl rfl ?_;refine mg [] rfl (by simp) ?_;by_cases h0:0<n
 ·refine Aa rfl (λh=>?_) (λh=>absurd h0 (by simpa using h));refine md [] rfl (by simp) ?_;refine Ab ⟨_,rfl,tV ?_,trivial⟩;simp only [Dl,if_pos h0];have e1:IntKind.i64.wrap (2*n)=2*n:=B9 (by omega) (by omega);rw [e1,B9 (by omega) (by omega)]
 ·refine Aa rfl (λh=>absurd (by simpa using h) h0) (λh=>?_);refine md [] rfl (by simp) ?_;refine Ab ⟨_,rfl,tV ?_,trivial⟩;simp only [Dl,if_neg h0];rw [B9 (by omega) (by omega)]
theorem Qe (ds:List Dt) (s:Str):DH false (Er (Dv 0 ds)) (.str s) (.agg [.int .i64 0,.int .i64 0]) = .imm (.agg [.int .i64 (BP ds s).1,.int .i64 (BP ds s).2]):=by
 simp only [DH,Nj,BP];cases h:FC s 0 ds with
 | none=>simp
 | some p=>obtain ⟨a,b⟩:=p;simp
set_option maxHeartbeats 2000000 in
theorem UC (c:Cse) (sz:List (List V)) (ho:OkW c.datas):∀(a t b:Ty),AB c.datas t=true->II c.datas t a=true->II c.datas t b=true->Do a=true->Do b=true ->
  Al Tryz.prog 158 [AL c sz,.agg (dTyc a),.agg (dTyc b)] (.int .i64 (BL c.datas a b))
 | .mk f n x ps,.mk so m0 x0 qs0,.mk g n' x' ps',hn,ha,hb,hia,hib=>by
  have hR:=λc'=>jG c';obtain ⟨ds,⟨c1,c2,c3,c4⟩,rows⟩:=c;simp only [Do,Bool.and_eq_true] at hia hib;have hia1:=of_decide_eq_true hia.1;have hib1:=of_decide_eq_true hib.1;simp only at hn ha hb ho;simp only [II] at ha hb;refine Ad Aj Tryz.func158 (by decide +kernel) rfl [1,2,3,4,5,6,7] rfl rfl ?_;refine mg [] rfl (by simp) ?_;simp only [BL];by_cases f1:f=1
  ·subst f1;refine Aa rfl (λh=>?_) (λh=>by simp at h);refine md [] rfl (by simp) ?_;refine Ac rfl (λ_=>hR n hia1) (by simp) ?_;refine mg [] rfl (by simp) ?_;refine Ac rfl (λ_=>hR n' hib1) (by simp) ?_;refine mg [] rfl (by simp;rfl) ?_;have hr:∀z:Int,-1000000000000<=z/\z<=1000000000000 -> -2000000000000<=Dl z/\Dl z<=2000000000000:=λz hz=>by simp only [Dl];split <;> omega
   have:=hr n hia1;have:=hr n' hib1;refine Ab ⟨_,rfl,tV ?_,trivial⟩;rw [B9 (by omega) (by omega)];rfl
  refine Aa rfl (λh=>absurd (by simpa using h) f1) (λh=>?_);clear h;refine md [] rfl (by simp) ?_;by_cases f2:f=2
  ·subst f2;refine Aa rfl (λh=>?_) (λh=>by simp at h);refine md [] rfl (by simp) ?_;refine Ab ⟨_,rfl,tV ?_,trivial⟩;rw [B9 (by omega) (by omega)];rfl
  refine Aa rfl (λh=>absurd (by simpa using h) f2) (λh=>?_);clear h;refine md [] rfl (by simp) ?_;by_cases f4:f=4
  case neg =>
   refine Aa rfl (λh=>absurd (by simpa using h) f4) (λh=>?_);clear h;refine md [] rfl (by simp) ?_;rw [if_neg f1,if_neg f2,if_neg f4];exact Ab ⟨_,rfl,tV rfl,trivial⟩
  subst f4;have h8:so=8:=by
   by_cases e1:so=1
   ·rw [if_pos e1] at ha;simp at ha
   rw [if_neg e1] at ha;by_cases e2:so=2
   ·rw [if_pos e2] at ha;simp at ha
   rw [if_neg e2] at ha;by_cases e3:so=3
   ·rw [if_pos e3] at ha;simp at ha
   rw [if_neg e3] at ha;by_cases e8:so=8
   ·exact e8
   ·rw [if_neg e8] at ha;simp at ha
  subst h8;rw [if_neg (by decide),if_neg (by decide),if_neg (by decide),if_pos rfl] at ha hb;simp only [Bool.and_eq_true,decide_eq_true_eq] at ha hb;obtain ⟨_,ha1,ha2,ha3⟩:=ha;obtain ⟨hg,hb1,hb2,hb3⟩:=hb;rw [Hr ds 8 0 m0 x0 x [] qs0] at ha1 ha2 ha3;rw [Hr ds 8 0 m0 x0 x' [] qs0] at hb1 hb2 hb3;have hp:=(C5 hn 8 m0 x0 qs0 rfl rfl).1;have sa:=F5 ho.dif (n:=m0) (s:=x) (ps:=qs0) hp ha1;have sb:=F5 ho.dif (n:=m0) (s:=x') (ps:=qs0) hp hb1;have la:=OX ho (.mk 8 m0 x0 qs0) x;have lb:=OX ho (.mk 8 m0 x0 qs0) x';have hsame:=Nk (ds:=ds) (t:=.mk 8 m0 x0 qs0) (s:=x) (s':=x') ha1;have hal:=QI ho (.mk 8 m0 x0 qs0) x;have hnm:=GM ho.okd (t:=.mk 8 m0 x0 qs0) (s:=x) ha1;have lk1:=Qe ds x;have lk2:=Qe ds x'
  rw [if_neg (by decide),if_neg (by decide),if_pos rfl];rw [sa] at lk1 ⊢;rw [sb] at lk2 ⊢;generalize (BP ds x).1=s1 at *;generalize (BP ds x').1=s2 at *;clear sa sb;generalize B8 ds (.mk 8 m0 x0 qs0) x=e1 at *;generalize B8 ds (.mk 8 m0 x0 qs0) x'=e2 at *;obtain ⟨⟨n1,A1⟩,k1⟩:=e1;obtain ⟨⟨n2,A2⟩,k2⟩:=e2;simp only at ha1 ha2 ha3 hb1 hb2 hb3 la lb hsame hal hnm lk1 lk2 ⊢;refine Aa rfl (λh=>?_) (λh=>by simp at h);refine md [] rfl (by simp) ?_
  refine FA Aj rfl rfl rfl (Ef _) (by simp [Ah]) (z:=.agg #[.int .i64 0,.int .i64 0]) rfl (λ_=>.agg _ _ rfl (by decide) (λi c x h1 h2=>by match i,h1,h2 with | 0,h1,h2=>cases h1;cases h2;exact .int _ _ | 1,h1,h2=>cases h1;cases h2;exact .int _ _ | i+2,h1,h2=>simp at h2)) lk1 ?_;refine mg [] rfl (by simp [Ah]) ?_;refine FA Aj rfl rfl rfl (Ef _) (by simp [Ah]) (z:=.agg #[.int .i64 0,.int .i64 0]) rfl (λ_=>.agg _ _ rfl (by decide) (λi c x h1 h2=>by match i,h1,h2 with | 0,h1,h2=>cases h1;cases h2;exact .int _ _ | 1,h1,h2=>cases h1;cases h2;exact .int _ _ | i+2,h1,h2=>simp at h2)) lk2 ?_;refine mg [] rfl (by simp [Ah];rfl) ?_;by_cases hk:k1=k2
  case neg =>
   refine Aa rfl (λh=>?_) (λh=>by exfalso;simp at h;rw [B9 (by omega) (by omega)] at h;omega);refine md [] rfl (by simp) ?_;rw [if_pos (by omega)];refine Ab ⟨_,rfl,tV ?_,trivial⟩;rw [B9 (by omega) (by omega)]
  refine Aa rfl (λh=>by exfalso;simp at h;rw [B9 (by omega) (by omega)] at h;omega) (λh=>?_);clear h;subst hk;have hsame:=hsame rfl;cases hsame;rw [if_neg (by omega)];refine md [] rfl (by simp) ?_;refine Ak (λi:Nat=>[(53,.imm (.int .i64 i)),(52,.imm (.int .i64 ps.length)),(5,.ref 2 0),(4,.ref 1 0),(0,.imm (AL ⟨ds,.mk c1 c2 c3 c4,rows⟩ sz))])
   (λ_=>[(1,some (.immb 35 4 (dTyc (.mk 4 n x ps)))),(2,some (.immb 35 4 (dTyc (.mk g n' x' ps'))))]) [3,4,5,6,7] (λi=>ps.length-i)
   (λi=>i<=ps.length/\BH ds ps ps'=BH ds (ps.drop i) (ps'.drop i)) 0 ⟨Nat.zero_le _,rfl⟩ ⟨rfl,As (by simp),rfl,rfl,rfl,trivial⟩ ⟨rfl,rfl,trivial⟩ rfl λi hi ih=>?_
  obtain ⟨hi1,hi2⟩:=hi;refine md [] rfl (by simp) ?_;refine Aa rfl (λh=>?_) (λh=>?_)
  ·simp at h;obtain ⟨p,hp⟩:=Am h;obtain ⟨t,ht⟩:=Am (l:=A1) (i:=i) (by omega);obtain ⟨q,hq⟩:=Am (l:=ps') (i:=i) (by omega);have hO:=UC ⟨ds,.mk c1 c2 c3 c4,rows⟩ sz ho p t q (Dc hnm ht) (Jg ha3 ht hp) (Jg hb3 ht hq) (I4 hia.2 hp) (I4 hib.2 hq);simp only at hO;rw [NM hp hq] at hi2;generalize BL ds p q=z at *;refine md [] rfl (by simp) ?_;refine mi rfl (c:=dTyc p) (λ_=>⟨by simp,by simpa using At hp,by simp⟩) (by simp) ?_;refine mg [] rfl (by simp) ?_;refine mi rfl (c:=dTyc q) (λ_=>⟨by simp,by simpa using At hq,by simp⟩) (by simp) ?_;refine mg [] rfl (by simp) ?_;refine Ac rfl (λ_=>hO) (by simp) ?_;refine mg [] rfl (by simp;rfl) ?_;by_cases hz:z=0
   ·rw [if_neg (by simpa using hz)] at hi2;refine Aa rfl (λh=>by simp at h;exact absurd hz h) (λh=>?_);refine md [] rfl (by simp) ?_;exact Ae (ih (i+1) (by omega) ⟨by omega,hi2⟩) ⟨As (B9 (by omega) (by omega)),rfl,rfl,rfl,rfl,trivial⟩ ⟨rfl,rfl,trivial⟩ rfl
   ·rw [if_pos hz] at hi2;refine Aa rfl (λh=>?_) (λh=>by simp at h;exact absurd h hz);refine md [] rfl (by simp) ?_;rw [hi2];exact Ab ⟨_,rfl,tV rfl,trivial⟩
  ·simp at h;refine Ar rfl ?_;refine md [] rfl (by simp) ?_;rw [hi2,List.drop_eq_nil_of_le (by omega)];simp only [BH];exact Ab ⟨_,rfl,tV rfl,trivial⟩
termination_by a=>SizeOf.sizeOf a
decreasing_by
 have:=List.sizeOf_lt_of_mem (List.mem_of_getElem? hp);simp_wf;omega
@[simp] theorem someP_length (r:Option Ty):(FM r).length=5:=by cases r <;> simp [FM,zT]
set_option maxHeartbeats 1000000 in
theorem RJ (c:Cse) (sz:List (List V)) (ho:OkW c.datas) (hn:AB c.datas c.type=true) (a b:Option Ty) (ha:∀v,a=some v->Yd c v) (hb:∀v,b=some v->Yd c v) :
  Al Tryz.prog 111 [AL c sz,.agg (FM a),.agg (FM b)] (.agg (FM (GZ c.datas a b))):=by
 cases a with
 | none =>
  have e:GZ c.datas none b=b:=rfl;rw [e];cases b with
  | none =>
   refine Ad Aj Tryz.func111 (by decide +kernel) rfl [1,2,3,4,5] rfl rfl ?_;refine mg [] rfl (by simp) ?_;refine Aa rfl (λh=>?_) (λh=>by simp at h);refine md [] rfl (by simp) ?_;exact Ab ⟨_,rfl,tV rfl,trivial⟩
  | some y =>
   obtain ⟨y1,y2,y3,y4⟩:=y;refine Ad Aj Tryz.func111 (by decide +kernel) rfl [1,2,3,4,5] rfl rfl ?_;refine mg [] rfl (by simp) ?_;refine Aa rfl (λh=>?_) (λh=>by simp at h);refine md [] rfl (by simp) ?_;exact Ab ⟨_,rfl,tV rfl,trivial⟩
 | some x =>
 cases b with
 | none =>
  obtain ⟨x1,x2,x3,x4⟩:=x;refine Ad Aj Tryz.func111 (by decide +kernel) rfl [1,2,3,4,5] rfl rfl ?_;refine mg [] rfl (by simp) ?_;refine Aa rfl (λh=>by simp at h) (λh=>?_);refine md [] rfl (by simp) ?_;refine Aa rfl (λh=>?_) (λh=>by simp at h);refine md [] rfl (by simp) ?_;exact Ab ⟨_,rfl,tV rfl,trivial⟩
 | some y =>
  have hx:=ha x rfl;have hy:=hb y rfl;have hO:=UC c sz ho y c.type x hn hy.1 hx.1 hy.2.1 hx.2.1;have hX:=Po x hx.2.2;have hY:=Po y hy.2.2;have e:GZ c.datas (some x) (some y)=if (if Ai y=Ai x then BL c.datas y x<0 else Ai y<Ai x) then some y else some x:=by
   simp only [GZ,BY];by_cases h:Ai y=Ai x
   ·simp only [if_pos h,decide_eq_true_eq]
   ·simp only [if_neg h,decide_eq_true_eq]
  rw [e];clear e;have hnx:=hx.2.2;have hny:=hy.2.2;generalize BL c.datas y x=z at *;generalize Ai x=nx at *;generalize Ai y=ny at *;obtain ⟨x1,x2,x3,x4⟩:=x;obtain ⟨y1,y2,y3,y4⟩:=y;generalize hR:(if (if ny=nx then z<0 else ny<nx) then some (Ty.mk y1 y2 y3 y4) else some (Ty.mk x1 x2 x3 x4))=R;have hyes:(if ny=nx then z<0 else ny<nx)->R=some (Ty.mk y1 y2 y3 y4):=λh=>by rw [<- hR];exact if_pos h
  have hno:¬(if ny=nx then z<0 else ny<nx)->R=some (Ty.mk x1 x2 x3 x4):=λh=>by rw [<- hR];exact if_neg h
  clear hR;refine Ad Aj Tryz.func111 (by decide +kernel) rfl [1,2,3,4,5] rfl rfl ?_;refine mg [] rfl (by simp) ?_;refine Aa rfl (λh=>by simp at h) (λh=>?_);refine md [] rfl (by simp) ?_;refine Aa rfl (λh=>by simp at h) (λh=>?_);refine md [] rfl (by simp) ?_;refine Ac rfl (λ_=>hY) (by simp [Ah]) ?_;refine mg [] rfl (by simp [Ah]) ?_;refine Ac rfl (λ_=>hX) (by simp [Ah]) ?_;refine mg [] rfl (by simp [Ah];rfl) ?_;have ew:IntKind.i64.wrap ((ny:Int)-nx)=(ny:Int)-nx:=B9 (by omega) (by omega);by_cases hq:ny=nx
  ·subst hq;simp only [if_true] at hyes hno;refine Aa rfl (λh=>?_) (λh=>by exfalso;simp at h;exact h (by decide));refine md [] rfl (by simp) ?_;refine Ac rfl (λ_=>hO) (by simp) ?_;refine mg [] rfl (by simp) ?_;by_cases hz:z<0
   ·rw [hyes hz];refine Aa rfl (λh=>?_) (λh=>absurd hz (by simpa using h));refine md [] rfl (by simp) ?_;exact Ab ⟨_,rfl,tV rfl,trivial⟩
   ·rw [hno hz];refine Aa rfl (λh=>absurd (by simpa using h) hz) (λh=>?_);refine md [] rfl (by simp) ?_;exact Ab ⟨_,rfl,tV rfl,trivial⟩
  ·simp only [if_neg hq] at hyes hno;refine Aa rfl (λh=>by exfalso;simp [ew] at h;omega) (λh=>?_);refine md [] rfl (by simp) ?_;by_cases hz:ny<nx
   ·rw [hyes hz];refine Aa rfl (λh=>?_) (λh=>by exfalso;simp [ew] at h;omega);refine md [] rfl (by simp) ?_;exact Ab ⟨_,rfl,tV rfl,trivial⟩
   ·rw [hno hz];refine Aa rfl (λh=>by exfalso;simp [ew] at h;omega) (λh=>?_);refine md [] rfl (by simp) ?_;exact Ab ⟨_,rfl,tV rfl,trivial⟩
theorem U8 (p:Ty):Al Tryz.prog 244 [.agg (dTyc p)] (.agg (dTyc p)):=by
 obtain ⟨a,b,c,d⟩:=p;refine Ad Aj Tryz.func244 (by decide +kernel) rfl [1,2] rfl rfl ?_;refine mg [] rfl (by simp) ?_;exact Ab ⟨_,rfl,tV rfl,trivial⟩
theorem U7 (p:Ty):Al Tryz.prog 245 [.agg (dTyc p)] (.agg (dTyc p)):=by
 obtain ⟨a,b,c,d⟩:=p;refine Ad Aj Tryz.func245 (by decide +kernel) rfl [1,2] rfl rfl ?_;refine mg [] rfl (by simp) ?_;exact Ab ⟨_,rfl,tV rfl,trivial⟩
theorem TQ:∃z,(Tryz.prog.info? 124).bind (·.zero)=some z/\∀I,RepV I z (.agg [.int .i64 0,.int .i64 0,.str [],.sl []]):=by
 refine ⟨.agg #[.int .i64 0,.int .i64 0,.string ⟨#[]⟩,.slice none 0 0],by kernel_rfl,λI=>.agg _ _ rfl (by decide) λi c x hc hx=>?_⟩
 match i,hc,hx with
 | 0,hc,hx=>cases hc;cases hx;exact .int _ _
 | 1,hc,hx=>cases hc;cases hx;exact .int _ _
 | 2,hc,hx=>cases hc;cases hx;exact .str _ _ rfl
 | 3,hc,hx=>cases hc;cases hx;exact .slnil
 | i+4,hc,hx=>simp at hx
theorem eI (x:Ty×Int):Al Tryz.prog 112 [Ld x] (.bool (decide (x.2=1))):=by
 obtain ⟨⟨a,b,c,d⟩,m⟩:=x;by_cases h:m=1
 ·subst h;refine Ad Aj Tryz.func112 (by decide +kernel) rfl [1,2] rfl rfl ?_;refine mg [] rfl (by simp) ?_;refine HU Aj rfl (.inl ⟨rfl,rfl⟩) ?_;refine mg [] rfl (by simp) ?_;refine Aa rfl (λh=>?_) (λh=>by simp at h);refine md [] rfl (by simp) ?_;exact Ab ⟨_,rfl,tV rfl,trivial⟩
 ·have e:Ld (.mk a b c d,m) = .iface 182 (.agg (dTyc (.mk a b c d))):=by simp [Ld,h]
  obtain ⟨z,hz,hzr⟩:=TQ;rw [e,show decide (m=1)=false from decide_eq_false h];refine Ad Aj Tryz.func112 (by decide +kernel) rfl [1,2] rfl rfl ?_;refine mg [] rfl (by simp) ?_;refine HU Aj rfl (.inr ⟨by decide,z,_,hz,hzr,rfl⟩) ?_;refine mg [] rfl (by simp) ?_;refine Aa rfl (λh=>by simp at h) (λh=>?_);refine md [] rfl (by simp) ?_;exact Ab ⟨_,rfl,tV rfl,trivial⟩
theorem RR {I:Imm} {μ:Mu}:∀{xs:List Value} {a b:List D},RepL I μ xs (a ++ .nils::b)->RepL I μ xs (a ++ .imm (.sl [])::b)
 | [],[],b,h=>absurd h.1 (by simp)
 | [],_::_,b,h=>absurd h.1 (by simp)
 | x::xs,[],b,h=>by
  obtain ⟨h1,h2⟩:=(show RepL I μ (x::xs) (.nils::b) from h).cons;refine .mk ?_ h2;cases h1;exact .imm _ _ .slnil
 | x::xs,d::a,b,h=>by
  obtain ⟨h1,h2⟩:=(show RepL I μ (x::xs) (d::(a ++ .nils::b)) from h).cons;exact .mk h1 (RR h2)
theorem ZU {P:Program} {f:FuncId} {a b:List D} {st:St} {out:Out} (h:Bc P f (a ++ .imm (.sl [])::b) st out):Bc P f (a ++ .nils::b) st out:=λI μ w xs hs hx=>h I μ w xs hs (RR hx)
theorem TS (l:List (Ty×Int)):∀c∈Cg l,c.length=1:=λc hc=>by simp only [Cg,List.mem_map] at hc;obtain ⟨q,_,rfl⟩:=hc;rfl
theorem YL (x : Ty × Int) : ∃ T fm, Ld x = .iface T (.agg (dTyc x.1)) ∧ Vh Tryz.prog T "hearth/cover.pattern" fm = true ∧ Al Tryz.prog fm [.agg (dTyc x.1)] (.agg (dTyc x.1)) := by
 obtain ⟨p,m⟩:=x;by_cases h:m=1
 ·exact ⟨124,244,by simp [Ld,h],by kernel_rfl,U8 p⟩
 ·exact ⟨182,245,by simp [Ld,h],by kernel_rfl,U7 p⟩
set_option maxHeartbeats 4000000 in
theorem RP (c:Cse) (ho:OkW c.datas) (hn:AB c.datas c.type=true):∀(F f N:Nat),f<=F->∀(m x:Mi) (l:List (Ty×Int)) (r:Option Ty),N+f<=1000000->MOk c.datas c.type N m->MOk c.datas c.type N x->stl c.datas m x ->
  H1 c.datas c.type l->(∀y∈l,y.2=0\/y.2=1)->l.length<=1000->IJ c.datas m l<f->Ci c.datas f m l=some r ->
  Bc Tryz.prog 57 [.imm (AL c (Bu (D7 c.datas))),.hv 1 0,.imm (.sl (Cg l))] [(1,some (.hp (Hv x)))] (.ret (.imm (.agg (FM r))) []):=by
 intro F
 induction F with
 | zero=>intro f N hf m x l r _ _ _ _ _ _ _ hu;omega
 | succ F ih =>
 intro f N hfF m x l r hNf hm hx hs hr hb hll hu hS;have hrf:=Gy r;refine Ad Aj Tryz.func57 (by decide +kernel) rfl [2,3,4,5,6,7,8,9,10,11,12] rfl rfl ?_;refine J0 1 2 (λob:Nat=>[ptr ob]) (λob=>AV x ob) rfl (λvs I w bs h=>let ⟨ob,F,e1,e2,e3⟩:=h;⟨ob,e1,F,e2,e3⟩) λob=>?_;refine md [] rfl (by simp) ?_;refine Ak (λz:Nat×Nat×Mi=>[(15,.imm (.int .i64 z.1)),(14,.imm (.int .i64 l.length)),(13,.imm (.sl (Cg l))),(6,.ref 3 0),(2,.imm (.sl (Cg l))),(1,.raw (ptr ob)),(0,.imm (AL c (Bu (D7 c.datas))))])
  (λz=>[(3,some (.cells 107 5 [.imm (.int .i64 0),.imm (.int .i64 0),.imm (.str []),.nils,.imm (.bool false)])),(2,some (.hp (AV z.2.2 ob)))]) [4,5,6,7,8,9,10,11,12] (λz=>l.length-z.1)
  (λz=>z.1<=l.length/\z.2.1<=f/\MOk c.datas c.type N z.2.2/\stl c.datas m z.2.2/\IJ c.datas m (l.drop z.1)<z.2.1/\Ci c.datas z.2.1 m (l.drop z.1)=some r) (0,f,x) ⟨Nat.zero_le _,Nat.le_refl _,hx,hs,hu,hS⟩ ⟨rfl,As (by simp),rfl,rfl,rfl,rfl,rfl,trivial⟩ ⟨rfl,rfl,trivial⟩ rfl λz hz ihl=>?_
 obtain ⟨i,f',x⟩:=z;obtain ⟨z1,z2,hx,hs,hu,hS⟩:=hz;simp only at z1 z2 hx hs hu hS;refine md [] rfl (by simp) ?_;refine Aa rfl (λh=>?_) (λh=>?_)
 ·have hlt:i<l.length:=by simp at h;omega
  obtain ⟨y,hy⟩:=Am hlt;obtain ⟨p,bb⟩:=y;obtain ⟨T,fm,hwe,him,hpc⟩:=YL (p,bb);obtain ⟨hp1,hp2,hp3⟩:=hr (p,bb) (List.mem_of_getElem? hy);have hyb:=hb (p,bb) (List.mem_of_getElem? hy);have hho:=eI (p,bb);have hget:(Cg l)[i]?=some [.iface T (.agg (dTyc p))]:=by rw [Wk hy,hwe]
  rw [hwe] at hho;have hdr:=An hy;rw [hdr] at hS hu;simp only at hp1 hp2 hp3 hyb hho hpc;obtain ⟨f',rfl⟩:∃g,f'=g+1:=⟨f'-1,by omega⟩
  have hsee:=bX c (Bu (D7 c.datas)) ho N (by omega) p x ob [] (by simp;omega) hx.wf hx.coh (by rw [hx.typ];exact hp1) hp2;replace hsee:=ZU (a:=[.imm (AL c (Bu (D7 c.datas))),.imm (.agg (dTyc p)),.raw (ptr ob)]) (b:=[]) hsee;have hst:=XI p hm.coh hs;have hxs:=hx.see ho hp3;have hL:=Pv p hm.coh hs;have hL2:=Pv p hm.coh hst;rw [<- hL] at hsee;refine md [] rfl (by simp) ?_;refine mi rfl (c:=[.iface T (.agg (dTyc p))]) (λ_=>⟨by simp,by simpa using hget,by simp⟩) (by simp) ?_;refine mg [] rfl (by simp) ?_;refine iR fm rfl him (λ_=>hpc) (by simp) ?_;refine mg [] rfl (by simp) ?_;simp only [Ci] at hS;simp only [IJ] at hu;by_cases h2:(Ax c.datas p m).1=2
  ·rw [show O2 [] (Ax c.datas p m) = .tup [.imm (.bool false),.ip 170 (.sl (Bu (Ax c.datas p m).2.1)::Be (Ax c.datas p m).2.2) 0] from if_pos h2] at hsee;have hA:=Nq ho p hm.wf hm.coh (by rw [hm.typ];exact hp1) hp2 h2;have hB:=Nq ho p hxs.wf hxs.coh (by rw [hxs.typ];exact hp1) hp2 (by rw [<- hL2];exact h2);rw [<- hL2] at hB;have hmT:=hm.split ho hp1 hp2 hp3 h2;have hxT:=hxs.split ho hp1 hp2 hp3 (by rw [<- hL2];exact h2);rw [<- hL2] at hxT;have hlen:=Qc c.datas p m;have hsup:=λis=>Wo c (Bu (D7 c.datas)) ho N (by omega) (Ey c.datas p x) ob (Ax c.datas p m).2.1 (Ax c.datas p m).2.2 is (by omega) hxs.wf hxs.coh hB.ok
   have hdl:∀is,IJ c.datas (A7 c.datas m (Ax c.datas p m).2.1 (Ax c.datas p m).2.2 is) ((p,bb)::l.drop (i+1))<f':=λis=>by have:=hA.less is;simp only [IJ];omega
   have hrd:H1 c.datas c.type ((p,bb)::l.drop (i+1)):=λy h=>hr y (by rw [<- hdr] at h;exact List.mem_of_mem_drop h);obtain ⟨ra,ra1,ra2⟩:=Ig ho c.type f' (N+1) _ _ (by omega) (hmT true) hrd (hdl true);obtain ⟨rb,rb1,rb2⟩:=Ig ho c.type f' (N+1) _ _ (by omega) (hmT false) hrd (hdl false);rw [if_pos h2,ra1,rb1] at hS;simp only [ND,Option.some.injEq] at hS;have hll2:((p,bb)::l.drop (i+1)).length<=1000:=by rw [<- hdr,List.length_drop];omega
   have hbd:∀y∈(p,bb)::l.drop (i+1),y.2=0\/y.2=1:=λy h=>hb y (by rw [<- hdr] at h;exact List.mem_of_mem_drop h);have hYa:=ih f' (N+1) (by omega) _ _ _ ra (by omega) (hmT true) (hxT true) (hA.stl true _ hst) hrd hbd hll2 (hdl true) ra1;have hYb:=ih f' (N+1) (by omega) _ _ _ rb (by omega) (hmT false) (hxT false) (hA.stl false _ hst) hrd hbd hll2 (hdl false) rb1;have hsoon:=RJ c (Bu (D7 c.datas)) ho hn ra rb (λv hv=>PM rfl (ra2 v hv)) (λv hv=>PM rfl (rb2 v hv));rw [hS] at hsoon;rw [<- hdr,<- TU] at hYa hYb;generalize (Ax c.datas p m).2.1=path at *;generalize (Ax c.datas p m).2.2=hd at *;obtain ⟨d1,d2,d3,d4⟩:=hd
   refine Az (fr:=[4]) [(2,1)] [(2,4)] rfl (by simp) hsee ⟨⟨rfl,rfl,rfl⟩,trivial⟩ rfl rfl rfl rfl ?_;refine mg [] rfl (by simp) ?_;refine Aa rfl (λh=>?_) (λh=>by simp at h);refine md [] rfl (by simp) ?_;refine Ce [(4,1)] [(3,5),(2,6)] [] (fr:=[5,6]) (nm:=[5,6,4]) rfl trivial (by simp) (hsup true) ⟨⟨rfl,rfl,rfl⟩,trivial⟩ rfl trivial rfl rfl rfl ?_;refine mg [] rfl (by simp;exact ⟨by omega,TS l⟩) ?_;refine Ce [(6,1)] [] [] (fr:=[]) (nm:=[6]) rfl trivial (by simp) hYa ⟨⟨rfl,rfl,rfl⟩,trivial⟩ rfl trivial rfl rfl rfl ?_;refine mg [] rfl (by simp;rfl) ?_
   refine Ce [(5,1)] [(3,8),(2,9)] [] (fr:=[8,9]) (nm:=[8,9,5]) rfl trivial (by simp) (hsup false) ⟨⟨rfl,rfl,rfl⟩,trivial⟩ rfl trivial rfl rfl rfl ?_;refine mg [] rfl (by simp;exact ⟨by omega,TS l⟩) ?_;refine Ce [(9,1)] [] [] (fr:=[]) (nm:=[9]) rfl trivial (by simp) hYb ⟨⟨rfl,rfl,rfl⟩,trivial⟩ rfl trivial rfl rfl rfl ?_;refine mg [] rfl (by simp;rfl) ?_;refine Ac rfl (λ_=>hsoon) (by simp) ?_;refine mg [] rfl (by simp) ?_;exact Ab ⟨_,rfl,tV rfl,trivial⟩
  ·rw [show O2 [] (Ax c.datas p m) = .imm (.tup [.bool (decide ((Ax c.datas p m).1=1)),.nilp]) from if_neg h2] at hsee;rw [if_neg h2] at hS;have hrg:=KI c.datas p m;have hul:=Jm c.datas m (l.drop (i+1));have hih:=ihl (i+1,f',Ey c.datas p x) (by simp only;omega);simp only at hih;generalize (Ax c.datas p m).1=q at *;refine Az (fr:=[4]) [(2,1)] [(2,4)] rfl (by simp) hsee ⟨⟨rfl,rfl,rfl⟩,trivial⟩ rfl rfl rfl rfl ?_;refine mg [] rfl (by simp) ?_;refine Aa rfl (λh=>by simp at h) (λh=>?_);clear h;refine md [] rfl (by simp) ?_;refine Ac rfl (λ_=>hho) (by simp) ?_;refine mg [] rfl (by simp) ?_;by_cases e:q=bb
   ·rw [if_pos e] at hS;refine Aa rfl (λh=>by exfalso;subst e;simp at h) (λh=>?_);refine md [] rfl (by simp) ?_;refine A6 4 2 rfl ?_;exact Ae (hih ⟨by omega,by omega,hxs,hst,by omega,hS⟩) ⟨As (B9 (by omega) (by omega)),rfl,rfl,rfl,rfl,rfl,rfl,trivial⟩ ⟨rfl,rfl,trivial⟩ rfl
   ·rw [if_neg e] at hS;simp only [Option.some.injEq] at hS;subst hS;refine Aa rfl (λh=>?_) (λh=>by
     exfalso;have:¬(q=1↔bb=1):=λh=>by omega
     simp at h;exact this (by rw [h]))
    refine md [] rfl (by simp) ?_;exact Ab ⟨_,rfl,tV rfl,trivial⟩
 ·have hlt:¬i<l.length:=by simp at h;omega
  obtain ⟨f',rfl⟩:∃g,f'=g+1:=⟨f'-1,by omega⟩
  rw [List.drop_eq_nil_of_le (by omega)] at hS;simp only [Ci] at hS;have hS:AD c.datas 1000 x=some r:=by
   rw [<- YU ho 14 m x hx.hgt hm.wf hs 1000 (by omega)];exact hS
  have hle:=dX c ho N (by omega) 1000 x ob r hS hx.wf;refine Ar rfl ?_;refine md [] rfl (by simp) ?_;refine Az (fr:=[]) [(2,1)] [] rfl (by simp) hle ⟨⟨rfl,rfl,rfl⟩,trivial⟩ rfl rfl rfl rfl ?_;refine mg [] rfl (by simp) ?_;exact Ab ⟨_,rfl,tV rfl,trivial⟩
theorem Wl (rows:List Ty) (k:Nat) {p:Ty} (h:rows[k]?=some p):Gn rows (k:Int)=(rows.take k).map (·,(0:Int))++[(p,1)]:=by
 simp only [Gn];rw [if_neg (by omega)];simp only [Int.toNat_natCast,h]
theorem YM (rows:List Ty) {row:Int} (h:row<0):Gn rows row=rows.map (·,(0:Int)):=if_pos h
set_option maxHeartbeats 1000000 in
theorem Lj (c:Cse) (sz:List (List V)) (hl:c.rows.length<=5) (row:Int) (h1 : -1<=row) (h2:row<c.rows.length):Al Tryz.prog 59 [AL c sz,.int .i64 row] (.sl (Cg (Gn c.rows row))):=by
 have hw1:=λk p h=>Wl c.rows k (p:=p) h;have hw2:=λh=>YM c.rows (row:=row) h;obtain ⟨ds,⟨c1,c2,c3,c4⟩,rows⟩:=c;simp only at *;refine Ad Aj Tryz.func59 (by decide +kernel) rfl [1,2,3,4] rfl rfl ?_;refine mg [] rfl (by simp) ?_;refine D4 (e:=164) (sz:=1) 5 1 (by decide) rfl ?_;refine Ak (λi:Nat=>[(14,.imm (.int .i64 i)),(13,.imm (.int .i64 rows.length)),(12,.imm (.sl (Bq rows))),(5,.own 1 (Cg ((rows.take i).map (·,(0:Int)))).length),(1,.imm (.int .i64 row))]) (λi=>[(1,some (.row 164 1 (Cg ((rows.take i).map (·,(0:Int))))))]) [2,3,4] (λi=>rows.length-i)
  (λi=>i<=rows.length/\(0<=row->(i:Int)<=row)) 0 ⟨Nat.zero_le _,λh=>h⟩ ⟨rfl,As (by simp),rfl,rfl,rfl,trivial⟩ ⟨rfl,trivial⟩ rfl λi hi ih=>?_
 obtain ⟨i1,i2⟩:=hi;refine md [] rfl (by simp) ?_;refine Aa rfl (λh=>?_) (λh=>?_)
 ·simp at h;obtain ⟨p,hp⟩:=Am h;have hw1:=hw1 i p hp;have et:∀n:Int,Cg ((rows.take i).map (·,(0:Int))++[(p,n)])=Cg ((rows.take i).map (·,(0:Int)))++[[Ld (p,n)]]:=λn=>by rw [Rf];rfl
  have e2:(rows.take (i+1)).map (·,(0:Int))=(rows.take i).map (·,(0:Int))++[(p,0)]:=by rw [Bb hp];simp
  have hll:(Cg ((rows.take i).map (·,(0:Int)))).length<=5:=by simp;omega
  refine md [] rfl (by simp) ?_;refine mi rfl (c:=dTyc p) (λ_=>⟨by simp,by simpa using At hp,by simp⟩) (by simp) ?_;obtain ⟨p1,p2,p3,p4⟩:=p;refine mg [] rfl (by simp) ?_;by_cases e:(i:Int)=row
  ·subst e;rw [hw1,et];generalize Cg ((rows.take i).map (·,(0:Int)))=l at *;refine Aa rfl (λh=>?_) (λh=>by simp at h);refine md [] rfl (by simp) ?_;refine BR Aj rfl ⟨by simp,by simp [maxLen] at hll ⊢;omega,by simp at hll ⊢;omega,trivial⟩ ?_;refine mg [] rfl (by simp) ?_;refine BM 3 rfl ?_;exact Ab ⟨_,rfl,tV rfl,trivial⟩
  ·have hih:=ih (i+1) (by omega) ⟨by omega,λh=>by have:=i2 h;omega⟩;rw [e2,et] at hih;generalize Cg ((rows.take i).map (·,(0:Int)))=l at *;refine Aa rfl (λh=>by exfalso;simp at h;exact e h) (λh=>?_);refine md [] rfl (by simp) ?_;refine BR Aj rfl ⟨by simp,by simp [maxLen] at hll ⊢;omega,by simp at hll ⊢;omega,trivial⟩ ?_;refine mg [] rfl (by simp) ?_;refine A6 1 3 rfl ?_;exact Ae hih ⟨As (B9 (by omega) (by omega)),rfl,rfl,by simp only [List.length_append];rfl,rfl,trivial⟩ ⟨rfl,trivial⟩ rfl
 ·simp at h;have hr:row<0:=by
   by_cases e:0<=row
   ·have:=i2 e;omega
   ·omega
  refine Ar rfl ?_;refine BM 1 rfl ?_;refine md [] rfl (by simp) ?_;rw [hw2 hr,List.take_of_length_le h];exact Ab ⟨_,rfl,tV rfl,trivial⟩
def KN (r:Option Ty):V:=.tup [.agg (dTyc (r.getD zT)),.int .i64 (if r.isSome then 0 else 5)]
theorem Qz (r:Option Ty) (hr:∀v,r=some v->Ai v<=1000000000000):Al Tryz.prog 56 [.agg (FM r)] (KN r):=by
 cases r with
 | none =>
  refine Ad Aj Tryz.func56 (by decide +kernel) rfl [1,2,3] rfl rfl ?_;refine mg [] rfl (by simp) ?_;refine Aa rfl (λh=>?_) (λh=>by simp at h);refine md [] rfl (by simp) ?_;exact Ab ⟨_,rfl,tV rfl,trivial⟩
 | some v =>
  have hc:=IF v (hr v rfl);obtain ⟨v1,v2,v3,v4⟩:=v;refine Ad Aj Tryz.func56 (by decide +kernel) rfl [1,2,3] rfl rfl ?_;refine mg [] rfl (by simp) ?_;refine Aa rfl (λh=>by simp at h) (λh=>?_);refine md [] rfl (by simp) ?_;refine Ac rfl (λ_=>hc) (by simp) ?_;refine mg [] rfl (by simp) ?_;exact Ab ⟨_,rfl,tV rfl,trivial⟩
theorem RowsOk.of {c:Cse} (h:Bn c=true):RowsOk c:=by
 have h':=h;simp only [Bn,Bool.and_eq_true,decide_eq_true_eq] at h';obtain ⟨_,_,_,h1,h2⟩:=CY h;refine ⟨λp hp=>?_,h1,h'.2.2.2⟩;obtain ⟨a,b⟩:=h2 p hp;simp only [Bz,Bool.and_eq_true,decide_eq_true_eq] at a;exact ⟨b,a.2.1,a.1⟩
theorem MOk.of {c:Cse} (h:Bn c=true):MOk c.datas c.type 0 (Aq c.type):=by
 exact ⟨TY (CY h).2.2.1 (OkW.typ h),SM _ _,rfl,by simp [GS,Aq,FO]⟩
theorem kT (rows:List Ty) (row:Int):∀y∈Gn rows row,y.2=0\/y.2=1:=by
 intro y hy;unfold Gn at hy
 split at hy
 ·obtain ⟨p,_,rfl⟩:=List.mem_map.1 hy;exact .inl rfl
 ·rcases List.mem_append.1 hy with hy | hy
  ·obtain ⟨p,_,rfl⟩:=List.mem_map.1 hy;exact .inl rfl
  ·split at hy
   ·rw [List.mem_singleton.1 hy];exact .inr rfl
   ·cases hy
theorem aR {c:Cse} (h:RowsOk c) (row:Int):(Gn c.rows row).length<=1000:=by
 have:=h.len;unfold Gn
 split
 ·simp;omega
 ·split <;> simp <;> omega
theorem MU (c:Cse) (h:Bn c=true) (N:Nat) (hN:N<=999000) (m x:Mi) (hm:MOk c.datas c.type N m) (hx:MOk c.datas c.type N x) (hs:stl c.datas m x) (row:Int) :
  Bc Tryz.prog 57 [.imm (AL c (Bu (D7 c.datas))),.hv 1 0,.imm (.sl (Cg (Gn c.rows row)))] [(1,some (.hp (Hv x)))] (.ret (.imm (.agg (FM (GR c m row)))) [])/\∀v,GR c m row=some v->N3 c.datas c.type v:=by
 have ho:=OkW.of h;have hr:=RowsOk.of h;obtain ⟨w1,w2⟩:=gM hr row;obtain ⟨v1,v2⟩:=K7 ho hN hm w1 w2;have hu:=Jm c.datas m (Gn c.rows row);rw [show FT c.datas m (Gn c.rows row)=GR c m row from rfl] at v1 v2;exact ⟨RP c ho (CY h).2.2.1 60 60 N (Nat.le_refl _) m x _ _ (by omega) hm hx hs w1 (kT _ _) (aR hr row) (by omega) v1,v2⟩
set_option maxHeartbeats 1000000 in
theorem QZ (c:Cse):Al Tryz.prog 11 [.agg (dCse c)] (bif Bn c then KN (GR c (Aq c.type) (-1)) else .tup [.agg (dTyc zT),.int .i64 2]):=by
 have hW:=ES c;have hF:=GD (AL c (Bu (D7 c.datas))) c.type;cases hb:Bn c with
 | false =>
  rw [hb] at hW;obtain ⟨ds,⟨c1,c2,c3,c4⟩,rows⟩:=c;refine Ad Aj Tryz.func11 (by decide +kernel) rfl [1,2,3,4] rfl rfl ?_;refine mg [] rfl (by simp) ?_;refine Ac rfl (λ_=>hW) (by simp) ?_;refine mg [] rfl (by simp) ?_;refine Aa rfl (λh=>?_) (λh=>by simp at h);refine md [] rfl (by simp) ?_;exact Ab ⟨_,rfl,tV rfl,trivial⟩
 | true =>
  rw [hb] at hW;have hU:=Lj c (Bu (D7 c.datas)) (RowsOk.of hb).len (-1) (by omega) (by omega);obtain ⟨hL1,hL2⟩:=MU c hb 0 (by omega) _ _ (MOk.of hb) (MOk.of hb) (Ev _ _) (-1);have hFd:=Qz (GR c (Aq c.type) (-1)) λv hv=>(hL2 v hv).2.2;clear hL2;simp only [cond_true];have hfr:∃a b,KN (GR c (Aq c.type) (-1)) = .tup [.agg a,.int .i64 b]/\a.length=4:=⟨_,_,rfl,by simp⟩
  obtain ⟨fa,fb,hfe,hfl⟩:=hfr;rw [hfe] at hFd ⊢;generalize GR c (Aq c.type) (-1)=R at *;have hrf:=Gy R;obtain ⟨a1,a2,a3,a4,rfl⟩:∃a1 a2 a3 a4,fa=[a1,a2,a3,a4]:=by
   match fa,hfl with
   | [a1,a2,a3,a4],_=>exact ⟨_,_,_,_,rfl⟩
  obtain ⟨ds,⟨c1,c2,c3,c4⟩,rows⟩:=c;refine Ad Aj Tryz.func11 (by decide +kernel) rfl [1,2,3,4] rfl rfl ?_;refine mg [] rfl (by simp) ?_;refine Ac rfl (λ_=>hW) (by simp) ?_;refine mg [] rfl (by simp) ?_;refine Aa rfl (λh=>by simp at h) (λh=>?_);refine md [] rfl (by simp) ?_;refine Az (fr:=[3]) [] [(2,3)] rfl (by simp) hF trivial rfl rfl rfl rfl ?_;refine mg [] rfl (by simp) ?_;refine Ac rfl (λ_=>hU) (by simp) ?_;refine mg [] rfl (by simp) ?_;refine Az (fr:=[]) [(3,1)] [] rfl (by simp) hL1 ⟨⟨rfl,rfl,rfl⟩,trivial⟩ rfl rfl rfl rfl ?_;refine mg [] rfl (by simp) ?_;refine Ac rfl (λ_=>hFd) (by simp) ?_;refine mg [] rfl (by simp) ?_;exact Ab ⟨_,rfl,tV rfl,trivial⟩
theorem Oe (r:Option Ty):∃a1 a2 a3 a4 b,KN r = .tup [.agg [a1,a2,a3,a4],.int .i64 b]:=by
 unfold KN;generalize r.getD zT=t;obtain ⟨a,b,c,d⟩:=t;exact ⟨_,_,_,_,_,rfl⟩
theorem K6 {c:Cse} {row:Int} (h:Cw c row=true):0<=row/\row<c.rows.length:=by
 simpa [Cw] using h
set_option maxHeartbeats 1000000 in
theorem SQ (c:Cse) (row:Int):Al Tryz.prog 18 [.agg (dCse c),.int .i64 row] (bif Bn c&&Cw c row then KN (GR c (Aq c.type) row) else .tup [.agg (dTyc zT),.int .i64 2]):=by
 have hW:=ES c;have hF:=GD (AL c (Bu (D7 c.datas))) c.type;have hT:=Pr c row;rw [show (decide (0<=row)&&decide (row<c.rows.length))=Cw c row from rfl] at hT;cases hb:Bn c with
 | false =>
  rw [hb] at hW;obtain ⟨ds,⟨c1,c2,c3,c4⟩,rows⟩:=c;refine Ad Aj Tryz.func18 (by decide +kernel) rfl [1,2,3,4] rfl rfl ?_;refine mg [] rfl (by simp) ?_;refine Ac rfl (λ_=>hW) (by simp) ?_;refine mg [] rfl (by simp) ?_;refine Ac (v:=.bool true) rfl (λh=>by simp [Ah] at h) (by simp [Ah]) ?_;refine mg [] rfl (by simp) ?_;refine Aa rfl (λh=>?_) (λh=>by simp at h);refine md [] rfl (by simp) ?_;exact Ab ⟨_,rfl,tV rfl,trivial⟩
 | true =>
 rw [hb] at hW;cases ht:Cw c row with
 | false =>
  rw [ht] at hT;obtain ⟨ds,⟨c1,c2,c3,c4⟩,rows⟩:=c;refine Ad Aj Tryz.func18 (by decide +kernel) rfl [1,2,3,4] rfl rfl ?_;refine mg [] rfl (by simp) ?_;refine Ac rfl (λ_=>hW) (by simp) ?_;refine mg [] rfl (by simp) ?_;refine Ac rfl (λ_=>hT) (by simp [Ah]) ?_;refine mg [] rfl (by simp) ?_;refine Aa rfl (λh=>?_) (λh=>by simp at h);refine md [] rfl (by simp) ?_;exact Ab ⟨_,rfl,tV rfl,trivial⟩
 | true =>
  rw [ht] at hT;obtain ⟨r1,r2⟩:=K6 ht;have hU:=Lj c (Bu (D7 c.datas)) (RowsOk.of hb).len row (by omega) r2;obtain ⟨hL1,hL2⟩:=MU c hb 0 (by omega) _ _ (MOk.of hb) (MOk.of hb) (Ev _ _) row;have hFd:=Qz (GR c (Aq c.type) row) λv hv=>(hL2 v hv).2.2;clear hL2;simp only [Bool.and_self,cond_true];obtain ⟨a1,a2,a3,a4,b,hfe⟩:=Oe (GR c (Aq c.type) row);rw [hfe] at hFd ⊢;generalize GR c (Aq c.type) row=R at *;obtain ⟨ds,⟨c1,c2,c3,c4⟩,rows⟩:=c;refine Ad Aj Tryz.func18 (by decide +kernel) rfl [1,2,3,4] rfl rfl ?_;refine mg [] rfl (by simp) ?_;refine Ac rfl (λ_=>hW) (by simp) ?_;refine mg [] rfl (by simp) ?_;refine Ac rfl (λ_=>hT) (by simp [Ah]) ?_;refine mg [] rfl (by simp) ?_
  refine Aa rfl (λh=>by simp at h) (λh=>?_);refine md [] rfl (by simp) ?_;refine Az (fr:=[3]) [] [(2,3)] rfl (by simp) hF trivial rfl rfl rfl rfl ?_;refine mg [] rfl (by simp) ?_;refine Ac rfl (λ_=>hU) (by simp) ?_;refine mg [] rfl (by simp) ?_;refine Az (fr:=[]) [(3,1)] [] rfl (by simp) hL1 ⟨⟨rfl,rfl,rfl⟩,trivial⟩ rfl rfl rfl rfl ?_;refine mg [] rfl (by simp) ?_;refine Ac rfl (λ_=>hFd) (by simp) ?_;refine mg [] rfl (by simp) ?_;exact Ab ⟨_,rfl,tV rfl,trivial⟩
def QO (c:Cse) (a b:Int):Option Ty:=match c.rows[a.toNat]?,c.rows[b.toNat]? with
 | some p,some q=>IM c p q
 | _,_=>none
theorem jF (c:Cse) (h:Bn c=true) (p q:Ty) (hp:p∈c.rows) (hq:q∈c.rows) :
  Bc Tryz.prog 57 [.imm (AL c (Bu (D7 c.datas))),.hv 1 0,.imm (.sl (Cg [(p,1),(q,1)]))] [(1,some (.hp (Hv (Aq c.type))))] (.ret (.imm (.agg (FM (IM c p q)))) [])/\∀v,IM c p q=some v->N3 c.datas c.type v:=by
 have ho:=OkW.of h;have hr:=RowsOk.of h;have hm:=MOk.of h;have w1:H1 c.datas c.type [(p,1),(q,1)]:=λx hx=>by
  rcases List.mem_cons.1 hx with rfl | hx
  ·exact hr.pat p hp
  ·rw [List.mem_singleton.1 hx];exact hr.pat q hq
 have w2:EF [(p,1),(q,1)]<60:=by
  have:=(hr.pat p hp).2.2;have:=(hr.pat q hq).2.2;simp [EF];omega
 obtain ⟨v1,v2⟩:=K7 ho (by omega) hm w1 w2;have hu:=Jm c.datas (Aq c.type) [(p,1),(q,1)];rw [show FT c.datas (Aq c.type) [(p,1),(q,1)]=IM c p q from rfl] at v1 v2;have hb:∀y∈[(p,(1:Int)),(q,1)],y.2=0\/y.2=1:=λy hy=>by
  rcases List.mem_cons.1 hy with rfl | hy
  ·exact .inr rfl
  ·rw [List.mem_singleton.1 hy];exact .inr rfl
 have hS:=RP c ho (CY h).2.2.1 60 60 0 (Nat.le_refl _) (Aq c.type) (Aq c.type) [(p,1),(q,1)] (IM c p q) (by omega) hm hm (Ev _ _) w1 hb (by simp) (by omega);exact ⟨hS v1,v2⟩
set_option maxHeartbeats 2000000 in
theorem TO (c:Cse) (a b:Int):Al Tryz.prog 19 [.agg (dCse c),.int .i64 a,.int .i64 b] (bif Bn c&&Cw c a&&Cw c b then KN (QO c a b) else .tup [.agg (dTyc zT),.int .i64 2]):=by
 have hW:=ES c;have hF:=GD (AL c (Bu (D7 c.datas))) c.type;have hT:=λrow=>Pr c row;have hT:∀row,Al Tryz.prog 67 [.agg (dCse c),.int .i64 row] (.bool (Cw c row)):=λrow=>hT row;cases hb:Bn c with
 | false =>
  rw [hb] at hW;obtain ⟨ds,⟨c1,c2,c3,c4⟩,rows⟩:=c;refine Ad Aj Tryz.func19 (by decide +kernel) rfl [1,2,3,4] rfl rfl ?_;refine mg [] rfl (by simp) ?_;refine Ac rfl (λ_=>hW) (by simp) ?_;refine mg [] rfl (by simp) ?_;refine Ac (v:=.bool true) rfl (λh=>by simp [Ah] at h) (by simp [Ah]) ?_;refine mg [] rfl (by simp) ?_;refine Ac (v:=.bool true) rfl (λh=>by simp [Ah] at h) (by simp [Ah]) ?_;refine mg [] rfl (by simp) ?_;refine Aa rfl (λh=>?_) (λh=>by simp at h);refine md [] rfl (by simp) ?_;exact Ab ⟨_,rfl,tV rfl,trivial⟩
 | true =>
 rw [hb] at hW;have ha:=hT a;have hbb:=hT b;cases hta:Cw c a with
 | false =>
  rw [hta] at ha;obtain ⟨ds,⟨c1,c2,c3,c4⟩,rows⟩:=c;refine Ad Aj Tryz.func19 (by decide +kernel) rfl [1,2,3,4] rfl rfl ?_;refine mg [] rfl (by simp) ?_;refine Ac rfl (λ_=>hW) (by simp) ?_;refine mg [] rfl (by simp) ?_;refine Ac rfl (λ_=>ha) (by simp [Ah]) ?_;refine mg [] rfl (by simp) ?_;refine Ac (v:=.bool true) rfl (λh=>by simp [Ah] at h) (by simp [Ah]) ?_;refine mg [] rfl (by simp) ?_;refine Aa rfl (λh=>?_) (λh=>by simp at h);refine md [] rfl (by simp) ?_;exact Ab ⟨_,rfl,tV rfl,trivial⟩
 | true =>
 rw [hta] at ha;cases htb:Cw c b with
 | false =>
  rw [htb] at hbb;obtain ⟨ds,⟨c1,c2,c3,c4⟩,rows⟩:=c;refine Ad Aj Tryz.func19 (by decide +kernel) rfl [1,2,3,4] rfl rfl ?_;refine mg [] rfl (by simp) ?_;refine Ac rfl (λ_=>hW) (by simp) ?_;refine mg [] rfl (by simp) ?_;refine Ac rfl (λ_=>ha) (by simp [Ah]) ?_;refine mg [] rfl (by simp) ?_;refine Ac rfl (λ_=>hbb) (by simp [Ah]) ?_;refine mg [] rfl (by simp) ?_;refine Aa rfl (λh=>?_) (λh=>by simp at h);refine md [] rfl (by simp) ?_;exact Ab ⟨_,rfl,tV rfl,trivial⟩
 | true =>
  rw [htb] at hbb;obtain ⟨r1,r2⟩:=K6 hta;obtain ⟨s1,s2⟩:=K6 htb;obtain ⟨p,hp⟩:=Am (l:=c.rows) (i:=a.toNat) (by omega);obtain ⟨q,hq⟩:=Am (l:=c.rows) (i:=b.toNat) (by omega);have er:QO c a b=IM c p q:=by simp only [QO,hp,hq]
  rw [er];obtain ⟨hL1,hL2⟩:=jF c hb p q (List.mem_of_getElem? hp) (List.mem_of_getElem? hq);have hFd:=Qz (IM c p q) λv hv=>(hL2 v hv).2.2;clear hL2 er;simp only [Bool.and_self,cond_true];obtain ⟨a1,a2,a3,a4,b0,hfe⟩:=Oe (IM c p q);rw [hfe] at hFd ⊢;generalize IM c p q=R at *;obtain ⟨ds,⟨c1,c2,c3,c4⟩,rows⟩:=c;simp only at hp hq;obtain ⟨p1,p2,p3,p4⟩:=p;obtain ⟨q1,q2,q3,q4⟩:=q;refine Ad Aj Tryz.func19 (by decide +kernel) rfl [1,2,3,4] rfl rfl ?_;refine mg [] rfl (by simp) ?_;refine Ac rfl (λ_=>hW) (by simp) ?_;refine mg [] rfl (by simp) ?_;refine Ac rfl (λ_=>ha) (by simp [Ah]) ?_;refine mg [] rfl (by simp) ?_;refine Ac rfl (λ_=>hbb) (by simp [Ah]) ?_;refine mg [] rfl (by simp) ?_
  refine Aa rfl (λh=>by simp at h) (λh=>?_);refine md [] rfl (by simp) ?_;refine Ce [] [(2,3)] [] (fr:=[3]) (nm:=[3]) rfl trivial (by simp) hF trivial rfl trivial rfl rfl rfl ?_;refine mg [] rfl (by simp) ?_;refine mi rfl (c:=dTyc (.mk p1 p2 p3 p4)) (λ_=>⟨r1,by simpa using At hp,by simp⟩) (by simp) ?_;refine mg [] rfl (by simp) ?_;refine mi rfl (c:=dTyc (.mk q1 q2 q3 q4)) (λ_=>⟨s1,by simpa using At hq,by simp⟩) (by simp) ?_;refine mg [] rfl (by simp) ?_;refine Ce [(3,1)] [] [] (fr:=[]) (nm:=[3]) rfl trivial (by simp) hL1 ⟨⟨rfl,rfl,rfl⟩,trivial⟩ rfl trivial rfl rfl rfl ?_;refine mg [] rfl (by simp) ?_;refine Ac rfl (λ_=>hFd) (by simp) ?_;refine mg [] rfl (by simp;rfl) ?_
  exact Ab ⟨_,rfl,tV rfl,trivial⟩
set_option maxHeartbeats 1000000 in
theorem XA (c:Cse):Al Tryz.prog 12 [.agg (dCse c)] (bif Bn c then .tup [.sl (Bu (Eu c c.rows.length)),.int .i64 0] else .tup [.sl [],.int .i64 2]):=by
 have hW:=ES c;have hF:=GD (AL c (Bu (D7 c.datas))) c.type;cases hb:Bn c with
 | false =>
  rw [hb] at hW;obtain ⟨ds,⟨c1,c2,c3,c4⟩,rows⟩:=c;refine Ad Aj Tryz.func12 (by decide +kernel) rfl [1,2,3,4] rfl rfl ?_;refine mg [] rfl (by simp) ?_;refine Ac rfl (λ_=>hW) (by simp) ?_;refine mg [] rfl (by simp) ?_;refine Aa rfl (λh=>?_) (λh=>by simp at h);refine md [] rfl (by simp) ?_;exact Ab ⟨_,rfl,tV rfl,trivial⟩
 | true =>
  rw [hb] at hW;have hl:=(RowsOk.of hb).len;have hU:=λrow h1 h2=>Lj c (Bu (D7 c.datas)) (RowsOk.of hb).len row h1 h2;have hL:=λrow=>(MU c hb 0 (by omega) _ _ (MOk.of hb) (MOk.of hb) (Ev _ _) row).1;have hst:∀i,Eu c (i+1)=Eu c i++(if (GR c (Aq c.type) i).isSome then [] else [(i:Int)]):=λi=>rfl;have hul:=N4 c;have h0:Eu c 0=[]:=rfl;simp only [cond_true];generalize Eu c=U at *;generalize GR c (Aq c.type)=L at *;obtain ⟨ds,⟨c1,c2,c3,c4⟩,rows⟩:=c;simp only at hl hst hU ⊢;refine Ad Aj Tryz.func12 (by decide +kernel) rfl [1,2,3,4,5,6] rfl rfl ?_;refine mg [] rfl (by simp) ?_;refine Ac rfl (λ_=>hW) (by simp) ?_;refine mg [] rfl (by simp) ?_;refine Aa rfl (λh=>by simp at h) (λh=>?_)
  refine md [] rfl (by simp) ?_;refine D4 (e:=3) (sz:=1) 6 2 (by decide) rfl ?_;have er:∀a b,Bu (a++b)=Bu a++Bu b:=λa b=>by simp [Bu]
  refine Ak (λi:Nat=>[(19,.imm (.int .i64 i)),(18,.imm (.int .i64 rows.length)),(6,.own 2 (Bu (U i)).length),(4,.imm (AL ⟨ds,.mk c1 c2 c3 c4,rows⟩ (Bu (D7 ds)))),(1,.ref 1 0)]) (λi=>[(1,some (.immb 29 6 (dCse ⟨ds,.mk c1 c2 c3 c4,rows⟩))),(2,some (.row 3 1 (Bu (U i))))]) [3,4,5,6] (λi=>rows.length-i)
   (λi=>i<=rows.length) 0 (Nat.zero_le _) ⟨rfl,As (by simp),by rw [h0];rfl,rfl,rfl,trivial⟩ ⟨rfl,by rw [h0];rfl,trivial⟩ rfl λi hi ih=>?_
  refine md [] rfl (by simp) ?_;refine Aa rfl (λh=>?_) (λh=>?_)
  ·simp at h;have hUi:=hU i (by omega) (by omega);have hLi:=hL i;have hih:=ih (i+1) (by omega) (by omega);rw [hst,er] at hih;have hll:(Bu (U i)).length<=5:=by have:=hul i;simp;omega
   generalize Bu (U i)=l at *;refine md [] rfl (by simp) ?_;refine Az (fr:=[3]) [] [(2,3)] rfl (by simp) hF trivial rfl rfl rfl rfl ?_;refine mg [] rfl (by simp) ?_;refine Ac rfl (λ_=>hUi) (by simp) ?_;refine mg [] rfl (by simp) ?_;refine Az (fr:=[]) [(3,1)] [] rfl (by simp) hLi ⟨⟨rfl,rfl,rfl⟩,trivial⟩ rfl rfl rfl rfl ?_;cases hLv:L i with
   | none =>
    rw [hLv] at hih;simp only [Option.isSome_none,Bool.false_eq_true,if_false] at hih;refine mg [] rfl (by simp) ?_;refine Aa rfl (λh=>?_) (λh=>by simp at h);refine md [] rfl (by simp) ?_;refine BR Aj rfl ⟨by simp,by simp [maxLen] at hll ⊢;omega,by simp at hll ⊢;omega,trivial⟩ ?_;refine mg [] rfl (by simp) ?_;refine A6 2 4 rfl ?_;exact Ae hih ⟨As (B9 (by omega) (by omega)),rfl,by simp only [List.length_append];rfl,rfl,rfl,trivial⟩ ⟨rfl,rfl,trivial⟩ rfl
   | some v =>
    rw [hLv] at hih;simp only [Option.isSome_some,if_true,show Bu []=[] from rfl,List.append_nil] at hih;obtain ⟨v1,v2,v3,v4⟩:=v;refine mg [] rfl (by simp) ?_;refine Aa rfl (λh=>by simp at h) (λh=>?_);refine md [] rfl (by simp) ?_;exact Ae hih ⟨As (B9 (by omega) (by omega)),rfl,rfl,rfl,rfl,trivial⟩ ⟨rfl,rfl,trivial⟩ rfl
  ·simp at h;refine Ar rfl ?_;refine BM 2 rfl ?_;refine md [] rfl (by simp) ?_;rw [show i=rows.length by omega];exact Ab ⟨_,rfl,tV rfl,trivial⟩
theorem grtW.of {c:Cse} (h:Bn c=true):grtW c.datas:=by
 simp only [Bn,H6,Bool.and_eq_true] at h;obtain ⟨h1,_⟩:=Ja h.1.1.1.1;intro d hd k hk;simp only [Hf,Bool.and_eq_true,List.all_eq_true] at h1;have hd:=h1.1.2 d hd;simp only [EC,Bool.and_eq_true,List.all_eq_true] at hd;have hk:=hd.2 k hk;simp only [J5,Bool.and_eq_true] at hk;exact hk.1.1
theorem iC {ds:List Dt} {t v:Ty} (h:HJ ds t v) (h1:Ai v<=20000) (h2:EB v<=100):Mt v=true:=by
 simp only [Mt,h.2,Bool.and_true,decide_eq_true_eq];exact (K1 v 20000 100).1.2 ⟨by omega,by omega⟩
theorem gQ {c:Cse} {v:Ty} (h1:Mt v=true) (h2:II c.datas c.type v=true):HJ c.datas c.type v:=by
 simp only [Mt,Bool.and_eq_true] at h1;exact ⟨h2,h1.2⟩
mutual
theorem KD:∀v:Ty,CK v=true->Do v=true
 | .mk s n x ps,h=>by
  simp only [CK,Bool.and_eq_true] at h;obtain ⟨h1,h2⟩:=h;simp only [Do,NN ps h1,Bool.and_true,decide_eq_true_eq];simp only [FN] at h2
  split at h2
  ·simp only [Bool.and_eq_true,EJ,decide_eq_true_eq] at h2;omega
  ·split at h2
   ·simp only [Bool.and_eq_true,EJ,decide_eq_true_eq] at h2;omega
   ·split at h2
    ·simp only [Bool.and_eq_true,beq_iff_eq] at h2;omega
    ·split at h2
     ·simp only [Bool.and_eq_true,beq_iff_eq] at h2;omega
     ·cases h2
theorem NN:∀l:List Ty,Cx l=true->Fj l=true
 | [],_=>rfl
 | t::r,h=>by
  simp only [Cx,Bool.and_eq_true] at h;simp only [Fj,KD t h.1,NN r h.2,Bool.and_self]
end
def Yw (c:Cse) (S:Ty->Prop) (r:Option Ty):Prop:=IL c.datas (λv=>HJ c.datas c.type v/\S v) r/\∀v,r=some v->Mt v=true/\II c.datas c.type v=true
theorem Tf {c:Cse} (h:Bn c=true) {l:List (Ty×Int)} (hr:H1 c.datas c.type l) (hb:∀y∈l,y.2=0\/y.2=1) (hc:EF l<60) (hn:IN (l.map (·.1))<=30):Yw c (R5 l) (FT c.datas (Aq c.type) l):=by
 have ho:=OkW.of h;have hm:=MOk.of h;have hnt:=UH c.datas c.type;obtain ⟨v1,v2⟩:=K7 ho (by omega) hm hr hc;have hmin:=Wq ho (grtW.of h) (CY h).2.2.1 60 0 _ l _ (by omega) hm hnt hr hb v1;refine ⟨Fh (λv=>by rw [LJ]) hmin,λv hv=>?_⟩;rw [hv] at v1 hmin;obtain ⟨b1,b2⟩:=Tg ho 60 0 _ l v (l.map (·.1)) (by omega) hm (SI _ _) (λx hx=>List.mem_map_of_mem hx) hr v1;have hok:=LJ.1 hmin.1.1;exact ⟨iC hok (by omega) (by omega),hok.1⟩
theorem X5 {c:Cse} (h:Bn c=true) {p q:Ty} (hp:p∈c.rows) (hq:q∈c.rows):Yw c (λv=>(AR p v).2=true/\(AR q v).2=true) (IM c p q):=by
 have hr:=RowsOk.of h;have hp3:=(hr.pat p hp).2.2;have hq3:=(hr.pat q hq).2.2;have w1:H1 c.datas c.type [(p,1),(q,1)]:=λx hx=>by
  rcases List.mem_cons.1 hx with rfl | hx
  ·exact hr.pat p hp
  ·rw [List.mem_singleton.1 hx];exact hr.pat q hq
 have hb:∀y∈[(p,(1:Int)),(q,1)],y.2=0\/y.2=1:=λy hy=>by
  rcases List.mem_cons.1 hy with rfl | hy
  ·exact .inr rfl
  ·rw [List.mem_singleton.1 hy];exact .inr rfl
 obtain ⟨f1,f2⟩:=Tf h w1 hb (by simp [EF];omega) (by have:=dM p;have:=dM q;simp only [List.map_cons,List.map_nil,IN];omega);refine ⟨Fh (λv=>?_) f1,f2⟩;simp only [Ms,iff_true];exact ⟨λ⟨a,b,d,_⟩=>⟨a,b,d⟩,λ⟨a,b,d⟩=>⟨a,b,d,Ua v⟩⟩
theorem Q0 (v:Ty):∀(rows:List Ty) (i:Nat),CE v i rows = -1\/(i:Int)<=CE v i rows
 | [],i=>.inl rfl
 | p::r,i=>by
  simp only [CE];cases (AR p v).2 with
  | true=>right;simp
  | false =>
   simp only [cond_false];rcases Q0 v r (i+1) with h | h
   ·exact .inl h
   ·right;omega
end Go.Hk
namespace Go.Hk
section
variable {P:Program} {n:Nat} {F:List Nat} {Q:DQ} {tt:TT} {env env':Env} {st st':St} {ids ids':List Nat} {k todo todo':List DI} {I:Imm} {μ:Mu} {w w':World} {a:Act}
theorem Hw:∀{ds:List D} {xs:List V},EV ds=some xs->ds.length=xs.length
 | [],xs,h=>by cases h;rfl
 | d::r,xs,h=>by
  unfold EV at h
  split at h
  ·rename_i e;cases e
  ·rename_i x r' e;cases e
   split at h
   ·rename_i ys hy;cases h;simp [Hw hy]
   ·cases h
  ·rename_i r' e;cases e
   split at h
   ·rename_i ys hy;cases h;simp [Hw hy]
   ·cases h
  ·cases h
theorem fH (k:Nat) {t:TypeId} {sz:Nat} {ds:List D} (xs:List V) (hk:lk st k=some (some (.cells t sz ds))) (hcl:EV ds=some xs) (h:DGo P n F Q todo env ((k,some (.immb t sz xs))::st) ids):DGo P n F Q todo env st ids:=by
 refine Du λI μ a w hc=>?_;obtain ⟨p1,p2⟩:=hc.toStRep.retell (st1:=(k,some (.immb t sz xs))::st) (λi bb hlb=>by
  rcases Aw.1 hlb with ⟨rfl,rfl⟩ | ⟨_,h2⟩
  ·refine ⟨_,hk,λgb hb=>?_⟩;obtain ⟨hs,b,us,e1,e2,e3,e4⟩:=hb;exact ⟨by rw [<- Hw hcl,hs],b,us,e1,e2,EU hcl e3,e4⟩
  ·exact ⟨bb,h2,λ_ h=>h⟩)
 exact ⟨I,μ,env,_,ids,p1,hc.env,p2,.refl _ _,h⟩
end
end Go.Hk
namespace Go.Hk
open Go.Proofs
def LG (row:Int):List V:=[.int .i64 row,.sl [],.sl [],.sl []]
@[simp] theorem leafV_length (row:Int):(LG row).length=4:=rfl
theorem Xi (row:Int):Al Tryz.prog 134 [.agg (LG row),.int .i64 400,.int .i64 100] (.int .i64 399):=by
 refine Ad Aj Tryz.func134 (by decide +kernel) rfl [1,2,3] rfl rfl ?_;refine mg [] rfl (by simp) ?_;refine Aa rfl (λh=>by simp at h) (λh=>?_);refine md [] rfl (by simp) ?_;refine Ak (λ_:Unit=>[(20,.imm (.int .i64 0)),(19,.imm (.int .i64 0)),(1,.imm (.int .i64 399))]) (λ_=>[]) [2,3] (λ_=>0) (λ_=>True) () trivial ⟨rfl,rfl,As rfl,trivial⟩ trivial rfl λ_ _ _=>?_;refine md [] rfl (by simp) ?_;refine Aa rfl (λh=>by simp at h) (λh=>?_);refine Ar rfl ?_;refine md [] rfl (by simp) ?_;exact Ab ⟨_,rfl,tV rfl,trivial⟩
theorem Wu (c:Cse) (sz:List (List V)) (row:Int) (m:Mi):Bc Tryz.prog 135 [.imm (AL c sz),.imm (.agg (LG row)),.hv 1 0] [(1,some (.hp (Hv m)))] (.ret (.imm (.bool (decide (-1<=row)&&decide (row<c.rows.length)))) []):=by
 obtain ⟨ds,⟨c1,c2,c3,c4⟩,rows⟩:=c;refine Ad Aj Tryz.func135 (by decide +kernel) rfl [2,3,4,5] rfl rfl ?_;refine md [] rfl (by simp) ?_;refine Aa rfl (λh=>?_) (λh=>by exfalso;simp at h;exact h (by decide));refine md [] rfl (by simp;rfl) ?_;refine Ab ⟨_,rfl,tV (congrArg _ ?_),trivial⟩;simp
theorem Ts (c:Cse) (hb:Bn c=true) (row:Int) (h1 : -1<=row) (h2:row<c.rows.length):Al Tryz.prog 87 [.agg (dCse c),.agg (LG row)] (.tup [AL c (Bu (D7 c.datas)),.int .i64 0]):=by
 have hW:=ES c;rw [hb] at hW;have hF:=GD (AL c (Bu (D7 c.datas))) c.type;have hH:=Xi row;have hR:=Wu c (Bu (D7 c.datas)) row (Aq c.type);rw [show (decide (-1<=row)&&decide (row<c.rows.length))=true by simp [h1,h2]] at hR;obtain ⟨ds,⟨c1,c2,c3,c4⟩,rows⟩:=c;refine Ad Aj Tryz.func87 (by decide +kernel) rfl [1,2,3,4] rfl rfl ?_;refine mg [] rfl (by simp) ?_;refine Ac rfl (λ_=>hW) (by simp) ?_;refine mg [] rfl (by simp) ?_;refine Ac rfl (λ_=>hH) (by simp [Ah]) ?_;refine mg [] rfl (by simp) ?_;refine Ce [] [(2,3)] [] (fr:=[3]) (nm:=[3]) rfl rfl (by simp [Ah]) hF trivial rfl trivial rfl rfl rfl ?_;refine mg [] rfl (by simp) ?_
 refine Ce [(3,1)] [] [] (fr:=[]) (nm:=[3]) rfl rfl (by simp [Ah]) hR ⟨⟨rfl,rfl,rfl⟩,trivial⟩ rfl trivial rfl rfl rfl ?_;refine mg [] rfl (by simp;rfl) ?_;refine Aa rfl (λh=>by simp at h) (λh=>?_);refine md [] rfl (by simp) ?_;exact Ab ⟨_,rfl,tV rfl,trivial⟩
def DL (c:Cse) (row:Int):Nat->Option Ty
 | 0=>none
 | k+1=>if (k:Int)-1=row then DL c row k else GZ c.datas (DL c row k) (GR c (Aq c.type) ((k:Int)-1))
theorem Lo {c:Cse} (h:Bn c=true) (row:Int):∀k v,DL c row k=some v->N3 c.datas c.type v
 | 0,v,hv=>by cases hv
 | k+1,v,hv=>by
  simp only [DL] at hv
  split at hv
  ·exact Lo h row k v hv
  ·rcases Td (ds:=c.datas) (DL c row k) (GR c (Aq c.type) ((k:Int)-1)) with e | e
   ·exact Lo h row k v (by rw [<- e];exact hv)
   ·exact (MU c h 0 (by omega) _ _ (MOk.of h) (MOk.of h) (Ev _ _) _).2 v (by rw [<- e];exact hv)
set_option maxHeartbeats 2000000 in
theorem VW (c:Cse) (hb:Bn c=true) (row:Int):Bc Tryz.prog 99 [.imm (AL c (Bu (D7 c.datas))),.imm (.agg (LG row)),.hv 1 0] [(1,some (.hp (Hv (Aq c.type))))] (.ret (.imm (.agg (FM (DL c row (c.rows.length+1))))) []):=by
 have hl:=(RowsOk.of hb).len;have hU:=λrow h1 h2=>Lj c (Bu (D7 c.datas)) (RowsOk.of hb).len row h1 h2;have hL:=λrow=>(MU c hb 0 (by omega) _ _ (MOk.of hb) (MOk.of hb) (Ev _ _) row).1;have hLv:=λrow=>(MU c hb 0 (by omega) _ _ (MOk.of hb) (MOk.of hb) (Ev _ _) row).2;have hcp:=λx=>OW c.datas 0 (by omega) (Aq c.type) x (MOk.of hb).wf;have hsv:=Lo hb row;have hso:=λa b ha hbb=>RJ c (Bu (D7 c.datas)) (OkW.of hb) (CY hb).2.2.1 a b ha hbb;have hok:∀v,N3 c.datas c.type v->Yd c v:=λv h=>PM rfl h;have hst:∀k,DL c row (k+1)=if (k:Int)-1=row then DL c row k else GZ c.datas (DL c row k) (GR c (Aq c.type) ((k:Int)-1)):=λk=>rfl
 have h0:DL c row 0=none:=rfl;generalize DL c row=S at *;generalize Aq c.type=fr at *;generalize GR c fr=L at *;obtain ⟨ds,⟨c1,c2,c3,c4⟩,rows⟩:=c;simp only at hl hU hst hsv hLv hso ⊢;refine Ad Aj Tryz.func99 (by decide +kernel) rfl [2,3,4,5,6,7,8,9,10] rfl rfl ?_;refine J0 1 2 (λob:Nat=>[ptr ob]) (λob=>AV fr ob) rfl (λvs I w bs h=>let ⟨ob,F,e1,e2,e3⟩:=h;⟨ob,e1,F,e2,e3⟩) λob=>?_;refine md [] rfl (by simp) ?_;refine Aa rfl (λh=>?_) (λh=>by exfalso;simp at h);refine md [] rfl (by simp) ?_;refine fH 5 [.int .i64 0,.int .i64 0,.str [],.sl [],.bool false] rfl rfl ?_
 refine Ak (λk:Nat=>[(8,.imm (.int .i64 ((k:Int)-1))),(7,.ref 5 0),(6,.ref 4 0),(4,.ref 3 0),(2,.raw (ptr ob)),(0,.imm (AL ⟨ds,.mk c1 c2 c3 c4,rows⟩ (Bu (D7 ds))))])
  (λk=>[(5,some (.immb 107 5 (FM (S k)))),(3,some (.immb 68 4 (LG row))),(4,some (.cells 107 5 [.imm (.int .i64 0),.imm (.int .i64 0),.imm (.str []),.nils,.imm (.bool false)])),(2,some (.hp (AV fr ob)))]) [6,7,8,9,10] (λk=>rows.length+1-k)
  (λk=>k<=rows.length+1) 0 (Nat.zero_le _) ⟨As (by simp),rfl,rfl,rfl,rfl,rfl,trivial⟩ ⟨by rw [h0];rfl,rfl,rfl,rfl,trivial⟩ rfl λk hk ih=>?_
 refine md [] rfl (by simp) ?_;refine Aa rfl (λh=>?_) (λh=>?_)
 ·have hlt:(k:Int)-1<rows.length:=by simpa using h
  have hih:=ih (k+1) (by omega) (by omega);have hrf:=Gy (S k);refine md [] rfl (by simp) ?_;by_cases e:(k:Int)-1=row
  ·refine Aa rfl (λh=>by exfalso;simp [e] at h) (λh=>?_);refine md [] rfl (by simp) ?_;rw [hst k,if_pos e] at hih;exact Ae hih ⟨As (by rw [B9 (by omega) (by omega)];omega),rfl,rfl,rfl,rfl,rfl,trivial⟩ ⟨rfl,rfl,rfl,rfl,trivial⟩ rfl
  ·refine Aa rfl (λh=>?_) (λh=>by exfalso;simp at h;exact e h);have hUi:=hU ((k:Int)-1) (by omega) hlt;have hLi:=hL ((k:Int)-1);have hsoi:=hso (S k) (L ((k:Int)-1)) (λv hv=>hok v (hsv k v hv)) (λv hv=>hok v (hLv _ v hv));rw [hst k,if_neg e] at hih;generalize L ((k:Int)-1)=Lk at *;generalize S k=Sk at *;generalize GZ ds Sk Lk=R at *;refine md [] rfl (by simp) ?_;refine Ce [(2,1)] [(3,6),(2,7)] [] (fr:=[6,7]) (nm:=[6,7,2]) rfl trivial (by simp) (hcp ob) ⟨⟨rfl,rfl,rfl⟩,trivial⟩ rfl trivial rfl rfl rfl ?_;refine mg [] rfl (by simp) ?_;refine Ac rfl (λ_=>hUi) (by simp) ?_;refine mg [] rfl (by simp) ?_
   refine Ce [(7,1)] [] [] (fr:=[]) (nm:=[7]) rfl trivial (by simp) hLi ⟨⟨rfl,rfl,rfl⟩,trivial⟩ rfl trivial rfl rfl rfl ?_;refine mg [] rfl (by simp) ?_;refine Ac rfl (λ_=>hsoi) (by simp) ?_;refine mg [] rfl (by simp;rfl) ?_;refine A6 6 2 rfl ?_;exact Ae hih ⟨As (by rw [B9 (by omega) (by omega)];omega),rfl,rfl,rfl,rfl,rfl,trivial⟩ ⟨rfl,rfl,rfl,rfl,trivial⟩ rfl
 ·have hlt:¬(k:Int)-1<rows.length:=by simpa using h
  have hrf:=Gy (S k);refine Ar rfl ?_;rw [show rows.length+1=k by omega];refine md [] rfl (by simp) ?_;exact Ab ⟨_,rfl,tV rfl,trivial⟩
set_option maxHeartbeats 1000000 in
theorem Oy (c:Cse) (hb:Bn c=true) (row:Int) (h1 : -1<=row) (h2:row<c.rows.length):Al Tryz.prog 50 [.agg (dCse c),.agg (LG row)] (.tup [.agg (dTyc ((DL c row (c.rows.length+1)).getD zT)),.int .i64 (if (DL c row (c.rows.length+1)).isSome then 7 else 0)]):=by
 have hP:=Ts c hb row h1 h2;have hF:=GD (AL c (Bu (D7 c.datas))) c.type;have hA:=VW c hb row;have hv:=Lo hb row (c.rows.length+1);generalize DL c row (c.rows.length+1)=R at *;cases R with
 | none =>
  obtain ⟨ds,⟨c1,c2,c3,c4⟩,rows⟩:=c;refine Ad Aj Tryz.func50 (by decide +kernel) rfl [1,2,3,4,5,6] rfl rfl ?_;refine mg [] rfl (by simp) ?_;refine Ac rfl (λ_=>hP) (by simp) ?_;refine mg [] rfl (by simp) ?_;refine Aa rfl (λh=>by simp at h) (λh=>?_);refine md [] rfl (by simp) ?_;refine Ce [] [(2,4)] [] (fr:=[4]) (nm:=[4]) rfl trivial (by simp) hF trivial rfl trivial rfl rfl rfl ?_;refine mg [] rfl (by simp) ?_;refine Ce [(4,1)] [] [] (fr:=[]) (nm:=[4]) rfl trivial (by simp) hA ⟨⟨rfl,rfl,rfl⟩,trivial⟩ rfl trivial rfl rfl rfl ?_;refine mg [] rfl (by simp;rfl) ?_;refine Aa rfl (λh=>?_) (λh=>by simp at h);refine md [] rfl (by simp) ?_;exact Ab ⟨_,rfl,tV rfl,trivial⟩
 | some v =>
  have hc:=IF v (hv v rfl).2.2;obtain ⟨v1,v2,v3,v4⟩:=v;obtain ⟨ds,⟨c1,c2,c3,c4⟩,rows⟩:=c;refine Ad Aj Tryz.func50 (by decide +kernel) rfl [1,2,3,4,5,6] rfl rfl ?_;refine mg [] rfl (by simp) ?_;refine Ac rfl (λ_=>hP) (by simp) ?_;refine mg [] rfl (by simp) ?_;refine Aa rfl (λh=>by simp at h) (λh=>?_);refine md [] rfl (by simp) ?_;refine Ce [] [(2,4)] [] (fr:=[4]) (nm:=[4]) rfl trivial (by simp) hF trivial rfl trivial rfl rfl rfl ?_;refine mg [] rfl (by simp) ?_;refine Ce [(4,1)] [] [] (fr:=[]) (nm:=[4]) rfl trivial (by simp) hA ⟨⟨rfl,rfl,rfl⟩,trivial⟩ rfl trivial rfl rfl rfl ?_;refine mg [] rfl (by simp;rfl) ?_;refine Aa rfl (λh=>by simp at h) (λh=>?_);refine md [] rfl (by simp) ?_
  refine Ac rfl (λ_=>hc) (by simp) ?_;refine mg [] rfl (by simp) ?_;exact Ab ⟨_,rfl,tV rfl,trivial⟩
def Lt:Str:=[84,114,101,101]
def Cu:Str:=[76,101,97,102]
def IX:Str:=[78,111,100,101]
def H0:Str:=[84,119,111]
def Ls:Str:=[86,111,105,100]
def lE:Str:=[79,112,116]
def XO:Str:=[78,111,110,101]
def jT:Str:=[83,111,109,101]
def O8 (s:Str):Ty:=.mk 8 0 s []
def Rw (s:Str) (l:List Ty):Ty:=.mk 6 0 s l
def DR (s:Str) (l:List Ty):Ty:=.mk 4 0 s l
def Mr:Ty:=.mk 1 0 [] []
def Zx (s:Str):Ty:=.mk 2 0 s []
def eE (n:Int):Ty:=.mk 3 n [] []
def Hx (n:Int):Ty:=.mk 4 n [] []
def ZM (n:Int):Ty:=.mk 1 n [] []
def FL (n:Int):Ty:=.mk 2 n [] []
def fP:Ty:=.mk 2 0 [] []
def cA:Cse:=⟨[⟨Lt,[⟨Cu,[]⟩,⟨IX,[O8 Lt,.mk 1 0 [] [],O8 Lt]⟩]⟩],O8 Lt,[Rw IX [Rw Cu [],eE 0,Zx [120]],Rw IX [Zx [121],eE 1,Mr],Rw Cu []]⟩
def cB:Cse:=⟨[⟨H0,[⟨H0,[fP,fP]⟩]⟩],O8 H0,[Rw H0 [Hx 1,Mr],Rw H0 [Mr,Hx 1],Rw H0 [Hx 0,Hx 0],Zx [122]]⟩
def cC:Cse:=⟨[⟨Ls,[⟨Ls,[O8 Ls]⟩]⟩,⟨lE,[⟨XO,[]⟩,⟨jT,[O8 Ls]⟩]⟩],O8 lE,[Rw XO []]⟩
def cD (l:List Ty):Cse:=⟨[],fP,l⟩
theorem Nh (s:Str) (l:List Ty):Al Tryz.prog 93 [.str s,.sl (Bq l)] (.agg (Ds ⟨s,l⟩)):=by
 refine Ad Aj Tryz.func93 (by decide +kernel) rfl [1,2,3] rfl rfl ?_;refine mg [] rfl (by simp) ?_;exact Ab ⟨_,rfl,tV rfl,trivial⟩
theorem GJ (s:Str):Al Tryz.prog 94 [.str s] (.agg (dTyc (O8 s))):=by
 refine Ad Aj Tryz.func94 (by decide +kernel) rfl [1,2,3] rfl rfl ?_;refine mg [] rfl (by simp) ?_;exact Ab ⟨_,rfl,tV rfl,trivial⟩
theorem Hq (s:Str) (l:List Ty):Al Tryz.prog 95 [.str s,.sl (Bq l)] (.agg (dTyc (Rw s l))):=by
 refine Ad Aj Tryz.func95 (by decide +kernel) rfl [1,2,3] rfl rfl ?_;refine mg [] rfl (by simp) ?_;exact Ab ⟨_,rfl,tV rfl,trivial⟩
theorem Fx (s:Str) (l:List Ty):Al Tryz.prog 45 [.str s,.sl (Bq l)] (.agg (dTyc (DR s l))):=by
 refine Ad Aj Tryz.func45 (by decide +kernel) rfl [1,2,3] rfl rfl ?_;refine mg [] rfl (by simp) ?_;exact Ab ⟨_,rfl,tV rfl,trivial⟩
theorem OE:Al Tryz.prog 53 [] (.agg (dTyc Mr)):=by
 refine Ad Aj Tryz.func53 (by decide +kernel) rfl [1,2,3] rfl rfl ?_;refine mg [] rfl (by simp) ?_;exact Ab ⟨_,rfl,tV rfl,trivial⟩
theorem PY (s:Str):Al Tryz.prog 97 [.str s] (.agg (dTyc (Zx s))):=by
 refine Ad Aj Tryz.func97 (by decide +kernel) rfl [1,2,3] rfl rfl ?_;refine mg [] rfl (by simp) ?_;exact Ab ⟨_,rfl,tV rfl,trivial⟩
theorem Sb (n:Int):Al Tryz.prog 96 [.int .i64 n] (.agg (dTyc (eE n))):=by
 refine Ad Aj Tryz.func96 (by decide +kernel) rfl [1,2,3] rfl rfl ?_;refine mg [] rfl (by simp) ?_;exact Ab ⟨_,rfl,tV rfl,trivial⟩
theorem HD (n:Int):Al Tryz.prog 52 [.int .i64 n] (.agg (dTyc (Hx n))):=by
 refine Ad Aj Tryz.func52 (by decide +kernel) rfl [1,2,3] rfl rfl ?_;refine mg [] rfl (by simp) ?_;exact Ab ⟨_,rfl,tV rfl,trivial⟩
theorem R3 (n:Int):Al Tryz.prog 46 [.int .i64 n] (.agg (dTyc (ZM n))):=by
 refine Ad Aj Tryz.func46 (by decide +kernel) rfl [1,2,3] rfl rfl ?_;refine mg [] rfl (by simp) ?_;exact Ab ⟨_,rfl,tV rfl,trivial⟩
theorem QP (n:Int):Al Tryz.prog 54 [.int .i64 n] (.agg (dTyc (FL n))):=by
 refine Ad Aj Tryz.func54 (by decide +kernel) rfl [1,2,3] rfl rfl ?_;refine mg [] rfl (by simp) ?_;exact Ab ⟨_,rfl,tV rfl,trivial⟩
theorem nW (l:List Ty):Al Tryz.prog 51 [.sl (Bq l)] (.agg (dCse (cD l))):=by
 refine Ad Aj Tryz.func51 (by decide +kernel) rfl [1,2,3] rfl rfl ?_;refine mg [] rfl (by simp) ?_;exact Ab ⟨_,rfl,tV rfl,trivial⟩
theorem jO:Al Tryz.prog 44 [] (.agg (dCse cA)):=by
 refine Ad Aj Tryz.func44 (by decide +kernel) rfl [1,2,3] rfl rfl ?_;refine mg [] rfl (by simp) ?_;refine Ac rfl (λ_=>Nh Cu []) (by simp) ?_;refine mg [] rfl (by simp) ?_;refine Ac rfl (λ_=>GJ Lt) (by simp) ?_;refine mg [] rfl (by simp) ?_;refine Ac rfl (λ_=>GJ Lt) (by simp) ?_;refine mg [] rfl (by simp) ?_;refine Ac rfl (λ_=>Nh IX [O8 Lt,.mk 1 0 [] [],O8 Lt]) (by simp) ?_;refine mg [] rfl (by simp) ?_;refine Ac rfl (λ_=>Hq Cu []) (by simp) ?_;refine mg [] rfl (by simp) ?_;refine Ac rfl (λ_=>Sb 0) (by simp) ?_;refine mg [] rfl (by simp) ?_;refine Ac rfl (λ_=>PY [120]) (by simp) ?_;refine mg [] rfl (by simp) ?_;refine Ac rfl (λ_=>Hq IX [Rw Cu [],eE 0,Zx [120]]) (by simp) ?_
 refine mg [] rfl (by simp) ?_;refine Ac rfl (λ_=>PY [121]) (by simp) ?_;refine mg [] rfl (by simp) ?_;refine Ac rfl (λ_=>Sb 1) (by simp) ?_;refine mg [] rfl (by simp) ?_;refine Ac rfl (λ_=>OE) (by simp) ?_;refine mg [] rfl (by simp) ?_;refine Ac rfl (λ_=>Hq IX [Zx [121],eE 1,Mr]) (by simp) ?_;refine mg [] rfl (by simp) ?_;refine Ac rfl (λ_=>Hq Cu []) (by simp) ?_;refine mg [] rfl (by simp) ?_;refine Ac rfl (λ_=>GJ Lt) (by simp) ?_;refine mg [] rfl (by simp;rfl) ?_;exact Ab ⟨_,rfl,tV rfl,trivial⟩
theorem jN:Al Tryz.prog 49 [] (.agg (dCse cB)):=by
 refine Ad Aj Tryz.func49 (by decide +kernel) rfl [1,2,3,4,5] rfl rfl ?_;refine mg [] rfl (by simp) ?_;refine Ac rfl (λ_=>HD 1) (by simp) ?_;refine mg [] rfl (by simp) ?_;refine Ac rfl (λ_=>OE) (by simp) ?_;refine mg [] rfl (by simp) ?_;refine Ac rfl (λ_=>Hq H0 [Hx 1,Mr]) (by simp) ?_;refine mg [] rfl (by simp) ?_;refine Ac rfl (λ_=>OE) (by simp) ?_;refine mg [] rfl (by simp) ?_;refine Ac rfl (λ_=>HD 1) (by simp) ?_;refine mg [] rfl (by simp) ?_;refine Ac rfl (λ_=>Hq H0 [Mr,Hx 1]) (by simp) ?_;refine mg [] rfl (by simp) ?_;refine Ac rfl (λ_=>HD 0) (by simp) ?_;refine mg [] rfl (by simp) ?_;refine Ac rfl (λ_=>HD 0) (by simp) ?_;refine mg [] rfl (by simp) ?_
 refine Ac rfl (λ_=>Hq H0 [Hx 0,Hx 0]) (by simp) ?_;refine mg [] rfl (by simp) ?_;refine Ac rfl (λ_=>PY [122]) (by simp) ?_;refine mg [] rfl (by simp) ?_;refine Ac rfl (λ_=>Nh H0 [fP,fP]) (by simp) ?_;refine mg [] rfl (by simp) ?_;refine Ac rfl (λ_=>GJ H0) (by simp) ?_;refine mg [] rfl (by simp) ?_;exact Ab ⟨_,rfl,tV rfl,trivial⟩
theorem C_ok:Al Tryz.prog 48 [] (.agg (dCse cC)):=by
 refine Ad Aj Tryz.func48 (by decide +kernel) rfl [1,2,3,4,5] rfl rfl ?_;refine mg [] rfl (by simp) ?_;refine Ac rfl (λ_=>GJ Ls) (by simp) ?_;refine mg [] rfl (by simp) ?_;refine Ac rfl (λ_=>Nh Ls [O8 Ls]) (by simp) ?_;refine mg [] rfl (by simp) ?_;refine Ac rfl (λ_=>Nh XO []) (by simp) ?_;refine mg [] rfl (by simp) ?_;refine Ac rfl (λ_=>GJ Ls) (by simp) ?_;refine mg [] rfl (by simp) ?_;refine Ac rfl (λ_=>Nh jT [O8 Ls]) (by simp) ?_;refine mg [] rfl (by simp) ?_;refine Ac rfl (λ_=>GJ lE) (by simp) ?_;refine mg [] rfl (by simp) ?_;refine Ac rfl (λ_=>Hq XO []) (by simp) ?_;refine mg [] rfl (by simp;rfl) ?_;exact Ab ⟨_,rfl,tV rfl,trivial⟩
def vA:Ty:=DR IX [DR Cu [],ZM 0,DR Cu []]
def wA:Ty:=DR IX [DR Cu [],ZM (-1),DR Cu []]
set_option maxRecDepth 100000
theorem kcA:Bn cA=true:=by kernel_rfl
theorem oC:Bn cB=true:=by kernel_rfl
theorem kcC:Bn cC=true:=by kernel_rfl
theorem kcD:Bn (cD [Hx 1,Hx 0])=true:=by kernel_rfl
theorem kcW:Bn (cD [Mr])=true:=by kernel_rfl
theorem lN:Al Tryz.prog 24 [.agg (dCse cA),.int .i64 0,.agg (dTyc vA)] (.tup [.sl [.str [120]::dTyc (DR Cu [])],.int .i64 0]):=by
 have h:=SR cA 0 vA (by decide);rw [show MP cA 0 vA=([([120],DR Cu [])],0) by kernel_rfl] at h;exact h
theorem lO:Al Tryz.prog 47 [.agg (dCse cA),.agg (dTyc (DR Cu []))] (.tup [.int .i64 2,.int .i64 0]):=by
 have h:=SU cA (DR Cu []);rw [show D6 cA (DR Cu [])=true by kernel_rfl,show CE (DR Cu []) 0 cA.rows=2 by kernel_rfl] at h;exact h
theorem lM:Al Tryz.prog 11 [.agg (dCse cA)] (.tup [.agg (dTyc wA),.int .i64 0]):=by
 have h:=QZ cA;rw [kcA,show GR cA (Aq cA.type) (-1)=some wA by kernel_rfl] at h;exact h
theorem lL:Al Tryz.prog 11 [.agg (dCse cC)] (.tup [.agg (dTyc zT),.int .i64 5]):=by
 have h:=QZ cC;rw [kcC,show GR cC (Aq cC.type) (-1)=none by kernel_rfl] at h;exact h
theorem nA:Al Tryz.prog 18 [.agg (dCse cB),.int .i64 1] (.tup [.agg (dTyc (DR H0 [FL 0,FL 1])),.int .i64 0]):=by
 have h:=SQ cB 1;rw [oC,show Cw cB 1=true by kernel_rfl,show GR cB (Aq cB.type) 1=some (DR H0 [FL 0,FL 1]) by kernel_rfl] at h;exact h
theorem mZ:Al Tryz.prog 18 [.agg (dCse cB),.int .i64 3] (.tup [.agg (dTyc zT),.int .i64 5]):=by
 have h:=SQ cB 3;rw [oC,show Cw cB 3=true by kernel_rfl,show GR cB (Aq cB.type) 3=none by kernel_rfl] at h;exact h
theorem kUse:Al Tryz.prog 12 [.agg (dCse cB)] (.tup [.sl [[.int .i64 3]],.int .i64 0]):=by
 have h:=XA cB;rw [oC,show Eu cB cB.rows.length=[3] by kernel_rfl] at h;exact h
theorem lP:Al Tryz.prog 19 [.agg (dCse cB),.int .i64 0,.int .i64 1] (.tup [.agg (dTyc (DR H0 [FL 1,FL 1])),.int .i64 0]):=by
 have h:=TO cB 0 1;rw [oC,show Cw cB 0=true by kernel_rfl,show Cw cB 1=true by kernel_rfl,show QO cB 0 1=some (DR H0 [FL 1,FL 1]) by kernel_rfl] at h;exact h
theorem lQ:Al Tryz.prog 19 [.agg (dCse cA),.int .i64 0,.int .i64 1] (.tup [.agg (dTyc zT),.int .i64 5]):=by
 have h:=TO cA 0 1;rw [kcA,show Cw cA 0=true by kernel_rfl,show Cw cA 1=true by kernel_rfl,show QO cA 0 1=none by kernel_rfl] at h;exact h
theorem nB:Al Tryz.prog 50 [.agg (dCse (cD [Hx 1,Hx 0])),.agg (LG 1)] (.tup [.agg (dTyc (FL 1)),.int .i64 7]):=by
 have h:=Oy (cD [Hx 1,Hx 0]) kcD 1 (by decide) (by decide);rw [show DL (cD [Hx 1,Hx 0]) 1 ((cD [Hx 1,Hx 0]).rows.length+1)=some (FL 1) by kernel_rfl] at h;exact h
theorem nC:Al Tryz.prog 50 [.agg (dCse (cD [Mr])),.agg (LG 0)] (.tup [.agg (dTyc zT),.int .i64 0]):=by
 have h:=Oy (cD [Mr]) kcW 0 (by decide) (by decide);rw [show DL (cD [Mr]) 0 ((cD [Mr]).rows.length+1)=none by kernel_rfl] at h;exact h
theorem Vc (a b:Ty) (h:XN a b=true):Al Tryz.prog 38 [.agg (dTyc a),.agg (dTyc b)] (.bool true):=by
 have:=We a b;rw [h] at this;exact this
set_option maxHeartbeats 2000000 in
theorem ZA:Al Tryz.prog 10 [] (.bool true):=by
 refine Ad Aj Tryz.func10 (by decide +kernel) rfl [1,2,3,4,5,6,7,8,9,10,11,12] rfl rfl ?_;refine mg [] rfl (by simp) ?_;refine Ac rfl (λ_=>jO) (by simp) ?_;refine mg [] rfl (by simp) ?_;refine Ac rfl (λ_=>Fx Cu []) (by simp) ?_;refine mg [] rfl (by simp) ?_;refine Ac rfl (λ_=>R3 0) (by simp) ?_;refine mg [] rfl (by simp) ?_;refine Ac rfl (λ_=>Fx Cu []) (by simp) ?_;refine mg [] rfl (by simp) ?_;refine Ac rfl (λ_=>Fx IX [DR Cu [],ZM 0,DR Cu []]) (by simp) ?_;refine mg [] rfl (by simp) ?_;refine Ac rfl (λ_=>lN) (by simp) ?_;refine mg [] rfl (by simp) ?_;refine Ac rfl (λ_=>jO) (by simp) ?_;refine mg [] rfl (by simp) ?_;refine Ac rfl (λ_=>Fx Cu []) (by simp) ?_;refine mg [] rfl (by simp) ?_
 refine Ac rfl (λ_=>lO) (by simp) ?_;refine mg [] rfl (by simp) ?_;refine Ac rfl (λ_=>jO) (by simp) ?_;refine mg [] rfl (by simp) ?_;refine Ac rfl (λ_=>lM) (by simp) ?_;refine mg [] rfl (by simp) ?_;refine Ac rfl (λ_=>C_ok) (by simp) ?_;refine mg [] rfl (by simp) ?_;refine Ac rfl (λ_=>lL) (by simp) ?_;refine mg [] rfl (by simp) ?_;refine Ac rfl (λ_=>jN) (by simp) ?_;refine mg [] rfl (by simp) ?_;refine Ac rfl (λ_=>nA) (by simp) ?_;refine mg [] rfl (by simp) ?_;refine Ac rfl (λ_=>jN) (by simp) ?_;refine mg [] rfl (by simp) ?_;refine Ac rfl (λ_=>mZ) (by simp) ?_;refine mg [] rfl (by simp) ?_;refine Ac rfl (λ_=>jN) (by simp) ?_;refine mg [] rfl (by simp) ?_;refine Ac rfl (λ_=>kUse) (by simp) ?_
 refine mg [] rfl (by simp) ?_;refine Ac rfl (λ_=>jN) (by simp) ?_;refine mg [] rfl (by simp) ?_;refine Ac rfl (λ_=>lP) (by simp) ?_;refine mg [] rfl (by simp) ?_;refine Ac rfl (λ_=>jO) (by simp) ?_;refine mg [] rfl (by simp) ?_;refine Ac rfl (λ_=>lQ) (by simp) ?_;refine mg [] rfl (by simp) ?_;refine Ac rfl (λ_=>HD 1) (by simp) ?_;refine mg [] rfl (by simp) ?_;refine Ac rfl (λ_=>HD 0) (by simp) ?_;refine mg [] rfl (by simp) ?_;refine Ac rfl (λ_=>nW [Hx 1,Hx 0]) (by simp) ?_;refine mg [] rfl (by simp) ?_;refine Ac rfl (λ_=>nB) (by simp) ?_;refine mg [] rfl (by simp) ?_;refine Ac rfl (λ_=>OE) (by simp) ?_;refine mg [] rfl (by simp) ?_;refine Ac rfl (λ_=>nW [Mr]) (by simp) ?_
 refine mg [] rfl (by simp) ?_;refine Ac rfl (λ_=>nC) (by simp) ?_;refine mg [] rfl (by simp) ?_;refine Aa rfl (λh=>by simp at h) (λh=>?_);refine md [] rfl (by simp) ?_;refine mi rfl (c:=.str [120]::dTyc (DR Cu [])) (λ_=>⟨by simp,rfl,rfl⟩) (by simp [Ah]) ?_;refine mg [] rfl (by simp) ?_;refine mi rfl (c:=.str [120]::dTyc (DR Cu [])) (λ_=>⟨by simp,rfl,rfl⟩) (by simp [Ah]) ?_;refine mg [] rfl (by simp) ?_;refine Ac rfl (λ_=>Fx Cu []) (by simp) ?_;refine mg [] rfl (by simp) ?_;refine Ac rfl (λ_=>Vc (DR Cu []) (DR Cu []) rfl) (by simp [Ah]) ?_;refine mg [] rfl (by simp) ?_;refine mi rfl (c:=[.int .i64 3]) (λ_=>⟨by simp,rfl,rfl⟩) (by simp [Ah]) ?_;refine mg [] rfl (by simp;rfl) ?_
 refine Aa rfl (λh=>by simp at h) (λh=>?_);refine md [] rfl (by simp) ?_;refine Ac rfl (λ_=>Fx Cu []) (by simp) ?_;refine mg [] rfl (by simp) ?_;refine Ac rfl (λ_=>R3 (-1)) (by simp) ?_;refine mg [] rfl (by simp) ?_;refine Ac rfl (λ_=>Fx Cu []) (by simp) ?_;refine mg [] rfl (by simp) ?_;refine Ac rfl (λ_=>Fx IX [DR Cu [],ZM (-1),DR Cu []]) (by simp) ?_;refine mg [] rfl (by simp) ?_;refine Ac rfl (λ_=>Vc wA (DR IX [DR Cu [],ZM (-1),DR Cu []]) rfl) (by simp) ?_;refine mg [] rfl (by simp) ?_;refine Ac rfl (λ_=>QP 0) (by simp) ?_;refine mg [] rfl (by simp) ?_;refine Ac rfl (λ_=>QP 1) (by simp) ?_;refine mg [] rfl (by simp) ?_;refine Ac rfl (λ_=>Fx H0 [FL 0,FL 1]) (by simp [Ah]) ?_
 refine mg [] rfl (by simp) ?_;refine Ac rfl (λ_=>Vc (DR H0 [FL 0,FL 1]) (DR H0 [FL 0,FL 1]) rfl) (by simp [Ah]) ?_;refine mg [] rfl (by simp) ?_;refine Ac rfl (λ_=>QP 1) (by simp) ?_;refine mg [] rfl (by simp) ?_;refine Ac rfl (λ_=>QP 1) (by simp) ?_;refine mg [] rfl (by simp) ?_;refine Ac rfl (λ_=>Fx H0 [FL 1,FL 1]) (by simp [Ah]) ?_;refine mg [] rfl (by simp) ?_;refine Ac rfl (λ_=>Vc (DR H0 [FL 1,FL 1]) (DR H0 [FL 1,FL 1]) rfl) (by simp [Ah]) ?_;refine mg [] rfl (by simp) ?_;refine Ac rfl (λ_=>QP 1) (by simp) ?_;refine mg [] rfl (by simp) ?_;refine Ac rfl (λ_=>Vc (FL 1) (FL 1) rfl) (by simp [Ah]) ?_;refine mg [] rfl (by simp;rfl) ?_;exact Ab ⟨_,rfl,tV rfl,trivial⟩
end Go.Hk
namespace Go.Hk
open Go.Proofs
theorem W5 (c:Cse) (v:Ty):Al Tryz.prog 25 [.agg (dCse c),.agg (dTyc v)] (.bool (decide (0<=Bw v 20000 100)&&HV c v)):=by
 have hW:=Kc v 20000 100 (by decide) (by decide) (by decide) (by decide);have hF:=Yy c v;generalize Bw v 20000 100=w at *;generalize HV c v=b at *;obtain ⟨ds,⟨c1,c2,c3,c4⟩,rows⟩:=c;obtain ⟨s,n,x,ps⟩:=v;refine Ad Aj Tryz.func25 (by decide +kernel) rfl [1,2,3] rfl rfl ?_;refine mg [] rfl (by simp) ?_;refine Ac rfl (λ_=>hW) (by simp) ?_;refine mg [] rfl (by simp [Ah]) ?_;refine Ac rfl (λ_=>hF) (by simp [Ah]) ?_;refine mg [] rfl (by simp [Ah]) ?_;refine Ab ⟨_,rfl,tV (congrArg _ ?_),trivial⟩;by_cases h:0<=w <;> simp [h]
theorem ZQ (c:Cse) (v:Ty):Al Tryz.prog 23 [.agg (dCse c),.agg (dTyc v)] (.bool (M6 c&&(I0 v&&HV c v))):=by
 have hS:=YX c;have hL:=Z4 v;have hF:=Yy c v;generalize M6 c=b1 at *;generalize I0 v=b2 at *;generalize HV c v=b3 at *;obtain ⟨ds,⟨c1,c2,c3,c4⟩,rows⟩:=c;obtain ⟨s,n,x,ps⟩:=v;refine Ad Aj Tryz.func23 (by decide +kernel) rfl [1,2,3] rfl rfl ?_;refine mg [] rfl (by simp) ?_;refine Ac rfl (λ_=>hS) (by simp) ?_;refine mg [] rfl (by simp [Ah]) ?_;refine Ac rfl (λ_=>hL) (by simp [Ah]) ?_;refine mg [] rfl (by simp [Ah]) ?_;refine Ac rfl (λ_=>hF) (by simp [Ah]) ?_;refine mg [] rfl (by simp [Ah]) ?_;refine Ab ⟨_,rfl,tV (congrArg _ ?_),trivial⟩;cases b1 <;> cases b2 <;> cases b3 <;> rfl
theorem XB (l:List Ty) (hne:l≠[]) (hl:l.length<=1000000):Bc Tryz.prog 27 [.imm (.sl (Bq l))] [] (.ret (.own 2 (Bq l).length) [(2,some (.row 62 4 (Bq l)))]):=by
 have hs:∀c∈Bq l,c.length=4:=λc hc=>by rw [C0] at hc;obtain ⟨t,_,rfl⟩:=List.mem_map.1 hc;simp
 have hl:(Bq l).length<=1000000:=by simpa using hl
 have hn:Bq l≠[]:=λe=>hne (by rw [C0] at e;simpa using e);generalize Bq l=es at *;refine Ad Aj Tryz.func27 (by decide +kernel) rfl [2,1] rfl rfl ?_;refine mg [] rfl (by simp) ?_;refine Nd Aj rfl λb hb=>?_;have hb:b=false:=hb hn;subst hb;refine md [] rfl (by simp) ?_;refine Aa rfl (λh=>by simp at h) (λh=>?_);refine md [] rfl (by simp) ?_;refine BR Aj rfl ⟨hs,by simp only [maxLen,List.length_nil] at *;omega,by simp only [List.length_nil] at *;omega,λc hc=>by simp at hc,hn⟩ ?_;refine mg [] rfl (by simp) ?_;exact Ab ⟨_,rfl,rfl,rfl,trivial⟩
def Kl (k:Nat) (a:Int):Int:=if a=k then k+1 else if a=k+1 then k else a
theorem Pu (v p q:Ty) (B:List Ty) (h:¬((AR p v).2=true/\(AR q v).2=true)):∀(A:List Ty) (i:Nat),CE v i (A++q::p::B)=Kl (i+A.length) (CE v i (A++p::q::B))
 | [],i=>by
  have hf:=Q0 v B (i+1+1);simp only [List.nil_append,CE,List.length_nil,Kl];cases hp:(AR p v).2 <;> cases hq:(AR q v).2
  ·simp only [cond_false];rw [if_neg (by omega),if_neg (by omega)]
  ·simp only [cond_true,cond_false];rw [if_neg (by omega),if_pos (by omega)];omega
  ·simp only [cond_true,cond_false];rw [if_pos (by omega)];omega
  ·exact absurd ⟨hp,hq⟩ h
 | x::A,i=>by
  have ih:=Pu v p q B h A (i+1);simp only [List.cons_append,CE,List.length_cons];cases (AR x v).2 with
  | true =>
   simp only [cond_true,Kl];rw [if_neg (by omega),if_neg (by omega)]
  | false =>
   simp only [cond_false];rw [ih,show i+1+A.length=i+(A.length+1) by omega]
def Gp (l:List Ty) (n:Nat) (p q:Ty):List Ty:=(l.set n q).set (n+1) p
theorem Pl {l:List Ty} {n:Nat} {p q:Ty} (hp:l[n]?=some p) (hq:l[n+1]?=some q):l=l.take n++p::q::l.drop (n+2)/\Gp l n p q=l.take n++q::p::l.drop (n+2):=by
 have h1:l=l.take n++p::q::l.drop (n+2):=by
  have e1:=An hp;have e2:=An hq;have e3:=List.take_append_drop n l;rw [e1,e2] at e3;exact e3.symm
 refine ⟨h1,?_⟩;have hn:=(List.getElem?_eq_some_iff.1 hq).1;have ht:(l.take n).length=n:=by rw [List.length_take];omega
 have:∀A B:List Ty,A.length=n->Gp (A++p::q::B) n p q=A++q::p::B:=λA B hA=>by
  subst hA;simp only [Gp];rw [List.set_append_right _ _ (by omega),Nat.sub_self,List.set_cons_zero,List.set_append_right _ _ (by omega)];simp
 conv=>lhs;rw [h1]
 exact this _ _ ht
theorem YP {c:Cse} {n:Nat} {p q:Ty} (hp:c.rows[n]?=some p) (hq:c.rows[n+1]?=some q):Bn ⟨c.datas,c.type,Gp c.rows n p q⟩=Bn c:=by
 obtain ⟨h1,h2⟩:=Pl hp hq;have hl:(Gp c.rows n p q).length=c.rows.length:=by simp [Gp]
 have hn:Ag (Gp c.rows n p q)=Ag c.rows:=by
  rw [h2]
  conv=>rhs;rw [h1]
  simp only [Bj,Ag];omega
 have ha:(Gp c.rows n p q).all (IH c)=c.rows.all (IH c):=by
  rw [h2]
  conv=>rhs;rw [h1]
  simp only [List.all_append,List.all_cons];cases IH c p <;> cases IH c q <;> simp
 have hr:IH ⟨c.datas,c.type,Gp c.rows n p q⟩=IH c:=rfl;simp only [Bn,H6,hl,hn,hr,ha]
theorem Ix {c:Cse} {v:Ty} {n:Nat} {p:Ty} (ha:D6 c v=true) (hp:c.rows[n]?=some p) (hN:Ai v<=1000000):∃L,Al Tryz.prog 24 [.agg (dCse c),.int .i64 n,.agg (dTyc v)] (.tup [.sl (BV L),.int .i64 (if (AR p v).2=true then 0 else 5)]):=by
 have h:=SR c n v hN;have ht:Cw c n=true:=by
  have:=(List.getElem?_eq_some_iff.1 hp).1;simp [Cw];omega
 have e:MP c n v=bif (AR p v).2 then ((AR p v).1,0) else ([],5):=by
  simp only [MP,ha,ht,Bool.and_self,cond_true,Int.toNat_natCast,hp]
 rw [e] at h;cases hm:(AR p v).2 with
 | true=>rw [hm] at h;exact ⟨_,h⟩
 | false=>rw [hm] at h;exact ⟨_,h⟩
theorem KO {c:Cse} {v:Ty} (h1:Bn c=true) (h2:Mt v=true) (h3:II c.datas c.type v=true):D6 c v=true/\HV c v=true:=by
 rw [aK];simp only [HV,<- Nn,h1,h2,h3,Bool.and_self,and_self]
set_option maxHeartbeats 4000000 in
theorem CoverTurned_of (c:Cse) (n:Int) (v:Ty):Al Tryz.prog 5 [.agg (dCse c),.int .i64 n,.agg (dTyc v)] (.bool true):=by
 have hG:=ZQ c v;have hk:=ZA;by_cases hgo:(M6 c&&(I0 v&&HV c v))=true/\0<=n/\n<(c.rows.length:Int)-1
 case neg =>
  generalize (M6 c&&(I0 v&&HV c v))=g at *;obtain ⟨ds,⟨c1,c2,c3,c4⟩,rows⟩:=c;obtain ⟨g1,m,z,vs⟩:=v;simp only at hgo;refine AF λhv=>?_;simp [Ca,Ee,dTyc,dCse,maxLen] at hv;refine Ad Aj Tryz.func5 (by decide +kernel) rfl [1,2,3] rfl rfl ?_;refine mg [] rfl (by simp) ?_;refine Ac rfl (λ_=>hG) (by simp) ?_;refine mg [] rfl (by simp) ?_;refine Aa rfl (λh=>?_) (λh=>?_)
  ·refine md [] rfl (by simp) ?_;refine Ac rfl (λ_=>hk) (by simp) ?_;refine mg [] rfl (by simp) ?_;exact Ab ⟨_,rfl,tV rfl,trivial⟩
  ·exfalso;simp at h;rw [B9 (by omega) (by omega)] at h;exact hgo ⟨h.1.1,h.1.2,h.2⟩
 obtain ⟨hg,hn0,hn1⟩:=hgo;obtain ⟨k,rfl⟩:∃k:Nat,n=k:=⟨n.toNat,by omega⟩
 rw [hg] at hG;simp only [Bool.and_eq_true] at hg;obtain ⟨_,hlit,hfin⟩:=hg;have hN:=T1 hlit;have hfin':=hfin;simp only [HV,<- Nn,Bool.and_eq_true] at hfin';obtain ⟨⟨hc2,hval⟩,hof⟩:=hfin';have hlen:=(RowsOk.of hc2).len;obtain ⟨p,hp⟩:=Am (l:=c.rows) (i:=k) (by omega);obtain ⟨q,hq⟩:=Am (l:=c.rows) (i:=k+1) (by omega);have ho:=OkW.of hc2;have hnm:=(CY hc2).2.2.1;have ew:IntKind.i64.wrap ((k:Int)+1)=((k+1:Nat):Int):=by rw [B9 (by omega) (by omega)];omega
 have hask:=(KO hc2 hval hof).1;obtain ⟨L1,hm1⟩:=Ix hask hp (by omega);obtain ⟨L2,hm2⟩:=Ix hask hq (by omega);have hvT:=gQ hval hof;have hB:=TO c k ((k+1:Nat):Int);have hth:Cw c k=true/\Cw c ((k+1:Nat):Int)=true:=by simp only [Cw,Bool.and_eq_true,decide_eq_true_eq];omega
 rw [hc2,hth.1,hth.2] at hB;have er:QO c k ((k+1:Nat):Int)=IM c p q:=by simp only [QO,Int.toNat_natCast,hp,hq]
 rw [er] at hB;simp only [Bool.and_self,cond_true] at hB;obtain ⟨f1,f2⟩:=X5 hc2 (List.mem_of_getElem? hp) (List.mem_of_getElem? hq);generalize IM c p q=R at *;rw [<- ew] at hB hm2;cases R with
 | some w =>
  obtain ⟨⟨hwT,hwp,hwq⟩,hmin⟩:=f1;obtain ⟨hwv,hwo⟩:=f2 w rfl;have hwa:=KO hc2 hwv hwo;have hww:decide (0<=Bw w 20000 100)=true:=by simp only [Mt,Bool.and_eq_true] at hwv;exact hwv.1
  have hwn:Ai w<=20000:=by have:=((K1 w 20000 100).1.1 (of_decide_eq_true hww)).1;omega
  have hPr:=W5 c w;rw [hww,hwa.2] at hPr;have hBf:=XE c ho v w hnm hof hwo (KD v hvT.2) (KD w hwT.2) (by omega) (by omega);obtain ⟨M1,hw1⟩:=Ix hwa.1 hp (by omega);obtain ⟨M2,hw2⟩:=Ix hwa.1 hq (by omega);rw [hwp] at hw1;rw [hwq] at hw2;rw [<- ew] at hw2;have hmb:=λh=>hmin v ⟨hvT,h⟩;clear hmin f2 hwT hwp hwq hp hq;generalize BY c.datas v w=bf at *;generalize (AR p v).2=b1 at *;generalize (AR q v).2=b2 at *;obtain ⟨ds,⟨c1,c2,c3,c4⟩,rows⟩:=c;obtain ⟨g1,m,z,vs⟩:=v;obtain ⟨w1,w2,w3,w4⟩:=w;simp only at hn1 hlen;refine Ad Aj Tryz.func5 (by decide +kernel) rfl [1,2,3,4,5] rfl rfl ?_;refine mg [] rfl (by simp) ?_;refine Ac rfl (λ_=>hG) (by simp) ?_;refine mg [] rfl (by simp) ?_
  refine Aa rfl (λh=>by exfalso;simp at h;rw [B9 (by omega) (by omega)] at h;omega) (λh=>?_);clear h;refine md [] rfl (by simp) ?_;refine Ac rfl (λ_=>hB) (by simp) ?_;refine mg [] rfl (by simp) ?_;refine Ac rfl (λ_=>hm1) (by simp) ?_;refine mg [] rfl (by simp) ?_;refine Ac rfl (λ_=>hm2) (by simp) ?_;refine mg [] rfl (by simp) ?_;by_cases hbb:b1=true/\b2=true
  ·obtain ⟨rfl,rfl⟩:=hbb;have hmb:=hmb ⟨rfl,rfl⟩;subst hmb;refine Aa rfl (λh=>?_) (λh=>by simp at h);refine md [] rfl (by simp) ?_;refine Ac rfl (λ_=>hPr) (by simp [Ah]) ?_;refine mg [] rfl (by simp) ?_;refine Ac rfl (λ_=>hBf) (by simp [Ah]) ?_;refine mg [] rfl (by simp) ?_;refine Ac rfl (λ_=>hk) (by simp) ?_;refine mg [] rfl (by simp) ?_;exact Ab ⟨_,rfl,tV rfl,trivial⟩
  ·refine Aa rfl (λh=>by exfalso;apply hbb;cases b1 <;> cases b2 <;> simp_all) (λh=>?_);clear h;refine md [] rfl (by simp) ?_;refine Aa rfl (λh=>?_) (λh=>by simp at h);refine md [] rfl (by simp) ?_;refine Ac rfl (λ_=>hPr) (by simp) ?_;refine mg [] rfl (by simp) ?_;refine Aa rfl (λh=>by simp at h) (λh=>?_);refine md [] rfl (by simp) ?_;refine Ac rfl (λ_=>hw1) (by simp) ?_;refine mg [] rfl (by simp) ?_;refine Ac rfl (λ_=>hw2) (by simp) ?_;refine mg [] rfl (by simp) ?_;refine Ac rfl (λ_=>hk) (by simp) ?_;refine mg [] rfl (by simp) ?_;exact Ab ⟨_,rfl,tV rfl,trivial⟩
 | none =>
  have hnb:¬((AR p v).2=true/\(AR q v).2=true):=λh=>f1 v ⟨hvT,h⟩;obtain ⟨t1,t2⟩:=Pl hp hq;have htc:=YP (c:=c) hp hq;have hra:=XQ c v;have hrb:=XQ ⟨c.datas,c.type,Gp c.rows k p q⟩ v;have hask2:D6 ⟨c.datas,c.type,Gp c.rows k p q⟩ v=true:=(KO (c:=⟨c.datas,c.type,Gp c.rows k p q⟩) (by rw [htc];exact hc2) hval hof).1;rw [hask] at hra;rw [hask2] at hrb;simp only [cond_true] at hra hrb;have hsw:=Pu v p q (c.rows.drop (k+2)) hnb (c.rows.take k) 0;rw [<- t1,<- t2,show 0+(c.rows.take k).length=k by rw [List.length_take];omega] at hsw;have hfa:=SA v c.rows;rw [hsw] at hrb;have hcl:=XB c.rows (λe=>by rw [e] at hp;simp at hp) (by omega)
  have hset:(Bq c.rows).set k (dTyc q)=Bq (c.rows.set k q)/\((Bq (c.rows.set k q)).set (k+1) (dTyc p))=Bq (Gp c.rows k p q):=by simp only [C0,Gp,List.map_set,and_self]
  have hgp:=At hp;have hgq:=At hq;clear f1 f2 t1 t2 htc hsw hask hask2;generalize CE v 0 c.rows=a at *;generalize (AR p v).2=b1 at *;generalize (AR q v).2=b2 at *;obtain ⟨ds,⟨c1,c2,c3,c4⟩,rows⟩:=c;obtain ⟨g1,m,z,vs⟩:=v;obtain ⟨p1,p2,p3,p4⟩:=p;obtain ⟨q1,q2,q3,q4⟩:=q;simp only at hn1 hlen hfa hset hgp hgq hcl hrb;refine Ad Aj Tryz.func5 (by decide +kernel) rfl [1,2,3,4,5,6,7] rfl rfl ?_;refine mg [] rfl (by simp) ?_;refine Ac rfl (λ_=>hG) (by simp) ?_;refine mg [] rfl (by simp) ?_;refine Aa rfl (λh=>by exfalso;simp at h;rw [B9 (by omega) (by omega)] at h;omega) (λh=>?_);clear h;refine md [] rfl (by simp) ?_;refine Ac rfl (λ_=>hB) (by simp) ?_;refine mg [] rfl (by simp) ?_
  refine Ac rfl (λ_=>hm1) (by simp) ?_;refine mg [] rfl (by simp) ?_;refine Ac rfl (λ_=>hm2) (by simp) ?_;refine mg [] rfl (by simp) ?_;refine Aa rfl (λh=>by exfalso;apply hnb;cases b1 <;> cases b2 <;> simp_all) (λh=>?_);clear h;refine md [] rfl (by simp) ?_;refine Aa rfl (λh=>by simp at h) (λh=>?_);clear h;refine md [] rfl (by simp) ?_;refine Aa rfl (λh=>by simp at h) (λh=>?_);clear h;refine md [] rfl (by simp) ?_;refine Az (st0:=[]) (fr:=[5]) [] [(2,5)] rfl (by simp) hcl trivial rfl rfl rfl rfl ?_;refine mg [] rfl (by simp) ?_;refine mi rfl (c:=dTyc (.mk q1 q2 q3 q4)) (λ_=>⟨by rw [ew];omega,by rw [ew];simpa using hgq,by simp⟩) (by simp) ?_;refine mg [] rfl (by simp) ?_
  refine mi rfl (c:=dTyc (.mk p1 p2 p3 p4)) (λ_=>⟨by simp,by simpa using hgp,by simp⟩) (by simp) ?_;refine mg [] rfl (by simp) ?_;refine E9 Aj rfl (λ_=>⟨by simp,by simp;omega⟩) (by simp) ?_;refine mg [] rfl (by simp) ?_;refine Jx Aj (e:=dTyc (.mk p1 p2 p3 p4)) (e':=dTyc (.mk q1 q2 q3 q4)) rfl (by simpa using hgp) (by show 0+4<=4;decide) (by simp) (by simp) ?_;refine mg [] rfl (by simp) ?_;refine E9 Aj rfl (λ_=>⟨by show (0:Int)<=IntKind.i64.wrap ((k:Int)+1);rw [ew];omega,by simp [ew];omega⟩) (by simp) ?_;refine mg [] rfl (by simp) ?_
  refine Jx Aj (e:=dTyc (.mk q1 q2 q3 q4)) (e':=dTyc (.mk p1 p2 p3 p4)) rfl (by show ((Bq rows).set k (dTyc (.mk q1 q2 q3 q4)))[(IntKind.i64.wrap ((k:Int)+1)).toNat]?=_;rw [ew,Int.toNat_natCast,List.getElem?_set_ne (by omega)];exact hgq) (by show 0+4<=4;decide) (by simp) (by simp) ?_;refine mg [] rfl (by simp;rfl) ?_;refine BM 5 rfl ?_;have hL:((Bq rows).set k (dTyc (.mk q1 q2 q3 q4))).set (IntKind.i64.wrap ((k:Int)+1)).toNat (dTyc (.mk p1 p2 p3 p4))=Bq (Gp rows k (.mk p1 p2 p3 p4) (.mk q1 q2 q3 q4)):=by rw [ew,Int.toNat_natCast,hset.1,hset.2]
  have hrb:Al Tryz.prog 28 [.agg ([.sl (ds.map C7)]++dTyc (.mk c1 c2 c3 c4)++[.sl (((Bq rows).set k (dTyc (.mk q1 q2 q3 q4))).set (IntKind.i64.wrap ((k:Int)+1)).toNat (dTyc (.mk p1 p2 p3 p4)))]),.agg (dTyc (.mk g1 m z vs))] (.tup [.int .i64 (Kl k a),.bool true]):=by rw [hL];exact hrb
  refine md [] rfl (by simp) ?_;refine Ac rfl (λ_=>hra) (by simp) ?_;refine mg [] rfl (by simp) ?_;refine Ac rfl (λ_=>hrb) (by simp) ?_;refine mg [] rfl (by simp) ?_;by_cases e1:a=k
  ·subst e1;have e2:Kl k (k:Int)=k+1:=by simp [Kl]
   rw [e2];refine Aa rfl (λh=>?_) (λh=>by simp at h);refine md [] rfl (by simp [Ah,ew]) ?_;refine Ac rfl (λ_=>hk) (by simp) ?_;refine mg [] rfl (by simp) ?_;refine Ab ⟨_,rfl,tV (congrArg _ ?_),trivial⟩;simp [ew]
  ·refine Aa rfl (λh=>absurd (by simpa using h) e1) (λh=>?_);refine md [] rfl (by simp) ?_;by_cases e2:a=(k:Int)+1
   ·subst e2;have e3:Kl k ((k:Int)+1)=k:=by simp only [Kl];rw [if_neg (by omega)];simp
    rw [e3];refine Aa rfl (λh=>?_) (λh=>by exfalso;simp [ew] at h);refine md [] rfl (by simp) ?_;refine Ac rfl (λ_=>hk) (by simp) ?_;refine mg [] rfl (by simp) ?_;refine Ab ⟨_,rfl,tV (congrArg _ ?_),trivial⟩;simp
   ·have e3:Kl k a=a:=by simp only [Kl];rw [if_neg e1,if_neg e2]
    rw [e3];refine Aa rfl (λh=>by exfalso;simp [ew] at h;omega) (λh=>?_);refine md [] rfl (by simp) ?_;refine Ac rfl (λ_=>hk) (by simp) ?_;refine mg [] rfl (by simp) ?_;refine Ab ⟨_,rfl,tV (congrArg _ ?_),trivial⟩;simp
end Go.Hk
namespace Go.Hk
open Go.RowKit Go.WideShapes Go.ChangeShapes
theorem Ext.below {I I':Imm} {μ μ':Mu} {w w':World} {st':St} (h:Ext I μ [] w I' μ' st' w'):Below w.heap.size w w' :=
 ⟨h.os,h.tape,h.output,h.size,λk hk=>h.block k hk (by rintro ⟨id,blk,g,hl,_⟩;cases hl)⟩
theorem eA {H:Type} {enc:TypeId×Value->H} {P:Program} {f:Func} {s:ChangeSpec} {apart fresh handsOn again:Bool} {W W':World} {args:Array Value} {v:Value} {ds gs:List (DataW H)} {before pa pv:List MemPlace}
  (hW:DataW.Whole enc P f.params.toList s.vars apart W args.toList ds gs before) (hb:Below W.heap.size W W') (hps:before=pa++pv)
  (hres:∀(b:Nat) (sp:Nat->Bool) (hd:Bool),DataW.TrodAll enc P W' b sp hd f.resultTypes.toList (v.resultList f.resultTypes.size) (s.fn H (ds++gs)).results [])
  (hargs:∀sp:Nat->Bool,(∀p∈before,sp p.block=true)->DataW.TrodAll enc P W' 0 sp true f.params.toList args.toList (s.fn H (ds++gs)).args pa)
  (hvars:∀sp:Nat->Bool,(∀p∈before,sp p.block=true)->DataW.TrodVars enc P W' sp s.vars (s.fn H (ds++gs)).vars pv)
  (hok:∀(j:Nat) (t:TypeId) (r:Value),f.resultTypes[j]?=some t->(v.resultList f.resultTypes.size)[j]?=some r->Value.okWide P W' .any 0 t r) :
  s.post enc P f apart fresh handsOn again W args v W':=by
 have lt:∀p∈before,decide (p.block<W.heap.size)=true:=λp hp=>by simpa using hW.lt p hp
 refine ⟨ds,gs,before,[],pa,pv,hW,hres _ _ _,hargs (λb=>decide (b<W.heap.size)) lt,hvars (λb=>decide (b<W.heap.size)) lt,World.keptBut_mono (λp hp=>⟨hp,.inr ?_⟩) (hb.frame (· ∈ before)),λ_=>⟨hok,?_⟩⟩
 ·rw [hps] at hp;exact List.mem_append.1 hp
 ·have hlt:=hW.lt;obtain ⟨_,_,_,_,_,hz,hn⟩:=hW;refine ⟨(s.fn H (ds++gs)).results++(s.fn H (ds++gs)).args,(s.fn H (ds++gs)).vars,pa++pv,⟨pa,pv,?_,hvars _ (λ_ _=>rfl),rfl,λb off hp=>?_,λha=>?_⟩,λp hp _=>by rw [hps];exact hp⟩
  ·have:=trodAll_append (hargs (λ_=>true) λ_ _=>rfl) (hres 0 (λ_=>true) true);simpa using this
  ·have hin:MemPlace.cell b off∈before:=by rw [hps];exact hp
   rw [hb.frozen (hlt _ hin)];exact hz b off hin
  ·rw [<- hps];exact hn ha
end Go.Hk
namespace Go.Hk
def immW (W:World):Imm:=λb=>W.heap[b]?
theorem iN (W:World):(immW W).ok W:=λ_ _ h=>h
def Rds (P:Program) (W:World) (n:Nat) (t:TypeId) (cs:List Value):Prop :=
 ∃(H:Type) (enc:TypeId×Value->H) (x:DataW H×List MemPlace),DataW.trod enc P W 0 (λ_=>true) true n t cs=some x
def RV (W:World) (cs:List Value) (xs:List V):Prop:=RepVL (immW W) cs xs/\∀c∈cs,c.oneCell'=true
theorem RV.app {W:World} {a b:List Value} {x y:List V} (h:RV W a x) (k:RV W b y):RV W (a++b) (x++y) :=
 ⟨h.1.append k.1,λc hc=>(List.mem_append.1 hc).elim (h.2 c) (k.2 c)⟩
theorem RV.one {W:World} {v:Value} {x:V} (h:RepV (immW W) v x) (h1:v.oneCell'=true):RV W [v] [x] :=
 ⟨.mk h .nil,λc hc=>by simp at hc;rw [hc];exact h1⟩
theorem RV.agg {W:World} {cs:Array Value} {xs:List V} (h:RV W cs.toList xs):RepV (immW W) (.agg cs) (.agg xs) :=
 .agg _ _ (by simpa using h.1.1) h.2 (λi c x a b=>h.1.2 i c x (by simpa using a) b)
theorem RV.len {W:World} {cs:List Value} {xs:List V} (h:RV W cs xs):cs.length=xs.length:=h.1.1
section
variable {P:Program} {W:World} {tt:TT} {n:Nat} {t:TypeId} {cs:List Value}
theorem OK {k:IntKind} {a:Bool} {sz by_:Nat} {z:List D} (htt:TTok P tt) (hl:lk tt t=some ⟨.int k,a,sz,by_,z⟩) (h:Rds P W n t cs):∃m,RV W cs [.int k m]/\(Lit.int k m).wf=true:=by
 obtain ⟨H,enc,x,h⟩:=h;have hu:P.underlying t=some (.int k):=htt.sh hl;cases n with
 | zero=>simp [DataW.trod] at h
 | succ n =>
  unfold DataW.trod at h;rw [hu] at h
  split at h <;> simp_all
  rename_i k' m heq;exact ⟨m,.one (.int _ _) rfl,h.1.2⟩
theorem OJ {a:Bool} {sz by_:Nat} {z:List D} (htt:TTok P tt) (hl:lk tt t=some ⟨.str,a,sz,by_,z⟩) (h:Rds P W n t cs):∃s,RV W cs [.str s]/\s.length<=maxLen:=by
 obtain ⟨H,enc,x,h⟩:=h;have hu:P.underlying t=some .string:=htt.sh hl;cases n with
 | zero=>simp [DataW.trod] at h
 | succ n =>
  unfold DataW.trod at h;rw [hu] at h
  split at h <;> simp_all
  rename_i s;exact ⟨s.data.toList,.one (.str _ _ rfl) rfl,by have:=h.1;simpa using this⟩
theorem QL {a:Addr} {k:Nat} {cs':List Value} (h:W.cells? 0 a k=some cs') (hk:0<k):a.spot=none/\∀(j:Nat) (v:Value),cs'[j]?=some v->(immW W).cell a.block (a.off+j)=some v:=by
 obtain ⟨_,h2,h3⟩:=World.cells?_some h;have cell:∀(b:Addr) (v:Value),W.cell? b=some v->b.spot=none/\(immW W).cell b.block b.off=some v:=by
  intro b v hb;unfold World.cell? at hb
  split at hb
  ·rename_i c t0 fz hh
   split at hb
   ·cases hb
   ·rename_i hs;refine ⟨by cases h:b.spot with | none=>rfl | some _=>rw [h] at hs;exact absurd rfl hs,?_⟩;unfold Imm.cell immW;rw [hh];exact hb
  ·cases hb
 have hs:a.spot=none:=by
  have hlt:0<cs'.length:=by omega
  have:=h3 0 hk;rw [List.getElem?_eq_getElem hlt] at this;exact (cell (a.add 0) _ this).1
 refine ⟨hs,λj v hv=>?_⟩;have hj:=(List.getElem?_eq_some_iff.1 hv).1;have:=(cell (a.add j) v (by rw [h3 j (by omega)];exact hv)).2;unfold Addr.add at this;by_cases h0:j=0
 ·subst h0;simpa using this
 ·rw [if_neg h0] at this;exact this
theorem Gi {α:Type} {e:TypeId} {a:Bool} {sz by_:Nat} {z:List D} {i:TyI} {d:α->List V} (htt:TTok P tt) (hl:lk tt t=some ⟨.sl e,a,sz,by_,z⟩) (hi:lk tt e=some i) (hpos:0<i.size)
  (hd:∀x,(d x).length=i.size) (hel:∀m,m<n->∀cs',Rds P W m e cs'->∃x,RV W cs' (d x)) (h:Rds P W n t cs):∃xs:List α,RV W cs [.sl (xs.map d)]:=by
 obtain ⟨H,enc,x,h⟩:=h;have hu:P.underlying t=some (.slice e):=htt.sh hl;have hce:P.cellsOf e=i.size:=(htt e i hi).cellsOf;rcases DataW.trod_slice hu h with ⟨rfl,_⟩ | ⟨ad,len,cap,elems,rest,m,rfl,rfl,_,_,h1,h2,h3,h4,h5,_⟩
 ·exact ⟨[],.one .slnil rfl⟩
 rw [hce] at h4 h5;have he:∀k,k<len->∃(cs':List Value) (x:α),W.cells? 0 (ad.add (k*i.size)) i.size=some cs'/\RV W cs' (d x):=by
  intro k hk;have:=h4 k hk;rw [List.getElem?_eq_getElem (by omega)] at this;obtain ⟨cs',q1,q2⟩:=Option.bind_eq_some_iff.1 this;obtain ⟨x,hx⟩:=hel m (by omega) cs' ⟨H,enc,_,q2⟩;exact ⟨cs',x,q1,hx⟩
 have hch:∃(C:Nat->List Value) (X:Nat->Option α),∀k,k<len->∃x,X k=some x/\W.cells? 0 (ad.add (k*i.size)) i.size=some (C k)/\RV W (C k) (d x):=by
  classical
  refine ⟨λk=>if hk:k<len then (he k hk).choose else [],λk=>if hk:k<len then some ((he k hk).choose_spec.choose) else none,λk hk=>?_⟩;simp only [hk,dif_pos];exact ⟨_,rfl,(he k hk).choose_spec.choose_spec⟩
 obtain ⟨C,X,hCX⟩:=hch;have hlist:∀l,l<=len->∃xs:List α,xs.length=l/\∀k x,xs[k]?=some x->X k=some x:=by
  intro l
  induction l with
  | zero=>exact λ_=>⟨[],rfl,λk x h=>by simp at h⟩
  | succ l ih =>
   intro hl';obtain ⟨xs,q1,q2⟩:=ih (by omega);obtain ⟨x,hx,_⟩:=hCX l (by omega);refine ⟨xs++[x],by simp [q1],λk y hy=>?_⟩;by_cases hk:k<xs.length
   ·rw [List.getElem?_append_left hk] at hy;exact q2 k y hy
   ·rw [List.getElem?_append_right (by omega)] at hy;have:k-xs.length=0:=by
     have:=(List.getElem?_eq_some_iff.1 hy).1;simp at this;omega
    rw [this] at hy;cases hy;have:k=l:=by omega
    rw [this];exact hx
 obtain ⟨xs,hx1,hx2⟩:=hlist len (Nat.le_refl _);refine ⟨xs,.one ?_ rfl⟩;by_cases hcap:cap=0
 ·have:len=0:=by omega
  subst this;subst hcap;have:xs=[]:=List.eq_nil_of_length_eq_zero hx1;subst this;exact .sl0 ad
 have hspot:ad.spot=none:=by
  by_cases hlen:0<len
  ·obtain ⟨x,_,q,_⟩:=hCX 0 hlen;have:=(QL q hpos).1;simpa [Addr.add] using this
  ·have h6:=h5 rfl;have h7:=h6.2 0 (by omega);rw [List.getElem?_eq_getElem (by omega)] at h7;obtain ⟨cs',q1,q2⟩:=Option.bind_eq_some_iff.1 h7;have:=(QL q1 hpos).1;have hl0:len=0:=by omega
   subst hl0;simpa [Addr.add] using this
 obtain ⟨b,o,sp⟩:=ad;simp only at hspot;subst hspot;have hget:∀(k:Nat) (e:List V),(xs.map d)[k]?=some e->k<len/\∃x,X k=some x/\e=d x/\W.cells? 0 ⟨b,o+k*i.size,none⟩ i.size=some (C k)/\RV W (C k) (d x):=by
  intro k e hk;rw [List.getElem?_map,Option.map_eq_some_iff] at hk;obtain ⟨x,q1,q2⟩:=hk;have hlt:=(List.getElem?_eq_some_iff.1 q1).1;obtain ⟨y,r1,r2,r3⟩:=hCX k (by omega);rw [hx2 k x q1] at r1;cases r1;refine ⟨by omega,x,hx2 k x q1,q2.symm,?_,r3⟩;rw [<- r2];congr 1;unfold Addr.add;by_cases h0:k*i.size=0
  ·simp [h0]
  ·simp [h0]
 refine .sl b o len cap i.size _ (λk j=>(C k).getD j undef) (by simp [hx1]) h1 h2 (λe he=>?_) (λk e j x hk hj=>?_) (λk e j x hk hj=>?_)
 ·obtain ⟨x,_,rfl⟩:=List.mem_map.1 he;exact hd x
 ·obtain ⟨_,y,_,rfl,q3,q4⟩:=hget k e hk;have hlt:j<(C k).length:=by rw [q4.len];exact (List.getElem?_eq_some_iff.1 hj).1
  have hv:(C k)[j]?=some ((C k)[j]):=List.getElem?_eq_getElem hlt;have hD:(C k).getD j undef=(C k)[j]:=by simp [List.getD,hv]
  show (immW W).cell b (o+k*i.size+j)=some ((C k).getD j undef)/\((C k).getD j undef).oneCell'=true;rw [hD];exact ⟨(QL q3 hpos).2 j _ hv,q4.2 _ (List.getElem_mem _)⟩
 ·obtain ⟨_,y,_,rfl,q3,q4⟩:=hget k e hk;have hlt:j<(C k).length:=by rw [q4.len];exact (List.getElem?_eq_some_iff.1 hj).1
  have hv:(C k)[j]?=some ((C k)[j]):=List.getElem?_eq_getElem hlt;have hD:(C k).getD j undef=(C k)[j]:=by simp [List.getD,hv]
  show RepV (immW W) ((C k).getD j undef) x;rw [hD];exact q4.1.2 j _ x hv hj
theorem G3 {fs:List (Nat×TypeId)} {a:Bool} {sz by_:Nat} {z:List D} (htt:TTok P tt) (hl:lk tt t=some ⟨.struct fs,a,sz,by_,z⟩) (h:Rds P W n t cs) :
  cs.length=sz/\∃m,n=m+1/\∀(j off:Nat) (ft:TypeId) (i:TyI),fs[j]?=some (off,ft)->lk tt ft=some i->Rds P W m ft ((cs.drop off).take i.size):=by
 obtain ⟨H,enc,x,h⟩:=h;obtain ⟨fields,hu,hmap,_⟩:∃fields,P.underlying t=some (.struct fields)/\fields.toList.map (λf=>(f.offset,f.type))=fs/\∀f∈fields.toList,0<P.cellsOf f.type:=htt.sh hl;obtain ⟨xs,m,rfl,_,h1,h2,h3⟩:=DataW.trod_struct hu h;refine ⟨by rw [h1];exact (htt t _ hl).cellsOf,m,rfl,λj off ft i hj hi=>?_⟩;rw [<- hmap,List.getElem?_map,Option.map_eq_some_iff] at hj;obtain ⟨f,q1,q2⟩:=hj;cases q2;have hf:fields[j]?=some f:=by rw [<- Array.getElem?_toList];exact q1
 have hlt:=(Array.getElem?_eq_some_iff.1 hf).1;have:=h3 j f hf;rw [List.getElem?_eq_getElem (by omega),(htt _ i hi).cellsOf] at this;exact ⟨H,enc,_,this⟩
end
end Go.Hk
namespace Go.Hk
open Go.Proofs
section
variable {W:World}
theorem nE {α:Type} {l:List α} (h:l.length=4):∃a b c d,l=[a,b,c,d]:=by
 match l,h with
 | [a,b,c,d],_=>exact ⟨a,b,c,d,rfl⟩
theorem LW (l:List Ty):l.map dTyc=Bq l:=(C0 l).symm
theorem RT (tt0 ts tl:TypeId) (hs:lk bA tt0=some ⟨.struct [(0,ts),(1,3),(2,9),(3,tl)],true,4,56,[.imm (.int .i64 0),.imm (.int .i64 0),.imm (.str []),.nils]⟩)
  (h1:lk bA ts=some ⟨.int .i64,false,1,8,[.imm (.int .i64 0)]⟩) (h2:lk bA tl=some ⟨.sl tt0,false,1,24,[.nils]⟩) :
  ∀(n:Nat) (cs:List Value),Rds Tryz.prog W n tt0 cs->∃t:Ty,RV W cs (dTyc t):=by
 intro n
 induction n using Nat.strongRecOn with
 | ind n ih =>
  intro cs h;obtain ⟨hl,m,rfl,hf⟩:=G3 B2 hs h;obtain ⟨a,b,c,d,rfl⟩:=nE hl;obtain ⟨s,r1,_⟩:=OK B2 h1 (hf 0 0 ts _ rfl h1);obtain ⟨k,r2,_⟩:=OK B2 rfl (hf 1 1 3 _ rfl rfl);obtain ⟨x,r3,_⟩:=OJ B2 rfl (hf 2 2 9 _ rfl rfl);obtain ⟨ps,r4⟩:=Gi (d:=dTyc) B2 h2 hs (show 0<4 by decide) dTyc_length (λm' hm cs'=>ih m' (by omega) cs') (hf 3 3 tl _ rfl h2);exact ⟨.mk s k x ps,by rw [dTyc,<- LW];exact ((r1.app r2).app r3).app r4⟩
theorem RS (n:Nat) (cs:List Value) (h:Rds Tryz.prog W n 26 cs):∃t:Ty,RV W cs (dTyc t):=RT 26 23 24 rfl rfl rfl n cs h
theorem cP (n:Nat) (cs:List Value) (h:Rds Tryz.prog W n 62 cs):∃t:Ty,RV W cs (dTyc t):=RT 62 60 27 rfl rfl rfl n cs h
theorem cQ (n:Nat) (cs:List Value) (h:Rds Tryz.prog W n 90 cs):∃c:Cd,RV W cs (Ds c):=by
 obtain ⟨hl,m,rfl,hf⟩:=G3 B2 rfl h
 match cs,hl with
 | [a,b],_ =>
 obtain ⟨x,r1,_⟩:=OJ B2 rfl (hf 0 0 9 _ rfl rfl);obtain ⟨ts,r2⟩:=Gi (d:=dTyc) B2 rfl (e:=26) rfl (by decide) dTyc_length (λm' hm cs'=>RS m' cs') (hf 1 1 24 _ rfl rfl);exact ⟨⟨x,ts⟩,by rw [Ds,<- LW];exact r1.app r2⟩
theorem Zp (n:Nat) (cs:List Value) (h:Rds Tryz.prog W n 87 cs):∃c:Dt,RV W cs (C7 c):=by
 obtain ⟨hl,m,rfl,hf⟩:=G3 B2 rfl h
 match cs,hl with
 | [a,b],_ =>
 obtain ⟨x,r1,_⟩:=OJ B2 rfl (hf 0 0 9 _ rfl rfl);obtain ⟨ts,r2⟩:=Gi (d:=Ds) B2 rfl (e:=90) rfl (by decide) (λ_=>rfl) (λm' hm cs'=>cQ m' cs') (hf 1 1 85 _ rfl rfl);exact ⟨⟨x,ts⟩,r1.app r2⟩
end
end Go.Hk
namespace Go.Hk
open Go.Proofs
section
variable {W:World}
theorem read_val:∀(n:Nat) (cs:List Value),Rds Tryz.prog W n 35 cs->∃t:Ty,RV W cs (dTyc t):=by
 intro n
 induction n using Nat.strongRecOn with
 | ind n ih =>
  intro cs h;obtain ⟨hl,m,rfl,hf⟩:=G3 Dr rfl h;obtain ⟨a,b,c,d,rfl⟩:=nE hl;obtain ⟨s,r1,_⟩:=OK Dr rfl (hf 0 0 32 _ rfl rfl);obtain ⟨k,r2,_⟩:=OK Dr rfl (hf 1 1 3 _ rfl rfl);obtain ⟨x,r3,_⟩:=OJ Dr rfl (hf 2 2 9 _ rfl rfl);obtain ⟨ps,r4⟩:=Gi (d:=dTyc) Dr rfl (e:=35) rfl (show 0<4 by decide) dTyc_length (λm' hm cs'=>ih m' (by omega) cs') (hf 3 3 33 _ rfl rfl);exact ⟨.mk s k x ps,by rw [dTyc,<- LW];exact ((r1.app r2).app r3).app r4⟩
theorem read_case (n:Nat) (cs:List Value) (h:Rds Tryz.prog W n 29 cs):∃c:Cse,RV W cs (dCse c):=by
 obtain ⟨hl,m,rfl,hf⟩:=G3 Dr rfl h
 match cs,hl with
 | [a0,a1,a2,a3,a4,a5],_ =>
 obtain ⟨ds,r1⟩:=Gi (d:=C7) Dr rfl (e:=87) rfl (by decide) (λ_=>rfl) (λm' hm cs'=>Zp m' cs') (hf 0 0 22 _ rfl rfl);obtain ⟨t1,r2⟩:=RS _ _ (hf 1 1 26 _ rfl rfl);obtain ⟨ps,r3⟩:=Gi (d:=dTyc) Dr rfl (e:=62) rfl (by decide) dTyc_length (λm' hm cs'=>cP m' cs') (hf 2 5 27 _ rfl rfl);exact ⟨⟨ds,t1,ps⟩,by rw [dCse,<- LW];exact (r1.app r2).app r3⟩
end
end Go.Hk
namespace Go.Hk
open Go.RowKit Go.WideShapes Go.ChangeShapes Go.ChangeAt
theorem Lm {H:Type} {enc:TypeId×Value->H} {P:Program} (hl:laidOutB P=true) {W W':World} (hb:Below W.heap.size W W') {sp:Nat->Bool} :
  ∀{ts:List TypeId} {vs:List Value} {ds:List (DataW H)} {ps:List MemPlace},ts.all (λt=>P.readableRec t&&decide (t<P.types.size))=true->DataW.TrodAll enc P W 0 (λ_=>true) true ts vs ds ps ->
   (∀p∈ps,p.block<W.heap.size)->(∀p∈ps,sp p.block=true)->DataW.TrodAll enc P W' 0 sp true ts vs ds ps
 | [],[],[],_,_,h,_,_=>h
 | [],[],_::_,_,_,h,_,_=>h.elim
 | [],_::_,_,_,_,h,_,_=>h.elim
 | _::_,[],_,_,_,h,_,_=>h.elim
 | _::_,_::_,[],_,_,h,_,_=>h.elim
 | t::ts,v::vs,d::ds,ps,ht,h,hlt,hs=>by
  obtain ⟨p,q,h1,h2,rfl⟩:=h;rw [List.all_cons,Bool.and_eq_true,Bool.and_eq_true,decide_eq_true_eq] at ht;refine ⟨p,q,WideElems.Trod_stays hl ht.1.1 ht.1.2 h1 (λx hx=>hb.same (hlt x (List.mem_append_left _ hx))) (λx hx=>hs x (List.mem_append_left _ hx)),?_,rfl⟩;exact Lm hl hb ht.2 h2 (λx hx=>hlt x (List.mem_append_right _ hx)) (λx hx=>hs x (List.mem_append_right _ hx))
theorem Rds.of {H:Type} {enc:TypeId×Value->H} {P:Program} {W:World} {t:TypeId} {v:Value} {d:DataW H} {ps:List MemPlace} (h:DataW.Trod enc P W 0 (λ_=>true) true t v d ps):∃n,Rds P W n t v.cells.toList:=by
 obtain ⟨n,hn⟩:=h;exact ⟨n,H,enc,_,hn⟩
section
variable {H:Type} {enc:TypeId×Value->H} {P:Program} {W:World} {sp:Nat->Bool} {hd:Bool}
theorem bE {vs:List Value} {ds:List (DataW H)} {ps:List MemPlace} (h:DataW.TrodAll enc P W 0 sp hd [] vs ds ps):vs=[]/\ds=[]:=by
 cases vs with
 | nil=>cases ds with
  | nil=>exact ⟨rfl,rfl⟩
  | cons=>exact h.elim
 | cons=>cases ds <;> exact h.elim
theorem Pm {t:TypeId} {ts:List TypeId} {vs:List Value} {ds:List (DataW H)} {ps:List MemPlace} (h:DataW.TrodAll enc P W 0 sp hd (t::ts) vs ds ps) :
  ∃v vs' d ds' p q,vs=v::vs'/\ds=d::ds'/\DataW.Trod enc P W 0 sp hd t v d p/\DataW.TrodAll enc P W 0 sp hd ts vs' ds' q:=by
 cases vs with
 | nil=>cases ds <;> exact h.elim
 | cons v vs=>cases ds with
  | nil=>exact h.elim
  | cons d ds =>
   obtain ⟨p,q,h1,h2,_⟩:=h;exact ⟨v,vs,d,ds,p,q,rfl,rfl,h1,h2⟩
theorem bD {t:TypeId} {vs:List Value} {ds:List (DataW H)} {ps:List MemPlace} (h:DataW.TrodAll enc P W 0 sp hd [t] vs ds ps):∃v d p,vs=[v]/\ds=[d]/\DataW.Trod enc P W 0 sp hd t v d p:=by
 obtain ⟨v,vs',d,ds',p,q,rfl,rfl,h1,h2⟩:=Pm h;obtain ⟨rfl,rfl⟩:=bE h2;exact ⟨v,d,p,rfl,rfl,h1⟩
theorem bC {t u:TypeId} {vs:List Value} {ds:List (DataW H)} {ps:List MemPlace} (h:DataW.TrodAll enc P W 0 sp hd [t,u] vs ds ps) :
  ∃v w d e p q,vs=[v,w]/\ds=[d,e]/\DataW.Trod enc P W 0 sp hd t v d p/\DataW.Trod enc P W 0 sp hd u w e q:=by
 obtain ⟨v,vs',d,ds',p,q,rfl,rfl,h1,h2⟩:=Pm h;obtain ⟨w,e,q,rfl,rfl,h3⟩:=bD h2;exact ⟨v,w,d,e,p,q,rfl,rfl,h1,h3⟩
theorem trodAll3 {t u x:TypeId} {vs:List Value} {ds:List (DataW H)} {ps:List MemPlace} (h:DataW.TrodAll enc P W 0 sp hd [t,u,x] vs ds ps) :
  ∃v w y d e f p q r,vs=[v,w,y]/\ds=[d,e,f]/\DataW.Trod enc P W 0 sp hd t v d p/\DataW.Trod enc P W 0 sp hd u w e q/\DataW.Trod enc P W 0 sp hd x y f r:=by
 obtain ⟨v,vs',d,ds',p,q,rfl,rfl,h1,h2⟩:=Pm h;obtain ⟨w,y,e,f,q,r,rfl,rfl,h3,h4⟩:=bC h2;exact ⟨v,w,y,d,e,f,p,q,r,rfl,rfl,h1,h3,h4⟩
end
theorem agg_of {P:Program} {W:World} {base:Nat} {t:TypeId} {v:Value} {fs:Array Field} (hu:P.underlying t=some (.struct fs)) (h:Value.okWide P W .any base t v):∃cs,v = .agg cs:=by
 unfold Value.okWide at h;rw [hu] at h;obtain ⟨cs,e,_⟩:=h;exact ⟨cs,e⟩
theorem Ry {P : Program} {f : FuncId} {fn : Func} {c : Code} (hf : P.funcs[f]? = some fn) (hname : (fn.name == "runtime.NumGoroutine") = false) (hb : fn.body = some c) {W : World} {args : Array Value} {vs : List V} {b : Bool} (hv : RepVL (immW W) args.toList vs) (hp : Al P f vs (.bool b)) :
  Calls P f args W λe W'=>e = .returned (.bool b)/\Below W.heap.size W W':=by
 have h:=hp (immW W) (λ_=>none) W args { imm:=iN W,blk:=λid blk hl=>(by cases hl),apart:=λid blk g b hl=>(by cases hl),inj:=λi j bi bj gi gj b hl=>(by cases hl),nodup:=.nil,idsFree:=λid hi=>(by cases hi) }
  ⟨by simpa using hv.1,λi v d h1 h2=>by
   rw [List.getElem?_map,Option.map_eq_some_iff] at h2;obtain ⟨x,q1,rfl⟩:=h2;exact .imm _ _ (hv.2 i v x h1 q1)⟩
 rw [BF hf hname hb] at h;refine Calls.mono h λe w' he=>?_;cases e with
 | returned v =>
  obtain ⟨I',μ',h1,_,_,h4⟩:=he;cases h1 with
  | imm v x hx =>
   cases hx;exact ⟨rfl,h4.below⟩
 | panicked=>exact he.elim
 | outgrown=>exact he.elim
theorem law_done {H:Type} {enc:TypeId×Value->H} {P:Program} {f:FuncId} {fn:Func} {c:Code} {s:ChangeSpec} {apart fresh handsOn again:Bool} {W:World} {args:Array Value} {ds gs:List (DataW H)} {before:List MemPlace} {tb:TypeId} {vs:List V}
  (hW : DataW.Whole enc P fn.params.toList s.vars apart W args.toList ds gs before) (hv : s.vars = []) (hf : P.funcs[f]? = some fn) (hname : (fn.name == "runtime.NumGoroutine") = false) (hb : fn.body = some c) (hrt : fn.resultTypes = #[tb]) (hbool : P.underlying tb = some .bool)
  (hl:laidOutB P=true) (hpar:fn.params.toList.all (λt=>P.readableRec t&&decide (t<P.types.size))=true) (hs:s.fn H ds={ results:=[.lit (.bool true)],args:=ds }) (hx:RepVL (immW W) args.toList vs) (hp:Al P f vs (.bool true)) :
  Calls P f args W λe W'=>∃v,e = .returned v/\s.post enc P fn apart fresh handsOn again W args v W':=by
 refine (Ry hf hname hb hx hp).mono λe W' ⟨he,hg⟩=>?_;subst he;have hW':=hW;obtain ⟨p,q,hA,hV,e1,hfz,hnd⟩:=hW;rw [hv] at hV;have hg0:gs=[]/\q=[]:=by
  cases gs with
  | nil=>exact ⟨rfl,hV⟩
  | cons=>exact hV.elim
 obtain ⟨rfl,rfl⟩:=hg0;rw [List.append_nil] at e1;subst e1;have hlt:=hW'.lt;refine ⟨_,rfl,eA (pa:=before) (pv:=[]) hW' hg (by simp) (λb sp hd=>?_) (λsp hsp=>?_) (λsp hsp=>?_) ?_⟩
 ·rw [List.append_nil,hs,hrt];exact trodAll_cons_mk (shut_bool hbool _) trodAll_mk0
 ·rw [List.append_nil,hs];exact Lm hl hg hpar hA hlt hsp
 ·rw [List.append_nil,hs,hv];rfl
 ·exact ok_one hrt rfl (okWide_bool_mk hbool _)
end Go.Hk
namespace Go.Proofs.YtondpmificgknaaGreat.coverTurned
open Go.ChangeShapes Go.WideShapes Go.RowKit
set_option linter.unusedVariables false
theorem own:ownKnob Tryz.prog.godebug=none:=by kernel_rfl
theorem lK (os:Os) (started:os.Started) (H:Type) (enc:TypeId×Value->H) :
  ReturnsInHanded {} Tryz.checked os 5 .any (Rows.coverTurnedSpec.pre6 enc Tryz.prog Tryz.f5 Rows.coverTurnedRow.domain false) (Rows.coverTurnedSpec.post enc Tryz.prog Tryz.f5 false true false false):=by
 refine returnsInHanded_of_change (C:=Tryz.checked) own started (by kernel_rfl) Tryz.func5
  (ChangeSpec.witness6 (enc:=enc) (C:=Tryz.checked) false ⟨#[],#[.agg #[.slice none 0 0,.int .i64 0,.int .i64 0,.string ⟨#[]⟩,.slice none 0 0,.slice none 0 0],.int .i64 0,.agg #[.int .i64 0,.int .i64 0,.string ⟨#[]⟩,.slice none 0 0]],[]⟩ 8 (by kernel_rfl) (by kernel_rfl) (by kernel_rfl) (by kernel_rfl)) ?_
 intro W base args ds gs before hval hW hcnd _;obtain ⟨p,q,hA,_⟩:=id hW;obtain ⟨v1,v2,v3,d1,d2,d3,p1,p2,p3,e1,rfl,hd1,hd2,hd3⟩:=Hk.trodAll3 (t:=29) (u:=3) (x:=35) hA;obtain ⟨args⟩:=args;simp only at e1;subst e1;obtain ⟨n1,hn1⟩:=Hk.Rds.of hd1;obtain ⟨n3,hn3⟩:=Hk.Rds.of hd3;obtain ⟨m1,hm1⟩:=Hk.read_case n1 _ hn1;obtain ⟨m3,hm3⟩:=Hk.read_val n3 _ hn3;obtain ⟨c1,rfl⟩:=Hk.agg_of Tryz.underlying29 (hval 0 29 v1 rfl rfl);obtain ⟨m2,rfl⟩:=WideShapes.okWide_int Tryz.underlying3 (hval 1 3 v2 rfl rfl);have r2:Hk.RepV (Hk.immW W) (.int .i64 m2) (.int .i64 m2):=.int _ _;obtain ⟨c3,rfl⟩:=Hk.agg_of Tryz.underlying35 (hval 2 35 v3 rfl rfl)
 exact Hk.law_done hW rfl Tryz.func5 (by decide +kernel) rfl rfl Tryz.underlying4 (by kernel_rfl) (by kernel_rfl) rfl (vs:=[.agg (Hk.dCse m1),.int .i64 m2,.agg (Hk.dTyc m3)]) (.mk (Hk.RV.agg hm1) (.mk r2 (.mk (Hk.RV.agg hm3) .nil))) (Hk.CoverTurned_of m1 m2 m3)
theorem over:Rows.coverTurnedRow.holds Tryz.pinned (OpenSpec.ofChange Rows.coverTurnedSpec) :=
 OpenClaim.holds_of_wide 5 Tryz.f5 rfl rfl rfl rfl rfl rfl rfl ⟨rfl,rfl,rfl,rfl,rfl⟩ rfl rfl rfl rfl rfl (by kernel_rfl) Tryz.func5 (by kernel_rfl)
  (of_decide_eq_true (by kernel_rfl)) (by unfold Func.isWrapper;first | (rw [if_pos (by decide +kernel)];kernel_rfl) | (rw [if_neg (by decide +kernel)];exact ⟨rfl,rfl⟩))
  (λos started H enc _=>lK os started H enc)
theorem proved:Rows.CoverTurnedSaid :=
 over
end Go.Proofs.YtondpmificgknaaGreat.coverTurned
