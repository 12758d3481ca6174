/- hearthlaw04.CoverTotal returns true for every case and value, and changes nothing: first rows, values that are found, and trees. No condition. (And what it stands on.) -/
import Derived.Test.YtegabgaflilabaaGreatWf
import Derived.Test.YtegabgaflilabaaGreatWb
import Derived.ChangeArms
import Derived.DataReads
import Derived.WideKeyArgs
import Derived.OpenShut
import Derived.RowKit
import Derived.Carry
import Derived.ProofKit
import Derived.Test.YtegabgaflilabaaGreatRows
import Derived.WalkKit
set_option linter.unusedSimpArgs false
set_option linter.unusedVariables false

set_option maxRecDepth 100000
set_option maxHeartbeats 4000000
namespace Go.Hk
def P8 (W:World):Imm:=λb=>W.heap[b]?
theorem nN (W:World):(P8 W).ok W:=λ_ _ h=>h
def Rds (P:Program) (W:World) (n:Nat) (t:TypeId) (cs:List Value):Prop :=
 ∃(H:Type) (enc:TypeId×Value->H) (x:DataW H×List MemPlace),DataW.trod enc P W 0 (λ_=>true) true n t cs=some x
def RV (W:World) (cs:List Value) (xs:List V):Prop:=RepVL (P8 W) cs xs/\∀c∈cs,c.oneCell'=true
theorem RV.app {W:World} {a b:List Value} {x y:List V} (h:RV W a x) (k:RV W b y):RV W (a++b) (x++y) :=
 ⟨h.1.append k.1,λc hc=>(List.mem_append.1 hc).elim (h.2 c) (k.2 c)⟩
theorem RV.one {W:World} {v:Value} {x:V} (h:RepV (P8 W) v x) (h1:v.oneCell'=true):RV W [v] [x] :=
 ⟨.mk h .nil,λc hc=>by simp at hc;rw [hc];exact h1⟩
theorem RV.agg {W:World} {cs:Array Value} {xs:List V} (h:RV W cs.toList xs):RepV (P8 W) (.agg cs) (.agg xs) :=
 .agg _ _ (by simpa using h.1.1) h.2 (λi c x a b=>h.1.2 i c x (by simpa using a) b)
theorem RV.len {W:World} {cs:List Value} {xs:List V} (h:RV W cs xs):cs.length=xs.length:=h.1.1
section
variable {P:Program} {W:World} {tt:TT} {n:Nat} {t:TypeId} {cs:List Value}
theorem PO {k:IntKind} {a:Bool} {sz by_:Nat} {z:List D} (htt:TTok P tt) (hl:lk tt t=some ⟨.int k,a,sz,by_,z⟩) (h:Rds P W n t cs):∃m,RV W cs [.int k m]/\(Lit.int k m).wf=true:=by
 obtain ⟨H,enc,x,h⟩:=h;have hu:P.underlying t=some (.int k):=htt.sh hl;cases n with
 | zero=>simp [DataW.trod] at h
 | succ n =>
  unfold DataW.trod at h;rw [hu] at h
  split at h <;> simp_all
  rename_i k' m heq;exact ⟨m,.one (.int _ _) rfl,h.1.2⟩
theorem PN {a:Bool} {sz by_:Nat} {z:List D} (htt:TTok P tt) (hl:lk tt t=some ⟨.str,a,sz,by_,z⟩) (h:Rds P W n t cs):∃s,RV W cs [.str s]/\s.length<=maxLen:=by
 obtain ⟨H,enc,x,h⟩:=h;have hu:P.underlying t=some .string:=htt.sh hl;cases n with
 | zero=>simp [DataW.trod] at h
 | succ n =>
  unfold DataW.trod at h;rw [hu] at h
  split at h <;> simp_all
  rename_i s;exact ⟨s.data.toList,.one (.str _ _ rfl) rfl,by have:=h.1;simpa using this⟩
theorem RT {a:Addr} {k:Nat} {cs':List Value} (h:W.cells? 0 a k=some cs') (hk:0<k):a.spot=none/\∀(j:Nat) (v:Value),cs'[j]?=some v->(P8 W).cell a.block (a.off+j)=some v:=by
 obtain ⟨_,h2,h3⟩:=World.cells?_some h;have cell:∀(b:Addr) (v:Value),W.cell? b=some v->b.spot=none/\(P8 W).cell b.block b.off=some v:=by
  intro b v hb;unfold World.cell? at hb
  split at hb
  ·rename_i c t0 fz hh
   split at hb
   ·cases hb
   ·rename_i hs;refine ⟨by cases h:b.spot with | none=>rfl | some _=>rw [h] at hs;exact absurd rfl hs,?_⟩;unfold Imm.cell P8;rw [hh];exact hb
  ·cases hb
 have hs:a.spot=none:=by
  have hlt:0<cs'.length:=by omega
  have:=h3 0 hk;rw [List.getElem?_eq_getElem hlt] at this;exact (cell (a.add 0) _ this).1
 refine ⟨hs,λj v hv=>?_⟩;have hj:=(List.getElem?_eq_some_iff.1 hv).1;have:=(cell (a.add j) v (by rw [h3 j (by omega)];exact hv)).2;unfold Addr.add at this;by_cases h0:j=0
 ·subst h0;simpa using this
 ·rw [if_neg h0] at this;exact this
theorem GX {α:Type} {e:TypeId} {a:Bool} {sz by_:Nat} {z:List D} {i:TyI} {d:α->List V} (htt:TTok P tt) (hl:lk tt t=some ⟨.sl e,a,sz,by_,z⟩) (hi:lk tt e=some i) (hpos:0<i.size)
  (hd:∀x,(d x).length=i.size) (hel:∀m,m<n->∀cs',Rds P W m e cs'->∃x,RV W cs' (d x)) (h:Rds P W n t cs):∃xs:List α,RV W cs [.sl (xs.map d)]:=by
 obtain ⟨H,enc,x,h⟩:=h;have hu:P.underlying t=some (.slice e):=htt.sh hl;have hce:P.cellsOf e=i.size:=(htt e i hi).cellsOf;rcases DataW.trod_slice hu h with ⟨rfl,_⟩ | ⟨ad,len,cap,elems,rest,m,rfl,rfl,_,_,h1,h2,h3,h4,h5,_⟩
 ·exact ⟨[],.one .slnil rfl⟩
 rw [hce] at h4 h5;have he:∀k,k<len->∃(cs':List Value) (x:α),W.cells? 0 (ad.add (k*i.size)) i.size=some cs'/\RV W cs' (d x):=by
  intro k hk;have:=h4 k hk;rw [List.getElem?_eq_getElem (by omega)] at this;obtain ⟨cs',q1,q2⟩:=Option.bind_eq_some_iff.1 this;obtain ⟨x,hx⟩:=hel m (by omega) cs' ⟨H,enc,_,q2⟩;exact ⟨cs',x,q1,hx⟩
 have hch:∃(C:Nat->List Value) (X:Nat->Option α),∀k,k<len->∃x,X k=some x/\W.cells? 0 (ad.add (k*i.size)) i.size=some (C k)/\RV W (C k) (d x):=by
  classical
  refine ⟨λk=>if hk:k<len then (he k hk).choose else [],λk=>if hk:k<len then some ((he k hk).choose_spec.choose) else none,λk hk=>?_⟩;simp only [hk,dif_pos];exact ⟨_,rfl,(he k hk).choose_spec.choose_spec⟩
 obtain ⟨C,X,hCX⟩:=hch;have hlist:∀l,l<=len->∃xs:List α,xs.length=l/\∀k x,xs[k]?=some x->X k=some x:=by
  intro l
  induction l with
  | zero=>exact λ_=>⟨[],rfl,λk x h=>by simp at h⟩
  | succ l ih =>
   intro hl';obtain ⟨xs,q1,q2⟩:=ih (by omega);obtain ⟨x,hx,_⟩:=hCX l (by omega);refine ⟨xs++[x],by simp [q1],λk y hy=>?_⟩;by_cases hk:k<xs.length
   ·rw [List.getElem?_append_left hk] at hy;exact q2 k y hy
   ·rw [List.getElem?_append_right (by omega)] at hy;have:k-xs.length=0:=by
     have:=(List.getElem?_eq_some_iff.1 hy).1;simp at this;omega
    rw [this] at hy;cases hy;have:k=l:=by omega
    rw [this];exact hx
 obtain ⟨xs,hx1,hx2⟩:=hlist len (Nat.le_refl _);refine ⟨xs,.one ?_ rfl⟩;by_cases hcap:cap=0
 ·have:len=0:=by omega
  subst this;subst hcap;have:xs=[]:=List.eq_nil_of_length_eq_zero hx1;subst this;exact .sl0 ad
 have hspot:ad.spot=none:=by
  by_cases hlen:0<len
  ·obtain ⟨x,_,q,_⟩:=hCX 0 hlen;have:=(RT q hpos).1;simpa [Addr.add] using this
  ·have h6:=h5 rfl;have h7:=h6.2 0 (by omega);rw [List.getElem?_eq_getElem (by omega)] at h7;obtain ⟨cs',q1,q2⟩:=Option.bind_eq_some_iff.1 h7;have:=(RT q1 hpos).1;have hl0:len=0:=by omega
   subst hl0;simpa [Addr.add] using this
 obtain ⟨b,o,sp⟩:=ad;simp only at hspot;subst hspot;have hget:∀(k:Nat) (e:List V),(xs.map d)[k]?=some e->k<len/\∃x,X k=some x/\e=d x/\W.cells? 0 ⟨b,o+k*i.size,none⟩ i.size=some (C k)/\RV W (C k) (d x):=by
  intro k e hk;rw [List.getElem?_map,Option.map_eq_some_iff] at hk;obtain ⟨x,q1,q2⟩:=hk;have hlt:=(List.getElem?_eq_some_iff.1 q1).1;obtain ⟨y,r1,r2,r3⟩:=hCX k (by omega);rw [hx2 k x q1] at r1;cases r1;refine ⟨by omega,x,hx2 k x q1,q2.symm,?_,r3⟩;rw [<- r2];congr 1;unfold Addr.add;by_cases h0:k*i.size=0
  ·simp [h0]
  ·simp [h0]
 refine .sl b o len cap i.size _ (λk j=>(C k).getD j undef) (by simp [hx1]) h1 h2 (λe he=>?_) (λk e j x hk hj=>?_) (λk e j x hk hj=>?_)
 ·obtain ⟨x,_,rfl⟩:=List.mem_map.1 he;exact hd x
 ·obtain ⟨_,y,_,rfl,q3,q4⟩:=hget k e hk;have hlt:j<(C k).length:=by rw [q4.len];exact (List.getElem?_eq_some_iff.1 hj).1
  have hv:(C k)[j]?=some ((C k)[j]):=List.getElem?_eq_getElem hlt;have hD:(C k).getD j undef=(C k)[j]:=by simp [List.getD,hv]
  show (P8 W).cell b (o+k*i.size+j)=some ((C k).getD j undef)/\((C k).getD j undef).oneCell'=true;rw [hD];exact ⟨(RT q3 hpos).2 j _ hv,q4.2 _ (List.getElem_mem _)⟩
 ·obtain ⟨_,y,_,rfl,q3,q4⟩:=hget k e hk;have hlt:j<(C k).length:=by rw [q4.len];exact (List.getElem?_eq_some_iff.1 hj).1
  have hv:(C k)[j]?=some ((C k)[j]):=List.getElem?_eq_getElem hlt;have hD:(C k).getD j undef=(C k)[j]:=by simp [List.getD,hv]
  show RepV (P8 W) ((C k).getD j undef) x;rw [hD];exact q4.1.2 j _ x hv hj
theorem Hn {fs:List (Nat×TypeId)} {a:Bool} {sz by_:Nat} {z:List D} (htt:TTok P tt) (hl:lk tt t=some ⟨.struct fs,a,sz,by_,z⟩) (h:Rds P W n t cs) :
  cs.length=sz/\∃m,n=m+1/\∀(j off:Nat) (ft:TypeId) (i:TyI),fs[j]?=some (off,ft)->lk tt ft=some i->Rds P W m ft ((cs.drop off).take i.size):=by
 obtain ⟨H,enc,x,h⟩:=h;obtain ⟨fields,hu,hmap,_⟩:∃fields,P.underlying t=some (.struct fields)/\fields.toList.map (λf=>(f.offset,f.type))=fs/\∀f∈fields.toList,0<P.cellsOf f.type:=htt.sh hl;obtain ⟨xs,m,rfl,_,h1,h2,h3⟩:=DataW.trod_struct hu h;refine ⟨by rw [h1];exact (htt t _ hl).cellsOf,m,rfl,λj off ft i hj hi=>?_⟩;rw [<- hmap,List.getElem?_map,Option.map_eq_some_iff] at hj;obtain ⟨f,q1,q2⟩:=hj;cases q2;have hf:fields[j]?=some f:=by rw [<- Array.getElem?_toList];exact q1
 have hlt:=(Array.getElem?_eq_some_iff.1 hf).1;have:=h3 j f hf;rw [List.getElem?_eq_getElem (by omega),(htt _ i hi).cellsOf] at this;exact ⟨H,enc,_,this⟩
end
end Go.Hk
namespace Go.Hk
open Go.Proofs
section
variable {W:World}
theorem rX {α:Type} {l:List α} (h:l.length=4):∃a b c d,l=[a,b,c,d]:=by
 match l,h with
 | [a,b,c,d],_=>exact ⟨a,b,c,d,rfl⟩
theorem Nb (l:List Ty):l.map dTyc=BQ l:=(Dp l).symm
theorem Tp (tt0 ts tl:TypeId) (hs:lk XV tt0=some ⟨.struct [(0,ts),(1,3),(2,9),(3,tl)],true,4,56,[.imm (.int .i64 0),.imm (.int .i64 0),.imm (.str []),.nils]⟩)
  (h1:lk XV ts=some ⟨.int .i64,false,1,8,[.imm (.int .i64 0)]⟩) (h2:lk XV tl=some ⟨.sl tt0,false,1,24,[.nils]⟩) :
  ∀(n:Nat) (cs:List Value),Rds Tryz.prog W n tt0 cs->∃t:Ty,RV W cs (dTyc t):=by
 intro n
 induction n using Nat.strongRecOn with
 | ind n ih =>
  intro cs h;obtain ⟨hl,m,rfl,hf⟩:=Hn BK hs h;obtain ⟨a,b,c,d,rfl⟩:=rX hl;obtain ⟨s,r1,_⟩:=PO BK h1 (hf 0 0 ts _ rfl h1);obtain ⟨k,r2,_⟩:=PO BK rfl (hf 1 1 3 _ rfl rfl);obtain ⟨x,r3,_⟩:=PN BK rfl (hf 2 2 9 _ rfl rfl);obtain ⟨ps,r4⟩:=GX (d:=dTyc) BK h2 hs (show 0<4 by decide) dTyc_length (λm' hm cs'=>ih m' (by omega) cs') (hf 3 3 tl _ rfl h2);exact ⟨.mk s k x ps,by rw [dTyc,<- Nb];exact ((r1.app r2).app r3).app r4⟩
theorem To (n:Nat) (cs:List Value) (h:Rds Tryz.prog W n 26 cs):∃t:Ty,RV W cs (dTyc t):=Tp 26 23 24 rfl rfl rfl n cs h
theorem iG (n:Nat) (cs:List Value) (h:Rds Tryz.prog W n 69 cs):∃t:Ty,RV W cs (dTyc t):=Tp 69 67 27 rfl rfl rfl n cs h
theorem iH (n:Nat) (cs:List Value) (h:Rds Tryz.prog W n 75 cs):∃c:Cd,RV W cs (DN c):=by
 obtain ⟨hl,m,rfl,hf⟩:=Hn BK rfl h
 match cs,hl with
 | [a,b],_ =>
 obtain ⟨x,r1,_⟩:=PN BK rfl (hf 0 0 9 _ rfl rfl);obtain ⟨ts,r2⟩:=GX (d:=dTyc) BK rfl (e:=26) rfl (by decide) dTyc_length (λm' hm cs'=>To m' cs') (hf 1 1 24 _ rfl rfl);exact ⟨⟨x,ts⟩,by rw [DN,<- Nb];exact r1.app r2⟩
theorem cN (n:Nat) (cs:List Value) (h:Rds Tryz.prog W n 72 cs):∃c:Dt,RV W cs (CU c):=by
 obtain ⟨hl,m,rfl,hf⟩:=Hn BK rfl h
 match cs,hl with
 | [a,b],_ =>
 obtain ⟨x,r1,_⟩:=PN BK rfl (hf 0 0 9 _ rfl rfl);obtain ⟨ts,r2⟩:=GX (d:=DN) BK rfl (e:=75) rfl (by decide) (λ_=>rfl) (λm' hm cs'=>iH m' cs') (hf 1 1 70 _ rfl rfl);exact ⟨⟨x,ts⟩,r1.app r2⟩
end
end Go.Hk
namespace Go.Hk
open Go.Proofs
section
variable {W:World}
theorem read_val:∀(n:Nat) (cs:List Value),Rds Tryz.prog W n 46 cs->∃t:Ty,RV W cs (dTyc t):=by
 intro n
 induction n using Nat.strongRecOn with
 | ind n ih =>
  intro cs h;obtain ⟨hl,m,rfl,hf⟩:=Hn DM rfl h;obtain ⟨a,b,c,d,rfl⟩:=rX hl;obtain ⟨s,r1,_⟩:=PO DM rfl (hf 0 0 44 _ rfl rfl);obtain ⟨k,r2,_⟩:=PO DM rfl (hf 1 1 3 _ rfl rfl);obtain ⟨x,r3,_⟩:=PN DM rfl (hf 2 2 9 _ rfl rfl);obtain ⟨ps,r4⟩:=GX (d:=dTyc) DM rfl (e:=46) rfl (show 0<4 by decide) dTyc_length (λm' hm cs'=>ih m' (by omega) cs') (hf 3 3 33 _ rfl rfl);exact ⟨.mk s k x ps,by rw [dTyc,<- Nb];exact ((r1.app r2).app r3).app r4⟩
theorem read_case (n:Nat) (cs:List Value) (h:Rds Tryz.prog W n 29 cs):∃c:Cse,RV W cs (dCse c):=by
 obtain ⟨hl,m,rfl,hf⟩:=Hn DM rfl h
 match cs,hl with
 | [a0,a1,a2,a3,a4,a5],_ =>
 obtain ⟨ds,r1⟩:=GX (d:=CU) DM rfl (e:=72) rfl (by decide) (λ_=>rfl) (λm' hm cs'=>cN m' cs') (hf 0 0 22 _ rfl rfl);obtain ⟨t1,r2⟩:=To _ _ (hf 1 1 26 _ rfl rfl);obtain ⟨ps,r3⟩:=GX (d:=dTyc) DM rfl (e:=69) rfl (by decide) dTyc_length (λm' hm cs'=>iG m' cs') (hf 2 5 27 _ rfl rfl);exact ⟨⟨ds,t1,ps⟩,by rw [dCse,<- Nb];exact (r1.app r2).app r3⟩
end
end Go.Hk
namespace Go.Hk
open Go.RowKit Go.WideShapes Go.ChangeShapes Go.ChangeAt
theorem Mr {H:Type} {enc:TypeId×Value->H} {P:Program} (hl:laidOutB P=true) {W W':World} (hb:Below W.heap.size W W') {sp:Nat->Bool} :
  ∀{ts:List TypeId} {vs:List Value} {ds:List (DataW H)} {ps:List MemPlace},ts.all (λt=>P.readableRec t&&decide (t<P.types.size))=true->DataW.TrodAll enc P W 0 (λ_=>true) true ts vs ds ps ->
   (∀p∈ps,p.block<W.heap.size)->(∀p∈ps,sp p.block=true)->DataW.TrodAll enc P W' 0 sp true ts vs ds ps
 | [],[],[],_,_,h,_,_=>h
 | [],[],_::_,_,_,h,_,_=>h.elim
 | [],_::_,_,_,_,h,_,_=>h.elim
 | _::_,[],_,_,_,h,_,_=>h.elim
 | _::_,_::_,[],_,_,h,_,_=>h.elim
 | t::ts,v::vs,d::ds,ps,ht,h,hlt,hs=>by
  obtain ⟨p,q,h1,h2,rfl⟩:=h;rw [List.all_cons,Bool.and_eq_true,Bool.and_eq_true,decide_eq_true_eq] at ht;refine ⟨p,q,WideElems.Trod_stays hl ht.1.1 ht.1.2 h1 (λx hx=>hb.same (hlt x (List.mem_append_left _ hx))) (λx hx=>hs x (List.mem_append_left _ hx)),?_,rfl⟩;exact Mr hl hb ht.2 h2 (λx hx=>hlt x (List.mem_append_right _ hx)) (λx hx=>hs x (List.mem_append_right _ hx))
theorem Rds.of {H:Type} {enc:TypeId×Value->H} {P:Program} {W:World} {t:TypeId} {v:Value} {d:DataW H} {ps:List MemPlace} (h:DataW.Trod enc P W 0 (λ_=>true) true t v d ps):∃n,Rds P W n t v.cells.toList:=by
 obtain ⟨n,hn⟩:=h;exact ⟨n,H,enc,_,hn⟩
section
variable {H:Type} {enc:TypeId×Value->H} {P:Program} {W:World} {sp:Nat->Bool} {hd:Bool}
theorem fZ {vs:List Value} {ds:List (DataW H)} {ps:List MemPlace} (h:DataW.TrodAll enc P W 0 sp hd [] vs ds ps):vs=[]/\ds=[]:=by
 cases vs with
 | nil=>cases ds with
  | nil=>exact ⟨rfl,rfl⟩
  | cons=>exact h.elim
 | cons=>cases ds <;> exact h.elim
theorem V8 {t:TypeId} {ts:List TypeId} {vs:List Value} {ds:List (DataW H)} {ps:List MemPlace} (h:DataW.TrodAll enc P W 0 sp hd (t::ts) vs ds ps) :
  ∃v vs' d ds' p q,vs=v::vs'/\ds=d::ds'/\DataW.Trod enc P W 0 sp hd t v d p/\DataW.TrodAll enc P W 0 sp hd ts vs' ds' q:=by
 cases vs with
 | nil=>cases ds <;> exact h.elim
 | cons v vs=>cases ds with
  | nil=>exact h.elim
  | cons d ds =>
   obtain ⟨p,q,h1,h2,_⟩:=h;exact ⟨v,vs,d,ds,p,q,rfl,rfl,h1,h2⟩
theorem fY {t:TypeId} {vs:List Value} {ds:List (DataW H)} {ps:List MemPlace} (h:DataW.TrodAll enc P W 0 sp hd [t] vs ds ps):∃v d p,vs=[v]/\ds=[d]/\DataW.Trod enc P W 0 sp hd t v d p:=by
 obtain ⟨v,vs',d,ds',p,q,rfl,rfl,h1,h2⟩:=V8 h;obtain ⟨rfl,rfl⟩:=fZ h2;exact ⟨v,d,p,rfl,rfl,h1⟩
theorem trodAll2 {t u:TypeId} {vs:List Value} {ds:List (DataW H)} {ps:List MemPlace} (h:DataW.TrodAll enc P W 0 sp hd [t,u] vs ds ps) :
  ∃v w d e p q,vs=[v,w]/\ds=[d,e]/\DataW.Trod enc P W 0 sp hd t v d p/\DataW.Trod enc P W 0 sp hd u w e q:=by
 obtain ⟨v,vs',d,ds',p,q,rfl,rfl,h1,h2⟩:=V8 h;obtain ⟨w,e,q,rfl,rfl,h3⟩:=fY h2;exact ⟨v,w,d,e,p,q,rfl,rfl,h1,h3⟩
end
theorem agg_of {P:Program} {W:World} {base:Nat} {t:TypeId} {v:Value} {fs:Array Field} (hu:P.underlying t=some (.struct fs)) (h:Value.okWide P W .any base t v):∃cs,v = .agg cs:=by
 unfold Value.okWide at h;rw [hu] at h;obtain ⟨cs,e,_⟩:=h;exact ⟨cs,e⟩
theorem SD {P : Program} {f : FuncId} {fn : Func} {c : Code} (hf : P.funcs[f]? = some fn) (hname : (fn.name == "runtime.NumGoroutine") = false) (hb : fn.body = some c) {W : World} {args : Array Value} {vs : List V} {b : Bool} (hv : RepVL (P8 W) args.toList vs) (hp : Ak P f vs (.bool b)) :
  Calls P f args W λe W'=>e = .returned (.bool b)/\Below W.heap.size W W':=by
 have h:=hp (P8 W) (λ_=>none) W args { imm:=nN W,blk:=λid blk hl=>(by cases hl),apart:=λid blk g b hl=>(by cases hl),inj:=λi j bi bj gi gj b hl=>(by cases hl),nodup:=.nil,idsFree:=λid hi=>(by cases hi) }
  ⟨by simpa using hv.1,λi v d h1 h2=>by
   rw [List.getElem?_map,Option.map_eq_some_iff] at h2;obtain ⟨x,q1,rfl⟩:=h2;exact .imm _ _ (hv.2 i v x h1 q1)⟩
 rw [BW hf hname hb] at h;refine Calls.mono h λe w' he=>?_;cases e with
 | returned v =>
  obtain ⟨I',μ',h1,_,_,h4⟩:=he;cases h1 with
  | imm v x hx =>
   cases hx;exact ⟨rfl,h4.below⟩
 | panicked=>exact he.elim
 | outgrown=>exact he.elim
theorem law_done {H:Type} {enc:TypeId×Value->H} {P:Program} {f:FuncId} {fn:Func} {c:Code} {s:ChangeSpec} {apart fresh handsOn again:Bool} {W:World} {args:Array Value} {ds gs:List (DataW H)} {before:List MemPlace} {tb:TypeId} {vs:List V}
  (hW : DataW.Whole enc P fn.params.toList s.vars apart W args.toList ds gs before) (hv : s.vars = []) (hf : P.funcs[f]? = some fn) (hname : (fn.name == "runtime.NumGoroutine") = false) (hb : fn.body = some c) (hrt : fn.resultTypes = #[tb]) (hbool : P.underlying tb = some .bool)
  (hl:laidOutB P=true) (hpar:fn.params.toList.all (λt=>P.readableRec t&&decide (t<P.types.size))=true) (hs:s.fn H ds={ results:=[.lit (.bool true)],args:=ds }) (hx:RepVL (P8 W) args.toList vs) (hp:Ak P f vs (.bool true)) :
  Calls P f args W λe W'=>∃v,e = .returned v/\s.post enc P fn apart fresh handsOn again W args v W':=by
 refine (SD hf hname hb hx hp).mono λe W' ⟨he,hg⟩=>?_;subst he;have hW':=hW;obtain ⟨p,q,hA,hV,e1,hfz,hnd⟩:=hW;rw [hv] at hV;have hg0:gs=[]/\q=[]:=by
  cases gs with
  | nil=>exact ⟨rfl,hV⟩
  | cons=>exact hV.elim
 obtain ⟨rfl,rfl⟩:=hg0;rw [List.append_nil] at e1;subst e1;have hlt:=hW'.lt;refine ⟨_,rfl,jQ (pa:=before) (pv:=[]) hW' hg (by simp) (λb sp hd=>?_) (λsp hsp=>?_) (λsp hsp=>?_) ?_⟩
 ·rw [List.append_nil,hs,hrt];exact trodAll_cons_mk (shut_bool hbool _) trodAll_mk0
 ·rw [List.append_nil,hs];exact Mr hl hg hpar hA hlt hsp
 ·rw [List.append_nil,hs,hv];rfl
 ·exact ok_one hrt rfl (okWide_bool_mk hbool _)
end Go.Hk
namespace Go.Proofs.YtegabgaflilabaaGreat.coverTotal
open Go.ChangeShapes Go.WideShapes Go.RowKit
set_option linter.unusedVariables false
theorem own:ownKnob Tryz.prog.godebug=none:=by kernel_rfl
theorem qG (os:Os) (started:os.Started) (H:Type) (enc:TypeId×Value->H) :
  ReturnsInHanded {} Tryz.checked os 4 .any (Rows.coverTotalSpec.pre6 enc Tryz.prog Tryz.f4 Rows.coverTotalRow.domain false) (Rows.coverTotalSpec.post enc Tryz.prog Tryz.f4 false true false false):=by
 refine returnsInHanded_of_change (C:=Tryz.checked) own started (by kernel_rfl) Tryz.func4
  (ChangeSpec.witness6 (enc:=enc) (C:=Tryz.checked) false ⟨#[],#[.agg #[.slice none 0 0,.int .i64 0,.int .i64 0,.string ⟨#[]⟩,.slice none 0 0,.slice none 0 0],.agg #[.int .i64 0,.int .i64 0,.string ⟨#[]⟩,.slice none 0 0]],[]⟩ 8 (by kernel_rfl) (by kernel_rfl) (by kernel_rfl) (by kernel_rfl)) ?_
 intro W base args ds gs before hval hW hcnd _;obtain ⟨p,q,hA,_⟩:=id hW;obtain ⟨v1,v2,d1,d2,p1,p2,e1,rfl,hd1,hd2⟩:=Hk.trodAll2 (t:=29) (u:=46) hA;obtain ⟨args⟩:=args;simp only at e1;subst e1;obtain ⟨n1,hn1⟩:=Hk.Rds.of hd1;obtain ⟨n2,hn2⟩:=Hk.Rds.of hd2;obtain ⟨m1,hm1⟩:=Hk.read_case n1 _ hn1;obtain ⟨m2,hm2⟩:=Hk.read_val n2 _ hn2;obtain ⟨c1,rfl⟩:=Hk.agg_of Tryz.underlying29 (hval 0 29 v1 rfl rfl);obtain ⟨c2,rfl⟩:=Hk.agg_of Tryz.underlying46 (hval 1 46 v2 rfl rfl);exact Hk.law_done hW rfl Tryz.func4 (by decide +kernel) rfl rfl Tryz.underlying4 (by kernel_rfl) (by kernel_rfl) rfl (vs:=[.agg (Hk.dCse m1),.agg (Hk.dTyc m2)]) (.mk (Hk.RV.agg hm1) (.mk (Hk.RV.agg hm2) .nil)) (Hk.CoverTotal_of m1 m2)
theorem over:Rows.coverTotalRow.holds Tryz.pinned (OpenSpec.ofChange Rows.coverTotalSpec) :=
 OpenClaim.holds_of_wide 4 Tryz.f4 rfl rfl rfl rfl rfl rfl rfl ⟨rfl,rfl,rfl,rfl,rfl⟩ rfl rfl rfl rfl rfl (by kernel_rfl) Tryz.func4 (by kernel_rfl)
  (of_decide_eq_true (by kernel_rfl)) (by unfold Func.isWrapper;first | (rw [if_pos (by decide +kernel)];kernel_rfl) | (rw [if_neg (by decide +kernel)];exact ⟨rfl,rfl⟩))
  (λos started H enc _=>qG os started H enc)
theorem proved:Rows.CoverTotalSaid :=
 over
end Go.Proofs.YtegabgaflilabaaGreat.coverTotal
