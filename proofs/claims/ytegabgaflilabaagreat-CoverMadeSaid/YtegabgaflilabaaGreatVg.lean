/- hearthlaw04.CoverMade returns true for every case, and changes nothing: the first value that no row matches, and the rows that are of no use. No condition. (And what it stands on.) -/
import Derived.Test.YtegabgaflilabaaGreatVf
import Derived.Test.YtegabgaflilabaaGreatVb
import Derived.Below
import Derived.ChangeSame
import Derived.ChangeOld
import Derived.Carry
import Derived.ChangeArms
import Derived.DataReads
import Derived.WideKeyArgs
import Derived.OpenShut
import Derived.RowKit
import Derived.ProofKit
import Derived.Test.YtegabgaflilabaaGreatRows
import Derived.WalkKit
set_option linter.unusedSimpArgs false
set_option linter.unusedVariables false

set_option maxRecDepth 100000
set_option maxHeartbeats 4000000
namespace Go.Hk
open Go.Proofs
theorem Qf (c:Cse) (m:Mi) (r:Int) (hlen:c.rows.length<=1000) (hF:Al Tryz.prog 106 [.agg (dCse c),.agg (Cj none),.agg (Cj none)] (.agg (Cj none)))
  (hL:∀j:Int,-1<=j->j<c.rows.length->j≠r->Al Tryz.prog 107 [.agg (dCse c),.agg (DL m),.int .i64 j] (.agg (Cj none))) :
  Al Tryz.prog 53 [.agg (dCse c),.agg (G9 (DH r)),.agg (DL m)] (.agg (Cj none)):=by
 obtain ⟨ds,⟨c1,c2,c3,c4⟩,rows⟩:=c;obtain ⟨⟨so,n,x,ps⟩,nt,⟨hf,hd2,hd3,hd4⟩,ks⟩:=m;simp only at hlen hL;refine Ae Ai Tryz.func53 (by decide +kernel) rfl [1,2,3,4,5,6,7,8] rfl rfl ?_;refine Aj rfl ?_;refine Ah rfl λh=>?_;refine Ak rfl ?_;refine Rv 5 [.bool false,.int .i64 0,.int .i64 0,.str [],.sl []] rfl rfl ?_;refine An (λk:Nat=>[(8,.imm (.int .i64 ((k:Int)-1))),(3,.ref 1 0),(4,.ref 2 0),(5,.ref 3 0),(6,.ref 4 0),(7,.ref 5 0)])
  (λ_=>[(1,some (.immb 29 6 (dCse ⟨ds,.mk c1 c2 c3 c4,rows⟩))),(2,some (.immb 36 4 (G9 (DH r)))),(3,some (.immb 108 10 (DL (.mk (.mk so n x ps) nt (.mk hf hd2 hd3 hd4) ks)))),
   (4,some (.cells 48 5 [.imm (.bool false),.imm (.int .i64 0),.imm (.int .i64 0),.imm (.str []),.nils])),(5,some (.immb 48 5 (Cj none)))]) [6,7,8] (λk=>rows.length+1-k) (λk=>k<=rows.length+1) 0 (Nat.zero_le _)
  ⟨A0 (by simp),rfl,rfl,rfl,rfl,rfl,trivial⟩ ⟨rfl,rfl,rfl,rfl,rfl,trivial⟩ rfl λk hk ih=>?_
 refine Ak rfl ?_;refine Ab rfl (λh=>?_) (λh=>?_)
 ·have hlt:(k:Int)-1<rows.length:=by simpa using h
  have hih:=ih (k+1) (by omega) (by omega);refine Ak rfl ?_;by_cases e:(k:Int)-1=r
  ·refine Ab rfl (λh=>by exfalso;simp [e] at h) (λh=>?_);refine Ak rfl ?_;exact Ad hih ⟨A0 (by rw [B2 (by omega) (by omega)];omega),rfl,rfl,rfl,rfl,rfl,trivial⟩ ⟨rfl,rfl,rfl,rfl,rfl,trivial⟩ rfl
  ·refine Ab rfl (λh=>?_) (λh=>by exfalso;simp at h;exact e h);have hLi:=hL ((k:Int)-1) (by omega) hlt e;refine Ak rfl ?_;refine Ag rfl hLi ?_;refine Aj rfl ?_;refine Ag rfl hF ?_;refine mg [] rfl (by simp;rfl) ?_;exact Ad hih ⟨A0 (by rw [B2 (by omega) (by omega)];omega),rfl,rfl,rfl,rfl,rfl,trivial⟩ ⟨rfl,rfl,rfl,rfl,rfl,trivial⟩ rfl
 ·refine Aw rfl ?_;refine Ak rfl ?_;exact Aa rfl rfl rfl
theorem Xv (c:Cse) (m MT MF:Mi) (path:List Int) (h:Ty) (a b:Nd)
  (hF:Al Tryz.prog 106 [.agg (dCse c),.agg (Cj none),.agg (Cj none)] (.agg (Cj none)))
  (sT:Al Tryz.prog 101 [.agg (dCse c),.agg (DL m),.sl (AJ path),.agg (G0 h),.bool true] (.agg (DL MT)))
  (sF:Al Tryz.prog 101 [.agg (dCse c),.agg (DL m),.sl (AJ path),.agg (G0 h),.bool false] (.agg (DL MF)))
  (hA:Al Tryz.prog 53 [.agg (dCse c),.agg (G9 a),.agg (DL MT)] (.agg (Cj none)))
  (hB:Al Tryz.prog 53 [.agg (dCse c),.agg (G9 b),.agg (DL MF)] (.agg (Cj none))) :
  Al Tryz.prog 53 [.agg (dCse c),.agg (G9 (.mk 0 path [h] [a,b])),.agg (DL m)] (.agg (Cj none)):=by
 obtain ⟨ds,⟨c1,c2,c3,c4⟩,rows⟩:=c;obtain ⟨⟨so,n,x,ps⟩,nt,⟨hf,hd2,hd3,hd4⟩,ks⟩:=m;obtain ⟨⟨so1,n1,x1,ps1⟩,nt1,⟨hf1,hd21,hd31,hd41⟩,ks1⟩:=MT;obtain ⟨⟨so2,n2,x2,ps2⟩,nt2,⟨hf2,hd22,hd32,hd42⟩,ks2⟩:=MF;obtain ⟨a1,a2,a3,a4⟩:=a;obtain ⟨b1,b2,b3,b4⟩:=b;obtain ⟨z1,z2,z3,z4⟩:=h;refine Ae Ai Tryz.func53 (by decide +kernel) rfl [1,2,3,4,5,6,7,8] rfl rfl ?_;refine Aj rfl ?_;refine Ab rfl (λh=>by exfalso;simp [HD] at h) (λh=>?_);clear h;refine Ak rfl ?_;refine Rv 5 [.bool false,.int .i64 0,.int .i64 0,.str [],.sl []] rfl rfl ?_;refine An (λi:Nat=>[(10,.imm (.int .i64 i)),(3,.ref 1 0),(4,.ref 2 0),(5,.ref 3 0),(6,.ref 4 0),(7,.ref 5 0),(9,.ref 6 0)])
  (λi=>[(1,some (.immb 29 6 (dCse ⟨ds,.mk c1 c2 c3 c4,rows⟩))),(2,some (.immb 36 4 (G9 (.mk 0 path [.mk z1 z2 z3 z4] [.mk a1 a2 a3 a4,.mk b1 b2 b3 b4])))),(3,some (.immb 108 10 (DL (.mk (.mk so n x ps) nt (.mk hf hd2 hd3 hd4) ks)))),
   (4,some (.cells 48 5 [.imm (.bool false),.imm (.int .i64 0),.imm (.int .i64 0),.imm (.str []),.nils])),(5,some (.immb 48 5 (Cj none))),(6,some (.immb 108 10 (DL (if i=0 then .mk (.mk so n x ps) nt (.mk hf hd2 hd3 hd4) ks else .mk (.mk so2 n2 x2 ps2) nt2 (.mk hf2 hd22 hd32 hd42) ks2))))]) [7,8] (λi=>1-i) (λi=>i<=1) 0 (by omega)
  ⟨rfl,rfl,rfl,rfl,rfl,rfl,rfl,trivial⟩ ⟨rfl,rfl,rfl,rfl,rfl,rfl,trivial⟩ rfl λi hi ih=>?_
 obtain hi | hi:i=0\/i=1:=by omega
 ·subst hi;have hih:=ih 1 (by omega) (by omega);simp only [if_pos,if_neg (show ¬(1:Nat)=0 by decide)] at hih ⊢;refine Ak rfl ?_;refine Ab rfl (λh=>?_) (λh=>by exfalso;simp [BQ] at h);clear h;refine Ak rfl ?_;refine mi rfl (c:=[.int .i64 a1,.sl (AJ a2),.sl (BQ a3),.sl (HD a4)]) (λ_=>⟨by simp,by simp [HD,G9],by simp⟩) (by simp) ?_;refine Aj rfl ?_;refine mi rfl (c:=G0 (.mk z1 z2 z3 z4)) (λ_=>⟨by simp,by simp [BQ],by simp⟩) (by simp) ?_;refine Aj rfl ?_;refine Ag rfl sT ?_;refine Aj rfl ?_;refine Ag rfl hA ?_;refine Aj rfl ?_;refine Ag rfl hF ?_;refine mg [] rfl (by simp;kernel_rfl) ?_;refine mi rfl (c:=G0 (.mk z1 z2 z3 z4)) (λ_=>⟨by simp,by simp [BQ],by simp⟩) (by simp) ?_;refine Aj rfl ?_
  refine Ag rfl sF ?_;refine mg [] rfl (by simp;kernel_rfl) ?_;exact Ad hih ⟨A0 (B2 (by omega) (by omega)),rfl,rfl,rfl,rfl,rfl,rfl,trivial⟩ ⟨rfl,rfl,rfl,rfl,rfl,rfl,trivial⟩ rfl
 ·subst hi;simp only [if_neg (show ¬(1:Nat)=0 by decide)];refine Ak rfl ?_;refine Ab rfl (λh=>by exfalso;simp [BQ] at h) (λh=>?_);clear h;refine Aw rfl ?_;refine Ak rfl ?_;refine mi rfl (c:=[.int .i64 b1,.sl (AJ b2),.sl (BQ b3),.sl (HD b4)]) (λ_=>⟨by simp [BQ],by simp [BQ,HD,G9],by simp⟩) (by simp) ?_;refine Aj rfl ?_;refine Ag rfl hB ?_;refine Aj rfl ?_;refine Ag rfl hF ?_;refine mg [] rfl (by simp;kernel_rfl) ?_;exact Aa rfl rfl rfl
def cR (c:Cse) (m:Mi) (row:Nat):Prop:=UZ c.datas m/\∀v,IS c.datas m v->∀i p,i<row->c.rows[i]?=some p->(Bo p v).2=false
theorem jC {c:Cse} (h:By c=true) {N:Nat} (hN:N<=900000) {m:Mi} (hm:MOk c.datas c.type N m) (hnt:UZ c.datas m) {j:Int} (h1 : -1<=j) (h2:j<c.rows.length) (hv:∀v,IS c.datas m v->Dw v 0 c.rows≠j):EW c m j=none:=by
 have ho:=OkW.of h;have hr:=RowsOk.of h;obtain ⟨w1,w2⟩:=Ud hr j;obtain ⟨v1,_⟩:=IX ho (by omega) hm w1 w2;have hmin:=X0 ho (grtW.of h) (CN h).2.2.1 60 N _ _ _ (by omega) hm hnt w1 (eV _ _) v1;rw [show FZ c.datas m (Eo c.rows j)=EW c m j from rfl] at hmin;cases e:EW c m j with
 | none=>rfl
 | some w =>
  rw [e] at hmin;exact absurd ((Y7 w c.rows j h1 h2).1 hmin.1.2) (hv w hmin.1.1)
mutual
theorem VW {ds:List Dt} (ho:OkW ds) {N:Nat}:∀(p:Ty) {m:Mi} {v:Ty},GV ds N m=true->Ed ds m->Cz ds m.ty p=true->BP p=true->(Ar ds p m).1=2 ->
  IS ds (A3 ds m (Ar ds p m).2.1 (Ar ds p m).2.2 false) v->(Bo p v).2=false
 | .mk f n x ps,m,v,hw,hc,hp,hpp,hl,hv=>by
  have hn:=(AR.1 hw).1.1;have hsw:=Cy ho hw;have hsc:=Da (ds:=ds) hc;by_cases h12:f=1\/f=2
  ·have e:Ar ds (.mk f n x ps) m=(1,[],zT):=by simp only [Ar,if_pos h12]
   rw [e] at hl;simp at hl
  obtain ⟨k1,k2,k3,k4⟩:=Ke hn hp hpp h12;have em:Bo (.mk f n x ps) v=if AB (AO (.mk f n x ps)) v=false then ([],false) else B0 ps (B4 v):=by
   simp only [Bo,if_neg (λh=>h12 (.inl h)),if_neg (λh=>h12 (.inr h))]
  rw [em];have el:Ar ds (.mk f n x ps) m=if AK (Ac ds m).hd=0/\Bj (Ac ds m).nt (AO (.mk f n x ps))=false then (2,[],AO (.mk f n x ps)) else
   if AK (Ac ds m).hd=0\/AB (Ac ds m).hd (AO (.mk f n x ps))=false then (0,[],zT) else AP ds 0 ps (Ac ds m).ks:=by simp only [Ar,if_neg h12]
  rw [el] at hl hv;have key:AK (Ac ds m).hd≠0->AB (Ac ds m).hd (AO (.mk f n x ps))=true->(AZ ds m.ty (C5 (AO (.mk f n x ps)))).1=(Ac ds m).ks.map Mi.ty:=λh0 hE=>by
   have:=((BI.1 hsc).2.1 h0).2;rw [IG hE,D6] at this;exact this.symm
  have hs0:AK (Ac ds m).hd=0->Ac ds m=m:=Tg;generalize AO (.mk f n x ps)=h at *;by_cases h0:AK (Ac ds m).hd=0/\Bj (Ac ds m).nt h=false
  ·rw [if_pos h0] at hv;have e:=hs0 h0.1;rw [e] at h0;rw [show A3 ds m [] h false = .mk m.ty (m.nt++[h]) m.hd m.ks from rfl,BL] at hv;have:=hv.2.1 h0.1;simp only [Bj,Mi.nt,List.any_append,Bool.or_eq_false_iff,List.any_cons,List.any_nil,Bool.or_false] at this;rw [if_pos this.2]
  ·rw [if_neg h0] at hl hv;by_cases h1:AK (Ac ds m).hd=0\/AB (Ac ds m).hd h=false
   ·rw [if_pos h1] at hl;simp at hl
   ·rw [if_neg h1] at hl hv;have h00:AK (Ac ds m).hd≠0:=λe=>h1 (.inl e);have hE:AB (Ac ds m).hd h=true:=by cases e:AB (Ac ds m).hd h with
     | true=>rfl
     | false=>exact absurd (.inr e) h1
    rw [key h00 hE] at k3;obtain ⟨j,k,j1,j2,j3⟩:=Tt ho ps (l:=(Ac ds m).ks) (i:=0) (λk hk=>⟨(AR.1 hsw).2.2 k hk,(BI.1 hsc).2.2 k hk⟩) k3 k4 hl;generalize (AP ds 0 ps (Ac ds m).ks).2.2=hd at *;generalize (AP ds 0 ps (Ac ds m).ks).2.1=pth at *;rw [j1] at hv;simp only [A3,Int.zero_add,Int.toNat_natCast,j2] at hv;obtain ⟨hv1,hv2⟩:=(BL.1 hv).2.2 h00;simp only [Mi.hd,Mi.ks] at hv1 hv2;have he:AB h v=true:=by rw [<- HZ hE];exact hv1
    rw [if_neg (by rw [he];simp)];exact j3 (B4 v) hv2
theorem Tt {ds:List Dt} (ho:OkW ds) {N:Nat}:∀(ps:List Ty) {l:List Mi} {i:Int},(∀k∈l,GV ds N k=true/\Ed ds k)->Cp ds (l.map Mi.ty) ps=true->BF ps=true->(AP ds i ps l).1=2 ->
  ∃(j:Nat) (k:Mi),(AP ds i ps l).2.1=(i+j)::(AP ds i ps l).2.1.tail/\l[j]?=some k/\∀vs,DS ds (l.set j (A3 ds k (AP ds i ps l).2.1.tail (AP ds i ps l).2.2 false)) vs->(B0 ps vs).2=false
 | [],l,i,_,_,_,h=>by simp [AP] at h
 | p::r,[],i,_,_,_,h=>by simp [AP] at h
 | p::r,k::ks,i,hk,hp,hpp,h=>by
  simp only [List.map_cons,Cp,BF,Bool.and_eq_true] at hp hpp;simp only [AP] at h ⊢;by_cases h1:(Ar ds p k).1=1
  ·rw [if_pos h1] at h ⊢;obtain ⟨j,y,y1,y2,y3⟩:=Tt ho r (l:=ks) (i:=i+1) (λy hy=>hk y (by simp [hy])) hp.2 hpp.2 h;refine ⟨j+1,y,by rw [y1];simp only [List.tail_cons,List.cons.injEq,and_true];omega,by simpa using y2,λvs hv=>?_⟩;cases vs with
   | nil=>simp only [List.set_cons_succ,DS] at hv
   | cons v vs =>
    simp only [List.set_cons_succ,DS] at hv;have:=y3 vs hv.2;simp only [B0,this,Bool.and_false];rfl
  ·rw [if_neg h1] at h ⊢;refine ⟨0,k,by simp,rfl,λvs hv=>?_⟩;cases vs with
   | nil=>simp only [List.set_cons_zero,DS] at hv
   | cons v vs =>
    simp only [List.set_cons_zero,DS,List.tail_cons] at hv;have:=VW ho p (hk k (by simp)).1 (hk k (by simp)).2 hp.1 hpp.1 h hv.1;simp only [B0,this,Bool.false_and];rfl
end
theorem Y8 (c:Cse) (ho:OkW c.datas) (hn:AI c.datas c.type=true):Al Tryz.prog 106 [.agg (dCse c),.agg (Cj none),.agg (Cj none)] (.agg (Cj none)):=by
 have:=TH c ho hn none none (λv h=>by cases h) (λv h=>by cases h);exact this
theorem cQ {c:Cse} {m:Mi} {row:Nat} {p:Ty} {v:Ty} (hB:cR c m row) (hp:c.rows[row]?=some p) (hv:IS c.datas m v) (hm:(Bo p v).2=true):Dw v 0 c.rows=row:=by
 have:=(Ro v c.rows 0 row p hp).2 ⟨λq hq=>?_,hm⟩
 ·simpa using this
 ·obtain ⟨i,hi⟩:=List.mem_iff_getElem?.1 hq;rw [List.getElem?_take] at hi
  split at hi
  ·exact hB.2 v hv i q (by assumption) hi
  ·cases hi
theorem jJ {c:Cse} {m:Mi} {v:Ty} (hB:cR c m c.rows.length) (hv:IS c.datas m v):Dw v 0 c.rows = -1 :=
 (NR v c.rows 0).2 λp hp=>by
  obtain ⟨i,hi⟩:=List.mem_iff_getElem?.1 hp;exact hB.2 v hv i p (List.getElem?_eq_some_iff.1 hi).1 hi
theorem Wd {c:Cse} {m m':Mi} {row:Nat} {p:Ty} (hB:cR c m row) (hnt:UZ c.datas m') (hp:c.rows[row]?=some p) (h1:∀v,IS c.datas m' v->IS c.datas m v) (h2:∀v,IS c.datas m' v->(Bo p v).2=false):cR c m' (row+1) :=
 ⟨hnt,λv hv i q hi hq=>by
  by_cases e:i=row
  ·subst e;rw [hp] at hq;cases hq;exact h2 v hv
  ·exact hB.2 v (h1 v hv) i q (by omega) hq⟩
theorem Xw (c:Cse) (h:By c=true):∀(d N:Nat) (m:Mi) (row:Nat) (left:Int),N+d<=100000->MOk c.datas c.type N m->cR c m row->row<=c.rows.length->(B1 c.datas d (c.rows.drop row) row m left).2.1=true ->
  Al Tryz.prog 53 [.agg (dCse c),.agg (G9 (B1 c.datas d (c.rows.drop row) row m left).1),.agg (DL m)] (.agg (Cj none)):=by
 have ho:=OkW.of h;have hr:=RowsOk.of h;have hn:=(CN h).2.2.1;have hrl:=hr.len;have hF:=Y8 c ho hn;have hled:∀(N:Nat) (m:Mi) (r:Int),N<=100000->MOk c.datas c.type N m->UZ c.datas m->(∀v,IS c.datas m v->Dw v 0 c.rows=r)->∀j:Int,-1<=j->j<c.rows.length->j≠r->Al Tryz.prog 107 [.agg (dCse c),.agg (DL m),.int .i64 j] (.agg (Cj none)):=λN m r hN hm hnt hv j j1 j2 j3=>by
  have:=mP c ho hn hr N (by omega) m hm j j1 j2;rw [jC h (by omega) hm hnt j1 j2 (λv hv' e=>j3 (by rw [<- e,hv v hv']))] at this;exact this
 intro d N m row left hN hm hB hrow hf;refine Rh ho hr (K:=λ_ m _ t=>Al Tryz.prog 53 [.agg (dCse c),.agg (G9 t),.agg (DL m)] (.agg (Cj none))) (cR c)
  (λN m row p hN hm hB hp h1=>Qf c m row (by omega) hF (hled N m row hN hm hB.1 λv hv=>cQ hB hp hv ?_))
  (λN m hN hm hB=>Qf c m (-1) (by omega) hF (hled N m (-1) hN hm hB.1 λv hv=>jJ hB hv))
  (λN m row p t hN hm hB hp h0=>⟨Wd hB hB.1 hp (λv hv=>hv) λv hv=>?_,λh=>h⟩) (λN m row p a b hN hm hB hp h2=>?_) d N m row left hN hm hB hrow hf
 ·obtain ⟨hp1,hp2,_⟩:=hr.pat p (List.mem_of_getElem? hp);exact ((Jp ho p hm.wf hm.coh (by rw [hm.typ];exact hp1) hp2).2 hv).1 h1
 ·obtain ⟨hp1,hp2,_⟩:=hr.pat p (List.mem_of_getElem? hp);exact ((Jp ho p hm.wf hm.coh (by rw [hm.typ];exact hp1) hp2).2 hv).2 h0
 ·obtain ⟨hp1,hp2,hp3⟩:=hr.pat p (List.mem_of_getElem? hp);have hpt:Cz c.datas m.ty p=true:=by rw [hm.typ];exact hp1
  have A:=GB ho p hm.wf hm.coh hpt hp2 h2;have hfree:=(Jp ho p (v:=zT) hm.wf hm.coh hpt hp2).1 h2;have hsp:=λis v=>(Qi ho (UC _ _ hfree) (Ar c.datas p m).2.1 (v:=v) hm.wf hfree).1 is;have sT:=Ef c ho N (by omega) (Ar c.datas p m).2.2 true _ m hm.wf A.ok;have sF:=Ef c ho N (by omega) (Ar c.datas p m).2.2 false _ m hm.wf A.ok;exact ⟨⟨Kh true _ hB.1 hfree,λv hv=>hB.2 v (hsp true v hv)⟩,Wd hB (Kh false _ hB.1 hfree) hp (hsp false) (λv hv=>VW ho p hm.wf hm.coh hpt hp2 h2 hv),λhA hB'=>Xv c m _ _ _ _ a b hF sT sF hA hB'⟩
mutual
def C1:Nd->Int->Int->Int
 | .mk _ _ _ ps,l,d=>if l<1\/d<1 then -1 else Dk ps (l-1) (d-1)
def Dk:List Nd->Int->Int->Int
 | [],l,_=>l
 | t::r,l,d=>if 0<=l then Dk r (C1 t l d) d else l
end
mutual
theorem Ns:∀(t:Nd) (l d:Int),-1<=C1 t l d/\(0<=l->C1 t l d<l)
 | .mk _ _ _ ps,l,d=>by
  simp only [C1]
  split
  ·omega
  ·have:=L0 ps (l-1) (d-1) (by omega);omega
theorem L0:∀(ps:List Nd) (l d:Int),-1<=l -> -1<=Dk ps l d/\Dk ps l d<=l
 | [],l,d,h=>by simp [Dk,h]
 | t::r,l,d,h=>by
  simp only [Dk];by_cases h0:0<=l
  ·rw [if_pos h0];have h1:=Ns t l d;have h2:=L0 r (C1 t l d) d h1.1;omega
  ·rw [if_neg h0];omega
end
theorem Oe:∀(t:Nd) (l d:Int),-9223372036854775808<=l->l<=9223372036854775807 -> -9223372036854775807<=d->d<=9223372036854775807->Al Tryz.prog 50 [.agg (G9 t),.int .i64 l,.int .i64 d] (.int .i64 (C1 t l d))
 | .mk op n x ks,l,d,hl0,hl1,hd0,hd1=>by
  refine AW λhv=>?_;simp [Ct,ET,G9,AJ,BQ,dNds_length,maxLen] at hv;refine Ae Ai Tryz.func50 (by decide +kernel) rfl [1,2,3] rfl rfl ?_;refine Aj rfl ?_;refine Ab rfl (λh=>?_) (λh=>?_)
  ·refine Ak rfl ?_;refine Aa rfl rfl (congrArg _ ?_);simp at h;simp only [C1];rw [if_pos (by omega)]
  simp at h;refine Ak rfl ?_;refine An (λx:Nat×Int=>[(7,.imm (.int .i64 x.1)),(1,.imm (.int .i64 x.2)),(2,.imm (.int .i64 d)),(3,.ref 1 0)]) (λ_=>[(1,some (.immb 36 4 (G9 (.mk op n x ks))))]) [2,3] (λx=>ks.length-x.1)
   (λy=>y.1<=ks.length/\C1 (.mk op n x ks) l d=Dk (ks.drop y.1) y.2 (d-1) /\ -1<=y.2/\y.2<l) (0,l-1)
   ⟨Nat.zero_le _,by simp only [C1,List.drop_zero];rw [if_neg (by omega)],by simp only;omega,by simp only;omega⟩ ⟨rfl,A0 (B2 (by omega) (by omega)),rfl,rfl,trivial⟩ ⟨rfl,trivial⟩ rfl λy hi ih=>?_
  obtain ⟨i,m⟩:=y;obtain ⟨hi1,hi2,hi3,hi4⟩:=hi;simp only at hi1 hi2 hi3 hi4;refine Ak rfl ?_;refine Ab rfl (λh=>?_) (λh=>?_)
  ·simp at h;obtain ⟨t,ht⟩:=As (l:=ks) (i:=i) (by omega);rw [Av ht] at hi2;refine Ak rfl ?_;refine mi rfl (c:=G9 t) (λ_=>⟨by simp,by simpa using kO ht,by simp⟩) (by simp) ?_;refine Aj rfl ?_;have hw:IntKind.i64.wrap (d-1)=d-1:=B2 (by omega) (by omega);refine Af rfl (v:=.int .i64 (C1 t m (d-1))) (λ_=>by rw [hw];exact Oe t m (d-1) (by omega) (by omega) (by omega) (by omega)) (by simp) ?_;refine Aj rfl ?_;have hb:=Ns t m (d-1);exact Ad (ih (i+1,C1 t m (d-1)) (by simp only;omega) ⟨by simp only;omega,by simp only;rw [hi2];simp only [Dk];rw [if_pos h.2],by simp only;omega,by simp only;omega⟩) ⟨A0 (B2 (by omega) (by omega)),rfl,rfl,rfl,trivial⟩ ⟨rfl,trivial⟩ rfl
  ·refine Ak rfl ?_;refine Aa rfl rfl (congrArg _ ?_);rw [hi2];simp at h;by_cases hlt:i<ks.length
   ·obtain ⟨t,ht⟩:=As hlt;rw [Av ht];simp only [Dk];rw [if_neg (by omega)]
   ·rw [List.drop_eq_nil_of_le (by omega)];simp [Dk]
termination_by t=>SizeOf.sizeOf t
decreasing_by
 have:=List.sizeOf_lt_of_mem (List.mem_of_getElem? ht);simp_wf;omega
mutual
theorem Ol (k j:Int) (hk:0<=k) (hj:0<=j):∀(t:Nd) (l d:Int),0<=C1 t l d->C1 t (l+k) (d+j)=C1 t l d+k
 | .mk _ _ _ ps,l,d,h=>by
  simp only [C1] at h ⊢;by_cases e:l<1\/d<1
  ·rw [if_pos e] at h;omega
  ·rw [if_neg e] at h ⊢;rw [if_neg (by omega),show l+k-1=l-1+k by omega,show d+j-1=d-1+j by omega];exact LZ k j hk hj ps (l-1) (d-1) h
theorem LZ (k j:Int) (hk:0<=k) (hj:0<=j):∀(ps:List Nd) (l d:Int),0<=Dk ps l d->Dk ps (l+k) (d+j)=Dk ps l d+k
 | [],l,d,h=>rfl
 | t::r,l,d,h=>by
  simp only [Dk] at h ⊢;by_cases e:0<=l
  ·rw [if_pos e] at h ⊢;have h1:0<=C1 t l d:=by
    have:=(Ns t l d).1;by_cases e1:0<=C1 t l d
    ·exact e1
    ·have e2:C1 t l d = -1:=by omega
     rw [e2] at h;have:=(L0 r (-1) d (by omega)).2;omega
   rw [if_pos (by omega),Ol k j hk hj t l d h1];exact LZ k j hk hj r _ d h
  ·rw [if_neg e] at h;omega
end
theorem Ww {ds:List Dt} {g:List Ty->Nat->Mi->Int->Nd×Bool×Int} {d:Int} (hd:0<=d) (hg:∀l i m L,0<=L->(g l i m L).2.1=true->C1 (g l i m L).1 L d=(g l i m L).2.2/\0<=(g l i m L).2.2) :
  ∀l i m L,0<=L->(Es ds g l i m L).2.1=true->C1 (Es ds g l i m L).1 (L+1) (d+1)=(Es ds g l i m L).2.2/\0<=(Es ds g l i m L).2.2:=by
 have hlf:∀r L,0<=L->C1 (DH r) (L+1) (d+1)=L:=λr L h=>by
  simp only [DH,C1,Dk];rw [if_neg (by omega)];omega
 intro l
 induction l with
 | nil=>intro i m L h _;exact ⟨hlf _ L h,h⟩
 | cons p r ih =>
  intro i m L h hf;simp only [Es] at hf ⊢;by_cases h2:(Ar ds p m).1=2
  ·rw [if_pos h2] at hf ⊢;have h1:=hg (p::r) i (A3 ds m (Ar ds p m).2.1 (Ar ds p m).2.2 true) L h;generalize g (p::r) i (A3 ds m (Ar ds p m).2.1 (Ar ds p m).2.2 true) L=A at *;obtain ⟨a,f,L2⟩:=A;cases f with
   | false=>simp at hf
   | true =>
    simp only at hf h1 ⊢;obtain ⟨a1,a2⟩:=h1 trivial;obtain ⟨b1,b2⟩:=hg r (i+1) (A3 ds m (Ar ds p m).2.1 (Ar ds p m).2.2 false) L2 a2 hf;refine ⟨?_,b2⟩;simp only [C1,Dk];rw [if_neg (by omega),show L+1-1=L by omega,show d+1-1=d by omega,if_pos h,a1,if_pos a2,b1]
  ·rw [if_neg h2] at hf ⊢;by_cases h1:(Ar ds p m).1=1
   ·rw [if_pos h1];exact ⟨hlf _ L h,h⟩
   ·rw [if_neg h1] at hf ⊢;exact ih (i+1) m L h hf
theorem Kx (ds:List Dt):∀(d:Nat) l i m L,0<=L->(B1 ds d l i m L).2.1=true->C1 (B1 ds d l i m L).1 L d=(B1 ds d l i m L).2.2/\0<=(B1 ds d l i m L).2.2
 | 0,l,i,m,L,_,h=>by simp [B1] at h
 | d+1,l,i,m,L,h0,h=>by
  rw [D9] at h ⊢;by_cases hl:L<1
  ·rw [if_pos hl] at h;simp at h
  ·rw [if_neg hl] at h ⊢;have:=Ww (ds:=ds) (d:=d) (by omega) (Kx ds d) l i m (L-1) (by omega) h;rw [show L-1+1=L by omega] at this;exact this
theorem eX (h:Ty):Al Tryz.prog 70 [.agg (G0 h),.int .i64 5,.int .i64 3] (.int .i64 4):=by
 have:=TW (Dx h) 5 3 (by omega) (by omega) (by omega) (by omega);rw [show Db (Dx h) 5 3=4 by obtain ⟨a,b,c,d⟩:=h;rfl] at this;refine Tb (vs':=[.agg (Ao (Dx h)),.int .i64 5,.int .i64 3]) rfl (λi x hx=>?_) this
 match i,hx with
 | 0,hx =>
  refine .inr ⟨.agg (G0 h),rfl,?_⟩;rw [<- Option.some.inj hx];simp only [unn,PV]
 | 1,hx=>exact .inl hx
 | 2,hx=>exact .inl hx
theorem SL (r:Int):Al Tryz.prog 51 [.agg (G9 (DH r))] (.bool true):=by
 refine Ae Ai Tryz.func51 (by decide +kernel) rfl [1,2,3] rfl rfl ?_;refine Aj rfl ?_;refine Ab rfl (λh=>by exfalso;simp [AJ,BQ] at h) (λh=>?_);clear h;refine Ak rfl ?_;refine An (λ_:Unit=>[(3,.imm (.int .i64 0)),(1,.ref 1 0)]) (λ_=>[(1,some (.immb 36 4 (G9 (DH r))))]) [2,3] (λ_=>0) (λ_=>True) () trivial ⟨rfl,rfl,trivial⟩ ⟨rfl,trivial⟩ rfl λ_ _ _=>?_;refine Ak rfl ?_;refine Ab rfl (λh=>by simp [BQ] at h) (λh=>?_);refine Aw rfl ?_;refine Ak rfl ?_;refine An (λ_:Unit=>[(4,.imm (.int .i64 0)),(1,.ref 1 0)]) (λ_=>[(1,some (.immb 36 4 (G9 (DH r))))]) [2,3] (λ_=>0) (λ_=>True) () trivial ⟨rfl,rfl,trivial⟩ ⟨rfl,trivial⟩ rfl λ_ _ _=>?_;refine Ak rfl ?_;refine Ab rfl (λh=>by simp [HD] at h) (λh=>?_)
 refine Aw rfl ?_;refine Ak rfl ?_;exact Aa rfl rfl rfl
theorem aS (path:List Int) (h:Ty) (a b:Nd) (hp:(path.length:Int)<=100) (hA:Al Tryz.prog 51 [.agg (G9 a)] (.bool true)) (hB:Al Tryz.prog 51 [.agg (G9 b)] (.bool true)) :
  Al Tryz.prog 51 [.agg (G9 (.mk 0 path [h] [a,b]))] (.bool true):=by
 have hW:=eX h;obtain ⟨a1,a2,a3,a4⟩:=a;obtain ⟨b1,b2,b3,b4⟩:=b;obtain ⟨z1,z2,z3,z4⟩:=h;refine Ae Ai Tryz.func51 (by decide +kernel) rfl [1,2,3] rfl rfl ?_;refine Aj rfl ?_;refine Ab rfl (λh=>by exfalso;simp [BQ] at h;omega) (λh=>?_);clear h;refine Ak rfl ?_;refine An (λi:Nat=>[(3,.imm (.int .i64 i)),(1,.ref 1 0)]) (λ_=>[(1,some (.immb 36 4 (G9 (.mk 0 path [.mk z1 z2 z3 z4] [.mk a1 a2 a3 a4,.mk b1 b2 b3 b4]))))]) [2,3] (λi=>1-i) (λi=>i<=1) 0 (by omega) ⟨rfl,rfl,trivial⟩ ⟨rfl,trivial⟩ rfl λi hi ih=>?_;obtain hi | hi:i=0\/i=1:=by omega
 ·subst hi;have hih:=ih 1 (by omega) (by omega);refine Ak rfl ?_;refine Ab rfl (λh=>?_) (λh=>by exfalso;simp [BQ] at h);clear h;refine Ak rfl ?_;refine mi rfl (c:=G0 (.mk z1 z2 z3 z4)) (λ_=>⟨by simp,by simp [BQ],by simp⟩) (by simp) ?_;refine Aj rfl ?_;refine Ag rfl hW ?_;refine Aj rfl ?_;refine At rfl λh=>?_;refine Ak rfl ?_;exact Ad hih ⟨A0 (B2 (by omega) (by omega)),rfl,trivial⟩ ⟨rfl,trivial⟩ rfl
 ·subst hi;refine Ak rfl ?_;refine Ab rfl (λh=>by exfalso;simp [BQ] at h) (λh=>?_);clear h ih;refine Aw rfl ?_;refine Ak rfl ?_;refine An (λi:Nat=>[(4,.imm (.int .i64 i)),(1,.ref 1 0)]) (λ_=>[(1,some (.immb 36 4 (G9 (.mk 0 path [.mk z1 z2 z3 z4] [.mk a1 a2 a3 a4,.mk b1 b2 b3 b4]))))]) [2,3] (λi=>2-i) (λi=>i<=2) 0 (by omega) ⟨rfl,rfl,trivial⟩ ⟨rfl,trivial⟩ rfl λi hi ih=>?_;obtain hi | hi | hi:i=0\/i=1\/i=2:=by omega
  ·subst hi;have hih:=ih 1 (by omega) (by omega);refine Ak rfl ?_;refine Ab rfl (λh=>?_) (λh=>by exfalso;simp [HD] at h);clear h;refine Ak rfl ?_;refine mi rfl (c:=[.int .i64 a1,.sl (AJ a2),.sl (BQ a3),.sl (HD a4)]) (λ_=>⟨by simp,by simp [HD,G9],by simp⟩) (by simp) ?_;refine Aj rfl ?_;refine Ag rfl hA ?_;refine Aj rfl ?_;refine At rfl λh=>?_;refine Ak rfl ?_;exact Ad hih ⟨A0 (B2 (by omega) (by omega)),rfl,trivial⟩ ⟨rfl,trivial⟩ rfl
  ·subst hi;have hih:=ih 2 (by omega) (by omega);refine Ak rfl ?_;refine Ab rfl (λh=>?_) (λh=>by exfalso;simp [HD] at h);clear h;refine Ak rfl ?_;refine mi rfl (c:=[.int .i64 b1,.sl (AJ b2),.sl (BQ b3),.sl (HD b4)]) (λ_=>⟨by simp,by simp [HD,G9],by simp⟩) (by simp) ?_;refine Aj rfl ?_;refine Ag rfl hB ?_;refine Aj rfl ?_;refine At rfl λh=>?_;refine Ak rfl ?_;exact Ad hih ⟨A0 (B2 (by omega) (by omega)),rfl,trivial⟩ ⟨rfl,trivial⟩ rfl
  ·subst hi;refine Ak rfl ?_;refine Ab rfl (λh=>by exfalso;simp [HD] at h) (λh=>?_);refine Aw rfl ?_;refine Ak rfl ?_;exact Aa rfl rfl rfl
theorem aT (c:Cse) (h:By c=true) (hf:(CR c).2.1=true):Al Tryz.prog 51 [.agg (G9 (CR c).1)] (.bool true) :=
 Rh (OkW.of h) (RowsOk.of h) (K:=λ_ _ _ t=>Al Tryz.prog 51 [.agg (G9 t)] (.bool true)) (λ_ _=>True) (λN m row p _ _ _ _ _=>SL row) (λN m _ _ _=>SL (-1)) (λN m row p t _ _ _ _ _=>⟨trivial,λh=>h⟩)
  (λN m row p a b _ hm _ hp h2=>⟨trivial,trivial,λhA hB=>aS _ _ a b (by have:=Fo c.datas p m;have:=((RowsOk.of h).pat p (List.mem_of_getElem? hp)).2.2;omega) hA hB⟩) 100 0 (Ay c.type) 0 400 (by omega) (MOk.of h) trivial (Nat.zero_le _) hf
theorem iZ (c:Cse) (h:By c=true) (hf:(CR c).2.1=true):Al Tryz.prog 11 [.agg (G9 (CR c).1)] (.bool true):=by
 have hs:=aT c h hf;obtain ⟨w1,w2⟩:=Kx c.datas 100 c.rows 0 (Ay c.type) 400 (by omega) hf;rw [show ((100:Nat):Int)=100 from rfl] at w1;have hm:=Ol 50 10 (by omega) (by omega) (CR c).1 400 100 (by rw [show CR c=B1 c.datas 100 c.rows 0 (Ay c.type) 400 from rfl];omega);have hW:=Oe (CR c).1 450 110 (by omega) (by omega) (by omega) (by omega);have hp:0<=C1 (CR c).1 450 110:=by
  rw [show (450:Int)=400+50 by omega,show (110:Int)=100+10 by omega,hm,show CR c=B1 c.datas 100 c.rows 0 (Ay c.type) 400 from rfl];omega
 clear hm w1 w2;generalize CR c=T at *;obtain ⟨⟨t1,t2,t3,t4⟩,fine,L⟩:=T;refine Ae Ai Tryz.func11 (by decide +kernel) rfl [1,2,3] rfl rfl ?_;refine Aj rfl ?_;refine Ag rfl hW ?_;refine Aj rfl ?_;refine AE rfl hs ?_;refine Aj rfl ?_;exact Au ⟨_,rfl,tV (by simpa using hp),trivial⟩
theorem YV (c:Cse) (h:By c=true) (hf:(CR c).2.1=true):Al Tryz.prog 12 [.agg (dCse c),.agg (G9 (CR c).1)] (.bool true):=by
 have hF:=W2 c (OkW.of h) (RowsOk.of h) 100 0 (Ay c.type) 0 400 (by omega) (MOk.of h) (Nat.zero_le _) hf;obtain ⟨w1,w2⟩:=Kx c.datas 100 c.rows 0 (Ay c.type) 400 (by omega) hf;rw [List.drop_zero] at hF;rw [show B1 c.datas 100 c.rows 0 (Ay c.type) 400=CR c from rfl] at hF w1 w2;have hW:=Oe (CR c).1 400 100 (by omega) (by omega) (by omega) (by omega);have hp:0<=C1 (CR c).1 400 100:=by rw [show ((100:Nat):Int)=100 from rfl] at w1;omega
 clear w1 w2 hf;generalize CR c=T at *;obtain ⟨⟨t1,t2,t3,t4⟩,fine,L⟩:=T;obtain ⟨ds,⟨c1,c2,c3,c4⟩,rows⟩:=c;refine Ae Ai Tryz.func12 (by decide +kernel) rfl [1,2,3] rfl rfl ?_;refine Aj rfl ?_;refine Ag rfl hW ?_;refine Aj rfl ?_;refine oX Ai rfl (by simp) (λ_=>rfl) (λ_=>by simp) (by simp [Y2,AA,Ap,Op.operands,CV,lk,Tj]) ?_;refine AE rfl hF ?_;refine Aj rfl ?_;exact Au ⟨_,rfl,tV (by simpa using hp),trivial⟩
theorem UX (c:Cse) (h:By c=true) (hf:(CR c).2.1=true):Al Tryz.prog 13 [.agg (dCse c),.agg (G9 (CR c).1)] (.agg (Cj none)):=by
 have hF:=Xw c h 100 0 (Ay c.type) 0 400 (by omega) (MOk.of h) ⟨VJ _ _,λv _ i p hi _=>by omega⟩ (Nat.zero_le _) hf;rw [List.drop_zero] at hF;rw [show B1 c.datas 100 c.rows 0 (Ay c.type) 400=CR c from rfl] at hF;generalize CR c=T at *;obtain ⟨⟨t1,t2,t3,t4⟩,fine,L⟩:=T;obtain ⟨ds,⟨c1,c2,c3,c4⟩,rows⟩:=c;refine Ae Ai Tryz.func13 (by decide +kernel) rfl [1,2,3,4] rfl rfl ?_;refine Aj rfl ?_;refine Ag rfl hF ?_;refine Aj rfl ?_;exact Aa rfl rfl rfl
theorem RC:Al Tryz.prog 9 [.agg (G9 (DH 0))] (.bool true):=by
 refine Ae Ai Tryz.func9 (by decide +kernel) rfl [1,2] rfl rfl ?_;refine Aj rfl ?_;exact Au ⟨_,rfl,tV (by simp [AJ,BQ]),trivial⟩
theorem CoverMade_of (c:Cse):Al Tryz.prog 3 [.agg (dCse c)] (.bool true):=by
 have hS:=aR c;have hT:=nU c;have hC:=nX c;rw [<- eF] at hC;have hk:=cU;have hB:=λh=>eN c h;have hl:=λh hf=>iZ c h hf;have h4:=λh hf=>YV c h hf;have hA:=λh hf=>UX c h hf;unfold fN at hT;generalize CR c=T at *;obtain ⟨⟨t1,t2,t3,t4⟩,fine,L⟩:=T;simp only at hT hB hl h4 hA;generalize By c=cb at *;generalize Xy c=sm at *;obtain ⟨ds,⟨c1,c2,c3,c4⟩,rows⟩:=c;refine Ae Ai Tryz.func3 (by decide +kernel) rfl [1,2,3,4,5] rfl rfl ?_;refine Aj rfl ?_;refine Ag rfl hS ?_;refine Aj rfl ?_;cases sm with
 | false =>
  refine Ah rfl λh=>?_;refine Ak rfl ?_;refine Ag rfl hk ?_;refine Aj rfl ?_;exact Aa rfl rfl rfl
 | true =>
  refine At rfl λh=>?_;clear h;cases cb with
  | false =>
   simp only [cond_false] at hT;refine Ak rfl ?_;refine Ag rfl hT ?_;refine Aj rfl ?_;refine Ag rfl hC ?_;refine Aj rfl ?_;refine Ah rfl λh=>?_;refine Ak rfl ?_;refine AE rfl RC ?_;refine Aj rfl ?_;refine AE rfl hk ?_;refine Aj rfl ?_;exact Aa rfl rfl rfl
  | true =>
   simp only [cond_true] at hT;replace hB:=hB rfl;cases fine with
   | false =>
    simp only [Bool.false_eq_true,if_false] at hT;refine Ak rfl ?_;refine Ag rfl hT ?_;refine Aj rfl ?_;refine Ag rfl hC ?_;refine Aj rfl ?_;refine At rfl λh=>?_;refine Ak rfl ?_;refine Ag rfl hB ?_;refine Du rfl ?_;refine Ah rfl λh=>?_;refine Ak rfl ?_;refine Ag rfl RC ?_;refine Aj rfl ?_;refine AE rfl hk ?_;refine Aj rfl ?_;exact Aa rfl rfl rfl
   | true =>
    simp only [if_true] at hT;replace hl:=hl rfl rfl;replace h4:=h4 rfl rfl;replace hA:=hA rfl rfl;refine Ak rfl ?_;refine Ag rfl hT ?_;refine Aj rfl ?_;refine Ag rfl hC ?_;refine Aj rfl ?_;refine At rfl λh=>?_;refine Ak rfl ?_;refine Ag rfl hB ?_;refine Du rfl ?_;refine At rfl λh=>?_;refine Ak rfl ?_;refine AE rfl hl ?_;refine Du rfl ?_;refine AE rfl h4 ?_;refine Du rfl ?_;refine AE rfl hA ?_;refine Du rfl ?_;refine AE rfl hk ?_;refine Aj rfl ?_;exact Aa rfl rfl rfl
end Go.Hk
namespace Go.Hk
open Go.RowKit Go.WideShapes Go.ChangeShapes
theorem Ext.below {I I':Imm} {μ μ':Mu} {w w':World} {st':St} (h:Ext I μ [] w I' μ' st' w'):Below w.heap.size w w' :=
 ⟨h.os,h.tape,h.output,h.size,λk hk=>h.block k hk (by rintro ⟨id,blk,g,hl,_⟩;cases hl)⟩
theorem jI {H:Type} {enc:TypeId×Value->H} {P:Program} {f:Func} {s:ChangeSpec} {apart fresh handsOn again:Bool} {W W':World} {args:Array Value} {v:Value} {ds gs:List (DataW H)} {before pa pv:List MemPlace}
  (hW:DataW.Whole enc P f.params.toList s.vars apart W args.toList ds gs before) (hb:Below W.heap.size W W') (hps:before=pa++pv)
  (hres:∀(b:Nat) (sp:Nat->Bool) (hd:Bool),DataW.TrodAll enc P W' b sp hd f.resultTypes.toList (v.resultList f.resultTypes.size) (s.fn H (ds++gs)).results [])
  (hargs:∀sp:Nat->Bool,(∀p∈before,sp p.block=true)->DataW.TrodAll enc P W' 0 sp true f.params.toList args.toList (s.fn H (ds++gs)).args pa)
  (hvars:∀sp:Nat->Bool,(∀p∈before,sp p.block=true)->DataW.TrodVars enc P W' sp s.vars (s.fn H (ds++gs)).vars pv)
  (hok:∀(j:Nat) (t:TypeId) (r:Value),f.resultTypes[j]?=some t->(v.resultList f.resultTypes.size)[j]?=some r->Value.okWide P W' .any 0 t r) :
  s.post enc P f apart fresh handsOn again W args v W':=by
 have lt:∀p∈before,decide (p.block<W.heap.size)=true:=λp hp=>by simpa using hW.lt p hp
 refine ⟨ds,gs,before,[],pa,pv,hW,hres _ _ _,hargs (λb=>decide (b<W.heap.size)) lt,hvars (λb=>decide (b<W.heap.size)) lt,World.keptBut_mono (λp hp=>⟨hp,.inr ?_⟩) (hb.frame (· ∈ before)),λ_=>⟨hok,?_⟩⟩
 ·rw [hps] at hp;exact List.mem_append.1 hp
 ·have hlt:=hW.lt;obtain ⟨_,_,_,_,_,hz,hn⟩:=hW;refine ⟨(s.fn H (ds++gs)).results++(s.fn H (ds++gs)).args,(s.fn H (ds++gs)).vars,pa++pv,⟨pa,pv,?_,hvars _ (λ_ _=>rfl),rfl,λb off hp=>?_,λha=>?_⟩,λp hp _=>by rw [hps];exact hp⟩
  ·have:=trodAll_append (hargs (λ_=>true) λ_ _=>rfl) (hres 0 (λ_=>true) true);simpa using this
  ·have hin:MemPlace.cell b off∈before:=by rw [hps];exact hp
   rw [hb.frozen (hlt _ hin)];exact hz b off hin
  ·rw [<- hps];exact hn ha
end Go.Hk
namespace Go.Hk
def Po (W:World):Imm:=λb=>W.heap[b]?
theorem mV (W:World):(Po W).ok W:=λ_ _ h=>h
def Rds (P:Program) (W:World) (n:Nat) (t:TypeId) (cs:List Value):Prop :=
 ∃(H:Type) (enc:TypeId×Value->H) (x:DataW H×List MemPlace),DataW.trod enc P W 0 (λ_=>true) true n t cs=some x
def RV (W:World) (cs:List Value) (xs:List V):Prop:=RepVL (Po W) cs xs/\∀c∈cs,c.oneCell'=true
theorem RV.app {W:World} {a b:List Value} {x y:List V} (h:RV W a x) (k:RV W b y):RV W (a++b) (x++y) :=
 ⟨h.1.append k.1,λc hc=>(List.mem_append.1 hc).elim (h.2 c) (k.2 c)⟩
theorem RV.one {W:World} {v:Value} {x:V} (h:RepV (Po W) v x) (h1:v.oneCell'=true):RV W [v] [x] :=
 ⟨.mk h .nil,λc hc=>by simp at hc;rw [hc];exact h1⟩
theorem RV.agg {W:World} {cs:Array Value} {xs:List V} (h:RV W cs.toList xs):RepV (Po W) (.agg cs) (.agg xs) :=
 .agg _ _ (by simpa using h.1.1) h.2 (λi c x a b=>h.1.2 i c x (by simpa using a) b)
theorem RV.len {W:World} {cs:List Value} {xs:List V} (h:RV W cs xs):cs.length=xs.length:=h.1.1
section
variable {P:Program} {W:World} {tt:TT} {n:Nat} {t:TypeId} {cs:List Value}
theorem Zo {k:IntKind} {a:Bool} {sz by_:Nat} {z:List D} (htt:TTok P tt) (hl:lk tt t=some ⟨.int k,a,sz,by_,z⟩) (h:Rds P W n t cs):∃m,RV W cs [.int k m]/\(Lit.int k m).wf=true:=by
 obtain ⟨H,enc,x,h⟩:=h;have hu:P.underlying t=some (.int k):=htt.sh hl;cases n with
 | zero=>simp [DataW.trod] at h
 | succ n =>
  unfold DataW.trod at h;rw [hu] at h
  split at h <;> simp_all
  rename_i k' m heq;exact ⟨m,.one (.int _ _) rfl,h.1.2⟩
theorem Us {a:Bool} {sz by_:Nat} {z:List D} (htt:TTok P tt) (hl:lk tt t=some ⟨.str,a,sz,by_,z⟩) (h:Rds P W n t cs):∃s,RV W cs [.str s]/\s.length<=maxLen:=by
 obtain ⟨H,enc,x,h⟩:=h;have hu:P.underlying t=some .string:=htt.sh hl;cases n with
 | zero=>simp [DataW.trod] at h
 | succ n =>
  unfold DataW.trod at h;rw [hu] at h
  split at h <;> simp_all
  rename_i s;exact ⟨s.data.toList,.one (.str _ _ rfl) rfl,by have:=h.1;simpa using this⟩
theorem R9 {a:Addr} {k:Nat} {cs':List Value} (h:W.cells? 0 a k=some cs') (hk:0<k):a.spot=none/\∀(j:Nat) (v:Value),cs'[j]?=some v->(Po W).cell a.block (a.off+j)=some v:=by
 obtain ⟨_,h2,h3⟩:=World.cells?_some h;have cell:∀(b:Addr) (v:Value),W.cell? b=some v->b.spot=none/\(Po W).cell b.block b.off=some v:=by
  intro b v hb;unfold World.cell? at hb
  split at hb
  ·rename_i c t0 fz hh
   split at hb
   ·cases hb
   ·rename_i hs;refine ⟨by cases h:b.spot with | none=>rfl | some _=>rw [h] at hs;exact absurd rfl hs,?_⟩;unfold Imm.cell Po;rw [hh];exact hb
  ·cases hb
 have hs:a.spot=none:=by
  have hlt:0<cs'.length:=by omega
  have:=h3 0 hk;rw [List.getElem?_eq_getElem hlt] at this;exact (cell (a.add 0) _ this).1
 refine ⟨hs,λj v hv=>?_⟩;have hj:=(List.getElem?_eq_some_iff.1 hv).1;have:=(cell (a.add j) v (by rw [h3 j (by omega)];exact hv)).2;unfold Addr.add at this;by_cases h0:j=0
 ·subst h0;simpa using this
 ·rw [if_neg h0] at this;exact this
theorem I4 {α:Type} {e:TypeId} {a:Bool} {sz by_:Nat} {z:List D} {i:TyI} {d:α->List V} (htt:TTok P tt) (hl:lk tt t=some ⟨.sl e,a,sz,by_,z⟩) (hi:lk tt e=some i) (hpos:0<i.size)
  (hd:∀x,(d x).length=i.size) (hel:∀m,m<n->∀cs',Rds P W m e cs'->∃x,RV W cs' (d x)) (h:Rds P W n t cs):∃xs:List α,RV W cs [.sl (xs.map d)]:=by
 obtain ⟨H,enc,x,h⟩:=h;have hu:P.underlying t=some (.slice e):=htt.sh hl;have hce:P.cellsOf e=i.size:=(htt e i hi).cellsOf;rcases DataW.trod_slice hu h with ⟨rfl,_⟩ | ⟨ad,len,cap,elems,rest,m,rfl,rfl,_,_,h1,h2,h3,h4,h5,_⟩
 ·exact ⟨[],.one .slnil rfl⟩
 rw [hce] at h4 h5;have he:∀k,k<len->∃(cs':List Value) (x:α),W.cells? 0 (ad.add (k*i.size)) i.size=some cs'/\RV W cs' (d x):=by
  intro k hk;have:=h4 k hk;rw [List.getElem?_eq_getElem (by omega)] at this;obtain ⟨cs',q1,q2⟩:=Option.bind_eq_some_iff.1 this;obtain ⟨x,hx⟩:=hel m (by omega) cs' ⟨H,enc,_,q2⟩;exact ⟨cs',x,q1,hx⟩
 have hch:∃(C:Nat->List Value) (X:Nat->Option α),∀k,k<len->∃x,X k=some x/\W.cells? 0 (ad.add (k*i.size)) i.size=some (C k)/\RV W (C k) (d x):=by
  classical
  refine ⟨λk=>if hk:k<len then (he k hk).choose else [],λk=>if hk:k<len then some ((he k hk).choose_spec.choose) else none,λk hk=>?_⟩;simp only [hk,dif_pos];exact ⟨_,rfl,(he k hk).choose_spec.choose_spec⟩
 obtain ⟨C,X,hCX⟩:=hch;have hlist:∀l,l<=len->∃xs:List α,xs.length=l/\∀k x,xs[k]?=some x->X k=some x:=by
  intro l
  induction l with
  | zero=>exact λ_=>⟨[],rfl,λk x h=>by simp at h⟩
  | succ l ih =>
   intro hl';obtain ⟨xs,q1,q2⟩:=ih (by omega);obtain ⟨x,hx,_⟩:=hCX l (by omega);refine ⟨xs++[x],by simp [q1],λk y hy=>?_⟩;by_cases hk:k<xs.length
   ·rw [List.getElem?_append_left hk] at hy;exact q2 k y hy
   ·rw [List.getElem?_append_right (by omega)] at hy;have:k-xs.length=0:=by
     have:=(List.getElem?_eq_some_iff.1 hy).1;simp at this;omega
    rw [this] at hy;cases hy;have:k=l:=by omega
    rw [this];exact hx
 obtain ⟨xs,hx1,hx2⟩:=hlist len (Nat.le_refl _);refine ⟨xs,.one ?_ rfl⟩;by_cases hcap:cap=0
 ·have:len=0:=by omega
  subst this;subst hcap;have:xs=[]:=List.eq_nil_of_length_eq_zero hx1;subst this;exact .sl0 ad
 have hspot:ad.spot=none:=by
  by_cases hlen:0<len
  ·obtain ⟨x,_,q,_⟩:=hCX 0 hlen;have:=(R9 q hpos).1;simpa [Addr.add] using this
  ·have h6:=h5 rfl;have h7:=h6.2 0 (by omega);rw [List.getElem?_eq_getElem (by omega)] at h7;obtain ⟨cs',q1,q2⟩:=Option.bind_eq_some_iff.1 h7;have:=(R9 q1 hpos).1;have hl0:len=0:=by omega
   subst hl0;simpa [Addr.add] using this
 obtain ⟨b,o,sp⟩:=ad;simp only at hspot;subst hspot;have hget:∀(k:Nat) (e:List V),(xs.map d)[k]?=some e->k<len/\∃x,X k=some x/\e=d x/\W.cells? 0 ⟨b,o+k*i.size,none⟩ i.size=some (C k)/\RV W (C k) (d x):=by
  intro k e hk;rw [List.getElem?_map,Option.map_eq_some_iff] at hk;obtain ⟨x,q1,q2⟩:=hk;have hlt:=(List.getElem?_eq_some_iff.1 q1).1;obtain ⟨y,r1,r2,r3⟩:=hCX k (by omega);rw [hx2 k x q1] at r1;cases r1;refine ⟨by omega,x,hx2 k x q1,q2.symm,?_,r3⟩;rw [<- r2];congr 1;unfold Addr.add;by_cases h0:k*i.size=0
  ·simp [h0]
  ·simp [h0]
 refine .sl b o len cap i.size _ (λk j=>(C k).getD j undef) (by simp [hx1]) h1 h2 (λe he=>?_) (λk e j x hk hj=>?_) (λk e j x hk hj=>?_)
 ·obtain ⟨x,_,rfl⟩:=List.mem_map.1 he;exact hd x
 ·obtain ⟨_,y,_,rfl,q3,q4⟩:=hget k e hk;have hlt:j<(C k).length:=by rw [q4.len];exact (List.getElem?_eq_some_iff.1 hj).1
  have hv:(C k)[j]?=some ((C k)[j]):=List.getElem?_eq_getElem hlt;have hD:(C k).getD j undef=(C k)[j]:=by simp [List.getD,hv]
  show (Po W).cell b (o+k*i.size+j)=some ((C k).getD j undef)/\((C k).getD j undef).oneCell'=true;rw [hD];exact ⟨(R9 q3 hpos).2 j _ hv,q4.2 _ (List.getElem_mem _)⟩
 ·obtain ⟨_,y,_,rfl,q3,q4⟩:=hget k e hk;have hlt:j<(C k).length:=by rw [q4.len];exact (List.getElem?_eq_some_iff.1 hj).1
  have hv:(C k)[j]?=some ((C k)[j]):=List.getElem?_eq_getElem hlt;have hD:(C k).getD j undef=(C k)[j]:=by simp [List.getD,hv]
  show RepV (Po W) ((C k).getD j undef) x;rw [hD];exact q4.1.2 j _ x hv hj
theorem Ja {fs:List (Nat×TypeId)} {a:Bool} {sz by_:Nat} {z:List D} (htt:TTok P tt) (hl:lk tt t=some ⟨.struct fs,a,sz,by_,z⟩) (h:Rds P W n t cs) :
  cs.length=sz/\∃m,n=m+1/\∀(j off:Nat) (ft:TypeId) (i:TyI),fs[j]?=some (off,ft)->lk tt ft=some i->Rds P W m ft ((cs.drop off).take i.size):=by
 obtain ⟨H,enc,x,h⟩:=h;obtain ⟨fields,hu,hmap,_⟩:∃fields,P.underlying t=some (.struct fields)/\fields.toList.map (λf=>(f.offset,f.type))=fs/\∀f∈fields.toList,0<P.cellsOf f.type:=htt.sh hl;obtain ⟨xs,m,rfl,_,h1,h2,h3⟩:=DataW.trod_struct hu h;refine ⟨by rw [h1];exact (htt t _ hl).cellsOf,m,rfl,λj off ft i hj hi=>?_⟩;rw [<- hmap,List.getElem?_map,Option.map_eq_some_iff] at hj;obtain ⟨f,q1,q2⟩:=hj;cases q2;have hf:fields[j]?=some f:=by rw [<- Array.getElem?_toList];exact q1
 have hlt:=(Array.getElem?_eq_some_iff.1 hf).1;have:=h3 j f hf;rw [List.getElem?_eq_getElem (by omega),(htt _ i hi).cellsOf] at this;exact ⟨H,enc,_,this⟩
end
end Go.Hk
namespace Go.Hk
open Go.Proofs
section
variable {W:World}
theorem four {α:Type} {l:List α} (h:l.length=4):∃a b c d,l=[a,b,c,d]:=by
 match l,h with
 | [a,b,c,d],_=>exact ⟨a,b,c,d,rfl⟩
theorem Rw (l:List Ty):l.map Ao=Bx l:=(C8 l).symm
theorem SZ (tt0 ts tl:TypeId) (hs:lk Xt tt0=some ⟨.struct [(0,ts),(1,3),(2,9),(3,tl)],true,4,56,[.imm (.int .i64 0),.imm (.int .i64 0),.imm (.str []),.nils]⟩)
  (h1:lk Xt ts=some ⟨.int .i64,false,1,8,[.imm (.int .i64 0)]⟩) (h2:lk Xt tl=some ⟨.sl tt0,false,1,24,[.nils]⟩) :
  ∀(n:Nat) (cs:List Value),Rds Tryz.prog W n tt0 cs->∃t:Ty,RV W cs (Ao t):=by
 intro n
 induction n using Nat.strongRecOn with
 | ind n ih =>
  intro cs h;obtain ⟨hl,m,rfl,hf⟩:=Ja BM hs h;obtain ⟨a,b,c,d,rfl⟩:=four hl;obtain ⟨s,r1,_⟩:=Zo BM h1 (hf 0 0 ts _ rfl h1);obtain ⟨k,r2,_⟩:=Zo BM rfl (hf 1 1 3 _ rfl rfl);obtain ⟨x,r3,_⟩:=Us BM rfl (hf 2 2 9 _ rfl rfl);obtain ⟨ps,r4⟩:=I4 (d:=Ao) BM h2 hs (show 0<4 by decide) dTyc_length (λm' hm cs'=>ih m' (by omega) cs') (hf 3 3 tl _ rfl h2);exact ⟨.mk s k x ps,by rw [Ao,<- Rw];exact ((r1.app r2).app r3).app r4⟩
theorem SY (n:Nat) (cs:List Value) (h:Rds Tryz.prog W n 26 cs):∃t:Ty,RV W cs (Ao t):=SZ 26 23 24 rfl rfl rfl n cs h
theorem gV (n:Nat) (cs:List Value) (h:Rds Tryz.prog W n 69 cs):∃t:Ty,RV W cs (Ao t):=SZ 69 67 27 rfl rfl rfl n cs h
theorem gW (n:Nat) (cs:List Value) (h:Rds Tryz.prog W n 75 cs):∃c:Cd,RV W cs (CM c):=by
 obtain ⟨hl,m,rfl,hf⟩:=Ja BM rfl h
 match cs,hl with
 | [a,b],_ =>
 obtain ⟨x,r1,_⟩:=Us BM rfl (hf 0 0 9 _ rfl rfl);obtain ⟨ts,r2⟩:=I4 (d:=Ao) BM rfl (e:=26) rfl (by decide) dTyc_length (λm' hm cs'=>SY m' cs') (hf 1 1 24 _ rfl rfl);exact ⟨⟨x,ts⟩,by rw [CM,<- Rw];exact r1.app r2⟩
theorem bN (n:Nat) (cs:List Value) (h:Rds Tryz.prog W n 72 cs):∃c:Dt,RV W cs (Cv c):=by
 obtain ⟨hl,m,rfl,hf⟩:=Ja BM rfl h
 match cs,hl with
 | [a,b],_ =>
 obtain ⟨x,r1,_⟩:=Us BM rfl (hf 0 0 9 _ rfl rfl);obtain ⟨ts,r2⟩:=I4 (d:=CM) BM rfl (e:=75) rfl (by decide) (λ_=>rfl) (λm' hm cs'=>gW m' cs') (hf 1 1 70 _ rfl rfl);exact ⟨⟨x,ts⟩,r1.app r2⟩
end
end Go.Hk
namespace Go.Hk
open Go.Proofs
section
variable {W:World}
theorem read_case (n:Nat) (cs:List Value) (h:Rds Tryz.prog W n 29 cs):∃c:Cse,RV W cs (dCse c):=by
 obtain ⟨hl,m,rfl,hf⟩:=Ja G4 rfl h
 match cs,hl with
 | [a0,a1,a2,a3,a4,a5],_ =>
 obtain ⟨ds,r1⟩:=I4 (d:=Cv) G4 rfl (e:=72) rfl (by decide) (λ_=>rfl) (λm' hm cs'=>bN m' cs') (hf 0 0 22 _ rfl rfl);obtain ⟨t1,r2⟩:=SY _ _ (hf 1 1 26 _ rfl rfl);obtain ⟨ps,r3⟩:=I4 (d:=Ao) G4 rfl (e:=69) rfl (by decide) dTyc_length (λm' hm cs'=>gV m' cs') (hf 2 5 27 _ rfl rfl);exact ⟨⟨ds,t1,ps⟩,by rw [dCse,<- Rw];exact (r1.app r2).app r3⟩
end
end Go.Hk
namespace Go.Hk
open Go.RowKit Go.WideShapes Go.ChangeShapes Go.ChangeAt
theorem Mh {H:Type} {enc:TypeId×Value->H} {P:Program} (hl:laidOutB P=true) {W W':World} (hb:Below W.heap.size W W') {sp:Nat->Bool} :
  ∀{ts:List TypeId} {vs:List Value} {ds:List (DataW H)} {ps:List MemPlace},ts.all (λt=>P.readableRec t&&decide (t<P.types.size))=true->DataW.TrodAll enc P W 0 (λ_=>true) true ts vs ds ps ->
   (∀p∈ps,p.block<W.heap.size)->(∀p∈ps,sp p.block=true)->DataW.TrodAll enc P W' 0 sp true ts vs ds ps
 | [],[],[],_,_,h,_,_=>h
 | [],[],_::_,_,_,h,_,_=>h.elim
 | [],_::_,_,_,_,h,_,_=>h.elim
 | _::_,[],_,_,_,h,_,_=>h.elim
 | _::_,_::_,[],_,_,h,_,_=>h.elim
 | t::ts,v::vs,d::ds,ps,ht,h,hlt,hs=>by
  obtain ⟨p,q,h1,h2,rfl⟩:=h;rw [List.all_cons,Bool.and_eq_true,Bool.and_eq_true,decide_eq_true_eq] at ht;refine ⟨p,q,WideElems.Trod_stays hl ht.1.1 ht.1.2 h1 (λx hx=>hb.same (hlt x (List.mem_append_left _ hx))) (λx hx=>hs x (List.mem_append_left _ hx)),?_,rfl⟩;exact Mh hl hb ht.2 h2 (λx hx=>hlt x (List.mem_append_right _ hx)) (λx hx=>hs x (List.mem_append_right _ hx))
theorem Rds.of {H:Type} {enc:TypeId×Value->H} {P:Program} {W:World} {t:TypeId} {v:Value} {d:DataW H} {ps:List MemPlace} (h:DataW.Trod enc P W 0 (λ_=>true) true t v d ps):∃n,Rds P W n t v.cells.toList:=by
 obtain ⟨n,hn⟩:=h;exact ⟨n,H,enc,_,hn⟩
section
variable {H:Type} {enc:TypeId×Value->H} {P:Program} {W:World} {sp:Nat->Bool} {hd:Bool}
theorem fM {vs:List Value} {ds:List (DataW H)} {ps:List MemPlace} (h:DataW.TrodAll enc P W 0 sp hd [] vs ds ps):vs=[]/\ds=[]:=by
 cases vs with
 | nil=>cases ds with
  | nil=>exact ⟨rfl,rfl⟩
  | cons=>exact h.elim
 | cons=>cases ds <;> exact h.elim
theorem fL {t:TypeId} {ts:List TypeId} {vs:List Value} {ds:List (DataW H)} {ps:List MemPlace} (h:DataW.TrodAll enc P W 0 sp hd (t::ts) vs ds ps) :
  ∃v vs' d ds' p q,vs=v::vs'/\ds=d::ds'/\DataW.Trod enc P W 0 sp hd t v d p/\DataW.TrodAll enc P W 0 sp hd ts vs' ds' q:=by
 cases vs with
 | nil=>cases ds <;> exact h.elim
 | cons v vs=>cases ds with
  | nil=>exact h.elim
  | cons d ds =>
   obtain ⟨p,q,h1,h2,_⟩:=h;exact ⟨v,vs,d,ds,p,q,rfl,rfl,h1,h2⟩
theorem trodAll1 {t:TypeId} {vs:List Value} {ds:List (DataW H)} {ps:List MemPlace} (h:DataW.TrodAll enc P W 0 sp hd [t] vs ds ps):∃v d p,vs=[v]/\ds=[d]/\DataW.Trod enc P W 0 sp hd t v d p:=by
 obtain ⟨v,vs',d,ds',p,q,rfl,rfl,h1,h2⟩:=fL h;obtain ⟨rfl,rfl⟩:=fM h2;exact ⟨v,d,p,rfl,rfl,h1⟩
end
theorem agg_of {P:Program} {W:World} {base:Nat} {t:TypeId} {v:Value} {fs:Array Field} (hu:P.underlying t=some (.struct fs)) (h:Value.okWide P W .any base t v):∃cs,v = .agg cs:=by
 unfold Value.okWide at h;rw [hu] at h;obtain ⟨cs,e,_⟩:=h;exact ⟨cs,e⟩
theorem Sr {P : Program} {f : FuncId} {fn : Func} {c : Code} (hf : P.funcs[f]? = some fn) (hname : (fn.name == "runtime.NumGoroutine") = false) (hb : fn.body = some c) {W : World} {args : Array Value} {vs : List V} {b : Bool} (hv : RepVL (Po W) args.toList vs) (hp : Al P f vs (.bool b)) :
  Calls P f args W λe W'=>e = .returned (.bool b)/\Below W.heap.size W W':=by
 have h:=hp (Po W) (λ_=>none) W args { imm:=mV W,blk:=λid blk hl=>(by cases hl),apart:=λid blk g b hl=>(by cases hl),inj:=λi j bi bj gi gj b hl=>(by cases hl),nodup:=.nil,idsFree:=λid hi=>(by cases hi) }
  ⟨by simpa using hv.1,λi v d h1 h2=>by
   rw [List.getElem?_map,Option.map_eq_some_iff] at h2;obtain ⟨x,q1,rfl⟩:=h2;exact .imm _ _ (hv.2 i v x h1 q1)⟩
 rw [BU hf hname hb] at h;refine Calls.mono h λe w' he=>?_;cases e with
 | returned v =>
  obtain ⟨I',μ',h1,_,_,h4⟩:=he;cases h1 with
  | imm v x hx =>
   cases hx;exact ⟨rfl,h4.below⟩
 | panicked=>exact he.elim
 | outgrown=>exact he.elim
theorem law_done {H:Type} {enc:TypeId×Value->H} {P:Program} {f:FuncId} {fn:Func} {c:Code} {s:ChangeSpec} {apart fresh handsOn again:Bool} {W:World} {args:Array Value} {ds gs:List (DataW H)} {before:List MemPlace} {tb:TypeId} {vs:List V}
  (hW : DataW.Whole enc P fn.params.toList s.vars apart W args.toList ds gs before) (hv : s.vars = []) (hf : P.funcs[f]? = some fn) (hname : (fn.name == "runtime.NumGoroutine") = false) (hb : fn.body = some c) (hrt : fn.resultTypes = #[tb]) (hbool : P.underlying tb = some .bool)
  (hl:laidOutB P=true) (hpar:fn.params.toList.all (λt=>P.readableRec t&&decide (t<P.types.size))=true) (hs:s.fn H ds={ results:=[.lit (.bool true)],args:=ds }) (hx:RepVL (Po W) args.toList vs) (hp:Al P f vs (.bool true)) :
  Calls P f args W λe W'=>∃v,e = .returned v/\s.post enc P fn apart fresh handsOn again W args v W':=by
 refine (Sr hf hname hb hx hp).mono λe W' ⟨he,hg⟩=>?_;subst he;have hW':=hW;obtain ⟨p,q,hA,hV,e1,hfz,hnd⟩:=hW;rw [hv] at hV;have hg0:gs=[]/\q=[]:=by
  cases gs with
  | nil=>exact ⟨rfl,hV⟩
  | cons=>exact hV.elim
 obtain ⟨rfl,rfl⟩:=hg0;rw [List.append_nil] at e1;subst e1;have hlt:=hW'.lt;refine ⟨_,rfl,jI (pa:=before) (pv:=[]) hW' hg (by simp) (λb sp hd=>?_) (λsp hsp=>?_) (λsp hsp=>?_) ?_⟩
 ·rw [List.append_nil,hs,hrt];exact trodAll_cons_mk (shut_bool hbool _) trodAll_mk0
 ·rw [List.append_nil,hs];exact Mh hl hg hpar hA hlt hsp
 ·rw [List.append_nil,hs,hv];rfl
 ·exact ok_one hrt rfl (okWide_bool_mk hbool _)
end Go.Hk
namespace Go.Proofs.YtegabgaflilabaaGreat.coverMade
open Go.ChangeShapes Go.WideShapes Go.RowKit
set_option linter.unusedVariables false
theorem own:ownKnob Tryz.prog.godebug=none:=by kernel_rfl
theorem pL (os:Os) (started:os.Started) (H:Type) (enc:TypeId×Value->H) :
  ReturnsInHanded {} Tryz.checked os 3 .any (Rows.coverMadeSpec.pre6 enc Tryz.prog Tryz.f3 Rows.coverMadeRow.domain false) (Rows.coverMadeSpec.post enc Tryz.prog Tryz.f3 false true false false):=by
 refine returnsInHanded_of_change (C:=Tryz.checked) own started (by kernel_rfl) Tryz.func3
  (ChangeSpec.witness6 (enc:=enc) (C:=Tryz.checked) false ⟨#[],#[.agg #[.slice none 0 0,.int .i64 0,.int .i64 0,.string ⟨#[]⟩,.slice none 0 0,.slice none 0 0]],[]⟩ 8 (by kernel_rfl) (by kernel_rfl) (by kernel_rfl) (by kernel_rfl)) ?_
 intro W base args ds gs before hval hW hcnd _;obtain ⟨p,q,hA,_⟩:=id hW;obtain ⟨v1,d1,p1,e1,rfl,hd1⟩:=Hk.trodAll1 (t:=29) hA;obtain ⟨args⟩:=args;simp only at e1;subst e1;obtain ⟨n1,hn1⟩:=Hk.Rds.of hd1;obtain ⟨m1,hm1⟩:=Hk.read_case n1 _ hn1;obtain ⟨c1,rfl⟩:=Hk.agg_of Tryz.underlying29 (hval 0 29 v1 rfl rfl);exact Hk.law_done hW rfl Tryz.func3 (by decide +kernel) rfl rfl Tryz.underlying4 (by kernel_rfl) (by kernel_rfl) rfl (vs:=[.agg (Hk.dCse m1)]) (.mk (Hk.RV.agg hm1) .nil) (Hk.CoverMade_of m1)
theorem over:Rows.coverMadeRow.holds Tryz.pinned (OpenSpec.ofChange Rows.coverMadeSpec) :=
 OpenClaim.holds_of_wide 3 Tryz.f3 rfl rfl rfl rfl rfl rfl rfl ⟨rfl,rfl,rfl,rfl,rfl⟩ rfl rfl rfl rfl rfl (by kernel_rfl) Tryz.func3 (by kernel_rfl)
  (of_decide_eq_true (by kernel_rfl)) (by unfold Func.isWrapper;first | (rw [if_pos (by decide +kernel)];kernel_rfl) | (rw [if_neg (by decide +kernel)];exact ⟨rfl,rfl⟩))
  (λos started H enc _=>pL os started H enc)
theorem proved:Rows.CoverMadeSaid :=
 over
end Go.Proofs.YtegabgaflilabaaGreat.coverMade
