/- A function that does something and tells whether it gave up: out of its walk what the ghost machine makes of it. (And what it stands on.) -/
import Derived.Test.YtdgomkfabfageaaGreatWe
import Derived.RangeFuncLeaves
import Derived.RangeFuncNested
import Derived.Maps.RangeRun
set_option linter.unusedSimpArgs false
set_option linter.unusedVariables false

set_option maxRecDepth 100000
namespace Go.Gx
open Go.Hk (TT TTok TyI Sh lk TyOk BS C1 A6 FP AT BD Bt DownClosed Dn D0 Ov GW Jr)
section
variable {P : Program} {w : World} {tb : H6} {ρ : Rho} {B : Bl} {h h' hE : GH} {s s' : S} {a : Act} {g : G} {n : Nat} {ih : Cfg → Res} {all : List Oper} {b : Frame} {cs : List Frame} {Q : Exit → Act → World → Prop}
theorem DownClosed.hold {L : Nat → Bool} (x : DownClosed all L) : DownClosed all L := x
structure RunOk (tb : H6) (n : Nat) (ih : Cfg → Res) (all : List Oper) (s : S) (h : GH) (se : S) (hE : GH) (l : List IF) (ss : List Stp) : Prop where
 ch : Lj tb n ih all l ss s h se hE
 map : l.map (·.x) = BE all
 edges : ∀ j o,all[j]? = some o → ∀ e ∈ o.after.toList,Dn e = true → e.on < j
 pairs : (BE all).Pairwise (Ko all.toArray)
 flags : l = GS (BE all) []
 dyn : ∀ pre st post,ss = pre ++ st :: post → (match st.k with
  | .read false => allV tb.tt tb.eqs st.o.op st.s st.g (PW st.x pre.reverse) && allV tb.tt tb.eqs st.o.op st.s st.g (K9 st.x hE post)
  | .simp l => Nat.ble h.size st.h.size && My st.h.size l (EX st.x hE post)
  | _ => true) = true
theorem run_ok {se : S} (hreg : FA tb n ih all s h = some (se,hE)) : ∃ l ss,RunOk tb n ih all s h se hE l ss := by
 unfold FA at hreg
 cases hp : Zf all with
 | none => rw [hp] at hreg;cases hreg
 | some q =>
 obtain ⟨dy,l⟩ := q
 rw [hp] at hreg
 simp only at hreg
 cases hd : Rc tb n ih all l s h with
 | none => rw [hd] at hreg;cases hreg
 | some q =>
 obtain ⟨ss,s1,h1⟩ := q
 rw [hd] at hreg
 simp only at hreg
 have hch := Rb _ _ _ _ _ _ hd
 unfold Zf at hp
 split at hp
 case h_2 => cases hp
 rename_i hed
 split at hp
 case h_2 => cases hp
 rename_i hpa
 cases hp
 have hmap := Il (BE all) []
 have hedge : ∀ j o,all[j]? = some o → ∀ e ∈ o.after.toList,Dn e = true → e.on < j := fun j o hj e he hb => by
  have := KQ hed j o hj e he hb;omega
 cases hdy : (H4 all || Ly (GS (BE all) [])) with
 | true =>
  rw [hdy] at hreg
  simp only at hreg
  split at hreg
  ·rename_i hdyn
   cases hreg
   exact ⟨_,ss,hch,hmap,hedge,G8 hpa,rfl,fun pre st post e => by rw [e] at hdyn;have := Xi pre hdyn;rw [List.append_nil] at this;exact this⟩
  ·cases hreg
 | false =>
  rw [hdy] at hreg
  cases hreg
  simp only [Bool.or_eq_false_iff] at hdy
  refine ⟨_,ss,hch,hmap,hedge,G8 hpa,rfl,fun pre st post e => ?_⟩
  rw [e] at hch
  obtain ⟨lp,y,lq,s1,q1,q2,q3,q4,⟨_,q5⟩,q6⟩ := dch2_split pre hch
  cases hk : st.k with
  | read f =>
   rw [hk] at q5
   have hy := Jz hdy.2 y (by rw [q1];simp)
   have : f = true := by rw [q5.2.2.1,hy]
   rw [this]
  | simp cl =>
   rw [hk] at q5
   have hmem : y.x ∈ BE all := by rw [← hmap,q1];simp
   have := (EY hmem).1
   have := Jy hdy.1 _ (List.mem_of_getElem? this)
   rw [← q3] at this
   rw [q5.2.2.2.2] at this;cases this
  | _ => rfl
theorem RunOk.xs {se : S} {l : List IF} {ss : List Stp} (hr : RunOk tb n ih all s h se hE l ss) : ss.map (·.x) = BE all := by
 rw [← hr.map,dch2_split.dmap l ss hr.ch]
theorem RunOk.at {se : S} {l : List IF} {ss : List Stp} (hr : RunOk tb n ih all s h se hE l ss) {i : Nat} {o : Oper} (hi : all[i]? = some o) : ∃ pre st post,ss = pre ++ st :: post ∧ st.i = i ∧ st.o = o := by
 have hm : i ∈ (BE all).map (·.1) := (KB all).mem_iff.2 (by simp;exact (List.getElem?_eq_some_iff.1 hi).1)
 obtain ⟨x,hx,rfl⟩ := List.mem_map.1 hm
 have ho := (EY hx).1
 rw [hi] at ho
 rw [← hr.xs] at hx
 obtain ⟨st,hst,rfl⟩ := List.mem_map.1 hx
 obtain ⟨pre,post,e⟩ := List.append_of_mem hst
 exact ⟨pre,st,post,e,rfl,by cases ho;rfl⟩
theorem RunOk.nodup {se : S} {l : List IF} {ss : List Stp} (hr : RunOk tb n ih all s h se hE l ss) : (ss.map (·.i)).Nodup := by
 have : ss.map (·.i) = (ss.map (·.x)).map (·.1) := by simp [Stp.i]
 rw [this,hr.xs]
 exact (KB all).nodup_iff.2 List.nodup_range
theorem RunOk.pair {se : S} {l : List IF} {ss pre q : List Stp} {st : Stp} (hr : RunOk tb n ih all s h se hE l ss) (e : ss = pre ++ st :: q) : (∀ x ∈ pre,Ko all.toArray x.x st.x) ∧ (∀ x ∈ q,Ko all.toArray st.x x.x) ∧ (∀ x ∈ pre,x.i ≠ st.i) ∧ (∀ x ∈ q,x.i ≠ st.i) := by
 have hp := hr.pairs
 rw [← hr.xs,e] at hp
 have hn := hr.nodup
 rw [e] at hn
 simp only [List.map_append,List.map_cons,List.pairwise_append,List.pairwise_cons,List.mem_map,List.mem_cons] at hp
 simp only [List.map_append,List.map_cons,List.nodup_append,List.nodup_cons,List.mem_map,List.mem_cons] at hn
 obtain ⟨_,⟨h1,_⟩,h2⟩ := hp
 obtain ⟨_,⟨h3,_⟩,h4⟩ := hn
 refine ⟨fun x hx => h2 _ ⟨x,hx,rfl⟩ _ (.inl rfl),fun x hx => h1 _ ⟨x,hx,rfl⟩,fun x hx e => ?_,fun x hx e => h3 ⟨x,hx,e⟩⟩
 exact h4 x.i ⟨x,hx,rfl⟩ st.i (.inl rfl) e
theorem Xj (hc : Ctx2 P tb) (hih : ∀ c,PC P c (ih c)) (hn : n ≤ 256) {d : List Nat} {id : Nat} {is : List Item} (hreg : FA tb n ih all s h = some (s',h')) (hr : HRep B ρ h w) (hf : FRep ρ n s d a)
  (hnd : ∀ o ∈ all,∀ c,o.op ≠ .defer c)
  (hfin : ∀ ρ' a' w',HRep B ρ' h' w' → ρ.le ρ' → FRep ρ' n s' d a' → Kept B w w' → Hk.Reach P b cs Q is a' w') : Hk.Reach P b cs Q (.code (.region id ⟨all⟩ true) :: is) a w := by
 refine FP fun t => ?_
 simp only [Region.schedule,hc.c.mixed,Bool.true_or,if_true]
 obtain ⟨l,ss,hR⟩ := run_ok hreg
 have hmask : ∀ (L : Nat → Bool),DownClosed all L → ∀ st ∈ ss,∀ j,st.m.testBit j = true → L st.i = true → L j = true := fun L hL st hst j hj hLi =>
  XZ hL (x := st.x) (by rw [← hR.xs];exact List.mem_map.2 ⟨st,hst,rfl⟩) hj hLi
 have hBp : ∀ x,B.p x → x < h.size := hr.pt
 suffices H : ∀ (fuel t : Nat) (listed : Array Bool) (a' : Act) (w' : World) (ρ' : Rho),listed.size = all.length → DownClosed all (fun j => listed.getD j false) → Ov (fun j => listed.getD j false) all.length ≤ fuel →
   HRep ⟨B.r,fun x => B.p x ∨ By (fun j => listed.getD j false) ss x⟩ ρ' (AR (fun j => listed.getD j false) ss h') w' → ρ.le ρ' → FRep ρ' n (F1 (fun j => listed.getD j false) ss s) d a' → Kept B w w' →
   Hk.Reach P b cs Q (.inRegion all.toArray (Region.linearise.go .any all.toArray fuel t listed []) :: is) a' w' by
  have hf0 : (fun j => (Array.replicate all.length false).getD j false) = fun _ => false := by
   funext j
   by_cases hj : j < all.length <;> simp [hj]
  refine H all.length t (Array.replicate all.length false) a { w with drawn := w.drawn + 1 } ρ (by simp) ?_ ?_ ?_ (Rho.le_refl ρ) ?_ (Kept.drew B w)
  ·rw [hf0];intro j o _ h;cases h
  ·rw [hf0]
   have : ∀ m,Ov (fun _ => false) m ≤ m := fun m => by induction m with
    | zero => simp [Ov]
    | succ m ih => simp only [Ov,cond_false];omega
   exact this _
  ·rw [hf0];exact L0 hR.ch (fun _ _ _ => rfl) hr.drew
  ·rw [hf0,JE];exact hf
 have hdone : ∀ (L : Nat → Bool) (a' : Act) (w' : World) (ρ' : Rho),(∀ j,j < all.length → L j = true) → HRep ⟨B.r,fun x => B.p x ∨ By L ss x⟩ ρ' (AR L ss h') w' → ρ.le ρ' → FRep ρ' n (F1 L ss s) d a' → Kept B w w' → Hk.Reach P b cs Q (.inRegion all.toArray [] :: is) a' w' := by
  intro L a' w' ρ' hall q1 q2 q3 q4
  have hL : ∀ x ∈ ss,L x.i = true := fun x hx => by
   have hx' : x.x ∈ BE all := by rw [← hR.xs];exact List.mem_map.2 ⟨x,hx,rfl⟩
   exact hall _ (List.getElem?_eq_some_iff.1 (EY hx').1).1
  refine AT (hfin ρ' a' w' ?_ q2 ?_ q4)
  ·rw [NW hL] at q1
   exact q1.keepB fun x hx => .inl hx
  ·rw [Xm hR.ch]
   refine q3.congr fun t => ?_
   exact Ey _ _ _ rfl fun x hx _ => (hL x hx).symm
 intro fuel
 induction fuel with
 | zero =>
  intro t listed a' w' ρ' hsz hdc hcnt q1 q2 q3 q4
  simp only [Region.linearise.go,List.reverse_nil]
  exact hdone _ a' w' ρ' (fun j hj => GW (Nat.le_zero.1 hcnt) j hj) q1 q2 q3 q4
 | succ fuel ihf =>
  intro t listed a' w' ρ' hsz hdc hcnt q1 q2 q3 q4
  simp only [Region.linearise.go]
  change Hk.Reach P b cs Q (.inRegion all.toArray (match (Region.ready .any all.toArray listed)[t % (Region.ready .any all.toArray listed).length]? with
   | some i => Region.linearise.go .any all.toArray fuel (t / (Region.ready .any all.toArray listed).length) (listed.setIfInBounds i true) [i]
   | none => [].reverse) :: is) a' w'
  have hgd : ∀ j,j < all.length → listed.getD j true = listed.getD j false := fun j hj => by simp [hsz,hj]
  cases hi : (Region.ready .any all.toArray listed)[t % (Region.ready .any all.toArray listed).length]? with
  | none =>
   have hnil : Region.ready .any all.toArray listed = [] := by
    cases hr : Region.ready .any all.toArray listed with
    | nil => rfl
    | cons x xs =>
     rw [hr] at hi
     have hlt : t % (x :: xs).length < (x :: xs).length := Nat.mod_lt _ (by simp)
     simp at hi
     simp at hlt
     omega
   have hall : ∀ m j,j < m → j < all.length → listed.getD j false = true := by
    intro m
    induction m with
    | zero => intro j hj;omega
    | succ m ihm =>
     intro j hj hja
     cases hS : listed.getD j false with
     | true => rfl
     | false =>
      have hmem : j ∈ Region.ready .any all.toArray listed := by
       refine mem_ready.2 ⟨by rw [hgd j hja,hS],all[j],by simp [hja],fun e he hb => ?_⟩
       have hlt := hR.edges j all[j] (by simp [hja]) e (by simpa using he) (by rw [D0];exact hb)
       exact ihm e.on (by omega) (by omega)
      rw [hnil] at hmem;cases hmem
   exact hdone _ a' w' ρ' (fun j hj => hall (j + 1) j (by omega) hj) q1 q2 q3 q4
  | some i =>
   simp only []
   rw [linearise_go_acc,List.reverse_singleton,List.singleton_append]
   have hmem := List.mem_of_getElem? hi
   obtain ⟨hun,o,ho,hbef⟩ := mem_ready.1 hmem
   have hil : i < all.length := by
    have := (Array.getElem?_eq_some_iff.1 ho).1
    simpa using this
   have hSi : listed.getD i false = false := by rw [← hgd i hil];exact hun
   have ho' : all[i]? = some o := by simpa using ho
   obtain ⟨pre,st,post,hss,hsti,hsto⟩ := hR.at ho'
   have hS' : ∀ j,(listed.setIfInBounds i true).getD j false = (bif Nat.beq j i then true else listed.getD j false) := by
    intro j
    by_cases hj : j = i
    ·subst hj;simp [hsz,hil]
    ·have : Nat.beq j i = false := by
      cases hb : Nat.beq j i with
      | false => rfl
      | true => exact absurd (Nat.eq_of_beq_eq_true hb) hj
     simp [this,Array.getElem?_setIfInBounds_ne (Ne.symm hj)]
   have hS'i : (listed.setIfInBounds i true).getD i false = true := by rw [hS'];simp
   have hS'n : ∀ j,j ≠ i → (listed.setIfInBounds i true).getD j false = listed.getD j false := by
    intro j hj
    rw [hS']
    have : Nat.beq j i = false := by
     cases hb : Nat.beq j i with
     | false => rfl
     | true => exact absurd (Nat.eq_of_beq_eq_true hb) hj
    simp [this]
   have hdc' : DownClosed all (fun j => (listed.setIfInBounds i true).getD j false) := by
    intro j oj hj hSj e he hb
    by_cases hji : j = i
    ·subst hji
     rw [ho'] at hj;cases hj
     have := hbef e (by simpa using he) (by rw [← D0];exact hb)
     by_cases hei : e.on = j
     ·rw [hei];exact hS'i
     ·exact (hS'n _ hei).trans this
    ·have hSj' : listed.getD j false = true := by have := hS'n j hji;simp only at hSj;rw [this] at hSj;exact hSj
     have := hdc j oj hj hSj' e he hb
     by_cases hei : e.on = i
     ·rw [hei];exact hS'i
     ·exact (hS'n _ hei).trans this
   obtain ⟨hp1,hp2,hn1,hn2⟩ := hR.pair hss
   have hin1 : ∀ x ∈ pre,x ∈ ss := fun x hx => by rw [hss];simp [hx]
   have hin2 : ∀ x ∈ post,x ∈ ss := fun x hx => by rw [hss];simp [hx]
   have hinst : st ∈ ss := by rw [hss];simp
   generalize hLd : (fun j => listed.getD j false) = L at hdc q1 q3 hcnt
   have hLj : ∀ j,listed.getD j false = L j := fun j => by rw [← hLd]
   generalize hLd' : (fun j => (listed.setIfInBounds i true).getD j false) = L' at hdc'
   have hLj' : ∀ j,(listed.setIfInBounds i true).getD j false = L' j := fun j => by rw [← hLd']
   rw [hLj] at hSi
   rw [hLj'] at hS'i
   have hne : ∀ j,j ≠ i → L' j = L j := fun j hj => by rw [← hLj',← hLj];exact hS'n j hj
   rw [← hsti] at hSi hS'i hne
   have hbefore : ∀ x ∈ pre,st.m.testBit x.i = true → L x.i = true := fun x hx hb => by
    rw [← hne _ (hn1 x hx)];exact hmask L' hdc' st hinst _ hb hS'i
   have hafter : ∀ x ∈ post,x.m.testBit st.i = true → L x.i = false := fun x hx hb => by
    cases hL : L x.i with
    | false => rfl
    | true => rw [hmask L hdc x (hin2 x hx) _ hb hL] at hSi;cases hSi
   have ap1 : ∀ x ∈ pre,L x.i = false → ApI all.toArray x.x st.x := fun x hx hL => by
    rcases hp1 x hx with hb | hb
    ·rw [hbefore x hx hb] at hL;cases hL
    ·exact hb
   have ap2 : ∀ x ∈ post,L x.i = true → ApI all.toArray st.x x.x := fun x hx hL => by
    rcases hp2 x hx with hb | hb
    ·rw [hafter x hx hb] at hL;cases hL
    ·exact hb
   have hch := hR.ch
   rw [hss] at hch
   obtain ⟨lp,y,lq,s1,r1,r2,r3,r4,r5,r6,r7⟩ := dch2_split pre hch
   have hst_s : st.s = F1 (fun _ => true) pre s := by
    obtain ⟨l',h1,hx⟩ := SO pre hch
    cases l' with
    | nil => exact hx.elim
    | cons z l' => exact hx.2.1
   obtain ⟨hdst,hk⟩ := r5
   have hlook : ∀ u ∈ o.looksAt all.toArray,RepG ρ' (a'.tmps.getD u Go.undef) (B9 u st.s) := by
    intro u hu
    have := q3.s.2 u
    rw [← hsto] at hu
    have he : B9 u (F1 L ss s) = B9 u st.s := by
     rw [hss,LM,hst_s]
     rw [PP (st :: post) _ (fun x hx hd => ?_)]
     ·refine Ey _ _ _ rfl fun x hx hd => ?_
      cases hL : L x.i with
      | true => rfl
      | false => exact absurd hu ((ap1 x hx hL).a u hd)
     ·rcases List.mem_cons.1 hx with rfl | hx
      ·exact hSi
      ·cases hL : L x.i with
       | false => rfl
       | true => exact absurd hu ((ap2 x hx hL).b u hd)
    rw [← he];exact this
   have hSlots : ∀ u,B9 u (LU o.dst st.g (F1 L ss s)) = B9 u (F1 L' ss s) := by
    intro u
    rw [← hsto]
    by_cases hd : st.o.dst = some u
    ·rw [hd,De,hss,LM]
     simp only [F1,hS'i,cond_true]
     rw [PP post _ (fun x hx hdx => ?_),hd,De]
     rw [hne _ (hn2 x hx)]
     cases hL : L x.i with
     | false => rfl
     | true => exact absurd hdx ((ap2 x hx hL).c u hd)
    ·rw [IZ hd]
     refine Ey _ _ _ rfl fun x hx hdx => ?_
     refine (hne _ fun e => ?_).symm
     rw [hss] at hx
     rcases List.mem_append.1 hx with hx | hx
     ·exact hn1 x hx e
     ·rcases List.mem_cons.1 hx with rfl | hx
      ·exact hd hdx
      ·exact hn2 x hx e
   have cont : ∀ v w2 ρ2,HRep ⟨B.r,fun x => B.p x ∨ By L' ss x⟩ ρ2 (AR L' ss h') w2 → ρ'.le ρ2 → RepG ρ2 v st.g → Kept B w' w2 →
     Hk.Reach P b cs Q (.inRegion all.toArray (Region.linearise.go .any all.toArray fuel (t / (Region.ready .any all.toArray listed).length) (listed.setIfInBounds i true) []) :: is) (a'.put o.dst v) w2 := by
    intro v w2 ρ2 g1 g2 g3 g4
    refine ihf _ (listed.setIfInBounds i true) _ w2 ρ2 (by simp [hsz]) ?_ ?_ ?_ (Rho.le_trans q2 g2) ?_ (q4.trans g4)
    ·rw [hLd'];exact hdc'
    ·rw [hLd']
     rw [hsti] at hSi hS'i hne
     have := Jr (S := L) (S' := L') hSi hS'i hne hil
     omega
    ·rw [hLd'];exact g1
    ·rw [hLd'];exact ((q3.mono g2).put (by rw [← hsto];exact hdst) g3).congr fun u => (hSlots u).symm
   have hneS : ∀ x ∈ ss,x.i = st.i → x = st := fun x hx e => by
    rw [hss] at hx
    rcases List.mem_append.1 hx with hx | hx
    ·exact absurd e (hn1 x hx)
    ·rcases List.mem_cons.1 hx with rfl | hx
     ·rfl
     ·exact absurd e (hn2 x hx)
   have hmemSame : st.isBig = false → AR L' ss h' = AR L ss h' := fun hb => KF fun x hx hxb => hne _ fun e => by
    rw [hneS x hx e,hb] at hxb;cases hxb
   have hphSame : st.isBig = false → st.isSimp = false → ∀ z,By L' ss z ↔ By L ss z := fun hb hs z => Du fun x hx hxb => hne _ fun e => by
    rw [hneS x hx e,hb,hs] at hxb;simp at hxb
   have quiet : ∀ v,st.isBig = false → st.isSimp = false → RepG ρ' v st.g → Hk.Reach P b cs Q (.inRegion all.toArray (Region.linearise.go .any all.toArray fuel (t / (Region.ready .any all.toArray listed).length) (listed.setIfInBounds i true) []) :: is) (a'.put o.dst v) w' := by
    intro v hb hs hv
    refine cont v w' ρ' ?_ (Rho.le_refl ρ') hv (Kept.refl B w')
    rw [hmemSame hb]
    exact HRep.keepB (B := ⟨B.r,_⟩) q1 fun z (hz : B.p z ∨ By L' ss z) => (show B.p z ∨ By L ss z from hz.imp (fun h => h) (hphSame hb hs z).1)
   have hbigpre : DY st.o.op = true ∨ HF st.o.op = true → ∀ x ∈ pre,x.isBig = true → L x.i = true := fun hbs x hx hxb => by
    rcases hp1 x hx with hb | hb
    ·exact hbefore x hx hb
    ·have : DY x.o.op = true := by
      obtain ⟨p1,p2,hpp⟩ := List.append_of_mem hx
      rw [hpp] at hch
      have hch2 := hch
      rw [List.append_assoc,List.cons_append] at hch2
      obtain ⟨_,_,_,_,_,_,_,_,⟨_,z5⟩,_⟩ := dch2_split p1 hch2
      unfold Stp.isBig at hxb
      split at hxb
      ·rename_i hkx;rw [hkx] at z5;exact z5.2.2
      ·cases hxb
     have := hb.d this
     rcases hbs with h1 | h1
     ·exact absurd h1 (by show ¬ DY st.x.2.2.op = true;rw [this.1];simp)
     ·exact absurd h1 (by show ¬ HF st.x.2.2.op = true;rw [this.2];simp)
   have hw : ∀ q,Gr all st.o st.s = some q → Region.wanted o (yielded all.toArray a'.tmps) = q := fun q hq => by
    rw [hsto] at hq;exact Q9 hq hlook
   have hms := UG (ts := o.looksAt all.toArray) (s := st.s) (tmps := a'.tmps) q3.s.1 hlook
   have hsame := RX (all := all.toArray) (o := o) st.s
   have hend := fun (hwt : Gr all st.o st.s = some true) (hv : valY P ((execOp a'.eval o).run P w') (fun v w2 => Hk.Reach P b cs Q (.inRegion all.toArray (Region.linearise.go .any all.toArray fuel (t / (Region.ready .any all.toArray listed).length) (listed.setIfInBounds i true) []) :: is) (a'.put o.dst v) w2) (fun _ _ => False)) =>
    BD (k := is) ho (hw true hwt) (hnd o (List.mem_of_getElem? ho')) (valY.upon (hv.mono (fun _ _ hx => hx) (fun _ _ hx => hx.elim)))
   cases hkd : st.k with
   | skip =>
    rw [hkd] at hk
    refine Bt ho (hw false hk.1) ?_
    refine quiet Go.undef (by unfold Stp.isBig;rw [hkd]) (by unfold Stp.isSimp;rw [hkd]) ?_
    rw [hk.2.1];exact PN
   | pure =>
    rw [hkd] at hk
    refine hend hk.1 ?_
    have he := hk.2.1
    rw [MA (h' := AR L ss h') hk.2.2.1,hsto,QQ hsame] at he
    obtain ⟨v,hrun,hv⟩ := SD hc.c q1 hms he
    rw [hrun]
    exact quiet v (by unfold Stp.isBig;rw [hkd]) (by unfold Stp.isSimp;rw [hkd]) hv
   | read f =>
    rw [hkd] at hk
    refine hend hk.1 ?_
    have he : evQ tb.tt tb.eqs st.o.op st.s (AR L ss h') = some st.g := by
     cases f with
     | false =>
      have := hR.dyn pre st post hss
      rw [hkd] at this
      simp only [Bool.and_eq_true] at this
      have hbs : st.isBig = false := by unfold Stp.isBig;rw [hkd]
      rcases NV (hE := h') (L := L) (y := st.x) (q := st :: post) hbefore with e | ⟨x,hx1,hx2,hx3,e⟩
      ·rw [hss,e]
       simp only [AR,hbs,Bool.false_and,cond_false]
       exact Ki this.2 _ (Mp hafter)
      ·rw [hss,e]
       exact Ki this.1 _ (PV (List.mem_reverse.2 hx1) hx2 hx3)
     | true =>
      have hfl := hR.flags
      rw [r1] at hfl
      have hrd : CV y.x.2.2.op = true := by rw [← r3];exact hk.2.2.2.1
      obtain ⟨f1,_,f3⟩ := Ok _ _ lp y lq hfl.symm hrd hk.2.2.1.symm
      have hpre : ∀ x ∈ pre,x.isBig = true → L x.i = true := fun x hx hxb => by
       have hxm : x.x ∈ lp.map (·.x) := by rw [r2];exact List.mem_map.2 ⟨x,hx,rfl⟩
       obtain ⟨z,hz,hzx⟩ := List.mem_map.1 hxm
       have hsb : DY x.o.op = true := by
        obtain ⟨p1,p2,hpp⟩ := List.append_of_mem hx
        have hch2 := hch
        rw [hpp,List.append_assoc,List.cons_append] at hch2
        obtain ⟨_,_,_,_,_,_,_,_,⟨_,z5⟩,_⟩ := dch2_split p1 hch2
        unfold Stp.isBig at hxb
        split at hxb
        ·rename_i hkx;rw [hkx] at z5;exact z5.2.2
        ·cases hxb
       have := f1 z hz (by rw [hzx];exact hsb)
       rw [hzx,← r3] at this
       exact hbefore x hx this
      rw [hss,F4 pre hpre]
      have hb : st.isBig = false := by unfold Stp.isBig;rw [hkd]
      simp only [AR,hb,Bool.false_and,cond_false]
      have hpw := hR.pairs
      rw [← hR.xs,hss] at hpw
      simp only [List.map_append,List.map_cons,List.pairwise_append,List.pairwise_cons] at hpw
      have hall := KM (L := L) (y := y.x) (by rw [← r3];exact hSi) f3 (by rw [r7];exact hpw.2.1.2) (by
       rw [r7]
       intro z hz j hj hLz
       obtain ⟨x,hx,rfl⟩ := List.mem_map.1 hz
       exact hmask L hdc x (hin2 x hx) j hj hLz)
      refine Tn r6 (fun z hz hsb => hall z.x (by rw [r7];exact List.mem_map.2 ⟨z,hz,rfl⟩) hsb) ?_
      rw [hk.2.2.2.2]
      exact hk.2.1
    rw [hsto,QQ hsame] at he
    obtain ⟨v,hrun,hv⟩ := SD hc.c q1 hms he
    rw [hrun]
    exact quiet v (by unfold Stp.isBig;rw [hkd]) (by unfold Stp.isSimp;rw [hkd]) hv
   | big =>
    rw [hkd] at hk
    obtain ⟨hk1,hk2,hk3⟩ := hk
    have hb : st.isBig = true := by unfold Stp.isBig;rw [hkd]
    have hpre := hbigpre (.inl hk3)
    have hM : AR L ss h' = st.h := by
     rw [hss,F4 pre hpre]
     simp only [AR,hb,hSi,Bool.not_false,Bool.and_true,cond_true]
    have hpost : ∀ x ∈ post,x.isBig = true ∨ x.isSimp = true → L' x.i = false := fun x hx hxb => by
     rw [hne _ (hn2 x hx)]
     rcases hp2 x hx with h1 | h1
     ·exact hafter x hx h1
     ·have h2 := h1.d hk3
      obtain ⟨p1,p2,hpp⟩ := List.append_of_mem hx
      have hch2 := hch
      rw [hpp,show pre ++ st :: (p1 ++ x :: p2) = (pre ++ st :: p1) ++ x :: p2 by simp] at hch2
      obtain ⟨_,_,_,_,_,_,_,_,⟨_,z5⟩,_⟩ := dch2_split _ hch2
      exfalso
      rcases hxb with hxb | hxb
      ·unfold Stp.isBig at hxb
       split at hxb
       ·rename_i hkx;rw [hkx] at z5;have := z5.2.2;rw [show DY x.o.op = false from h2.1] at this;cases this
       ·cases hxb
      ·unfold Stp.isSimp at hxb
       split at hxb
       ·rename_i hkx;rw [hkx] at z5;have := z5.2.2.2.2;rw [show HF x.o.op = false from h2.2] at this;cases this
       ·cases hxb
    have hpre' : ∀ x ∈ pre,x.isBig = true → L' x.i = true := fun x hx hxb => by rw [hne _ (hn1 x hx)];exact hpre x hx hxb
    have hM' : AR L' ss h' = AR L' post h' := by
     rw [hss,F4 pre hpre']
     simp only [AR,hS'i,Bool.not_true,Bool.and_false,cond_false]
    have hph' : ∀ z,By L' ss z ↔ By L pre z ∨ By L' post z := fun z => by
     rw [hss,E2 pre hpre',Du (L := L') (L' := L) (ss := pre) fun x hx _ => hne _ (hn1 x hx)]
     simp only [By,hS'i,Bool.not_true,Bool.and_false,cond_false]
     simp
    have hph : ∀ z,By L ss z ↔ By L pre z := fun z => by
     rw [hss,E2 pre hpre]
     simp only [By,hb,hSi,Bool.not_false,Bool.and_true,cond_true,or_false]
    rw [hM] at q1
    have q1' : HRep ⟨B.r,fun x => B.p x ∨ By L pre x⟩ ρ' st.h w' := HRep.keepB (B := ⟨B.r,_⟩) q1 fun z (hz : B.p z ∨ By L pre z) => (show B.p z ∨ By L ss z from hz.imp (fun h => h) (hph z).2)
    have hval : valY P ((execOp a'.eval o).run P w') (PA ⟨B.r,fun x => B.p x ∨ By L pre x⟩ ρ' w' st.g st.h') (fun _ _ => False) := by
     rcases hk2 with h2 | ⟨c,h2,h3⟩
     ·rw [hsto,Vd hsame] at h2
      exact (TV hc h2).valY q1' hms
     ·rw [hsto,Rw hsame] at h2
      have := Ox hc h2 (hih c) q1' hms
      rw [h3] at this
      exact this
    refine hend hk1 (hval.mono (fun v w2 ⟨ρ2,g1,g2,g3,g4⟩ => ?_) (fun _ _ hx => hx))
    refine cont v w2 ρ2 ?_ g2 g3 (g4.keepB)
    rw [hM']
    have := L0 r6 hpost g1
    exact HRep.keepB (B := ⟨B.r,fun x => B.p x ∨ By L' ss x⟩) this fun z (hz : B.p z ∨ By L' ss z) => by
     show (B.p z ∨ By L pre z) ∨ By L' post z
     rcases hz with hz | hz
     ·exact .inl (.inl hz)
     ·rcases (hph' z).1 hz with hz | hz
      ·exact .inl (.inr hz)
      ·exact .inr hz
   | simp cl =>
    rw [hkd] at hk
    obtain ⟨hk1,⟨mk,hk2,hk3⟩,hk4,hk5,hk6⟩ := hk
    have hb : st.isBig = false := by unfold Stp.isBig;rw [hkd]
    have hs : st.isSimp = true := by unfold Stp.isSimp;rw [hkd]
    have hpre := hbigpre (.inr hk6)
    have hpre' : ∀ x ∈ pre,x.isBig = true → L' x.i = true := fun x hx hxb => by rw [hne _ (hn1 x hx)];exact hpre x hx hxb
    have hdy := hR.dyn pre st post hss
    rw [hkd] at hdy
    simp only [Bool.and_eq_true,Nat.ble_eq] at hdy
    obtain ⟨hd1,hd2⟩ := hdy
    have hint := GM hd2
    have hM : AR L ss h' = AR L post h' := by
     rw [hss,F4 pre hpre]
     simp only [AR,hb,Bool.false_and,cond_false]
    have hMi := hint _ (KE (L := L) (y := st.x) (ss := post) (hE := h') hafter)
    rw [← hM] at hMi
    obtain ⟨hlt,hget⟩ := hMi
    have hphb : By L ss st.h.size := by
     rw [hss,E2 pre hpre]
     simp only [By,hb,Bool.false_and,cond_false]
     exact .inr (.inl ⟨hs,hSi,by trivial⟩)
    have hρb : ρ' st.h.size = none := by
     cases hρ : ρ' st.h.size with
     | none => rfl
     | some x => exact absurd (.inr hphb) (q1.pl _ _ hρ)
    have hnot : ¬ (B.p st.h.size ∨ By L' ss st.h.size) := by
     rintro (hx | hx)
     ·have := hBp _ hx;omega
     ·rw [hss,E2 pre hpre'] at hx
      rcases hx with hx | hx
      ·obtain ⟨x,hx1,hx2,hx3,hx4⟩ := PZ hx
       rw [hne _ (hn1 x hx1)] at hx3
       obtain ⟨p1,p2,hpp⟩ := List.append_of_mem hx1
       have hdx := hR.dyn p1 x (p2 ++ st :: post) (by rw [hss,hpp];simp)
       unfold Stp.isSimp at hx2
       split at hx2
       ·rename_i clx hkx
        rw [hkx] at hdx
        simp only [Bool.and_eq_true] at hdx
        have := (GM hdx.2 _ (LG (hE := h') (p2 := p2) (post := post) hs (fun z hz hzb => by
         cases hb : z.m.testBit x.x.1 with
         | false => rfl
         | true =>
          have hzp : z ∈ pre := by rw [hpp];simp [hz]
          rw [hmask L hdc z (hin1 z hzp) _ hb (hpre z hzp hzb)] at hx3;cases hx3))).1
        omega
       ·cases hx2
      ·simp only [By,hb,Bool.false_and,cond_false] at hx
       rcases hx with hx | hx
       ·rw [hS'i] at hx;cases hx.2.1
       ·have hx := (Du (fun x hx _ => hne _ (hn2 x hx))).1 hx
        obtain ⟨v,hv1,hv2⟩ := LW (hE := h') hafter hx
        have := (hint _ hv1).1
        omega
    have hsub : ∀ z,By L' ss z → By L ss z := fun z hz => by
     rw [hss,E2 pre hpre'] at hz
     rw [hss,E2 pre hpre]
     rcases hz with hz | hz
     ·exact .inl ((Du (fun x hx _ => hne _ (hn1 x hx))).1 hz)
     ·refine .inr ?_
      simp only [By,hb,Bool.false_and,cond_false] at hz ⊢
      rcases hz with hz | hz
      ·rw [hS'i] at hz;cases hz.2.1
      ·exact .inr ((Du (fun x hx _ => hne _ (hn2 x hx))).1 hz)
    have q1' : HRep ⟨B.r,fun x => B.p x ∨ By L' ss x⟩ ρ' (AR L ss h') w' := HRep.keepB (B := ⟨B.r,_⟩) q1 fun z (hz : B.p z ∨ By L' ss z) => (show B.p z ∨ By L ss z from hz.imp (fun h => h) (hsub z))
    rw [hsto,RI hsame] at hk2
    obtain ⟨vs,ty,v,e1,e2,e3,e4,e5⟩ := VW hc.c hk2 hms (w := w')
    obtain ⟨g1,g2,g3⟩ := q1'.real (t := ty) hget hρb hlt hnot e2 e3 e4
    refine hend hk1 ?_
    rw [e1]
    refine cont v _ _ ?_ g2 ?_ g3.keepB
    ·rw [hmemSame hb];exact g1
    ·rw [hk3];exact e5 _ _ (by simp [Rho.add])
end
end Go.Gx
namespace Go.Gx
open Go.Hk (TT TTok TyI Sh lk TyOk BS C1 A6 DI Dg)
noncomputable def NS (l : List Oper) : Bool := List.rec (motive := fun _ => Bool) true (fun o _ ih => match o.op with
 | .defer _ => false
 | _ => ih) l
theorem Qk : ∀ {l : List Oper},NS l = true → ∀ o ∈ l,∀ c,o.op ≠ .defer c
 | [],_,o,ho,_ => by simp at ho
 | x :: r,h,o,ho,c => by
  have h : (match x.op with | .defer _ => false | _ => NS r) = true := h
  have hx : (∀ c,x.op ≠ .defer c) ∧ NS r = true := by
   split at h
   ·cases h
   ·rename_i hn;exact ⟨fun c hc => hn c hc,h⟩
  rcases List.mem_cons.1 ho with rfl | ho
  ·exact hx.1 c
  ·exact Qk hx.2 o ho c
noncomputable def I8 (tt : TT) (s : S) (h : GH) : List ResultVar → Option (List G)
 | [] => some []
 | .tmp t :: r => match I8 tt s h r with
  | some gs => some (B9 t s :: gs)
  | none => none
 | .cell a t :: r => match B9 a s,lk tt t,I8 tt s h r with
  | .ptr b o,some i,some gs => match h.get b with
   | .cells l => match YJ i l o with
    | some g => some (g :: gs)
    | none => none
   | _ => none
  | _,_,_ => none
def G4 : List G → G
 | [g] => g
 | gs => .tup gs
noncomputable def Qz : List Nat → GH → (GH → Res) → Res
 | [],h,k => k h
 | b :: r,h,k => match h.get b with
  | .defd => wr h b .dead (fun h1 => Qz r h1 k) .fail
  | _ => .fail
noncomputable def R1 : Nat → List G → S → S
 | _,[],s => s
 | i,g :: r,s => R1 (i + 1) r (H8 i s g)
noncomputable def Ww (n : Nat) : List Nat → List G → S → Option S
 | [],[],s => some s
 | t :: ts,g :: gs,s => match Nat.blt t n with
  | true => Ww n ts gs (H8 t s g)
  | false => none
 | _,_,_ => none
noncomputable def gop (tb : H6) (n : Nat) (ih : Cfg → Res) (all : List Oper) (o : Oper) (s : S) (d : List Nat) (h : GH) (k : S → GH → Res) : Res := match Gr all o s with
 | some q => Bool.rec (motive := fun _ => Res) (G6 .fail n o.dst N6 s (fun s' => k s' h)) (match evQ tb.tt tb.eqs o.op s h with
  | some g => G6 .fail n o.dst g s (fun s' => k s' h)
  | none => match Ld tb.tt o.op s h with
   | some (g,h1) => G6 .fail n o.dst g s (fun s' => k s' h1)
   | none => match callee tb o.op s h with
    | some c => match ih c with
     | .rv g h1 => G6 .fail n o.dst g s (fun s' => k s' h1)
     | .rp g h1 => .fr (.pan g) s d h1
     | _ => .fail
    | none => match o.op with
     | .panic x => match AN x s with
      | .if_ t g => .fr (.pan (.if_ t g)) s d h
      | _ => .fail
     | _ => .fail) q
 | none => .fail
noncomputable def WK (tb : H6) (n : Nat) (ih : Cfg → Res) (all rest : List Oper) (d : List Nat) : S → GH → Res :=
 List.rec (motive := fun _ => S → GH → Res) (fun s h => .fr .norm s d h) (fun o _ rec s h => gop tb n ih all o s d h rec) rest
noncomputable def H9 (r : Res) (f : S → List Nat → GH → Res) : Res :=
 Res.rec (motive := fun _ => Res) .fail (fun x s d h => GX.rec (motive := fun _ => Res) (f s d h) (.fr .ret s d h) (fun id => .fr (.exit id) s d h) (fun l => .fr (.goto l) s d h) (fun g => .fr (.pan g) s d h) x) (fun _ _ => .fail) (fun _ _ => .fail) r
theorem Tf {r : Res} {f : S → List Nat → GH → Res} {x : GX} {s : S} {d : List Nat} {h : GH} (e : H9 r f = .fr x s d h) :
  (∃ s1 d1 h1,r = .fr .norm s1 d1 h1 ∧ f s1 d1 h1 = .fr x s d h) ∨ (r = .fr x s d h ∧ x ≠ .norm) := by
 cases r with
 | fr x1 s1 d1 h1 =>
  cases x1 <;> first
   | exact .inl ⟨s1,d1,h1,rfl,e⟩
   | (cases e;exact .inr ⟨rfl,by simp⟩)
 | _ => cases e
noncomputable def Oh (f : S → List Nat → GH → Res) (N : Nat) : S → List Nat → GH → Res :=
 Nat.rec (motive := fun _ => S → List Nat → GH → Res) (fun _ _ _ => .fail) (fun _ rec s d h => H9 (f s d h) rec) N
noncomputable def P4 (id : Nat) (r : Res) : Res := match r with
 | .fr x s d h => match x with
  | .exit j => match Nat.beq j id with
   | true => .fr .norm s d h
   | false => .fr (.exit j) s d h
  | x => .fr x s d h
 | _ => .fail
noncomputable def RJ (f : Code → S → List Nat → GH → Res) (body : Code) (N : Nat) : Res → Res :=
 Nat.rec (motive := fun _ => Res → Res) (fun _ => .fail) (fun _ rec r => match r with
  | .fr x s d h => match x with
   | .goto l => match findLabel body l with
    | some c => rec (f c s d h)
    | none => .fr (.goto l) s d h
   | x => .fr x s d h
  | _ => .fail) N
noncomputable def YO (ih : Cfg → Res) (n : Nat) (fn : FuncId) (ro : Option Nat) (s : S) (d : List Nat) (l : Nat) : Res → Res
 | .rv _ h => match h.get l with
  | .loop .busy _ _ _ _ _ _ _ _ => .fail
  | .loop _ pend _ _ _ _ _ _ _ => wr h l .dead (fun h1 => match pend with
   | none => .fr .norm s d h1
   | some c => ih (.go n fn ro c s d h1)) .fail
  | _ => .fail
 | .rp g h => .fr (.pan g) s d h
 | _ => .fail
noncomputable def JU (tb : H6) (ih : Cfg → Res) (n : Nat) (fn : FuncId) (ro : Option Nat) (s : S) (d : List Nat) (g : G) (l : Nat) (h : GH) : Res := match g with
 | .fn f fi ca => match tb.fn f with
  | some fc => match fc.body with
   | some _ => YO ih n fn ro s d l (ih (.call f (Dl fi (Dl [.yield l] ca id) id) h))
   | none => .fail
  | none => .fail
 | _ => .fail
def gxB : GX → GX → Bool
 | .norm,.norm => true
 | .ret,.ret => true
 | .exit a,.exit b => Nat.beq a b
 | .goto a,.goto b => Nat.beq a b
 | _,_ => false
def T7 : List Nat → List Nat → Bool
 | [],[] => true
 | a :: r,b :: t => Nat.beq a b && T7 r t
 | _,_ => false
noncomputable def prB (p q : G × G) : Bool := gB 60 p.1 q.1 && gB 60 p.2 q.2
noncomputable def aK (p : G × G) : List (G × G) → Option (List (G × G))
 | [] => none
 | q :: r => match prB p q with
  | true => some r
  | false => match aK p r with
   | some t => some (q :: t)
   | none => none
noncomputable def Ts : List (G × G) → List (G × G) → Bool
 | [],[] => true
 | [],_ :: _ => false
 | p :: r,l => match aK p l with
  | some t => Ts r t
  | none => false
noncomputable def HB : GB → GB → Bool
 | .cells l,.cells l' => gsB (gB 60) l l'
 | .map v kv,.map v' kv' => Nat.beq v v' && Ts kv kv'
 | .siter a b c,.siter a' b' c' => Nat.beq a a' && (Nat.beq b b' && Nat.beq c c')
 | .minone,.minone => true
 | .defd,.defd => true
 | _,_ => false
noncomputable def T.joinK {β : Type} (t : T) : T → (T → β) → β :=
 T.rec (motive := fun _ => T → (T → β) → β) (fun _ k => k .e)
  (fun v _ _ ihl ihr t' k => T.rec (motive := fun _ => β) (k .e) (fun v' l' r' _ _ => ihl l' fun a => ihr r' fun b => Bool.rec (motive := fun _ => β) (k (.n .dead a b)) (k (.n v a b)) (HB v v')) t') t
noncomputable def Pf {β : Type} (s s' : S) (n : Nat) : S → (S → β) → β :=
 Nat.rec (motive := fun _ => S → (S → β) → β) (fun acc k => k acc) (fun t ih acc k => Bool.rec (motive := fun _ => β) (ih acc k) (ih (H8 t acc (s t)) k) (gB 60 (s t) (s' t))) n
noncomputable def TG (n : Nat) (r r' : Res) : Res := match r with
 | .fr x s d h => match r' with
  | .fr x' s' d' h' => match gxB x x',T7 d d',Nat.beq h.size h'.size with
   | true,true,true => Pf s s' n S0 (fun s2 => T.joinK h.t h'.t (fun t => .fr x s2 d ⟨h.size,t⟩))
   | _,_,_ => .fail
  | _ => .fail
 | _ => .fail
def Qq (c : Code) : Option (Oper × Operand × List Oper × Code) := match c with
 | .seq (.region _ ops false) rest => match ops.toList with
  | o :: os => match o.guard,o.op with
   | none,.next x false => some (o,x,os,rest)
   | _,_ => none
  | [] => none
 | _ => none
noncomputable def Wt (tb : H6) (ih : Cfg → Res) (n : Nat) (fn : FuncId) (ro : Option Nat) (o : Oper) (os : List Oper) (rest : Code) (rec : S → List Nat → GH → Res) (s : S) (d : List Nat) (h : GH) (b m v : Nat) (p : G × G) (rem : List (G × G)) : Res :=
 wr h b (.miter m v (some p) rem) (fun h1 => G6 .fail n o.dst (.tup [.bool true,p.1,p.2]) s (fun s1 => H9 (H9 (WK tb n ih (o :: os) os d s1 h1) (fun s d h => ih (.go n fn ro rest s d h))) rec)) .fail
noncomputable def NJ (n : Nat) (f : G × G → List (G × G) → Res) : List (G × G) → List (G × G) → Res
 | [],_ => .fail
 | [p],pre => f p pre
 | p :: q :: r,pre => TG n (f p (pre ++ q :: r)) (NJ n f (q :: r) (pre ++ [p]))
noncomputable def GE (tb : H6) (ih : Cfg → Res) (n : Nat) (fn : FuncId) (ro : Option Nat) (o : Oper) (x : Operand) (os : List Oper) (rest : Code) (ic : S → List Nat → GH → Res) (N : Nat) : S → List Nat → GH → Res :=
 Nat.rec (motive := fun _ => S → List Nat → GH → Res) (fun _ _ _ => .fail) (fun _ rec s d h => match AN x s with
  | .ptr b 0 => match h.get b with
   | .miter m v _ rem => match rem with
    | [] => H9 (ic s d h) rec
    | p :: r => match h.get m with
     | .map v' _ => match Nat.beq v' v with
      | true => NJ n (Wt tb ih n fn ro o os rest rec s d h b m v) (p :: r) []
      | false => .fail
     | _ => .fail
   | _ => H9 (ic s d h) rec
  | _ => .fail) N
noncomputable def upk (len : Nat) : Nat → List Nat := Nat.rec (motive := fun _ => Nat → List Nat) (fun _ => []) (fun _ ih n => Nat.mod n 256 :: ih (Nat.div n 256)) len
def ltN : List Nat → List Nat → Bool
 | [],[] => false
 | [],_ :: _ => true
 | _ :: _,[] => false
 | a :: x,b :: y => match Nat.blt a b with
  | true => true
  | false => match Nat.beq a b with
   | true => ltN x y
   | false => false
noncomputable def ltK (a b : Nat × Nat) : Bool := ltN (upk a.1 a.2) (upk b.1 b.2)
noncomputable def ZP (k : Nat × Nat) : List (Nat × Nat) → List (Nat × Nat)
 | [] => [k]
 | j :: r => match ltK k j with
  | true => k :: j :: r
  | false => j :: ZP k r
noncomputable def VU : List (Nat × Nat) → List (Nat × Nat)
 | [] => []
 | k :: r => ZP k (VU r)
def YK : List (G × G) → Option (List (Nat × Nat))
 | [] => some []
 | p :: r => match p.1,p.2,YK r with
  | .str len n,.bool _,some l => match Nat.ble len 1000000 with
   | true => some ((len,n) :: l)
   | false => none
  | _,_,_ => none
noncomputable def upB : List (Nat × Nat) → Bool
 | [] => true
 | [_] => true
 | a :: b :: r => ltK a b && upB (b :: r)
noncomputable def Y8 {R : Type} : List (Nat × Nat) → (List G → R) → R
 | [],k => k []
 | p :: r,k => Y8 r fun l => k (.str p.1 p.2 :: l)
noncomputable def Y9 (args : List G) (h : GH) : Res := match args with
 | [.map m] => match h.get m with
  | .map _ kv => match YK kv with
   | some [] => .rv .nils h
   | some (k :: ks) => match upB (VU (k :: ks)) && Nat.ble ks.length 999999 with
    | true => Y8 (VU (k :: ks)) fun l => nw h (.cells l) (fun b h' => .rv (.sl b 0 (ks.length + 1) (ks.length + 1) (some 1)) h') .fail
    | false => .fail
   | none => .fail
  | _ => .fail
 | _ => .fail
def XY (l : List FuncId) (f : FuncId) : Bool := match l with
 | [] => false
 | x :: r => match Nat.beq x f with
  | true => true
  | false => XY r f
noncomputable def F9 (tb : H6) (ih : Cfg → Res) (n : Nat) (fn : FuncId) (ro : Option Nat) (c : Code) : S → List Nat → GH → Res := Code.rec (motive := fun _ => S → List Nat → GH → Res)
 (fun s d h => .fr .norm s d h)
 (fun _ ops dr s d h => match dr with
  | false => WK tb n ih ops.toList ops.toList d s h
  | true => match NS ops.toList with
   | true => match FA tb n ih ops.toList s h with
    | some (s',h') => .fr .norm s' d h'
    | none => .fail
   | false => .fail)
 (fun _ _ ia ib s d h => H9 (ia s d h) ib)
 (fun x _ _ ia ib s d h => match AN x s with
  | .bool t => Bool.rec (motive := fun _ => Res) (ib s d h) (ia s d h) t
  | _ => .fail)
 (fun id _ ic s d h => P4 id (ic s d h))
 (fun c ic s d h => match Qq c with
  | none => Oh ic 100000000 s d h
  | some (o,x,os,rest) => GE tb ih n fn ro o x os rest ic 100000000 s d h)
 (fun g ps asg body _ _ s d h => match ro with
  | none => nw h .defd (fun db h1 => nw h1 (.loop .ready none fn s n ps asg body db) (fun l h2 => JU tb ih n fn ro s (db :: d) (AN g s) l h2) .fail) .fail
  | some l0 => match h.get l0 with
   | .loop _ _ _ _ _ _ _ _ db => nw h (.loop .ready none fn s n ps asg body db) (fun l h2 => JU tb ih n fn ro s d (AN g s) l h2) .fail
   | _ => .fail)
 (fun id s d h => .fr (.exit id) s d h)
 (fun body ic s d h => RJ (fun c s d h => ih (.go n fn ro c s d h)) body 100000000 (ic s d h))
 (fun _ s d h => .fr .norm s d h)
 (fun l s d h => .fr (.goto l) s d h)
 (fun s d h => .fr .ret s d h)
 (fun _ _ _ _ => .fail) c
def aM : List (FuncId × TypeId) → FuncId → Option TypeId
 | [],_ => none
 | (f',t) :: r,f => match Nat.beq f' f with
  | true => some t
  | false => aM r f
noncomputable def WJ (t : TypeId) : Res → Res
 | .rv _ h => .rv (.bool true) h
 | .rp (.if_ t' g) h => match g with
  | .agg l => match l with
   | [] => match Nat.beq t' t with
    | true => .rv (.bool false) h
    | false => .fail
   | _ => .fail
  | _ => .fail
 | _ => .fail
noncomputable def WP (tb : H6) (ih : Cfg → Res) (f : FuncId) (args : List G) (h : GH) : Res := match aM tb.hold f with
 | some t => match args with
  | [.fn g fi ca] => match tb.fn g with
   | some fc => match fc.body with
    | some _ => WJ t (ih (.call g (Dl fi ca id) h))
    | none => .fail
   | none => .fail
  | _ => .fail
 | none => match XY tb.sorts f with
 | true => Y9 args h
 | false => match tb.fn f with
  | some fn => match fn.body with
   | some c => match Nat.ble args.length fn.ntmps,Nat.ble fn.ntmps 256 with
    | true,true => match ih (.go fn.ntmps f none c (R1 0 args S0) [] h) with
     | .fr x s d h1 => Qz d h1 (fun h2 => match x with
      | .norm => match I8 tb.tt s h2 fn.results.toList with
       | some gs => .rv (G4 gs) h2
       | none => .fail
      | .ret => match I8 tb.tt s h2 fn.results.toList with
       | some gs => .rv (G4 gs) h2
       | none => .fail
      | .pan v => .rp v h2
      | _ => .fail)
     | _ => .fail
    | _,_ => .fail
   | none => .fail
  | none => .fail
noncomputable def HK (l : Nat) (h : GH) (pend : Option Code) : Res := match h.get l with
 | .loop _ _ fn s n ps asg body db => match pend with
  | none => wr h l (.loop .ready none fn s n ps asg body db) (fun h1 => .rv (.bool true) h1) .fail
  | some c => wr h l (.loop .done (some c) fn s n ps asg body db) (fun h1 => .rv (.bool false) h1) .fail
 | _ => .fail
noncomputable def ground (tb : H6) (ih : Cfg → Res) (l : Nat) (args : List G) (h : GH) : Res := match h.get l with
 | .loop _ _ fn s n ps asg body _ => match tb.fn fn with
  | some _ => match Ww n ps.toList args s with
   | some s1 => match ih (.go n fn (some l) asg s1 [] h) with
    | .fr .norm s2 [] h2 => match h2.get l with
     | .loop .ready pend fn' s' n' ps' asg' body' db' => wr h2 l (.loop .busy pend fn' s' n' ps' asg' body' db') (fun h3 => match ih (.go n fn (some l) body s2 [] h3) with
      | .fr x _ [] h4 => match x with
       | .norm => HK l h4 none
       | .ret => HK l h4 (some .ret)
       | .exit id => HK l h4 (some (.exit id))
       | .goto t => HK l h4 (some (.goto t))
       | .pan v => .rp v h4
      | _ => .fail) .fail
     | _ => .fail
    | _ => .fail
   | none => .fail
  | none => .fail
 | _ => .fail
noncomputable def YN (tb : H6) (ih : Cfg → Res) (c : Cfg) : Res := match c with
 | .go n fn ro c s d h => F9 tb ih n fn ro c s d h
 | .call f args h => WP tb ih f args h
 | .round l args h => ground tb ih l args h
noncomputable def gx (tb : H6) (n : Nat) : Cfg → Res := Nat.rec (motive := fun _ => Cfg → Res) (fun _ => .fail) (fun _ ih c => YN tb ih c) n
noncomputable def Qh {α : Type} (l : List α) : Nat → Option α := List.rec (motive := fun _ => Nat → Option α) (fun _ => none) (fun x _ ih k => Nat.rec (motive := fun _ => Option α) (some x) (fun m _ => ih m) k) l
theorem IH {α : Type} : ∀ (l : List α) (k : Nat),Qh l k = l[k]?
 | [],k => by simp [Qh]
 | x :: r,0 => rfl
 | x :: r,k + 1 => (IH r k).trans (by simp)
noncomputable def XR {α : Type} (cs : List (List α)) (k : Nat) : Option α := Option.rec (motive := fun _ => Option α) none (fun l => Qh l (Nat.mod k 16)) (Qh cs (Nat.div k 16))
def JR {α : Type} : List (List α) → Bool
 | [] => true
 | l :: r => match r with
  | [] => Nat.ble l.length 16
  | _ :: _ => Nat.beq l.length 16 && JR r
theorem T4 {α : Type} : ∀ (cs : List (List α)) (k : Nat),JR cs = true → XR cs k = cs.flatten[k]?
 | [],k,_ => rfl
 | l :: r,k,h => by
  have e : XR (l :: r) k = ((l :: r)[k / 16]?).bind (·[k % 16]?) := by
   show Option.rec (motive := fun _ => Option α) none (fun l => Qh l (k % 16)) (Qh (l :: r) (k / 16)) = _
   rw [IH]
   cases (l :: r)[k / 16]? with
   | none => rfl
   | some l' => exact IH _ _
  rw [e]
  by_cases hk : k < 16
  ·have h0 : k / 16 = 0 := by omega
   have h1 : k % 16 = k := by omega
   rw [h0,h1]
   simp only [List.getElem?_cons_zero,Option.bind_some,List.flatten_cons]
   cases r with
   | nil => simp
   | cons l2 r2 =>
    simp only [JR,Bool.and_eq_true,Nat.beq_eq] at h
    rw [List.getElem?_append_left (by omega)]
  ·obtain ⟨m,rfl⟩ : ∃ m,k = m + 16 := ⟨k - 16,by omega⟩
   have h0 : (m + 16) / 16 = m / 16 + 1 := by omega
   have h1 : (m + 16) % 16 = m % 16 := by omega
   rw [h0,h1]
   simp only [List.getElem?_cons_succ,List.flatten_cons]
   cases r with
   | nil =>
    simp only [JR] at h
    have := Nat.le_of_ble_eq_true h
    rw [List.getElem?_append_right (by omega)]
    simp
   | cons l2 r2 =>
    simp only [JR,Bool.and_eq_true,Nat.beq_eq] at h
    rw [List.getElem?_append_right (by omega),h.1,Nat.add_sub_cancel]
    rw [← T4 (l2 :: r2) m h.2]
    show _ = Option.rec (motive := fun _ => Option α) none (fun l => Qh l (m % 16)) (Qh (l2 :: r2) (m / 16))
    rw [IH]
    cases (l2 :: r2)[m / 16]? with
    | none => rfl
    | some l' => exact (IH _ _).symm
end Go.Gx
namespace Go.Gx
open Go.Hk (TT TTok TyI Sh lk TyOk BS C1 A6 Bx FN EU D8 D7 ET reach_seq FQ EV E0 CW FO Ic Cs AT BD Bt Hi D9 Fm)
def DM (P : Program) (b : Frame) (cs : List Frame) (Q : Exit → Act → World → Prop) (ρ : Rho) (x : GX) (is : List Item) (a : Act) (w : World) : Prop := match x with
 | .norm => Hk.Reach P b cs Q is a w
 | .ret => Q .ret a w
 | .exit id => match exitTo id is with
  | some k => Hk.Reach P b cs Q k a w
  | none => Q (.exit id) a w
 | .goto l => match gotoIn l is with
  | some k => Hk.Reach P b cs Q k a w
  | none => Q (.goto l) a w
 | .pan g => ∀ v,RepG ρ v g → Q (.panic [{ v,recovered := false }]) a w
def roRep (ρ : Rho) : Option Nat → Option Nat → Prop
 | none,none => True
 | some l,some r => ∃ z,ρ l = some (r,z)
 | _,_ => False
theorem roRep.mono {ρ ρ' : Rho} (hρ : ρ.le ρ') {a b : Option Nat} (h : roRep ρ a b) : roRep ρ' a b := by
 cases a <;> cases b <;> first | exact h | (obtain ⟨z,hz⟩ := h;exact ⟨z,hρ _ _ hz⟩)
structure Fr (B : Bl) (n : Nat) (fn : FuncId) (ro : Option Nat) (b : Frame) (ρ : Rho) (s : S) (d : List Nat) (h : GH) (a : Act) (w : World) : Prop where
 f : b.fn = fn
 ro : roRep ρ ro b.roundOf
 h : HRep B ρ h w
 s : FRep ρ n s d a
def Items (P : Program) (n : Nat) (fn : FuncId) (ro : Option Nat) (front : Item) (s : S) (d : List Nat) (h : GH) (res : Res) : Prop :=
 ∀ x s' d' h',res = .fr x s' d' h' → ∀ B ρ w a b cs is Q,Fr B n fn ro b ρ s d h a w →
  (∀ ρ' a' w',Fr B n fn ro b ρ' s' d' h' a' w' → ρ.le ρ' → Kept B w w' → DM P b cs Q ρ' x is a' w') → Hk.Reach P b cs Q (front :: is) a w
abbrev GoS (P : Program) (n : Nat) (fn : FuncId) (ro : Option Nat) (c : Code) := Items P n fn ro (.code c)
def CfgX (P : Program) (c : Cfg) (res : Res) : Prop := match c with
 | .go n fn ro c s d h => GoS P n fn ro c s d h res
 | c => PC P c res
theorem CfgX.s {P : Program} {c : Cfg} {res : Res} (h : CfgX P c res) : PC P c res := by
 cases c <;> first | exact h | trivial
section
variable {P : Program} {tb : H6} {ih : Cfg → Res} {n : Nat} {fn : FuncId} {ro : Option Nat} {s s' : S} {d d' : List Nat} {h h' : GH} {g : G} {res : Res}
theorem Items.fail {front : Item} : Items P n fn ro front s d h .fail := fun _ _ _ _ e => by cases e
theorem Items.seq {front : Item} {r : Res} {f : S → List Nat → GH → Res} (second : Item) (h1 : Items P n fn ro front s d h r) (h2 : ∀ s d h,Items P n fn ro second s d h (f s d h))
  (hx : ∀ id is,exitTo id (second :: is) = exitTo id is) (hg : ∀ l is,gotoIn l (second :: is) = gotoIn l is) {B : Bl} {ρ : Rho} {w : World} {a : Act} {b : Frame} {cs : List Frame} {is : List Item} {Q : Exit → Act → World → Prop} {x : GX}
  (e : H9 r f = .fr x s' d' h') (hF : Fr B n fn ro b ρ s d h a w) (hA : ∀ ρ' a' w',Fr B n fn ro b ρ' s' d' h' a' w' → ρ.le ρ' → Kept B w w' → DM P b cs Q ρ' x is a' w') : Hk.Reach P b cs Q (front :: second :: is) a w := by
 rcases Tf e with ⟨s1,d1,h1',e1,e2⟩ | ⟨e1,hn⟩
 ·refine h1 _ _ _ _ e1 B ρ w a b cs (second :: is) Q hF fun ρ1 a1 w1 hF1 hρ hk => ?_
  exact h2 _ _ _ _ _ _ _ e2 B ρ1 w1 a1 b cs is Q hF1 fun ρ2 a2 w2 hF2 hρ2 hk2 => hA ρ2 a2 w2 hF2 (Rho.le_trans hρ hρ2) (hk.trans hk2)
 ·refine h1 _ _ _ _ e1 B ρ w a b cs (second :: is) Q hF fun ρ1 a1 w1 hF1 hρ hk => ?_
  have := hA ρ1 a1 w1 hF1 hρ hk
  cases x with
  | norm => exact absurd rfl hn
  | ret => exact this
  | exit id => simp only [DM,hx] at this ⊢;exact this
  | goto l => simp only [DM,hg] at this ⊢;exact this
  | pan g => exact this
theorem Zs (hc : Ctx2 P tb) (hih : ∀ c,CfgX P c (ih c)) {all rest : List Oper} {o : Oper} {j : Nat} (hj : o :: rest = all.drop j) {k : S → GH → Res}
  (hk : ∀ s h,Items P n fn ro (.inRegion all.toArray (List.range' (j + 1) rest.length)) s d h (k s h)) :
  Items P n fn ro (.inRegion all.toArray (List.range' j (o :: rest).length)) s d h (gop tb n ih all o s d h k) := by
 intro x s' d' h' e B ρ w a b cs is Q hF hA
 obtain ⟨ho,hr⟩ := Bx hj
 have hrange : List.range' j (o :: rest).length = j :: List.range' (j + 1) rest.length := by simp [List.range'_succ]
 rw [hrange]
 unfold gop at e
 cases hw : Gr all o s with
 | none => rw [hw] at e;cases e
 | some q =>
 rw [hw] at e
 have hwant := Q9 hw (fun t _ => hF.s.s.2 t)
 have hput : ∀ {v : Value} {g : G} {ρ1 : Rho} {w1 : World} {h1 : GH},G6 .fail n o.dst g s (fun s' => k s' h1) = .fr x s' d' h' → HRep B ρ1 h1 w1 → ρ.le ρ1 → RepG ρ1 v g → Kept B w w1 →
   Hk.Reach P b cs Q (.inRegion all.toArray (List.range' (j + 1) rest.length) :: is) (a.put o.dst v) w1 := by
  intro v g ρ1 w1 h1 ep q1 q2 q3 q4
  rw [OO] at ep
  cases hd : Ra n o.dst with
  | false => rw [hd] at ep;cases ep
  | true =>
   rw [hd] at ep
   exact hk _ _ _ _ _ _ ep B ρ1 w1 _ b cs is Q ⟨hF.f,hF.ro.mono q2,q1,(hF.s.mono q2).put hd q3⟩ fun ρ2 a2 w2 hF2 hρ2 hk2 => hA ρ2 a2 w2 hF2 (Rho.le_trans q2 hρ2) (q4.trans hk2)
 cases q with
 | false =>
  exact Bt ho hwant (hput e hF.h (Rho.le_refl ρ) PN (Kept.refl B w))
 | true =>
  have e : (match evQ tb.tt tb.eqs o.op s h with
   | some g => G6 .fail n o.dst g s (fun s' => k s' h)
   | none => match Ld tb.tt o.op s h with
    | some (g,h1) => G6 .fail n o.dst g s (fun s' => k s' h1)
    | none => match callee tb o.op s h with
     | some c => match ih c with
      | .rv g h1 => G6 .fail n o.dst g s (fun s' => k s' h1)
      | .rp g h1 => .fr (.pan g) s d h1
      | _ => .fail
     | none => match o.op with
      | .panic x => match AN x s with
       | .if_ t g => .fr (.pan (.if_ t g)) s d h
       | _ => .fail
      | _ => .fail) = Res.fr x s' d' h' := e
  have pan : ∀ {chain : List PanicEntry} {w1 : World} {g : G} {h1 : GH},X7 B ρ w g h1 chain w1 → Res.fr (.pan g) s d h1 = .fr x s' d' h' → Q (.panic chain) a w1 := by
   intro chain w1 g h1 hp e
   obtain ⟨ρ1,v,rfl,q1,q2,q3,q4⟩ := hp
   cases e
   exact hA ρ1 a w1 ⟨hF.f,hF.ro.mono q2,q1,hF.s.mono q2⟩ q2 q4 v q3
  by_cases hnd : ∃ c,o.op = .defer c
  ·obtain ⟨c,hdef⟩ := hnd
   have e1 : evQ tb.tt tb.eqs o.op s h = none := by rw [hdef];rfl
   have e2 : Ld tb.tt o.op s h = none := by rw [hdef];rfl
   have e3 : callee tb o.op s h = none := by rw [hdef];rfl
   rw [e1,e2,e3,hdef] at e
   cases e
  ·refine BD ho hwant (fun c hc => hnd ⟨c,hc⟩) ?_
   cases hq : evQ tb.tt tb.eqs o.op s h with
   | some g =>
    rw [hq] at e
    exact valY.upon (((SD hc.c hF.h hF.s.s hq).valY hF.h).mono (fun v w1 ⟨ρ1,q1,q2,q3,q4⟩ => hput e q1 q2 q3 q4) (fun _ _ hx => hx.elim))
   | none =>
    rw [hq] at e
    simp only at e
    cases hh : Ld tb.tt o.op s h with
    | some p =>
     obtain ⟨g,h1⟩ := p
     rw [hh] at e
     exact valY.upon (((TV hc hh).valY hF.h hF.s.s).mono (fun v w1 ⟨ρ1,q1,q2,q3,q4⟩ => hput e q1 q2 q3 q4) (fun _ _ hx => hx.elim))
    | none =>
     rw [hh] at e
     simp only at e
     cases hcal : callee tb o.op s h with
     | some c =>
      rw [hcal] at e
      simp only at e
      have hS := Ox hc hcal ((hih c).s) hF.h hF.s.s
      cases hres : ih c with
      | rv g h1 =>
       rw [hres] at e hS
       exact valY.upon (hS.mono (fun v w1 ⟨ρ1,q1,q2,q3,q4⟩ => hput e q1 q2 q3 q4) (fun _ _ hx => hx.elim))
      | rp g h1 =>
       rw [hres] at e hS
       exact valY.upon (hS.mono (fun _ _ hx => hx.elim) (fun chain w1 hp => pan hp e))
      | _ => rw [hres] at e;cases e
     | none =>
      rw [hcal] at e
      simp only at e
      cases hop : o.op with
      | panic y =>
       rw [hop] at e
       have hv := Av hF.s.s y
       simp only at e
       cases hg : AN y s <;> rw [hg] at e hv <;> first | (cases e;done) | skip
       rename_i t g
       generalize hvy : a.eval y = vy at hv
       have : (execOp a.eval o).run P w = .halt (.panic vy) w := by
        cases hv with
        | if_ _ v _ hv => simp [execOp,hop,hvy,Instr.panic,goPanic]
       rw [this]
       exact pan ⟨ρ,_,rfl,hF.h,Rho.le_refl ρ,hv,Kept.refl B w⟩ e
      | _ => rw [hop] at e;cases e
theorem Pi (hc : Ctx2 P tb) (hih : ∀ c,CfgX P c (ih c)) {all : List Oper} : ∀ {rest : List Oper} {j : Nat} (s : S) (h : GH),rest = all.drop j → Items P n fn ro (.inRegion all.toArray (List.range' j rest.length)) s d h (WK tb n ih all rest d s h)
 | [],j,s,h,hj => by
  intro x s' d' h' e B ρ w a b cs is Q hF hA
  cases e
  exact AT (hA ρ a w hF (Rho.le_refl ρ) (Kept.refl B w))
 | o :: rest,j,s,h,hj => Zs hc hih hj fun s h => Pi hc hih s h (Bx hj).2
end
end Go.Gx
namespace Go.Gx
open Go.Hk (TT TTok TyI Sh lk TyOk BS C1 A6 Bx FN EU D8 D7 ET reach_seq FQ EV E0 CW FO Ic Cs AT BD Bt Hi D9 Fm)
def SZ (P : Program) (f : FuncId) (t : TypeId) : Prop := ∀ g fi ca h res fc c, P.funcs[g]? = some fc → (fc.name == "runtime.NumGoroutine") = false → fc.body = some c → PC P (.call g (fi ++ ca) h) res → PC P (.call f [.fn g fi ca] h) (WJ t res)
def Z4 (P : Program) (f : FuncId) : Prop := ∀ args h,PC P (.call f args h) (Y9 args h)
structure J1 (P : Program) (tb : H6) : Prop extends Ctx2 P tb where
 fn : ∀ f x, tb.fn f = some x → P.funcs[f]? = some x ∧ (x.name == "runtime.NumGoroutine") = false
 hold : ∀ f t,aM tb.hold f = some t → SZ P f t
 sort : ∀ f,XY tb.sorts f = true → Z4 P f
section
variable {P : Program} {tb : H6} {ih : Cfg → Res} {n : Nat} {fn : FuncId} {ro : Option Nat} {s s' : S} {d d' : List Nat} {h h' : GH} {g : G} {res : Res} {B : Bl} {ρ : Rho} {w : World} {a : Act} {b : Frame} {cs : List Frame} {is k : List Item} {Q : Exit → Act → World → Prop} {x : GX}
theorem reach_rangeFunc {g : Operand} {ps : Array Tmp} {asg body : Code} {l : Nat} {mark : List Deferred} {w₁ w₁' w₂ : World} {dd : Deferred} {f : FuncId} {args : Array Value}
  (he : (Instr.enterLoop b.fn a.tmps ps asg body b.roundOf).run P w = .ok (l,mark) w₁) (hres : (resolve a.eval (rangeCall g l) 0).run P w₁ = .ok dd w₁') (hinv : (invoke dd.target dd.args).run P w₁' = .ok (.enter f args) w₂)
  (h : Calls P f args w₂ fun e w₃ => match e with
   | .returned _ => ∃ jump w₄,(Instr.endLoop l).run P w₃ = .ok jump w₄ ∧ Hk.Reach P b cs Q ((jump.map Item.code).toList ++ k) { a with defers := mark ++ a.defers } w₄
   | .panicked chain => Q (.panic chain) { a with defers := mark ++ a.defers } w₃
   | .outgrown => False) : Hk.Reach P b cs Q (.code (.rangeFunc g ps asg body) :: k) a w := by
 have henter := stepR_rangeFunc (P := P) (b := b) (a := a) (k := k) (cs := cs) (w := w) he hres hinv
 obtain ⟨e,w₃,fr,hR,hsteps,_,hleave⟩ := h (b.atR { a with defers := mark ++ a.defers } (.inRangeFunc l :: k) :: cs)
 cases e with
 | returned v =>
  obtain ⟨jump,w₄,hend,e',a',w₅,hq,harr⟩ := hR
  refine ⟨e',a',w₅,hq,.of_steps (.head henter (Steps.trans hsteps (.head ?_ (.one (stepR_endRangeFunc hend))))) harr⟩
  rw [← finish_atR_inRangeFunc l v];exact step_leave_returned hleave
 | panicked chain =>
  refine ⟨.panic chain,_,w₃,hR,.inRangeFunc l :: k,.head henter (Steps.trans hsteps (.one ?_))⟩
  rw [← Frame.raise_atR];exact step_leave_panicked hleave
 | outgrown => exact hR.elim
theorem JF (w : World) (r : Nat) (o : Obj) : w.putObj r o = { w with heap := w.heap.setIfInBounds r o } := rfl
theorem Og (hc : J1 P tb) (hih : ∀ c,CfgX P c (ih c)) {g : Operand} {ps : Array Tmp} {asg body : Code} {l rl z : Nat} {mark : List Deferred} {w1 : World} {ρ1 : Rho} {d2 : List Nat} {h2 : GH}
  (e : JU tb ih n fn ro s d2 (AN g s) l h2 = .fr x s' d' h') (he : (Instr.enterLoop b.fn a.tmps ps asg body b.roundOf).run P w = .ok (rl,mark) w1)
  (hl : ρ1 l = some (rl,z)) (hρ1 : ρ.le ρ1) (hk1 : Kept B w w1) (hF : Fr B n fn ro b ρ1 s d2 h2 { a with defers := mark ++ a.defers } w1)
  (hA : ∀ ρ' a' w',Fr B n fn ro b ρ' s' d' h' a' w' → ρ.le ρ' → Kept B w w' → DM P b cs Q ρ' x is a' w') : Hk.Reach P b cs Q (.code (.rangeFunc g ps asg body) :: is) a w := by
 unfold JU at e
 have hg := Av (a := a) hF.s.s g
 cases hgv : AN g s <;> rw [hgv] at e hg <;> first | (cases e;done) | skip
 rename_i f fi ca
 simp only at e
 cases hfn : tb.fn f with
 | none => rw [hfn] at e;cases e
 | some fc =>
 rw [hfn] at e
 simp only at e
 cases hb : fc.body with
 | none => rw [hb] at e;cases e
 | some c0 =>
 rw [hb] at e
 simp only at e
 obtain ⟨hf1,hf2⟩ := hc.fn f fc hfn
 generalize hvg : a.eval g = vg at hg
 cases hg with
 | fn _ first cap _ _ hl1 hl2 q1 q2 =>
 have hargs : RepGs ρ1 (first ++ #[Value.func (.yield rl) #[] #[]] ++ cap).toList (Dl fi (Dl [.yield l] ca id) id) := by
  simp only [DJ,id]
  rw [Array.toList_append,Array.toList_append,List.append_assoc]
  refine RepGs.append ⟨by simpa using hl1,fun i v g p q => q1 i v g (by simpa using p) q⟩ (RepGs.append (.mk (.yield l rl z hl) .nil) ⟨by simpa using hl2,fun i v g p q => q2 i v g (by simpa using p) q⟩)
 have hcall := (hih (.call f (Dl fi (Dl [.yield l] ca id) id) h2)).s B ρ1 w1 (first ++ #[Value.func (.yield rl) #[] #[]] ++ cap) hF.h hargs
 rw [Hk.run_callFunc_body hf1 hf2 hb] at hcall
 have hres : ∃ dd,(resolve a.eval (rangeCall g rl) 0).run P w1 = .ok dd w1 ∧ (invoke dd.target dd.args).run P w1 = .ok (.enter f (first ++ #[Value.func (.yield rl) #[] #[]] ++ cap)) w1 := by
  refine ⟨⟨.fn (.func f) cap,first ++ #[Value.func (.yield rl) #[] #[]]⟩,?_,?_⟩
  ·have hcv : a.eval (.const (.func (.yield rl) #[] #[])) = .func (.yield rl) #[] #[] := rfl
   simp [rangeCall,resolve,Deferred.ofValue,hvg,hcv]
  ·simpa [invoke] using Hk.run_callFunc_body (w := w1) hf1 hf2 hb (first ++ #[Value.func (.yield rl) #[] #[]] ++ cap)
 obtain ⟨dd,hr1,hr2⟩ := hres
 refine reach_rangeFunc he hr1 hr2 ?_
 cases hr : ih (.call f (Dl fi (Dl [.yield l] ca id) id) h2) with
 | fail => rw [hr] at e;cases e
 | fr => rw [hr] at e;cases e
 | rp v h3 =>
  rw [hr] at e hcall
  refine Calls.mono hcall fun en w3 hen => ?_
  cases en with
  | returned v => exact hen.elim
  | outgrown => exact hen.elim
  | panicked chain =>
   obtain ⟨ρ3,v,rfl,p1,p2,p3,p4⟩ := hen
   cases e
   exact hA ρ3 _ w3 ⟨hF.f,hF.ro.mono p2,p1,hF.s.mono p2⟩ (Rho.le_trans hρ1 p2) (hk1.trans p4) v p3
 | rv v h3 =>
  rw [hr] at e hcall
  refine Calls.mono hcall fun en w3 hen => ?_
  cases en with
  | outgrown => exact hen.elim
  | panicked chain => exact hen.elim
  | returned v =>
   obtain ⟨ρ3,p1,p2,p3,p4⟩ := hen
   have hl3 := p2 _ _ hl
   simp only [YO] at e
   split at e
   ·cases e
   ·rename_i st pend fn' s2 n2 ps2 asg2 body2 db hnb hgl
    have hbr := p1.atρ hgl rfl hl3
    obtain ⟨lr,rd,zd,b1,b2,_,_,_,_⟩ := hbr
    obtain ⟨k1,k2,_⟩ := b2
    rw [EO] at e
    cases hset : h3.set? l .dead with
    | none => rw [hset] at e;cases e
    | some h4 =>
     rw [hset] at e
     simp only at e
     have hbusy : lr.state ≠ .busy := by
      rw [k1];intro hb';subst hb'
      exact hnb rfl
     have hend : (Instr.endLoop rl).run P w3 = .ok pend { w3 with heap := w3.heap.setIfInBounds rl (.loop { lr with state := .exhausted }) } := by
      rw [← k2];exact run_endLoop b1 hbusy
     have p1' : HRep B ρ3 h4 { w3 with heap := w3.heap.setIfInBounds rl (.loop { lr with state := .exhausted }) } :=
      p1.write1 hset (by rw [hgl];rfl) hl3 trivial (fun _ _ h => by cases h)
     have hk3 : Kept B w { w3 with heap := w3.heap.setIfInBounds rl (.loop { lr with state := .exhausted }) } := (hk1.trans p4).trans (Kept.write (p1.lo _ _ _ hl3).1)
     have hF4 : Fr B n fn ro b ρ3 s d2 h4 { a with defers := mark ++ a.defers } { w3 with heap := w3.heap.setIfInBounds rl (.loop { lr with state := .exhausted }) } := ⟨hF.f,hF.ro.mono p2,p1',hF.s.mono p2⟩
     refine ⟨pend,_,hend,?_⟩
     cases pend with
     | none =>
      cases e
      exact hA ρ3 _ _ hF4 (Rho.le_trans hρ1 p2) hk3
     | some c =>
      simp only at e
      exact (hih (.go n fn ro c s d2 h4)) _ _ _ _ e B ρ3 _ _ b cs is Q hF4 fun ρ5 a5 w5 hF5 hρ5 hk5 => hA ρ5 a5 w5 hF5 (Rho.le_trans (Rho.le_trans hρ1 p2) hρ5) (hk3.trans hk5)
   ·cases e
theorem Vy {id : Nat} {r : Res} (e : P4 id r = .fr x s d h) : ∃ x1,r = .fr x1 s d h ∧ ((x1 = .exit id ∧ x = .norm) ∨ (x1 = x ∧ x ≠ .exit id)) := by
 cases r with
 | fr x1 s1 d1 h1 =>
  cases x1 with
  | exit j =>
   simp only [P4] at e
   split at e
   ·rename_i hb
    have := Nat.eq_of_beq_eq_true hb
    subst this
    cases e
    exact ⟨_,rfl,.inl ⟨rfl,rfl⟩⟩
   ·rename_i hb
    cases e
    exact ⟨_,rfl,.inr ⟨rfl,fun hx => by cases hx;simp at hb⟩⟩
  | _ => cases e;exact ⟨_,rfl,.inr ⟨rfl,by simp⟩⟩
 | _ => cases e
theorem QE {c : Code} {f : S → List Nat → GH → Res} (hf : ∀ s d h,Items P n fn ro (.code c) s d h (f s d h)) : ∀ (N : Nat) (s : S) (d : List Nat) (h : GH),Items P n fn ro (.inLoop c) s d h (Oh f N s d h)
 | 0,s,d,h => Items.fail
 | N + 1,s,d,h => by
  intro x s' d' h' e B ρ w a b cs is Q hF hA
  exact CW (Items.seq (.inLoop c) (hf s d h) (QE hf N) (fun id is => rfl) (fun l is => rfl) (show H9 (f s d h) (Oh f N) = _ from e) hF hA)
theorem S6 {c : Code} {f : S → List Nat → GH → Res} (hf : ∀ s d h,Items P n fn ro (.code c) s d h (f s d h)) (N : Nat) (s : S) (d : List Nat) (h : GH) : Items P n fn ro (.code (.loop c)) s d h (Oh f N s d h) := by
 cases N with
 | zero => exact Items.fail
 | succ N =>
  intro x s' d' h' e B ρ w a b cs is Q hF hA
  exact E0 (Items.seq (.inLoop c) (hf s d h) (QE hf N) (fun id is => rfl) (fun l is => rfl) (show H9 (f s d h) (Oh f N) = _ from e) hF hA)
theorem Zr {x y : GX} (h : gxB x y = true) : x = y := by
 cases x <;> cases y <;> simp only [gxB,Bool.false_eq_true] at h <;> first | rfl | (rw [Nat.eq_of_beq_eq_true h])
theorem Qp : ∀ {a b : List Nat},T7 a b = true → a = b
 | [],[],_ => rfl
 | [],_ :: _,h => by cases h
 | _ :: _,[],h => by cases h
 | x :: a,y :: b,h => by
  simp only [T7,Bool.and_eq_true] at h
  rw [Nat.eq_of_beq_eq_true h.1,Qp h.2]
theorem Ze {p q : G × G} (h : prB p q = true) : p = q := by
 simp only [prB,Bool.and_eq_true] at h
 exact Prod.ext (M5 h.1) (M5 h.2)
theorem PR {p : G × G} : ∀ {l t : List (G × G)},aK p l = some t → l.Perm (p :: t)
 | [],_,h => by cases h
 | q :: r,t,h => by
  simp only [aK] at h
  split at h
  ·rename_i hq
   cases h
   rw [Ze hq]
  ·split at h
   ·rename_i t' ht
    cases h
    exact ((PR ht).cons q).trans (List.Perm.swap p q t')
   ·cases h
theorem LX : ∀ {k l : List (G × G)},Ts k l = true → k.Perm l
 | [],[],_ => .nil
 | [],_ :: _,h => by cases h
 | p :: r,l,h => by
  simp only [Ts] at h
  split at h
  ·rename_i t ht
   exact ((LX h).cons p).trans (PR ht).symm
  ·cases h
def likeB (g g' : GB) : Prop := g' = g ∨ ∃ v kv kv',g = .map v kv ∧ g' = .map v kv' ∧ kv.Perm kv'
theorem Vg {g g' : GB} (h : HB g g' = true) : likeB g' g := by
 cases g <;> cases g' <;> simp only [HB,Bool.false_eq_true,Bool.and_eq_true] at h <;> first | exact .inl rfl | skip
 ·rw [Ik (fun _ _ => M5) h];exact .inl rfl
 ·rw [Nat.eq_of_beq_eq_true h.1]
  exact .inr ⟨_,_,_,rfl,rfl,(LX h.2).symm⟩
 ·rw [Nat.eq_of_beq_eq_true h.1,Nat.eq_of_beq_eq_true h.2.1,Nat.eq_of_beq_eq_true h.2.2];exact .inl rfl
noncomputable def T.join (t t' : T) : T := t.joinK t' id
theorem T.joinK_eq {β : Type} : ∀ (t t' : T) (k : T → β),t.joinK t' k = k (t.join t')
 | .e,_,_ => rfl
 | .n v l r,.e,_ => rfl
 | .n v l r,.n v' l' r',k => by
  show l.joinK l' (fun a => r.joinK r' fun b => Bool.rec (motive := fun _ => β) (k (.n .dead a b)) (k (.n v a b)) (HB v v')) = k (l.joinK l' (fun a => r.joinK r' fun b => Bool.rec (motive := fun _ => T) (.n .dead a b) (.n v a b) (HB v v')))
  rw [T.joinK_eq l l',T.joinK_eq r r',T.joinK_eq l l',T.joinK_eq r r']
  cases HB v v' <;> rfl
theorem T.get_join : ∀ (t t' : T) (j : Nat),(t.join t').get j = .dead ∨ ((t.join t').get j = t.get j ∧ HB (t.get j) (t'.get j) = true)
 | .e,_,_ => .inl rfl
 | .n v l r,.e,_ => .inl rfl
 | .n v l r,.n v' l' r',j => by
  have e : (T.n v l r).join (.n v' l' r') = .n (if HB v v' then v else .dead) (l.join l') (r.join r') := by
   show l.joinK l' (fun a => r.joinK r' fun b => Bool.rec (motive := fun _ => T) (.n .dead a b) (.n v a b) (HB v v')) = _
   rw [T.joinK_eq l l',T.joinK_eq r r']
   cases HB v v' <;> rfl
  rw [e]
  cases j with
  | zero =>
   show (if HB v v' then v else .dead) = .dead ∨ ((if HB v v' then v else .dead) = v ∧ HB v v' = true)
   by_cases h : HB v v' = true
   ·rw [if_pos h];exact .inr ⟨rfl,h⟩
   ·rw [if_neg h];exact .inl rfl
  | succ j =>
   show Nat.rec (motive := fun _ => GB) ((l.join l').get (j / 2)) (fun _ _ => (r.join r').get (j / 2)) (j % 2) = .dead ∨ (Nat.rec (motive := fun _ => GB) ((l.join l').get (j / 2)) (fun _ _ => (r.join r').get (j / 2)) (j % 2) = Nat.rec (motive := fun _ => GB) (l.get (j / 2)) (fun _ _ => r.get (j / 2)) (j % 2) ∧
    HB (Nat.rec (motive := fun _ => GB) (l.get (j / 2)) (fun _ _ => r.get (j / 2)) (j % 2)) (Nat.rec (motive := fun _ => GB) (l'.get (j / 2)) (fun _ _ => r'.get (j / 2)) (j % 2)) = true)
   cases j % 2 with
   | zero => exact T.get_join l l' (j / 2)
   | succ _ => exact T.get_join r r' (j / 2)
def wkS (s s2 : S) : Prop := ∀ t,B9 t s2 = B9 t s ∨ B9 t s2 = .undef
def wkH (h h2 : GH) : Prop := h2.size = h.size ∧ ∀ b,h2.get b = .dead ∨ likeB (h.get b) (h2.get b)
theorem wkS.refl (s : S) : wkS s s := fun _ => .inl rfl
theorem wkS.trans {s s1 s2 : S} (h : wkS s s1) (k : wkS s1 s2) : wkS s s2 := fun t => by
 rcases k t with e | e
 ·rw [e];exact h t
 ·exact .inr e
theorem wkH.refl (h : GH) : wkH h h := ⟨rfl,fun _ => .inr (.inl rfl)⟩
theorem likeB.trans {a b c : GB} (h : likeB a b) (k : likeB b c) : likeB a c := by
 rcases k with rfl | ⟨v,kv,kv',rfl,rfl,hp⟩
 ·exact h
 ·rcases h with h | ⟨v1,k1,k1',e1,e2,hp1⟩
  ·exact .inr ⟨v,kv,kv',h.symm,rfl,hp⟩
  ·cases e2;exact .inr ⟨_,_,_,e1,rfl,hp1.trans hp⟩
theorem wkH.trans {h h1 h2 : GH} (a : wkH h h1) (b : wkH h1 h2) : wkH h h2 := ⟨b.1.trans a.1,fun j => by
 rcases b.2 j with e | e
 ·exact .inl e
 ·rcases a.2 j with e1 | e1
  ·rcases e with e | ⟨v,kv,kv',e2,e3,_⟩
   ·rw [e,e1];exact .inl rfl
   ·rw [e1] at e2;cases e2
  ·exact .inr (e1.trans e)⟩
theorem KvRep.perm {ρ : Rho} {es : List MapEntry} : ∀ {kv kv' : List (G × G)},kv.Perm kv' → KvRep ρ es kv → KvRep ρ es kv' := by
 intro kv kv' hp
 have main : ∀ {kv kv' : List (G × G)},kv.Perm kv' → ∀ l : List MapEntry,l.length = kv.length → (∀ (i : Nat) (e : MapEntry) (p : G × G),l[i]? = some e → kv[i]? = some p → RepG ρ e.key p.1 ∧ RepG ρ e.val p.2) →
   ∃ l' : List MapEntry,l'.Perm l ∧ l'.length = kv'.length ∧ ∀ (i : Nat) (e : MapEntry) (p : G × G),l'[i]? = some e → kv'[i]? = some p → RepG ρ e.key p.1 ∧ RepG ρ e.val p.2 := by
  intro kv kv' hp
  induction hp with
  | nil => intro l hl hr;exact ⟨l,.refl l,hl,hr⟩
  | cons x _ ih =>
   intro l hl hr
   cases l with
   | nil => simp at hl
   | cons e l =>
    obtain ⟨l',q1,q2,q3⟩ := ih l (by simpa using hl) (fun i e p h1 h2 => hr (i + 1) e p (by simpa using h1) (by simpa using h2))
    refine ⟨e :: l',q1.cons e,by simp [q2],fun i e' p h1 h2 => ?_⟩
    cases i with
    | zero => exact hr 0 e' p (by simpa using h1) (by simpa using h2)
    | succ i => exact q3 i e' p (by simpa using h1) (by simpa using h2)
  | swap x y t =>
   intro l hl hr
   match l,hl with
   | a :: b :: l,hl =>
    refine ⟨b :: a :: l,List.Perm.swap a b l,by simpa using hl,fun i e p h1 h2 => ?_⟩
    match i,h1,h2 with
    | 0,h1,h2 => exact hr 1 e p (by simpa using h1) (by simpa using h2)
    | 1,h1,h2 => exact hr 0 e p (by simpa using h1) (by simpa using h2)
    | i + 2,h1,h2 => exact hr (i + 2) e p (by simpa using h1) (by simpa using h2)
  | trans _ _ ih1 ih2 =>
   intro l hl hr
   obtain ⟨l1,q1,q2,q3⟩ := ih1 l hl hr
   obtain ⟨l2,p1,p2,p3⟩ := ih2 l1 q2 q3
   exact ⟨l2,p1.trans q1,p2,p3⟩
 rintro ⟨l,h1,h2,h3⟩
 obtain ⟨l',q1,q2,q3⟩ := main hp l h2 h3
 exact ⟨l',q1.trans h1,q2,q3⟩
theorem HRep.weak {h2 : GH} (hr : HRep B ρ h w) (hw : wkH h h2) : HRep B ρ h2 w := by
 have Al : ∀ b,(h2.get b).isDead = false → (h.get b).isDead = false ∧ likeB (h.get b) (h2.get b) := by
  intro b hb
  rcases hw.2 b with e | e
  ·rw [e] at hb;cases hb
  ·refine ⟨?_,e⟩
   rcases e with e | ⟨v,kv,kv',e1,e2,_⟩
   ·rw [← e];exact hb
   ·rw [e1];rfl
 refine { blk := fun b r z hb hρ => ?_,inj := fun b b' r z z' hb hb' => hr.inj b b' r z z' (Al b hb).1 (Al b' hb').1,lo := hr.lo,dom := fun b x hx => by rw [hw.1];exact hr.dom b x hx,top := hr.top,pl := hr.pl,pt := fun b hb => by rw [hw.1];exact hr.pt b hb }
 obtain ⟨l1,l2⟩ := Al b hb
 have h1 := hr.blk b r z l1 hρ
 have hm : ∀ m v kv,h2.get m = .map v kv → ∃ kv0,h.get m = .map v kv0 := by
  intro m v kv hm
  rcases hw.2 m with e | e | ⟨v',k1,k2,e1,e2,_⟩
  ·rw [e] at hm;cases hm
  ·exact ⟨kv,by rw [← e];exact hm⟩
  ·rw [e2] at hm;cases hm;exact ⟨_,e1⟩
 rcases l2 with e | ⟨v,kv,kv',e1,e2,hp⟩
 ·rw [e]
  refine h1.frame (Rho.le_refl ρ) rfl fun m ver cur rem v kv rm zm _ _ hk => ?_
  obtain ⟨kv0,hk0⟩ := hm m v kv hk
  exact .inl ⟨kv0,hk0,rfl⟩
 ·rw [e1] at h1
  rw [e2]
  obtain ⟨es,clock,q1,q2,q3,q4,q5⟩ := h1
  exact ⟨es,clock,q1,q2.perm hp,(hp.map _).nodup_iff.1 q3,by rw [← hp.length_eq];exact q4,q5⟩
theorem FRep.weak {s2 : S} (h : FRep ρ n s d a) (hw : wkS s s2) : FRep ρ n s2 d a :=
 {h with s := ⟨h.s.1,fun t => by
   rcases hw t with e | e
   ·rw [e];exact h.s.2 t
   ·rw [e];exact .undef _⟩ }
theorem Fr.weak {s2 : S} {h2 : GH} (hF : Fr B n fn ro b ρ s d h a w) (hs : wkS s s2) (hh : wkH h h2) : Fr B n fn ro b ρ s2 d h2 a w := ⟨hF.f,hF.ro,hF.h.weak hh,hF.s.weak hs⟩
theorem JS {β : Type} (s s' : S) : ∀ (m : Nat) (acc : S) (k : S → β),(∀ t,acc t = .undef ∨ (acc t = s t ∧ s t = s' t)) → ∃ s2,Pf s s' m acc k = k s2 ∧ ∀ t,s2 t = .undef ∨ (s2 t = s t ∧ s t = s' t)
 | 0,acc,k,h => ⟨acc,rfl,h⟩
 | m + 1,acc,k,h => by
  show ∃ s2,Bool.rec (motive := fun _ => β) (Pf s s' m acc k) (Pf s s' m (H8 m acc (s m)) k) (gB 60 (s m) (s' m)) = k s2 ∧ _
  cases hb : gB 60 (s m) (s' m) with
  | false => exact JS s s' m acc k h
  | true =>
   refine JS s s' m (H8 m acc (s m)) k fun t => ?_
   have := CJ m t acc (s m)
   by_cases e : m = t
   ·subst e
    have hset := CJ m m acc (s m)
    rw [if_pos rfl] at hset
    exact .inr ⟨hset,M5 hb⟩
   ·have hset := CJ t m acc (s m)
    rw [if_neg (fun h => e h.symm)] at hset
    rcases h t with q | q
    ·exact .inl (hset.trans q)
    ·exact .inr ⟨hset.trans q.1,q.2⟩
theorem WI {r r' : Res} (e : TG n r r' = .fr x s d h) : (∃ s1 h1,r = .fr x s1 d h1 ∧ wkS s1 s ∧ wkH h1 h) ∧ ∃ s1 h1,r' = .fr x s1 d h1 ∧ wkS s1 s ∧ wkH h1 h := by
 unfold TG at e
 split at e
 case h_2 => cases e
 rename_i x1 s1 d1 h1
 split at e
 case h_2 => cases e
 rename_i x2 s2 d2 h2
 split at e
 case h_2 => cases e
 rename_i b1 b2 b3
 have b1 := Zr b1
 have b2 := Qp b2
 have b3 := Nat.eq_of_beq_eq_true b3
 subst b1;subst b2
 obtain ⟨s3,e1,e2⟩ := JS s1 s2 n S0 (fun s2 => T.joinK h1.t h2.t (fun t => Res.fr x1 s2 d1 ⟨h1.size,t⟩)) (fun t => .inl rfl)
 rw [e1,T.joinK_eq] at e
 cases e
 have hj : ∀ b,(⟨h1.size,h1.t.join h2.t⟩ : GH).get b = .dead ∨ ((⟨h1.size,h1.t.join h2.t⟩ : GH).get b = h1.get b ∧ HB (h1.get b) (h2.get b) = true) := fun b => T.get_join h1.t h2.t b
 refine ⟨⟨s1,h1,rfl,fun t => ?_,rfl,fun b => ?_⟩,s2,h2,rfl,fun t => ?_,b3,fun b => ?_⟩
 ·rcases e2 t with q | q
  ·exact .inr q
  ·exact .inl q.1
 ·rcases hj b with q | q
  ·exact .inl q
  ·exact .inr (.inl q.1)
 ·rcases e2 t with q | q
  ·exact .inr q
  ·exact .inl (q.1.trans q.2)
 ·rcases hj b with q | q
  ·exact .inl q
  ·exact .inr (by rw [q.1];exact Vg q.2)
theorem PY {f : G × G → List (G × G) → Res} : ∀ (l pre : List (G × G)) (s : S) (h : GH),NJ n f l pre = .fr x s d h → ∀ a p b,l = a ++ p :: b → ∃ s1 h1,f p (pre ++ a ++ b) = .fr x s1 d h1 ∧ wkS s1 s ∧ wkH h1 h
 | [],_,_,_,e,_,_,_,hl => by cases e
 | [q],pre,s,h,e,a,p,b,hl => by
  cases a with
  | nil => simp at hl;obtain ⟨rfl,rfl⟩ := hl;exact ⟨s,h,by simpa [NJ] using e,.refl s,.refl h⟩
  | cons y a => simp at hl
 | q :: q' :: r,pre,s,h,e,a,p,b,hl => by
  obtain ⟨⟨s1,h1,e1,e2,e3⟩,s2,h2,e4,e5,e6⟩ := WI (show TG n (f q (pre ++ q' :: r)) (NJ n f (q' :: r) (pre ++ [q])) = _ from e)
  cases a with
  | nil => simp at hl;obtain ⟨rfl,rfl⟩ := hl;exact ⟨s1,h1,by simpa using e1,e2,e3⟩
  | cons y a =>
   simp at hl
   obtain ⟨rfl,hl⟩ := hl
   obtain ⟨s3,h3,q1,q2,q3⟩ := PY (q' :: r) (pre ++ [q]) _ _ e4 a p b hl
   exact ⟨s3,h3,by simpa using q1,q2.trans e5,q3.trans e6⟩
theorem XV {c : Code} {o : Oper} {y : Operand} {os : List Oper} {rest : Code} (h : Qq c = some (o,y,os,rest)) : ∃ id,c = .seq (.region id ⟨o :: os⟩ false) rest ∧ o.guard = none ∧ o.op = .next y false := by
 unfold Qq at h
 split at h
 case h_2 => cases h
 rename_i id ops rest'
 split at h
 case h_2 => cases h
 rename_i o' os' hops
 split at h
 case h_2 => cases h
 rename_i y' hg ho
 cases h
 refine ⟨id,?_,hg,ho⟩
 have : ops = ⟨o :: os⟩ := by rw [← hops]
 rw [this]
theorem XU {bt m v r z : Nat} {cur : Option (G × G)} {rem kv : List (G × G)} {o : Oper} {y : Operand} (ho : o.op = .next y false) (hy : AN y s = .ptr bt 0) (hb : h.get bt = .miter m v cur rem) (hm : h.get m = .map v kv) (hne : rem ≠ [])
  (hr : HRep B ρ h w) (hs : SRep ρ s a.tmps) : ∃ l p t u w',rem = l ++ p :: t ∧ (execOp a.eval o).run P w = .ok (.value u) w' ∧ RepG ρ u (.tup [.bool true,p.1,p.2]) ∧ Kept B w w' ∧ ∀ h1,h.set? bt (.miter m v (some p) (l ++ t)) = some h1 → HRep B ρ h1 w' := by
 have hxr := Av hs y
 rw [hy] at hxr
 obtain ⟨r,z,e1,hρ⟩ := hxr.ptrInv
 obtain ⟨rm,zm,seen,stepped,es,clock,q1,q2,q3,q4,q5,q6,q7,q8⟩ := Mn hr hb hm hρ
 subst q4
 have hlen := q5.length
 have hne2 : ¬ (leftOf es seen).size = 0 := by
  unfold leftOf
  intro h0
  have : (es.toList.filter fun e => !seen.contains e.born).length = 0 := by rw [← Array.toList_filter,Array.length_toList];exact h0
  rw [this] at hlen
  exact hne (List.eq_nil_of_length_eq_zero hlen.symm)
 rcases run_next_at (P := P) w 0 r rm _ _ seen es _ q2 q3 q7 (Nat.le_refl _) with ⟨h0,_⟩ | ⟨e,he,w1,hw1,hrun⟩
 ·exact absurd h0 hne2
 have hef : e ∈ es.toList.filter fun e => !seen.contains e.born := by unfold leftOf at he;rwa [Array.toList_filter] at he
 obtain ⟨l,k1,k2,k3⟩ := q5
 obtain ⟨j,hj⟩ := List.getElem?_of_mem (k1.mem_iff.2 hef)
 have hjl := (List.getElem?_eq_some_iff.1 hj).1
 have hpj : rem[j]? = some (rem[j]'(by omega)) := List.getElem?_eq_getElem _
 have hsplit : ∀ {α : Type} (l : List α) (x : α),l[j]? = some x → l = l.take j ++ x :: l.drop (j + 1) := by
  intro α l x hx
  have hlt := (List.getElem?_eq_some_iff.1 hx).1
  have hx' : l[j] = x := (List.getElem?_eq_some_iff.1 hx).2
  conv => lhs;rw [← List.take_append_drop j l,List.drop_eq_getElem_cons hlt,hx']
 have hrep := k3 j e _ hj hpj
 refine ⟨rem.take j,rem[j]'(by omega),rem.drop (j + 1),.tuple #[.bool true,e.key,e.val],ChangeMaps.setBlock w1 r (.mapIter (some rm) stepped (seen.push e.born) stepped),hsplit rem _ hpj,?_,DV (.mk (.bool _) (.mk hrep.1 (.mk hrep.2 .nil))),?_,fun h1 hset => ?_⟩
 ·have : ∀ ty,(Instr.next (.pointer (some ⟨r,0,none⟩)) false ty).run P w = (Instr.next (.pointer (some ⟨r,0,none⟩)) false 0).run P w := fun ty => rfl
  simp [execOp,ho,e1,this,hrun]
 ·have hk : Kept B w1 (ChangeMaps.setBlock w1 r (.mapIter (some rm) stepped (seen.push e.born) stepped)) := Kept.write (hr.lo _ _ _ hρ).1
  rcases hw1 with rfl | rfl
  ·exact hk
  ·exact (Kept.drew B w).trans hk
 ·have hborn : ((l.map (·.born))).Nodup := (k1.map _).nodup_iff.2 (q8.sublist (List.Sublist.map _ List.filter_sublist))
  have hlsplit := hsplit l e hj
  have hfl : l.filter (fun e' => !(e'.born == e.born)) = l.take j ++ l.drop (j + 1) := by
   rw [hlsplit] at hborn
   simp only [List.map_append,List.map_cons] at hborn
   have hn := List.nodup_append.1 hborn
   conv => lhs;rw [hlsplit]
   rw [List.filter_append,List.filter_cons_of_neg (by simp)]
   congr 1
   ·refine List.filter_eq_self.2 fun x hx => ?_
    have := hn.2.2 x.born (List.mem_map.2 ⟨x,hx,rfl⟩) e.born (by simp)
    simpa using this
   ·refine List.filter_eq_self.2 fun x hx => ?_
    have := (List.nodup_cons.1 hn.2.1).1
    simp only [Bool.not_eq_true',beq_eq_false_iff_ne]
    intro h0
    exact this (List.mem_map.2 ⟨x,hx,h0⟩)
  have hkv : KvRep ρ (es.toList.filter fun e' => !(seen.push e.born).contains e'.born) (rem.take j ++ rem.drop (j + 1)) := by
   refine ⟨l.take j ++ l.drop (j + 1),?_,by simp [k2],fun i e' p' h1 h2 => ?_⟩
   ·rw [← hfl]
    have e2 : (es.toList.filter fun e' => !(seen.push e.born).contains e'.born) = (es.toList.filter fun e' => !seen.contains e'.born).filter (fun e' => !(e'.born == e.born)) := by
     rw [List.filter_filter]
     congr 1
     funext e'
     rw [contains_push,Bool.not_or,Bool.and_comm]
    rw [e2]
    exact k1.filter _
   ·by_cases hi : i < j
    ·rw [List.getElem?_append_left (by simp;omega),List.getElem?_take_of_lt hi] at h1
     rw [List.getElem?_append_left (by simp;omega),List.getElem?_take_of_lt hi] at h2
     exact k3 i e' p' h1 h2
    ·rw [List.getElem?_append_right (by simp;omega),List.getElem?_drop] at h1
     rw [List.getElem?_append_right (by simp;omega),List.getElem?_drop] at h2
     simp only [List.length_take] at h1 h2
     rw [Nat.min_eq_left (by omega)] at h1 h2
     exact k3 _ e' p' h1 h2
  have hrlt := (Array.getElem?_eq_some_iff.1 q2).1
  obtain ⟨hsz,hget⟩ := GH.get_set hset
  have hmb : m ≠ bt := fun e0 => by rw [e0,hb] at hm;cases hm
  have hrr : rm ≠ r := fun e0 => by
   subst e0
   rw [q2] at q3;cases q3
  have hr1 : HRep B ρ h w1 := by
   rcases hw1 with rfl | rfl
   ·exact hr
   ·exact hr.drew
  have hheap : w1.heap = w.heap := by rcases hw1 with rfl | rfl <;> rfl
  refine hr1.write1 hset (by rw [hb];rfl) hρ ⟨rm,zm,stepped,seen.push e.born,stepped,q1,?_,fun v' kv' hk => ?_⟩ (by simp)
  ·show (w1.heap.setIfInBounds r _)[r]? = _
   rw [Array.getElem?_setIfInBounds_self_of_lt (by rw [hheap];exact hrlt)]
  ·rw [hget,if_neg hmb,hm] at hk
   cases hk
   refine ⟨Nat.le_refl _,fun _ es' clock' he' => ?_⟩
   have : (w1.heap.setIfInBounds r (.mapIter (some rm) stepped (seen.push e.born) stepped))[rm]? = some (.map es stepped) := by
    rw [Array.getElem?_setIfInBounds_ne (Ne.symm hrr),hheap,q3]
   rw [show ({ w1 with heap := w1.heap.setIfInBounds r (.mapIter (some rm) stepped (seen.push e.born) stepped) } : World).heap[rm]? = some (.map es stepped) from this] at he'
   cases he'
   exact ⟨rfl,rfl,hkv,e,seen,(List.mem_filter.1 hef).1,rfl,hrep.1,hrep.2⟩
theorem Ml (hc : J1 P tb) (hih : ∀ c,CfgX P c (ih c)) {o : Oper} {y : Operand} {os : List Oper} {rest c : Code} {ic : S → List Nat → GH → Res} (hcode : Qq c = some (o,y,os,rest))
  (hic : ∀ s d h,Items P n fn ro (.code c) s d h (ic s d h)) (N : Nat) (hrec : ∀ s d h,Items P n fn ro (.inLoop c) s d h (GE tb ih n fn ro o y os rest ic N s d h)) (s : S) (d : List Nat) (h : GH) :
  ∀ x s' d' h',GE tb ih n fn ro o y os rest ic (N + 1) s d h = .fr x s' d' h' → ∀ B ρ w a b cs is Q,Fr B n fn ro b ρ s d h a w →
   (∀ ρ' a' w',Fr B n fn ro b ρ' s' d' h' a' w' → ρ.le ρ' → Kept B w w' → DM P b cs Q ρ' x is a' w') → Hk.Reach P b cs Q (.code c :: .inLoop c :: is) a w := by
 have plain : ∀ x s' d' h',H9 (ic s d h) (GE tb ih n fn ro o y os rest ic N) = .fr x s' d' h' → ∀ B ρ w a b cs is Q,Fr B n fn ro b ρ s d h a w →
  (∀ ρ' a' w',Fr B n fn ro b ρ' s' d' h' a' w' → ρ.le ρ' → Kept B w w' → DM P b cs Q ρ' x is a' w') → Hk.Reach P b cs Q (.code c :: .inLoop c :: is) a w := by
  intro x s' d' h' e B ρ w a b cs is Q hF hA
  exact Items.seq (.inLoop c) (hic s d h) hrec (fun id is => rfl) (fun l is => rfl) e hF hA
 intro x s' d' h' e B ρ w a b cs is Q hF hA
 have e : (match AN y s with
  | .ptr b 0 => match h.get b with
   | .miter m v _ rem => match rem with
    | [] => H9 (ic s d h) (GE tb ih n fn ro o y os rest ic N)
    | p :: r => match h.get m with
     | .map v' _ => match Nat.beq v' v with
      | true => NJ n (Wt tb ih n fn ro o os rest (GE tb ih n fn ro o y os rest ic N) s d h b m v) (p :: r) []
      | false => .fail
     | _ => .fail
   | _ => H9 (ic s d h) (GE tb ih n fn ro o y os rest ic N)
  | _ => .fail) = Res.fr x s' d' h' := e
 split at e
 case h_2 => cases e
 rename_i bt hy
 split at e
 case h_2 => exact plain _ _ _ _ e B ρ w a b cs is Q hF hA
 rename_i m v cur rem hb
 split at e
 ·exact plain _ _ _ _ e B ρ w a b cs is Q hF hA
 rename_i p0 r0
 split at e
 case h_2 => cases e
 rename_i v' kv hm
 split at e
 case h_2 => cases e
 rename_i hv
 have hv := Nat.eq_of_beq_eq_true hv
 subst hv
 obtain ⟨id,rfl,hg,ho⟩ := XV hcode
 obtain ⟨l,p,t,u,w',k1,k2,k3,k4,k5⟩ := XU (P := P) (r := 0) (z := 0) ho hy hb hm (by simp) hF.h hF.s.s
 obtain ⟨s1,h1,e1,e2,e3⟩ := PY _ _ _ _ e l p t k1
 refine reach_seq (Cs ?_)
 rw [List.range_eq_range']
 have hrange : List.range' 0 (#[].push o ++ os.toArray : Array Oper).size = 0 :: List.range' 1 os.length := by simp [List.range'_succ,Nat.add_comm]
 have hrange2 : List.range' 0 (⟨o :: os⟩ : Array Oper).size = 0 :: List.range' 1 os.length := by simp [List.range'_succ]
 rw [hrange2]
 have hwant : Region.wanted o (yielded (⟨o :: os⟩ : Array Oper) a.tmps) = true := Hk.wanted_none hg
 refine BD (o := o) rfl hwant (fun c hc => by rw [ho] at hc;cases hc) ?_
 have e1' : wr h bt (.miter m v' (some p) (l ++ t)) (fun h1 => G6 .fail n o.dst (.tup [.bool true,p.1,p.2]) s (fun s1 => H9 (H9 (WK tb n ih (o :: os) os d s1 h1) (fun s d h => ih (.go n fn ro rest s d h))) (GE tb ih n fn ro o y os rest ic N))) .fail = .fr x s1 d' h1 := by simpa [Wt] using e1
 rw [EO] at e1'
 cases hset : h.set? bt (.miter m v' (some p) (l ++ t)) with
 | none => rw [hset] at e1';cases e1'
 | some h2 =>
 rw [hset] at e1'
 simp only [OO] at e1'
 cases hd : Ra n o.dst with
 | false => rw [hd] at e1';cases e1'
 | true =>
 rw [hd] at e1'
 simp only at e1'
 have hR : valY P ((execOp a.eval o).run P w) (fun v w1 => Hk.Reach P b cs Q (.inRegion (⟨o :: os⟩ : Array Oper) (List.range' 1 os.length) :: .code rest :: .inLoop (.seq (.region id ⟨o :: os⟩ false) rest) :: is) (a.put o.dst v) w1) (fun chain w1 => Q (.panic chain) a w1) := by
  rw [k2]
  have hF2 : Fr B n fn ro b ρ (LU o.dst (.tup [.bool true,p.1,p.2]) s) d h2 (a.put o.dst u) w' := ⟨hF.f,hF.ro,k5 h2 hset,hF.s.put hd k3⟩
  have hops := Pi hc.toCtx2 hih (rest := os) (j := 1) (n := n) (fn := fn) (ro := ro) (d := d) (all := o :: os) (LU o.dst (.tup [.bool true,p.1,p.2]) s) h2 rfl
  have hA2 : ∀ ρ' a' w1,Fr B n fn ro b ρ' s1 d' h1 a' w1 → ρ.le ρ' → Kept B w' w1 → DM P b cs Q ρ' x is a' w1 := fun ρ' a' w1 q1 q2 q3 => hA ρ' a' w1 (q1.weak e2 e3) q2 (k4.trans q3)
  rcases Tf e1' with ⟨s3,d3,h3,g1,g2⟩ | ⟨g1,g2⟩
  ·exact Items.seq (.code rest) hops (fun s d h => hih (.go n fn ro rest s d h)) (fun id is => rfl) (fun l is => rfl) g1 hF2 fun ρ1 a1 w1 q1 q2 q3 =>
    hrec s3 d3 h3 _ _ _ _ g2 B ρ1 w1 a1 b cs is Q q1 fun ρ2 a2 w2 p1 p2 p3 => hA2 ρ2 a2 w2 p1 (Rho.le_trans q2 p2) (q3.trans p3)
  ·exact Items.seq (.code rest) hops (fun s d h => hih (.go n fn ro rest s d h)) (fun id is => rfl) (fun l is => rfl) g1 hF2 fun ρ1 a1 w1 q1 q2 q3 => by
    have := hA2 ρ1 a1 w1 q1 q2 q3
    cases x with
    | norm => exact absurd rfl g2
    | ret => exact this
    | exit id => exact this
    | goto l => exact this
    | pan g => exact this
 exact valY.upon hR
theorem Qr (hc : J1 P tb) (hih : ∀ c,CfgX P c (ih c)) {o : Oper} {y : Operand} {os : List Oper} {rest c : Code} {ic : S → List Nat → GH → Res} (hcode : Qq c = some (o,y,os,rest))
  (hic : ∀ s d h,Items P n fn ro (.code c) s d h (ic s d h)) : ∀ (N : Nat) (s : S) (d : List Nat) (h : GH),Items P n fn ro (.inLoop c) s d h (GE tb ih n fn ro o y os rest ic N s d h)
 | 0,s,d,h => Items.fail
 | N + 1,s,d,h => fun x s' d' h' e B ρ w a b cs is Q hF hA => CW (Ml hc hih hcode hic N (Qr hc hih hcode hic N) s d h x s' d' h' e B ρ w a b cs is Q hF hA)
theorem RT (hc : J1 P tb) (hih : ∀ c,CfgX P c (ih c)) {o : Oper} {y : Operand} {os : List Oper} {rest c : Code} {ic : S → List Nat → GH → Res} (hcode : Qq c = some (o,y,os,rest))
  (hic : ∀ s d h,Items P n fn ro (.code c) s d h (ic s d h)) (N : Nat) (s : S) (d : List Nat) (h : GH) : Items P n fn ro (.code (.loop c)) s d h (GE tb ih n fn ro o y os rest ic N s d h) := by
 cases N with
 | zero => exact Items.fail
 | succ N => exact fun x s' d' h' e B ρ w a b cs is Q hF hA => E0 (Ml hc hih hcode hic N (Qr hc hih hcode hic N) s d h x s' d' h' e B ρ w a b cs is Q hF hA)
theorem NB {f : Code → S → List Nat → GH → Res} {body : Code} (hf : ∀ c s d h,Items P n fn ro (.code c) s d h (f c s d h)) : ∀ (N : Nat) (front : Item) (s : S) (d : List Nat) (h : GH) (r : Res),Items P n fn ro front s d h r →
  ∀ x s' d' h',RJ f body N r = .fr x s' d' h' → ∀ B ρ w a b cs is Q,Fr B n fn ro b ρ s d h a w → (∀ ρ' a' w',Fr B n fn ro b ρ' s' d' h' a' w' → ρ.le ρ' → Kept B w w' → DM P b cs Q ρ' x is a' w') → Hk.Reach P b cs Q (front :: .inScope body :: is) a w
 | 0,_,_,_,_,_,_,_,_,_,_,e => by cases e
 | N + 1,front,s,d,h,r,hr,x,s',d',h',e => by
  intro B ρ w a b cs is Q hF hA
  cases r with
  | fr x1 s1 d1 h1 =>
   refine hr _ _ _ _ rfl B ρ w a b cs (.inScope body :: is) Q hF fun ρ1 a1 w1 hF1 hρ hk => ?_
   cases x1 with
   | goto l =>
    have e : (match findLabel body l with | some c => RJ f body N (f c s1 d1 h1) | none => .fr (.goto l) s1 d1 h1) = Res.fr x s' d' h' := e
    cases hl : findLabel body l with
    | some c =>
     rw [hl] at e
     simp only [DM,gotoIn,hl]
     exact NB hf N (.code c) s1 d1 h1 _ (hf c s1 d1 h1) x s' d' h' e B ρ1 w1 a1 b cs is Q hF1 fun ρ2 a2 w2 hF2 hρ2 hk2 => hA ρ2 a2 w2 hF2 (Rho.le_trans hρ hρ2) (hk.trans hk2)
    | none =>
     rw [hl] at e
     cases e
     have := hA ρ1 a1 w1 hF1 hρ hk
     simp only [DM,gotoIn,hl] at this ⊢
     exact this
   | norm => cases e;exact D7 (hA ρ1 a1 w1 hF1 hρ hk)
   | ret => cases e;exact hA ρ1 a1 w1 hF1 hρ hk
   | exit id => cases e;exact hA ρ1 a1 w1 hF1 hρ hk
   | pan g => cases e;exact hA ρ1 a1 w1 hF1 hρ hk
  | _ => cases e
theorem Cn (hc : J1 P tb) (hih : ∀ c,CfgX P c (ih c)) : ∀ (c : Code) (s : S) (d : List Nat) (h : GH),GoS P n fn ro c s d h (F9 tb ih n fn ro c s d h)
 | .skip,s,d,h => by
  intro x s' d' h' e B ρ w a b cs is Q hF hA
  cases e;exact FN (hA ρ a w hF (Rho.le_refl ρ) (Kept.refl B w))
 | .label _,s,d,h => by
  intro x s' d' h' e B ρ w a b cs is Q hF hA
  cases e;exact EU (hA ρ a w hF (Rho.le_refl ρ) (Kept.refl B w))
 | .ret,s,d,h => by
  intro x s' d' h' e B ρ w a b cs is Q hF hA
  cases e;exact Hi (hA ρ a w hF (Rho.le_refl ρ) (Kept.refl B w))
 | .exit id,s,d,h => by
  intro x s' d' h' e B ρ w a b cs is Q hF hA
  cases e
  have := hA ρ a w hF (Rho.le_refl ρ) (Kept.refl B w)
  simp only [DM] at this
  cases hx : exitTo id is with
  | some k => rw [hx] at this;exact FO hx this
  | none => rw [hx] at this;exact D9 hx this
 | .goto l,s,d,h => by
  intro x s' d' h' e B ρ w a b cs is Q hF hA
  cases e
  have := hA ρ a w hF (Rho.le_refl ρ) (Kept.refl B w)
  simp only [DM] at this
  cases hx : gotoIn l is with
  | some k => rw [hx] at this;exact Ic hx this
  | none => rw [hx] at this;exact Fm hx this
 | .refuse _,s,d,h => by intro x s' d' h' e;cases e
 | .seq p q,s,d,h => by
  intro x s' d' h' e B ρ w a b cs is Q hF hA
  exact reach_seq (Items.seq (.code q) (Cn hc hih p s d h) (fun s d h => Cn hc hih q s d h) (fun id is => rfl) (fun l is => rfl) (show H9 (F9 tb ih n fn ro p s d h) (F9 tb ih n fn ro q) = _ from e) hF hA)
 | .cond y p q,s,d,h => by
  intro x s' d' h' e B ρ w a b cs is Q hF hA
  have e : (match AN y s with | .bool t => Bool.rec (motive := fun _ => Res) (F9 tb ih n fn ro q s d h) (F9 tb ih n fn ro p s d h) t | _ => .fail) = Res.fr x s' d' h' := e
  have hv := Av hF.s.s y
  cases hy : AN y s <;> rw [hy] at e hv <;> first | (cases e;done) | skip
  rename_i t
  have hv := hv.boolInv
  refine FQ hv ?_
  cases t with
  | true => exact Cn hc hih p s d h _ _ _ _ e B ρ w a b cs is Q hF hA
  | false => exact Cn hc hih q s d h _ _ _ _ e B ρ w a b cs is Q hF hA
 | .block id c,s,d,h => by
  intro x s' d' h' e B ρ w a b cs is Q hF hA
  obtain ⟨x1,e1,e2⟩ := Vy (show P4 id (F9 tb ih n fn ro c s d h) = _ from e)
  refine EV (Cn hc hih c s d h _ _ _ _ e1 B ρ w a b cs (.inBlock id :: is) Q hF fun ρ1 a1 w1 hF1 hρ hk => ?_)
  have hA1 := hA ρ1 a1 w1 hF1 hρ hk
  rcases e2 with ⟨rfl,rfl⟩ | ⟨rfl,hne⟩
  ·simp only [DM,exitTo,beq_self_eq_true,if_true];exact hA1
  ·cases x1 with
   | norm => exact D8 hA1
   | ret => exact hA1
   | exit j =>
    have hj : ¬ id = j := fun e => hne (by rw [e])
    simp only [DM,exitTo,beq_iff_eq,hj,if_false] at hA1 ⊢
    exact hA1
   | goto l => exact hA1
   | pan g => exact hA1
 | .loop c,s,d,h => by
  show Items P n fn ro (.code (.loop c)) s d h (match Qq c with
   | none => Oh (F9 tb ih n fn ro c) 100000000 s d h
   | some (o,x,os,rest) => GE tb ih n fn ro o x os rest (F9 tb ih n fn ro c) 100000000 s d h)
  cases hm : Qq c with
  | none => exact S6 (Cn hc hih c) 100000000 s d h
  | some p =>
   obtain ⟨o,y,os,rest⟩ := p
   exact RT hc hih hm (Cn hc hih c) 100000000 s d h
 | .scope c,s,d,h => by
  intro x s' d' h' e B ρ w a b cs is Q hF hA
  exact ET (NB (f := fun c s d h => ih (.go n fn ro c s d h)) (fun c s d h => hih (.go n fn ro c s d h)) 100000000 (.code c) s d h _ (Cn hc hih c s d h) x s' d' h' e B ρ w a b cs is Q hF hA)
 | .region id ⟨ops⟩ dr,s,d,h => by
  intro x s' d' h' e B ρ w a b cs is Q hF hA
  cases dr with
  | false =>
   have e : WK tb n ih ops ops d s h = .fr x s' d' h' := e
   refine Cs ?_
   have := Pi hc.toCtx2 hih (rest := ops) (j := 0) (n := n) (fn := fn) (ro := ro) (d := d) (all := ops) s h (by simp) x s' d' h' e B ρ w a b cs is Q hF hA
   rw [List.range_eq_range']
   exact this
  | true =>
   have e : (match NS ops with | true => (match FA tb n ih ops s h with | some (s',h') => .fr .norm s' d h' | none => .fail) | false => .fail) = Res.fr x s' d' h' := e
   cases hnd : NS ops with
   | false => rw [hnd] at e;cases e
   | true =>
    rw [hnd] at e
    simp only at e
    cases hd : FA tb n ih ops s h with
    | none => rw [hd] at e;cases e
    | some p =>
     obtain ⟨s1,h1⟩ := p
     rw [hd] at e
     cases e
     have hn : n ≤ 256 := by have := hF.s.s.1;have := hF.s.size;omega
     exact Xj hc.toCtx2 (fun c => (hih c).s) hn hd hF.h hF.s (Qk hnd) fun ρ1 a1 w1 q1 q2 q3 q4 => hA ρ1 a1 w1 ⟨hF.f,hF.ro.mono q2,q1,q3⟩ q2 q4
 | .rangeFunc g ps asg body,s,d,h => by
  intro x s' d' h' e B ρ w a b cs is Q hF hA
  have hro := hF.ro
  cases ro with
  | none =>
   have e : nw h .defd (fun db h1 => nw h1 (.loop .ready none fn s n ps asg body db) (fun l h2 => JU tb ih n fn none s (db :: d) (AN g s) l h2) .fail) .fail = .fr x s' d' h' := e
   have hb0 : b.roundOf = none := by
    cases hb : b.roundOf with
    | none => rfl
    | some r => rw [hb] at hro;exact hro.elim
   rw [E3] at e
   cases h1e : h.push? .defd with
   | none => rw [h1e] at e;cases e
   | some h1 =>
   rw [h1e] at e
   simp only at e
   rw [E3] at e
   cases h2e : h1.push? (.loop .ready none fn s n ps asg body h.size) with
   | none => rw [h2e] at e;cases e
   | some h2 =>
   rw [h2e] at e
   simp only at e
   have he := run_enterLoop_outer (P := P) (w := w) b.fn a.tmps ps asg body
   rw [← hb0] at he
   have r1 : HRep B (ρ.add h.size (w.heap.size,0)) h1 (w.alloc (.deferred (some []))) := hF.h.push h1e (CI _)
   have l1 := hF.h.le_add (w.heap.size,0)
   have hdb : (ρ.add h.size (w.heap.size,0)) h.size = some (w.heap.size,0) := by simp [Rho.add]
   have l2 := r1.le_add ((w.alloc (.deferred (some []))).heap.size,0)
   have r2 := r1.push (z := 0) h2e (o := .loop { state := .ready,pending := none,fn := b.fn,tmps := a.tmps,params := ps,assign := asg,body,defers := w.heap.size })
    ⟨_,w.heap.size,0,CI _,⟨rfl,rfl,hF.f,rfl,rfl,rfl⟩,(hF.s.s.mono l1).mono l2,hF.s.size,l2 _ _ hdb,rfl⟩
   have hsz : (w.alloc (.deferred (some []))).heap.size = w.heap.size + 1 := by simp
   have k1 : Kept B w (w.alloc (.deferred (some []))) := Kept.push hF.h.top
   have k2 := k1.trans (Kept.push (o := .loop { state := .ready,pending := none,fn := b.fn,tmps := a.tmps,params := ps,assign := asg,body,defers := w.heap.size }) r1.top)
   refine Og hc hih e he (ρ := ρ) (z := 0) (by simp [Rho.add,hsz]) (Rho.le_trans l1 l2) k2 ⟨hF.f,by rw [hb0];trivial,r2,?_⟩ hA
   refine ⟨(hF.s.s.mono l1).mono l2,hF.s.size,?_⟩
   obtain ⟨rs,q1,q2,q3⟩ := hF.s.d
   refine ⟨w.heap.size :: rs,by simp [Pa,q1],by simp [q2],fun i r b p q => ?_⟩
   cases i with
   | zero =>
    simp at p q
    subst p;subst q
    exact ⟨0,l2 _ _ hdb⟩
   | succ i =>
    obtain ⟨z,hz⟩ := q3 i r b (by simpa using p) (by simpa using q)
    exact ⟨z,l2 _ _ (l1 _ _ hz)⟩
  | some l0 =>
   have e : (match h.get l0 with | .loop _ _ _ _ _ _ _ _ db => nw h (.loop .ready none fn s n ps asg body db) (fun l h2 => JU tb ih n fn (some l0) s d (AN g s) l h2) .fail | _ => .fail) = Res.fr x s' d' h' := e
   cases hb : b.roundOf with
   | none => rw [hb] at hro;exact hro.elim
   | some r0 =>
   rw [hb] at hro
   obtain ⟨z0,hz0⟩ := hro
   cases hg0 : h.get l0 <;> rw [hg0] at e <;> first | (cases e;done) | skip
   rename_i st0 pend0 fn0 s0 n0 ps0 asg0 body0 db
   simp only at e
   rw [E3] at e
   cases h2e : h.push? (.loop .ready none fn s n ps asg body db) with
   | none => rw [h2e] at e;cases e
   | some h2 =>
   rw [h2e] at e
   simp only at e
   obtain ⟨lr,rd,zd,b1,b2,_,_,b5,b6⟩ := hF.h.atρ hg0 rfl hz0
   have he := run_enterLoop_inner (P := P) b1 b.fn a.tmps ps asg body
   rw [← hb] at he
   have l2 := hF.h.le_add (w.heap.size,0)
   have r2 := hF.h.push (z := 0) h2e (o := .loop { state := .ready,pending := none,fn := b.fn,tmps := a.tmps,params := ps,assign := asg,body,defers := lr.defers })
    ⟨_,rd,zd,CI _,⟨rfl,rfl,hF.f,rfl,rfl,rfl⟩,hF.s.s.mono l2,hF.s.size,l2 _ _ b5,b6⟩
   exact Og hc hih e he (ρ := ρ) (z := 0) (by simp [Rho.add]) l2 (Kept.push hF.h.top) ⟨hF.f,by rw [hb];exact ⟨z0,l2 _ _ hz0⟩,r2,by simpa using hF.s.mono l2⟩ hA
end
end Go.Gx
namespace Go.Gx
def HoldsSpec (P : Program) (f : FuncId) (t tb : TypeId) : Prop := ∀ (g : FuncId) (fi ca : Array Value) (w : World) (K Kp : World → Prop),
 (callFunc g (fi ++ ca)).run P (w.alloc (.cells #[.bool false] tb)) = .ok (.enter g (fi ++ ca)) (w.alloc (.cells #[.bool false] tb)) →
 Calls P g (fi ++ ca) (w.alloc (.cells #[.bool false] tb)) (fun e w' => match e with
  | .returned _ => K w'
  | .panicked chain => chain = [{ v := .iface t (.agg #[]),recovered := false }] ∧ Kp w'
  | .outgrown => False) →
 (∀ w',K w' → w'.heap[w.heap.size]? = some (.cells #[.bool false] tb (0,0))) → (∀ w',Kp w' → w'.heap[w.heap.size]? = some (.cells #[.bool false] tb (0,0))) →
 Calls P f #[.func (.func g) fi ca] w fun e w' => (e = .returned (.bool true) ∧ ∃ w1,K w1 ∧ w' = w1.setCell ⟨w.heap.size,0,none⟩ (.bool true)) ∨
  (e = .returned (.bool false) ∧ ∃ w1,Kp w1 ∧ w' = (w1.setCell ⟨w.heap.size,0,none⟩ (.bool false)).alloc (.cells #[] t))
theorem setCell_block {w : World} {b : Nat} {v x : Value} {t : TypeId} (h : w.heap[b]? = some (.cells #[x] t (0,0))) : w.setCell ⟨b,0,none⟩ v = { w with heap := w.heap.setIfInBounds b (.cells #[v] t (0,0)) } := by
 obtain ⟨hb,hx⟩ := Array.getElem?_eq_some_iff.1 h
 have : ∀ (A : Array Obj) (f : Obj → Obj),A[b]? = some (.cells #[x] t (0,0)) → A.modify b f = A.setIfInBounds b (f (.cells #[x] t (0,0))) := by
  intro A f hA
  apply Array.ext_getElem?
  intro i
  rw [Array.getElem?_modify,Array.getElem?_setIfInBounds]
  by_cases hi : b = i
  ·subst hi;rw [if_pos rfl,if_pos rfl,hA];simp [(Array.getElem?_eq_some_iff.1 hA).1]
  ·rw [if_neg hi,if_neg hi]
 unfold World.setCell
 rw [this _ _ h]
 rfl
theorem HRep.change {B B' : Bl} {ρ : Rho} {h : GH} {w w2 : World} (hr : HRep B' ρ h w) (hsub : ∀ r,B.r r → B'.r r) (hp : B'.p = B.p) (hsz : w.heap.size ≤ w2.heap.size) (hs : ∀ r,r < w.heap.size → ¬ B'.r r → w2.heap[r]? = w.heap[r]?) : HRep B ρ h w2 :=
 {blk := fun b r z hb h1 => (hr.blk b r z hb h1).frame (Rho.le_refl ρ) (hs r (hr.lo b r z h1).2 (hr.lo b r z h1).1) fun _ _ _ _ _ kv rm zm _ hm hk => .inl ⟨kv,hk,hs rm (hr.lo _ _ _ hm).2 (hr.lo _ _ _ hm).1⟩,
  inj := hr.inj,lo := fun b r z h1 => ⟨fun hB => (hr.lo b r z h1).1 (hsub r hB),Nat.lt_of_lt_of_le (hr.lo b r z h1).2 hsz⟩,dom := hr.dom,top := fun r hB => Nat.lt_of_lt_of_le (hr.top r (hsub r hB)) hsz,pl := by rw [← hp];exact hr.pl,pt := by rw [← hp];exact hr.pt }
theorem Yi {P : Program} {f : FuncId} {t tb : TypeId} {fn : Func} {cf : Code} (hf : P.funcs[f]? = some fn) (hn : (fn.name == "runtime.NumGoroutine") = false) (hb : fn.body = some cf) (hs : HoldsSpec P f t tb) : SZ P f t := by
 intro g fi ca h res fc c hgf hgn hgb hS B ρ w xs hr hargs
 have hxs : ∃ first cap : Array Value,xs = #[.func (.func g) first cap] ∧ RepGs ρ (first ++ cap).toList (fi ++ ca) := by
  obtain ⟨l,rfl⟩ : ∃ l : List Value,xs = l.toArray := ⟨xs.toList,by simp⟩
  rw [List.toList_toArray] at hargs
  match l,hargs with
  | [v],hargs =>
   have hv := hargs.cons.1
   cases hv with
   | fn _ first cap _ _ h1 h2 h3 h4 =>
    refine ⟨first,cap,rfl,?_⟩
    rw [Array.toList_append]
    exact RepGs.append ⟨by simpa using h1,fun i v g p q => h3 i v g (by simpa using p) q⟩ ⟨by simpa using h2,fun i v g p q => h4 i v g (by simpa using p) q⟩
  | [],hargs => simp [RepGs] at hargs
  | _ :: _ :: _,hargs => simp [RepGs] at hargs
 obtain ⟨first,cap,rfl,hg⟩ := hxs
 rw [Hk.run_callFunc_body hf hn hb]
 have hheap : (w.alloc (.cells #[.bool false] tb)).heap = w.heap.push (.cells #[.bool false] tb (0,0)) := by rw [Hc]
 have hgrow : ∀ r,r < w.heap.size → (w.alloc (.cells #[.bool false] tb)).heap[r]? = w.heap[r]? := fun r hr => by
  rw [hheap];simp [Array.getElem?_push,Nat.ne_of_lt hr]
 have hself : (w.alloc (.cells #[.bool false] tb)).heap[w.heap.size]? = some (.cells #[.bool false] tb (0,0)) := by rw [hheap];simp
 have hsize : (w.alloc (.cells #[.bool false] tb)).heap.size = w.heap.size + 1 := by rw [hheap];simp
 have hr1 : HRep ⟨fun r => B.r r ∨ r = w.heap.size,B.p⟩ ρ h (w.alloc (.cells #[.bool false] tb)) := by
  have h0 : HRep B ρ h (w.alloc (.cells #[.bool false] tb)) := hr.change (fun _ h => h) rfl (by omega) fun r hr _ => hgrow r hr
  exact { blk := h0.blk,inj := h0.inj,lo := fun b r z h1 => ⟨fun hB => hB.elim (h0.lo b r z h1).1 fun e => by have := (hr.lo b r z h1).2;omega,(h0.lo b r z h1).2⟩,dom := h0.dom,
          top := fun r hB => hB.elim (h0.top r) fun e => by omega,pl := h0.pl,pt := h0.pt }
 have hcall := hS ⟨fun r => B.r r ∨ r = w.heap.size,B.p⟩ ρ _ (first ++ cap) hr1 hg
 have hrun := Hk.run_callFunc_body (w := w.alloc (.cells #[.bool false] tb)) hgf hgn hgb (first ++ cap)
 rw [hrun] at hcall
 have hk0 : Kept B w (w.alloc (.cells #[.bool false] tb)) := Kept.push hr.top
 have keep : ∀ w1,Kept ⟨fun r => B.r r ∨ r = w.heap.size,B.p⟩ (w.alloc (.cells #[.bool false] tb)) w1 → w1.heap[w.heap.size]? = some (.cells #[.bool false] tb (0,0)) := fun w1 hk => (hk.block _ (.inr rfl)).trans hself
 have fin : ∀ (ρ1 : Rho) (h1 : GH) (w1 : World) (x : Value),HRep ⟨fun r => B.r r ∨ r = w.heap.size,B.p⟩ ρ1 h1 w1 → Kept ⟨fun r => B.r r ∨ r = w.heap.size,B.p⟩ (w.alloc (.cells #[.bool false] tb)) w1 →
   HRep B ρ1 h1 (w1.setCell ⟨w.heap.size,0,none⟩ x) ∧ Kept B w (w1.setCell ⟨w.heap.size,0,none⟩ x) := by
  intro ρ1 h1 w1 x q1 q2
  have hc := keep w1 q2
  rw [setCell_block hc]
  refine ⟨q1.change (fun _ h => .inl h) rfl (by simp) fun r _ hB => ?_,⟨q2.os,q2.tape,q2.output,?_,fun r hB => ?_⟩⟩
  ·have : r ≠ w.heap.size := fun e => hB (.inr e)
   simp [Array.getElem?_setIfInBounds_ne (Ne.symm this)]
  ·have := q2.size;simp;omega
  ·have hlt := hr.top r hB
   have : w.heap.size ≠ r := by omega
   simp only [Array.getElem?_setIfInBounds_ne this]
   exact (q2.block r (.inl hB)).trans (hgrow r hlt)
 cases res with
 | fail => trivial
 | fr => trivial
 | rv v h1 =>
  have hcall : Calls P g (first ++ cap) (w.alloc (.cells #[.bool false] tb)) (fun e w' => match e with | .returned v' => PA ⟨fun r => B.r r ∨ r = w.heap.size,B.p⟩ ρ (w.alloc (.cells #[.bool false] tb)) v h1 v' w' | .panicked _ => False | .outgrown => False) := hcall
  refine Calls.mono (hs g first cap w (fun w1 => ∃ ρ1,HRep ⟨fun r => B.r r ∨ r = w.heap.size,B.p⟩ ρ1 h1 w1 ∧ ρ.le ρ1 ∧ Kept ⟨fun r => B.r r ∨ r = w.heap.size,B.p⟩ (w.alloc (.cells #[.bool false] tb)) w1) (fun _ => False) hrun (Calls.mono hcall ?_) (fun w1 ⟨_,_,_,hk⟩ => keep w1 hk) (fun _ h => h.elim)) ?_
  ·intro e w1 he
   cases e with
   | returned v1 => obtain ⟨ρ1,g1,g2,g3,g4⟩ := he;exact ⟨ρ1,g1,g2,g4⟩
   | panicked => exact he.elim
   | outgrown => exact he.elim
  ·rintro e w2 (⟨rfl,w1,⟨ρ1,g1,g2,g3⟩,rfl⟩ | ⟨_,_,hf,_⟩)
   ·obtain ⟨k1,k2⟩ := fin ρ1 h1 w1 (.bool true) g1 g3
    exact ⟨ρ1,k1,g2,.bool true,k2⟩
   ·exact hf.elim
 | rp v h1 =>
  unfold WJ
  split
  ·rename_i hh;cases hh
  ·rename_i t' g' _ hh
   cases hh
   split
   ·rename_i l
    split
    ·cases htt : Nat.beq t' t with
     | false => trivial
     | true =>
      have htt := Nat.eq_of_beq_eq_true htt
      subst htt
      have hcall : Calls P g (first ++ cap) (w.alloc (.cells #[.bool false] tb)) (fun e w' => match e with | .returned _ => False | .panicked chain => X7 ⟨fun r => B.r r ∨ r = w.heap.size,B.p⟩ ρ (w.alloc (.cells #[.bool false] tb)) (.if_ t' (.agg [])) h1 chain w' | .outgrown => False) := hcall
      refine Calls.mono (hs g first cap w (fun _ => False) (fun w1 => ∃ ρ1,HRep ⟨fun r => B.r r ∨ r = w.heap.size,B.p⟩ ρ1 h1 w1 ∧ ρ.le ρ1 ∧ Kept ⟨fun r => B.r r ∨ r = w.heap.size,B.p⟩ (w.alloc (.cells #[.bool false] tb)) w1) hrun (Calls.mono hcall ?_) (fun _ h => h.elim) (fun w1 ⟨_,_,_,hk⟩ => keep w1 hk)) ?_
      ·intro e w1 he
       cases e with
       | returned v1 => exact he.elim
       | panicked chain =>
        obtain ⟨ρ1,v1,g0,g1,g2,g3,g4⟩ := he
        cases g3 with
        | if_ _ x _ hx =>
         cases hx with
         | agg cs l hl _ _ =>
          have : cs = #[] := Array.eq_empty_of_size_eq_zero (by simpa using hl)
          subst this
          exact ⟨g0,ρ1,g1,g2,g4⟩
       | outgrown => exact he.elim
      ·rintro e w2 (⟨_,_,hf,_⟩ | ⟨rfl,w1,⟨ρ1,g1,g2,g3⟩,rfl⟩)
       ·exact hf.elim
       ·obtain ⟨k1,k2⟩ := fin ρ1 h1 w1 (.bool false) g1 g3
        refine ⟨ρ1,k1.change (fun _ h => h) rfl (by rw [Hc];simp) (fun r hr _ => by rw [Hc];rw [Array.getElem?_push,if_neg (Nat.ne_of_lt hr)]),g2,.bool false,k2.trans (Kept.push k1.top)⟩
    ·trivial
   ·trivial
  ·trivial
end Go.Gx
namespace Go.Gx
def YI (P : Program) (t : TypeId) (m : String) (f : FuncId) : Bool := match P.info? t with
 | some i => match i.methods.find? (·.name == m) with
  | some r => r.path.toList.isEmpty && (match r.func with
   | some (f',pr) => Nat.beq f' f && !pr
   | none => false) && (match P.underlying t with
   | some (.pointer _) => false
   | some _ => true
   | none => false)
  | none => false
 | none => false
theorem TB {P : Program} {t : TypeId} {m : String} {f : FuncId} (h : YI P t m f = true) (n : Nat) (v : Value) (w : World) : (method (n + 1) t v m).run P w = .ok (f,v) w := by
 unfold YI at h
 split at h
 ·rename_i i hi
  split at h
  ·rename_i r hr
   simp only [Bool.and_eq_true] at h
   obtain ⟨⟨h1,h2⟩,h3⟩ := h
   split at h2
   ·rename_i f' pr hf
    simp only [Bool.and_eq_true,Bool.not_eq_true'] at h2
    have hff := Nat.eq_of_beq_eq_true h2.1
    subst hff
    have hpr := h2.2
    subst hpr
    have hp : r.path.toList = [] := List.isEmpty_iff.1 h1
    split at h3
    ·cases h3
    ·rename_i u hne hu
     have hrecv : ∀ wr,(receiverAt t (.val v) false wr).run P w = .ok v w := fun wr => by
      unfold receiverAt
      rw [Sem.run_bind,run_underlying hu,Result.andThen_ok]
      cases u <;> first | rfl | exact absurd rfl (hne _)
     simp only [method,typeInfo,Sem.run_bind,run_program,Result.andThen_ok,hi,hr,hp,follow,Sem.run_pure,hf,hrecv]
    ·cases h3
   ·cases h2
  ·cases h
 ·cases h
end Go.Gx
