/- From a contract by value, `it returns true', to a law's row: arguments read, what was there is kept. (And what it stands on.) -/
import Derived.Test.YtdgomkfabfageaaGreatVc
import Derived.Test.YtdgomkfabfageaaGreatVf
import Derived.Test.YtdgomkfabfageaaGreatVh
import Derived.Test.YtdgomkfabfageaaGreatVb
import Derived.Below
import Derived.ChangeSame
import Derived.ChangeOld
import Derived.Carry
import Derived.ChangeArms
import Derived.DataReads
import Derived.WideKeyArgs
import Derived.OpenShut
import Derived.RowKit
import Derived.ProofKit
set_option linter.unusedSimpArgs false
set_option linter.unusedVariables false

set_option maxRecDepth 100000
namespace Go.Gx.Kk
set_option maxRecDepth 100000
open Go.Proofs
theorem YT : ∀ t m f,bF tb.meth t m = some f → ∀ v w,(method (Tryz.prog.types.size + Made.depth) t v m).run Tryz.prog w = .ok (f,v) w:=by
 intro t m f h v w
 have hs : ∃ n,Tryz.prog.types.size + Made.depth = n + 1:=⟨Tryz.prog.types.size + (Made.depth - 1),by unfold Made.depth;omega⟩
 obtain ⟨n,hn⟩:=hs
 rw [hn]
 have h : bF [(124, "hearth/cover.pattern", 203), (174, "hearth/cover.pattern", 204)] t m = some f := h
 simp only [bF] at h
 split at h
 ·rename_i h1 h2
  cases h
  have:=Nat.eq_of_beq_eq_true h1
  have:=of_decide_eq_true h2
  subst_vars
  exact U7 (by kernel_rfl) n v w
 ·split at h
  ·rename_i h1 h2
   cases h
   have:=Nat.eq_of_beq_eq_true h1
   have:=of_decide_eq_true h2
   subst_vars
   exact U7 (by kernel_rfl) n v w
  ·cases h
theorem bX : ∀ f x, tb.fn f = some x → Tryz.prog.funcs[f]? = some x ∧ (x.name == "runtime.NumGoroutine") = false := by
 intro f x h
 have h : YN chunks f = some x:=h
 rw [U0 _ _ Po.2,Po.1] at h
 refine ⟨by rw [aR];simpa using h,?_⟩
 have hall : fns.all (fun x => !(x.name == "runtime.NumGoroutine")) = true := by kernel_rfl
 have:=List.all_eq_true.1 hall x (List.mem_of_getElem? h)
 simpa using this
theorem Zd : TX Tryz.prog 153 239:=Ze Tryz.func153 (by decide +kernel) rfl Hk.holds_spec
theorem Wy : JV Tryz.prog tb where
 c:={ ty:=bG,tz:=TZ zok,eqs:=fun t ht=>by
          have ht : t ∈ [131]:=ht
          have : t = 131:=by simpa using ht
          subst this;exact VZ,mixed:=mixed }
 meth:=YT
 fn:=bX
 hold:=fun f t h=>by
  have h : (match Nat.beq 153 f with | true=>some 239 | false=>none) = some t:=h
  split at h
  ·rename_i hb
   cases h
   have:=Nat.eq_of_beq_eq_true hb
   subst this
   exact Zd
  ·cases h
 sort:=fun f h=>by
  have h : false = true:=h
  cases h
theorem known_pure : Hk.PureC Tryz.prog 8 [] (.bool true):=by
 refine YJ Tryz.func8 (by decide +kernel) rfl (by decide +kernel) fun R Br w0 hR=>?_
 refine C5 Wy 200 2 km1 kl1 kh1 kp0 ?_
 refine C5 Wy 200 1 km2 kl2 kh2 kp1 ?_
 refine C5 Wy 200 1 km3 kl3 kh3 kp2 ?_
 refine C5 Wy 200 1 km4 kl4 kh4 kp3 ?_
 refine C5 Wy 200 1 km5 kl5 kh5 kp4 ?_
 refine C5 Wy 200 1 km6 kl6 kh6 kp5 ?_
 refine C5 Wy 200 1 km7 kl7 kh7 kp6 ?_
 refine C5 Wy 200 1 km8 kl8 kh8 kp7 ?_
 refine C5 Wy 200 1 km9 kl9 kh9 kp8 ?_
 refine C5 Wy 200 1 bT aF aH kp9 ?_
 refine C5 Wy 200 1 bS aE aG kp10 ?_
 exact Zw Wy 200 kp11 hR
end Go.Gx.Kk
namespace Go.Hk
open Go.RowKit Go.WideShapes Go.ChangeShapes
theorem Ext.below {I I' : Imm} {μ μ' : Mu} {w w' : World} {st' : St} (h : Ext I μ [] w I' μ' st' w') : Below w.heap.size w w' :=
 ⟨h.os,h.tape,h.output,h.size,fun k hk=>h.block k hk (by rintro ⟨id,blk,g,hl,_⟩;cases hl)⟩
theorem X7 {H : Type} {enc : TypeId × Value → H} {P : Program} {f : Func} {s : ChangeSpec} {apart fresh handsOn again : Bool} {W W' : World} {args : Array Value} {v : Value} {ds gs : List (DataW H)} {before pa pv : List MemPlace}
  (hW : DataW.Whole enc P f.params.toList s.vars apart W args.toList ds gs before) (hb : Below W.heap.size W W') (hps : before = pa ++ pv)
  (hres : ∀ (b : Nat) (sp : Nat → Bool) (hd : Bool),DataW.TrodAll enc P W' b sp hd f.resultTypes.toList (v.resultList f.resultTypes.size) (s.fn H (ds ++ gs)).results [])
  (hargs : ∀ sp : Nat → Bool,(∀ p ∈ before,sp p.block = true) → DataW.TrodAll enc P W' 0 sp true f.params.toList args.toList (s.fn H (ds ++ gs)).args pa)
  (hvars : ∀ sp : Nat → Bool,(∀ p ∈ before,sp p.block = true) → DataW.TrodVars enc P W' sp s.vars (s.fn H (ds ++ gs)).vars pv)
  (hok : ∀ (j : Nat) (t : TypeId) (r : Value),f.resultTypes[j]? = some t → (v.resultList f.resultTypes.size)[j]? = some r → Value.okWide P W' .any 0 t r) :
  s.post enc P f apart fresh handsOn again W args v W':=by
 have lt : ∀ p ∈ before,decide (p.block < W.heap.size) = true:=fun p hp=>by simpa using hW.lt p hp
 refine ⟨ds,gs,before,[],pa,pv,hW,hres _ _ _,hargs (fun b=>decide (b < W.heap.size)) lt,hvars (fun b=>decide (b < W.heap.size)) lt,World.keptBut_mono (fun p hp=>⟨hp,.inr ?_⟩) (hb.frame (· ∈ before)),fun _=>⟨hok,?_⟩⟩
 ·rw [hps] at hp;exact List.mem_append.1 hp
 ·have hlt:=hW.lt
  obtain ⟨_,_,_,_,_,hz,hn⟩:=hW
  refine ⟨(s.fn H (ds ++ gs)).results ++ (s.fn H (ds ++ gs)).args,(s.fn H (ds ++ gs)).vars,pa ++ pv,⟨pa,pv,?_,hvars _ (fun _ _=>rfl),rfl,fun b off hp=>?_,fun ha=>?_⟩,fun p hp _=>by rw [hps];exact hp⟩
  ·have:=trodAll_append (hargs (fun _=>true) fun _ _=>rfl) (hres 0 (fun _=>true) true)
   simpa using this
  ·have hin : MemPlace.cell b off ∈ before:=by rw [hps];exact hp
   rw [hb.frozen (hlt _ hin)]
   exact hz b off hin
  ·rw [← hps];exact hn ha
end Go.Hk
namespace Go.Hk
def immW (W : World) : Imm:=fun b=>W.heap[b]?
theorem Zb (W : World) : (immW W).ok W:=fun _ _ h=>h
def Rds (P : Program) (W : World) (n : Nat) (t : TypeId) (cs : List Value) : Prop :=
 ∃ (H : Type) (enc : TypeId × Value → H) (x : DataW H × List MemPlace),DataW.trod enc P W 0 (fun _=>true) true n t cs = some x
def RV (W : World) (cs : List Value) (xs : List V) : Prop:=RepVL (immW W) cs xs ∧ ∀ c ∈ cs,c.oneCell' = true
theorem RV.app {W : World} {a b : List Value} {x y : List V} (h : RV W a x) (k : RV W b y) : RV W (a ++ b) (x ++ y) :=
 ⟨h.1.append k.1,fun c hc=>(List.mem_append.1 hc).elim (h.2 c) (k.2 c)⟩
theorem RV.one {W : World} {v : Value} {x : V} (h : RepV (immW W) v x) (h1 : v.oneCell' = true) : RV W [v] [x] :=
 ⟨.mk h .nil,fun c hc=>by simp at hc;rw [hc];exact h1⟩
theorem RV.agg {W : World} {cs : Array Value} {xs : List V} (h : RV W cs.toList xs) : RepV (immW W) (.agg cs) (.agg xs) :=
 .agg _ _ (by simpa using h.1.1) h.2 (fun i c x a b=>h.1.2 i c x (by simpa using a) b)
theorem RV.len {W : World} {cs : List Value} {xs : List V} (h : RV W cs xs) : cs.length = xs.length:=h.1.1
section
variable {P : Program} {W : World} {tt : TT} {n : Nat} {t : TypeId} {cs : List Value}
theorem LS {k : IntKind} {a : Bool} {sz by_ : Nat} {z : List D} (htt : TTok P tt) (hl : lk tt t = some ⟨.int k,a,sz,by_,z⟩) (h : Rds P W n t cs) : ∃ m,RV W cs [.int k m] ∧ (Lit.int k m).wf = true:=by
 obtain ⟨H,enc,x,h⟩:=h
 have hu : P.underlying t = some (.int k):=htt.sh hl
 cases n with
 | zero=>simp [DataW.trod] at h
 | succ n =>
  unfold DataW.trod at h
  rw [hu] at h
  split at h <;> simp_all
  rename_i k' m heq
  exact ⟨m,.one (.int _ _) rfl,h.1.2⟩
theorem LR {a : Bool} {sz by_ : Nat} {z : List D} (htt : TTok P tt) (hl : lk tt t = some ⟨.str,a,sz,by_,z⟩) (h : Rds P W n t cs) : ∃ s,RV W cs [.str s] ∧ s.length ≤ maxLen:=by
 obtain ⟨H,enc,x,h⟩:=h
 have hu : P.underlying t = some .string:=htt.sh hl
 cases n with
 | zero=>simp [DataW.trod] at h
 | succ n =>
  unfold DataW.trod at h
  rw [hu] at h
  split at h <;> simp_all
  rename_i s
  exact ⟨s.data.toList,.one (.str _ _ rfl) rfl,by have:=h.1;simpa using this⟩
theorem NA {a : Addr} {k : Nat} {cs' : List Value} (h : W.cells? 0 a k = some cs') (hk : 0 < k) : a.spot = none ∧ ∀ (j : Nat) (v : Value),cs'[j]? = some v → (immW W).cell a.block (a.off + j) = some v:=by
 obtain ⟨_,h2,h3⟩:=World.cells?_some h
 have cell : ∀ (b : Addr) (v : Value),W.cell? b = some v → b.spot = none ∧ (immW W).cell b.block b.off = some v:=by
  intro b v hb
  unfold World.cell? at hb
  split at hb
  ·rename_i c t0 fz hh
   split at hb
   ·cases hb
   ·rename_i hs
    refine ⟨by cases h : b.spot with | none=>rfl | some _=>rw [h] at hs;exact absurd rfl hs,?_⟩
    unfold Imm.cell immW
    rw [hh]
    exact hb
  ·cases hb
 have hs : a.spot = none:=by
  have hlt : 0 < cs'.length:=by omega
  have:=h3 0 hk
  rw [List.getElem?_eq_getElem hlt] at this
  exact (cell (a.add 0) _ this).1
 refine ⟨hs,fun j v hv=>?_⟩
 have hj:=(List.getElem?_eq_some_iff.1 hv).1
 have:=(cell (a.add j) v (by rw [h3 j (by omega)];exact hv)).2
 unfold Addr.add at this
 by_cases h0 : j = 0
 ·subst h0;simpa using this
 ·rw [if_neg h0] at this;exact this
theorem Ez {α : Type} {e : TypeId} {a : Bool} {sz by_ : Nat} {z : List D} {i : TyI} {d : α → List V} (htt : TTok P tt) (hl : lk tt t = some ⟨.sl e,a,sz,by_,z⟩) (hi : lk tt e = some i) (hpos : 0 < i.size)
  (hd : ∀ x,(d x).length = i.size) (hel : ∀ m,m < n → ∀ cs',Rds P W m e cs' → ∃ x,RV W cs' (d x)) (h : Rds P W n t cs) : ∃ xs : List α,RV W cs [.sl (xs.map d)]:=by
 obtain ⟨H,enc,x,h⟩:=h
 have hu : P.underlying t = some (.slice e):=htt.sh hl
 have hce : P.cellsOf e = i.size:=(htt e i hi).cellsOf
 rcases DataW.trod_slice hu h with ⟨rfl,_⟩ | ⟨ad,len,cap,elems,rest,m,rfl,rfl,_,_,h1,h2,h3,h4,h5,_⟩
 ·exact ⟨[],.one .slnil rfl⟩
 rw [hce] at h4 h5
 have he : ∀ k,k < len → ∃ (cs' : List Value) (x : α),W.cells? 0 (ad.add (k * i.size)) i.size = some cs' ∧ RV W cs' (d x):=by
  intro k hk
  have:=h4 k hk
  rw [List.getElem?_eq_getElem (by omega)] at this
  obtain ⟨cs',q1,q2⟩:=Option.bind_eq_some_iff.1 this
  obtain ⟨x,hx⟩:=hel m (by omega) cs' ⟨H,enc,_,q2⟩
  exact ⟨cs',x,q1,hx⟩
 have hch : ∃ (C : Nat → List Value) (X : Nat → Option α),∀ k,k < len → ∃ x,X k = some x ∧ W.cells? 0 (ad.add (k * i.size)) i.size = some (C k) ∧ RV W (C k) (d x):=by
  classical
  refine ⟨fun k=>if hk : k < len then (he k hk).choose else [],fun k=>if hk : k < len then some ((he k hk).choose_spec.choose) else none,fun k hk=>?_⟩
  simp only [hk,dif_pos]
  exact ⟨_,rfl,(he k hk).choose_spec.choose_spec⟩
 obtain ⟨C,X,hCX⟩:=hch
 have hlist : ∀ l,l ≤ len → ∃ xs : List α,xs.length = l ∧ ∀ k x,xs[k]? = some x → X k = some x:=by
  intro l
  induction l with
  | zero=>exact fun _=>⟨[],rfl,fun k x h=>by simp at h⟩
  | succ l ih =>
   intro hl'
   obtain ⟨xs,q1,q2⟩:=ih (by omega)
   obtain ⟨x,hx,_⟩:=hCX l (by omega)
   refine ⟨xs ++ [x],by simp [q1],fun k y hy=>?_⟩
   by_cases hk : k < xs.length
   ·rw [List.getElem?_append_left hk] at hy;exact q2 k y hy
   ·rw [List.getElem?_append_right (by omega)] at hy
    have : k - xs.length = 0:=by
     have:=(List.getElem?_eq_some_iff.1 hy).1
     simp at this;omega
    rw [this] at hy
    cases hy
    have : k = l:=by omega
    rw [this];exact hx
 obtain ⟨xs,hx1,hx2⟩:=hlist len (Nat.le_refl _)
 refine ⟨xs,.one ?_ rfl⟩
 by_cases hcap : cap = 0
 ·have : len = 0:=by omega
  subst this;subst hcap
  have : xs = []:=List.eq_nil_of_length_eq_zero hx1
  subst this
  exact .sl0 ad
 have hspot : ad.spot = none:=by
  by_cases hlen : 0 < len
  ·obtain ⟨x,_,q,_⟩:=hCX 0 hlen
   have:=(NA q hpos).1
   simpa [Addr.add] using this
  ·have h6:=h5 rfl
   have h7:=h6.2 0 (by omega)
   rw [List.getElem?_eq_getElem (by omega)] at h7
   obtain ⟨cs',q1,q2⟩:=Option.bind_eq_some_iff.1 h7
   have:=(NA q1 hpos).1
   have hl0 : len = 0:=by omega
   subst hl0
   simpa [Addr.add] using this
 obtain ⟨b,o,sp⟩:=ad
 simp only at hspot
 subst hspot
 have hget : ∀ (k : Nat) (e : List V),(xs.map d)[k]? = some e → k < len ∧ ∃ x,X k = some x ∧ e = d x ∧ W.cells? 0 ⟨b,o + k * i.size,none⟩ i.size = some (C k) ∧ RV W (C k) (d x):=by
  intro k e hk
  rw [List.getElem?_map,Option.map_eq_some_iff] at hk
  obtain ⟨x,q1,q2⟩:=hk
  have hlt:=(List.getElem?_eq_some_iff.1 q1).1
  obtain ⟨y,r1,r2,r3⟩:=hCX k (by omega)
  rw [hx2 k x q1] at r1
  cases r1
  refine ⟨by omega,x,hx2 k x q1,q2.symm,?_,r3⟩
  rw [← r2]
  congr 1
  unfold Addr.add
  by_cases h0 : k * i.size = 0
  ·simp [h0]
  ·simp [h0]
 refine .sl b o len cap i.size _ (fun k j=>(C k).getD j undef) (by simp [hx1]) h1 h2 (fun e he=>?_) (fun k e j x hk hj=>?_) (fun k e j x hk hj=>?_)
 ·obtain ⟨x,_,rfl⟩:=List.mem_map.1 he;exact hd x
 ·obtain ⟨_,y,_,rfl,q3,q4⟩:=hget k e hk
  have hlt : j < (C k).length:=by rw [q4.len];exact (List.getElem?_eq_some_iff.1 hj).1
  have hv : (C k)[j]? = some ((C k)[j]):=List.getElem?_eq_getElem hlt
  have hD : (C k).getD j undef = (C k)[j]:=by simp [List.getD,hv]
  show (immW W).cell b (o + k * i.size + j) = some ((C k).getD j undef) ∧ ((C k).getD j undef).oneCell' = true
  rw [hD]
  exact ⟨(NA q3 hpos).2 j _ hv,q4.2 _ (List.getElem_mem _)⟩
 ·obtain ⟨_,y,_,rfl,q3,q4⟩:=hget k e hk
  have hlt : j < (C k).length:=by rw [q4.len];exact (List.getElem?_eq_some_iff.1 hj).1
  have hv : (C k)[j]? = some ((C k)[j]):=List.getElem?_eq_getElem hlt
  have hD : (C k).getD j undef = (C k)[j]:=by simp [List.getD,hv]
  show RepV (immW W) ((C k).getD j undef) x
  rw [hD]
  exact q4.1.2 j _ x hv hj
theorem EI {fs : List (Nat × TypeId)} {a : Bool} {sz by_ : Nat} {z : List D} (htt : TTok P tt) (hl : lk tt t = some ⟨.struct fs,a,sz,by_,z⟩) (h : Rds P W n t cs) :
  cs.length = sz ∧ ∃ m,n = m + 1 ∧ ∀ (j off : Nat) (ft : TypeId) (i : TyI),fs[j]? = some (off,ft) → lk tt ft = some i → Rds P W m ft ((cs.drop off).take i.size):=by
 obtain ⟨H,enc,x,h⟩:=h
 obtain ⟨fields,hu,hmap,_⟩ : ∃ fields,P.underlying t = some (.struct fields) ∧ fields.toList.map (fun f=>(f.offset,f.type)) = fs ∧ ∀ f ∈ fields.toList,0 < P.cellsOf f.type:=htt.sh hl
 obtain ⟨xs,m,rfl,_,h1,h2,h3⟩:=DataW.trod_struct hu h
 refine ⟨by rw [h1];exact (htt t _ hl).cellsOf,m,rfl,fun j off ft i hj hi=>?_⟩
 rw [← hmap,List.getElem?_map,Option.map_eq_some_iff] at hj
 obtain ⟨f,q1,q2⟩:=hj
 cases q2
 have hf : fields[j]? = some f:=by rw [← Array.getElem?_toList];exact q1
 have hlt:=(Array.getElem?_eq_some_iff.1 hf).1
 have:=h3 j f hf
 rw [List.getElem?_eq_getElem (by omega),(htt _ i hi).cellsOf] at this
 exact ⟨H,enc,_,this⟩
end
end Go.Hk
namespace Go.Hk
open Go.Proofs
section
variable {W : World}
theorem bW {α : Type} {l : List α} (h : l.length = 4) : ∃ a b c d,l = [a,b,c,d]:=by
 match l,h with
 | [a,b,c,d],_=>exact ⟨a,b,c,d,rfl⟩
theorem JE (l : List Ty) : l.map dTyc = A9 l:=(BW l).symm
theorem O6 (tt0 ts tl : TypeId) (hs : lk W9 tt0 = some ⟨.struct [(0,ts),(1,3),(2,9),(3,tl)],true,4,56,[.imm (.int .i64 0),.imm (.int .i64 0),.imm (.str []),.nils]⟩)
  (h1 : lk W9 ts = some ⟨.int .i64,false,1,8,[.imm (.int .i64 0)]⟩) (h2 : lk W9 tl = some ⟨.sl tt0,false,1,24,[.nils]⟩) :
  ∀ (n : Nat) (cs : List Value),Rds Tryz.prog W n tt0 cs → ∃ t : Ty,RV W cs (dTyc t):=by
 intro n
 induction n using Nat.strongRecOn with
 | ind n ih =>
  intro cs h
  obtain ⟨hl,m,rfl,hf⟩:=EI AO hs h
  obtain ⟨a,b,c,d,rfl⟩:=bW hl
  obtain ⟨s,r1,_⟩:=LS AO h1 (hf 0 0 ts _ rfl h1)
  obtain ⟨k,r2,_⟩:=LS AO rfl (hf 1 1 3 _ rfl rfl)
  obtain ⟨x,r3,_⟩:=LR AO rfl (hf 2 2 9 _ rfl rfl)
  obtain ⟨ps,r4⟩:=Ez (d:=dTyc) AO h2 hs (show 0 < 4 by decide) dTyc_length (fun m' hm cs'=>ih m' (by omega) cs') (hf 3 3 tl _ rfl h2)
  exact ⟨.mk s k x ps,by rw [dTyc,← JE];exact ((r1.app r2).app r3).app r4⟩
theorem O5 (n : Nat) (cs : List Value) (h : Rds Tryz.prog W n 26 cs) : ∃ t : Ty,RV W cs (dTyc t):=O6 26 23 24 rfl rfl rfl n cs h
theorem WZ (n : Nat) (cs : List Value) (h : Rds Tryz.prog W n 50 cs) : ∃ t : Ty,RV W cs (dTyc t):=O6 50 48 27 rfl rfl rfl n cs h
theorem Xa (n : Nat) (cs : List Value) (h : Rds Tryz.prog W n 75 cs) : ∃ c : Cd,RV W cs (CA c):=by
 obtain ⟨hl,m,rfl,hf⟩:=EI AO rfl h
 match cs,hl with
 | [a,b],_ =>
 obtain ⟨x,r1,_⟩:=LR AO rfl (hf 0 0 9 _ rfl rfl)
 obtain ⟨ts,r2⟩:=Ez (d:=dTyc) AO rfl (e:=26) rfl (by decide) dTyc_length (fun m' hm cs'=>O5 m' cs') (hf 1 1 24 _ rfl rfl)
 exact ⟨⟨x,ts⟩,by rw [CA,← JE];exact r1.app r2⟩
theorem Vz (n : Nat) (cs : List Value) (h : Rds Tryz.prog W n 72 cs) : ∃ c : Dt,RV W cs (BB c):=by
 obtain ⟨hl,m,rfl,hf⟩:=EI AO rfl h
 match cs,hl with
 | [a,b],_ =>
 obtain ⟨x,r1,_⟩:=LR AO rfl (hf 0 0 9 _ rfl rfl)
 obtain ⟨ts,r2⟩:=Ez (d:=CA) AO rfl (e:=75) rfl (by decide) (fun _=>rfl) (fun m' hm cs'=>Xa m' cs') (hf 1 1 70 _ rfl rfl)
 exact ⟨⟨x,ts⟩,r1.app r2⟩
end
end Go.Hk
namespace Go.Hk
open Go.Proofs
section
variable {W : World}
theorem read_val : ∀ (n : Nat) (cs : List Value),Rds Tryz.prog W n 33 cs → ∃ t : Ty,RV W cs (dTyc t):=by
 intro n
 induction n using Nat.strongRecOn with
 | ind n ih =>
  intro cs h
  obtain ⟨hl,m,rfl,hf⟩:=EI Cs rfl h
  obtain ⟨a,b,c,d,rfl⟩:=bW hl
  obtain ⟨s,r1,_⟩:=LS Cs rfl (hf 0 0 30 _ rfl rfl)
  obtain ⟨k,r2,_⟩:=LS Cs rfl (hf 1 1 3 _ rfl rfl)
  obtain ⟨x,r3,_⟩:=LR Cs rfl (hf 2 2 9 _ rfl rfl)
  obtain ⟨ps,r4⟩:=Ez (d:=dTyc) Cs rfl (e:=33) rfl (show 0 < 4 by decide) dTyc_length (fun m' hm cs'=>ih m' (by omega) cs') (hf 3 3 31 _ rfl rfl)
  exact ⟨.mk s k x ps,by rw [dTyc,← JE];exact ((r1.app r2).app r3).app r4⟩
theorem read_case (n : Nat) (cs : List Value) (h : Rds Tryz.prog W n 29 cs) : ∃ c : Cse,RV W cs (dCse c):=by
 obtain ⟨hl,m,rfl,hf⟩:=EI Cs rfl h
 match cs,hl with
 | [a0,a1,a2,a3,a4,a5],_ =>
 obtain ⟨ds,r1⟩:=Ez (d:=BB) Cs rfl (e:=72) rfl (by decide) (fun _=>rfl) (fun m' hm cs'=>Vz m' cs') (hf 0 0 22 _ rfl rfl)
 obtain ⟨t1,r2⟩:=O5 _ _ (hf 1 1 26 _ rfl rfl)
 obtain ⟨ps,r3⟩:=Ez (d:=dTyc) Cs rfl (e:=50) rfl (by decide) dTyc_length (fun m' hm cs'=>WZ m' cs') (hf 2 5 27 _ rfl rfl)
 exact ⟨⟨ds,t1,ps⟩,by rw [dCse,← JE];exact (r1.app r2).app r3⟩
end
end Go.Hk
namespace Go.Hk
open Go.RowKit Go.WideShapes Go.ChangeShapes Go.ChangeAt
theorem IU {H : Type} {enc : TypeId × Value → H} {P : Program} (hl : laidOutB P = true) {W W' : World} (hb : Below W.heap.size W W') {sp : Nat → Bool} :
  ∀ {ts : List TypeId} {vs : List Value} {ds : List (DataW H)} {ps : List MemPlace},ts.all (fun t=>P.readableRec t && decide (t < P.types.size)) = true → DataW.TrodAll enc P W 0 (fun _=>true) true ts vs ds ps →
   (∀ p ∈ ps,p.block < W.heap.size) → (∀ p ∈ ps,sp p.block = true) → DataW.TrodAll enc P W' 0 sp true ts vs ds ps
 | [],[],[],_,_,h,_,_=>h
 | [],[],_ :: _,_,_,h,_,_=>h.elim
 | [],_ :: _,_,_,_,h,_,_=>h.elim
 | _ :: _,[],_,_,_,h,_,_=>h.elim
 | _ :: _,_ :: _,[],_,_,h,_,_=>h.elim
 | t :: ts,v :: vs,d :: ds,ps,ht,h,hlt,hs=>by
  obtain ⟨p,q,h1,h2,rfl⟩:=h
  rw [List.all_cons,Bool.and_eq_true,Bool.and_eq_true,decide_eq_true_eq] at ht
  refine ⟨p,q,WideElems.Trod_stays hl ht.1.1 ht.1.2 h1 (fun x hx=>hb.same (hlt x (List.mem_append_left _ hx))) (fun x hx=>hs x (List.mem_append_left _ hx)),?_,rfl⟩
  exact IU hl hb ht.2 h2 (fun x hx=>hlt x (List.mem_append_right _ hx)) (fun x hx=>hs x (List.mem_append_right _ hx))
theorem Rds.of {H : Type} {enc : TypeId × Value → H} {P : Program} {W : World} {t : TypeId} {v : Value} {d : DataW H} {ps : List MemPlace} (h : DataW.Trod enc P W 0 (fun _=>true) true t v d ps) : ∃ n,Rds P W n t v.cells.toList:=by
 obtain ⟨n,hn⟩:=h
 exact ⟨n,H,enc,_,hn⟩
section
variable {H : Type} {enc : TypeId × Value → H} {P : Program} {W : World} {sp : Nat → Bool} {hd : Bool}
theorem WD {vs : List Value} {ds : List (DataW H)} {ps : List MemPlace} (h : DataW.TrodAll enc P W 0 sp hd [] vs ds ps) : vs = [] ∧ ds = []:=by
 cases vs with
 | nil=>cases ds with
  | nil=>exact ⟨rfl,rfl⟩
  | cons=>exact h.elim
 | cons=>cases ds <;> exact h.elim
theorem trodAllS {t : TypeId} {ts : List TypeId} {vs : List Value} {ds : List (DataW H)} {ps : List MemPlace} (h : DataW.TrodAll enc P W 0 sp hd (t :: ts) vs ds ps) :
  ∃ v vs' d ds' p q,vs = v :: vs' ∧ ds = d :: ds' ∧ DataW.Trod enc P W 0 sp hd t v d p ∧ DataW.TrodAll enc P W 0 sp hd ts vs' ds' q:=by
 cases vs with
 | nil=>cases ds <;> exact h.elim
 | cons v vs=>cases ds with
  | nil=>exact h.elim
  | cons d ds =>
   obtain ⟨p,q,h1,h2,_⟩:=h
   exact ⟨v,vs,d,ds,p,q,rfl,rfl,h1,h2⟩
theorem WC {t : TypeId} {vs : List Value} {ds : List (DataW H)} {ps : List MemPlace} (h : DataW.TrodAll enc P W 0 sp hd [t] vs ds ps) : ∃ v d p,vs = [v] ∧ ds = [d] ∧ DataW.Trod enc P W 0 sp hd t v d p:=by
 obtain ⟨v,vs',d,ds',p,q,rfl,rfl,h1,h2⟩:=trodAllS h
 obtain ⟨rfl,rfl⟩:=WD h2
 exact ⟨v,d,p,rfl,rfl,h1⟩
theorem WB {t u : TypeId} {vs : List Value} {ds : List (DataW H)} {ps : List MemPlace} (h : DataW.TrodAll enc P W 0 sp hd [t,u] vs ds ps) :
  ∃ v w d e p q,vs = [v,w] ∧ ds = [d,e] ∧ DataW.Trod enc P W 0 sp hd t v d p ∧ DataW.Trod enc P W 0 sp hd u w e q:=by
 obtain ⟨v,vs',d,ds',p,q,rfl,rfl,h1,h2⟩:=trodAllS h
 obtain ⟨w,e,q,rfl,rfl,h3⟩:=WC h2
 exact ⟨v,w,d,e,p,q,rfl,rfl,h1,h3⟩
theorem trodAll3 {t u x : TypeId} {vs : List Value} {ds : List (DataW H)} {ps : List MemPlace} (h : DataW.TrodAll enc P W 0 sp hd [t,u,x] vs ds ps) :
  ∃ v w y d e f p q r,vs = [v,w,y] ∧ ds = [d,e,f] ∧ DataW.Trod enc P W 0 sp hd t v d p ∧ DataW.Trod enc P W 0 sp hd u w e q ∧ DataW.Trod enc P W 0 sp hd x y f r:=by
 obtain ⟨v,vs',d,ds',p,q,rfl,rfl,h1,h2⟩:=trodAllS h
 obtain ⟨w,y,e,f,q,r,rfl,rfl,h3,h4⟩:=WB h2
 exact ⟨v,w,y,d,e,f,p,q,r,rfl,rfl,h1,h3,h4⟩
end
theorem agg_of {P : Program} {W : World} {base : Nat} {t : TypeId} {v : Value} {fs : Array Field} (hu : P.underlying t = some (.struct fs)) (h : Value.okWide P W .any base t v) : ∃ cs,v = .agg cs:=by
 unfold Value.okWide at h
 rw [hu] at h
 obtain ⟨cs,e,_⟩:=h
 exact ⟨cs,e⟩
theorem Oe {P : Program} {f : FuncId} {fn : Func} {c : Code} (hf : P.funcs[f]? = some fn) (hname : (fn.name == "runtime.NumGoroutine") = false) (hb : fn.body = some c) {W : World} {args : Array Value} {vs : List V} {b : Bool} (hv : RepVL (immW W) args.toList vs) (hp : PureC P f vs (.bool b)) :
  Calls P f args W fun e W'=>e = .returned (.bool b) ∧ Below W.heap.size W W':=by
 have h:=hp (immW W) (fun _=>none) W args { imm:=Zb W,blk:=fun id blk hl=>(by cases hl),apart:=fun id blk g b hl=>(by cases hl),inj:=fun i j bi bj gi gj b hl=>(by cases hl),nodup:=.nil,idsFree:=fun id hi=>(by cases hi) }
  ⟨by simpa using hv.1,fun i v d h1 h2=>by
   rw [List.getElem?_map,Option.map_eq_some_iff] at h2
   obtain ⟨x,q1,rfl⟩:=h2
   exact .imm _ _ (hv.2 i v x h1 q1)⟩
 rw [run_callFunc_body hf hname hb] at h
 refine Calls.mono h fun e w' he=>?_
 cases e with
 | returned v =>
  obtain ⟨I',μ',h1,_,_,h4⟩:=he
  cases h1 with
  | imm v x hx =>
   cases hx
   exact ⟨rfl,h4.below⟩
 | panicked=>exact he.elim
 | outgrown=>exact he.elim
theorem law_done {H : Type} {enc : TypeId × Value → H} {P : Program} {f : FuncId} {fn : Func} {c : Code} {s : ChangeSpec} {apart fresh handsOn again : Bool} {W : World} {args : Array Value} {ds gs : List (DataW H)} {before : List MemPlace} {tb : TypeId} {vs : List V}
  (hW : DataW.Whole enc P fn.params.toList s.vars apart W args.toList ds gs before) (hv : s.vars = []) (hf : P.funcs[f]? = some fn) (hname : (fn.name == "runtime.NumGoroutine") = false) (hb : fn.body = some c) (hrt : fn.resultTypes = #[tb]) (hbool : P.underlying tb = some .bool)
  (hl : laidOutB P = true) (hpar : fn.params.toList.all (fun t=>P.readableRec t && decide (t < P.types.size)) = true) (hs : s.fn H ds = { results:=[.lit (.bool true)],args:=ds }) (hx : RepVL (immW W) args.toList vs) (hp : PureC P f vs (.bool true)) :
  Calls P f args W fun e W'=>∃ v,e = .returned v ∧ s.post enc P fn apart fresh handsOn again W args v W':=by
 refine (Oe hf hname hb hx hp).mono fun e W' ⟨he,hg⟩=>?_
 subst he
 have hW':=hW
 obtain ⟨p,q,hA,hV,e1,hfz,hnd⟩:=hW
 rw [hv] at hV
 have hg0 : gs = [] ∧ q = []:=by
  cases gs with
  | nil=>exact ⟨rfl,hV⟩
  | cons=>exact hV.elim
 obtain ⟨rfl,rfl⟩:=hg0
 rw [List.append_nil] at e1
 subst e1
 have hlt:=hW'.lt
 refine ⟨_,rfl,X7 (pa:=before) (pv:=[]) hW' hg (by simp) (fun b sp hd=>?_) (fun sp hsp=>?_) (fun sp hsp=>?_) ?_⟩
 ·rw [List.append_nil,hs,hrt]
  exact trodAll_cons_mk (shut_bool hbool _) trodAll_mk0
 ·rw [List.append_nil,hs]
  exact IU hl hg hpar hA hlt hsp
 ·rw [List.append_nil,hs,hv];rfl
 ·exact ok_one hrt rfl (okWide_bool_mk hbool _)
end Go.Hk
