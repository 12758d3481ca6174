/- Contracts of term: modules that are formed. (And what it stands on.) -/
import Derived.Test.YtdgomkfabfageaaGreatVb
import Derived.Laws.StructEq
import Derived.MapKept
import Derived.Test.YtdgomkfabfageaaGreatProg
import Derived.WalkKit
import Derived.RowKit3
import Derived.Laws.NewBlocks
import Derived.Defers
import Derived.Recover
set_option linter.unusedSimpArgs false
set_option linter.unusedVariables false

set_option maxRecDepth 100000
namespace Go.Hk
theorem Lf {α : Type} {sz f : Nat} {ys : List α} : ∀ (es : List (List α)) (k : Nat) (c : List α),(∀ e ∈ es,e.length = sz) → es[k]? = some c → f + ys.length ≤ sz →
  (es.set k (c.take f ++ ys ++ c.drop (f + ys.length))).flatten = es.flatten.take (k * sz + f) ++ ys ++ es.flatten.drop (k * sz + f + ys.length)
 | [],_,_,_,h,_=>by simp at h
 | e :: r,0,c,hs,h,hf=>by
  simp at h;subst h
  have he:=hs e (by simp)
  simp only [List.set_cons_zero,List.flatten_cons,Nat.zero_mul,Nat.zero_add]
  rw [List.take_append_of_le_length (by omega),List.drop_append_of_le_length (by omega)]
  simp
 | e :: r,k + 1,c,hs,h,hf=>by
  have he:=hs e (by simp)
  have ih:=Lf r k c (fun e h=>hs e (by simp [h])) (by simpa using h) hf
  simp only [List.set_cons_succ,List.flatten_cons,ih]
  have e1 : (k + 1) * sz + f = e.length + (k * sz + f):=by rw [he,Nat.succ_mul];omega
  rw [e1,Nat.add_assoc e.length,List.take_length_add_append,List.drop_length_add_append]
  simp
theorem RepVL.splice {I : Imm} {vs ns : List Value} {xs ys : List V} (h : RepVL I vs xs) (k : RepVL I ns ys) (off : Nat) : RepVL I (vs.take off ++ ns ++ vs.drop (off + ns.length)) (xs.take off ++ ys ++ xs.drop (off + ys.length)):=by
 have app : ∀ {a b : List Value} {x y : List V},RepVL I a x → RepVL I b y → RepVL I (a ++ b) (x ++ y):=fun {a b x y} p q =>
  ⟨by simp [p.1,q.1],fun i v z h1 h2=>by
   rw [List.getElem?_append] at h1 h2
   by_cases hi : i < a.length
   ·rw [if_pos hi] at h1;rw [if_pos (by rw [← p.1];exact hi)] at h2;exact p.2 i v z h1 h2
   ·rw [if_neg hi] at h1;rw [if_neg (by rw [← p.1];exact hi),← p.1] at h2;exact q.2 _ v z h1 h2⟩
 refine app (app ⟨by simp [h.1],fun i v z h1 h2=>?_⟩ k) ⟨by simp [h.1,k.1],fun i v z h1 h2=>?_⟩
 ·rw [List.getElem?_take] at h1 h2
  by_cases hi : i < off
  ·rw [if_pos hi] at h1 h2;exact h.2 i v z h1 h2
  ·rw [if_neg hi] at h1;cases h1
 ·rw [List.getElem?_drop] at h1 h2
  rw [k.1] at h1
  exact h.2 _ v z h1 h2
structure POi where
 id : Nat
 es : List (List V)
 m : Int
 sz : Nat
 g : Option (Bool × Bool)
 ob : List Prop
 t : Nat
 todo : List DI
def Z9 (tt : TT) (n : Nat) (env : Env) (st : St) (todo : List DI) : Option POi :=
 match AW todo ([],[]) with
 | some (all,o,_)=>match o.op,BP all env o with
  | .indexAddr t x i,some g=>match lk tt t,Kb (Af g) env x,Kb (Af g) env i with
   | some { sh:=.sl e,.. },some (.own id _,o1),some (.imm (.int _ m),o2)=>match lk tt e,lk st id,o.dst,Cj n o.dst,AW todo ([id],[]) with
    | some ti,some (some (.row _ sz es)),some t',true,some (_,_,todo')=>match Nat.beq sz ti.size with
     | true=>some ⟨id,es,m,sz,g,FW o1 o2,t',todo'⟩
     | false=>none
    | _,_,_,_,_=>none
   | _,_,_=>none
  | _,_=>none
 | none=>none
structure POl where
 id : Nat
 es : List (List V)
 k : Nat
 f : Nat
 sz : Nat
 i : TyI
 g : Option (Bool × Bool)
 ob : List Prop
 t : Nat
 todo : List DI
def Xg (tt : TT) (n : Nat) (env : Env) (st : St) (todo : List DI) : Option POl :=
 match AW todo ([],[]) with
 | some (all,o,_)=>match o.op,BP all env o with
  | .load t x,some g=>match lk tt t,Kb (Af g) env x with
   | some i,some (.elp id k sz f,o1)=>match lk st id,o.dst,Cj n o.dst,AW todo ([id],[]) with
    | some (some (.row _ sz' es)),some t',true,some (_,_,todo')=>match Nat.beq sz sz' with
     | true=>some ⟨id,es,k,f,sz,i,g,o1,t',todo'⟩
     | false=>none
    | _,_,_,_=>none
   | _,_=>none
  | _,_=>none
 | none=>none
structure POs where
 id : Nat
 e : TypeId
 es : List (List V)
 k : Nat
 f : Nat
 sz : Nat
 ys : List V
 n : Nat
 ob : List Prop
 todo : List DI
def Uo (tt : TT) (env : Env) (st : St) (todo : List DI) : Option POs :=
 match AW todo ([],[]) with
 | some (_,o,_)=>match o.guard,o.dst,o.op with
  | none,none,.store t p x=>match lk tt t,EV env p,EV env x with
   | some i,some (.elp id k sz f),some dx=>match lk st id,AW todo ([id],[id]),elemOf i.size dx with
    | some (some (.row e sz' es)),some (_,_,todo'),some (ys,ob)=>match Nat.beq sz sz' with
     | true=>some ⟨id,e,es,k,f,sz,ys,i.size,ob,todo'⟩
     | false=>none
    | _,_,_=>none
   | _,_,_=>none
  | _,_,_=>none
 | none=>none
section
variable {P : Program} {n : Nat} {F : List Nat} {Q : DQ} {tt : TT} {env env' : Env} {st st' : St} {ids ids' : List Nat} {k todo todo' : List DI} {I : Imm} {μ : Mu} {w : World} {a : Act} {Pn : V → Prop} {d : D} {cx : Prop} {ob : List Prop}
theorem Gt {f f' : List Nat × List Nat} {all all' : List Oper} {o o' : Oper} (h : AW todo f = some (all,o,k)) (h' : AW todo f' = some (all',o',todo')) : all' = all ∧ o' = o:=by
 rcases HF h with ⟨r,q,rfl,_⟩ | ⟨r,fs,q,rfl,_⟩
 ·simp [AW] at h';exact ⟨h'.1.symm,h'.2.1.symm⟩
 ·simp [AW] at h';exact ⟨h'.1.symm,h'.2.1.symm⟩
theorem SL {id : Nat} {e : TypeId} {sz : Nat} {es : List (List V)} (hst : StRep I μ st ids w) (hl : Ap st id (.row e sz es)) (hne : es ≠ []) :
  ∃ b cap cur,μ id = some (.slice (some ⟨b,0,none⟩) es.length cap) ∧ w.heap[b]? = some (.cells cur e (0,0)) ∧ es.length ≤ cap ∧ cap ≤ maxLen ∧ cur.size = cap * sz ∧
   RepVL I (cur.toList.take (es.length * sz)) es.flatten ∧ (∀ c ∈ es,c.length = sz) ∧ (∀ c ∈ es,∀ x ∈ c,V.one x = true) ∧ 0 < sz:=by
 obtain ⟨g,hg,xs,⟨_,hown⟩,hrep,hsz,hone,hp⟩:=hst.blk id _ hl
 rcases hown with ⟨_,h0⟩ | ⟨b,cap,cur,rfl,_,h2,h3,h4,h5,h6⟩
 ·exact absurd (List.eq_nil_of_length_eq_zero h0) hne
 ·rw [← h6] at hrep
  exact ⟨b,cap,cur,hg,h2,h3,h4,h5,hrep,hsz,hone,hp⟩
theorem Hr (htt : TTok P tt) {c : POi} (h : Z9 tt n env st todo = some c) (hc : Af c.g → 0 ≤ c.m ∧ c.m < c.es.length) (hob : A1 c.ob)
  (hk : G P n F Q c.todo ((c.t,gD c.g (.elp c.id c.m.toNat c.sz 0)) :: env) st ids) : G P n F Q todo env st ids:=by
 unfold Z9 at h
 split at h
 ·rename_i all o todo0 h0
  split at h
  ·rename_i t x i g hop hg
   split at h
   ·rename_i e _ _ _ _ id ln o1 kk m o2 ht hx hi
    split at h
    ·rename_i ti e' sz es t' all' o' todo' hti hl hdst hd h1
     split at h
     ·rename_i hsz
      cases h
      obtain ⟨rfl,rfl⟩:=Gt h0 h1
      have hk : G P n F Q todo' (B0 o'.dst (gD g (.elp id m.toNat sz 0)) env) st ids:=by rw [hdst];exact hk
      refine BH (fr:=[]) (wr:=[]) (rd:=[id]) h1 (C1 hg fun I μ st1 ids1 a w hag hst hops hcx=>?_) (by rw [hdst] at hd ⊢;exact hd) (fun c hc=>by rw [hop] at hc;cases hc) hk
      rw [hop] at hops
      obtain ⟨ho1,ho2⟩:=A5 hob
      have rx:=BX hx ho1 hcx (hops x (by simp [Op.operands]))
      have ri:=(BX hi ho2 hcx (hops i (by simp [Op.operands]))).immInv.intInv
      obtain ⟨c0,c1⟩:=hc hcx
      simp only at c0 c1
      have hl1 : Ap st1 id (.row e' sz es):=by unfold Ap;rw [hag id (by simp)];exact hl
      obtain ⟨b,cap,cur,hmu,hheap,hcap,hcm,hcs,hrep,hlen,hone,hp⟩:=SL hst hl1 (by rintro rfl;simp at c1;omega)
      have hs:=Nat.eq_of_beq_eq_true hsz
      subst hs
      have hu : P.underlying t = some (.slice e):=htt.sh ht
      simp only [execOp,hop,ri]
      generalize hv : a.eval x = v at rx
      cases rx with
      | own _ _ ad cp hm =>
       rw [hm] at hmu;cases hmu
       have hr:=OU (w:=w) hu (htt e ti hti) (b:=b) (off:=0) (len:=es.length) (cap:=cap) (kk:=kk) c0 (by omega)
       have hrun : (do pure (.value (← Instr.indexAt t (.slice (some ⟨b,0,none⟩) es.length cap) (.int kk m))) : Sem Next).run P w = .ok (.value (.pointer (some ⟨b,0 + m.toNat * ti.size,none⟩))) w:=Aq hr
       rw [hrun,Nat.zero_add]
       exact ⟨I,μ,hst,.elp b id _ cap m.toNat ti.size 0 hm,Mu.le_refl μ,Ext.refl _ _ _ _⟩
     ·cases h
    ·cases h
   ·cases h
  ·cases h
 ·cases h
theorem Qd (htt : TTok P tt) {c : POl} {e : List V} {d : D} (h : Xg tt n env st todo = some c) (hc : Af c.g → c.es[c.k]? = some e) (hd : Jt c.i (Nat.beq c.sz c.i.size) e c.f = some d) (hob : A1 c.ob)
  (hk : G P n F Q c.todo ((c.t,gD c.g d) :: env) st ids) : G P n F Q todo env st ids:=by
 unfold Xg at h
 split at h
 ·rename_i all o todo0 h0
  split at h
  ·rename_i t x g hop hg
   split at h
   ·rename_i i id kk sz f o1 ht hx
    split at h
    ·rename_i e' sz' es t' all' o' todo' hl hdst hd' h1
     split at h
     ·rename_i hsz
      cases h
      obtain ⟨rfl,rfl⟩:=Gt h0 h1
      have hk : G P n F Q todo' (B0 o'.dst (gD g d) env) st ids:=by rw [hdst];exact hk
      refine BH (fr:=[]) (wr:=[]) (rd:=[id]) h1 (C1 hg fun I μ st1 ids1 a w hag hst hops hcx=>?_) (by rw [hdst] at hd' ⊢;exact hd') (fun c hc=>by rw [hop] at hc;cases hc) hk
      rw [hop] at hops
      have rx:=BX hx hob hcx (hops x (by simp [Op.operands]))
      have c1:=hc hcx
      simp only at c1
      have hs:=Nat.eq_of_beq_eq_true hsz
      subst hs
      have hl1 : Ap st1 id (.row e' sz es):=by unfold Ap;rw [hag id (by simp)];exact hl
      obtain ⟨b,cap,cur,hmu,hheap,hcap,hcm,hcs,hrep,hlen,hone,hp⟩:=SL hst hl1 (by rintro rfl;simp at c1)
      have he:=hlen e (List.mem_of_getElem? c1)
      simp only [execOp,hop]
      generalize hv : a.eval x = v at rx
      cases rx with
      | elp _ _ ln cp _ _ _ hm =>
       rw [hm] at hmu;cases hmu
       have hcell : ∀ j y,e[j]? = some y → ∃ u,cur[kk * sz + j]? = some u ∧ RepV I u y ∧ u.oneCell' = true:=by
        intro j y hj
        have h1:=flatten_get hlen kk e j y c1 hj
        have hlt : kk * sz + j < (cur.toList.take (es.length * sz)).length:=by rw [hrep.1];exact (List.getElem?_eq_some_iff.1 h1).1
        have h2:=List.getElem?_eq_getElem hlt
        have h3:=hrep.2 _ _ _ h2 h1
        refine ⟨_,?_,h3,h3.one (hone e (List.mem_of_getElem? c1) y (List.mem_of_getElem? hj))⟩
        rw [List.getElem?_take] at h2
        split at h2
        ·simp
        ·cases h2
       obtain ⟨u,q1,q2⟩:=Js (P:=P) (w:=w) (I:=I) (μ:=μ) (htt t i ht) (b:=b) (o:=kk * sz) (off:=f) (xs:=e) (vs:=fun j=>(cur[kk * sz + j]?).getD undef) (same:=Nat.beq sz i.size)
        (fun j y hj=>by
         obtain ⟨u,k1,k2,k3⟩:=hcell j y hj
         refine ⟨?_,by simp [k1,k3]⟩
         rw [cell_of_heap hheap (kk * sz + j) u (by simpa using k1)]
         simp [k1])
        (fun j y hj=>by
         obtain ⟨u,k1,k2,k3⟩:=hcell j y hj
         simpa [k1] using k2)
        (fun _ hs _=>by rw [he];exact Nat.eq_of_beq_eq_true hs) hd
       have hrun : (do pure (.value (← Instr.loadAt t (.pointer (some ⟨b,kk * sz + f,none⟩)))) : Sem Next).run P w = .ok (.value u) w:=Aq q1
       rw [hrun]
       exact ⟨I,μ,hst,q2,Mu.le_refl μ,Ext.refl _ _ _ _⟩
     ·cases h
    ·cases h
   ·cases h
  ·cases h
 ·cases h
theorem RE (htt : TTok P tt) {c : POs} {e e' : List V} (h : Uo tt env st todo = some c) (hc : c.es[c.k]? = some e) (hf : c.f + c.n ≤ c.sz) (he' : e' = e.take c.f ++ c.ys ++ e.drop (c.f + c.n)) (hob : A1 c.ob)
  (hk : G P n F Q c.todo env ((c.id,some (.row c.e c.sz (c.es.set c.k e'))) :: st) ids) : G P n F Q todo env st ids:=by
 unfold Uo at h
 split at h
 ·rename_i all o todo0 h0
  split at h
  ·rename_i t p x hgd hdst hop
   split at h
   ·rename_i i id kk sz f dx ht hp hx
    split at h
    ·rename_i ty sz' es all' o' todo' ys ob hl h1 hel
     split at h
     ·rename_i hsz
      cases h
      obtain ⟨rfl,rfl⟩:=Gt h0 h1
      have hs:=Nat.eq_of_beq_eq_true hsz
      subst hs
      simp only at hc hf he' hob hk
      have hk : G P n F Q todo' (B0 o'.dst .undef env) ([(id,some (.row ty sz (es.set kk e')))] ++ st) ids:=by rw [hdst];exact hk
      refine BH (fr:=[]) (wr:=[(id,some (.row ty sz (es.set kk e')))]) (rd:=[id]) h1 ?_ (by simp [Cj,hdst]) (fun c hc=>by rw [hop] at hc;cases hc) hk
      intro I μ st1 ids1 a w hag hst hon
      refine ⟨fun _=>?_,fun hw=>by rw [wanted_none hgd] at hw;cases hw⟩
      have hops:=Bj hon
      rw [hop] at hops
      have rp:=hops p (by simp [Op.operands]) _ hp
      obtain ⟨r1,r2,r3,r4⟩:=Nw hel (hops x (by simp [Op.operands]) _ hx) hob
      have hl1 : Ap st1 id (.row ty sz es):=by unfold Ap;rw [hag id (by simp)];exact hl
      obtain ⟨b,cap,cur,hmu,hheap,hcap,hcm,hcs,hrep,hlen,hone,hpos⟩:=SL hst hl1 (by rintro rfl;simp at hc)
      have hkl:=(List.getElem?_eq_some_iff.1 hc).1
      have hfit : kk * sz + f + i.size ≤ es.length * sz:=by
       have : (kk + 1) * sz ≤ es.length * sz:=Nat.mul_le_mul_right _ hkl
       rw [Nat.succ_mul] at this;omega
      have hcapz : es.length * sz ≤ cap * sz:=Nat.mul_le_mul_right _ hcap
      generalize hv : a.eval p = v at rp
      cases rp with
      | elp _ _ ln cp _ _ _ hm =>
       rw [hm] at hmu;cases hmu
       have hvl : (a.eval x).cells.toList.length = i.size:=by simpa using r2
       have hrun : (execOp a.eval o').run P w = .ok .skip (w.setRow b (cur.toList.take (kk * sz + f) ++ (a.eval x).cells.toList ++ cur.toList.drop (kk * sz + f + (a.eval x).cells.toList.length)).toArray):=by
        simp only [execOp,hop,hv,Sem.run_bind,storeAt_ok (htt t i ht) hheap r2 r4 (show kk * sz + f + (a.eval x).cells.toList.length ≤ cur.size by rw [hvl];omega),Result.andThen_ok,Sem.run_pure]
       rw [hrun]
       have hcl : cur.toList.length = cap * sz:=by simpa using hcs
       have hnew : BlkRep I μ (w.setRow b (cur.toList.take (kk * sz + f) ++ (a.eval x).cells.toList ++ cur.toList.drop (kk * sz + f + (a.eval x).cells.toList.length)).toArray) (.slice (some ⟨b,0,none⟩) es.length cap) (.row ty sz (es.set kk e')):=by
        subst he'
        have hys : ys.length = i.size:=r3
        have e1:=Lf (ys:=ys) es kk e hlen hc (by rw [hys];exact hf)
        rw [hys] at e1
        have e2 : (cur.toList.take (kk * sz + f) ++ (a.eval x).cells.toList ++ cur.toList.drop (kk * sz + f + (a.eval x).cells.toList.length)).take (es.length * sz) =
          (cur.toList.take (es.length * sz)).take (kk * sz + f) ++ (a.eval x).cells.toList ++ (cur.toList.take (es.length * sz)).drop (kk * sz + f + (a.eval x).cells.toList.length):=by
         rw [hvl,List.append_assoc,List.take_append,List.take_append,List.take_take,List.take_take,List.length_take,hvl,List.append_assoc]
         rw [Nat.min_eq_left (by omega : kk * sz + f ≤ cur.toList.length),Nat.min_eq_right (by omega : kk * sz + f ≤ es.length * sz),Nat.min_eq_left (by omega : kk * sz + f ≤ es.length * sz)]
         rw [List.take_of_length_le (l:=(a.eval x).cells.toList) (by omega),List.drop_take]
         congr 3
         omega
        have hR:=RepVL.splice hrep r1 (kk * sz + f)
        rw [hvl,hys] at hR
        rw [hvl] at e2
        have hls : (es.set kk (e.take f ++ ys ++ e.drop (f + i.size))).length = es.length:=by simp
        refine ⟨_,⟨?_,.inr ⟨b,cap,_,by rw [hls],Nat.zero_le _,setRow_heap w b cur _ ty _ hheap,by rw [hls];exact hcap,hcm,?_,rfl⟩⟩,?_,?_,?_,hpos⟩
        ·simp;omega
        ·simp;omega
        ·rw [hls,hvl,List.toList_toArray,e2]
         exact e1 ▸ hR
        ·intro c hc'
         rcases List.mem_or_eq_of_mem_set hc' with h | h
         ·exact hlen c h
         ·rw [h]
          have:=hlen e (List.mem_of_getElem? hc)
          simp [hys];omega
        ·intro c hc' y hy
         rcases List.mem_or_eq_of_mem_set hc' with h | h
         ·exact hone c h y hy
         ·rw [h] at hy
          have h5:=hone e (List.mem_of_getElem? hc)
          rcases List.mem_append.1 hy with hy | hy
          ·rcases List.mem_append.1 hy with hy | hy
           ·exact h5 y (List.mem_of_mem_take hy)
           ·obtain ⟨j,hj⟩:=List.mem_iff_getElem?.1 hy
            have hjl : j < (a.eval x).cells.toList.length:=by rw [r1.1];exact (List.getElem?_eq_some_iff.1 hj).1
            exact (r1.2 j _ y (List.getElem?_eq_getElem hjl) hj).oneV (r4 _ (List.getElem_mem _))
          ·exact h5 y (List.mem_of_mem_drop hy)
       obtain ⟨q1,q2⟩:=hst.update (id:=id) (blk:=.row ty sz es) (g:=.slice (some ⟨b,0,none⟩) es.length cap) (b:=b) hl1 hm rfl (w':=w.setRow b _) (setRow_size w b _) rfl rfl rfl (fun k hk=>setRow_other w b k _ hk) hnew
       exact ⟨I,μ,q1,.undef _,Mu.le_refl μ,q2⟩
     ·cases h
    ·cases h
   ·cases h
  ·cases h
 ·cases h
end
end Go.Hk
namespace Go.Hk
section
variable {P : Program} {n : Nat} {F : List Nat} {Q : DQ} {tt : TT} {env env' : Env} {st st' : St} {ids ids' : List Nat} {k todo todo' : List DI} {I : Imm} {μ : Mu} {w : World} {a : Act} {Pn : V → Prop} {d : D} {cx : Prop} {ob : List Prop}
end
end Go.Hk
namespace Go.Hk
def MP : List (Nat × Value × Blk) → St
 | []=>[]
 | (i,_,b) :: r=>(i,some b) :: MP r
def Ll : List (Nat × Value × Blk) → List Nat
 | []=>[]
 | (i,_,_) :: r=>i :: Ll r
def Fs (new : List (Nat × Value × Blk)) (μ : Mu) : Mu:=fun i=>match lk new i with
 | some p=>some p.1
 | none=>μ i
def Uv (R : List Nat) (μ : Mu) (st : St) (b : Nat) : Prop:=∃ r blk g,r ∈ R ∧ Ap st r blk ∧ μ r = some g ∧ Cx g b
section
variable {P : Program} {n : Nat} {F : List Nat} {Q : DQ} {tt : TT} {env env' : Env} {st st' : St} {ids ids' : List Nat} {todo : List DI} {I J : Imm} {μ : Mu} {w : World} {a : Act} {d : D}
theorem SV {new : List (Nat × Value × Blk)} {i : Nat} {b : Blk} {st : St} : Ap (MP new ++ st) i b → (∃ g,(i,g,b) ∈ new ∧ lk new i = some (g,b)) ∨ (lk new i = none ∧ Ap st i b):=by
 induction new with
 | nil=>intro h;exact .inr ⟨rfl,h⟩
 | cons p r ih =>
  obtain ⟨k,g,x⟩:=p
  intro h
  simp only [MP,List.cons_append] at h
  rcases AB.1 h with ⟨rfl,rfl⟩ | ⟨h1,h2⟩
  ·exact .inl ⟨g,by simp,lk_cons_self _ _ _⟩
  ·rw [lk_cons_ne _ _ (fun e=>h1 e.symm)]
   rcases ih h2 with ⟨g',q1,q2⟩ | h
   ·exact .inl ⟨g',by simp [q1],q2⟩
   ·exact .inr h
theorem Rg {new : List (Nat × Value × Blk)} {i : Nat} : lk new i = none ↔ i ∉ Ll new:=by
 induction new with
 | nil=>simp [lk,Ll]
 | cons p r ih =>
  obtain ⟨k,g,x⟩:=p
  by_cases h : k = i
  ·subst h;rw [lk_cons_self];simp [Ll]
  ·rw [lk_cons_ne _ _ h,ih];simp [Ll];exact fun _ e=>h e.symm
theorem StRep.relay {R : List Nat} {new : List (Nat × Value × Blk)} (hst : StRep I μ st (Ll new ++ ids') w)
  (hown : ∀ p ∈ new,∀ b,Cx p.2.1 b → Uv R μ st b) (hdisj : ∀ p ∈ new,∀ q ∈ new,∀ b,Cx p.2.1 b → Cx q.2.1 b → p.1 = q.1)
  (hI : I.le J) (hJ : J.ok w) (hold : ∀ b o,J b = some o → I b = some o ∨ (Uv R μ st b ∧ ∀ p ∈ new,¬ Cx p.2.1 b))
  (hrep : μ.le (Fs new μ) → ∀ p ∈ new,BlkRep J (Fs new μ) w p.2.1 p.2.2) :
  μ.le (Fs new μ) ∧ StRep J (Fs new μ) (MP new ++ (BE R ++ st)) ids' w ∧ Ext I μ st w J (Fs new μ) (MP new ++ (BE R ++ st)) w:=by
 have hnd:=List.nodup_append.1 hst.nodup
 have hle : μ.le (Fs new μ):=fun i v h=>by
  have : i ∉ Ll new:=fun hi=>by rw [hst.idsFree i (by simp [hi])] at h;cases h
  simp [Fs,Rg.2 this,h]
 have hcase : ∀ {i b},Ap (MP new ++ (BE R ++ st)) i b → (∃ g,(i,g,b) ∈ new ∧ Fs new μ i = some g) ∨ (i ∉ R ∧ Ap st i b ∧ Fs new μ i = μ i):=by
  intro i b h
  rcases SV h with ⟨g,q1,q2⟩ | ⟨q1,q2⟩
  ·exact .inl ⟨g,q1,by simp [Fs,q2]⟩
  ·obtain ⟨h3,h4⟩:=IH q2
   exact .inr ⟨h3,h4,by simp [Fs,q1]⟩
 have hold' : ∀ {b},AL μ st b → (∀ r ∈ R,∀ blk g,Ap st r blk → μ r = some g → ¬ Cx g b) → J b = none:=by
  intro b ⟨i,blk,g,q1,q2,q3⟩ hR
  have hI0:=(hst.apart i blk g b q1 q2 q3).1
  cases hJb : J b with
  | none=>rfl
  | some o =>
   rcases hold b o hJb with h | ⟨⟨r,blk',g',k1,k2,k3,k4⟩,_⟩
   ·rw [hI0] at h;cases h
   ·exact absurd k4 (hR r k1 blk' g' k2 k3)
 have hE : Ext I μ st w J (Fs new μ) (MP new ++ (BE R ++ st)) w :=
  {imm:=hI,os:=rfl,tape:=rfl,output:=rfl,size:=Nat.le_refl _,block:=fun _ _ _=>rfl
   fresh:=fun b _ ⟨i,blk,g,q1,q2,q3⟩=>by
    rcases hcase q1 with ⟨g',k1,k2⟩ | ⟨_,k2,k3⟩
    ·rw [k2] at q2;cases q2
     obtain ⟨r,blk',g',_,a2,a3,a4⟩:=hown _ k1 b q3
     exact ⟨r,blk',g',a2,a3,a4⟩
    ·exact ⟨i,blk,g,k2,by rw [← k3];exact q2,q3⟩
   old:=fun b _ ho=>by
    cases hJb : J b with
    | none =>
     cases hIb : I b with
     | none=>rfl
     | some o=>rw [hI b o hIb] at hJb;cases hJb
    | some o =>
     rcases hold b o hJb with h | ⟨⟨r,blk,g,_,k2,k3,k4⟩,_⟩
     ·exact h.symm
     ·exact absurd ⟨r,blk,g,k2,k3,k4⟩ ho }
 refine ⟨hle,{ imm:=hJ,blk:=fun i b hl=>?_,apart:=fun i b g k hl hg hk=>?_,inj:=fun i j bi bj gi gj k hi hj hgi hgj hki hkj=>?_,nodup:=hnd.2.1,idsFree:=fun i hi=>?_ },hE⟩
 ·rcases hcase hl with ⟨g,k1,k2⟩ | ⟨_,k2,k3⟩
  ·exact ⟨g,k2,hrep hle _ k1⟩
  ·obtain ⟨g,q1,q2⟩:=hst.blk i b k2
   exact ⟨g,by rw [k3];exact q1,q2.mono hI hle⟩
 ·rcases hcase hl with ⟨g',k1,k2⟩ | ⟨kR,k2,k3⟩
  ·rw [k2] at hg;cases hg
   obtain ⟨r,blk',g',a1,a2,a3,a4⟩:=hown _ k1 k hk
   obtain ⟨z1,z2⟩:=hst.apart r blk' g' k a2 a3 a4
   refine ⟨?_,z2⟩
   cases hJb : J k with
   | none=>rfl
   | some o =>
    rcases hold k o hJb with h | ⟨_,h⟩
    ·rw [z1] at h;cases h
    ·exact absurd hk (h _ k1)
  ·rw [k3] at hg
   obtain ⟨z1,z2⟩:=hst.apart i b g k k2 hg hk
   refine ⟨hold' ⟨i,b,g,k2,hg,hk⟩ fun r hr blk' g' h1 h2 h3=>?_,z2⟩
   exact kR (by rw [hst.inj i r b blk' g g' k k2 h1 hg h2 hk h3];exact hr)
 ·rcases hcase hi with ⟨g1,k1,k2⟩ | ⟨kR,k2,k3⟩
  ·rw [k2] at hgi;cases hgi
   rcases hcase hj with ⟨g2,l1,l2⟩ | ⟨lR,l2,l3⟩
   ·rw [l2] at hgj;cases hgj
    exact hdisj _ k1 _ l1 k hki hkj
   ·rw [l3] at hgj
    obtain ⟨r,blk',g',a1,a2,a3,a4⟩:=hown _ k1 k hki
    exact absurd (by rw [hst.inj j r bj blk' gj g' k l2 a2 hgj a3 hkj a4];exact a1) lR
  ·rw [k3] at hgi
   rcases hcase hj with ⟨g2,l1,l2⟩ | ⟨lR,l2,l3⟩
   ·rw [l2] at hgj;cases hgj
    obtain ⟨r,blk',g',a1,a2,a3,a4⟩:=hown _ l1 k hkj
    exact absurd (by rw [hst.inj i r bi blk' gi g' k k2 a2 hgi a3 hki a4];exact a1) kR
   ·rw [l3] at hgj
    exact hst.inj i j bi bj gi gj k k2 l2 hgi hgj hki hkj
 ·have : i ∉ Ll new:=fun h=>hnd.2.2 i h i hi rfl
  simp only [Fs,Rg.2 this]
  exact hst.idsFree i (by simp [hi])
theorem Zr (h : ∀ I μ a w,Conc n I μ env st ids a w → ∃ J ν env' st' ids',StRep J ν st' ids' w ∧ (∀ t d,lk env' t = some d → RepD J ν (a.tmps.getD t undef) d) ∧ Ext I μ st w J ν st' w ∧ Pin F μ ν ∧ DGo P n F Q todo env' st' ids') :
  DGo P n F Q todo env st ids:=by
 intro b cs I μ a w items hd hc
 obtain ⟨J,ν,env',st',ids',h1,h2,h3,h4,h5⟩:=h I μ a w hc
 exact (h5 b cs J ν a w items hd { h1 with size:=hc.size,env:=h2,defers:=hc.defers.ext h3 }).mono fun e a' w' hp=>hp.back h4 h3
end
end Go.Hk
namespace Go.Hk
section
variable {P : Program} {n : Nat} {F : List Nat} {Q : DQ} {tt : TT} {env env' : Env} {st st' : St} {ids ids' : List Nat} {todo : List DI} {I J : Imm} {μ : Mu} {w : World} {a : Act} {d : D}
end
end Go.Hk
namespace Go.Hk
section
variable {P : Program} {n : Nat} {F : List Nat} {Q : DQ} {tt : TT} {env env' : Env} {st st' : St} {ids ids' : List Nat} {k todo todo' : List DI} {I J : Imm} {μ : Mu} {w : World} {a : Act} {d : D}
end
end Go.Hk
namespace Go.Hk
section
variable {P : Program} {n : Nat} {F : List Nat} {Q : DQ} {tt : TT} {env env' : Env} {st st' : St} {ids ids' : List Nat} {k todo todo' : List DI} {I J : Imm} {μ : Mu} {w : World} {a : Act} {d : D}
end
end Go.Hk
namespace Go.Hk
section
variable {P : Program} {n : Nat} {F : List Nat} {Q : DQ} {tt : TT} {env env' : Env} {st st' : St} {ids ids' : List Nat} {k todo todo' : List DI} {I J : Imm} {μ : Mu} {w : World} {a : Act} {d : D}
end
end Go.Hk
namespace Go.Hk
section
variable {P : Program} {n : Nat} {F : List Nat} {Q : DQ} {tt : TT} {env env' : Env} {st st' : St} {ids ids' : List Nat} {todo : List DI} {I J : Imm} {μ : Mu} {w : World} {a : Act} {d : D}
end
end Go.Hk
namespace Go.Hk
def O0 : V → Bool
 | .bool _ | .int .. | .str _=>true
 | _=>false
def PB : List V → Bool
 | []=>true
 | x :: r=>O0 x && PB r
section
variable {P : Program} {I J : Imm} {μ ν : Mu} {st : St} {w : World}
theorem Vr {v : Value} {x : V} (h : O0 x = true) (hr : RepV J v x) : RepV I v x:=by
 cases hr <;> first | (simp [O0] at h;done) | constructor <;> assumption
end
end Go.Hk
namespace Go.Hk
section
variable {P : Program} {n : Nat} {F : List Nat} {Q : DQ} {todo : List DI} {env : Env} {st : St} {ids' : List Nat}
theorem Hx (t j : Nat) {e : TypeId} {sz : Nat} (hsz : 0 < sz) (ht : lk env t = some .nils) (h : DGo P n F Q todo ((t,.own j 0) :: env) ((j,some (.row e sz [])) :: st) ids') : DGo P n F Q todo env st (j :: ids'):=by
 refine Zr fun I μ a w hc=>?_
 have hv : a.tmps.getD t undef = .slice none 0 0:=by
  have:=hc.env t _ ht
  generalize a.tmps.getD t undef = v at this
  cases this with
  | nils=>rfl
 obtain ⟨q1,q2,q3⟩:=StRep.relay (R:=[]) (new:=[(j,.slice none 0 0,.row e sz [])]) (ids':=ids') hc.toStRep
  (fun p hp b hb=>by rw [List.mem_singleton.1 hp] at hb;exact hb.elim)
  (fun p hp q hq b _ _=>by rw [List.mem_singleton.1 hp,List.mem_singleton.1 hq]) (Imm.le_refl I) hc.imm (fun b o h=>.inl h)
  (fun _ p hp=>by
   rw [List.mem_singleton.1 hp]
   exact ⟨[],World.ownsRow_nil w _ e sz,⟨rfl,fun i v x h _=>by simp at h⟩,fun _ h=>by simp at h,fun _ h=>by simp at h,hsz⟩)
 refine ⟨I,_,_,_,ids',q2,fun t' d hd=>?_,q3,.of_le q1,h⟩
 by_cases e : t = t'
 ·subst e
  rw [lk_cons_self] at hd;cases hd
  rw [hv]
  exact .own j 0 none 0 (by simp [Fs,lk])
 ·rw [lk_cons_ne _ _ e] at hd;exact (hc.env t' d hd).mono (Imm.le_refl I) q1
end
end Go.Hk
namespace Go.Hk
open Go.Proofs
def W7 : Ty:=.mk 3 0 [] []
def Fv : Fd:=⟨[102],[120],W7,W7,.mk 3 0 [] [] []⟩
def Bv (ds : List Dt) : List Str:=ds.flatMap fun d=>d.cons.map Cd.name
def B9 (ds : List Dt) : List Str:=ds.map Dt.name
def Bm (ds l : List Dt) : Bool:=l.all fun d=>d.cons.all fun c=>AF ds c.args
def EZ (ds : List Dt) : Bool:=CK ⟨[109],ds,[Fv]⟩ && (Bm ds ds && (AJ (B9 ds) && AJ (Bv ds)))
theorem He (ds : List Dt) : ∀ l : List Ty,AF ds l = l.all (Bp ds)
 | []=>rfl
 | t :: r=>by simp [AF,He ds r]
theorem CG {α : Type} {l : List α} {q : α → Bool} {i : Nat} {t : α} (h : l[i]? = some t) : (l.drop i).all q = (q t && (l.drop (i + 1)).all q):=by rw [Al h];rfl
theorem Hf {ds : List Dt} (h : CK ⟨[109],ds,[Fv]⟩ = true) : ds.length ≤ 4 ∧ ∀ d ∈ ds,d.cons.length ≤ 5 ∧ ∀ c ∈ d.cons,c.args.length ≤ 3:=by
 simp only [CK,Bool.and_eq_true,List.all_eq_true,decide_eq_true_eq] at h
 refine ⟨by omega,fun d hd=>?_⟩
 have hd:=h.1.2 d hd
 simp only [FU,Bool.and_eq_true,List.all_eq_true,Eo,decide_eq_true_eq] at hd
 refine ⟨by omega,fun c hc=>?_⟩
 have hc:=hd.2 c hc
 simp only [KD,Bool.and_eq_true,decide_eq_true_eq] at hc
 omega
theorem N6 {ds : List Dt} {i : Nat} {d : Dt} (h : ds[i]? = some d) : Bv (ds.take (i + 1)) = Bv (ds.take i) ++ d.cons.map Cd.name:=by
 rw [AI h];simp [Bv]
theorem Pl {ds : List Dt} (h : ∀ d ∈ ds,d.cons.length ≤ 5) : (Bv ds).length ≤ 5 * ds.length:=by
 induction ds with
 | nil=>simp [Bv]
 | cons d r ih =>
  have h1:=h d (by simp)
  have h2:=ih fun x hx=>h x (by simp [hx])
  simp only [Bv,List.flatMap_cons,List.length_append,List.length_map,List.length_cons] at h2 ⊢
  omega
set_option maxHeartbeats 1000000 in
theorem Y4 (ds : List Dt) : PureC Tryz.prog 57 [.sl (ds.map BB)] (.bool (EZ ds)):=by
 refine Ae Cs Tryz.func57 (by decide +kernel) rfl [1,2,3,4,5,6,7,8] rfl rfl ?_
 refine cg [] rfl (by simp) ?_
 refine Ac rfl (fun _=>Wv ⟨[109],ds,[Fv]⟩) (by simp) ?_
 refine cg [] rfl (by simp) ?_
 refine Aa rfl (fun h=>?_) (fun h=>?_)
 ·refine cd [] rfl (by simp) ?_
  refine Ab ⟨_,rfl,tV (congrArg _ ?_),trivial⟩
  simp at h
  simp [EZ,h]
 have hm : CK ⟨[109],ds,[Fv]⟩ = true:=by simpa using h
 clear h
 obtain ⟨hl1,hl2⟩:=Hf hm
 refine cd [] rfl (by simp) ?_
 refine Hx (e:=9) (sz:=1) 5 3 (by decide) rfl ?_
 refine Hx (e:=9) (sz:=1) 6 4 (by decide) rfl ?_
 rw [show EZ ds = (Bm ds ds && (AJ (B9 ds) && AJ (Bv ds))) by simp [EZ,hm]]
 refine Ah (fun i : Nat=>[(7,.imm (.int .i64 i)),(0,.imm (.sl (ds.map BB))),(5,.own 3 (BU (B9 (ds.take i))).length),(6,.own 4 (BU (Bv (ds.take i))).length)])
  (fun i=>[(3,some (.row 9 1 (BU (B9 (ds.take i))))),(4,some (.row 9 1 (BU (Bv (ds.take i)))))]) [5,6,7] (fun i=>ds.length - i)
  (fun i=>i ≤ ds.length ∧ Bm ds ds = Bm ds (ds.drop i)) 0 ⟨Nat.zero_le _,rfl⟩ ⟨rfl,rfl,rfl,rfl,trivial⟩ ⟨rfl,rfl,trivial⟩ rfl fun i hi ih=>?_
 obtain ⟨hi1,hi2⟩:=hi
 refine cd [] rfl (by simp) ?_
 refine Aa rfl (fun h=>?_) (fun h=>?_)
 ·simp at h
  obtain ⟨d,hd⟩:=Ai h
  have hdm:=hl2 d (List.mem_of_getElem? hd)
  have hcl:=Pl (ds:=ds.take i) fun x hx=>(hl2 x (List.mem_of_mem_take hx)).1
  rw [List.length_take] at hcl
  have et : B9 (ds.take (i + 1)) = B9 (ds.take i) ++ [d.name]:=by rw [AI hd];simp [B9]
  have ec:=N6 hd
  rw [show Bm ds (ds.drop i) = (d.cons.all (fun c=>AF ds c.args) && Bm ds (ds.drop (i + 1))) from CG hd] at hi2
  refine cd [] rfl (by simp) ?_
  refine ci rfl (c:=BB d) (fun _=>⟨by simp,by simpa using AG hd,by simp⟩) (by simp) ?_
  obtain ⟨dn,dc⟩:=d
  refine cg [] rfl (by simp) ?_
  refine AZ Cs rfl ⟨by simp,by simp [maxLen,B9];omega,by simp [B9];omega,trivial⟩ ?_
  refine cg [] rfl (by simp) ?_
  refine AT 3 5 rfl ?_
  simp only at hdm ec et hi2 ⊢
  refine Ah (fun k : Nat=>[(8,.imm (.int .i64 k)),(7,.imm (.int .i64 i)),(0,.imm (.sl (ds.map BB))),(5,.own 3 (BU (B9 (ds.take (i + 1)))).length),(6,.own 4 (BU (Bv (ds.take i) ++ (dc.take k).map Cd.name)).length)])
   (fun k=>[(3,some (.row 9 1 (BU (B9 (ds.take (i + 1)))))),(4,some (.row 9 1 (BU (Bv (ds.take i) ++ (dc.take k).map Cd.name))))]) [5,6,7] (fun k=>dc.length - k)
   (fun k=>k ≤ dc.length ∧ dc.all (fun c=>AF ds c.args) = (dc.drop k).all (fun c=>AF ds c.args)) 0 ⟨Nat.zero_le _,rfl⟩ ⟨rfl,rfl,rfl,by rw [et,CX];rfl,by rw [List.take_zero,List.map_nil,List.append_nil];rfl,trivial⟩ ⟨by rw [et,CX];rfl,by rw [List.take_zero,List.map_nil,List.append_nil];rfl,trivial⟩ rfl fun k hk jh=>?_
  obtain ⟨hk1,hk2⟩:=hk
  refine cd [] rfl (by simp) ?_
  refine ci rfl (c:=BB ⟨dn,dc⟩) (fun _=>⟨by simp,by simpa using AG hd,by simp⟩) (by simp) ?_
  refine cg [] rfl (by simp) ?_
  refine Aa rfl (fun h=>?_) (fun h=>?_)
  ·simp at h
   obtain ⟨c,hc⟩:=Ai h
   have hcm:=hdm.2 c (List.mem_of_getElem? hc)
   have ek : (dc.take (k + 1)).map Cd.name = (dc.take k).map Cd.name ++ [c.name]:=by rw [AI hc];simp
   rw [CG hc] at hk2
   refine cd [] rfl (by simp) ?_
   refine ci rfl (c:=BB ⟨dn,dc⟩) (fun _=>⟨by simp,by simpa using AG hd,by simp⟩) (by simp) ?_
   refine cg [] rfl (by simp) ?_
   refine ci rfl (c:=CA c) (fun _=>⟨by simp,by simpa using AG hc,by simp⟩) (by simp) ?_
   obtain ⟨cn,ca⟩:=c
   refine cg [] rfl (by simp) ?_
   refine AZ Cs rfl ⟨by simp,by simp [maxLen];omega,by simp;omega,trivial⟩ ?_
   refine cg [] rfl (by simp) ?_
   refine AT 4 5 rfl ?_
   simp only at hcm ek hk2 ⊢
   refine Ah (fun n : Nat=>[(9,.imm (.int .i64 n)),(8,.imm (.int .i64 k)),(7,.imm (.int .i64 i)),(0,.imm (.sl (ds.map BB))),(5,.own 3 (BU (B9 (ds.take (i + 1)))).length),(6,.own 4 (BU (Bv (ds.take i) ++ (dc.take (k + 1)).map Cd.name)).length)])
    (fun n=>[(3,some (.row 9 1 (BU (B9 (ds.take (i + 1)))))),(4,some (.row 9 1 (BU (Bv (ds.take i) ++ (dc.take (k + 1)).map Cd.name))))]) [5,6,7] (fun n=>ca.length - n)
    (fun n=>n ≤ ca.length ∧ AF ds ca = AF ds (ca.drop n)) 0 ⟨Nat.zero_le _,rfl⟩ ⟨rfl,rfl,rfl,rfl,rfl,by rw [ek,← List.append_assoc,CX _ [cn]];rfl,trivial⟩ ⟨rfl,by rw [ek,← List.append_assoc,CX _ [cn]];rfl,trivial⟩ rfl fun n hn kh=>?_
   obtain ⟨hn1,hn2⟩:=hn
   refine cd [] rfl (by simp) ?_
   refine ci rfl (c:=BB ⟨dn,dc⟩) (fun _=>⟨by simp,by simpa using AG hd,by simp⟩) (by simp) ?_
   refine cg [] rfl (by simp) ?_
   refine ci rfl (c:=CA ⟨cn,ca⟩) (fun _=>⟨by simp,by simpa using AG hc,by simp⟩) (by simp) ?_
   refine cg [] rfl (by simp) ?_
   refine Aa rfl (fun h=>?_) (fun h=>?_)
   ·simp at h
    obtain ⟨t,ht⟩:=Ai h
    rw [Al ht] at hn2
    refine cd [] rfl (by simp) ?_
    refine ci rfl (c:=BB ⟨dn,dc⟩) (fun _=>⟨by simp,by simpa using AG hd,by simp⟩) (by simp) ?_
    refine cg [] rfl (by simp) ?_
    refine ci rfl (c:=CA ⟨cn,ca⟩) (fun _=>⟨by simp,by simpa using AG hc,by simp⟩) (by simp) ?_
    refine cg [] rfl (by simp) ?_
    refine ci rfl (c:=dTyc t) (fun _=>⟨by simp,by simpa using Ao ht,by simp⟩) (by simp) ?_
    refine cg [] rfl (by simp) ?_
    refine Ac rfl (fun _=>Ky ds t) (by simp) ?_
    refine cg [] rfl (by simp) ?_
    refine Aa rfl (fun h=>?_) (fun h=>?_)
    ·refine cd [] rfl (by simp) ?_
     refine Ab ⟨_,rfl,tV (congrArg _ ?_),trivial⟩
     simp at h
     simp only [AF,h,Bool.false_and] at hn2
     simp only [hn2,Bool.false_and] at hk2
     rw [hi2,hk2];simp
    ·refine cd [] rfl (by simp) ?_
     simp at h
     exact Ad (kh (n + 1) (by omega) ⟨by omega,by rw [hn2];simp [AF,h]⟩) ⟨As (Bw (by omega) (by omega)),rfl,rfl,rfl,rfl,rfl,trivial⟩ ⟨rfl,rfl,trivial⟩ rfl
   ·simp at h
    refine Av rfl ?_
    refine cd [] rfl (by simp) ?_
    rw [List.drop_eq_nil_of_le (by omega)] at hn2
    exact Ad (jh (k + 1) (by omega) ⟨by omega,by rw [hk2];simp [hn2,AF]⟩) ⟨As (Bw (by omega) (by omega)),rfl,rfl,rfl,rfl,trivial⟩ ⟨rfl,rfl,trivial⟩ rfl
  ·simp at h
   refine Av rfl ?_
   refine cd [] rfl (by simp) ?_
   rw [List.drop_eq_nil_of_le (by omega)] at hk2
   have hk3 : dc.take k = dc:=List.take_of_length_le h
   refine Ad (ih (i + 1) (by omega) ⟨by omega,by rw [hi2,hk2];simp⟩) ⟨As (Bw (by omega) (by omega)),rfl,rfl,by rw [ec,hk3];rfl,trivial⟩ ⟨rfl,by rw [ec,hk3];rfl,trivial⟩ rfl
 ·simp at h
  have hle : ds.length ≤ i:=by omega
  refine Av rfl ?_
  rw [List.take_of_length_le hle,List.drop_eq_nil_of_le hle] at *
  rw [hi2,show Bm ds [] = true from rfl,Bool.true_and]
  refine Bu 3 rfl ?_
  refine Bu 4 rfl ?_
  refine cd [] rfl (by simp) ?_
  refine Ac rfl (fun _=>KQ (B9 ds)) (by simp) ?_
  refine cg [] rfl (by simp) ?_
  refine Ac rfl (fun _=>KQ (Bv ds)) (by simp [Af]) ?_
  refine cg [] rfl (by simp) ?_
  refine Ab ⟨_,rfl,tV (congrArg _ ?_),trivial⟩
  simp
structure OkD (ds : List Dt) : Prop where
 named : Bm ds ds = true
 len : ∀ d ∈ ds,d.cons.length ≤ 1000000
theorem OkD.of {ds : List Dt} (h : EZ ds = true) : OkD ds:=by
 simp only [EZ,Bool.and_eq_true] at h
 exact ⟨h.2.1,fun d hd=>by have:=((Hf h.1).2 d hd).1;omega⟩
theorem Gl (s : Str) : ∀ (l : List Dt) (i : Nat),0 ≤ AK s i l → ∃ k d,AK s i l = ((i + k : Nat) : Int) ∧ l[k]? = some d ∧ d.name = s
 | [],i,h=>by simp [AK] at h
 | d :: r,i,h=>by
  simp only [AK] at h ⊢
  by_cases e : d.name = s
  ·rw [if_pos e];exact ⟨0,d,by simp,by simp,e⟩
  ·rw [if_neg e] at h ⊢
   obtain ⟨k,d',h1,h2,h3⟩:=Gl s r (i + 1) h
   exact ⟨k + 1,d',by rw [h1];omega,by simpa using h2,h3⟩
theorem HG {ds : List Dt} {t : Ty} (h : Bp ds t = true) : ∀ so n x ps,t = .mk so n x ps → so = 8 → 0 ≤ AK x 0 ds ∧ ∃ d,ds[(AK x 0 ds).toNat]? = some d:=by
 rintro so n x ps rfl rfl
 simp [Bp] at h
 obtain ⟨k,d,h1,h2,_⟩:=Gl x ds 0 h.1
 exact ⟨h.1,d,by rw [h1];simpa using h2⟩
theorem JJ {s : Str} : ∀ {l : List Cd} {i : Nat},0 ≤ (Db s i l).2 → (Db s i l).1 ∈ l ∧ (Db s i l).1.name = s
 | [],i,h=>by simp [Db] at h
 | c :: r,i,h=>by
  simp only [Db] at h ⊢
  by_cases e : c.name = s
  ·rw [if_pos e];exact ⟨by simp,e⟩
  ·rw [if_neg e] at h ⊢
   have:=JJ (l:=r) h
   exact ⟨List.mem_cons_of_mem _ this.1,this.2⟩
theorem Yj {ds : List Dt} {t : Ty} {s : Str} (h : 0 ≤ (Cg ds t s).2) : ∃ d ∈ ds,(Cg ds t s).1 ∈ d.cons:=by
 obtain ⟨so,n,x,ps⟩:=t
 simp only [Cg] at h ⊢
 by_cases e : so = 8
 ·rw [if_pos e] at h ⊢
  cases hd : ds[(AK x 0 ds).toNat]? with
  | none=>simp [hd] at h
  | some d =>
   simp only [hd] at h ⊢
   exact ⟨d,List.mem_of_getElem? hd,(JJ h).1⟩
 ·rw [if_neg e] at h;simp at h
theorem IK {ds : List Dt} (ho : OkD ds) {t : Ty} {s : Str} (h : 0 ≤ (Cg ds t s).2) : AF ds (Cg ds t s).1.args = true:=by
 obtain ⟨d,h1,h2⟩:=Yj h
 have:=ho.named
 simp only [Bm,List.all_eq_true] at this
 exact this d h1 _ h2
theorem DT {ds : List Dt} {l : List Ty} (h : AF ds l = true) {i : Nat} {t : Ty} (ht : l[i]? = some t) : Bp ds t = true:=by
 rw [He,List.all_eq_true] at h
 exact h t (List.mem_of_getElem? ht)
mutual
def BR (ds : List Dt) : Ty → Ty → Bool
 | .mk so _ x0 _,.mk f _ x ps=>if f = 3 then so == 1 else if f = 4 then so == 2 else if f = 5 then so == 3 else if f = 6 then decide (0 ≤ (Cg ds (.mk so 0 x0 []) x).2) && (decide ((Cg ds (.mk so 0 x0 []) x).1.args.length = ps.length) && BV ds (Cg ds (.mk so 0 x0 []) x).1.args ps) else true
def BV (ds : List Dt) : List Ty → List Ty → Bool
 | _,[]=>true
 | [],_ :: _=>true
 | a :: r,p :: q=>BR ds a p && BV ds r q
end
theorem LY (ds : List Dt) (so n m : Int) (x s : Str) (ps qs : List Ty) : Cg ds (.mk so n x ps) s = Cg ds (.mk so m x qs) s:=rfl
set_option maxHeartbeats 1000000 in
theorem QV (ct : Ty) (rows : List Ty) (ds : List Dt) (ho : OkD ds) : ∀ (p t : Ty),Bp ds t = true → PureC Tryz.prog 61 [.agg (dCse ⟨ds,ct,rows⟩),.agg (dTyc t),.agg (dTyc p)] (.bool (BR ds t p))
 | .mk f n x ps,t,hn=>by
  have hcon:=Yi ⟨ds,ct,rows⟩ t x (HG hn) ho.len
  have hnm:=fun h=>IK ho (t:=t) (s:=x) h
  obtain ⟨so,n0,x0,ps0⟩:=t
  obtain ⟨c1,c2,c3,c4⟩:=ct
  simp only [BR]
  rw [LY ds so 0 n0 x0 x [] ps0]
  simp only at hcon
  generalize Cg ds (.mk so n0 x0 ps0) x = r at *
  obtain ⟨⟨kn,ka⟩,kp⟩:=r
  refine A2 fun hv=>?_
  simp [Bt,Dd,dTyc,dCse,maxLen] at hv
  refine Ae Cs Tryz.func61 (by decide +kernel) rfl [1,2,3,4,5,6] rfl rfl ?_
  refine cg [] rfl (by simp) ?_
  by_cases h3 : f = 3
  ·subst h3
   refine Aa rfl (fun h=>?_) (fun h=>by simp at h)
   refine cd [] rfl (by simp) ?_
   refine Ab ⟨_,rfl,tV (congrArg _ ?_),trivial⟩
   simp
  rw [if_neg h3]
  refine Aa rfl (fun h=>absurd (by simpa using h) h3) (fun h=>?_)
  clear h
  refine cd [] rfl (by simp) ?_
  by_cases h4 : f = 4
  ·subst h4
   refine Aa rfl (fun h=>?_) (fun h=>by simp at h)
   refine cd [] rfl (by simp) ?_
   refine Ab ⟨_,rfl,tV (congrArg _ ?_),trivial⟩
   simp
  rw [if_neg h4]
  refine Aa rfl (fun h=>absurd (by simpa using h) h4) (fun h=>?_)
  clear h
  refine cd [] rfl (by simp) ?_
  by_cases h5 : f = 5
  ·subst h5
   refine Aa rfl (fun h=>?_) (fun h=>by simp at h)
   refine cd [] rfl (by simp) ?_
   refine Ab ⟨_,rfl,tV (congrArg _ ?_),trivial⟩
   simp
  rw [if_neg h5]
  refine Aa rfl (fun h=>absurd (by simpa using h) h5) (fun h=>?_)
  clear h
  refine cd [] rfl (by simp) ?_
  by_cases h6 : f = 6
  case neg =>
   rw [if_neg h6]
   refine Aa rfl (fun h=>absurd (by simpa using h) h6) (fun h=>?_)
   refine cd [] rfl (by simp) ?_
   exact Ab ⟨_,rfl,tV rfl,trivial⟩
  rw [if_pos h6]
  refine Aa rfl (fun h=>?_) (fun h=>by simp [h6] at h)
  clear h
  refine cd [] rfl (by simp) ?_
  refine Ac rfl (fun _=>hcon) (by simp) ?_
  refine cg [] rfl (by simp) ?_
  by_cases hg : 0 ≤ kp ∧ ka.length = ps.length
  case neg =>
   refine Aa rfl (fun h=>?_) (fun h=>?_)
   ·refine cd [] rfl (by simp) ?_
    refine Ab ⟨_,rfl,tV (congrArg _ ?_),trivial⟩
    simp
    grind
   ·exfalso
    simp at h
    apply hg
    omega
  obtain ⟨hkp,hlen⟩:=hg
  have hnm:=hnm hkp
  refine Aa rfl (fun h=>by exfalso;simp [hlen] at h;omega) (fun h=>?_)
  clear h
  refine cd [] rfl (by simp) ?_
  simp only [hkp,hlen,decide_true,Bool.true_and]
  refine Ah (fun i : Nat=>[(9,.imm (.int .i64 i)),(3,.ref 1 0),(5,.ref 3 0),(7,.ref 4 0)]) (fun _=>[(1,some (.immb 29 6 (dCse ⟨ds,.mk c1 c2 c3 c4,rows⟩))),(3,some (.immb 50 4 (dTyc (.mk f n x ps)))),(4,some (.immb 75 2 (CA ⟨kn,ka⟩)))]) [5,6] (fun i=>ps.length - i)
   (fun i=>i ≤ ps.length ∧ BV ds ka ps = BV ds (ka.drop i) (ps.drop i)) 0 ⟨Nat.zero_le _,rfl⟩ ⟨rfl,rfl,rfl,rfl,trivial⟩ ⟨rfl,rfl,rfl,trivial⟩ rfl fun i hi ih=>?_
  obtain ⟨hi1,hi2⟩:=hi
  refine cd [] rfl (by simp) ?_
  refine Aa rfl (fun h=>?_) (fun h=>?_)
  ·simp at h
   obtain ⟨p,hp⟩:=Ai h
   obtain ⟨a,ha⟩:=Ai (l:=ka) (i:=i) (by omega)
   rw [Al hp,Al ha] at hi2
   simp only [BV] at hi2
   refine cd [] rfl (by simp) ?_
   refine ci rfl (c:=dTyc a) (fun _=>⟨by simp,by simpa using Ao ha,by simp⟩) (by simp) ?_
   refine cg [] rfl (by simp) ?_
   refine ci rfl (c:=dTyc p) (fun _=>⟨by simp,by simpa using Ao hp,by simp⟩) (by simp) ?_
   refine cg [] rfl (by simp) ?_
   refine Ac rfl (fun _=>QV (.mk c1 c2 c3 c4) rows ds ho p a (DT hnm ha)) (by simp) ?_
   refine cg [] rfl (by simp;rfl) ?_
   refine Aa rfl (fun h=>?_) (fun h=>?_)
   ·refine cd [] rfl (by simp) ?_
    refine Ab ⟨_,rfl,tV (congrArg _ ?_),trivial⟩
    simp at h
    simp [hi2,h]
   ·refine cd [] rfl (by simp) ?_
    simp at h
    exact Ad (ih (i + 1) (by omega) ⟨by omega,by rw [hi2];simp [h]⟩) ⟨As (Bw (by omega) (by omega)),rfl,rfl,rfl,trivial⟩ ⟨rfl,rfl,rfl,trivial⟩ rfl
  ·simp at h
   refine Av rfl ?_
   refine cd [] rfl (by simp) ?_
   rw [hi2,List.drop_eq_nil_of_le (by omega),List.drop_eq_nil_of_le (by omega)]
   exact Ab ⟨_,rfl,tV rfl,trivial⟩
termination_by p=>SizeOf.sizeOf p
decreasing_by
 have:=List.sizeOf_lt_of_mem (List.mem_of_getElem? hp)
 simp_wf
 omega
mutual
def Rb (ds : List Dt) : Ty → Ty → Bool
 | .mk so _ x0 _,.mk f _ x ps=>if so = 1 then f == 1 else if so = 2 then f == 2 else if so = 3 then f == 3 else if so = 8 then decide (f = 4) && (decide (0 ≤ (Cg ds (.mk so 0 x0 []) x).2) && (decide ((Cg ds (.mk so 0 x0 []) x).1.args.length = ps.length) && GM ds (Cg ds (.mk so 0 x0 []) x).1.args ps)) else f == 5
def GM (ds : List Dt) : List Ty → List Ty → Bool
 | _,[]=>true
 | [],_ :: _=>true
 | a :: r,p :: q=>Rb ds a p && GM ds r q
end
set_option maxHeartbeats 1000000 in
theorem ZN (ct : Ty) (rows : List Ty) (ds : List Dt) (ho : OkD ds) : ∀ (p t : Ty),Bp ds t = true → PureC Tryz.prog 28 [.agg (dCse ⟨ds,ct,rows⟩),.agg (dTyc t),.agg (dTyc p)] (.bool (Rb ds t p))
 | .mk f n x ps,t,hn=>by
  have hcon:=Yi ⟨ds,ct,rows⟩ t x (HG hn) ho.len
  have hnm:=fun h=>IK ho (t:=t) (s:=x) h
  obtain ⟨so,n0,x0,ps0⟩:=t
  obtain ⟨c1,c2,c3,c4⟩:=ct
  simp only [Rb]
  rw [LY ds so 0 n0 x0 x [] ps0]
  simp only at hcon
  generalize Cg ds (.mk so n0 x0 ps0) x = r at *
  obtain ⟨⟨kn,ka⟩,kp⟩:=r
  refine A2 fun hv=>?_
  simp [Bt,Dd,dTyc,dCse,maxLen] at hv
  refine Ae Cs Tryz.func28 (by decide +kernel) rfl [1,2,3,4,5,6] rfl rfl ?_
  refine cg [] rfl (by simp) ?_
  by_cases h1 : so = 1
  ·subst h1
   refine Aa rfl (fun h=>?_) (fun h=>by simp at h)
   refine cd [] rfl (by simp) ?_
   refine Ab ⟨_,rfl,tV (congrArg _ ?_),trivial⟩
   simp
  rw [if_neg h1]
  refine Aa rfl (fun h=>absurd (by simpa using h) h1) (fun h=>?_)
  clear h
  refine cd [] rfl (by simp) ?_
  by_cases h2 : so = 2
  ·subst h2
   refine Aa rfl (fun h=>?_) (fun h=>by simp at h)
   refine cd [] rfl (by simp) ?_
   refine Ab ⟨_,rfl,tV (congrArg _ ?_),trivial⟩
   simp
  rw [if_neg h2]
  refine Aa rfl (fun h=>absurd (by simpa using h) h2) (fun h=>?_)
  clear h
  refine cd [] rfl (by simp) ?_
  by_cases h3 : so = 3
  ·subst h3
   refine Aa rfl (fun h=>?_) (fun h=>by simp at h)
   refine cd [] rfl (by simp) ?_
   refine Ab ⟨_,rfl,tV (congrArg _ ?_),trivial⟩
   simp
  rw [if_neg h3]
  refine Aa rfl (fun h=>absurd (by simpa using h) h3) (fun h=>?_)
  clear h
  refine cd [] rfl (by simp) ?_
  by_cases h8 : so = 8
  case neg =>
   rw [if_neg h8]
   refine Aa rfl (fun h=>absurd (by simpa using h) h8) (fun h=>?_)
   refine cd [] rfl (by simp) ?_
   refine Ab ⟨_,rfl,tV (congrArg _ ?_),trivial⟩
   simp
  rw [if_pos h8]
  refine Aa rfl (fun h=>?_) (fun h=>by simp [h8] at h)
  clear h
  refine cd [] rfl (by simp) ?_
  refine Ac rfl (fun _=>hcon) (by simp) ?_
  refine cg [] rfl (by simp) ?_
  by_cases hg : f = 4 ∧ 0 ≤ kp ∧ ka.length = ps.length
  case neg =>
   refine Aa rfl (fun h=>?_) (fun h=>?_)
   ·refine cd [] rfl (by simp) ?_
    refine Ab ⟨_,rfl,tV (congrArg _ ?_),trivial⟩
    simp
    grind
   ·exfalso
    simp at h
    apply hg
    omega
  obtain ⟨rfl,hkp,hlen⟩:=hg
  have hnm:=hnm hkp
  refine Aa rfl (fun h=>by exfalso;simp [hlen] at h;omega) (fun h=>?_)
  clear h
  refine cd [] rfl (by simp) ?_
  simp only [hkp,hlen,decide_true,Bool.true_and]
  refine Ah (fun i : Nat=>[(9,.imm (.int .i64 i)),(3,.ref 1 0),(5,.ref 3 0),(7,.ref 4 0)]) (fun _=>[(1,some (.immb 29 6 (dCse ⟨ds,.mk c1 c2 c3 c4,rows⟩))),(3,some (.immb 33 4 (dTyc (.mk 4 n x ps)))),(4,some (.immb 75 2 (CA ⟨kn,ka⟩)))]) [5,6] (fun i=>ps.length - i)
   (fun i=>i ≤ ps.length ∧ GM ds ka ps = GM ds (ka.drop i) (ps.drop i)) 0 ⟨Nat.zero_le _,rfl⟩ ⟨rfl,rfl,rfl,rfl,trivial⟩ ⟨rfl,rfl,rfl,trivial⟩ rfl fun i hi ih=>?_
  obtain ⟨hi1,hi2⟩:=hi
  refine cd [] rfl (by simp) ?_
  refine Aa rfl (fun h=>?_) (fun h=>?_)
  ·simp at h
   obtain ⟨p,hp⟩:=Ai h
   obtain ⟨a,ha⟩:=Ai (l:=ka) (i:=i) (by omega)
   rw [Al hp,Al ha] at hi2
   simp only [GM] at hi2
   refine cd [] rfl (by simp) ?_
   refine ci rfl (c:=dTyc a) (fun _=>⟨by simp,by simpa using Ao ha,by simp⟩) (by simp) ?_
   refine cg [] rfl (by simp) ?_
   refine ci rfl (c:=dTyc p) (fun _=>⟨by simp,by simpa using Ao hp,by simp⟩) (by simp) ?_
   refine cg [] rfl (by simp) ?_
   refine Ac rfl (fun _=>ZN (.mk c1 c2 c3 c4) rows ds ho p a (DT hnm ha)) (by simp) ?_
   refine cg [] rfl (by simp;rfl) ?_
   refine Aa rfl (fun h=>?_) (fun h=>?_)
   ·refine cd [] rfl (by simp) ?_
    refine Ab ⟨_,rfl,tV (congrArg _ ?_),trivial⟩
    simp at h
    simp [hi2,h]
   ·refine cd [] rfl (by simp) ?_
    simp at h
    exact Ad (ih (i + 1) (by omega) ⟨by omega,by rw [hi2];simp [h]⟩) ⟨As (Bw (by omega) (by omega)),rfl,rfl,rfl,trivial⟩ ⟨rfl,rfl,rfl,trivial⟩ rfl
  ·simp at h
   refine Av rfl ?_
   refine cd [] rfl (by simp) ?_
   rw [hi2,List.drop_eq_nil_of_le (by omega),List.drop_eq_nil_of_le (by omega)]
   exact Ab ⟨_,rfl,tV rfl,trivial⟩
termination_by p=>SizeOf.sizeOf p
decreasing_by
 have:=List.sizeOf_lt_of_mem (List.mem_of_getElem? hp)
 simp_wf
 omega
def SM (c : Cse) (p : Ty) : Bool:=Cu p && BR c.datas c.type p
def Ea (c : Cse) : Bool:=(EZ c.datas && Dz c.type && Bp c.datas c.type && decide (c.rows.length ≤ 5)) && (c.rows.all (SM c) && decide (Ag c.rows ≤ 30))
theorem QU {p : Ty} (h : Cu p = true) : Ak p ≤ 12:=by
 simp only [Cu,Bool.and_eq_true,decide_eq_true_eq] at h
 have h1:=CB p 12 h.1.1
 have h2:=h.1.1
 omega
set_option maxHeartbeats 1000000 in
theorem Vb (c : Cse) : PureC Tryz.prog 25 [.agg (dCse c)] (.bool (Ea c)):=by
 obtain ⟨ds,t,rows⟩:=c
 obtain ⟨so,n0,x0,ps0⟩:=t
 refine Ae Cs Tryz.func25 (by decide +kernel) rfl [1,2,3,4,5,6] rfl rfl ?_
 refine cg [] rfl (by simp) ?_
 refine Ac rfl (fun _=>Y4 ds) (by simp) ?_
 refine cg [] rfl (by simp) ?_
 refine Ac rfl (fun _=>JU (.mk so n0 x0 ps0)) (by simp [Af]) ?_
 refine cg [] rfl (by simp [Af]) ?_
 refine Ac rfl (fun _=>Ky ds (.mk so n0 x0 ps0)) (by simp [Af]) ?_
 refine cg [] rfl (by simp [Af]) ?_
 refine Aa rfl (fun h=>?_) (fun h=>?_)
 ·refine cd [] rfl (by simp) ?_
  refine Ab ⟨_,rfl,tV (congrArg _ ?_),trivial⟩
  simp at h
  simp [Ea]
  grind
 have hg : (EZ ds && Dz (.mk so n0 x0 ps0) && Bp ds (.mk so n0 x0 ps0) && decide (rows.length ≤ 5)) = true:=by simp at h ⊢;grind
 rw [show Ea ⟨ds,.mk so n0 x0 ps0,rows⟩ = (rows.all (SM ⟨ds,.mk so n0 x0 ps0,rows⟩) && decide (Ag rows ≤ 30)) by simp only [Ea,hg,Bool.true_and]]
 clear h
 simp only [Bool.and_eq_true,decide_eq_true_eq] at hg
 obtain ⟨⟨⟨hd,hw⟩,hn⟩,hl⟩:=hg
 have ho:=OkD.of hd
 have hP:=fun p=>QV (.mk so n0 x0 ps0) rows ds ho p (.mk so n0 x0 ps0) hn
 generalize hR : SM ⟨ds,.mk so n0 x0 ps0,rows⟩ = R
 have hR : ∀ p,R p = (Cu p && BR ds (.mk so n0 x0 ps0) p):=fun p=>by rw [← hR];rfl
 refine cd [] rfl (by simp) ?_
 refine Ah (fun i : Nat=>[(4,.imm (.int .i64 i)),(3,.imm (.int .i64 ((Ag (rows.take i) : Nat) : Int))),(1,.ref 1 0)]) (fun _=>[(1,some (.immb 29 6 (dCse ⟨ds,.mk so n0 x0 ps0,rows⟩)))]) [2,3,4,5,6] (fun i=>rows.length - i)
  (fun i=>i ≤ rows.length ∧ rows.all R = (rows.drop i).all R ∧ Ag (rows.take i) ≤ 12 * i) 0 ⟨Nat.zero_le _,rfl,by simp [Ag]⟩ ⟨rfl,rfl,rfl,trivial⟩ ⟨rfl,trivial⟩ rfl fun i hi ih=>?_
 obtain ⟨hi1,hi2,hi3⟩:=hi
 refine cd [] rfl (by simp) ?_
 refine Aa rfl (fun h=>?_) (fun h=>?_)
 ·simp at h
  obtain ⟨p,hp⟩:=Ai h
  rw [CG hp,hR] at hi2
  have en : Ag (rows.take (i + 1)) = Ag (rows.take i) + Ak p:=by rw [AI hp,Bc];simp [Ag]
  refine cd [] rfl (by simp) ?_
  refine ci rfl (c:=dTyc p) (fun _=>⟨by simp,by simpa using Ao hp,by simp⟩) (by simp) ?_
  refine cg [] rfl (by simp) ?_
  refine Ac rfl (fun _=>Y0 p) (by simp) ?_
  refine cg [] rfl (by simp) ?_
  refine ci rfl (c:=dTyc p) (fun _=>⟨by simp,by simpa using Ao hp,by simp⟩) (by simp [Af]) ?_
  refine cg [] rfl (by simp [Af]) ?_
  refine Ac rfl (fun _=>hP p) (by simp [Af]) ?_
  refine cg [] rfl (by simp [Af];rfl) ?_
  refine Aa rfl (fun h=>?_) (fun h=>?_)
  ·refine cd [] rfl (by simp) ?_
   refine Ab ⟨_,rfl,tV (congrArg _ ?_),trivial⟩
   simp at h
   rw [hi2]
   grind
  ·have hr : (Cu p && BR ds (.mk so n0 x0 ps0) p) = true:=by simp at h ⊢;grind
   rw [hr,Bool.true_and] at hi2
   have hp12:=QU (Bool.and_eq_true _ _ ▸ hr).1
   refine cd [] rfl (by simp) ?_
   refine ci rfl (c:=dTyc p) (fun _=>⟨by simp,by simpa using Ao hp,by simp⟩) (by simp) ?_
   refine cg [] rfl (by simp) ?_
   refine Ac rfl (fun _=>Sj p (by omega)) (by simp) ?_
   refine cg [] rfl (by simp) ?_
   exact Ad (ih (i + 1) (by omega) ⟨by omega,hi2,by omega⟩) ⟨As (Bw (by omega) (by omega)),As (by rw [en,Bw (by omega) (by omega)];omega),rfl,trivial⟩ ⟨rfl,trivial⟩ rfl
 ·simp at h
  refine Av rfl ?_
  refine cd [] rfl (by simp) ?_
  rw [List.take_of_length_le (by omega),hi2,List.drop_eq_nil_of_le (by omega)]
  refine Ab ⟨_,rfl,tV (congrArg _ ?_),trivial⟩
  simp
  omega
end Go.Hk
namespace Go.Hk
def Ue (P : Program) (t : TypeId) : Bool:=(match P.underlying t with
 | some (.struct fs) => fs.toList.all fun f => f.name != "_"
 | _=>false) && !P.stoodInHeld t && !P.eqGuardType P.depth t
def Zo : V → V → Option Bool
 | .bool a,.bool b=>some (a == b)
 | .int k a,.int k' b=>match decide (k = k') with
  | true=>some (a == b)
  | false=>none
 | .str a,.str b=>some (a == b)
 | _,_=>none
def Hn : V → Sh → Bool
 | .bool _,.bool=>true
 | .int _ _,.int _=>true
 | .str _,.str=>true
 | _,_=>false
def P4 (tt : TT) : Nat → List (Nat × TypeId) → List V → List V → Option Bool
 | _,[],[],[]=>some true
 | i,(off,ft) :: fs,x :: xs,y :: ys=>match Nat.beq off i,lk tt ft with
  | true,some ti=>match Hn x ti.sh,Zo x y with
   | true,some b=>match P4 tt (i + 1) fs xs ys with
    | some b'=>some (b && b')
    | none=>none
   | _,_=>none
  | _,_=>none
 | _,_,_,_=>none
structure PSeq where
 t : TypeId
 b : Bool
 g : Option (Bool × Bool)
 ob : List Prop
 dst : Option Nat
 todo : List DI
def Z1 : D → Option (List V)
 | .imm (.agg xs)=>some xs
 | _=>none
def bM (tt : TT) (n : Nat) (env : Env) (todo : List DI) : Option PSeq :=
 match AW todo ([],[]) with
 | some (all,o,todo')=>match o.op,BP all env o with
  | .binOp op t x y _,some g=>match lk tt t,Kb (Af g) env x,Kb (Af g) env y with
   | some { sh:=.struct fs,.. },some (dx,o1),some (dy,o2)=>match Z1 dx,Z1 dy,Cj n o.dst with
    | some xs,some ys,true=>match P4 tt 0 fs xs ys,op with
     | some b,.eql=>some ⟨t,b,g,FW o1 o2,o.dst,todo'⟩
     | some b,.neq=>some ⟨t,!b,g,FW o1 o2,o.dst,todo'⟩
     | _,_=>none
    | _,_,_=>none
   | _,_,_=>none
  | _,_=>none
 | none=>none
section
variable {P : Program} {n : Nat} {F : List Nat} {Q : DQ} {tt : TT} {env : Env} {st : St} {ids : List Nat} {todo : List DI} {I : Imm} {w : World}
theorem ML {t : TypeId} {ti : TyI} (hty : TyOk P t ti) {x : V} (hs : Hn x ti.sh = true) : (Go.isAgg t).run P w = .ok false w:=by
 have:=hty.sh
 cases hsh : ti.sh <;> rw [hsh] at hs this <;> cases x <;> simp only [Hn,reduceCtorEq] at hs
 all_goals
  have hu : P.underlying t = some _:=this
  simp [Go.isAgg,run_underlying hu]
theorem XY {x y : V} {vx vy : Value} {b : Bool} {t : TypeId} {ti : TyI} (hty : TyOk P t ti) (n : Nat) (hx : RepV I vx x) (hy : RepV I vy y) (h : Zo x y = some b) (hs : Hn x ti.sh = true) :
  (Op.equalIn (n + 1) t vx vy).run P w = .ok b w:=by
 have:=hty.sh
 cases x <;> simp only [Zo,reduceCtorEq] at h <;> cases y <;> simp only [Option.some.injEq,reduceCtorEq] at h
 ·cases hx;cases hy
  cases hsh : ti.sh <;> rw [hsh] at hs this <;> simp only [Hn,reduceCtorEq] at hs
  rw [run_equalIn_bool' w n t _ _ this,h]
 ·rename_i k a k' b'
  cases hk : decide (k = k') with
  | false=>rw [hk] at h;cases h
  | true =>
   rw [hk] at h
   have hkk : k = k':=of_decide_eq_true hk
   subst hkk
   cases hx;cases hy
   cases hsh : ti.sh <;> rw [hsh] at hs this <;> simp only [Hn,reduceCtorEq] at hs
   simp only [Option.some.injEq] at h
   rw [run_equalIn_int w n t _ _ _ _ this,h]
 ·cases hx with
  | str s l e1 =>
  cases hy with
  | str s' l' e2 =>
  cases hsh : ti.sh <;> rw [hsh] at hs this <;> simp only [Hn,reduceCtorEq] at hs
  rw [run_equalIn_string w n t _ _ this,ByteArray.toList_eq,ByteArray.toList_eq,e1,e2,h]
theorem JC (htt : TTok P tt) {xs ys : Array Value} (n : Nat) : ∀ (fs : List Field) (i : Nat) (gx gy : List V) (b : Bool), (∀ f ∈ fs, f.name ≠ "_") →
  RepVL I (xs.toList.drop i) gx → RepVL I (ys.toList.drop i) gy → P4 tt i (fs.map fun f=>(f.offset,f.type)) gx gy = some b → (Op.eqFields (n + 1) xs ys fs).run P w = .ok b w
 | [],i,gx,gy,b,_,_,_,h=>by
  cases gx <;> cases gy <;> simp only [List.map_nil,P4,Option.some.injEq,reduceCtorEq] at h
  simp [Op.eqFields,← h]
 | f :: fs,i,gx,gy,b,hn,hx,hy,h=>by
  cases gx with
  | nil=>simp [P4] at h
  | cons x gx =>
   cases gy with
   | nil=>simp [P4] at h
   | cons y gy =>
    simp only [List.map_cons,P4] at h
    cases ho : Nat.beq f.offset i with
    | false=>rw [ho] at h;cases h
    | true =>
    cases hl : lk tt f.type with
    | none=>rw [ho,hl] at h;cases h
    | some ti =>
    rw [ho,hl] at h
    simp only at h
    cases hs : Hn x ti.sh with
    | false=>rw [hs] at h;cases h
    | true =>
    cases hk : Zo x y with
    | none=>rw [hs,hk] at h;cases h
    | some b1 =>
    rw [hs,hk] at h
    simp only at h
    cases hr : P4 tt (i + 1) (fs.map fun f=>(f.offset,f.type)) gx gy with
    | none=>rw [hr] at h;cases h
    | some b2 =>
    rw [hr] at h
    cases h
    have ho:=Nat.eq_of_beq_eq_true ho
    have get : ∀ {vs : Array Value} {g : V} {gs : List V},RepVL I (vs.toList.drop i) (g :: gs) → ∃ v,vs[i]? = some v ∧ RepV I v g ∧ RepVL I (vs.toList.drop (i + 1)) gs:=by
     intro vs g gs hr
     cases hd : vs.toList.drop i with
     | nil=>rw [hd] at hr;exact absurd hr.1 (by simp)
     | cons v vs' =>
      rw [hd] at hr
      have h0 : vs.toList[i]? = some v:=by
       have : (vs.toList.drop i)[0]? = some v:=by rw [hd];rfl
       rw [List.getElem?_drop] at this;simpa using this
      refine ⟨v,by rw [← Array.getElem?_toList];exact h0,hr.2 0 v g rfl rfl,?_⟩
      have : vs.toList.drop (i + 1) = vs':=by
       have:=congrArg List.tail hd
       simpa [List.tail_drop] using this
      rw [this]
      exact ⟨by have:=hr.1;simpa using this,fun j v x h1 h2=>hr.2 (j + 1) v x (by simpa using h1) (by simpa using h2)⟩
    obtain ⟨vx,x1,x2,x3⟩:=get hx
    obtain ⟨vy,y1,y2,y3⟩:=get hy
    have ih:=JC htt n fs (i + 1) gx gy b2 (fun f hf=>hn f (by simp [hf])) x3 y3 hr
    have hagg:=ML (w:=w) (htt _ _ hl) hs
    have hpart : ∀ (vs : Array Value) (v : Value),vs[i]? = some v → (part f.type vs f.offset).run P w = .ok v w:=fun vs v hv=>by
     simp [part,hagg,ho,hv]
    have he:=XY (w:=w) (htt _ _ hl) n x2 y2 hk hs
    simp only [Op.eqFields,hn f (by simp),ne_eq,not_false_eq_true,if_true,Sem.run_bind,hpart _ _ x1,hpart _ _ y1,Result.andThen_ok,he]
    cases b1 with
    | true=>simpa using ih
    | false=>simp
theorem Q9 (htt : TTok P tt) {t : TypeId} (hs : Ue P t = true) {fs : List (Nat × TypeId)} (hsh : Cf P t (.struct fs)) {xo yo : Operand} {xs ys : List V} {b : Bool} {vx vy : Value} (hx : RepV I vx (.agg xs)) (hy : RepV I vy (.agg ys))
  (h : P4 tt 0 fs xs ys = some b) : (do eqGuard .eql t xo yo vx vy;binOp .eql t vx vy : Sem Value).run P w = .ok (.bool b) w ∧ (do eqGuard .neq t xo yo vx vy;binOp .neq t vx vy : Sem Value).run P w = .ok (.bool (!b)) w:=by
 simp only [Ue,Bool.and_eq_true,Bool.not_eq_true'] at hs
 obtain ⟨⟨h1,h2⟩,h3⟩:=hs
 obtain ⟨fields,hu,hmap,_⟩ : ∃ fields,P.underlying t = some (.struct fields) ∧ fields.toList.map (fun f=>(f.offset,f.type)) = fs ∧ ∀ f ∈ fields.toList,0 < P.cellsOf f.type:=hsh
 rw [hu] at h1
 simp only [List.all_eq_true,bne_iff_ne] at h1
 cases hx with
 | agg cx _ lx _ rx =>
 cases hy with
 | agg cy _ ly _ ry =>
 have hf:=JC (w:=w) (xs:=cx) (ys:=cy) (I:=I) htt 9998 fields.toList 0 xs ys b h1 ⟨by simpa using lx,fun i v d h1 h2=>rx i v d (by simpa using h1) h2⟩ ⟨by simpa using ly,fun i v d h1 h2=>ry i v d (by simpa using h1) h2⟩ (by rw [hmap];exact h)
 have hfo : P.fieldsOf t = fields:=by simp [Program.fieldsOf,hu]
 have he : (Op.equalIn 10000 t (.agg cx) (.agg cy)).run P w = .ok b w:=by
  have:=run_equalIn_struct (P:=P) w 9999 t cx cy (by rw [hfo];exact hu) h2
  rw [this,hfo];exact hf
 exact ⟨by simp only [Sem.run_bind,run_eqGuard_agg w _ _ _ _ _ _ h3,Result.andThen_ok,run_eql_struct w,he],by simp only [Sem.run_bind,run_eqGuard_agg w _ _ _ _ _ _ h3,Result.andThen_ok,run_neq_struct w,he]⟩
theorem S7 {d : D} {xs : List V} (h : Z1 d = some xs) : d = .imm (.agg xs):=by
 unfold Z1 at h
 split at h
 ·cases h;rfl
 ·cases h
theorem XJ (htt : TTok P tt) {t : TypeId} {b : Bool} {g : Option (Bool × Bool)} {ob : List Prop} {dst : Option Nat} {todo0 : List DI} (h : bM tt n env todo = some ⟨t,b,g,ob,dst,todo0⟩) (hs : Ue P t = true) (hob : A1 ob)
  (hg : G P n F Q todo0 (B0 dst (gD g (.imm (.bool b))) env) st ids) : G P n F Q todo env st ids:=by
 unfold bM at h
 split at h
 ·rename_i all o todo' h1
  split at h
  ·rename_i op t' x y t2 g' hop hgd
   split at h
   ·rename_i fs _ _ _ _ dx o1 dy o2 ht hx hy
    split at h
    ·rename_i xs ys ex ey hdo
     have ex:=S7 ex
     have ey:=S7 ey
     subst ex;subst ey
     split at h
     ·rename_i b' hv
      cases h
      refine BH (fr:=[]) (wr:=[]) (rd:=[]) h1 (C1 hgd fun I μ st1 ids1 a w hag hst hops hcx=>?_) hdo (fun c hc=>by rw [hop] at hc;cases hc) hg
      rw [hop] at hops
      obtain ⟨ho1,ho2⟩:=A5 hob
      have rx:=(BX hx ho1 hcx (hops x (by simp [Op.operands]))).immInv
      have ry:=(BX hy ho2 hcx (hops y (by simp [Op.operands]))).immInv
      have hrun : (execOp a.eval o).run P w = .ok (.value (.bool b)) w:=by
       simp only [execOp,hop]
       exact Aq (Q9 htt hs (htt.sh ht) rx ry hv).1
      rw [hrun]
      exact ⟨I,μ,hst,.imm _ _ (.bool _),Mu.le_refl μ,Ext.refl _ _ _ _⟩
     ·rename_i b' hv
      cases h
      refine BH (fr:=[]) (wr:=[]) (rd:=[]) h1 (C1 hgd fun I μ st1 ids1 a w hag hst hops hcx=>?_) hdo (fun c hc=>by rw [hop] at hc;cases hc) hg
      rw [hop] at hops
      obtain ⟨ho1,ho2⟩:=A5 hob
      have rx:=(BX hx ho1 hcx (hops x (by simp [Op.operands]))).immInv
      have ry:=(BX hy ho2 hcx (hops y (by simp [Op.operands]))).immInv
      have hrun : (execOp a.eval o).run P w = .ok (.value (.bool (!b'))) w:=by
       simp only [execOp,hop]
       exact Aq (Q9 htt hs (htt.sh ht) rx ry hv).2
      rw [hrun]
      exact ⟨I,μ,hst,.imm _ _ (.bool _),Mu.le_refl μ,Ext.refl _ _ _ _⟩
     ·cases h
    ·cases h
   ·cases h
  ·cases h
 ·cases h
end
end Go.Hk
namespace Go.Hk
section
variable {P : Program} {I J : Imm} {μ ν : Mu} {w : World}
theorem X5 {g : Value} {e : TypeId} {sz : Nat} {es : List (List V)} (h : BlkRep I μ w g (.row e sz es)) (hle : I.le J) (hb : ∀ b,Cx g b → J b = w.heap[b]?) : RepV J g (.sl es):=by
 obtain ⟨xs,hown,hrep,hsz,hone,hp⟩:=h
 rcases hown.2 with ⟨rfl,h0⟩ | ⟨gb,cap,cur,rfl,_,hheap,hle2,hcm,hcs,htake⟩
 ·have : es = []:=List.eq_nil_of_length_eq_zero h0
  subst this
  exact .slnil
 ·have hJg : J gb = some (.cells cur e (0,0)):=(hb gb rfl).trans hheap
  have hcell : ∀ (i : Nat) (c : List V) (j : Nat) (x : V),es[i]? = some c → c[j]? = some x → ∃ v,xs[i * sz + j]? = some v ∧ cur[i * sz + j]? = some v ∧ RepV I v x ∧ v.oneCell' = true:=by
   intro i c j x hi hj
   have h1:=flatten_get hsz i c j x hi hj
   have hlt : i * sz + j < xs.length:=by rw [hrep.1];exact (List.getElem?_eq_some_iff.1 h1).1
   obtain ⟨v,hv⟩ : ∃ v,xs[i * sz + j]? = some v:=⟨_,List.getElem?_eq_getElem hlt⟩
   have hr:=hrep.2 _ _ _ hv h1
   refine ⟨v,hv,?_,hr,?_⟩
   ·rw [← htake,List.getElem?_take] at hv
    split at hv
    ·simpa using hv
    ·cases hv
   ·have:=hone c (List.mem_of_getElem? hi) x (List.mem_of_getElem? hj)
    exact hr.one this
  refine .sl gb 0 _ cap sz es (fun i j=>(cur[i * sz + j]?).getD undef) rfl hle2 hcm hsz (fun i c j x hi hj=>?_) (fun i c j x hi hj=>?_)
  ·obtain ⟨v,_,h2,_,h4⟩:=hcell i c j x hi hj
   simp [Imm.cell,hJg,h2,h4]
  ·obtain ⟨v,_,h2,h3,_⟩:=hcell i c j x hi hj
   simp only [h2,Option.getD_some]
   exact h3.mono hle
end
end Go.Hk
namespace Go.Hk
def S6 (w : World) : Imm:=fun b=>w.heap[b]?
def Jr (k : D → Option V) : List D → Option (List V)
 | []=>some []
 | d :: r=>match k d,Jr k r with
  | some x,some xs=>some (x :: xs)
  | _,_=>none
def JR (k : D → List Nat) : List D → List Nat
 | []=>[]
 | d :: r=>k d ++ JR k r
def Ds (st : St) : Nat → D → Option V
 | 0,_=>none
 | f + 1,d=>match d with
  | .imm x=>some x
  | .nils=>some (.sl [])
  | .ip t cs off=>some (.ip t cs off)
  | .clip es=>some (.sl es)
  | .own id _=>match lk st id with
   | some (some (.row _ _ es))=>some (.sl es)
   | _=>none
  | .mapr id=>match lk st id with
   | some (some (.map kv))=>some (.mapv kv)
   | _=>none
  | .ref id off=>match lk st id with
   | some (some (.immb t _ xs))=>some (.ip t xs off)
   | some (some (.cells t _ ds))=>match Jr (Ds st f) ds with
    | some xs=>some (.ip t xs off)
    | none=>none
   | _=>none
  | .agg ds=>match Jr (Ds st f) ds with
   | some xs=>some (.agg xs)
   | none=>none
  | .fn g a b=>match Jr (Ds st f) a,Jr (Ds st f) b with
   | some xs,some ys=>some (.clo g xs ys)
   | _,_=>none
  | _=>none
def Du (st : St) : Nat → D → List Nat
 | 0,_=>[]
 | f + 1,d=>match d with
  | .own id _=>[id]
  | .mapr id=>[id]
  | .ref id _=>match lk st id with
   | some (some (.cells _ _ ds))=>id :: JR (Du st f) ds
   | _=>[id]
  | .agg ds=>JR (Du st f) ds
  | .fn _ a b=>JR (Du st f) a ++ JR (Du st f) b
  | _=>[]
structure Y2 where
 f : FuncId
 vs : List V
 rd : List Nat
 g : Option (Bool × Bool)
 ob : List Prop
 dst : Option Nat
 todo : List DI
def SP (n : Nat) (st : St) (all : List Oper) (o : Oper) (env : Env) (todo : List DI) (f : FuncId) (a b : List D) (args : List Operand) : Option Y2 :=
 match BP all env o with
 | some g=>match Hv (Af g) env args with
  | some (ds,ob)=>match Jr (Ds st 6) (a ++ ds ++ b),Cj n o.dst with
   | some vs,true=>match AW todo (JR (Du st 6) (a ++ ds ++ b),[]) with
    | some (_,_,todo')=>match o.dst with
     | some t=>some ⟨f,vs,JR (Du st 6) (a ++ ds ++ b),g,ob,some t,todo'⟩
     | none=>some ⟨f,vs,JR (Du st 6) (a ++ ds ++ b),g,ob,none,todo'⟩
    | none=>none
   | _,_=>none
  | none=>none
 | none=>none
def Xi (n : Nat) (env : Env) (st : St) (todo : List DI) : Option Y2 :=
 match AW todo ([],[]) with
 | some (all,o,_)=>match o.op with
  | .call { callee:=.value (.func f),args:=⟨args⟩,.. }=>SP n st all o env todo f [] [] args
  | .call { callee:=.value (.tmp t),args:=⟨args⟩,.. }=>match lk env t with
   | some (.imm (.fn (.func f)))=>SP n st all o env todo f [] [] args
   | some (.imm (.clo (.func f) a b))=>SP n st all o env todo f (a.map .imm) (b.map .imm) args
   | some (.fn (.func f) a b)=>SP n st all o env todo f a b args
   | _=>none
  | _=>none
 | none=>none
def Uf : V → Bool
 | .tup xs=>PB xs
 | x=>O0 x
section
variable {P : Program} {n : Nat} {F : List Nat} {Q : DQ} {tt : TT} {env env' : Env} {st st' : St} {ids ids' : List Nat} {k todo todo' : List DI} {I J : Imm} {μ : Mu} {w : World} {a : Act} {Pn : V → Prop} {d : D} {cx : Prop} {ob : List Prop}
theorem Vq {v : Value} {x : V} (h : Uf x = true) (hr : RepV J v x) : RepV I v x:=by
 cases hr with
 | tup cs xs hl hh =>
  refine .tup cs xs hl fun i c x hc hx=>?_
  have hm : ∀ {xs : List V} {i : Nat} {x : V},PB xs = true → xs[i]? = some x → O0 x = true:=by
   intro xs
   induction xs with
   | nil=>intro i x _ h;simp at h
   | cons y r ih =>
    intro i x hs h
    simp only [PB,Bool.and_eq_true] at hs
    cases i with
    | zero=>simp at h;subst h;exact hs.1
    | succ i=>exact ih hs.2 (by simpa using h)
  exact Vr (hm h hx) (hh i c x hc hx)
 | bool b=>exact .bool b
 | int k n=>exact .int k n
 | str s l hs=>exact .str s l hs
 | _=>simp [Uf,O0] at h
theorem FN {q : D → Option V} {μ : Mu} (hq : ∀ d x v,q d = some x → RepD I μ v d → RepV J v x) : ∀ {vs : List Value} {ds : List D} {xs : List V},Jr q ds = some xs → RepL I μ vs ds → RepVL J vs xs
 | [],ds,xs,h,hr=>by
  cases ds with
  | nil=>cases h;exact .nil
  | cons d ds=>simp [RepL] at hr
 | v :: vs,ds,xs,h,hr=>by
  cases ds with
  | nil=>simp [RepL] at hr
  | cons d ds =>
   obtain ⟨h1,h2⟩:=hr.cons
   simp only [Jr] at h
   split at h
   ·cases h;exact .mk (hq _ _ _ (by assumption) h1) (FN hq (by assumption) h2)
   ·cases h
theorem Ok (hst : StRep I μ st ids w) : ∀ (f : Nat) (d : D) (x : V) (v : Value),Ds st f d = some x → RepD I μ v d → RepV (S6 w) v x
 | 0,_,_,_,h,_=>by simp [Ds] at h
 | f + 1,d,x,v,h,hr=>by
  have hle : I.le (S6 w):=fun b o h=>hst.imm b o h
  have ih:=Ok hst f
  simp only [Ds] at h
  split at h
  ·cases h;exact hr.immInv.mono hle
  ·cases h;cases hr;exact .slnil
  ·cases h;exact hr.ipV.mono hle
  ·cases h;cases hr with
   | clip a len es h=>exact h.mono hle
  ·split at h
   ·rename_i hl
    cases h
    cases hr with
    | own id len a cap hm =>
     obtain ⟨g,hg,hb⟩:=hst.blk _ _ hl
     rw [hm] at hg;cases hg
     exact X5 hb hle fun b _=>rfl
   ·cases h
  ·split at h
   ·rename_i hl
    cases h
    cases hr with
    | mapr id b hm =>
     obtain ⟨g,hg,b',es,clock,rfl,h1,h2,h3,h4⟩:=hst.blk _ _ hl
     rw [hm] at hg;cases hg
     exact .mapv b es clock _ h1 h2 h3 (fun i e p q1 q2=>(h4 i e p q1 q2).1.mono hle) (fun i e p q1 q2=>(h4 i e p q1 q2).2.mono hle)
   ·cases h
  ·have fin : ∀ {t : TypeId} {off : Nat} {vs : Array Value} {xs : List V} {gb : Nat},v = .pointer (some ⟨gb,off,none⟩) → w.heap[gb]? = some (.cells vs t (0,0)) → RepVL (S6 w) vs.toList xs → (∀ v ∈ vs.toList,v.oneCell' = true) → RepV (S6 w) v (.ip t xs off):=by
    intro t off vs xs gb hv hheap hrep hone
    subst hv
    have:=RepV.ip (I:=S6 w) gb 0 t xs off (fun j=>(vs[j]?).getD undef) (fun j x hx=>?_) (fun j x hx=>?_)
    ·simpa using this
    ·have hj : j < vs.size:=by have:=hrep.1;have:=(List.getElem?_eq_some_iff.1 hx).1;simp at *;omega
     have : S6 w gb = some (.cells vs t (0,0)):=hheap
     simp only [Imm.cell,this,Nat.zero_add,Array.getElem?_eq_getElem hj,Option.getD_some,true_and]
     exact hone _ (by simp)
    ·have hj : j < vs.size:=by have:=hrep.1;have:=(List.getElem?_eq_some_iff.1 hx).1;simp at *;omega
     simp only [Array.getElem?_eq_getElem hj,Option.getD_some]
     exact hrep.2 j _ x (by simp [hj]) hx
   split at h
   ·rename_i hl
    cases h
    cases hr with
    | ref b id off hm =>
     obtain ⟨g,hg,hs,gb,vs,rfl,hheap,hrep,hone⟩:=hst.blk _ _ hl
     rw [hm] at hg;cases hg
     exact fin rfl hheap (hrep.mono hle) hone
   ·rename_i hl
    split at h
    ·rename_i xs hx
     cases h
     cases hr with
     | ref b id off hm =>
      obtain ⟨g,hg,hs,gb,vs,rfl,hheap,hrep,hone⟩:=hst.blk _ _ hl
      rw [hm] at hg;cases hg
      exact fin rfl hheap (FN ih hx hrep) hone
    ·cases h
   ·cases h
  ·split at h
   ·rename_i xs hx
    cases h
    cases hr with
    | agg cs ds hl h1 hh =>
     have:=FN (vs:=cs.toList) ih hx ⟨by simpa using hl,fun i v d h1 h2=>hh i v d (by simpa using h1) h2⟩
     exact .agg cs xs (by simpa using this.1) h1 fun i c x h1 h2=>this.2 i c x (by simpa using h1) h2
   ·cases h
  ·split at h
   ·rename_i xs ys hx hy
    cases h
    cases hr with
    | fn _ first cap df dc hf hc h1 h2 =>
     have q1:=FN (vs:=first.toList) ih hx ⟨by simpa using hf,fun i v d e1 e2=>h1 i v d (by simpa using e1) e2⟩
     have q2:=FN (vs:=cap.toList) ih hy ⟨by simpa using hc,fun i v d e1 e2=>h2 i v d (by simpa using e1) e2⟩
     exact .clo _ first cap xs ys (by simpa using q1.1) (by simpa using q2.1) (fun i c x h1 h2=>q1.2 i c x (by simpa using h1) h2) (fun i c x h1 h2=>q2.2 i c x (by simpa using h1) h2)
   ·cases h
  ·cases h
theorem Agree.sub {r s : List Nat} (h : Agree r st st') (hs : ∀ i ∈ s,i ∈ r) : Agree s st st':=fun i hi=>h i (hs i hi)
theorem D6 {q q' : D → Option V} {r : D → List Nat} (h : ∀ d,Agree (r d) st st' → q' d = q d) : ∀ {ds : List D},Agree (JR r ds) st st' → Jr q' ds = Jr q ds
 | [],_=>rfl
 | d :: l,ha=>by
  simp only [Jr]
  rw [h d (ha.sub fun i hi=>by simp [JR,hi]),D6 h (ha.sub fun i hi=>by simp [JR,hi])]
theorem KW {st st' : St} : ∀ (f : Nat) (d : D),Agree (Du st f d) st st' → Ds st' f d = Ds st f d
 | 0,_,_=>rfl
 | f + 1,d,h=>by
  have ih:=KW (st:=st) (st':=st') f
  cases d with
  | own id n =>
   simp only [Ds]
   rw [h id (by simp [Du])]
  | mapr id =>
   simp only [Ds]
   rw [h id (by simp [Du])]
  | ref id off =>
   have hid : lk st' id = lk st id:=h id (by simp only [Du];split <;> simp)
   simp only [Ds]
   rw [hid]
   split
   ·rfl
   ·rename_i ds hl
    rw [D6 ih (h.sub fun i hi=>by simp only [Du,hl];simp [hi])]
   ·rfl
  | agg ds =>
   simp only [Ds]
   rw [D6 ih (h.sub fun i hi=>by simp only [Du];exact hi)]
  | fn g a b =>
   simp only [Ds]
   rw [D6 ih (h.sub fun i hi=>by simp only [Du];simp [hi]),D6 ih (h.sub fun i hi=>by simp only [Du];simp [hi])]
  | _=>rfl
theorem YZ {all : List Oper} {o : Oper} {f : FuncId} {das : List D} {vs : List V} {v : V} {m : Nat} {g : Option (Bool × Bool)} (hg : BP all env o = some g) (hc : Ex P o env f das (Af g)) (hv : Jr (Ds st m) das = some vs) (hs : Uf v = true)
  (hE : Af g → PureC P f vs v) : LD P Pn all o env st (JR (Du st m) das) [] [] (gD g (.imm v)):=by
 refine C1 hg fun I μ st1 ids1 a w hag hst hops hcx=>?_
 obtain ⟨xs,h1,h2⟩:=hc I μ a w hops hcx
 rw [h2]
 have hv1 : Jr (Ds st1 m) das = some vs:=by rw [D6 (KW m) hag,hv]
 have hx:=FN (Ok hst m) hv1 h1
 have hst0 : StRep (S6 w) μ [] [] w:={ imm:=fun b o h=>h,blk:=fun i b h=>by simp [Ap,lk] at h,apart:=fun i b g k h=>by simp [Ap,lk] at h,inj:=fun i j bi bj gi gj k h=>by simp [Ap,lk] at h,nodup:=.nil,idsFree:=fun i h=>by cases h }
 have hno : ∀ b,¬ AL μ [] b:=fun b ⟨i,bi,g,h,_⟩=>by simp [Ap,lk] at h
 refine (hE hcx (S6 w) μ w xs hst0 hx.imm).mono (fun u w' hu=>?_) (fun _ _ h=>h.elim)
 obtain ⟨I',μ',r1,r2,r3,r4⟩:=hu
 have hlt : ∀ b o,I b = some o → b < w.heap.size:=fun b o h=>by
  have:=hst.imm b o h
  exact (Array.getElem?_eq_some_iff.1 this).1
 refine ⟨I,μ,hst.other r4.size (fun b o h=>r4.block b (hlt b o h) (hno b)) (fun b ho=>r4.block b (CD hst ho) (hno b)),?_,Mu.le_refl μ,{ imm:=Imm.le_refl I,os:=r4.os,tape:=r4.tape,output:=r4.output,size:=r4.size,block:=fun b hb _=>r4.block b hb (hno b),fresh:=fun _ _ h=>h,old:=fun _ _ _=>rfl }⟩
 exact .imm _ _ (Vq hs r1.immInv)
theorem L8 {o : Oper} {t : Nat} {f : FuncId} {args : List Operand} {ts : Array TypeId} {ds : List D} {df dc : List V} (ho : o.op = .call { callee:=.value (.tmp t),args:=⟨args⟩,argTypes:=ts }) (ht : lk env t = some (.imm (.clo (.func f) df dc)))
  (ha : Hv cx env args = some (ds,ob)) (hob : A1 ob) : Ex P o env f (df.map .imm ++ ds ++ dc.map .imm) cx:=by
 intro I μ a w hop hc
 rw [ho] at hop
 have hd:=evAs_rep (I:=I) (μ:=μ) (a:=a) hc ha hob fun x hx=>hop x (by simp [Op.operands,Call.operands,hx])
 have hf:=(hop (.tmp t) (by simp [Op.operands,Call.operands]) _ ht).immInv
 generalize hv : a.eval (.tmp t) = v at hf
 cases hf with
 | clo _ first cap _ _ h1 h2 h3 h4 =>
  refine ⟨first ++ (args.map a.eval).toArray ++ cap,?_,?_⟩
  ·simp only [Array.toList_append]
   have q1 : RepVL I first.toList df:=⟨by simpa using h1,fun i v d hv hd=>h3 i v d (by simpa using hv) hd⟩
   have q2 : RepVL I cap.toList dc:=⟨by simpa using h2,fun i v d hv hd=>h4 i v d (by simpa using hv) hd⟩
   exact RepL.append (RepL.append q1.imm hd) q2.imm
  ·simp only [execOp,ho,resolve,hv,Deferred.ofValue,Sem.run_bind,Sem.run_pure,Result.andThen_ok,invoke]
   congr 3
   simp
theorem Xj {all : List Oper} {o : Oper} {f : FuncId} {a b : List D} {args : List Operand} {c : Y2} (h : SP n st all o env todo f a b args = some c) :
  ∃ g ds ob vs todo',BP all env o = some g ∧ Hv (Af g) env args = some (ds,ob) ∧ Jr (Ds st 6) (a ++ ds ++ b) = some vs ∧ Cj n o.dst = true ∧ (∃ p q,AW todo (JR (Du st 6) (a ++ ds ++ b),[]) = some (p,q,todo')) ∧ c = ⟨f,vs,JR (Du st 6) (a ++ ds ++ b),g,ob,o.dst,todo'⟩:=by
 unfold SP at h
 split at h
 ·rename_i g hg
  split at h
  ·rename_i ds ob ha
   split at h
   ·rename_i vs hv hd
    split at h
    ·rename_i p q todo' hn
     split at h
     ·rename_i t hdst
      cases h
      exact ⟨g,ds,ob,vs,todo',hg,ha,hv,hd,⟨p,q,hn⟩,by rw [hdst]⟩
     ·rename_i hdst
      cases h
      exact ⟨g,ds,ob,vs,todo',hg,ha,hv,hd,⟨p,q,hn⟩,by rw [hdst]⟩
    ·cases h
   ·cases h
  ·cases h
 ·cases h
theorem HN {f : FuncId} {vs : List V} {rd : List Nat} {g : Option (Bool × Bool)} {dst : Option Nat} {todo' : List DI} {v : V} (h : Xi n env st todo = some ⟨f,vs,rd,g,ob,dst,todo'⟩) (hE : Af g → PureC P f vs v) (hs : Uf v = true) (hob : A1 ob)
  (hk : G P n F Q todo' (B0 dst (gD g (.imm v)) env) st ids) : G P n F Q todo env st ids:=by
 have fin : ∀ {all : List Oper} {o : Oper} {f' : FuncId} {a b : List D} {args : List Operand} {t : List DI},AW todo ([],[]) = some (all,o,t) → SP n st all o env todo f' a b args = some ⟨f,vs,rd,g,ob,dst,todo'⟩ → (∀ c,o.op ≠ .defer c) →
   (∀ {ds : List D} {cx : Prop} {ob : List Prop},Hv cx env args = some (ds,ob) → A1 ob → Ex P o env f' (a ++ ds ++ b) cx) → G P n F Q todo env st ids:=by
  intro all o f' a b args t hn1 hp hnd hcalls
  obtain ⟨g',ds,ob',vs',todo2,q1,q2,q3,q4,⟨p,q,q5⟩,q6⟩:=Xj hp
  obtain ⟨e1,e2⟩:=Gt hn1 q5
  subst e1;subst e2
  cases q6
  exact BH (fr:=[]) (wr:=[]) q5 (YZ q1 (hcalls q2 hob) q3 hs hE) q4 hnd hk
 unfold Xi at h
 split at h
 ·rename_i all o t hn1
  have hnd : ∀ cc,o.op = .call cc → ∀ c,o.op ≠ .defer c:=fun cc h c h'=>by rw [h] at h';cases h'
  split at h
  ·rename_i f' args ts ho
   exact fin hn1 h (hnd _ ho) fun ha hob=>by simpa using Fc ho ha hob
  ·rename_i t' args ts ho
   split at h
   ·rename_i f' ht
    exact fin hn1 h (hnd _ ho) fun ha hob=>by simpa using Eg ho ht ha hob
   ·rename_i f' a b ht
    exact fin hn1 h (hnd _ ho) fun ha hob=>L8 ho ht ha hob
   ·rename_i f' a b ht
    exact fin hn1 h (hnd _ ho) fun ha hob=>Iu ho ht ha hob
   ·cases h
  ·cases h
 ·cases h
end
end Go.Hk
namespace Go.Hk
section
variable {P : Program} {n : Nat} {F : List Nat} {Q : DQ} {env : Env} {st : St} {ids : List Nat} {k : List DI}
theorem Wd {all rest : List Oper} {o : Oper} {x : Operand} {t : TypeId} {v : V} (hg : o.guard = none) (ho : o.op = .panic x) (hx : EV env x = some (.imm (.iface t v))) (hq : MD Q (.iface t v)) : DGo P n F Q (.ops all (o :: rest) :: k) env st ids:=by
 intro b cs I μ a w items hd hc
 obtain ⟨j,is,rfl,hr,hk⟩:=HS hd
 obtain ⟨hj,_⟩:=B6 hr
 have hlen : (o :: rest).length = rest.length + 1:=rfl
 rw [hlen,List.range'_succ]
 refine BK hj (wanted_none hg) (fun c hc=>by rw [ho] at hc;cases hc) ?_
 have hon : Iw (o.looksAt all.toArray) I μ env a:=fun t _ d hl=>hc.env t d hl
 have hxr:=Bj hon x (by rw [ho];simp [Op.operands]) _ hx
 obtain ⟨u,hu,hur⟩ : ∃ u,a.eval x = .iface t u ∧ RepV I (.iface t u) (.iface t v):=by
  have:=hxr.immInv
  generalize a.eval x = y at this
  cases this with
  | iface _ u _ h=>exact ⟨u,rfl,.iface t u v h⟩
 have hrun : (execOp a.eval o).run P w = .halt (.panic (.iface t u)) w:=by simp [execOp,ho,hu,Instr.panic,goPanic]
 rw [hrun]
 have hE' : Ext I μ st w I μ [] w:={ imm:=Imm.le_refl I,os:=rfl,tape:=rfl,output:=rfl,size:=Nat.le_refl _,block:=fun _ _ _=>rfl,fresh:=fun b hb ⟨i,bi,g,h1,_⟩=>by simp [Ap,lk] at h1,old:=fun _ _ _=>rfl }
 exact ⟨.panic (.iface t v),[],[],[],I,μ,⟨_,rfl,hur⟩,hq,JI hc.imm hc.size (hc.defers.ext hE'),.refl _ _,hE',.refl _ _⟩
end
theorem CL {P : Program} {f : FuncId} {ds : List D} {st : St} {out : Out} (j : Nat) {x : V} (hj : ds[j]? = some (.imm x)) (h : Dd x → AU P f ds st out) : AU P f ds st out:=by
 intro I μ w xs hst hx
 have hlt : j < xs.toList.length:=by rw [hx.1];exact (List.getElem?_eq_some_iff.1 hj).1
 exact h (hx.2 j _ (.imm x) (List.getElem?_eq_getElem hlt) hj).immInv.ok I μ w xs hst hx
end Go.Hk
namespace Go.Hk
structure PRng where
 s : List UInt8
 id' : Nat
 ids' : List Nat
 dst : Option Nat
 todo : List DI
def bN (tt : TT) (n : Nat) (env : Env) (ids : List Nat) (todo : List DI) : Option PRng :=
 match PN todo,ids with
 | some o,id' :: ids'=>match o.guard,o.op with
  | none,.range t x=>match lk tt t,EV env x,Cj n o.dst,AW todo ([],[id']) with
   | some { sh:=.str,.. },some (.imm (.str s)),true,some (_,_,todo')=>some ⟨s,id',ids',o.dst,todo'⟩
   | _,_,_,_=>none
  | _,_=>none
 | _,_=>none
structure PNxt where
 s : List UInt8
 pos : Nat
 id : Nat
 dst : Option Nat
 todo : List DI
def YK (n : Nat) (env : Env) (st : St) (wr : Bool) (todo : List DI) : Option PNxt :=
 match PN todo with
 | some o=>match o.guard,o.op with
  | none,.next x true=>match EV env x,Cj n o.dst with
   | some (.iter id),true=>match lk st id,AW todo ([id],bif wr then [id] else []) with
    | some (some (.siter s pos)),some (_,_,todo')=>some ⟨s,pos,id,o.dst,todo'⟩
    | _,_=>none
   | _,_=>none
  | _,_=>none
 | none=>none
def C7 (s : List UInt8) (pos : Nat) : Nat × Nat:=Utf8.decode ⟨s.toArray⟩ pos
section
variable {P : Program} {n : Nat} {F : List Nat} {Q : DQ} {tt : TT} {env env' : Env} {st st' : St} {ids ids' : List Nat} {k todo todo' : List DI} {I : Imm} {μ : Mu} {w : World} {a : Act} {Pn : V → Prop} {d : D} {cx : Prop} {ob : List Prop}
theorem Gp {s : Sem Value} {v : Value} {w' : World} (h : s.run P w = .ok v w') : (do pure (.value (← s)) : Sem Next).run P w = .ok (.value v) w':=by simp [h]
theorem RepD.iterInv {v : Value} {id : Nat} (h : RepD I μ v (.iter id)) : ∃ b,v = .pointer (some ⟨b,0,none⟩) ∧ μ id = some v:=by
 cases h with
 | iter _ b h=>exact ⟨b,rfl,h⟩
theorem XI (htt : TTok P tt) {s0 : List UInt8} {i0 : Nat} {ids0 : List Nat} {d0 : Option Nat} {todo0 : List DI} (h : bN tt n env ids todo = some ⟨s0,i0,ids0,d0,todo0⟩) (hk : G P n F Q todo0 (B0 d0 (.iter i0) env) ((i0,some (.siter s0 0)) :: st) ids0) : G P n F Q todo env st ids:=by
 unfold bN at h
 split at h
 ·rename_i o id' ids' ho
  split at h
  ·rename_i t x hg hop
   split at h
   ·rename_i _ _ _ _ s all o' todo' ht hx hd h1
    cases h
    have ho' : o' = o:=CR ho h1
    subst ho'
    refine BH (fr:=[i0]) (wr:=[(i0,some (.siter s0 0))]) (rd:=[]) h1 ?_ hd (fun c hc=>by rw [hop] at hc;cases hc) hk
    intro I μ st1 ids1 a w hag hst hon
    refine ⟨fun _=>?_,fun hw=>by rw [wanted_none hg] at hw;cases hw⟩
    have hops:=Bj hon
    rw [hop] at hops
    obtain ⟨bs,e1,e2⟩:=(hops x (by simp [Op.operands]) _ hx).immInv.strInv
    have hu : P.underlying t = some .string:=htt.sh ht
    have hrun : (execOp a.eval o').run P w = .ok (.value (.pointer (some ⟨w.heap.size,0,none⟩))) (w.alloc (.stringIter bs 0)):=by
     simp only [execOp,hop,e1]
     refine Gp ?_
     simp only [Instr.range,Sem.run_bind,run_underlying hu,Result.andThen_ok,Sem.run_pure,run_newObj]
     rfl
    rw [hrun]
    obtain ⟨μ',q1,q2,q3,q4⟩:=hst.allocO (.stringIter bs 0) (.pointer (some ⟨w.heap.size,0,none⟩)) (fun _ h=>Eq.symm h) (.siter s0 0) (fun μ' _=>⟨w.heap.size,bs,rfl,Ep w _,e2⟩)
    exact ⟨I,μ',q3,.iter _ _ q1,q2,q4⟩
   ·cases h
  ·cases h
 ·cases h
theorem Ov {id pos : Nat} {s : List UInt8} {v : Value} (hst : StRep I μ st ids w) (hl : Ap st id (.siter s pos)) (hv : RepD I μ v (.iter id)) :
  ∃ b,v = .pointer (some ⟨b,0,none⟩) ∧ μ id = some v ∧ w.heap[b]? = some (.stringIter ⟨s.toArray⟩ pos):=by
 obtain ⟨b,rfl,hm⟩:=hv.iterInv
 obtain ⟨g,hg,b',bs,rfl,hheap,hs⟩:=hst.blk id _ hl
 rw [hm] at hg;cases hg
 refine ⟨b,rfl,hm,?_⟩
 rw [hheap,← hs]
theorem UK {s0 : List UInt8} {p0 i0 : Nat} {d0 : Option Nat} {todo0 : List DI} (h : YK n env st true todo = some ⟨s0,p0,i0,d0,todo0⟩) (hp : p0 < s0.length) {dc : Nat × Nat} (hdc : C7 s0 p0 = dc)
  (hk : G P n F Q todo0 (B0 d0 (.imm (.tup [.bool true,.int .i64 p0,.int .i32 dc.1])) env) ((i0,some (.siter s0 (p0 + dc.2))) :: st) ids) : G P n F Q todo env st ids:=by
 subst hdc
 unfold YK at h
 split at h
 ·rename_i o ho
  split at h
  ·rename_i x hg hop
   split at h
   ·rename_i id hx hd
    split at h
    ·rename_i s pos all o' todo' hl h1
     cases h
     have ho' : o' = o:=CR ho h1
     subst ho'
     refine BH (fr:=[]) (wr:=[(i0,some (.siter s0 (p0 + (C7 s0 p0).2)))]) (rd:=[i0]) h1 ?_ hd (fun c hc=>by rw [hop] at hc;cases hc) hk
     intro I μ st1 ids1 a w hag hst hon
     refine ⟨fun _=>?_,fun hw=>by rw [wanted_none hg] at hw;cases hw⟩
     have hops:=Bj hon
     rw [hop] at hops
     have hl1 : Ap st1 i0 (.siter s0 p0):=by unfold Ap;rw [hag i0 (by simp)];exact hl
     obtain ⟨b,e1,hm,hheap⟩:=Ov hst hl1 (hops x (by simp [Op.operands]) _ hx)
     have hget : (getObj b).run P w = .ok (.stringIter ⟨s0.toArray⟩ p0) w:=by simp [getObj,Sem.run,hheap]
     have hset : (setObj b (.stringIter ⟨s0.toArray⟩ (p0 + (C7 s0 p0).2))).run P w = .ok () { w with heap:=w.heap.setIfInBounds b (.stringIter ⟨s0.toArray⟩ (p0 + (C7 s0 p0).2)) }:=by simp [setObj,Sem.run,hheap]
     have hlt : p0 < (ByteArray.mk s0.toArray).size:=by simpa [ByteArray.size] using hp
     have hrun : (execOp a.eval o').run P w = .ok (.value (.tuple #[.bool true,.int .i64 p0,.int .i32 (C7 s0 p0).1])) { w with heap:=w.heap.setIfInBounds b (.stringIter ⟨s0.toArray⟩ (p0 + (C7 s0 p0).2)) }:=by
      simp only [execOp,hop,e1]
      refine Gp ?_
      simp only [Instr.next,Sem.run_bind,hget,Result.andThen_ok,if_pos hlt]
      have : (setObj b (.stringIter ⟨s0.toArray⟩ (p0 + (Utf8.decode ⟨s0.toArray⟩ p0).2))).run P w = _:=hset
      simp only [Sem.run_bind,this,Result.andThen_ok,Sem.run_pure]
      rfl
     rw [hrun]
     have hbl:=BA hheap
     obtain ⟨q1,q2⟩:=hst.update (blk':=.siter s0 (p0 + (C7 s0 p0).2)) (w':={ w with heap:=w.heap.setIfInBounds b (.stringIter ⟨s0.toArray⟩ (p0 + (C7 s0 p0).2)) }) hl1 hm (by rw [e1];rfl) (by simp) rfl rfl rfl
      (fun k hk=>Array.getElem?_setIfInBounds_ne (Ne.symm hk)) ⟨b,⟨s0.toArray⟩,e1,by simp [hbl],rfl⟩
     refine ⟨I,μ,q1,.imm _ _ (.tup _ _ rfl fun i c x hc hx=>?_),Mu.le_refl μ,q2⟩
     match i,hc,hx with
     | 0,hc,hx=>cases hc;cases hx;exact .bool _
     | 1,hc,hx=>cases hc;cases hx;exact .int _ _
     | 2,hc,hx=>cases hc;cases hx;exact .int _ _
     | i + 3,hc,hx=>simp at hx
    ·cases h
   ·cases h
  ·cases h
 ·cases h
theorem Zg {s0 : List UInt8} {p0 i0 : Nat} {d0 : Option Nat} {todo0 : List DI} (h : YK n env st false todo = some ⟨s0,p0,i0,d0,todo0⟩) (hp : s0.length ≤ p0)
  (hk : G P n F Q todo0 (B0 d0 (.imm (.tup [.bool false])) env) st ids) : G P n F Q todo env st ids:=by
 unfold YK at h
 split at h
 ·rename_i o ho
  split at h
  ·rename_i x hg hop
   split at h
   ·rename_i id hx hd
    split at h
    ·rename_i s pos all o' todo' hl h1
     cases h
     have ho' : o' = o:=CR ho h1
     subst ho'
     refine BH (fr:=[]) (wr:=[]) (rd:=[i0]) h1 ?_ hd (fun c hc=>by rw [hop] at hc;cases hc) hk
     intro I μ st1 ids1 a w hag hst hon
     refine ⟨fun _=>?_,fun hw=>by rw [wanted_none hg] at hw;cases hw⟩
     have hops:=Bj hon
     rw [hop] at hops
     have hl1 : Ap st1 i0 (.siter s0 p0):=by unfold Ap;rw [hag i0 (by simp)];exact hl
     obtain ⟨b,e1,hm,hheap⟩:=Ov hst hl1 (hops x (by simp [Op.operands]) _ hx)
     have hget : (getObj b).run P w = .ok (.stringIter ⟨s0.toArray⟩ p0) w:=by simp [getObj,Sem.run,hheap]
     have hlt : ¬ p0 < (ByteArray.mk s0.toArray).size:=by simpa [ByteArray.size] using hp
     have hrun : (execOp a.eval o').run P w = .ok (.value (.tuple #[.bool false])) w:=by
      simp only [execOp,hop,e1]
      refine Gp ?_
      simp only [Instr.next,Sem.run_bind,hget,Result.andThen_ok,if_neg hlt,Sem.run_pure]
     rw [hrun]
     refine ⟨I,μ,hst,.imm _ _ (.tup _ _ rfl fun i c x hc hx=>?_),Mu.le_refl μ,Ext.refl _ _ _ _⟩
     match i,hc,hx with
     | 0,hc,hx=>cases hc;cases hx;exact .bool _
     | i + 1,hc,hx=>simp at hx
    ·cases h
   ·cases h
  ·cases h
 ·cases h
end
end Go.Hk
namespace Go.Hk
open Go.MapKept
def RQ : V → V → Bool
 | .str a,.str b=>a == b
 | .int _ a,.int _ b=>a == b
 | .bool a,.bool b=>a == b
 | _,_=>false
def By : List (V × V) → V → Option V
 | [],_=>none
 | (k,d) :: r,x=>if RQ x k then some d else By r x
def CY : List (V × V) → V → V → List (V × V)
 | [],x,d=>[(x,d)]
 | (k,e) :: r,x,d=>if RQ x k then (x,d) :: r else (k,e) :: CY r x d
def descOf : Sh → Option TypeDesc
 | .str=>some .string
 | .int k=>some (.int k)
 | _=>none
def G0 : Sh → V → Bool
 | .str,.str _=>true
 | .int k,.int k' _=>decide (k' = k)
 | _,_=>false
section
variable {P : Program} {n : Nat} {F : List Nat} {Q : DQ} {tt : TT} {env env' : Env} {st st' : St} {ids ids' : List Nat} {k todo todo' : List DI} {I : Imm} {μ : Mu} {w : World} {a : Act} {Pn : V → Prop} {d : D} {cx : Prop} {ob : List Prop}
theorem KB {t : TypeId} {sh : Sh} {dd : TypeDesc} (h : descOf sh = some dd) (hs : Cf P t sh) : P.underlying t = some dd:=by
 cases sh <;> simp only [descOf,reduceCtorEq,Option.some.injEq] at h <;> subst h <;> exact hs
theorem FP {sh : Sh} {dd : TypeDesc} {v : Value} {x : V} (h : descOf sh = some dd) (hk : G0 sh x = true) (hv : RepV I v x) : IsKey dd v:=by
 cases sh <;> simp only [descOf,reduceCtorEq,Option.some.injEq] at h <;> subst h <;> cases x <;> simp [G0] at hk <;> cases hv <;> simp [IsKey,hk]
theorem Zn {sh : Sh} {v u : Value} {x y : V} (hx : G0 sh x = true) (hy : G0 sh y = true) (hv : RepV I v x) (hu : RepV I u y) : RQ x y = true ↔ v = u:=by
 cases x with
 | str a =>
  cases y with
  | str b =>
   obtain ⟨s,rfl,rfl⟩:=hv.strInv
   obtain ⟨t,rfl,rfl⟩:=hu.strInv
   simp only [RQ,beq_iff_eq,Value.string.injEq]
   constructor
   ·intro h
    obtain ⟨⟨s⟩⟩:=s
    obtain ⟨⟨t⟩⟩:=t
    simp at h
    rw [h]
   ·intro h;rw [h]
  | _=>cases sh <;> simp [G0] at hx hy
 | int k i =>
  cases y with
  | int k' j =>
   obtain rfl:=hv.intInv
   obtain rfl:=hu.intInv
   cases sh <;> simp [G0] at hx hy
   subst hx;subst hy
   simp [RQ]
  | _=>cases sh <;> simp [G0] at hx hy
 | _=>cases sh <;> simp [G0] at hx
theorem J9 {sh : Sh} {dd : TypeDesc} {v : Value} {x : V} (hd : descOf sh = some dd) (hk : G0 sh x = true) (hv : RepV I v x) : ∀ (l : List MapEntry) (kv : List (V × V)) (i : Nat),l.length = kv.length →
  (∀ (j : Nat) (e : MapEntry) (p : V × V),l[j]? = some e → kv[j]? = some p → RepV I e.key p.1 ∧ RepV I e.val p.2) → (∀ p ∈ kv,G0 sh p.1 = true) →
  (Instr.findNow dd v l i = some none ∧ By kv x = none ∧ (∀ y,CY kv x y = kv ++ [(x,y)]) ∧ ∀ e ∈ l,e.key ≠ v) ∨
   ∃ j e y,Instr.findNow dd v l i = some (some (i + j,e.val)) ∧ l[j]? = some e ∧ e.key = v ∧ By kv x = some y ∧ RepV I e.val y ∧ ∀ z,CY kv x z = kv.set j (x,z)
 | [],[],i,_,_,_=>.inl ⟨rfl,rfl,fun _=>rfl,fun _ h=>by cases h⟩
 | [],_ :: _,_,h,_,_=>by simp at h
 | _ :: _,[],_,h,_,_=>by simp at h
 | e :: l,p :: kv,i,hl,h,hkv=>by
  obtain ⟨h1,h2⟩:=h 0 e p rfl rfl
  obtain ⟨y,dy⟩:=p
  have hky:=hkv (y,dy) (by simp)
  obtain ⟨r,hr,hiff⟩:=sameNow_of_keys (FP hd hk hv) (FP hd hky h1)
  have he:=Zn hk hky hv h1
  cases r with
  | true =>
   have hvy:=hiff.1 rfl
   have:=he.2 hvy
   exact .inr ⟨0,e,dy,by simp [Instr.findNow,hr],rfl,hvy.symm,by simp [By,this],h2,fun z=>by simp [CY,this]⟩
  | false =>
   have hne : v ≠ e.key:=fun q=>by have:=hiff.2 q;cases this
   have hf : RQ x y = false:=by
    cases hq : RQ x y with
    | false=>rfl
    | true=>exact absurd (he.1 hq) hne
   rcases J9 hd hk hv l kv (i + 1) (by simpa using hl) (fun j e' p' a b=>h (j + 1) e' p' (by simpa using a) (by simpa using b)) (fun p' hp=>hkv p' (by simp [hp])) with ⟨q1,q2,q3,q4⟩ | ⟨j,e',y',q1,q2,q3,q4,q5,q6⟩
   ·refine .inl ⟨by simp [Instr.findNow,hr,q1],by simp [By,hf,q2],fun z=>by simp [CY,hf,q3],fun e' he'=>?_⟩
    rcases List.mem_cons.1 he' with rfl | he'
    ·exact fun q=>hne q.symm
    ·exact q4 e' he'
   ·exact .inr ⟨j + 1,e',y',by simp [Instr.findNow,hr,q1];omega,by simpa using q2,q3,by simp [By,hf,q4],q5,fun z=>by simp [CY,hf,q6]⟩
def pmk (n : Nat) (ids : List Nat) (todo : List DI) : Option (Nat × List Nat × Option Nat × List DI) :=
 match PN todo,ids with
 | some o,id' :: ids'=>match o.guard,o.op with
  | none,.makeMap _ none=>match Cj n o.dst,AW todo ([],[id']) with
   | true,some (_,_,todo')=>some (id',ids',o.dst,todo')
   | _,_=>none
  | _,_=>none
 | _,_=>none
theorem LX {i0 : Nat} {ids0 : List Nat} {d0 : Option Nat} {todo0 : List DI} (h : pmk n ids todo = some (i0,ids0,d0,todo0)) (hk : G P n F Q todo0 (B0 d0 (.mapr i0) env) ((i0,some (.map [])) :: st) ids0) : G P n F Q todo env st ids:=by
 unfold pmk at h
 split at h
 ·rename_i o id' ids' ho
  split at h
  ·rename_i t hg hop
   split at h
   ·rename_i all o' todo' hd h1
    cases h
    have ho' : o' = o:=CR ho h1
    subst ho'
    refine BH (fr:=[i0]) (wr:=[(i0,some (.map []))]) (rd:=[]) h1 ?_ hd (fun c hc=>by rw [hop] at hc;cases hc) hk
    intro I μ st1 ids1 a w hag hst hon
    refine ⟨fun _=>?_,fun hw=>by rw [wanted_none hg] at hw;cases hw⟩
    have hrun : (execOp a.eval o').run P w = .ok (.value (.map (some w.heap.size))) (w.alloc (.map #[] 0)):=by
     simp only [execOp,hop,Option.map_none]
     refine Gp ?_
     simp only [Instr.makeMap,Sem.run_bind,Result.andThen_ok,Sem.run_pure,run_newObj]
     rfl
    rw [hrun]
    obtain ⟨μ',q1,q2,q3,q4⟩:=hst.allocO (.map #[] 0) (.map (some w.heap.size)) (fun _ h=>Eq.symm h) (.map []) (fun μ' _=>⟨w.heap.size,#[],0,rfl,Ep w _,rfl,stamped_empty 0,fun i e p h=>by simp at h⟩)
    exact ⟨I,μ',q3,.mapr _ _ q1,q2,q4⟩
   ·cases h
  ·cases h
 ·cases h
theorem U8 {id : Nat} {kv : List (V × V)} {v : Value} (hst : StRep I μ st ids w) (hl : Ap st id (.map kv)) (hv : RepD I μ v (.mapr id)) :
  ∃ b es clock,v = .map (some b) ∧ μ id = some v ∧ w.heap[b]? = some (.map es clock) ∧ es.size = kv.length ∧ Stamped es clock ∧ ∀ (i : Nat) (e : MapEntry) (p : V × V),es[i]? = some e → kv[i]? = some p → RepV I e.key p.1 ∧ RepV I e.val p.2:=by
 cases hv with
 | mapr _ b hm =>
  obtain ⟨g,hg,b',es,clock,rfl,h1,h2,h3,h4⟩:=hst.blk id _ hl
  rw [hm] at hg;cases hg
  exact ⟨b,es,clock,rfl,hm,h1,h2,h3,h4⟩
def WO : Op → Option (TypeId × Operand × Operand × Operand)
 | .mapUpdate t m x y=>some (t,m,x,y)
 | .insert t m x y=>some (t,m,x,y)
 | _=>none
theorem Ow {op : Op} {t : TypeId} {m x y : Operand} (h : WO op = some (t,m,x,y)) : (op = .mapUpdate t m x y ∨ op = .insert t m x y) ∧ ∀ z ∈ [m,x,y],z ∈ op.operands.toList:=by
 unfold WO at h
 split at h
 ·cases h;exact ⟨.inl rfl,by simp [Op.operands]⟩
 ·cases h;exact ⟨.inr rfl,by simp [Op.operands]⟩
 ·cases h
def ZA (tt : TT) (env : Env) (st : St) (todo : List DI) : Option (Nat × List (V × V) × Sh × V × V × List DI) :=
 match PN todo with
 | some o=>match o.guard,WO o.op with
  | none,some (t,m,x,y)=>match o.dst,lk tt t,EV env m,EV env x,EV env y with
   | none,some { sh:=.map kt _,.. },some (.mapr id),some (.imm kx),some dy=>match lk tt kt,lk st id,AW todo ([id],[id]),bE dy with
    | some i,some (some (.map kv)),some (_,_,todo'),some vy=>some (id,kv,i.sh,kx,vy,todo')
    | _,_,_,_=>none
   | _,_,_,_,_=>none
  | _,_=>none
 | none=>none
theorem T4 (htt : TTok P tt) {i0 : Nat} {kv : List (V × V)} {sh : Sh} {kx : V} {dy : V} {todo0 : List DI} {dd : TypeDesc} (h : ZA tt env st todo = some (i0,kv,sh,kx,dy,todo0)) (hd : descOf sh = some dd) (hk : G0 sh kx = true)
  (hkv : ∀ p ∈ kv,G0 sh p.1 = true) (hg : G P n F Q todo0 env ((i0,some (.map (CY kv kx dy))) :: st) ids) : G P n F Q todo env st ids:=by
 unfold ZA at h
 split at h
 ·rename_i o ho
  split at h
  ·rename_i t m x y hgd hop
   split at h
   ·rename_i kt et _ _ _ _ id kx' dy' hdst ht hm hx hy
    split at h
    ·rename_i i kv' all o' todo' vy hi hl h1 hng
     cases h
     have ho' : o' = o:=CR ho h1
     subst ho'
     have hg : G P n F Q todo0 (B0 o'.dst .undef env) ((i0,some (.map (CY kv kx dy))) :: st) ids:=by rw [hdst];exact hg
     refine BH (fr:=[]) (wr:=[(i0,some (.map (CY kv kx dy)))]) (rd:=[i0]) h1 ?_ (by simp [Cj,hdst]) (fun c hc=>by rcases (Ow hop).1 with e | e <;> rw [e] at hc <;> cases hc) hg
     intro I μ st1 ids1 a w hag hst hon
     refine ⟨fun _=>?_,fun hw=>by rw [wanted_none hgd] at hw;cases hw⟩
     have hops:=Bj hon
     obtain ⟨hop2,hop3⟩:=Ow hop
     have hl1 : Ap st1 i0 (.map kv):=by unfold Ap;rw [hag i0 (by simp)];exact hl
     obtain ⟨b,es,clock,e1,hmu,hheap,hlen,hst2,hent⟩:=U8 hst hl1 (hops m (hop3 m (by simp)) _ hm)
     have rx:=(hops x (hop3 x (by simp)) _ hx).immInv
     have ry:=P6 hng (hops y (hop3 y (by simp)) _ hy)
     have hu : P.underlying t = some (.map kt et):=htt.sh ht
     have hkd : P.underlying kt = some dd:=KB hd (htt.sh hi)
     have hik:=FP hd hk rx
     have hbl:=BA hheap
     have fin : ∀ (es' : Array MapEntry) (c' : Nat),(Instr.mapUpdate t (.map (some b)) (a.eval x) (a.eval y)).run P w = .ok () { w with heap:=w.heap.setIfInBounds b (.map es' c') } → es'.size = (CY kv kx dy).length → Stamped es' c' →
       (∀ (i : Nat) (e : MapEntry) (p : V × V),es'[i]? = some e → (CY kv kx dy)[i]? = some p → RepV I e.key p.1 ∧ RepV I e.val p.2) →
       valX P ((execOp a.eval o').run P w) (fun v w'=>∃ I' μ',StRep I' μ' ([(i0,some (.map (CY kv kx dy)))] ++ st1) ids1 w' ∧ RepD I' μ' v .undef ∧ μ.le μ' ∧ Ext I μ st1 w I' μ' ([(i0,some (.map (CY kv kx dy)))] ++ st1) w') (Ku (MD Q) I μ st1 w):=by
      intro es' c' hr h2 h3 h4
      have hrun : (execOp a.eval o').run P w = .ok .skip { w with heap:=w.heap.setIfInBounds b (.map es' c') }:=by
       rcases hop2 with e | e <;> (simp only [execOp,e,e1];simp [hr])
      rw [hrun]
      obtain ⟨q1,q2⟩:=hst.update (blk':=.map (CY kv kx dy)) (w':={ w with heap:=w.heap.setIfInBounds b (.map es' c') }) hl1 hmu (by rw [e1];rfl) (by simp) rfl rfl rfl
       (fun k hk=>Array.getElem?_setIfInBounds_ne (Ne.symm hk)) ⟨b,es',c',e1,by simp [hbl],h2,h3,h4⟩
      exact ⟨I,μ,q1,.undef _,Mu.le_refl μ,q2⟩
     rcases J9 (I:=I) hd hk rx es.toList kv 0 (by simpa using hlen) (fun j e p h1 h2=>hent j e p (by simpa using h1) h2) hkv with ⟨q1,_,q3,q4⟩ | ⟨j,e,y',q1,q2,q3,_,q5,q6⟩
     ·refine fin _ _ ?_ (by rw [q3];simp [hlen]) (stamped_push hst2 (key:=a.eval x) (val:=a.eval y) q4) fun i e p h1 h2=>?_
      ·simp [Instr.mapUpdate,run_underlying hu,MapKept.run_getObj_map hheap,MapKept.run_checkKey hkd hik,MapKept.run_findKey hkd q1,MapKept.run_setObj_map _ hheap,Result.andThen]
      ·rw [q3] at h2
       rw [Array.getElem?_push] at h1
       rw [List.getElem?_append] at h2
       by_cases hi : i = es.size
       ·rw [if_pos hi] at h1;cases h1
        rw [if_neg (by omega)] at h2
        rw [show i - kv.length = 0 by omega] at h2
        cases h2
        exact ⟨rx,ry⟩
       ·rw [if_neg hi] at h1
        have:=(Array.getElem?_eq_some_iff.1 h1).1
        rw [if_pos (by omega)] at h2
        exact hent i e p h1 h2
     ·have hj : es[j]? = some e:=by simpa using q2
      have hkey : ∀ e',es[j]? = some e' → ({ e' with key:=a.eval x,val:=a.eval y } : MapEntry).key = e'.key:=fun e' he'=>by rw [hj] at he';cases he';exact q3.symm
      refine fin (es.modify j fun e=>{ e with key:=a.eval x,val:=a.eval y }) clock ?_ (by rw [q6];simp [hlen]) (stamped_modify hst2 _ _ (fun _ _=>rfl) (fun e' _ he'=>hkey e' he')) fun i e' p h1 h2=>?_
      ·simp [Instr.mapUpdate,run_underlying hu,MapKept.run_getObj_map hheap,MapKept.run_checkKey hkd hik,MapKept.run_findKey hkd q1,hj,q3,MapKept.run_keyThatStays hik,MapKept.run_setObj_map _ hheap,Result.andThen]
      ·rw [q6] at h2
       rw [Array.getElem?_modify] at h1
       rw [List.getElem?_set] at h2
       by_cases hi : j = i
       ·subst hi
        rw [if_pos rfl,hj] at h1
        cases h1
        rw [if_pos rfl] at h2
        split at h2
        ·cases h2;exact ⟨rx,ry⟩
        ·cases h2
       ·rw [if_neg hi] at h1 h2
        exact hent i e' p h1 h2
    ·cases h
   ·cases h
  ·cases h
 ·cases h
structure PMl where
 kv : List (V × V)
 sh : Sh
 kx : V
 et : TypeId
 two : Bool
 g : Option (Bool × Bool)
 ob : List Prop
 t : Nat
 todo : List DI
def Xh (tt : TT) (n : Nat) (env : Env) (st : St) (nm : Nat) (todo : List DI) : Option PMl :=
 match AW todo ([nm],[]) with
 | some (all,o,todo')=>match o.op,BP all env o with
  | .lookup t m k two,some g=>match lk tt t,Kb (Af g) env m,Kb (Af g) env k with
   | some { sh:=.map kt et,.. },some (.mapr id,o1),some (.imm kx,o2)=>match Nat.beq id nm,lk tt kt,lk st id,Cj n o.dst with
    | true,some i,some (some (.map kv)),true=>match o.dst with
     | some t=>some ⟨kv,i.sh,kx,et,two,g,FW o1 o2,t,todo'⟩
     | none=>none
    | _,_,_,_=>none
   | _,_,_=>none
  | _,_=>none
 | none=>none
theorem D1 {t : TypeId} {z : Value} (h : (P.info? t).bind (·.zero) = some z) : (zeroValue t).run P w = .ok z w:=by
 cases hi : P.info? t with
 | none=>rw [hi] at h;cases h
 | some inf =>
  rw [hi] at h
  have h : inf.zero = some z:=h
  simp [zeroValue,typeInfo,hi,h]
def CU (two : Bool) (kv : List (V × V)) (x : V) (zd : V) : D :=
 let r:=match By kv x with
  | some y=>(y,true)
  | none=>(zd,false)
 if two then .imm (.tup [r.1,.bool r.2]) else .imm r.1
theorem UL (htt : TTok P tt) (nm : Nat) {kv : List (V × V)} {sh : Sh} {kx : V} {et : TypeId} {two : Bool} {g : Option (Bool × Bool)} {ob : List Prop} {t0 : Nat} {todo0 : List DI} {dd : TypeDesc} {z : Value} {zd : V} {dr : D}
  (h : Xh tt n env st nm todo = some ⟨kv,sh,kx,et,two,g,ob,t0,todo0⟩) (hd : descOf sh = some dd) (hk : G0 sh kx = true) (hkv : ∀ p ∈ kv,G0 sh p.1 = true) (hob : A1 ob)
  (hz : (P.info? et).bind (·.zero) = some z) (hzr : ∀ I,RepV I z zd) (hdr : CU two kv kx zd = dr) (hg : G P n F Q todo0 ((t0,gD g dr) :: env) st ids) : G P n F Q todo env st ids:=by
 unfold Xh at h
 split at h
 ·rename_i all o todo' h1
  split at h
  ·rename_i t m k two' g' hop hgd
   split at h
   ·rename_i kt et' _ _ _ _ id o1 kx' o2 ht hm hx
    split at h
    ·rename_i i kv' hid hi hl hdo
     split at h
     ·rename_i t' hdst
      cases h
      have hid:=Nat.eq_of_beq_eq_true hid
      subst hid
      subst hdr
      have hg : G P n F Q todo0 (B0 o.dst (gD g (CU two kv kx zd)) env) st ids:=by rw [hdst];exact hg
      refine BH (fr:=[]) (wr:=[]) (rd:=[id]) h1 (C1 hgd fun I μ st1 ids1 a w hag hst hops hcx=>?_) hdo (fun c hc=>by rw [hop] at hc;cases hc) hg
      rw [hop] at hops
      obtain ⟨ho1,ho2⟩:=A5 hob
      have rm:=BX hm ho1 hcx (hops m (by simp [Op.operands]))
      have rx:=(BX hx ho2 hcx (hops k (by simp [Op.operands]))).immInv
      have hl1 : Ap st1 id (.map kv):=by unfold Ap;rw [hag id (by simp)];exact hl
      obtain ⟨b,es,clock,e1,hmu,hheap,hlen,hst2,hent⟩:=U8 hst hl1 rm
      have hu : P.underlying t = some (.map kt et):=htt.sh ht
      have hkd : P.underlying kt = some dd:=KB hd (htt.sh hi)
      have hik:=FP hd hk rx
      have fin : ∀ (v : Value) (ok : Bool) (d : V),(Instr.lookup t (.map (some b)) (a.eval k) two).run P w = .ok (if two then .tuple #[v,.bool ok] else v) w → RepV I v d →
        CU two kv kx zd = (if two then .imm (.tup [d,.bool ok]) else .imm d) →
        valX P ((execOp a.eval o).run P w) (fun u w'=>∃ I' μ',StRep I' μ' st1 ids1 w' ∧ RepD I' μ' u (CU two kv kx zd) ∧ μ.le μ' ∧ Ext I μ st1 w I' μ' st1 w') (Ku (MD Q) I μ st1 w):=by
       intro v ok d hr hv he
       have hrun : (execOp a.eval o).run P w = .ok (.value (if two then .tuple #[v,.bool ok] else v)) w:=by
        simp only [execOp,hop,e1]
        exact Aq hr
       rw [hrun]
       refine ⟨I,μ,hst,?_,Mu.le_refl μ,Ext.refl _ _ _ _⟩
       rw [he]
       cases two with
       | false=>exact .imm _ _ hv
       | true =>
        refine .imm _ _ (.tup _ _ rfl fun i c x hc hx=>?_)
        match i,hc,hx with
        | 0,hc,hx=>cases hc;cases hx;exact hv
        | 1,hc,hx=>cases hc;cases hx;exact .bool _
        | i + 2,hc,hx=>simp at hx
      rcases J9 (I:=I) hd hk rx es.toList kv 0 (by simpa using hlen) (fun j e p h1 h2=>hent j e p (by simpa using h1) h2) hkv with ⟨q1,q2,_,_⟩ | ⟨j,e,y',q1,q2,q3,q4,q5,q6⟩
      ·refine fin z false zd ?_ (hzr I) (by simp [CU,q2])
       simp [Instr.lookup,run_underlying hu,MapKept.run_getObj_map hheap,MapKept.run_checkKey hkd hik,MapKept.run_findKey hkd q1,D1 hz,Result.andThen]
      ·refine fin e.val true y' ?_ q5 (by simp [CU,q4])
       simp [Instr.lookup,run_underlying hu,MapKept.run_getObj_map hheap,MapKept.run_checkKey hkd hik,MapKept.run_findKey hkd q1,Result.andThen]
     ·cases h
    ·cases h
   ·cases h
  ·cases h
 ·cases h
end
end Go.Hk
namespace Go.Hk
mutual
def MU (id : Nat) (es : List (V × V)) : D → D
 | .mapr i=>bif Nat.beq i id then .imm (.mapv es) else .mapr i
 | .agg cs=>FL (NU id es cs)
 | .tup cs=>.tup (NU id es cs)
 | .fn f a b=>.fn f (NU id es a) (NU id es b)
 | .iface t d=>match MU id es d with
  | .imm x=>.imm (.iface t x)
  | d'=>.iface t d'
 | .guard c w d=>.guard c w (MU id es d)
 | d=>d
def NU (id : Nat) (es : List (V × V)) : List D → List D
 | []=>[]
 | d :: r=>MU id es d :: NU id es r
end
def V8 (id : Nat) (es : List (V × V)) : Env → Env
 | []=>[]
 | (t,d) :: r=>(t,MU id es d) :: V8 id es r
def YS (id : Nat) (es : List (V × V)) : Blk → Blk
 | .cells t sz cs=>Lm t sz (NU id es cs)
 | b=>b
def NT (id : Nat) (es : List (V × V)) : St → St
 | []=>[]
 | (i,some b) :: r=>(i,some (YS id es b)) :: NT id es r
 | (i,none) :: r=>(i,none) :: NT id es r
theorem En (id : Nat) (es : List (V × V)) : ∀ l : List D,NU id es l = l.map (MU id es)
 | []=>rfl
 | d :: r=>by simp [NU,En id es r]
section
variable {P : Program} {n : Nat} {F : List Nat} {Q : DQ} {tt : TT} {env : Env} {st : St} {ids : List Nat} {todo : List DI} {I J : Imm} {μ : Mu} {w : World} {id : Nat} {es : List (V × V)} {g : Value}
theorem RepD.mfr {v : Value} {d : D} (h : RepD I μ v d) (hIJ : I.le J) (hg : μ id = some g) (hr : RepV J g (.mapv es)) : RepD J μ v (MU id es d):=by
 have at_ : ∀ {l : List D} {i : Nat} {x : D},(NU id es l)[i]? = some x → ∃ y,l[i]? = some y ∧ x = MU id es y:=by
  intro l i x hx
  rw [En,List.getElem?_map] at hx
  cases hl : l[i]? with
  | none=>rw [hl] at hx;cases hx
  | some y=>rw [hl] at hx;cases hx;exact ⟨y,rfl,rfl⟩
 induction h with
 | undef v=>exact .undef v
 | imm v x hx=>exact .imm v x (hx.mono hIJ)
 | nils=>exact .nils
 | ref b id off hm=>exact .ref b id off hm
 | ip b o t cs off vs hcell hrep=>exact (RepD.ip b o t cs off vs hcell hrep).mono hIJ (Mu.le_refl μ)
 | agg cs ds hl h1 _ ih =>
  have : RepD J μ (.agg cs.toList.toArray) (FL (NU id es ds)):=HH ⟨by rw [En,List.length_map,← hl];simp,fun i c x hc hx=>by
   obtain ⟨y,hy,rfl⟩:=at_ hx
   exact ih i c y (by simpa using hc) hy⟩ h1
  simpa [MU] using this
 | tup cs ds hl _ ih =>
  refine .tup cs _ (by rw [En,List.length_map,hl]) fun i c x hc hx=>?_
  obtain ⟨y,hy,rfl⟩:=at_ hx
  exact ih i c y hc hy
 | own i len a cap hm=>exact .own i len a cap hm
 | elp b id len cap k sz f hm=>exact .elp b id len cap k sz f hm
 | mapr i b hm =>
  simp only [MU]
  cases hb : Nat.beq i id with
  | false=>exact .mapr i b hm
  | true =>
   rw [Nat.eq_of_beq_eq_true hb,hg] at hm
   cases hm
   exact .imm _ _ hr
 | iter id b hm=>exact .iter id b hm
 | fn f first cap df dc hf hc _ _ ih1 ih2 =>
  refine .fn f first cap _ _ (by rw [En,List.length_map,hf]) (by rw [En,List.length_map,hc]) (fun i c x h1 h2=>?_) (fun i c x h1 h2=>?_)
  ·obtain ⟨y,hy,rfl⟩:=at_ h2
   exact ih1 i c y h1 hy
  ·obtain ⟨y,hy,rfl⟩:=at_ h2
   exact ih2 i c y h1 hy
 | iface t v d _ ih =>
  simp only [MU]
  split
  ·rename_i x hx
   rw [hx] at ih
   exact .imm _ _ (.iface t v x ih.immInv)
  ·exact .iface t v _ ih
 | guard c want v d _ hu ih=>exact .guard c want v _ ih hu
 | clip a len es hr=>exact .clip a len es (hr.mono hIJ)
 | slc b id off len cap hm hl hx=>exact .slc b id off len cap hm hl hx
 | yld b id hm=>exact .yld b id hm
 | raw v h=>exact .raw v h
 | hv v id i vs bs hm hi h1=>exact .hv v id i vs bs hm hi h1
theorem BlkRep.mfr {gb : Value} {blk : Blk} (h : BlkRep I μ w gb blk) (hIJ : I.le J) (hg : μ id = some g) (hr : RepV J g (.mapv es)) : BlkRep J μ w gb (YS id es blk):=by
 cases blk with
 | cells t sz cs =>
  obtain ⟨hs,b,vs,rfl,h2,h3,h4⟩:=h
  refine E1 h2 ⟨by rw [En,List.length_map,h3.1],fun i v x hv hx=>?_⟩ h4 (by rw [En,List.length_map,hs])
  rw [En,List.getElem?_map] at hx
  cases hl : cs[i]? with
  | none=>rw [hl] at hx;cases hx
  | some y=>rw [hl] at hx;cases hx;exact (h3.2 i v y hv hl).mfr hIJ hg hr
 | _=>exact h.mono hIJ (Mu.le_refl μ)
theorem Kz {i : Nat} {b : Blk} : ∀ {st : St},Ap (NT id es st) i b → ∃ b0,Ap st i b0 ∧ b = YS id es b0
 | [],h=>by simp [NT,Ap,lk] at h
 | (k,some x) :: r,h=>by
  simp only [NT] at h
  rcases AB.1 h with ⟨h1,h2⟩ | ⟨h1,h2⟩
  ·exact ⟨x,by unfold Ap;rw [h1,lk_cons_self],h2⟩
  ·obtain ⟨b0,q1,q2⟩:=Kz h2
   exact ⟨b0,AB.2 (.inr ⟨h1,q1⟩),q2⟩
 | (k,none) :: r,h=>by
  simp only [NT] at h
  obtain ⟨h1,h2⟩:=BN.1 h
  obtain ⟨b0,q1,q2⟩:=Kz h2
  exact ⟨b0,BN.2 ⟨h1,q1⟩,q2⟩
theorem L2 (id : Nat) (hl : lk st id = some (some (.map es))) (h : DGo P n F Q todo (V8 id es env) ((id,none) :: NT id es st) ids) : DGo P n F Q todo env st ids:=by
 intro b cs I μ a w items hd hc
 have hlive : Ap st id (.map es):=hl
 obtain ⟨g,hg,gb,ms,clock,rfl,hheap,hsz,hstm,hent⟩:=hc.blk id _ hlive
 have hno:=(hc.apart id _ _ gb hlive hg rfl).1
 obtain ⟨J,hJ,hJr,hJo⟩ : ∃ J : Imm,I.le J ∧ RepV J (.map (some gb)) (.mapv es) ∧ (∀ k o,J k = some o → (I k = some o ∨ (Cx (.map (some gb)) k ∧ w.heap[k]? = some o))):=by
  have hle' : I.le (fun k=>if k = gb then some (.map ms clock) else I k):=fun k o h=>by
   have : k ≠ gb:=fun e=>by rw [e,hno] at h;cases h
   simp [this,h]
  refine ⟨_,hle',.mapv gb ms clock es (by simp) hsz hstm (fun i e p h1 h2=>(hent i e p h1 h2).1.mono hle') (fun i e p h1 h2=>(hent i e p h1 h2).2.mono hle'),fun k o h=>?_⟩
  by_cases hk : k = gb
  ·subst hk;simp at h;subst h;exact .inr ⟨rfl,hheap⟩
  ·simp [hk] at h;exact .inl h
 have hst : ∀ i bi,Ap ((id,none) :: NT id es st) i bi → i ≠ id ∧ ∃ b0,Ap st i b0 ∧ bi = YS id es b0:=fun i bi h=>by
  obtain ⟨h1,h2⟩:=BN.1 h
  exact ⟨h1,Kz h2⟩
 have hE : Ext I μ st w J μ ((id,none) :: NT id es st) w :=
  {imm:=hJ,os:=rfl,tape:=rfl,output:=rfl,size:=Nat.le_refl _
   block:=fun _ _ _=>rfl
   fresh:=fun k _ ⟨i,bi,gi,h1,h2,h3⟩=>let ⟨_,b0,q,_⟩:=hst i bi h1;⟨i,b0,gi,q,h2,h3⟩
   old:=fun k _ ho=>by
      cases hJk : J k with
      | none =>
       cases hIk : I k with
       | none=>rfl
       | some o=>rw [hJ k o hIk] at hJk;cases hJk
      | some o =>
       rcases hJo k o hJk with h | ⟨h,_⟩
       ·exact h.symm
       ·exact absurd ⟨id,_,_,hlive,hg,h⟩ ho }
 have hc' : Conc n J μ (V8 id es env) ((id,none) :: NT id es st) ids a w :=
  {imm:=fun k o h=>(hJo k o h).elim (fun h=>hc.imm k o h) fun h=>h.2
   blk:=fun i bi hli=>by
    obtain ⟨_,b0,h2,rfl⟩:=hst i bi hli
    obtain ⟨gi,hgi,hr⟩:=hc.blk i b0 h2
    exact ⟨gi,hgi,hr.mfr hJ hg hJr⟩
   apart:=fun i bi gi k hli hgi hk=>by
    obtain ⟨h1,b0,h2,rfl⟩:=hst i bi hli
    obtain ⟨q1,q2⟩:=hc.apart i b0 gi k h2 hgi hk
    refine ⟨?_,q2⟩
    cases hJk : J k with
    | none=>rfl
    | some o =>
     rcases hJo k o hJk with h | ⟨h,_⟩
     ·rw [q1] at h;cases h
     ·exact absurd (hc.inj i id b0 _ gi _ k h2 hlive hgi hg hk h) h1
   inj:=fun i j bi bj gi gj k hi hj hgi hgj hki hkj=>by
    obtain ⟨_,b1,h1,rfl⟩:=hst i bi hi
    obtain ⟨_,b2,h2,rfl⟩:=hst j bj hj
    exact hc.inj i j b1 b2 gi gj k h1 h2 hgi hgj hki hkj
   nodup:=hc.nodup
   idsFree:=hc.idsFree
   size:=hc.size
   env:=fun t d hlt=>by
    have : ∀ {env : Env},lk (V8 id es env) t = some d → ∃ d0,lk env t = some d0 ∧ d = MU id es d0:=by
     intro env
     induction env with
     | nil=>intro h;simp [V8,lk] at h
     | cons p r ih =>
      obtain ⟨s,x⟩:=p
      intro h
      simp only [V8] at h
      by_cases hs : s = t
      ·subst hs;rw [lk_cons_self] at h;cases h;exact ⟨x,lk_cons_self _ _ _,rfl⟩
      ·rw [lk_cons_ne _ _ hs] at h;rw [lk_cons_ne _ _ hs];exact ih h
    obtain ⟨d0,h1,rfl⟩:=this hlt
    exact (hc.env t d0 h1).mfr hJ hg hJr
   defers:=hc.defers.ext hE }
 refine (h b cs J μ a w items hd hc').mono fun e' a' w' hp=>hp.back (.refl _ _) ?_
 exact hE
def Up (tt : TT) (n : Nat) (env : Env) (todo : List DI) : Option PMl :=
 match AW todo ([],[]) with
 | some (all,o,todo')=>match o.op,BP all env o with
  | .lookup t m k two,some g=>match lk tt t,Kb (Af g) env m,Kb (Af g) env k with
   | some { sh:=.map kt et,.. },some (.imm (.mapv kv),o1),some (.imm kx,o2)=>match lk tt kt,Cj n o.dst with
    | some i,true=>match o.dst with
     | some t=>some ⟨kv,i.sh,kx,et,two,g,FW o1 o2,t,todo'⟩
     | none=>none
    | _,_=>none
   | _,_,_=>none
  | _,_=>none
 | none=>none
theorem Hs (htt : TTok P tt) {kv : List (V × V)} {sh : Sh} {kx : V} {et : TypeId} {two : Bool} {g : Option (Bool × Bool)} {ob : List Prop} {t0 : Nat} {todo0 : List DI} {dd : TypeDesc} {z : Value} {zd : V} {dr : D}
  (h : Up tt n env todo = some ⟨kv,sh,kx,et,two,g,ob,t0,todo0⟩) (hd : descOf sh = some dd) (hk : G0 sh kx = true) (hkv : ∀ p ∈ kv,G0 sh p.1 = true) (hob : A1 ob)
  (hz : (P.info? et).bind (·.zero) = some z) (hzr : ∀ I,RepV I z zd) (hdr : CU two kv kx zd = dr) (hg : G P n F Q todo0 ((t0,gD g dr) :: env) st ids) : G P n F Q todo env st ids:=by
 unfold Up at h
 split at h
 ·rename_i all o todo' h1
  split at h
  ·rename_i t m k two' g' hop hgd
   split at h
   ·rename_i kt et' _ _ _ _ kv' o1 kx' o2 ht hm hx
    split at h
    ·rename_i i hi hdo
     split at h
     ·rename_i t' hdst
      cases h
      subst hdr
      have hg : G P n F Q todo0 (B0 o.dst (gD g (CU two kv kx zd)) env) st ids:=by rw [hdst];exact hg
      refine BH (fr:=[]) (wr:=[]) (rd:=[]) h1 (C1 hgd fun I μ st1 ids1 a w hag hst hops hcx=>?_) hdo (fun c hc=>by rw [hop] at hc;cases hc) hg
      rw [hop] at hops
      obtain ⟨ho1,ho2⟩:=A5 hob
      have rm:=BX hm ho1 hcx (hops m (by simp [Op.operands]))
      have rx:=(BX hx ho2 hcx (hops k (by simp [Op.operands]))).immInv
      obtain ⟨b,es,clock,e1,hheap,hlen,hst2,hent⟩ : ∃ b es clock,a.eval m = .map (some b) ∧ w.heap[b]? = some (.map es clock) ∧ es.size = kv.length ∧ MapKept.Stamped es clock ∧ ∀ (i : Nat) (e : MapEntry) (p : V × V),es[i]? = some e → kv[i]? = some p → RepV I e.key p.1 ∧ RepV I e.val p.2:=by
       have rm:=rm.immInv
       generalize a.eval m = vm at rm
       cases rm with
       | mapv b es clock _ q1 q2 q3 q4 q5=>exact ⟨b,es,clock,rfl,hst.imm _ _ q1,q2,q3,fun i e p h1 h2=>⟨q4 i e p h1 h2,q5 i e p h1 h2⟩⟩
      have hu : P.underlying t = some (.map kt et):=htt.sh ht
      have hkd : P.underlying kt = some dd:=KB hd (htt.sh hi)
      have hik:=FP hd hk rx
      have fin : ∀ (v : Value) (ok : Bool) (d : V),(Instr.lookup t (.map (some b)) (a.eval k) two).run P w = .ok (if two then .tuple #[v,.bool ok] else v) w → RepV I v d →
        CU two kv kx zd = (if two then .imm (.tup [d,.bool ok]) else .imm d) →
        valX P ((execOp a.eval o).run P w) (fun u w'=>∃ I' μ',StRep I' μ' st1 ids1 w' ∧ RepD I' μ' u (CU two kv kx zd) ∧ μ.le μ' ∧ Ext I μ st1 w I' μ' st1 w') (Ku (MD Q) I μ st1 w):=by
       intro v ok d hr hv he
       have hrun : (execOp a.eval o).run P w = .ok (.value (if two then .tuple #[v,.bool ok] else v)) w:=by
        simp only [execOp,hop,e1]
        exact Aq hr
       rw [hrun]
       refine ⟨I,μ,hst,?_,Mu.le_refl μ,Ext.refl _ _ _ _⟩
       rw [he]
       cases two with
       | false=>exact .imm _ _ hv
       | true =>
        refine .imm _ _ (.tup _ _ rfl fun i c x hc hx=>?_)
        match i,hc,hx with
        | 0,hc,hx=>cases hc;cases hx;exact hv
        | 1,hc,hx=>cases hc;cases hx;exact .bool _
        | i + 2,hc,hx=>simp at hx
      rcases J9 (I:=I) hd hk rx es.toList kv 0 (by simpa using hlen) (fun j e p h1 h2=>hent j e p (by simpa using h1) h2) hkv with ⟨q1,q2,_,_⟩ | ⟨j,e,y',q1,q2,q3,q4,q5,q6⟩
      ·refine fin z false zd ?_ (hzr I) (by simp [CU,q2])
       simp [Instr.lookup,run_underlying hu,MapKept.run_getObj_map hheap,MapKept.run_checkKey hkd hik,MapKept.run_findKey hkd q1,D1 hz,Result.andThen]
      ·refine fin e.val true y' ?_ q5 (by simp [CU,q4])
       simp [Instr.lookup,run_underlying hu,MapKept.run_getObj_map hheap,MapKept.run_checkKey hkd hik,MapKept.run_findKey hkd q1,Result.andThen]
     ·cases h
    ·cases h
   ·cases h
  ·cases h
 ·cases h
def cO : List V → List D
 | []=>[]
 | .ip t cs off :: r=>.ip t cs off :: cO r
 | x :: r=>.imm x :: cO r
theorem UF : ∀ {xs : List Value} {vs : List V},RepL I μ xs (vs.map .imm) → RepL I μ xs (cO vs)
 | [],[],h=>h
 | [],v :: vs,h=>absurd h.1 (by simp)
 | x :: xs,[],h=>absurd h.1 (by simp)
 | x :: xs,v :: vs,h=>by
  obtain ⟨h1,h2⟩:=(show RepL I μ (x :: xs) (.imm v :: vs.map .imm) from h).cons
  have:=UF h2
  cases v with
  | ip t cs off=>exact .mk h1.immInv.ipD this
  | _=>exact .mk h1 this
theorem PL {f : FuncId} {vs : List V} {v : V} (h : AU P f (cO vs) [] (.ret (.imm v) [])) : PureC P f vs v:=fun I μ w xs hst hx=>h I μ w xs hst (UF hx)
def Xl (n : Nat) (env : Env) (todo : List DI) : Option UY :=
 match AW todo ([],[]) with
 | some (all,o,todo')=>match o.op,BP all env o with
  | .call { callee:=.value (.tmp t),args:=⟨args⟩,.. },some g=>match lk env t,Hv (Af g) env args with
   | some (.imm (.clo (.func f) a b)),some (ds,ob)=>match IV ds,Cj n o.dst with
    | some vs,true=>match o.dst with
     | some t=>some ⟨f,a ++ vs ++ b,g,ob,some t,todo'⟩
     | none=>some ⟨f,a ++ vs ++ b,g,ob,none,todo'⟩
    | _,_=>none
   | _,_=>none
  | _,_=>none
 | none=>none
theorem Mp : ∀ l : List V,IV (l.map .imm) = some l
 | []=>rfl
 | x :: r=>by simp [IV,bE,Mp r]
theorem GT : ∀ {a b : List D} {xs ys : List V},IV a = some xs → IV b = some ys → IV (a ++ b) = some (xs ++ ys)
 | [],b,xs,ys,h1,h2=>by cases h1;exact h2
 | d :: r,b,xs,ys,h1,h2=>by
  simp only [IV] at h1
  split at h1
  ·rename_i x xs' hx hr
   cases h1
   simp [IV,hx,GT hr h2]
  ·cases h1
theorem Qe {f : FuncId} {vs : List V} {g : Option (Bool × Bool)} {ob : List Prop} {dst : Option Nat} {todo' : List DI} {v : V} (h : Xl n env todo = some ⟨f,vs,g,ob,dst,todo'⟩) (hE : Af g → PureC P f vs v) (hob : A1 ob)
  (hk : G P n F Q todo' (B0 dst (gD g (.imm v)) env) st ids) : G P n F Q todo env st ids:=by
 unfold Xl at h
 split at h
 ·rename_i all o todo1 h1
  have hnd : ∀ cc,o.op = .call cc → ∀ c,o.op ≠ .defer c:=fun cc h c h'=>by rw [h] at h';cases h'
  split at h
  ·rename_i t args ts g' ho hg
   split at h
   ·rename_i f' a b ds ob' ht ha
    split at h
    ·rename_i vs' hv hd
     have fin : f' = f ∧ a ++ vs' ++ b = vs ∧ g' = g ∧ ob' = ob ∧ o.dst = dst ∧ todo1 = todo':=by
      split at h <;> (rename_i hdst;cases h;exact ⟨rfl,rfl,rfl,rfl,hdst,rfl⟩)
     obtain ⟨rfl,rfl,rfl,rfl,rfl,rfl⟩:=fin
     exact BH (fr:=[]) (wr:=[]) h1 (PX hg (L8 ho ht ha hob) (GT (GT (Mp a) hv) (Mp b)) hE) hd (hnd _ ho) hk
    ·cases h
   ·cases h
  ·cases h
 ·cases h
end
end Go.Hk
namespace Go.Hk
open Go.Proofs
def cM : TT:=bI ++ [
 (37,⟨.sl 60,false,1,24,[.nils]⟩),
 (60,⟨.struct [(0,9),(1,33)],true,5,72,[.imm (.str []),.imm (.int .i64 0),.imm (.int .i64 0),.imm (.str []),.nils]⟩),
 (137,⟨.struct [(0,29),(6,134),(7,135),(8,83)],true,9,144,[.nils,.imm (.int .i64 0),.imm (.int .i64 0),.imm (.str []),.nils,.nils,.imm .nilmap,.imm .nilmap,.nils]⟩),
 (131,⟨.struct [(0,30),(1,3),(2,9)],true,3,32,[.imm (.int .i64 0),.imm (.int .i64 0),.imm (.str [])]⟩),
 (186,⟨.struct [(0,3),(1,3)],true,2,16,[.imm (.int .i64 0),.imm (.int .i64 0)]⟩),
 (134,⟨.map 9 3,false,1,8,[.imm .nilmap]⟩),
 (135,⟨.map 9 186,false,1,8,[.imm .nilmap]⟩),
 (83,⟨.sl 3,false,1,24,[.nils]⟩),
 (95,⟨.ptr 137,false,1,8,[.imm .nilp]⟩),
 (103,⟨.func,false,1,8,[.imm .nilfn]⟩),
 (179,⟨.func,false,1,8,[.imm .nilfn]⟩),
 (128,⟨.func,false,1,8,[.imm .nilfn]⟩),
 (54,⟨.func,false,1,8,[.imm .nilfn]⟩)]
theorem An : TTok Tryz.prog cM:=.of_eq (l:=[4,3,9,141,26,50,138,27,5,24,23,57,139,48,143,147,75,22,145,72,70,38,33,30,31,29,37,60,137,131,186,134,135,83,95,103,179,128,54]) (by kernel_rfl)
section
variable {n : Nat} {F : List Nat} {Q : DQ} {env env' : Env} {st st' : St} {ids ids' : List Nat} {k todo : List DI} {ob : List Prop}
theorem bd (path : List Pt) (h : run cM n 300 path todo env st ids [] = .at k env' st' ids' ob) (hob : A1 ob) (hd : G Tryz.prog n F Q k env' st' ids') : DGo Tryz.prog n F Q todo env st ids:=L5 An mixed 300 path h hob hd
theorem bg (path : List Pt) (h : run cM n 300 path todo env st ids [] = .at k env' st' ids' ob) (hob : A1 ob) (hd : G Tryz.prog n F Q k env' st' ids') : G Tryz.prog n F Q todo env st ids:=J2 An mixed 300 path h hob hd
theorem bi {es : List (List V)} {m : Int} {sz : Nat} {e : TypeId} {g : Option (Bool × Bool)} {ob : List Prop} {t : Nat} {todo' : List DI} {c : List V} (h : NQ cM n env todo = some ⟨es,m,sz,e,g,ob,some t,todo'⟩)
  (hc : Af g → 0 ≤ m ∧ es[m.toNat]? = some c ∧ c.length = sz) (hob : A1 ob) (hk : G Tryz.prog n F Q todo' ((t,gD g (.ip e c 0)) :: env) st ids) : G Tryz.prog n F Q todo env st ids:=Fx An h hc hob hk
end
def BF : Ty → List Ty
 | .mk _ _ _ ps=>ps
def CH (b : Str × Ty) : List V:=.str b.1 :: dTyc b.2
@[simp] theorem dBind_length (b : Str × Ty) : (CH b).length = 5:=by simp [CH]
def A7 (l : List (Str × Ty)) : List (List V):=l.map CH
@[simp] theorem dBinds_length (l : List (Str × Ty)) : (A7 l).length = l.length:=by simp [A7]
theorem Y6 (a b : List (Str × Ty)) : A7 (a ++ b) = A7 a ++ A7 b:=by simp [A7]
mutual
def Aj : Ty → Ty → List (Str × Ty) × Bool
 | .mk f n x ps,v=>if f = 1 then ([],true) else if f = 2 then ([(x,v)],true) else if Bs (Bi (.mk f n x ps)) v = false then ([],false) else Aw ps (BF v)
def Aw : List Ty → List Ty → List (Str × Ty) × Bool
 | [],_=>([],true)
 | _ :: _,[]=>([],true)
 | p :: r,q :: s=>bif (Aj p q).2 && (Aw r s).2 then ((Aj p q).1 ++ (Aw r s).1,true) else ([],false)
end
mutual
def Ie : Ty → Ty → Bool
 | .mk f n x ps,v=>decide (f = 1) || decide (f = 2) || !Bs (Bi (.mk f n x ps)) v || (decide (ps.length ≤ (BF v).length) && Hd ps (BF v))
def Hd : List Ty → List Ty → Bool
 | [],_=>true
 | _ :: _,[]=>true
 | p :: r,q :: s=>Ie p q && Hd r s
end
mutual
theorem MX : ∀ p v : Ty,(Aj p v).1.length ≤ Ak p
 | .mk f n x ps,v=>by
  simp only [Aj,Ak]
  have:=Lp ps (BF v)
  split
  ·simp
  ·split
   ·simp
   ·split <;> simp;omega
theorem Lp : ∀ ps vs : List Ty,(Aw ps vs).1.length ≤ Ag ps
 | [],_=>by simp [Aw]
 | _ :: _,[]=>by simp [Aw]
 | p :: r,q :: s=>by
  have h1:=MX p q
  have h2:=Lp r s
  simp only [Aw,Ag]
  cases (Aj p q).2 && (Aw r s).2
  ·simp
  ·simp;omega
end
theorem NV : ∀ ps vs : List Ty,(Aw ps vs).2 = false → (Aw ps vs).1 = []
 | [],_,h=>by simp [Aw] at h
 | _ :: _,[],h=>by simp [Aw] at h
 | p :: r,q :: s,h=>by
  simp only [Aw] at h ⊢
  cases hc : (Aj p q).2 && (Aw r s).2
  ·simp
  ·rw [hc] at h;cases h
theorem PU : ∀ p v : Ty,(Aj p v).2 = false → (Aj p v).1 = []
 | .mk f n x ps,v,h=>by
  simp only [Aj] at h ⊢
  split at h
  ·cases h
  ·split at h
   ·cases h
   ·split at h
    ·simp [*]
    ·rename_i h1 h2 h3
     simp only [h1,h2,h3,if_false]
     exact NV _ _ h
end Go.Hk
namespace Go.Hk
open Go.Proofs
def Cm (v : Ty) : Nat → List Ty → Int
 | _,[]=>-1
 | i,p :: r=>bif (Aj p v).2 then (i : Int) else Cm v (i + 1) r
def UG : Ty → List V
 | .mk s n x _=>[.int .i64 s,.int .i64 n,.str x]
theorem Mk : ∀ p : Ty,PureC Tryz.prog 79 [.agg (dTyc p)] (.agg (UG (Bi p)))
 | .mk s n x ks=>by
  refine Ae An Tryz.func79 (by decide +kernel) rfl [1,2,3] rfl rfl ?_
  simp only [Bi]
  refine bg [] rfl (by simp) ?_
  by_cases h3 : s = 3
  ·subst h3
   refine Aa rfl (fun h=>?_) (fun h=>by simp at h)
   refine bd [] rfl (by simp) ?_
   exact Ab ⟨_,rfl,tV rfl,trivial⟩
  rw [if_neg h3]
  refine Aa rfl (fun h=>absurd (by simpa using h) h3) (fun h=>?_)
  clear h
  refine bd [] rfl (by simp) ?_
  by_cases h4 : s = 4
  ·subst h4
   refine Aa rfl (fun h=>?_) (fun h=>by simp at h)
   refine bd [] rfl (by simp) ?_
   exact Ab ⟨_,rfl,tV rfl,trivial⟩
  rw [if_neg h4]
  refine Aa rfl (fun h=>absurd (by simpa using h) h4) (fun h=>?_)
  clear h
  refine bd [] rfl (by simp) ?_
  by_cases h5 : s = 5
  ·subst h5
   refine Aa rfl (fun h=>?_) (fun h=>by simp at h)
   refine bd [] rfl (by simp) ?_
   exact Ab ⟨_,rfl,tV rfl,trivial⟩
  rw [if_neg h5]
  refine Aa rfl (fun h=>absurd (by simpa using h) h5) (fun h=>?_)
  clear h
  refine bd [] rfl (by simp) ?_
  exact Ab ⟨_,rfl,tV rfl,trivial⟩
theorem Uw : ∀ v : Ty,PureC Tryz.prog 80 [.agg (dTyc v)] (.agg (UG v))
 | .mk s n x ks=>by
  refine Ae An Tryz.func80 (by decide +kernel) rfl [1,2,3] rfl rfl ?_
  refine bg [] rfl (by simp) ?_
  exact Ab ⟨_,rfl,tV rfl,trivial⟩
theorem WH (c : Cse) (r : Int) : PureC Tryz.prog 49 [.agg (dCse c),.int .i64 r] (.bool (decide (0 ≤ r) && decide (r < c.rows.length))):=by
 obtain ⟨ds,⟨s,n,x,ps⟩,rows⟩:=c
 refine Ae An Tryz.func49 (by decide +kernel) rfl [1,2,3] rfl rfl ?_
 refine bg [] rfl (by simp [Af]) ?_
 refine Ab ⟨_,rfl,tV (congrArg _ ?_),trivial⟩
 simp
theorem OD : ∀ p : Ty,Ak p ≤ 1000000 → PureC Tryz.prog 94 [.agg (dTyc p)] (.int .i64 (Ak p : Int))
 | .mk s n x ps,hN=>by
  simp only [Ak] at hN
  refine A2 fun hv=>?_
  simp [Bt,Dd,dTyc,maxLen] at hv
  refine Ae An Tryz.func94 (by decide +kernel) rfl [1,2,3] rfl rfl ?_
  refine bg [] rfl (by simp) ?_
  refine Ah (fun i : Nat=>[(9,.imm (.int .i64 i)),(8,.imm (.int .i64 ps.length)),(7,.imm (.sl (A9 ps))),(3,.imm (.int .i64 ((1 + Ag (ps.take i) : Nat) : Int)))]) (fun _=>[]) [2,3] (fun i=>ps.length - i)
   (fun i=>i ≤ ps.length) 0 (Nat.zero_le _) ⟨rfl,As (by simp),rfl,rfl,trivial⟩ trivial rfl fun i hi ih=>?_
  refine bd [] rfl (by simp) ?_
  refine Aa rfl (fun h=>?_) (fun h=>?_)
  ·simp at h
   obtain ⟨t,ht⟩:=Ai h
   have e : Ag (ps.take (i + 1)) = Ag (ps.take i) + Ak t:=by rw [AI ht,Bc];simp [Ag]
   have hb:=Bb ht
   refine bd [] rfl (by simp) ?_
   refine bi rfl (c:=dTyc t) (fun _=>⟨by simp,by simpa using Ao ht,by simp⟩) (by simp) ?_
   refine bg [] rfl (by simp) ?_
   refine Ac rfl (fun _=>OD t (by omega)) (by simp) ?_
   refine bg [] rfl (by simp) ?_
   exact Ad (ih (i + 1) (by omega) (by omega)) ⟨As (Bw (by omega) (by omega)),rfl,rfl,As (by rw [e,Bw (by omega) (by omega)];omega),trivial⟩ trivial rfl
  ·simp at h
   refine Av rfl ?_
   refine bd [] rfl (by simp) ?_
   rw [List.take_of_length_le (by omega)]
   refine Ab ⟨_,rfl,tV ?_,trivial⟩
   simp [Ak]
termination_by p=>SizeOf.sizeOf p
decreasing_by
 have:=List.sizeOf_lt_of_mem (List.mem_of_getElem? ht)
 simp_wf
 omega
theorem Mi : ∀ (t : Ty) (l d : Int),-9223372036854775808 ≤ l → l ≤ 9223372036854775807 → -9223372036854775807 ≤ d → d ≤ 9223372036854775807 → PureC Tryz.prog 96 [.agg (dTyc t),.int .i64 l,.int .i64 d] (.int .i64 (AN t l d))
 | .mk op n x ks,l,d,hl0,hl1,hd0,hd1=>by
  refine A2 fun hv=>?_
  simp [Bt,Dd,dTyc,maxLen] at hv
  refine Ae An Tryz.func96 (by decide +kernel) rfl [1,2,3] rfl rfl ?_
  refine bg [] rfl (by simp [Af]) ?_
  refine Aa rfl (fun h=>?_) (fun h=>?_)
  ·refine bd [] rfl (by simp) ?_
   refine Ab ⟨_,rfl,tV (congrArg _ ?_),trivial⟩
   simp at h
   simp only [AN];rw [if_pos (by grind)]
  have h : ¬ (l < 1 ∨ d < 1):=by simp at h;grind
  refine bd [] rfl (by simp) ?_
  refine Ah (fun x : Nat × Int=>[(20,.imm (.int .i64 x.1)),(19,.imm (.int .i64 ks.length)),(18,.imm (.sl (A9 ks))),(1,.imm (.int .i64 x.2)),(2,.imm (.int .i64 d))]) (fun _=>[]) [2,3] (fun x=>ks.length - x.1)
   (fun y=>y.1 ≤ ks.length ∧ AN (.mk op n x ks) l d = AV (ks.drop y.1) y.2 (d - 1) ∧ 0 ≤ y.2 ∧ y.2 < l) (0,l - 1)
   ⟨Nat.zero_le _,by simp only [AN,List.drop_zero];rw [if_neg h],by simp only;omega,by simp only;omega⟩ ⟨rfl,As (by simp),rfl,As (Bw (by omega) (by omega)),rfl,trivial⟩ trivial rfl fun y hi ih=>?_
  obtain ⟨i,m⟩:=y
  obtain ⟨hi1,hi2,hi3,hi4⟩:=hi
  simp only at hi1 hi2 hi3 hi4
  refine bd [] rfl (by simp) ?_
  refine Aa rfl (fun h=>?_) (fun h=>?_)
  ·simp at h
   obtain ⟨t,ht⟩:=Ai (l:=ks) (i:=i) (by omega)
   rw [Al ht] at hi2
   simp only [AV] at hi2
   rw [if_pos hi3] at hi2
   refine bd [] rfl (by simp) ?_
   refine bi rfl (c:=dTyc t) (fun _=>⟨by simp,by simpa using Ao ht,by simp⟩) (by simp) ?_
   refine bg [] rfl (by simp) ?_
   have hw : IntKind.i64.wrap (d - 1) = d - 1:=Bw (by omega) (by omega)
   refine Ac rfl (v:=.int .i64 (AN t m (d - 1))) (fun _=>by rw [hw];exact Mi t m (d - 1) (by omega) (by omega) (by omega) (by omega)) (by simp) ?_
   refine bg [] rfl (by simp) ?_
   have hb:=FB t m (d - 1)
   refine Aa rfl (fun h'=>?_) (fun h'=>?_)
   ·simp at h'
    refine Av rfl ?_
    refine bd [] rfl (by simp) ?_
    refine Ab ⟨_,rfl,tV (congrArg _ ?_),trivial⟩
    rw [hi2]
    have : AN t m (d - 1) = -1:=by omega
    rw [this]
    cases ks.drop (i + 1) with
    | nil=>rfl
    | cons a b=>simp [AV]
   ·simp at h'
    refine bd [] rfl (by simp) ?_
    exact Ad (ih (i + 1,AN t m (d - 1)) (by simp only;omega) ⟨by simp only;omega,hi2,by simp only;omega,by simp only;omega⟩) ⟨As (Bw (by omega) (by omega)),rfl,rfl,rfl,rfl,trivial⟩ trivial rfl
  ·refine Av rfl ?_
   refine bd [] rfl (by simp) ?_
   refine Ab ⟨_,rfl,tV (congrArg _ ?_),trivial⟩
   simp at h
   rw [hi2,List.drop_eq_nil_of_le (by omega)];simp [AV]
termination_by t=>SizeOf.sizeOf t
decreasing_by
 have:=List.sizeOf_lt_of_mem (List.mem_of_getElem? ht)
 simp_wf
 omega
def Dw : V:=.iface 239 (.agg [])
def ZP : TT:=W9 ++ [
 (239,⟨.struct [],true,0,0,[]⟩),
 (192,⟨.struct [(0,3),(1,3)],true,2,16,[.imm (.int .i64 0),.imm (.int .i64 0)]⟩),
 (1,⟨.func,false,1,8,[.imm .nilfn]⟩)]
theorem A0 : TTok Tryz.prog ZP:=.of_eq (l:=[4,3,9,141,26,50,138,27,5,24,23,57,139,48,143,147,75,22,145,72,70,38,239,192,1]) (by kernel_rfl)
section
variable {n : Nat} {F : List Nat} {Q : DQ} {env env' : Env} {st st' : St} {ids ids' : List Nat} {k todo : List DI} {ob : List Prop}
theorem td (path : List Pt) (h : run ZP n 300 path todo env st ids [] = .at k env' st' ids' ob) (hob : A1 ob) (hd : G Tryz.prog n F Q k env' st' ids') : DGo Tryz.prog n F Q todo env st ids:=L5 A0 mixed 300 path h hob hd
theorem tg (path : List Pt) (h : run ZP n 300 path todo env st ids [] = .at k env' st' ids' ob) (hob : A1 ob) (hd : G Tryz.prog n F Q k env' st' ids') : G Tryz.prog n F Q todo env st ids:=J2 A0 mixed 300 path h hob hd
theorem ti {es : List (List V)} {m : Int} {sz : Nat} {e : TypeId} {g : Option (Bool × Bool)} {ob : List Prop} {t : Nat} {todo' : List DI} {c : List V} (h : NQ ZP n env todo = some ⟨es,m,sz,e,g,ob,some t,todo'⟩)
  (hc : Af g → 0 ≤ m ∧ es[m.toNat]? = some c ∧ c.length = sz) (hob : A1 ob) (hk : G Tryz.prog n F Q todo' ((t,gD g (.ip e c 0)) :: env) st ids) : G Tryz.prog n F Q todo env st ids:=Fx A0 h hc hob hk
end
theorem W4 : PureC Tryz.prog 155 [.bool true] (.tup []):=by
 refine Ae A0 Tryz.func155 (by decide +kernel) rfl [1,2] rfl rfl ?_
 refine tg [.a] rfl (by simp) ?_
 exact B3 ⟨_,rfl,rfl,trivial⟩
theorem Y9 : AU Tryz.prog 155 [.imm (.bool false)] [] (.pan Dw):=by
 refine Ae A0 Tryz.func155 (by decide +kernel) rfl [1,2] rfl rfl ?_
 refine tg [.a] rfl (by simp) ?_
 exact Wd rfl rfl rfl rfl
end Go.Hk
namespace Go.Hk
open Go.Proofs
theorem AD (b : Bool) (h : b = true) : PureC Tryz.prog 155 [.bool b] (.tup []):=by subst h;exact W4
theorem Be (b : Bool) (h : b = false) : AU Tryz.prog 155 [.imm (.bool b)] [] (.pan Dw):=by subst h;exact Y9
def Bx (a b : Int) : Blk:=.immb 192 2 [.int .i64 a,.int .i64 b]
theorem Ey (n d x : Int) (h0 : 1 ≤ n) (h1 : n ≤ 4611686018427387904) (hx : x ≤ d) : AU Tryz.prog 154 [.ref 1 0,.imm (.int .i64 x)] [(1,some (Bx n d))] (.ret (.imm (.tup [])) [(1,some (Bx (n - 1) d))]):=by
 have hw : IntKind.i64.wrap (n - 1) = n - 1:=Bw (by omega) (by omega)
 refine Ae A0 Tryz.func154 (by decide +kernel) rfl [2,3] rfl rfl ?_
 refine tg [] rfl (by simp) ?_
 refine Ac rfl (fun _=>AD _ (by simp [hw];omega)) (by simp) ?_
 refine tg [] rfl (by simp) ?_
 refine B3 ⟨_,rfl,rfl,?_⟩
 simp only [hw]
 exact ⟨rfl,trivial⟩
theorem Ms (n d x : Int) (h0 : -1 ≤ n) (h1 : n ≤ 4611686018427387904) (hx : n < 1 ∨ d < x) : AU Tryz.prog 154 [.ref 1 0,.imm (.int .i64 x)] [(1,some (Bx n d))] (.pan Dw):=by
 have hw : IntKind.i64.wrap (n - 1) = n - 1:=Bw (by omega) (by omega)
 refine Ae A0 Tryz.func154 (by decide +kernel) rfl [2,3] rfl rfl ?_
 refine tg [] rfl (by simp) ?_
 exact Ar [] rfl (by simp) (Be _ (by simp [hw];omega)) trivial rfl rfl
theorem DM {ps : List Ty} {i : Nat} {t : Ty} (h : ps[i]? = some t) : Ag (ps.drop i) = Ak t + Ag (ps.drop (i + 1)):=by rw [Al h];rfl
theorem HM : ∀ (t : Ty) (n : Int),(Ak t : Int) ≤ n → n ≤ 4611686018427387904 → AU Tryz.prog 151 [.ref 1 0,.imm (.agg (dTyc t))] [(1,some (Bx n 0))] (.ret (.imm (.tup [])) [(1,some (Bx (n - Ak t) 0))])
 | .mk s m x ps,n,h0,h1=>by
  refine CL 1 rfl fun hok=>?_
  have hv : ps.length ≤ 9223372036854775807:=by
   simp [Bt,Dd,dTyc,maxLen] at hok
   have:=hok.1
   omega
  refine Ae A0 Tryz.func151 (by decide +kernel) rfl [2,3,4] rfl rfl ?_
  have hN : (1 : Int) + Ag ps ≤ n:=by simp only [Ak] at h0;omega
  refine tg [] rfl (by simp) ?_
  refine Az (fr:=[]) [(1,1)] [] rfl (by simp) (Ey n 0 0 (by omega) h1 (by decide)) ⟨⟨rfl,rfl,rfl⟩,trivial⟩ rfl rfl rfl rfl ?_
  refine tg [] rfl (by simp) ?_
  refine Ah (fun i : Nat=>[(11,.imm (.int .i64 i)),(10,.imm (.int .i64 ps.length)),(9,.imm (.sl (A9 ps))),(0,.ref 1 0)]) (fun i=>[(1,some (Bx (n - 1 - Ag (ps.take i)) 0))]) [2,3,4] (fun i=>ps.length - i)
   (fun i=>i ≤ ps.length) 0 (Nat.zero_le _) ⟨rfl,As (by simp),rfl,rfl,trivial⟩ ⟨by simp [Ag];rfl,trivial⟩ rfl fun i hi ih=>?_
  refine td [] rfl (by simp) ?_
  refine Aa rfl (fun h=>?_) (fun h=>?_)
  ·simp at h
   obtain ⟨t,ht⟩:=Ai h
   have hnt:=Bb ht
   have hnd:=DM ht
   have htk : (Ag (ps.take (i + 1)) : Int) = Ag (ps.take i) + Ak t:=by rw [AI ht,Bc];simp [Ag]
   refine td [] rfl (by simp) ?_
   refine ti rfl (c:=dTyc t) (fun _=>⟨by simp,by simpa using Ao ht,by simp⟩) (by simp) ?_
   refine tg [] rfl (by simp) ?_
   refine Az (fr:=[]) [(1,1)] [] rfl (by simp) (HM t (n - 1 - Ag (ps.take i)) (by omega) (by omega)) ⟨⟨rfl,rfl,rfl⟩,trivial⟩ rfl rfl rfl rfl ?_
   refine tg [] rfl (by simp) ?_
   exact Ad (ih (i + 1) (by omega) (by omega)) ⟨As (Bw (by omega) (by omega)),rfl,rfl,rfl,trivial⟩ ⟨congrArg (fun z=>Bx z 0) (by omega),trivial⟩ rfl
  ·refine td [] rfl (by simp) ?_
   simp at h
   refine B3 ⟨_,rfl,rfl,⟨?_,trivial⟩⟩
   rw [List.take_of_length_le (by omega)]
   simp only [Ak]
   exact congrArg (fun z=>some (some (Bx z 0))) (by omega)
termination_by t=>SizeOf.sizeOf t
decreasing_by
 all_goals
  have:=List.sizeOf_lt_of_mem (List.mem_of_getElem? ht)
  simp_wf
  omega
theorem R9 : ∀ (t : Ty) (n : Int),n < Ak t → -1 ≤ n → n ≤ 4611686018427387904 → AU Tryz.prog 151 [.ref 1 0,.imm (.agg (dTyc t))] [(1,some (Bx n 0))] (.pan Dw)
 | .mk s m x ps,n,h0,hm1,h1=>by
  refine CL 1 rfl fun hok=>?_
  have hv : ps.length ≤ 9223372036854775807:=by
   simp [Bt,Dd,dTyc,maxLen] at hok
   have:=hok.1
   omega
  refine Ae A0 Tryz.func151 (by decide +kernel) rfl [2,3,4] rfl rfl ?_
  have hN : n < (1 : Int) + Ag ps:=by simp only [Ak] at h0;omega
  refine tg [] rfl (by simp) ?_
  by_cases hn : n < 1
  ·exact Ar [(1,1)] rfl (by simp) (Ms n 0 0 (by omega) h1 (.inl hn)) ⟨⟨rfl,rfl,rfl⟩,trivial⟩ rfl rfl
  refine Az (fr:=[]) [(1,1)] [] rfl (by simp) (Ey n 0 0 (by omega) h1 (by decide)) ⟨⟨rfl,rfl,rfl⟩,trivial⟩ rfl rfl rfl rfl ?_
  refine tg [] rfl (by simp) ?_
  refine Ah (fun i : Nat=>[(11,.imm (.int .i64 i)),(10,.imm (.int .i64 ps.length)),(9,.imm (.sl (A9 ps))),(0,.ref 1 0)]) (fun i=>[(1,some (Bx (n - 1 - Ag (ps.take i)) 0))]) [2,3,4] (fun i=>ps.length - i)
   (fun i=>i ≤ ps.length ∧ (Ag (ps.take i) : Int) ≤ n - 1 ∧ n - 1 < Ag (ps.take i) + Ag (ps.drop i)) 0 ⟨Nat.zero_le _,by simp [Ag];omega,by simp [Ag];omega⟩ ⟨rfl,As (by simp),rfl,rfl,trivial⟩ ⟨by simp [Ag];rfl,trivial⟩ rfl fun i hi ih=>?_
  refine td [] rfl (by simp) ?_
  refine Aa rfl (fun h=>?_) (fun h=>?_)
  ·simp at h
   obtain ⟨t,ht⟩:=Ai h
   have hnt:=Bb ht
   have hnd:=DM ht
   have htk : (Ag (ps.take (i + 1)) : Int) = Ag (ps.take i) + Ak t:=by rw [AI ht,Bc];simp [Ag]
   refine td [] rfl (by simp) ?_
   refine ti rfl (c:=dTyc t) (fun _=>⟨by simp,by simpa using Ao ht,by simp⟩) (by simp) ?_
   refine tg [] rfl (by simp) ?_
   by_cases hle : (Ak t : Int) ≤ n - 1 - Ag (ps.take i)
   ·refine Az (fr:=[]) [(1,1)] [] rfl (by simp) (HM t (n - 1 - Ag (ps.take i)) (by omega) (by omega)) ⟨⟨rfl,rfl,rfl⟩,trivial⟩ rfl rfl rfl rfl ?_
    refine tg [] rfl (by simp) ?_
    exact Ad (ih (i + 1) (by omega) ⟨by omega,by omega,by omega⟩) ⟨As (Bw (by omega) (by omega)),rfl,rfl,rfl,trivial⟩ ⟨congrArg (fun z=>Bx z 0) (by omega),trivial⟩ rfl
   ·exact Ar [(1,1)] rfl (by simp) (R9 t (n - 1 - Ag (ps.take i)) (by omega) (by omega) (by omega)) ⟨⟨rfl,rfl,rfl⟩,trivial⟩ rfl rfl
  ·exfalso
   simp at h
   have:=hi.2
   rw [List.take_of_length_le (by omega),List.drop_eq_nil_of_le (by omega)] at this
   simp [Ag] at this
   omega
termination_by t=>SizeOf.sizeOf t
decreasing_by
 all_goals
  have:=List.sizeOf_lt_of_mem (List.mem_of_getElem? ht)
  simp_wf
  omega
theorem J0 : ∀ (t : Ty) (n : Int),(Ak t : Int) ≤ n → n ≤ 4611686018427387904 → AU Tryz.prog 123 [.ref 1 0,.imm (.agg (dTyc t))] [(1,some (Bx n 0))] (.ret (.imm (.tup [])) [(1,some (Bx (n - Ak t) 0))])
 | .mk s m x ps,n,h0,h1=>by
  refine CL 1 rfl fun hok=>?_
  have hv : ps.length ≤ 9223372036854775807:=by
   simp [Bt,Dd,dTyc,maxLen] at hok
   have:=hok.1
   omega
  refine Ae A0 Tryz.func123 (by decide +kernel) rfl [2,3,4] rfl rfl ?_
  have hN : (1 : Int) + Ag ps ≤ n:=by simp only [Ak] at h0;omega
  refine tg [] rfl (by simp) ?_
  refine Az (fr:=[]) [(1,1)] [] rfl (by simp) (Ey n 0 0 (by omega) h1 (by decide)) ⟨⟨rfl,rfl,rfl⟩,trivial⟩ rfl rfl rfl rfl ?_
  refine tg [] rfl (by simp) ?_
  refine Ah (fun i : Nat=>[(11,.imm (.int .i64 i)),(10,.imm (.int .i64 ps.length)),(9,.imm (.sl (A9 ps))),(0,.ref 1 0)]) (fun i=>[(1,some (Bx (n - 1 - Ag (ps.take i)) 0))]) [2,3,4] (fun i=>ps.length - i)
   (fun i=>i ≤ ps.length) 0 (Nat.zero_le _) ⟨rfl,As (by simp),rfl,rfl,trivial⟩ ⟨by simp [Ag];rfl,trivial⟩ rfl fun i hi ih=>?_
  refine td [] rfl (by simp) ?_
  refine Aa rfl (fun h=>?_) (fun h=>?_)
  ·simp at h
   obtain ⟨t,ht⟩:=Ai h
   have hnt:=Bb ht
   have hnd:=DM ht
   have htk : (Ag (ps.take (i + 1)) : Int) = Ag (ps.take i) + Ak t:=by rw [AI ht,Bc];simp [Ag]
   refine td [] rfl (by simp) ?_
   refine ti rfl (c:=dTyc t) (fun _=>⟨by simp,by simpa using Ao ht,by simp⟩) (by simp) ?_
   refine tg [] rfl (by simp) ?_
   refine Az (fr:=[]) [(1,1)] [] rfl (by simp) (J0 t (n - 1 - Ag (ps.take i)) (by omega) (by omega)) ⟨⟨rfl,rfl,rfl⟩,trivial⟩ rfl rfl rfl rfl ?_
   refine tg [] rfl (by simp) ?_
   exact Ad (ih (i + 1) (by omega) (by omega)) ⟨As (Bw (by omega) (by omega)),rfl,rfl,rfl,trivial⟩ ⟨congrArg (fun z=>Bx z 0) (by omega),trivial⟩ rfl
  ·refine td [] rfl (by simp) ?_
   simp at h
   refine B3 ⟨_,rfl,rfl,⟨?_,trivial⟩⟩
   rw [List.take_of_length_le (by omega)]
   simp only [Ak]
   exact congrArg (fun z=>some (some (Bx z 0))) (by omega)
termination_by t=>SizeOf.sizeOf t
decreasing_by
 all_goals
  have:=List.sizeOf_lt_of_mem (List.mem_of_getElem? ht)
  simp_wf
  omega
theorem UH : ∀ (t : Ty) (n : Int),n < Ak t → -1 ≤ n → n ≤ 4611686018427387904 → AU Tryz.prog 123 [.ref 1 0,.imm (.agg (dTyc t))] [(1,some (Bx n 0))] (.pan Dw)
 | .mk s m x ps,n,h0,hm1,h1=>by
  refine CL 1 rfl fun hok=>?_
  have hv : ps.length ≤ 9223372036854775807:=by
   simp [Bt,Dd,dTyc,maxLen] at hok
   have:=hok.1
   omega
  refine Ae A0 Tryz.func123 (by decide +kernel) rfl [2,3,4] rfl rfl ?_
  have hN : n < (1 : Int) + Ag ps:=by simp only [Ak] at h0;omega
  refine tg [] rfl (by simp) ?_
  by_cases hn : n < 1
  ·exact Ar [(1,1)] rfl (by simp) (Ms n 0 0 (by omega) h1 (.inl hn)) ⟨⟨rfl,rfl,rfl⟩,trivial⟩ rfl rfl
  refine Az (fr:=[]) [(1,1)] [] rfl (by simp) (Ey n 0 0 (by omega) h1 (by decide)) ⟨⟨rfl,rfl,rfl⟩,trivial⟩ rfl rfl rfl rfl ?_
  refine tg [] rfl (by simp) ?_
  refine Ah (fun i : Nat=>[(11,.imm (.int .i64 i)),(10,.imm (.int .i64 ps.length)),(9,.imm (.sl (A9 ps))),(0,.ref 1 0)]) (fun i=>[(1,some (Bx (n - 1 - Ag (ps.take i)) 0))]) [2,3,4] (fun i=>ps.length - i)
   (fun i=>i ≤ ps.length ∧ (Ag (ps.take i) : Int) ≤ n - 1 ∧ n - 1 < Ag (ps.take i) + Ag (ps.drop i)) 0 ⟨Nat.zero_le _,by simp [Ag];omega,by simp [Ag];omega⟩ ⟨rfl,As (by simp),rfl,rfl,trivial⟩ ⟨by simp [Ag];rfl,trivial⟩ rfl fun i hi ih=>?_
  refine td [] rfl (by simp) ?_
  refine Aa rfl (fun h=>?_) (fun h=>?_)
  ·simp at h
   obtain ⟨t,ht⟩:=Ai h
   have hnt:=Bb ht
   have hnd:=DM ht
   have htk : (Ag (ps.take (i + 1)) : Int) = Ag (ps.take i) + Ak t:=by rw [AI ht,Bc];simp [Ag]
   refine td [] rfl (by simp) ?_
   refine ti rfl (c:=dTyc t) (fun _=>⟨by simp,by simpa using Ao ht,by simp⟩) (by simp) ?_
   refine tg [] rfl (by simp) ?_
   by_cases hle : (Ak t : Int) ≤ n - 1 - Ag (ps.take i)
   ·refine Az (fr:=[]) [(1,1)] [] rfl (by simp) (J0 t (n - 1 - Ag (ps.take i)) (by omega) (by omega)) ⟨⟨rfl,rfl,rfl⟩,trivial⟩ rfl rfl rfl rfl ?_
    refine tg [] rfl (by simp) ?_
    exact Ad (ih (i + 1) (by omega) ⟨by omega,by omega,by omega⟩) ⟨As (Bw (by omega) (by omega)),rfl,rfl,rfl,trivial⟩ ⟨congrArg (fun z=>Bx z 0) (by omega),trivial⟩ rfl
   ·exact Ar [(1,1)] rfl (by simp) (UH t (n - 1 - Ag (ps.take i)) (by omega) (by omega) (by omega)) ⟨⟨rfl,rfl,rfl⟩,trivial⟩ rfl rfl
  ·exfalso
   simp at h
   have:=hi.2
   rw [List.take_of_length_le (by omega),List.drop_eq_nil_of_le (by omega)] at this
   simp [Ag] at this
   omega
termination_by t=>SizeOf.sizeOf t
decreasing_by
 all_goals
  have:=List.sizeOf_lt_of_mem (List.mem_of_getElem? ht)
  simp_wf
  omega
theorem P3 : ∀ (ts : List Tm) (l d : Int),l < 0 → Bd ts l d < 0
 | [],l,d,h=>h
 | t :: r,l,d,h=>by simp only [Bd];rw [if_neg (by omega)];exact h
theorem HL : ∀ (t : Tm) (n dp x : Int),0 ≤ n → n ≤ 4611686018427387904 → 0 ≤ dp → dp ≤ 1000000 → 0 ≤ x → x ≤ 1000001 → 0 ≤ AM t n (dp - x + 1) → AU Tryz.prog 183 [.ref 1 0,.imm (.agg (B8 t)),.imm (.int .i64 x)] [(1,some (Bx n dp))] (.ret (.imm (.tup [])) [(1,some (Bx (AM t n (dp - x + 1)) dp))])
 | .mk op nn tx ks ps,n,dp,x,h0,h1,hd0,hd1,hx0,hx1,hw=>by
  refine CL 1 rfl fun hok=>?_
  have hv : ks.length ≤ 9223372036854775807:=by
   simp [Bt,Dd,B8,maxLen] at hok
   have:=hok.1
   omega
  refine Ae A0 Tryz.func183 (by decide +kernel) rfl [2,3,4] rfl rfl ?_
  have hst : ¬ (n < 1 ∨ dp - x + 1 < 1) → AM (.mk op nn tx ks ps) n (dp - x + 1) = Bd ks (n - 1) (dp - x):=fun h=>by
   simp only [AM];rw [if_neg h];congr 1;omega
  refine tg [] rfl (by simp) ?_
  by_cases hs : n < 1 ∨ dp - x + 1 < 1
  ·exfalso
   simp only [AM] at hw
   rw [if_pos hs] at hw
   omega
  have hs' : 1 ≤ n ∧ x ≤ dp:=by omega
  refine Az (fr:=[]) [(1,1)] [] rfl (by simp) (Ey n dp x (by omega) h1 (by omega)) ⟨⟨rfl,rfl,rfl⟩,trivial⟩ rfl rfl rfl rfl ?_
  refine tg [] rfl (by simp) ?_
  refine Ah (fun y : Nat × Int=>[(14,.imm (.int .i64 y.1)),(13,.imm (.int .i64 ks.length)),(12,.imm (.sl (IJ ks))),(0,.ref 1 0),(2,.imm (.int .i64 x))]) (fun y=>[(1,some (Bx y.2 dp))]) [2,3,4] (fun y=>ks.length - y.1)
   (fun y=>y.1 ≤ ks.length ∧ AM (.mk op nn tx ks ps) n (dp - x + 1) = Bd (ks.drop y.1) y.2 (dp - x) ∧ 0 ≤ y.2 ∧ y.2 ≤ n) (0,n - 1) ⟨Nat.zero_le _,by simp only [List.drop_zero];exact hst hs,by simp only;omega,by simp only;omega⟩ ⟨rfl,As (by simp),rfl,rfl,rfl,trivial⟩ ⟨rfl,trivial⟩ rfl fun y hi ih=>?_
  obtain ⟨i,m⟩:=y
  obtain ⟨hi1,hi2,hi3,hi4⟩:=hi
  simp only at hi1 hi2 hi3 hi4
  refine td [] rfl (by simp) ?_
  refine Aa rfl (fun h=>?_) (fun h=>?_)
  ·simp at h
   obtain ⟨t,ht⟩:=Ai h
   rw [Al ht] at hi2
   simp only [Bd] at hi2
   rw [if_pos hi3] at hi2
   have hb:=Gb t m (dp - x)
   have hx : IntKind.i64.wrap (x + 1) = x + 1:=Bw (by omega) (by omega)
   refine td [] rfl (by simp) ?_
   refine ti rfl (c:=B8 t) (fun _=>⟨by simp,by simpa using FV ht,by simp⟩) (by simp) ?_
   refine tg [] rfl (by simp) ?_
   have hdx : dp - (x + 1) + 1 = dp - x:=by omega
   have hz : 0 ≤ AM t m (dp - x):=by
    rw [hi2] at hw
    rcases Int.lt_or_le (AM t m (dp - x)) 0 with hl | hl
    ·exfalso
     have:=P3 (ks.drop (i + 1)) (AM t m (dp - x)) (dp - x) hl
     omega
    ·exact hl
   refine Az (fr:=[]) [(1,1)] [] rfl (by simp) (HL t m dp (IntKind.i64.wrap (x + 1)) hi3 (by omega) hd0 hd1 (by omega) (by omega) (by rw [hx,hdx];exact hz)) ⟨⟨rfl,rfl,rfl⟩,trivial⟩ rfl rfl rfl rfl ?_
   refine tg [] rfl (by simp) ?_
   exact Ad (ih (i + 1,AM t m (dp - x)) (by simp only;omega) ⟨by simp only;omega,hi2,by simp only;exact hz,by simp only;omega⟩) ⟨As (Bw (by omega) (by omega)),rfl,rfl,rfl,rfl,trivial⟩ ⟨congrArg (fun z=>Bx z dp) (by simp only [hx,hdx]),trivial⟩ rfl
  ·refine td [] rfl (by simp) ?_
   simp at h
   refine B3 ⟨_,rfl,rfl,⟨?_,trivial⟩⟩
   rw [List.drop_eq_nil_of_le (by omega)] at hi2
   simp only [Bd] at hi2
   rw [hi2]
   rfl
termination_by t=>SizeOf.sizeOf t
decreasing_by
 all_goals
  have:=List.sizeOf_lt_of_mem (List.mem_of_getElem? ht)
  simp_wf
  omega
theorem R4 : ∀ (t : Tm) (n dp x : Int),0 ≤ n → n ≤ 4611686018427387904 → 0 ≤ dp → dp ≤ 1000000 → 0 ≤ x → x ≤ 1000001 → AM t n (dp - x + 1) < 0 → AU Tryz.prog 183 [.ref 1 0,.imm (.agg (B8 t)),.imm (.int .i64 x)] [(1,some (Bx n dp))] (.pan Dw)
 | .mk op nn tx ks ps,n,dp,x,h0,h1,hd0,hd1,hx0,hx1,hw=>by
  refine CL 1 rfl fun hok=>?_
  have hv : ks.length ≤ 9223372036854775807:=by
   simp [Bt,Dd,B8,maxLen] at hok
   have:=hok.1
   omega
  refine Ae A0 Tryz.func183 (by decide +kernel) rfl [2,3,4] rfl rfl ?_
  have hst : ¬ (n < 1 ∨ dp - x + 1 < 1) → AM (.mk op nn tx ks ps) n (dp - x + 1) = Bd ks (n - 1) (dp - x):=fun h=>by
   simp only [AM];rw [if_neg h];congr 1;omega
  refine tg [] rfl (by simp) ?_
  by_cases hs : n < 1 ∨ dp - x + 1 < 1
  ·exact Ar [(1,1)] rfl (by simp) (Ms n dp x (by omega) h1 (by omega)) ⟨⟨rfl,rfl,rfl⟩,trivial⟩ rfl rfl
  have hs' : 1 ≤ n ∧ x ≤ dp:=by omega
  refine Az (fr:=[]) [(1,1)] [] rfl (by simp) (Ey n dp x (by omega) h1 (by omega)) ⟨⟨rfl,rfl,rfl⟩,trivial⟩ rfl rfl rfl rfl ?_
  refine tg [] rfl (by simp) ?_
  refine Ah (fun y : Nat × Int=>[(14,.imm (.int .i64 y.1)),(13,.imm (.int .i64 ks.length)),(12,.imm (.sl (IJ ks))),(0,.ref 1 0),(2,.imm (.int .i64 x))]) (fun y=>[(1,some (Bx y.2 dp))]) [2,3,4] (fun y=>ks.length - y.1)
   (fun y=>y.1 ≤ ks.length ∧ AM (.mk op nn tx ks ps) n (dp - x + 1) = Bd (ks.drop y.1) y.2 (dp - x) ∧ 0 ≤ y.2 ∧ y.2 ≤ n) (0,n - 1) ⟨Nat.zero_le _,by simp only [List.drop_zero];exact hst hs,by simp only;omega,by simp only;omega⟩ ⟨rfl,As (by simp),rfl,rfl,rfl,trivial⟩ ⟨rfl,trivial⟩ rfl fun y hi ih=>?_
  obtain ⟨i,m⟩:=y
  obtain ⟨hi1,hi2,hi3,hi4⟩:=hi
  simp only at hi1 hi2 hi3 hi4
  refine td [] rfl (by simp) ?_
  refine Aa rfl (fun h=>?_) (fun h=>?_)
  ·simp at h
   obtain ⟨t,ht⟩:=Ai h
   rw [Al ht] at hi2
   simp only [Bd] at hi2
   rw [if_pos hi3] at hi2
   have hb:=Gb t m (dp - x)
   have hx : IntKind.i64.wrap (x + 1) = x + 1:=Bw (by omega) (by omega)
   refine td [] rfl (by simp) ?_
   refine ti rfl (c:=B8 t) (fun _=>⟨by simp,by simpa using FV ht,by simp⟩) (by simp) ?_
   refine tg [] rfl (by simp) ?_
   have hdx : dp - (x + 1) + 1 = dp - x:=by omega
   by_cases hz : 0 ≤ AM t m (dp - x)
   ·refine Az (fr:=[]) [(1,1)] [] rfl (by simp) (HL t m dp (IntKind.i64.wrap (x + 1)) hi3 (by omega) hd0 hd1 (by omega) (by omega) (by rw [hx,hdx];exact hz)) ⟨⟨rfl,rfl,rfl⟩,trivial⟩ rfl rfl rfl rfl ?_
    refine tg [] rfl (by simp) ?_
    exact Ad (ih (i + 1,AM t m (dp - x)) (by simp only;omega) ⟨by simp only;omega,hi2,by simp only;exact hz,by simp only;omega⟩) ⟨As (Bw (by omega) (by omega)),rfl,rfl,rfl,rfl,trivial⟩ ⟨congrArg (fun z=>Bx z dp) (by simp only [hx,hdx]),trivial⟩ rfl
   ·exact Ar [(1,1)] rfl (by simp) (R4 t m dp (IntKind.i64.wrap (x + 1)) hi3 (by omega) hd0 hd1 (by omega) (by omega) (by rw [hx,hdx];omega)) ⟨⟨rfl,rfl,rfl⟩,trivial⟩ rfl rfl
  ·exfalso
   simp at h
   rw [List.drop_eq_nil_of_le (by omega)] at hi2
   simp only [Bd] at hi2
   omega
termination_by t=>SizeOf.sizeOf t
decreasing_by
 all_goals
  have:=List.sizeOf_lt_of_mem (List.mem_of_getElem? ht)
  simp_wf
  omega
theorem TK {s : Str} {pos : Nat} {c : UInt8} (h : s[pos]? = some c) (hc : c.toNat < 128) : C7 s pos = (c.toNat,1):=by
 have hg : (ByteArray.mk s.toArray).get! pos = c:=by simp [ByteArray.get!,h]
 simp only [C7,Utf8.decode,Nat.add_zero,hg]
 rw [if_pos hc]
theorem Sg {s : Str} {pos : Nat} {c : UInt8} (h : s[pos]? = some c) (hc : 128 ≤ c.toNat) : 128 ≤ (C7 s pos).1:=by
 have hg : (ByteArray.mk s.toArray).get! pos = c:=by simp [ByteArray.get!,h]
 simp only [C7,Utf8.decode,Nat.add_zero,hg,Utf8.runeError]
 rw [if_neg (by omega)]
 repeat' split
 all_goals first | (simp only;omega) | decide | (simp only [Bool.and_eq_true,decide_eq_true_eq] at *;omega)
theorem Oq (s : Str) : PureC Tryz.prog 166 [.str s] (.bool (CO s)):=by
 refine Ae A0 Tryz.func166 (by decide +kernel) rfl [1,2] rfl rfl ?_
 refine tg [] rfl (by simp) ?_
 refine XI A0 rfl ?_
 refine tg [] rfl (by simp) ?_
 refine Ah (fun i : Nat=>[(6,.iter 1)]) (fun i=>[(1,some (.siter s i))]) [2] (fun i=>s.length - i) (fun i=>i ≤ s.length ∧ CO s = CO (s.drop i)) 0
  ⟨Nat.zero_le _,rfl⟩ ⟨rfl,trivial⟩ ⟨rfl,trivial⟩ rfl fun i hi ih=>?_
 refine td [] rfl (by simp) ?_
 by_cases hl : i < s.length
 ·obtain ⟨c,hc⟩:=Ai hl
  have e:=hi.2
  rw [Ld hc] at e
  by_cases hlow : c.toNat < 128
  ·refine UK rfl hl (TK hc hlow) ?_
   refine tg [.a] rfl (by simp) ?_
   refine Aa rfl (fun h=>?_) (fun h=>?_)
   ·refine td [] rfl (by simp) ?_
    refine Ab ⟨_,rfl,tV (congrArg _ ?_),trivial⟩
    rw [e];simp at h;simp [UInt8.le_iff_toNat_le];omega
   ·refine td [] rfl (by simp) ?_
    refine Ad (ih (i + 1) (by omega) ⟨by omega,?_⟩) ⟨rfl,trivial⟩ ⟨rfl,trivial⟩ rfl
    rw [e];simp at h;simp [UInt8.le_iff_toNat_le];omega
  ·refine UK (dc:=C7 s i) rfl hl rfl ?_
   have hh:=Sg hc (by omega)
   refine tg [.a] rfl (by simp) ?_
   refine Aa rfl (fun h=>?_) (fun h=>?_)
   ·refine td [] rfl (by simp) ?_
    refine Ab ⟨_,rfl,tV (congrArg _ ?_),trivial⟩
    rw [e];simp [UInt8.le_iff_toNat_le];omega
   ·exfalso
    simp at h
    omega
 ·refine Zg rfl (by omega) ?_
  refine tg [.a] rfl (by simp) ?_
  refine Ab ⟨_,rfl,tV (congrArg _ ?_),trivial⟩
  rw [hi.2,List.drop_eq_nil_of_le (by omega)];rfl
theorem Td (s : Str) (h : PY s = false) : PureC Tryz.prog 167 [.str s] (.bool false):=by
 simp only [PY,FO,Ed,Bool.or_eq_false_iff] at h
 refine Ae A0 Tryz.func167 (by decide +kernel) rfl [1,2] rfl rfl ?_
 refine tg [.f,.f,.f,.f,.f,.f,.f,.f,.f,.f,.f,.f,.f,.f,.f,.f,.f,.f,.f,.f,.f,.f,.f,.f,.f,.f,.f,.f,.f] rfl (by simp at h;simp;grind) ?_
 exact Ab ⟨_,rfl,tV rfl,trivial⟩
theorem VP : PureC Tryz.prog 167 [.str [98,111,111,108]] (.bool true):=by
 refine Ae A0 Tryz.func167 (by decide +kernel) rfl [1,2] rfl rfl ?_
 refine tg [.a,.a] rfl (by simp) ?_
 exact Ab ⟨_,rfl,tV rfl,trivial⟩
theorem VO : PureC Tryz.prog 167 [.str [99,101,108,108]] (.bool true):=by
 refine Ae A0 Tryz.func167 (by decide +kernel) rfl [1,2] rfl rfl ?_
 refine tg [.a,.a,.a] rfl (by simp) ?_
 exact Ab ⟨_,rfl,tV rfl,trivial⟩
theorem VN : PureC Tryz.prog 167 [.str [99,104,97,110]] (.bool true):=by
 refine Ae A0 Tryz.func167 (by decide +kernel) rfl [1,2] rfl rfl ?_
 refine tg [.a,.a,.a,.a] rfl (by simp) ?_
 exact Ab ⟨_,rfl,tV rfl,trivial⟩
theorem VM : PureC Tryz.prog 167 [.str [101,108,115,101]] (.bool true):=by
 refine Ae A0 Tryz.func167 (by decide +kernel) rfl [1,2] rfl rfl ?_
 refine tg [.a,.a,.a,.a,.a] rfl (by simp) ?_
 exact Ab ⟨_,rfl,tV rfl,trivial⟩
theorem VL : PureC Tryz.prog 167 [.str [102,97,108,115,101]] (.bool true):=by
 refine Ae A0 Tryz.func167 (by decide +kernel) rfl [1,2] rfl rfl ?_
 refine tg [.a,.a,.a,.a,.a,.a] rfl (by simp) ?_
 exact Ab ⟨_,rfl,tV rfl,trivial⟩
theorem VK : PureC Tryz.prog 167 [.str [102,117,110]] (.bool true):=by
 refine Ae A0 Tryz.func167 (by decide +kernel) rfl [1,2] rfl rfl ?_
 refine tg [.a,.a,.a,.a,.a,.a,.a] rfl (by simp) ?_
 exact Ab ⟨_,rfl,tV rfl,trivial⟩
theorem VJ : PureC Tryz.prog 167 [.str [103,101,116]] (.bool true):=by
 refine Ae A0 Tryz.func167 (by decide +kernel) rfl [1,2] rfl rfl ?_
 refine tg [.a,.a,.a,.a,.a,.a,.a,.a] rfl (by simp) ?_
 exact Ab ⟨_,rfl,tV rfl,trivial⟩
theorem VI : PureC Tryz.prog 167 [.str [105,102]] (.bool true):=by
 refine Ae A0 Tryz.func167 (by decide +kernel) rfl [1,2] rfl rfl ?_
 refine tg [.a,.a,.a,.a,.a,.a,.a,.a,.a] rfl (by simp) ?_
 exact Ab ⟨_,rfl,tV rfl,trivial⟩
theorem VH : PureC Tryz.prog 167 [.str [105,110]] (.bool true):=by
 refine Ae A0 Tryz.func167 (by decide +kernel) rfl [1,2] rfl rfl ?_
 refine tg [.a,.a,.a,.a,.a,.a,.a,.a,.a,.a] rfl (by simp) ?_
 exact Ab ⟨_,rfl,tV rfl,trivial⟩
theorem VG : PureC Tryz.prog 167 [.str [105,110,112,117,116]] (.bool true):=by
 refine Ae A0 Tryz.func167 (by decide +kernel) rfl [1,2] rfl rfl ?_
 refine tg [.a,.a,.a,.a,.a,.a,.a,.a,.a,.a,.a] rfl (by simp) ?_
 exact Ab ⟨_,rfl,tV rfl,trivial⟩
theorem Tw : PureC Tryz.prog 167 [.str [105,110,116]] (.bool true):=by
 refine Ae A0 Tryz.func167 (by decide +kernel) rfl [1,2] rfl rfl ?_
 refine tg [.a,.a,.a,.a,.a,.a,.a,.a,.a,.a,.a,.a] rfl (by simp) ?_
 exact Ab ⟨_,rfl,tV rfl,trivial⟩
theorem Tv : PureC Tryz.prog 167 [.str [106,111,105,110]] (.bool true):=by
 refine Ae A0 Tryz.func167 (by decide +kernel) rfl [1,2] rfl rfl ?_
 refine tg [.a,.a,.a,.a,.a,.a,.a,.a,.a,.a,.a,.a,.a] rfl (by simp) ?_
 exact Ab ⟨_,rfl,tV rfl,trivial⟩
theorem Tu : PureC Tryz.prog 167 [.str [108,101,116]] (.bool true):=by
 refine Ae A0 Tryz.func167 (by decide +kernel) rfl [1,2] rfl rfl ?_
 refine tg [.a,.a,.a,.a,.a,.a,.a,.a,.a,.a,.a,.a,.a,.a] rfl (by simp) ?_
 exact Ab ⟨_,rfl,tV rfl,trivial⟩
theorem Tt : PureC Tryz.prog 167 [.str [109,97,116,99,104]] (.bool true):=by
 refine Ae A0 Tryz.func167 (by decide +kernel) rfl [1,2] rfl rfl ?_
 refine tg [.a,.a,.a,.a,.a,.a,.a,.a,.a,.a,.a,.a,.a,.a,.a] rfl (by simp) ?_
 exact Ab ⟨_,rfl,tV rfl,trivial⟩
theorem Ts : PureC Tryz.prog 167 [.str [109,111,100,117,108,101]] (.bool true):=by
 refine Ae A0 Tryz.func167 (by decide +kernel) rfl [1,2] rfl rfl ?_
 refine tg [.a,.a,.a,.a,.a,.a,.a,.a,.a,.a,.a,.a,.a,.a,.a,.a] rfl (by simp) ?_
 exact Ab ⟨_,rfl,tV rfl,trivial⟩
theorem Tr : PureC Tryz.prog 167 [.str [111,117,116]] (.bool true):=by
 refine Ae A0 Tryz.func167 (by decide +kernel) rfl [1,2] rfl rfl ?_
 refine tg [.a,.a,.a,.a,.a,.a,.a,.a,.a,.a,.a,.a,.a,.a,.a,.a,.a] rfl (by simp) ?_
 exact Ab ⟨_,rfl,tV rfl,trivial⟩
theorem Tq : PureC Tryz.prog 167 [.str [112,97,117,115,101]] (.bool true):=by
 refine Ae A0 Tryz.func167 (by decide +kernel) rfl [1,2] rfl rfl ?_
 refine tg [.a,.a,.a,.a,.a,.a,.a,.a,.a,.a,.a,.a,.a,.a,.a,.a,.a,.a] rfl (by simp) ?_
 exact Ab ⟨_,rfl,tV rfl,trivial⟩
theorem Tp : PureC Tryz.prog 167 [.str [112,117,116]] (.bool true):=by
 refine Ae A0 Tryz.func167 (by decide +kernel) rfl [1,2] rfl rfl ?_
 refine tg [.a,.a,.a,.a,.a,.a,.a,.a,.a,.a,.a,.a,.a,.a,.a,.a,.a,.a,.a] rfl (by simp) ?_
 exact Ab ⟨_,rfl,tV rfl,trivial⟩
theorem To : PureC Tryz.prog 167 [.str [114,101,115,101,116]] (.bool true):=by
 refine Ae A0 Tryz.func167 (by decide +kernel) rfl [1,2] rfl rfl ?_
 refine tg [.a,.a,.a,.a,.a,.a,.a,.a,.a,.a,.a,.a,.a,.a,.a,.a,.a,.a,.a,.a] rfl (by simp) ?_
 exact Ab ⟨_,rfl,tV rfl,trivial⟩
theorem Tn : PureC Tryz.prog 167 [.str [115,101,110,100]] (.bool true):=by
 refine Ae A0 Tryz.func167 (by decide +kernel) rfl [1,2] rfl rfl ?_
 refine tg [.a,.a,.a,.a,.a,.a,.a,.a,.a,.a,.a,.a,.a,.a,.a,.a,.a,.a,.a,.a,.a] rfl (by simp) ?_
 exact Ab ⟨_,rfl,tV rfl,trivial⟩
theorem Tl : PureC Tryz.prog 167 [.str [115,104,105,102,116]] (.bool true):=by
 refine Ae A0 Tryz.func167 (by decide +kernel) rfl [1,2] rfl rfl ?_
 refine tg [.a,.a,.a,.a,.a,.a,.a,.a,.a,.a,.a,.a,.a,.a,.a,.a,.a,.a,.a,.a,.a,.a] rfl (by simp) ?_
 exact Ab ⟨_,rfl,tV rfl,trivial⟩
theorem Tk : PureC Tryz.prog 167 [.str [115,112,97,119,110]] (.bool true):=by
 refine Ae A0 Tryz.func167 (by decide +kernel) rfl [1,2] rfl rfl ?_
 refine tg [.a,.a,.a,.a,.a,.a,.a,.a,.a,.a,.a,.a,.a,.a,.a,.a,.a,.a,.a,.a,.a,.a,.a] rfl (by simp) ?_
 exact Ab ⟨_,rfl,tV rfl,trivial⟩
theorem Tj : PureC Tryz.prog 167 [.str [116,97,107,101]] (.bool true):=by
 refine Ae A0 Tryz.func167 (by decide +kernel) rfl [1,2] rfl rfl ?_
 refine tg [.a,.a,.a,.a,.a,.a,.a,.a,.a,.a,.a,.a,.a,.a,.a,.a,.a,.a,.a,.a,.a,.a,.a,.a] rfl (by simp) ?_
 exact Ab ⟨_,rfl,tV rfl,trivial⟩
theorem Ti : PureC Tryz.prog 167 [.str [116,97,115,107]] (.bool true):=by
 refine Ae A0 Tryz.func167 (by decide +kernel) rfl [1,2] rfl rfl ?_
 refine tg [.a,.a,.a,.a,.a,.a,.a,.a,.a,.a,.a,.a,.a,.a,.a,.a,.a,.a,.a,.a,.a,.a,.a,.a,.a] rfl (by simp) ?_
 exact Ab ⟨_,rfl,tV rfl,trivial⟩
theorem Th : PureC Tryz.prog 167 [.str [116,104,101,110]] (.bool true):=by
 refine Ae A0 Tryz.func167 (by decide +kernel) rfl [1,2] rfl rfl ?_
 refine tg [.a,.a,.a,.a,.a,.a,.a,.a,.a,.a,.a,.a,.a,.a,.a,.a,.a,.a,.a,.a,.a,.a,.a,.a,.a,.a] rfl (by simp) ?_
 exact Ab ⟨_,rfl,tV rfl,trivial⟩
theorem Tg : PureC Tryz.prog 167 [.str [116,114,117,101]] (.bool true):=by
 refine Ae A0 Tryz.func167 (by decide +kernel) rfl [1,2] rfl rfl ?_
 refine tg [.a,.a,.a,.a,.a,.a,.a,.a,.a,.a,.a,.a,.a,.a,.a,.a,.a,.a,.a,.a,.a,.a,.a,.a,.a,.a,.a] rfl (by simp) ?_
 exact Ab ⟨_,rfl,tV rfl,trivial⟩
theorem Tf : PureC Tryz.prog 167 [.str [116,121,112,101]] (.bool true):=by
 refine Ae A0 Tryz.func167 (by decide +kernel) rfl [1,2] rfl rfl ?_
 refine tg [.a,.a,.a,.a,.a,.a,.a,.a,.a,.a,.a,.a,.a,.a,.a,.a,.a,.a,.a,.a,.a,.a,.a,.a,.a,.a,.a,.a] rfl (by simp) ?_
 exact Ab ⟨_,rfl,tV rfl,trivial⟩
theorem Te : PureC Tryz.prog 167 [.str [117,110,105,116]] (.bool true):=by
 refine Ae A0 Tryz.func167 (by decide +kernel) rfl [1,2] rfl rfl ?_
 refine tg [.a,.a,.a,.a,.a,.a,.a,.a,.a,.a,.a,.a,.a,.a,.a,.a,.a,.a,.a,.a,.a,.a,.a,.a,.a,.a,.a,.a,.a] rfl (by simp) ?_
 exact Ab ⟨_,rfl,tV rfl,trivial⟩
theorem Tc (s : Str) : PureC Tryz.prog 167 [.str s] (.bool (PY s)):=by
 cases h : PY s with
 | false=>exact Td s h
 | true =>
  simp only [PY,FO,Ed,Bool.or_eq_true,beq_iff_eq,Bool.or_false] at h
  rcases h with rfl | rfl | rfl | rfl | rfl | rfl | rfl | rfl | rfl | rfl | rfl | rfl | rfl | rfl | rfl | rfl | rfl | rfl | rfl | rfl | rfl | rfl | rfl | rfl | rfl | rfl | rfl | rfl
  ·exact VP
  ·exact VO
  ·exact VN
  ·exact VM
  ·exact VL
  ·exact VK
  ·exact VJ
  ·exact VI
  ·exact VH
  ·exact VG
  ·exact Tw
  ·exact Tv
  ·exact Tu
  ·exact Tt
  ·exact Ts
  ·exact Tr
  ·exact Tq
  ·exact Tp
  ·exact To
  ·exact Tn
  ·exact Tl
  ·exact Tk
  ·exact Tj
  ·exact Ti
  ·exact Th
  ·exact Tg
  ·exact Tf
  ·exact Te
theorem E8 (s : Str) : PureC Tryz.prog 146 [.str s] (.bool (CT s)):=by
 refine Ae A0 Tryz.func146 (by decide +kernel) rfl [1,2] rfl rfl ?_
 refine tg [] rfl (by simp) ?_
 refine Ac rfl (v:=.bool (CO s)) (fun h=>Oq s) (by simp [Af]) ?_
 refine tg [] rfl (by simp) ?_
 refine Ac rfl (v:=.bool (PY s)) (fun h=>Tc s) (by simp [Af]) ?_
 refine tg [] rfl (by simp) ?_
 refine Ab ⟨_,rfl,tV (congrArg _ ?_),trivial⟩
 cases s with
 | nil=>simp [CT]
 | cons a r=>simp [CT];norm_cast;simp
theorem Cr (s : Str) : PureC Tryz.prog 157 [.str s] (.bool (Cl s)):=by
 refine Ae A0 Tryz.func157 (by decide +kernel) rfl [1,2] rfl rfl ?_
 refine tg [] rfl (by cases s with | nil=>simp [Af] | cons a r=>simp [Af];omega) ?_
 refine Ac rfl (v:=.bool (CO (s.drop 1))) (fun h=>Oq _) (by simp [Af]) ?_
 refine tg [] rfl (by simp) ?_
 refine Ab ⟨_,rfl,tV (congrArg _ ?_),trivial⟩
 cases s with
 | nil=>simp [Cl]
 | cons a r=>simp [Cl,UInt8.le_iff_toNat_le,Bool.and_assoc];norm_cast;simp
def B1 (n : Int) : Bool:=decide (-1000000000 ≤ n) && decide (n ≤ 1000000000)
theorem G4 (n : Int) : PureC Tryz.prog 156 [.int .i64 n] (.bool (B1 n)):=by
 refine Ae A0 Tryz.func156 (by decide +kernel) rfl [1,2] rfl rfl ?_
 refine tg [] rfl (by simp) ?_
 refine Ab ⟨_,rfl,tV (congrArg _ ?_),trivial⟩
 simp [B1]
def FC : D:=.imm (.tup [])
theorem Iz (holes : Bool) : ∀ (t : Ty),BJ holes t = true → AU Tryz.prog 152 [.imm (.agg (dTyc t)),.imm (.bool holes)] [] (.ret FC [])
 | .mk s n x ps,hy=>by
  refine CL 0 rfl fun hok=>?_
  have hv : ps.length ≤ 9223372036854775807:=by
   simp [Bt,Dd,dTyc,maxLen] at hok
   have:=hok.1
   omega
  simp only [BJ,Bool.and_eq_true_iff] at hy
  refine Ae A0 Tryz.func152 (by decide +kernel) rfl [1,2,3] rfl rfl ?_
  have J : ∀ p : Nat,Bh holes s n x ps.length = (((ps.length : Int) == (p : Int)) && (s == 9 || n == 0) && (s == 8 || x == [])) → DGo Tryz.prog Tryz.f152.ntmps (Dk []) (Og ZP Tryz.f152.results.toList (.ret FC []))
    [.code (Fh Tryz.f152 3)] [(4,.imm (.int .i64 p)),(1,.imm (.bool holes)),(2,.ref 1 0)] [(1,some (.immb 26 4 (dTyc (.mk s n x ps))))] [2,3]:=by
   intro p hp
   have hc : (((ps.length : Int) == (p : Int)) && (s == 9 || n == 0) && (s == 8 || x == [])) = true:=by rw [← hp];exact hy.1
   refine td [] rfl (by simp [Af];grind) ?_
   refine Ac rfl (fun _=>AD _ ?_) (by simp) ?_
   ·simp at hc ⊢;grind
   refine tg [] rfl (by simp) ?_
   refine Ah (fun i : Nat=>[(69,.imm (.int .i64 i)),(68,.imm (.int .i64 ps.length)),(67,.imm (.sl (A9 ps))),(1,.imm (.bool holes)),(2,.ref 1 0)]) (fun _=>[(1,some (.immb 26 4 (dTyc (.mk s n x ps))))]) [2,3] (fun i=>ps.length - i)
    (fun i=>i ≤ ps.length ∧ BI holes (ps.drop i) = true) 0 ⟨Nat.zero_le _,hy.2⟩ ⟨rfl,As (by simp),rfl,rfl,rfl,trivial⟩ ⟨rfl,trivial⟩ rfl fun i hi ih=>?_
   refine td [] rfl (by simp) ?_
   have hi2:=hi.2
   refine Aa rfl (fun h=>?_) (fun h=>?_)
   ·simp at h
    obtain ⟨t,ht⟩:=Ai h
    rw [Al ht] at hi2
    simp only [BI,Bool.and_eq_true_iff] at hi2
    refine td [] rfl (by simp) ?_
    refine ti rfl (c:=dTyc t) (fun _=>⟨by simp,by simpa using Ao ht,by simp⟩) (by simp) ?_
    refine tg [] rfl (by simp) ?_
    refine Az (fr:=[]) [] [] rfl (by simp) (Iz holes t hi2.1) trivial rfl rfl rfl rfl ?_
    refine tg [] rfl (by simp) ?_
    exact Ad (ih (i + 1) (by omega) ⟨by omega,hi2.2⟩) ⟨As (Bw (by omega) (by omega)),rfl,rfl,rfl,rfl,trivial⟩ ⟨rfl,trivial⟩ rfl
   ·refine td [] rfl (by simp) ?_
    exact B3 ⟨_,rfl,rfl,trivial⟩
  by_cases h1 : s = 1
  ·subst h1
   refine tg [.a,.a,.s] rfl (by simp) ?_
   exact Ad (J 0 (by simp [Bh])) ⟨rfl,rfl,rfl,trivial⟩ ⟨rfl,trivial⟩ rfl
  by_cases h2 : s = 2
  ·subst h2
   refine tg [.a,.a,.a,.s] rfl (by simp) ?_
   exact Ad (J 0 (by simp [Bh])) ⟨rfl,rfl,rfl,trivial⟩ ⟨rfl,trivial⟩ rfl
  by_cases h3 : s = 3
  ·subst h3
   refine tg [.a,.a,.a,.s] rfl (by simp) ?_
   exact Ad (J 0 (by simp [Bh])) ⟨rfl,rfl,rfl,trivial⟩ ⟨rfl,trivial⟩ rfl
  by_cases h4 : s = 4
  ·subst h4
   refine tg [.a,.a,.a,.a,.s] rfl (by simp) ?_
   exact Ad (J 2 (by simp [Bh])) ⟨rfl,rfl,rfl,trivial⟩ ⟨rfl,trivial⟩ rfl
  by_cases h5 : s = 5
  ·subst h5
   refine tg [.a,.a,.a,.a,.a,.a,.s] rfl (by simp) ?_
   exact Ad (J 1 (by simp [Bh])) ⟨rfl,rfl,rfl,trivial⟩ ⟨rfl,trivial⟩ rfl
  by_cases h6 : s = 6
  ·subst h6
   refine tg [.a,.a,.a,.a,.a,.a,.a,.s] rfl (by simp) ?_
   exact Ad (J 1 (by simp [Bh])) ⟨rfl,rfl,rfl,trivial⟩ ⟨rfl,trivial⟩ rfl
  by_cases h7 : s = 7
  ·subst h7
   refine tg [.a,.a,.a,.a,.a,.a,.a,.s] rfl (by simp) ?_
   exact Ad (J 1 (by simp [Bh])) ⟨rfl,rfl,rfl,trivial⟩ ⟨rfl,trivial⟩ rfl
  by_cases h8 : s = 8
  ·subst h8
   by_cases hg : Cl x = true
   ·refine tg [.a,.a,.a,.a,.a,.a,.a,.a] rfl (by simp [Af]) ?_
    refine Ac rfl (fun _=>Cr x) (by simp) ?_
    refine tg [] rfl (by simp) ?_
    refine Ac rfl (fun _=>AD _ hg) (by simp) ?_
    refine tg [.s] rfl (by simp) ?_
    exact Ad (J 0 (by simp [Bh,hg])) ⟨rfl,rfl,rfl,trivial⟩ ⟨rfl,trivial⟩ rfl
   ·exfalso
    have:=hy.1
    simp [Bh] at this
    simp at hg
    grind
  by_cases h9 : s = 9
  ·subst h9
   by_cases hg : (holes && Eo n 0 99) = true
   ·refine tg [.a,.a,.a,.a,.a,.a,.a,.a,.a] rfl (by simp [Af]) ?_
    refine Ac rfl (fun _=>AD _ (by simp [Eo] at hg ⊢;grind)) (by simp) ?_
    refine tg [.s] rfl (by simp) ?_
    exact Ad (J 0 (by simp [Bh,Eo] at hg ⊢;grind)) ⟨rfl,rfl,rfl,trivial⟩ ⟨rfl,trivial⟩ rfl
   ·exfalso
    have:=hy.1
    simp [Bh] at this
    simp at hg
    grind
  exfalso
  have:=hy.1
  simp [Bh,h1,h2,h3,h4,h5,h6,h7,h8,h9] at this
termination_by t=>SizeOf.sizeOf t
decreasing_by
 all_goals
  have:=List.sizeOf_lt_of_mem (List.mem_of_getElem? ht)
  simp_wf
  omega
theorem Oo (holes : Bool) : ∀ (t : Ty),BJ holes t = false → AU Tryz.prog 152 [.imm (.agg (dTyc t)),.imm (.bool holes)] [] (.pan Dw)
 | .mk s n x ps,hy=>by
  refine CL 0 rfl fun hok=>?_
  have hv : ps.length ≤ 9223372036854775807:=by
   simp [Bt,Dd,dTyc,maxLen] at hok
   have:=hok.1
   omega
  simp only [BJ,Bool.and_eq_false_iff] at hy
  refine Ae A0 Tryz.func152 (by decide +kernel) rfl [1,2,3] rfl rfl ?_
  have J : ∀ p : Nat,Bh holes s n x ps.length = (((ps.length : Int) == (p : Int)) && (s == 9 || n == 0) && (s == 8 || x == [])) → DGo Tryz.prog Tryz.f152.ntmps (Dk []) (Og ZP Tryz.f152.results.toList (.pan Dw))
    [.code (Fh Tryz.f152 3)] [(4,.imm (.int .i64 p)),(1,.imm (.bool holes)),(2,.ref 1 0)] [(1,some (.immb 26 4 (dTyc (.mk s n x ps))))] [2,3]:=by
   intro p hp
   by_cases hc : (((ps.length : Int) == (p : Int)) && (s == 9 || n == 0) && (s == 8 || x == [])) = true
   rotate_left
   ·refine td [] rfl (by simp [Af];grind) ?_
    exact Ar [] rfl (by simp) (Be _ (by simp at hc ⊢;grind)) trivial rfl rfl
   rw [hp,hc] at hy
   simp only [Bool.true_eq_false,false_or] at hy
   refine td [] rfl (by simp [Af];grind) ?_
   refine Ac rfl (fun _=>AD _ ?_) (by simp) ?_
   ·simp at hc ⊢;grind
   refine tg [] rfl (by simp) ?_
   refine Ah (fun i : Nat=>[(69,.imm (.int .i64 i)),(68,.imm (.int .i64 ps.length)),(67,.imm (.sl (A9 ps))),(1,.imm (.bool holes)),(2,.ref 1 0)]) (fun _=>[(1,some (.immb 26 4 (dTyc (.mk s n x ps))))]) [2,3] (fun i=>ps.length - i)
    (fun i=>i ≤ ps.length ∧ BI holes (ps.drop i) = false) 0 ⟨Nat.zero_le _,hy⟩ ⟨rfl,As (by simp),rfl,rfl,rfl,trivial⟩ ⟨rfl,trivial⟩ rfl fun i hi ih=>?_
   refine td [] rfl (by simp) ?_
   have hi2:=hi.2
   refine Aa rfl (fun h=>?_) (fun h=>?_)
   ·simp at h
    obtain ⟨t,ht⟩:=Ai h
    rw [Al ht] at hi2
    simp only [BI,Bool.and_eq_false_iff] at hi2
    refine td [] rfl (by simp) ?_
    refine ti rfl (c:=dTyc t) (fun _=>⟨by simp,by simpa using Ao ht,by simp⟩) (by simp) ?_
    refine tg [] rfl (by simp) ?_
    by_cases hz : BJ holes t = true
    ·refine Az (fr:=[]) [] [] rfl (by simp) (Iz holes t hz) trivial rfl rfl rfl rfl ?_
     refine tg [] rfl (by simp) ?_
     exact Ad (ih (i + 1) (by omega) ⟨by omega,by rw [hz] at hi2;simpa using hi2⟩) ⟨As (Bw (by omega) (by omega)),rfl,rfl,rfl,rfl,trivial⟩ ⟨rfl,trivial⟩ rfl
    ·exact Ar [] rfl (by simp) (Oo holes t (by simpa using hz)) trivial rfl rfl
   ·exfalso
    simp at h
    rw [List.drop_eq_nil_of_le (by omega)] at hi2
    simp [BI] at hi2
  by_cases h1 : s = 1
  ·subst h1
   refine tg [.a,.a,.s] rfl (by simp) ?_
   exact Ad (J 0 (by simp [Bh])) ⟨rfl,rfl,rfl,trivial⟩ ⟨rfl,trivial⟩ rfl
  by_cases h2 : s = 2
  ·subst h2
   refine tg [.a,.a,.a,.s] rfl (by simp) ?_
   exact Ad (J 0 (by simp [Bh])) ⟨rfl,rfl,rfl,trivial⟩ ⟨rfl,trivial⟩ rfl
  by_cases h3 : s = 3
  ·subst h3
   refine tg [.a,.a,.a,.s] rfl (by simp) ?_
   exact Ad (J 0 (by simp [Bh])) ⟨rfl,rfl,rfl,trivial⟩ ⟨rfl,trivial⟩ rfl
  by_cases h4 : s = 4
  ·subst h4
   refine tg [.a,.a,.a,.a,.s] rfl (by simp) ?_
   exact Ad (J 2 (by simp [Bh])) ⟨rfl,rfl,rfl,trivial⟩ ⟨rfl,trivial⟩ rfl
  by_cases h5 : s = 5
  ·subst h5
   refine tg [.a,.a,.a,.a,.a,.a,.s] rfl (by simp) ?_
   exact Ad (J 1 (by simp [Bh])) ⟨rfl,rfl,rfl,trivial⟩ ⟨rfl,trivial⟩ rfl
  by_cases h6 : s = 6
  ·subst h6
   refine tg [.a,.a,.a,.a,.a,.a,.a,.s] rfl (by simp) ?_
   exact Ad (J 1 (by simp [Bh])) ⟨rfl,rfl,rfl,trivial⟩ ⟨rfl,trivial⟩ rfl
  by_cases h7 : s = 7
  ·subst h7
   refine tg [.a,.a,.a,.a,.a,.a,.a,.s] rfl (by simp) ?_
   exact Ad (J 1 (by simp [Bh])) ⟨rfl,rfl,rfl,trivial⟩ ⟨rfl,trivial⟩ rfl
  by_cases h8 : s = 8
  ·subst h8
   by_cases hg : Cl x = true
   ·refine tg [.a,.a,.a,.a,.a,.a,.a,.a] rfl (by simp [Af]) ?_
    refine Ac rfl (fun _=>Cr x) (by simp) ?_
    refine tg [] rfl (by simp) ?_
    refine Ac rfl (fun _=>AD _ hg) (by simp) ?_
    refine tg [.s] rfl (by simp) ?_
    exact Ad (J 0 (by simp [Bh,hg])) ⟨rfl,rfl,rfl,trivial⟩ ⟨rfl,trivial⟩ rfl
   ·refine tg [.a,.a,.a,.a,.a,.a,.a,.a] rfl (by simp [Af]) ?_
    refine Ac rfl (fun _=>Cr x) (by simp) ?_
    refine tg [] rfl (by simp) ?_
    exact Ar [] rfl (by simp) (Be _ (by simpa using hg)) trivial rfl rfl
  by_cases h9 : s = 9
  ·subst h9
   by_cases hg : (holes && Eo n 0 99) = true
   ·refine tg [.a,.a,.a,.a,.a,.a,.a,.a,.a] rfl (by simp [Af]) ?_
    refine Ac rfl (fun _=>AD _ (by simp [Eo] at hg ⊢;grind)) (by simp) ?_
    refine tg [.s] rfl (by simp) ?_
    exact Ad (J 0 (by simp [Bh,Eo] at hg ⊢;grind)) ⟨rfl,rfl,rfl,trivial⟩ ⟨rfl,trivial⟩ rfl
   ·refine tg [.a,.a,.a,.a,.a,.a,.a,.a,.a] rfl (by simp [Af]) ?_
    exact Ar [] rfl (by simp) (Be _ (by simp [Eo] at hg ⊢;grind)) trivial rfl rfl
  refine tg [.f,.f,.f,.f,.f,.f,.f,.f,.f] rfl (by simp [h1,h2,h3,h4,h5,h6,h7,h8,h9]) ?_
  exact Ar [] rfl (by simp) (Be _ rfl) trivial rfl rfl
termination_by t=>SizeOf.sizeOf t
decreasing_by
 all_goals
  have:=List.sizeOf_lt_of_mem (List.mem_of_getElem? ht)
  simp_wf
  omega
theorem hmf : ∀ (fn : Fn) (first cap : Array Value) (w : World),(Instr.makeFunc fn first cap).run Tryz.prog w = .ok (.func fn first cap) w:=fun _ _ _ _=>rfl
theorem R0 (p : Addr) (w : World) :
  CallsD Tryz.prog 175 #[.pointer (some p)] .returning w fun e u' w'=>e = .returned (.tuple #[]) ∧ u' = .returning ∧ w' = w:=by
 refine callsD_of_wpS Tryz.func175 rfl fun c₀ cs hu=>?_
 apply wpS_seq
 apply wpS_region
 simp [wpOpsS,go_sem,recoverD,hu,Tryz.ntmps175,Exit.thenS]
 apply wpS_seq
 apply wpS_region
 simp [wpOpsS,go_sem,Exit.thenS]
 refine wpS_cond (t:=false) (by simp [Act.eval,Array.replicate]) ?_
 simp only [if_false,Bool.false_eq_true]
 refine wpS_of_wp (wp_skip ?_)
 cases c₀
 simp_all [bodyPostS,results,Tryz.results175]
theorem R1 (pb : Nat) (x : Value) (w : World) (hpb : pb < w.heap.size) (hx : w.cell? ⟨pb,0,none⟩ = some x) (hz : w.frozen? ⟨pb,0,none⟩ = false) :
  CallsD Tryz.prog 175 #[.pointer (some ⟨pb,0,none⟩)] (.panicking [{ v:=.iface 239 (.agg #[]),recovered:=false }]) w fun e u' w'=>e = .returned (.tuple #[]) ∧
   u' = .panicking [{ v:=.iface 239 (.agg #[]),recovered:=true }] ∧ w' = (w.setCell ⟨pb,0,none⟩ (.bool false)).alloc (.cells #[] 239):=by
 refine callsD_of_wpS Tryz.func175 rfl fun c₀ cs hu=>?_
 change Code.wpS _ _ _ { tmps:=#[.pointer (some ⟨pb,0,none⟩),undef,undef,undef,undef,undef,undef,undef,undef,undef,undef,undef,undef,undef,undef],defers:=[] } _ _
 apply wpS_seq
 apply wpS_region
 simp [wpOpsS,go_sem,recoverD,hu,Tryz.ntmps175,Exit.thenS]
 apply wpS_seq
 apply wpS_region
 simp [wpOpsS,go_sem,Exit.thenS]
 refine wpS_cond (t:=true) (by simp [Act.eval,Array.replicate]) ?_
 simp only [if_true]
 refine wpS_of_wp ?_
 clear hu
 have hta : ∀ w : World,(Instr.typeAssert (.iface 239 (.agg #[])) 20 239 true).run Tryz.prog w = .ok (.tuple #[.agg #[],.bool true]) w:=fun _=>by kernel_rfl
 have hx' : (w.alloc (.cells #[] 239)).cell? ⟨pb,0,none⟩ = some x:=by rw [World.cell?_alloc_past _ _ _ hpb];exact hx
 have hz' : (w.alloc (.cells #[] 239)).frozen? ⟨pb,0,none⟩ = false:=by rw [RowKit.frozen?_alloc_cells];exact hz
 go_wp2
 simp [bodyPostS,results,Tryz.results175]
theorem Ry (g : FuncId) (fi ca : Array Value) (w : World) (K : World → Prop) (Kp : World → Prop)
  (hen : (callFunc g (fi ++ ca)).run Tryz.prog (w.alloc (.cells #[.bool false] 4)) = .ok (.enter g (fi ++ ca)) (w.alloc (.cells #[.bool false] 4)))
  (hcall : Calls Tryz.prog g (fi ++ ca) (w.alloc (.cells #[.bool false] 4)) fun e w'=>match e with
   | .returned _=>K w'
   | .panicked chain=>chain = [{ v:=.iface 239 (.agg #[]),recovered:=false }] ∧ Kp w'
   | .outgrown=>False)
  (hK : ∀ w',K w' → w'.heap[w.heap.size]? = some (.cells #[.bool false] 4 (0,0))) (hKp : ∀ w',Kp w' → w'.heap[w.heap.size]? = some (.cells #[.bool false] 4 (0,0))) :
  Calls Tryz.prog 153 #[.func (.func g) fi ca] w fun e w'=>(e = .returned (.bool true) ∧ ∃ w1,K w1 ∧ w' = w1.setCell ⟨w.heap.size,0,none⟩ (.bool true)) ∨
   (e = .returned (.bool false) ∧ ∃ w1,Kp w1 ∧ w' = (w1.setCell ⟨w.heap.size,0,none⟩ (.bool false)).alloc (.cells #[] 239)):=by
 go_enter_defers Tryz.func153,Tryz.ntmps153
 have hmf:=hmf
 go_wp2_with fail
 clear hen
 refine hcall.mono ?_
 intro e w' he
 cases e with
 | outgrown=>exact he.elim
 | returned v =>
  have hc : w'.cell? ⟨w.heap.size,0,none⟩ = some (.bool false):=by unfold World.cell?;simp [hK w' he]
  have hz : w'.frozen? ⟨w.heap.size,0,none⟩ = false:=by unfold World.frozen?;simp [hK w' he]
  simp only
  go_wp2
  refine leaves_cons (f:=175) (args:=#[.pointer (some ⟨w.heap.size,0,none⟩)]) (by simp) (by simp [go_sem]) ?_
  refine (R0 ⟨w.heap.size,0,none⟩ _).mono ?_
  rintro e u' w'' ⟨rfl,rfl,rfl⟩
  simp [Leaves,settle,results,Tryz.results153,go_sem,hc]
  exact ⟨w',he,rfl⟩
 | panicked chain =>
  obtain ⟨rfl,he⟩:=he
  have hc : w'.cell? ⟨w.heap.size,0,none⟩ = some (.bool false):=by unfold World.cell?;simp [hKp w' he]
  have hz : w'.frozen? ⟨w.heap.size,0,none⟩ = false:=by unfold World.frozen?;simp [hKp w' he]
  have hlt : w.heap.size < w'.heap.size:=(Array.getElem?_eq_some_iff.1 (hKp w' he)).1
  refine leaves_cons (f:=175) (args:=#[.pointer (some ⟨w.heap.size,0,none⟩)]) (by simp) (by simp [go_sem]) ?_
  refine (R1 w.heap.size _ _ hlt hc hz).mono ?_
  rintro e u' w'' ⟨rfl,rfl,rfl⟩
  have hc2 : ((w'.setCell ⟨w.heap.size,0,none⟩ (.bool false)).alloc (.cells #[] 239)).cell? ⟨w.heap.size,0,none⟩ = some (.bool false):=by
   rw [setCell_block (hKp w' he),World.cell?_alloc_past _ _ _ (by simpa using hlt)]
   unfold World.cell?
   simp [hlt]
  simp [Leaves,settle,results,Tryz.results153,go_sem,hc2]
  exact ⟨w',he,rfl⟩
theorem holds_spec : HoldsSpec Tryz.prog 153 239 4:=fun g fi ca w K Kp h1 h2 h3 h4=>Ry g fi ca w K Kp h1 h2 h3 h4
theorem JN {g : FuncId} {fg : Func} {cg : Code} (hg : Tryz.prog.funcs[g]? = some fg) (hn : (fg.name == "runtime.NumGoroutine") = false) (hc : fg.body = some cg) {t1 : TypeId} {s1 : Nat} {x1 y1 : List V} (hE : AU Tryz.prog g [.ref 1 0] [(1, some (.immb t1 s1 x1))] (.ret FC [(1, some (.immb t1 s1 y1))])) :
  AU Tryz.prog 121 [.fn (.func g) [] [.ref 1 0]] [(1,some (.immb t1 s1 x1))] (.ret (.imm (.int .i64 0)) [(1,some (.immb t1 s1 y1))]):=by
 refine Ae A0 Tryz.func121 (by decide +kernel) rfl [2,3,4] rfl rfl ?_
 refine tg [] rfl (by simp) ?_
 refine Az (fr:=[]) [(1,1)] [] rfl (by simp) (OW Tryz.func153 (by decide +kernel) rfl holds_spec hg hn hc hE) ⟨⟨rfl,rfl,rfl⟩,trivial⟩ rfl rfl rfl rfl ?_
 refine tg [.a] rfl (by simp) ?_
 exact Ab ⟨_,rfl,tV rfl,⟨rfl,trivial⟩⟩
theorem L7 {g : FuncId} {fg : Func} {cg : Code} (hg : Tryz.prog.funcs[g]? = some fg) (hn : (fg.name == "runtime.NumGoroutine") = false) (hc : fg.body = some cg) {t1 : TypeId} {s1 : Nat} {x1 : List V} (hE : AU Tryz.prog g [.ref 1 0] [(1, some (.immb t1 s1 x1))] (.pan Dw)) :
  AU Tryz.prog 121 [.fn (.func g) [] [.ref 1 0]] [(1,some (.immb t1 s1 x1))] (.ret (.imm (.int .i64 2)) []):=by
 refine Ae A0 Tryz.func121 (by decide +kernel) rfl [2,3,4] rfl rfl ?_
 refine tg [] rfl (by simp) ?_
 refine Az (fr:=[]) [(1,1)] [] rfl (by simp) (Rx Tryz.func153 (by decide +kernel) rfl holds_spec hg hn hc hE) ⟨⟨rfl,rfl,rfl⟩,trivial⟩ rfl rfl rfl rfl ?_
 refine tg [.a] rfl (by simp) ?_
 exact Ab ⟨_,rfl,tV rfl,trivial⟩
theorem Qu {g : FuncId} {fg : Func} {cg : Code} (hg : Tryz.prog.funcs[g]? = some fg) (hn : (fg.name == "runtime.NumGoroutine") = false) (hc : fg.body = some cg) {t1 t2 : TypeId} {s1 s2 : Nat} {x1 x2 y1 y2 : List V} (hE : AU Tryz.prog g [.ref 1 0, .ref 2 0] [(1, some (.immb t1 s1 x1)), (2, some (.immb t2 s2 x2))] (.ret FC [(1, some (.immb t1 s1 y1)), (2, some (.immb t2 s2 y2))])) :
  AU Tryz.prog 121 [.fn (.func g) [] [.ref 1 0,.ref 2 0]] [(1,some (.immb t1 s1 x1)),(2,some (.immb t2 s2 x2))] (.ret (.imm (.int .i64 0)) [(1,some (.immb t1 s1 y1)),(2,some (.immb t2 s2 y2))]):=by
 refine Ae A0 Tryz.func121 (by decide +kernel) rfl [3,4,5] rfl rfl ?_
 refine tg [] rfl (by simp) ?_
 refine Az (fr:=[]) [(1,1),(2,2)] [] rfl (by simp) (OW Tryz.func153 (by decide +kernel) rfl holds_spec hg hn hc hE) ⟨⟨rfl,rfl,rfl⟩,⟨⟨rfl,rfl,rfl⟩,trivial⟩⟩ rfl rfl rfl rfl ?_
 refine tg [.a] rfl (by simp) ?_
 exact Ab ⟨_,rfl,tV rfl,⟨rfl,⟨rfl,trivial⟩⟩⟩
theorem Sn {g : FuncId} {fg : Func} {cg : Code} (hg : Tryz.prog.funcs[g]? = some fg) (hn : (fg.name == "runtime.NumGoroutine") = false) (hc : fg.body = some cg) {t1 t2 : TypeId} {s1 s2 : Nat} {x1 x2 : List V} (hE : AU Tryz.prog g [.ref 1 0, .ref 2 0] [(1, some (.immb t1 s1 x1)), (2, some (.immb t2 s2 x2))] (.pan Dw)) :
  AU Tryz.prog 121 [.fn (.func g) [] [.ref 1 0,.ref 2 0]] [(1,some (.immb t1 s1 x1)),(2,some (.immb t2 s2 x2))] (.ret (.imm (.int .i64 2)) []):=by
 refine Ae A0 Tryz.func121 (by decide +kernel) rfl [3,4,5] rfl rfl ?_
 refine tg [] rfl (by simp) ?_
 refine Az (fr:=[]) [(1,1),(2,2)] [] rfl (by simp) (Rx Tryz.func153 (by decide +kernel) rfl holds_spec hg hn hc hE) ⟨⟨rfl,rfl,rfl⟩,⟨⟨rfl,rfl,rfl⟩,trivial⟩⟩ rfl rfl rfl rfl ?_
 refine tg [.a] rfl (by simp) ?_
 exact Ab ⟨_,rfl,tV rfl,trivial⟩
def Hw (b : Bool) : V:=.int .i64 (bif b then 0 else 2)
def Bk (holes : Bool) (t : Ty) : Bool:=decide (Ak t ≤ 12) && BJ holes t
theorem RG (t : Ty) (holes : Bool) (h : Bk holes t = true) : AU Tryz.prog 150 [.ref 1 0,.ref 2 0] [(1,some (.immb 26 4 (dTyc t))),(2,some (.immb 4 1 [.bool holes]))] (.ret FC [(1,some (.immb 26 4 (dTyc t))),(2,some (.immb 4 1 [.bool holes]))]):=by
 simp only [Bk,Bool.and_eq_true,decide_eq_true_eq] at h
 refine Ae A0 Tryz.func150 (by decide +kernel) rfl [3,4,5] rfl rfl ?_
 refine tg [] rfl (by simp) ?_
 refine Az (fr:=[]) [(3,1)] [] rfl (by simp) (HM t 12 (by omega) (by decide)) ⟨⟨rfl,rfl,rfl⟩,trivial⟩ rfl rfl rfl rfl ?_
 refine tg [] rfl (by simp) ?_
 refine Az (fr:=[]) [] [] rfl (by simp) (Iz holes t h.2) trivial rfl rfl rfl rfl ?_
 refine tg [] rfl (by simp) ?_
 exact B3 ⟨_,rfl,rfl,⟨rfl,rfl,trivial⟩⟩
theorem T7 (t : Ty) (holes : Bool) (h : Bk holes t = false) : AU Tryz.prog 150 [.ref 1 0,.ref 2 0] [(1,some (.immb 26 4 (dTyc t))),(2,some (.immb 4 1 [.bool holes]))] (.pan Dw):=by
 simp only [Bk,Bool.and_eq_false_iff,decide_eq_false_iff_not] at h
 refine Ae A0 Tryz.func150 (by decide +kernel) rfl [3,4,5] rfl rfl ?_
 refine tg [] rfl (by simp) ?_
 by_cases h1 : Ak t ≤ 12
 ·refine Az (fr:=[]) [(3,1)] [] rfl (by simp) (HM t 12 (by omega) (by decide)) ⟨⟨rfl,rfl,rfl⟩,trivial⟩ rfl rfl rfl rfl ?_
  refine tg [] rfl (by simp) ?_
  exact Ar [] rfl (by simp) (Oo holes t (by simpa [h1] using h)) trivial rfl rfl
 ·exact Ar [(3,1)] rfl (by simp) (R9 t 12 (by omega) (by decide) (by decide)) ⟨⟨rfl,rfl,rfl⟩,trivial⟩ rfl rfl
theorem Pb (t : Ty) (holes : Bool) : PureC Tryz.prog 119 [.agg (dTyc t),.bool holes] (Hw (Bk holes t)):=by
 refine Ae A0 Tryz.func119 (by decide +kernel) rfl [1,2,3] rfl rfl ?_
 refine tg [] rfl (by simp) ?_
 cases h : Bk holes t with
 | true =>
  refine Az (fr:=[]) [(1,1),(2,2)] [] rfl (by simp) (Qu Tryz.func150 (by decide +kernel) rfl (RG t holes h)) ⟨⟨rfl,rfl,rfl⟩,⟨rfl,rfl,rfl⟩,trivial⟩ rfl rfl rfl rfl ?_
  refine tg [] rfl (by simp) ?_
  exact Ab ⟨_,rfl,tV rfl,trivial⟩
 | false =>
  refine Az (fr:=[]) [(1,1),(2,2)] [] rfl (by simp) (Sn Tryz.func150 (by decide +kernel) rfl (T7 t holes h)) ⟨⟨rfl,rfl,rfl⟩,⟨rfl,rfl,rfl⟩,trivial⟩ rfl rfl rfl rfl ?_
  refine tg [] rfl (by simp) ?_
  exact Ab ⟨_,rfl,tV rfl,trivial⟩
theorem Q4 (t : Ty) : PureC Tryz.prog 88 [.agg (dTyc t)] (Hw (Bk true t)):=by
 refine Ae A0 Tryz.func88 (by decide +kernel) rfl [1,2,3] rfl rfl ?_
 refine tg [] rfl (by simp) ?_
 refine Ac rfl (fun _=>Pb t true) (by simp [Af]) ?_
 refine tg [] rfl (by simp) ?_
 exact Ab ⟨_,rfl,tV rfl,trivial⟩
theorem Mh (t : Ty) : PureC Tryz.prog 173 [.agg (dTyc t)] (.bool (Bk false t)):=by
 refine Ae A0 Tryz.func173 (by decide +kernel) rfl [1,2,3] rfl rfl ?_
 refine tg [] rfl (by simp) ?_
 refine Ac rfl (fun _=>Pb t false) (by simp [Af]) ?_
 refine tg [] rfl (by simp) ?_
 refine Ab ⟨_,rfl,tV (congrArg _ ?_),trivial⟩
 cases Bk false t <;> rfl
def ZR : TT:=ZP ++ [
 (195,⟨.map 9 4,false,1,8,[.imm .nilmap]⟩)]
theorem E7 : TTok Tryz.prog ZR:=.of_eq (l:=[4,3,9,141,26,50,138,27,5,24,23,57,139,48,143,147,75,22,145,72,70,38,239,192,1,195]) (by kernel_rfl)
section
variable {n : Nat} {F : List Nat} {Q : DQ} {env env' : Env} {st st' : St} {ids ids' : List Nat} {k todo : List DI} {ob : List Prop}
theorem pd (path : List Pt) (h : run ZR n 300 path todo env st ids [] = .at k env' st' ids' ob) (hob : A1 ob) (hd : G Tryz.prog n F Q k env' st' ids') : DGo Tryz.prog n F Q todo env st ids:=L5 E7 mixed 300 path h hob hd
theorem pg (path : List Pt) (h : run ZR n 300 path todo env st ids [] = .at k env' st' ids' ob) (hob : A1 ob) (hd : G Tryz.prog n F Q k env' st' ids') : G Tryz.prog n F Q todo env st ids:=J2 E7 mixed 300 path h hob hd
theorem pi {es : List (List V)} {m : Int} {sz : Nat} {e : TypeId} {g : Option (Bool × Bool)} {ob : List Prop} {t : Nat} {todo' : List DI} {c : List V} (h : NQ ZR n env todo = some ⟨es,m,sz,e,g,ob,some t,todo'⟩)
  (hc : Af g → 0 ≤ m ∧ es[m.toNat]? = some c ∧ c.length = sz) (hob : A1 ob) (hk : G Tryz.prog n F Q todo' ((t,gD g (.ip e c 0)) :: env) st ids) : G Tryz.prog n F Q todo env st ids:=Fx E7 h hc hob hk
end
def setK (l : List Str) : List (V × V):=l.map fun s=>(.str s,.bool true)
def NO (l : List Str) : Blk:=.map (setK l)
theorem Kj (l : List Str) : ∀ p ∈ setK l,G0 .str p.1 = true:=by
 intro p hp
 obtain ⟨s,_,rfl⟩:=List.mem_map.1 hp
 rfl
theorem Yp (s x : Str) : (s == x) = (x == s):=by
 rw [Bool.eq_iff_iff,beq_iff_eq,beq_iff_eq];exact ⟨Eq.symm,Eq.symm⟩
theorem Vp (l : List Str) (s : Str) : By (setK l) (.str s) = if Ed l s then some (.bool true) else none:=by
 induction l with
 | nil=>rfl
 | cons x r ih =>
  simp only [setK,List.map_cons,By,RQ,Ed] at ih ⊢
  rw [ih]
  by_cases h : x = s
  ·subst h;simp
  ·have h1 : (s == x) = false:=by simpa using fun e=>h e.symm
   have h2 : (x == s) = false:=by simpa using h
   simp [h1,h2]
theorem Oy (l : List Str) (s : Str) : CU false (setK l) (.str s) (.bool false) = .imm (.bool (Ed l s)):=by
 simp only [CU,Vp]
 cases Ed l s <;> rfl
theorem WR (l : List Str) (s : Str) (h : Ed l s = false) : CY (setK l) (.str s) (.bool true) = setK (l ++ [s]):=by
 induction l with
 | nil=>rfl
 | cons x r ih =>
  simp only [Ed,Bool.or_eq_false_iff] at h
  have h1 : (s == x) = false:=by rw [Yp];exact h.1
  simp only [setK,List.map_cons,CY,RQ,h1,List.cons_append] at ih ⊢
  simp [ih h.2]
theorem Ee : ∀ (a b p : List Str),A3 p (a ++ b) = (A3 p a && A3 (p ++ a) b)
 | [],b,p=>by simp [A3]
 | x :: r,b,p=>by simp [A3,Ee r b (p ++ [x]),Bool.and_assoc]
theorem Kc : ∀ (t : Ty) (met : List Str),(AH t && A3 met (Am t)) = true → AU Tryz.prog 124 [.imm (.agg (dTyc t)),.mapr 1] [(1,some (NO met))] (.ret FC [(1,some (NO (met ++ Am t)))])
 | .mk s n x ps,met,hy=>by
  refine CL 0 rfl fun hok=>?_
  have hv : ps.length ≤ 9223372036854775807:=by
   simp [Bt,Dd,dTyc,maxLen] at hok
   have:=hok.1
   omega
  refine Ae E7 Tryz.func124 (by decide +kernel) rfl [2,3,4] rfl rfl ?_
  have J : ∀ m0 : List Str,(AE ps && A3 m0 (Au ps)) = true → m0 ++ Au ps = met ++ Am (.mk s n x ps) → DGo Tryz.prog Tryz.f124.ntmps (Dk [(1,some (NO met))]) (Og ZR Tryz.f124.results.toList (.ret FC [(1,some (NO (met ++ Am (.mk s n x ps))))]))
    [.code (Fh Tryz.f124 2)] [(1,.mapr 1),(2,.ref 2 0)] [(2,some (.immb 50 4 (dTyc (.mk s n x ps)))),(1,some (NO m0))] [3,4]:=by
   intro m0 hy he
   refine pd [] rfl (by simp) ?_
   refine Ah (fun i : Nat=>[(113,.imm (.int .i64 i)),(112,.imm (.int .i64 ps.length)),(111,.imm (.sl (A9 ps))),(1,.mapr 1),(2,.ref 2 0)]) (fun i=>[(2,some (.immb 50 4 (dTyc (.mk s n x ps)))),(1,some (NO (m0 ++ Au (ps.take i))))]) [3,4] (fun i=>ps.length - i)
    (fun i=>i ≤ ps.length ∧ (AE (ps.drop i) && A3 (m0 ++ Au (ps.take i)) (Au (ps.drop i))) = true) 0 ⟨Nat.zero_le _,by simpa [Au] using hy⟩ ⟨rfl,As (by simp),rfl,rfl,rfl,trivial⟩ ⟨rfl,by simp [Au];rfl,trivial⟩ rfl fun i hi ih=>?_
   refine pd [] rfl (by simp) ?_
   have hi2:=hi.2
   refine Aa rfl (fun h=>?_) (fun h=>?_)
   ·simp at h
    obtain ⟨t,ht⟩:=Ai h
    have htk : Au (ps.take (i + 1)) = Au (ps.take i) ++ Am t:=by rw [AI ht,CJ];simp [Au]
    rw [Al ht] at hi2
    simp only [AE,Au,Ee] at hi2
    refine pd [] rfl (by simp) ?_
    refine pi rfl (c:=dTyc t) (fun _=>⟨by simp,by simpa using Ao ht,by simp⟩) (by simp) ?_
    refine pg [] rfl (by simp) ?_
    refine Az (fr:=[]) [(1,1)] [] rfl (by simp) (Kc t (m0 ++ Au (ps.take i)) (by simp only [Bool.and_eq_true] at hi2 ⊢;exact ⟨hi2.1.1,hi2.2.1⟩)) ⟨⟨rfl,rfl,rfl⟩,trivial⟩ rfl rfl rfl rfl ?_
    refine pg [] rfl (by simp) ?_
    exact Ad (ih (i + 1) (by omega) ⟨by omega,by rw [htk,← List.append_assoc];simp only [Bool.and_eq_true] at hi2 ⊢;exact ⟨hi2.1.2,hi2.2.2⟩⟩) ⟨As (Bw (by omega) (by omega)),rfl,rfl,rfl,rfl,trivial⟩ ⟨rfl,by rw [htk,← List.append_assoc];rfl,trivial⟩ rfl
   ·refine pd [] rfl (by simp) ?_
    simp at h
    refine B3 ⟨_,rfl,rfl,⟨?_,trivial⟩⟩
    rw [List.take_of_length_le (by omega),he]
    rfl
  simp only [AH,Bool.and_eq_true] at hy
  obtain ⟨⟨hp,hps⟩,hdf⟩:=hy
  by_cases h1 : s = 1
  ·subst h1
   simp [Cz,Eo] at hp
   refine pg [.a,.a] rfl (by simp [Af] <;> grind) ?_
   refine Ac rfl (fun _=>AD _ (by simp [B1] at hp ⊢;grind)) (by simp) ?_
   refine pg [.s] rfl (by simp) ?_
   exact Ad (J met (by simpa [Am,hps] using hdf) (by simp [Am])) ⟨rfl,rfl,trivial⟩ ⟨rfl,rfl,trivial⟩ rfl
  by_cases h5 : s = 5
  ·subst h5
   simp [Cz,Eo] at hp
   refine pg [.a,.a] rfl (by simp [Af] <;> grind) ?_
   refine Ac rfl (fun _=>AD _ (by simp [B1] at hp ⊢;grind)) (by simp) ?_
   refine pg [.s] rfl (by simp) ?_
   exact Ad (J met (by simpa [Am,hps] using hdf) (by simp [Am])) ⟨rfl,rfl,trivial⟩ ⟨rfl,rfl,trivial⟩ rfl
  by_cases h3 : s = 3
  ·subst h3
   simp [Cz,Eo] at hp
   refine pg [.a,.a,.a,.a] rfl (by simp [Af] <;> grind) ?_
   refine Ac rfl (fun _=>G4 n) (by simp [Af]) ?_
   refine pg [] rfl (by simp [Af]) ?_
   refine Ac rfl (fun _=>AD _ (by simp [B1] at hp ⊢;grind)) (by simp) ?_
   refine pg [.s] rfl (by simp) ?_
   exact Ad (J met (by simpa [Am,hps] using hdf) (by simp [Am])) ⟨rfl,rfl,trivial⟩ ⟨rfl,rfl,trivial⟩ rfl
  by_cases h4 : s = 4
  ·subst h4
   simp [Cz,Eo] at hp
   refine pg [.a,.a,.a,.a,.a] rfl (by simp [Af] <;> grind) ?_
   refine Ac rfl (fun _=>AD _ (by obtain ⟨⟨rfl,rfl⟩,ha,hb⟩:=hp;have : n = 0 ∨ n = 1:=(by omega);rcases this with rfl | rfl <;> simp)) (by simp) ?_
   refine pg [.s] rfl (by simp) ?_
   exact Ad (J met (by simpa [Am,hps] using hdf) (by simp [Am])) ⟨rfl,rfl,trivial⟩ ⟨rfl,rfl,trivial⟩ rfl
  by_cases h6 : s = 6
  ·subst h6
   simp [Cz,Eo] at hp
   refine pg [.a,.a,.a,.a,.a,.a] rfl (by simp [Af] <;> grind) ?_
   refine Ac rfl (fun _=>Cr x) (by simp [Af]) ?_
   refine pg [] rfl (by simp [Af]) ?_
   refine Ac rfl (fun _=>AD _ (by simp [B1] at hp ⊢;grind)) (by simp) ?_
   refine pg [.s] rfl (by simp) ?_
   exact Ad (J met (by simpa [Am,hps] using hdf) (by simp [Am])) ⟨rfl,rfl,trivial⟩ ⟨rfl,rfl,trivial⟩ rfl
  by_cases h2 : s = 2
  ·subst h2
   simp [Cz,Eo] at hp
   refine pg [.a,.a,.a] rfl (by simp [Af] <;> grind) ?_
   refine Ac rfl (fun _=>E8 x) (by simp [Af]) ?_
   refine pg [] rfl (by simp [Af]) ?_
   have hx : Ed met x = false:=by simpa [Am,A3] using hdf
   refine UL E7 1 rfl rfl rfl (Kj met) (by simp [Af]) (z:=.bool false) rfl (fun _=>.bool _) (Oy met x) ?_
   refine pg [] rfl (by simp [Af]) ?_
   refine Ac rfl (fun _=>AD _ (by simp at hp ⊢;rw [hx];grind)) (by simp) ?_
   refine pg [] rfl (by simp) ?_
   refine T4 E7 rfl rfl rfl (Kj met) ?_
   rw [WR met x hx]
   have he : ps = []:=by simpa using hp.1.1
   subst he
   refine pg [.s] rfl (by simp) ?_
   exact Ad (J (met ++ [x]) (by simp [AE,Au,A3]) (by simp [Am,Au])) ⟨rfl,rfl,trivial⟩ ⟨rfl,rfl,trivial⟩ rfl
  exfalso
  simp [Cz,h1,h2,h3,h4,h5,h6] at hp
termination_by t=>SizeOf.sizeOf t
decreasing_by
 all_goals
  have:=List.sizeOf_lt_of_mem (List.mem_of_getElem? ht)
  simp_wf
  omega
theorem QA : ∀ (t : Ty) (met : List Str),(AH t && A3 met (Am t)) = false → AU Tryz.prog 124 [.imm (.agg (dTyc t)),.mapr 1] [(1,some (NO met))] (.pan Dw)
 | .mk s n x ps,met,hy=>by
  refine CL 0 rfl fun hok=>?_
  have hv : ps.length ≤ 9223372036854775807:=by
   simp [Bt,Dd,dTyc,maxLen] at hok
   have:=hok.1
   omega
  refine Ae E7 Tryz.func124 (by decide +kernel) rfl [2,3,4] rfl rfl ?_
  have J : ∀ m0 : List Str,(AE ps && A3 m0 (Au ps)) = false → DGo Tryz.prog Tryz.f124.ntmps (Dk [(1,some (NO met))]) (Og ZR Tryz.f124.results.toList (.pan Dw))
    [.code (Fh Tryz.f124 2)] [(1,.mapr 1),(2,.ref 2 0)] [(2,some (.immb 50 4 (dTyc (.mk s n x ps)))),(1,some (NO m0))] [3,4]:=by
   intro m0 hy
   refine pd [] rfl (by simp) ?_
   refine Ah (fun i : Nat=>[(113,.imm (.int .i64 i)),(112,.imm (.int .i64 ps.length)),(111,.imm (.sl (A9 ps))),(1,.mapr 1),(2,.ref 2 0)]) (fun i=>[(2,some (.immb 50 4 (dTyc (.mk s n x ps)))),(1,some (NO (m0 ++ Au (ps.take i))))]) [3,4] (fun i=>ps.length - i)
    (fun i=>i ≤ ps.length ∧ (AE (ps.drop i) && A3 (m0 ++ Au (ps.take i)) (Au (ps.drop i))) = false) 0 ⟨Nat.zero_le _,by simpa [Au] using hy⟩ ⟨rfl,As (by simp),rfl,rfl,rfl,trivial⟩ ⟨rfl,by simp [Au];rfl,trivial⟩ rfl fun i hi ih=>?_
   refine pd [] rfl (by simp) ?_
   have hi2:=hi.2
   refine Aa rfl (fun h=>?_) (fun h=>?_)
   ·simp at h
    obtain ⟨t,ht⟩:=Ai h
    have htk : Au (ps.take (i + 1)) = Au (ps.take i) ++ Am t:=by rw [AI ht,CJ];simp [Au]
    rw [Al ht] at hi2
    simp only [AE,Au,Ee] at hi2
    refine pd [] rfl (by simp) ?_
    refine pi rfl (c:=dTyc t) (fun _=>⟨by simp,by simpa using Ao ht,by simp⟩) (by simp) ?_
    refine pg [] rfl (by simp) ?_
    by_cases hz : (AH t && A3 (m0 ++ Au (ps.take i)) (Am t)) = true
    ·refine Az (fr:=[]) [(1,1)] [] rfl (by simp) (Kc t (m0 ++ Au (ps.take i)) hz) ⟨⟨rfl,rfl,rfl⟩,trivial⟩ rfl rfl rfl rfl ?_
     refine pg [] rfl (by simp) ?_
     exact Ad (ih (i + 1) (by omega) ⟨by omega,by rw [htk,← List.append_assoc];simp only [Bool.and_eq_true] at hz;rw [hz.1,hz.2] at hi2;simpa using hi2⟩) ⟨As (Bw (by omega) (by omega)),rfl,rfl,rfl,rfl,trivial⟩ ⟨rfl,by rw [htk,← List.append_assoc];rfl,trivial⟩ rfl
    ·exact Ar [(1,1)] rfl (by simp) (QA t (m0 ++ Au (ps.take i)) (by simpa using hz)) ⟨⟨rfl,rfl,rfl⟩,trivial⟩ rfl rfl
   ·exfalso
    simp at h
    rw [List.drop_eq_nil_of_le (by omega)] at hi2
    simp [AE,Au,A3] at hi2
  by_cases h1 : s = 1
  ·subst h1
   refine pg [.a,.a] rfl (by simp [Af] <;> grind) ?_
   by_cases hp : Cz 1 n x ps.length = true
   ·have hps : (AE ps && A3 met (Au ps)) = false:=by simpa [AH,hp,Am] using hy
    simp [Cz,Eo] at hp
    refine Ac rfl (fun _=>AD _ (by simp [B1] at hp ⊢;grind)) (by simp) ?_
    refine pg [.s] rfl (by simp) ?_
    exact Ad (J met hps) ⟨rfl,rfl,trivial⟩ ⟨rfl,rfl,trivial⟩ rfl
   ·simp [Cz,Eo] at hp
    exact Ar [] rfl (by simp) (Be _ (by simp [B1] at hp ⊢;grind)) trivial rfl rfl
  by_cases h5 : s = 5
  ·subst h5
   refine pg [.a,.a] rfl (by simp [Af] <;> grind) ?_
   by_cases hp : Cz 5 n x ps.length = true
   ·have hps : (AE ps && A3 met (Au ps)) = false:=by simpa [AH,hp,Am] using hy
    simp [Cz,Eo] at hp
    refine Ac rfl (fun _=>AD _ (by simp [B1] at hp ⊢;grind)) (by simp) ?_
    refine pg [.s] rfl (by simp) ?_
    exact Ad (J met hps) ⟨rfl,rfl,trivial⟩ ⟨rfl,rfl,trivial⟩ rfl
   ·simp [Cz,Eo] at hp
    exact Ar [] rfl (by simp) (Be _ (by simp [B1] at hp ⊢;grind)) trivial rfl rfl
  by_cases h3 : s = 3
  ·subst h3
   refine pg [.a,.a,.a,.a] rfl (by simp [Af] <;> grind) ?_
   refine Ac rfl (fun _=>G4 n) (by simp [Af]) ?_
   refine pg [] rfl (by simp [Af]) ?_
   by_cases hp : Cz 3 n x ps.length = true
   ·have hps : (AE ps && A3 met (Au ps)) = false:=by simpa [AH,hp,Am] using hy
    simp [Cz,Eo] at hp
    refine Ac rfl (fun _=>AD _ (by simp [B1] at hp ⊢;grind)) (by simp) ?_
    refine pg [.s] rfl (by simp) ?_
    exact Ad (J met hps) ⟨rfl,rfl,trivial⟩ ⟨rfl,rfl,trivial⟩ rfl
   ·simp [Cz,Eo] at hp
    exact Ar [] rfl (by simp) (Be _ (by simp [B1] at hp ⊢;grind)) trivial rfl rfl
  by_cases h4 : s = 4
  ·subst h4
   refine pg [.a,.a,.a,.a,.a] rfl (by simp [Af] <;> grind) ?_
   by_cases hp : Cz 4 n x ps.length = true
   ·have hps : (AE ps && A3 met (Au ps)) = false:=by simpa [AH,hp,Am] using hy
    simp [Cz,Eo] at hp
    refine Ac rfl (fun _=>AD _ (by obtain ⟨⟨rfl,rfl⟩,ha,hb⟩:=hp;have : n = 0 ∨ n = 1:=(by omega);rcases this with rfl | rfl <;> simp)) (by simp) ?_
    refine pg [.s] rfl (by simp) ?_
    exact Ad (J met hps) ⟨rfl,rfl,trivial⟩ ⟨rfl,rfl,trivial⟩ rfl
   ·simp [Cz,Eo] at hp
    exact Ar [] rfl (by simp) (Be _ (by simp [B1] at hp ⊢;grind)) trivial rfl rfl
  by_cases h6 : s = 6
  ·subst h6
   refine pg [.a,.a,.a,.a,.a,.a] rfl (by simp [Af] <;> grind) ?_
   refine Ac rfl (fun _=>Cr x) (by simp [Af]) ?_
   refine pg [] rfl (by simp [Af]) ?_
   by_cases hp : Cz 6 n x ps.length = true
   ·have hps : (AE ps && A3 met (Au ps)) = false:=by simpa [AH,hp,Am] using hy
    simp [Cz,Eo] at hp
    refine Ac rfl (fun _=>AD _ (by simp [B1] at hp ⊢;grind)) (by simp) ?_
    refine pg [.s] rfl (by simp) ?_
    exact Ad (J met hps) ⟨rfl,rfl,trivial⟩ ⟨rfl,rfl,trivial⟩ rfl
   ·simp [Cz,Eo] at hp
    exact Ar [] rfl (by simp) (Be _ (by simp [B1] at hp ⊢;grind)) trivial rfl rfl
  by_cases h2 : s = 2
  ·subst h2
   refine pg [.a,.a,.a] rfl (by simp [Af] <;> grind) ?_
   refine Ac rfl (fun _=>E8 x) (by simp [Af]) ?_
   refine pg [] rfl (by simp [Af]) ?_
   refine UL E7 1 rfl rfl rfl (Kj met) (by simp [Af]) (z:=.bool false) rfl (fun _=>.bool _) (Oy met x) ?_
   refine pg [] rfl (by simp [Af]) ?_
   refine Ar [] rfl (by simp) (Be _ ?_) trivial rfl rfl
   simp [AH,Cz,Am,A3] at hy
   cases hm : Ed met x with
   | true=>simp
   | false =>
    simp only [hm] at hy
    by_cases hq : ps = []
    ·subst hq;simp [AE] at hy ⊢;grind
    ·simp [hq]
  refine pg [.f,.f,.f,.f,.f,.f] rfl (by simp [h1,h2,h3,h4,h5,h6]) ?_
  exact Ar [] rfl (by simp) (Be _ rfl) trivial rfl rfl
termination_by t=>SizeOf.sizeOf t
decreasing_by
 all_goals
  have:=List.sizeOf_lt_of_mem (List.mem_of_getElem? ht)
  simp_wf
  omega
def AP (t : Ty) : Bool:=decide (Ak t ≤ 12) && (AH t && AJ (Am t))
theorem Od (t : Ty) (h : AP t = true) : AU Tryz.prog 122 [.ref 1 0] [(1,some (.immb 50 4 (dTyc t)))] (.ret FC [(1,some (.immb 50 4 (dTyc t)))]):=by
 simp only [AP,Bool.and_eq_true,decide_eq_true_eq] at h
 refine Ae E7 Tryz.func122 (by decide +kernel) rfl [2,3,4] rfl rfl ?_
 refine pg [] rfl (by simp) ?_
 refine Az (fr:=[]) [(2,1)] [] rfl (by simp) (J0 t 12 (by omega) (by decide)) ⟨⟨rfl,rfl,rfl⟩,trivial⟩ rfl rfl rfl rfl ?_
 refine pg [] rfl (by simp) ?_
 refine LX rfl ?_
 refine pg [] rfl (by simp) ?_
 refine Az (fr:=[]) [(3,1)] [] rfl (by simp) (Kc t [] (by simpa [AJ] using h.2)) ⟨⟨rfl,rfl,rfl⟩,trivial⟩ rfl rfl rfl rfl ?_
 refine pg [] rfl (by simp) ?_
 exact B3 ⟨_,rfl,rfl,⟨rfl,trivial⟩⟩
theorem Qv (t : Ty) (h : AP t = false) : AU Tryz.prog 122 [.ref 1 0] [(1,some (.immb 50 4 (dTyc t)))] (.pan Dw):=by
 refine Ae E7 Tryz.func122 (by decide +kernel) rfl [2,3,4] rfl rfl ?_
 refine pg [] rfl (by simp) ?_
 by_cases h1 : Ak t ≤ 12
 ·refine Az (fr:=[]) [(2,1)] [] rfl (by simp) (J0 t 12 (by omega) (by decide)) ⟨⟨rfl,rfl,rfl⟩,trivial⟩ rfl rfl rfl rfl ?_
  refine pg [] rfl (by simp) ?_
  refine LX rfl ?_
  refine pg [] rfl (by simp) ?_
  exact Ar [(3,1)] rfl (by simp) (QA t [] (by simpa [AP,h1,AJ] using h)) ⟨⟨rfl,rfl,rfl⟩,trivial⟩ rfl rfl
 ·exact Ar [(2,1)] rfl (by simp) (UH t 12 (by omega) (by decide) (by decide)) ⟨⟨rfl,rfl,rfl⟩,trivial⟩ rfl rfl
theorem H7 (t : Ty) : PureC Tryz.prog 92 [.agg (dTyc t)] (Hw (AP t)):=by
 refine Ae E7 Tryz.func92 (by decide +kernel) rfl [1,2,3] rfl rfl ?_
 refine pg [] rfl (by simp) ?_
 cases h : AP t with
 | true =>
  refine Az (fr:=[]) [(1,1)] [] rfl (by simp) (JN Tryz.func122 (by decide +kernel) rfl (Od t h)) ⟨⟨rfl,rfl,rfl⟩,trivial⟩ rfl rfl rfl rfl ?_
  refine pg [] rfl (by simp) ?_
  exact Ab ⟨_,rfl,tV rfl,trivial⟩
 | false =>
  refine Az (fr:=[]) [(1,1)] [] rfl (by simp) (L7 Tryz.func122 (by decide +kernel) rfl (Qv t h)) ⟨⟨rfl,rfl,rfl⟩,trivial⟩ rfl rfl rfl rfl ?_
  refine pg [] rfl (by simp) ?_
  exact Ab ⟨_,rfl,tV rfl,trivial⟩
end Go.Hk
namespace Go.Hk
open Go.Proofs
def ZQ : TT:=ZR ++ [
 (248,⟨.struct [(0,4),(1,4),(2,4),(3,3)],true,4,16,[.imm (.bool false),.imm (.bool false),.imm (.bool false),.imm (.int .i64 0)]⟩)]
theorem E6 : TTok Tryz.prog ZQ:=.of_eq (l:=[4,3,9,141,26,50,138,27,5,24,23,57,139,48,143,147,75,22,145,72,70,38,239,192,1,195,248]) (by kernel_rfl)
section
variable {n : Nat} {F : List Nat} {Q : DQ} {env env' : Env} {st st' : St} {ids ids' : List Nat} {k todo : List DI} {ob : List Prop}
theorem sd (path : List Pt) (h : run ZQ n 300 path todo env st ids [] = .at k env' st' ids' ob) (hob : A1 ob) (hd : G Tryz.prog n F Q k env' st' ids') : DGo Tryz.prog n F Q todo env st ids:=L5 E6 mixed 300 path h hob hd
theorem sg (path : List Pt) (h : run ZQ n 300 path todo env st ids [] = .at k env' st' ids' ob) (hob : A1 ob) (hd : G Tryz.prog n F Q k env' st' ids') : G Tryz.prog n F Q todo env st ids:=J2 E6 mixed 300 path h hob hd
theorem si {es : List (List V)} {m : Int} {sz : Nat} {e : TypeId} {g : Option (Bool × Bool)} {ob : List Prop} {t : Nat} {todo' : List DI} {c : List V} (h : NQ ZQ n env todo = some ⟨es,m,sz,e,g,ob,some t,todo'⟩)
  (hc : Af g → 0 ≤ m ∧ es[m.toNat]? = some c ∧ c.length = sz) (hob : A1 ob) (hk : G Tryz.prog n F Q todo' ((t,gD g (.ip e c 0)) :: env) st ids) : G Tryz.prog n F Q todo env st ids:=Fx E6 h hc hob hk
end
structure Has where
 n : Bool
 text : Bool
 pats : Bool
 kids : Int
 is : Bool
def AQ (op : Int) (k p : Nat) : Has :=
 if op = 1 ∨ op = 2 then ⟨true,false,false,0,true⟩
 else if op = 3 ∨ op = 21 ∨ op = 25 ∨ op = 28 then ⟨false,false,false,0,true⟩
 else if op = 4 then ⟨false,true,false,0,true⟩
 else if op = 5 ∨ op = 27 then ⟨false,true,false,1,true⟩
 else if op = 7 then ⟨false,true,false,2,true⟩
 else if op = 8 then ⟨false,false,false,3,true⟩
 else if op = 14 then ⟨false,true,false,(if (3 : Int) < k then 3 else k),true⟩
 else if op = 15 then ⟨false,false,true,(IntKind.i64.wrap (1 + (p : Int))),true⟩
 else if op = 16 ∨ op = 17 ∨ op = 19 ∨ op = 20 ∨ op = 23 ∨ op = 26 then ⟨false,false,false,1,true⟩
 else if op = 24 then ⟨true,false,false,1,true⟩
 else if op = 6 ∨ op = 9 ∨ op = 10 ∨ op = 11 ∨ op = 12 ∨ op = 13 ∨ op = 18 ∨ op = 22 then ⟨false,false,false,2,true⟩
 else ⟨false,false,false,0,false⟩
def Cy (h : Has) : List V:=[.bool h.n,.bool h.text,.bool h.pats,.int .i64 h.kids]
set_option maxHeartbeats 1000000 in
theorem QH (op n : Int) (x : Str) (ks : List Tm) (ps : List Ty) : PureC Tryz.prog 187 [.agg (B8 (.mk op n x ks ps))] (.tup [.agg (Cy (AQ op ks.length ps.length)),.bool (AQ op ks.length ps.length).is]):=by
 refine A2 fun hv=>?_
 simp [Bt,Dd,B8,maxLen] at hv
 refine Ae E6 Tryz.func187 (by decide +kernel) rfl [1,2,3] rfl rfl ?_
 by_cases h1 : op = 1
 ·subst h1
  refine sg [.a,.a] rfl (by simp) ?_
  refine Ab ⟨_,rfl,tV ?_,trivial⟩
  simp [AQ,Cy]
 by_cases h2 : op = 2
 ·subst h2
  refine sg [.a,.a] rfl (by simp) ?_
  refine Ab ⟨_,rfl,tV ?_,trivial⟩
  simp [AQ,Cy]
 by_cases h3 : op = 3
 ·subst h3
  refine sg [.a,.a,.a,.a] rfl (by simp) ?_
  refine Ab ⟨_,rfl,tV ?_,trivial⟩
  simp [AQ,Cy]
 by_cases h21 : op = 21
 ·subst h21
  refine sg [.a,.a,.a,.a,.a] rfl (by simp) ?_
  refine Ab ⟨_,rfl,tV ?_,trivial⟩
  simp [AQ,Cy]
 by_cases h25 : op = 25
 ·subst h25
  refine sg [.a,.a,.a,.a,.a,.a] rfl (by simp) ?_
  refine Ab ⟨_,rfl,tV ?_,trivial⟩
  simp [AQ,Cy]
 by_cases h28 : op = 28
 ·subst h28
  refine sg [.a,.a,.a,.a,.a,.a] rfl (by simp) ?_
  refine Ab ⟨_,rfl,tV ?_,trivial⟩
  simp [AQ,Cy]
 by_cases h4 : op = 4
 ·subst h4
  refine sg [.a,.a,.a,.a,.a,.a,.a] rfl (by simp) ?_
  refine Ab ⟨_,rfl,tV ?_,trivial⟩
  simp [AQ,Cy]
 by_cases h5 : op = 5
 ·subst h5
  refine sg [.a,.a,.a,.a,.a,.a,.a,.a,.a] rfl (by simp) ?_
  refine Ab ⟨_,rfl,tV ?_,trivial⟩
  simp [AQ,Cy]
 by_cases h27 : op = 27
 ·subst h27
  refine sg [.a,.a,.a,.a,.a,.a,.a,.a,.a] rfl (by simp) ?_
  refine Ab ⟨_,rfl,tV ?_,trivial⟩
  simp [AQ,Cy]
 by_cases h7 : op = 7
 ·subst h7
  refine sg [.a,.a,.a,.a,.a,.a,.a,.a,.a,.a] rfl (by simp) ?_
  refine Ab ⟨_,rfl,tV ?_,trivial⟩
  simp [AQ,Cy]
 by_cases h8 : op = 8
 ·subst h8
  refine sg [.a,.a,.a,.a,.a,.a,.a,.a,.a,.a,.a] rfl (by simp) ?_
  refine Ab ⟨_,rfl,tV ?_,trivial⟩
  simp [AQ,Cy]
 by_cases h14 : op = 14
 ·subst h14
  refine sg [.a,.a,.a,.a,.a,.a,.a,.a,.a,.a,.a,.a] rfl (by simp) ?_
  refine Ab ⟨_,rfl,tV ?_,trivial⟩
  simp [AQ,Cy]
 by_cases h15 : op = 15
 ·subst h15
  refine sg [.a,.a,.a,.a,.a,.a,.a,.a,.a,.a,.a,.a,.a] rfl (by simp) ?_
  refine Ab ⟨_,rfl,tV ?_,trivial⟩
  simp [AQ,Cy]
 by_cases h16 : op = 16
 ·subst h16
  refine sg [.a,.a,.a,.a,.a,.a,.a,.a,.a,.a,.a,.a,.a,.a,.a] rfl (by simp) ?_
  refine Ab ⟨_,rfl,tV ?_,trivial⟩
  simp [AQ,Cy]
 by_cases h17 : op = 17
 ·subst h17
  refine sg [.a,.a,.a,.a,.a,.a,.a,.a,.a,.a,.a,.a,.a,.a,.a,.a] rfl (by simp) ?_
  refine Ab ⟨_,rfl,tV ?_,trivial⟩
  simp [AQ,Cy]
 by_cases h19 : op = 19
 ·subst h19
  refine sg [.a,.a,.a,.a,.a,.a,.a,.a,.a,.a,.a,.a,.a,.a,.a,.a,.a] rfl (by simp) ?_
  refine Ab ⟨_,rfl,tV ?_,trivial⟩
  simp [AQ,Cy]
 by_cases h20 : op = 20
 ·subst h20
  refine sg [.a,.a,.a,.a,.a,.a,.a,.a,.a,.a,.a,.a,.a,.a,.a,.a,.a,.a] rfl (by simp) ?_
  refine Ab ⟨_,rfl,tV ?_,trivial⟩
  simp [AQ,Cy]
 by_cases h23 : op = 23
 ·subst h23
  refine sg [.a,.a,.a,.a,.a,.a,.a,.a,.a,.a,.a,.a,.a,.a,.a,.a,.a,.a,.a] rfl (by simp) ?_
  refine Ab ⟨_,rfl,tV ?_,trivial⟩
  simp [AQ,Cy]
 by_cases h26 : op = 26
 ·subst h26
  refine sg [.a,.a,.a,.a,.a,.a,.a,.a,.a,.a,.a,.a,.a,.a,.a,.a,.a,.a,.a] rfl (by simp) ?_
  refine Ab ⟨_,rfl,tV ?_,trivial⟩
  simp [AQ,Cy]
 by_cases h24 : op = 24
 ·subst h24
  refine sg [.a,.a,.a,.a,.a,.a,.a,.a,.a,.a,.a,.a,.a,.a,.a,.a,.a,.a,.a,.a] rfl (by simp) ?_
  refine Ab ⟨_,rfl,tV ?_,trivial⟩
  simp [AQ,Cy]
 by_cases h6 : op = 6
 ·subst h6
  refine sg [.a,.a,.a,.a,.a,.a,.a,.a,.a,.a,.a,.a,.a,.a,.a,.a,.a,.a,.a,.a,.a,.a] rfl (by simp) ?_
  refine Ab ⟨_,rfl,tV ?_,trivial⟩
  simp [AQ,Cy]
 by_cases h9 : op = 9
 ·subst h9
  refine sg [.a,.a,.a,.a,.a,.a,.a,.a,.a,.a,.a,.a,.a,.a,.a,.a,.a,.a,.a,.a,.a,.a,.a] rfl (by simp) ?_
  refine Ab ⟨_,rfl,tV ?_,trivial⟩
  simp [AQ,Cy]
 by_cases h10 : op = 10
 ·subst h10
  refine sg [.a,.a,.a,.a,.a,.a,.a,.a,.a,.a,.a,.a,.a,.a,.a,.a,.a,.a,.a,.a,.a,.a,.a,.a] rfl (by simp) ?_
  refine Ab ⟨_,rfl,tV ?_,trivial⟩
  simp [AQ,Cy]
 by_cases h11 : op = 11
 ·subst h11
  refine sg [.a,.a,.a,.a,.a,.a,.a,.a,.a,.a,.a,.a,.a,.a,.a,.a,.a,.a,.a,.a,.a,.a,.a,.a,.a] rfl (by simp) ?_
  refine Ab ⟨_,rfl,tV ?_,trivial⟩
  simp [AQ,Cy]
 by_cases h12 : op = 12
 ·subst h12
  refine sg [.a,.a,.a,.a,.a,.a,.a,.a,.a,.a,.a,.a,.a,.a,.a,.a,.a,.a,.a,.a,.a,.a,.a,.a,.a,.a] rfl (by simp) ?_
  refine Ab ⟨_,rfl,tV ?_,trivial⟩
  simp [AQ,Cy]
 by_cases h13 : op = 13
 ·subst h13
  refine sg [.a,.a,.a,.a,.a,.a,.a,.a,.a,.a,.a,.a,.a,.a,.a,.a,.a,.a,.a,.a,.a,.a,.a,.a,.a,.a,.a] rfl (by simp) ?_
  refine Ab ⟨_,rfl,tV ?_,trivial⟩
  simp [AQ,Cy]
 by_cases h18 : op = 18
 ·subst h18
  refine sg [.a,.a,.a,.a,.a,.a,.a,.a,.a,.a,.a,.a,.a,.a,.a,.a,.a,.a,.a,.a,.a,.a,.a,.a,.a,.a,.a,.a] rfl (by simp) ?_
  refine Ab ⟨_,rfl,tV ?_,trivial⟩
  simp [AQ,Cy]
 by_cases h22 : op = 22
 ·subst h22
  refine sg [.a,.a,.a,.a,.a,.a,.a,.a,.a,.a,.a,.a,.a,.a,.a,.a,.a,.a,.a,.a,.a,.a,.a,.a,.a,.a,.a,.a] rfl (by simp) ?_
  refine Ab ⟨_,rfl,tV ?_,trivial⟩
  simp [AQ,Cy]
 refine sg [.f,.f,.f,.f,.f,.f,.f,.f,.f,.f,.f,.f,.f,.f,.f,.f,.f,.f,.f,.f,.f,.f,.f,.f,.f,.f,.f,.f] rfl (by simp [h1,h2,h3,h21,h25,h28,h4,h5,h27,h7,h8,h14,h15,h16,h17,h19,h20,h23,h26,h24,h6,h9,h10,h11,h12,h13,h18,h22]) ?_
 refine Ab ⟨_,rfl,tV ?_,trivial⟩
 simp [AQ,Cy,h1,h2,h3,h21,h25,h28,h4,h5,h27,h7,h8,h14,h15,h16,h17,h19,h20,h23,h26,h24,h6,h9,h10,h11,h12,h13,h18,h22]
end Go.Hk
namespace Go.Hk
open Go.Proofs
def Rz (op n : Int) (x : Str) (k p : Nat) : Bool:=let h:=AQ op k p
 h.is && ((k : Int) == h.kids) && (h.n || n == 0) && (h.text || x == []) && (h.pats || (p : Int) == 0)
def lastB (op : Int) (x : Str) (k p : Nat) : Bool:=!((AQ op k p).text && op != 14) || CT x
theorem BY (op n : Int) (x : Str) (ks : List Tm) (ps : List Ty) (hl : lastB op x ks.length ps.length = true) : DGo Tryz.prog Tryz.f186.ntmps (Dk []) (Og ZQ Tryz.f186.results.toList (.ret FC []))
  [.code (Fh Tryz.f186 4)] [(1,.ref 1 0),(2,.ref 2 0)] [(2,some (.immb 248 4 (Cy (AQ op ks.length ps.length)))),(1,some (.immb 141 5 (B8 (.mk op n x ks ps))))] [3,4]:=by
 refine sd [] rfl (by simp [Af]) ?_
 refine Aa rfl (fun h=>?_) (fun h=>?_)
 ·refine sd [] rfl (by simp) ?_
  refine Ac rfl (fun _=>E8 x) (by simp [Af]) ?_
  refine sg [] rfl (by simp) ?_
  have hx : CT x = true:=by simp [lastB] at hl h;grind
  refine Ac rfl (fun _=>AD _ hx) (by simp) ?_
  refine sg [] rfl (by simp) ?_
  exact B3 ⟨_,rfl,rfl,trivial⟩
 ·refine sd [] rfl (by simp) ?_
  exact B3 ⟨_,rfl,rfl,trivial⟩
theorem Cq (op n : Int) (x : Str) (ks : List Tm) (ps : List Ty) (hl : lastB op x ks.length ps.length = false) : DGo Tryz.prog Tryz.f186.ntmps (Dk []) (Og ZQ Tryz.f186.results.toList (.pan Dw))
  [.code (Fh Tryz.f186 4)] [(1,.ref 1 0),(2,.ref 2 0)] [(2,some (.immb 248 4 (Cy (AQ op ks.length ps.length)))),(1,some (.immb 141 5 (B8 (.mk op n x ks ps))))] [3,4]:=by
 refine sd [] rfl (by simp [Af]) ?_
 refine Aa rfl (fun h=>?_) (fun h=>?_)
 ·refine sd [] rfl (by simp) ?_
  refine Ac rfl (fun _=>E8 x) (by simp [Af]) ?_
  refine sg [] rfl (by simp) ?_
  have hx : CT x = false:=by simp [lastB] at hl h;grind
  exact Ar [] rfl (by simp) (Be _ hx) trivial rfl rfl
 ·exfalso
  simp [lastB] at hl h
  grind
def BS (op n : Int) (x : Str) (ps : List Ty) : Bool :=
 if op = 1 then B1 n
 else if op = 2 then n == 0 || n == 1
 else if op = 24 then decide (0 ≤ n) && decide (n < 4)
 else if op = 14 then Cl x
 else if op = 15 then decide (1 ≤ (ps.length : Int)) && decide ((ps.length : Int) ≤ 5) && ps.all AP
 else true
def OG (op n : Int) (x : Str) (k : Nat) (ps : List Ty) : Bool:=Rz op n x k ps.length && BS op n x ps && lastB op x k ps.length
theorem Ot (op n : Int) (x : Str) (ks : List Tm) (ps : List Ty) (hy : OG op n x ks.length ps = true) : AU Tryz.prog 186 [.imm (.agg (B8 (.mk op n x ks ps)))] [] (.ret FC []):=by
 simp only [OG] at hy
 refine Ae E6 Tryz.func186 (by decide +kernel) rfl [1,2,3,4] rfl rfl ?_
 refine sg [] rfl (by simp) ?_
 refine Ac rfl (fun _=>QH op n x ks ps) (by simp [Af]) ?_
 refine sg [] rfl (by simp [Af,Cy] <;> grind) ?_
 simp only [Bool.and_eq_true] at hy
 obtain ⟨⟨hh,he⟩,hl⟩:=hy
 refine Ac rfl (fun _=>AD _ (by simp [Rz] at hh ⊢;grind)) (by simp) ?_
 by_cases h1 : op = 1
 ·subst h1
  refine sg [.a] rfl (by simp [Af]) ?_
  refine Ac rfl (fun _=>G4 n) (by simp) ?_
  refine sg [] rfl (by simp) ?_
  simp [BS] at he
  refine Ac rfl (fun _=>AD _ (by first | exact he | (simp at he ⊢;grind) | (simp;grind) | grind)) (by simp) ?_
  refine sg [.s] rfl (by simp) ?_
  exact Ad (BY _ n x ks ps hl) ⟨rfl,rfl,trivial⟩ ⟨rfl,rfl,trivial⟩ rfl
 by_cases h2 : op = 2
 ·subst h2
  refine sg [.a,.a] rfl (by simp [Af]) ?_
  simp [BS] at he
  refine Ac rfl (fun _=>AD _ (by first | exact he | (simp at he ⊢;grind) | (simp;grind) | grind)) (by simp) ?_
  refine sg [.s] rfl (by simp) ?_
  exact Ad (BY _ n x ks ps hl) ⟨rfl,rfl,trivial⟩ ⟨rfl,rfl,trivial⟩ rfl
 by_cases h24 : op = 24
 ·subst h24
  refine sg [.a,.a,.a] rfl (by simp [Af]) ?_
  simp [BS] at he
  refine Ac rfl (fun _=>AD _ (by first | exact he | (simp at he ⊢;grind) | (simp;grind) | grind)) (by simp) ?_
  refine sg [.s] rfl (by simp) ?_
  exact Ad (BY _ n x ks ps hl) ⟨rfl,rfl,trivial⟩ ⟨rfl,rfl,trivial⟩ rfl
 by_cases h14 : op = 14
 ·subst h14
  refine sg [.a,.a,.a,.a] rfl (by simp [Af]) ?_
  refine Ac rfl (fun _=>Cr x) (by simp) ?_
  refine sg [] rfl (by simp) ?_
  simp [BS] at he
  refine Ac rfl (fun _=>AD _ (by first | exact he | (simp at he ⊢;grind) | (simp;grind) | grind)) (by simp) ?_
  refine sg [.s] rfl (by simp) ?_
  exact Ad (BY _ n x ks ps hl) ⟨rfl,rfl,trivial⟩ ⟨rfl,rfl,trivial⟩ rfl
 by_cases h15 : op = 15
 ·subst h15
  refine sg [.a,.a,.a,.a,.a] rfl (by simp [Af]) ?_
  simp [BS] at he
  refine Ac rfl (fun _=>AD _ (by simp;grind)) (by simp) ?_
  refine sg [] rfl (by simp) ?_
  refine Ah (fun i : Nat=>[(101,.imm (.int .i64 i)),(100,.imm (.int .i64 ps.length)),(99,.imm (.sl (A9 ps))),(1,.ref 1 0),(2,.ref 2 0)]) (fun _=>[(2,some (.immb 248 4 (Cy (AQ 15 ks.length ps.length)))),(1,some (.immb 141 5 (B8 (.mk 15 n x ks ps))))]) [3,4] (fun i=>ps.length - i)
   (fun i=>i ≤ ps.length ∧ (ps.drop i).all AP = true) 0 ⟨Nat.zero_le _,by simpa using he.2⟩ ⟨rfl,As (by simp),rfl,rfl,rfl,trivial⟩ ⟨rfl,rfl,trivial⟩ rfl fun i hi ih=>?_
  refine sd [] rfl (by simp) ?_
  have hi2:=hi.2
  refine Aa rfl (fun h=>?_) (fun h=>?_)
  ·simp at h
   obtain ⟨t,ht⟩:=Ai h
   rw [Al ht,List.all_cons] at hi2
   refine sd [] rfl (by simp) ?_
   refine si rfl (c:=dTyc t) (fun _=>⟨by simp,by simpa using Ao ht,by simp⟩) (by simp) ?_
   refine sg [] rfl (by simp) ?_
   refine Ac rfl (fun _=>H7 t) (by simp) ?_
   refine sg [] rfl (by simp) ?_
   simp only [Bool.and_eq_true] at hi2
   have hz:=hi2.1
   refine Ac rfl (fun _=>AD _ (by first | rfl | (rw [hz];rfl))) (by simp) ?_
   refine sg [] rfl (by simp) ?_
   exact Ad (ih (i + 1) (by omega) ⟨by omega,hi2.2⟩) ⟨As (Bw (by omega) (by omega)),rfl,rfl,rfl,rfl,trivial⟩ ⟨rfl,rfl,trivial⟩ rfl
  ·simp at h
   rw [List.drop_eq_nil_of_le (by omega)] at hi2
   refine sd [.s] rfl (by simp) ?_
   exact Ad (BY _ n x ks ps hl) ⟨rfl,rfl,trivial⟩ ⟨rfl,rfl,trivial⟩ rfl
 refine sg [.f,.f,.f,.f,.f,.s] rfl (by simp [h1,h2,h24,h14,h15]) ?_
 exact Ad (BY _ n x ks ps hl) ⟨rfl,rfl,trivial⟩ ⟨rfl,rfl,trivial⟩ rfl
theorem WG (op n : Int) (x : Str) (ks : List Tm) (ps : List Ty) (hy : OG op n x ks.length ps = false) : AU Tryz.prog 186 [.imm (.agg (B8 (.mk op n x ks ps)))] [] (.pan Dw):=by
 simp only [OG] at hy
 refine Ae E6 Tryz.func186 (by decide +kernel) rfl [1,2,3,4] rfl rfl ?_
 refine sg [] rfl (by simp) ?_
 refine Ac rfl (fun _=>QH op n x ks ps) (by simp [Af]) ?_
 refine sg [] rfl (by simp [Af,Cy] <;> grind) ?_
 by_cases hh : Rz op n x ks.length ps.length = true
 rotate_left
 ·exact Ar [] rfl (by simp) (Be _ (by simp [Rz] at hh ⊢;grind)) trivial rfl rfl
 rw [hh] at hy
 refine Ac rfl (fun _=>AD _ (by simp [Rz] at hh ⊢;grind)) (by simp) ?_
 by_cases h1 : op = 1
 ·subst h1
  refine sg [.a] rfl (by simp [Af]) ?_
  refine Ac rfl (fun _=>G4 n) (by simp) ?_
  refine sg [] rfl (by simp) ?_
  by_cases he : BS 1 n x ps = true
  ·have hl : lastB 1 x ks.length ps.length = false:=by simpa [he] using hy
   simp [BS] at he
   refine Ac rfl (fun _=>AD _ (by first | exact he | (simp at he ⊢;grind) | (simp;grind) | grind)) (by simp) ?_
   refine sg [.s] rfl (by simp) ?_
   exact Ad (Cq _ n x ks ps hl) ⟨rfl,rfl,trivial⟩ ⟨rfl,rfl,trivial⟩ rfl
  ·simp [BS] at he
   exact Ar [] rfl (by simp) (Be _ (by first | exact he | (simp at he ⊢;grind) | (simp;grind) | grind)) trivial rfl rfl
 by_cases h2 : op = 2
 ·subst h2
  refine sg [.a,.a] rfl (by simp [Af]) ?_
  by_cases he : BS 2 n x ps = true
  ·have hl : lastB 2 x ks.length ps.length = false:=by simpa [he] using hy
   simp [BS] at he
   refine Ac rfl (fun _=>AD _ (by first | exact he | (simp at he ⊢;grind) | (simp;grind) | grind)) (by simp) ?_
   refine sg [.s] rfl (by simp) ?_
   exact Ad (Cq _ n x ks ps hl) ⟨rfl,rfl,trivial⟩ ⟨rfl,rfl,trivial⟩ rfl
  ·simp [BS] at he
   exact Ar [] rfl (by simp) (Be _ (by first | exact he | (simp at he ⊢;grind) | (simp;grind) | grind)) trivial rfl rfl
 by_cases h24 : op = 24
 ·subst h24
  refine sg [.a,.a,.a] rfl (by simp [Af]) ?_
  by_cases he : BS 24 n x ps = true
  ·have hl : lastB 24 x ks.length ps.length = false:=by simpa [he] using hy
   simp [BS] at he
   refine Ac rfl (fun _=>AD _ (by first | exact he | (simp at he ⊢;grind) | (simp;grind) | grind)) (by simp) ?_
   refine sg [.s] rfl (by simp) ?_
   exact Ad (Cq _ n x ks ps hl) ⟨rfl,rfl,trivial⟩ ⟨rfl,rfl,trivial⟩ rfl
  ·simp [BS] at he
   exact Ar [] rfl (by simp) (Be _ (by first | exact he | (simp at he ⊢;grind) | (simp;grind) | grind)) trivial rfl rfl
 by_cases h14 : op = 14
 ·subst h14
  refine sg [.a,.a,.a,.a] rfl (by simp [Af]) ?_
  refine Ac rfl (fun _=>Cr x) (by simp) ?_
  refine sg [] rfl (by simp) ?_
  by_cases he : BS 14 n x ps = true
  ·have hl : lastB 14 x ks.length ps.length = false:=by simpa [he] using hy
   simp [BS] at he
   refine Ac rfl (fun _=>AD _ (by first | exact he | (simp at he ⊢;grind) | (simp;grind) | grind)) (by simp) ?_
   refine sg [.s] rfl (by simp) ?_
   exact Ad (Cq _ n x ks ps hl) ⟨rfl,rfl,trivial⟩ ⟨rfl,rfl,trivial⟩ rfl
  ·simp [BS] at he
   exact Ar [] rfl (by simp) (Be _ (by first | exact he | (simp at he ⊢;grind) | (simp;grind) | grind)) trivial rfl rfl
 by_cases h15 : op = 15
 ·subst h15
  refine sg [.a,.a,.a,.a,.a] rfl (by simp [Af]) ?_
  by_cases he : (decide (1 ≤ (ps.length : Int)) && decide ((ps.length : Int) ≤ 5)) = true
  rotate_left
  ·exact Ar [] rfl (by simp) (Be _ (by simp at he ⊢;grind)) trivial rfl rfl
  have he5 : ps.length ≤ 5:=by simp at he;omega
  have hy : ps.all AP = false ∨ lastB 15 x ks.length ps.length = false:=by
   have e : BS 15 n x ps = ((decide (1 ≤ (ps.length : Int)) && decide ((ps.length : Int) ≤ 5)) && ps.all AP):=by simp only [BS];rfl
   rw [e,he] at hy
   simpa only [Bool.true_and,Bool.and_eq_false_iff] using hy
  refine Ac rfl (fun _=>AD _ (by simp at he ⊢;grind)) (by simp) ?_
  refine sg [] rfl (by simp) ?_
  refine Ah (fun i : Nat=>[(101,.imm (.int .i64 i)),(100,.imm (.int .i64 ps.length)),(99,.imm (.sl (A9 ps))),(1,.ref 1 0),(2,.ref 2 0)]) (fun _=>[(2,some (.immb 248 4 (Cy (AQ 15 ks.length ps.length)))),(1,some (.immb 141 5 (B8 (.mk 15 n x ks ps))))]) [3,4] (fun i=>ps.length - i)
   (fun i=>i ≤ ps.length ∧ ((ps.drop i).all AP = false ∨ lastB 15 x ks.length ps.length = false)) 0 ⟨Nat.zero_le _,hy⟩ ⟨rfl,As (by simp),rfl,rfl,rfl,trivial⟩ ⟨rfl,rfl,trivial⟩ rfl fun i hi ih=>?_
  refine sd [] rfl (by simp) ?_
  have hi2:=hi.2
  refine Aa rfl (fun h=>?_) (fun h=>?_)
  ·simp at h
   obtain ⟨t,ht⟩:=Ai h
   rw [Al ht,List.all_cons] at hi2
   refine sd [] rfl (by simp) ?_
   refine si rfl (c:=dTyc t) (fun _=>⟨by simp,by simpa using Ao ht,by simp⟩) (by simp) ?_
   refine sg [] rfl (by simp) ?_
   refine Ac rfl (fun _=>H7 t) (by simp) ?_
   refine sg [] rfl (by simp) ?_
   cases hz : AP t with
   | true =>
    rw [hz,Bool.true_and] at hi2
    refine Ac rfl (fun _=>AD _ (by first | rfl | (rw [hz];rfl))) (by simp) ?_
    refine sg [] rfl (by simp) ?_
    exact Ad (ih (i + 1) (by omega) ⟨by omega,hi2⟩) ⟨As (Bw (by omega) (by omega)),rfl,rfl,rfl,rfl,trivial⟩ ⟨rfl,rfl,trivial⟩ rfl
   | false=>exact Ar [] rfl (by simp) (Be _ (by first | rfl | (rw [hz];rfl))) trivial rfl rfl
  ·simp at h
   rw [List.drop_eq_nil_of_le (by omega)] at hi2
   refine sd [.s] rfl (by simp) ?_
   exact Ad (Cq _ n x ks ps (by simpa using hi2)) ⟨rfl,rfl,trivial⟩ ⟨rfl,rfl,trivial⟩ rfl
 refine sg [.f,.f,.f,.f,.f,.s] rfl (by simp [h1,h2,h24,h14,h15]) ?_
 exact Ad (Cq _ n x ks ps (by simpa [BS,h1,h2,h24,h14,h15] using hy)) ⟨rfl,rfl,trivial⟩ ⟨rfl,rfl,trivial⟩ rfl
mutual
def Gr : Tm → Bool
 | .mk op n x ks ps=>OG op n x ks.length ps && EM ks
def EM : List Tm → Bool
 | []=>true
 | t :: r=>Gr t && EM r
end
theorem I0 : ∀ (t : Tm),Gr t = true → AU Tryz.prog 184 [.imm (.agg (B8 t))] [] (.ret FC [])
 | .mk op n x ks ps,hy=>by
  refine CL 0 rfl fun hok=>?_
  have hv : ks.length ≤ 9223372036854775807:=by
   simp [Bt,Dd,B8,maxLen] at hok
   have:=hok.1
   omega
  simp only [Gr,Bool.and_eq_true_iff] at hy
  refine Ae E6 Tryz.func184 (by decide +kernel) rfl [1,2,3] rfl rfl ?_
  refine sg [] rfl (by simp) ?_
  refine Az (fr:=[]) [] [] rfl (by simp) (Ot op n x ks ps hy.1) trivial rfl rfl rfl rfl ?_
  refine sg [] rfl (by simp) ?_
  refine Ah (fun i : Nat=>[(9,.imm (.int .i64 i)),(8,.imm (.int .i64 ks.length)),(7,.imm (.sl (IJ ks))),(1,.ref 1 0)]) (fun _=>[(1,some (.immb 141 5 (B8 (.mk op n x ks ps))))]) [2,3] (fun i=>ks.length - i)
   (fun i=>i ≤ ks.length ∧ EM (ks.drop i) = true) 0 ⟨Nat.zero_le _,hy.2⟩ ⟨rfl,As (by simp),rfl,rfl,trivial⟩ ⟨rfl,trivial⟩ rfl fun i hi ih=>?_
  refine sd [] rfl (by simp) ?_
  have hi2:=hi.2
  refine Aa rfl (fun h=>?_) (fun h=>?_)
  ·simp at h
   obtain ⟨t,ht⟩:=Ai h
   rw [Al ht] at hi2
   simp only [EM,Bool.and_eq_true_iff] at hi2
   refine sd [] rfl (by simp) ?_
   refine si rfl (c:=B8 t) (fun _=>⟨by simp,by simpa using FV ht,by simp⟩) (by simp) ?_
   refine sg [] rfl (by simp) ?_
   ·refine Az (fr:=[]) [] [] rfl (by simp) (I0 t hi2.1) trivial rfl rfl rfl rfl ?_
    refine sg [] rfl (by simp) ?_
    exact Ad (ih (i + 1) (by omega) ⟨by omega,hi2.2⟩) ⟨As (Bw (by omega) (by omega)),rfl,rfl,rfl,trivial⟩ ⟨rfl,trivial⟩ rfl
  ·refine sd [] rfl (by simp) ?_
   exact B3 ⟨_,rfl,rfl,trivial⟩
termination_by t=>SizeOf.sizeOf t
decreasing_by
 all_goals
  have:=List.sizeOf_lt_of_mem (List.mem_of_getElem? ht)
  simp_wf
  omega
theorem Or : ∀ (t : Tm),Gr t = false → AU Tryz.prog 184 [.imm (.agg (B8 t))] [] (.pan Dw)
 | .mk op n x ks ps,hy=>by
  refine CL 0 rfl fun hok=>?_
  have hv : ks.length ≤ 9223372036854775807:=by
   simp [Bt,Dd,B8,maxLen] at hok
   have:=hok.1
   omega
  simp only [Gr,Bool.and_eq_false_iff] at hy
  refine Ae E6 Tryz.func184 (by decide +kernel) rfl [1,2,3] rfl rfl ?_
  refine sg [] rfl (by simp) ?_
  by_cases hn : OG op n x ks.length ps = true
  rotate_left
  ·exact Ar [] rfl (by simp) (WG op n x ks ps (by simpa using hn)) trivial rfl rfl
  rw [hn] at hy
  simp only [Bool.true_eq_false,false_or] at hy
  refine Az (fr:=[]) [] [] rfl (by simp) (Ot op n x ks ps hn) trivial rfl rfl rfl rfl ?_
  refine sg [] rfl (by simp) ?_
  refine Ah (fun i : Nat=>[(9,.imm (.int .i64 i)),(8,.imm (.int .i64 ks.length)),(7,.imm (.sl (IJ ks))),(1,.ref 1 0)]) (fun _=>[(1,some (.immb 141 5 (B8 (.mk op n x ks ps))))]) [2,3] (fun i=>ks.length - i)
   (fun i=>i ≤ ks.length ∧ EM (ks.drop i) = false) 0 ⟨Nat.zero_le _,hy⟩ ⟨rfl,As (by simp),rfl,rfl,trivial⟩ ⟨rfl,trivial⟩ rfl fun i hi ih=>?_
  refine sd [] rfl (by simp) ?_
  have hi2:=hi.2
  refine Aa rfl (fun h=>?_) (fun h=>?_)
  ·simp at h
   obtain ⟨t,ht⟩:=Ai h
   rw [Al ht] at hi2
   simp only [EM,Bool.and_eq_false_iff] at hi2
   refine sd [] rfl (by simp) ?_
   refine si rfl (c:=B8 t) (fun _=>⟨by simp,by simpa using FV ht,by simp⟩) (by simp) ?_
   refine sg [] rfl (by simp) ?_
   by_cases hz : Gr t = true
   ·refine Az (fr:=[]) [] [] rfl (by simp) (I0 t hz) trivial rfl rfl rfl rfl ?_
    refine sg [] rfl (by simp) ?_
    exact Ad (ih (i + 1) (by omega) ⟨by omega,by rw [hz] at hi2;simpa using hi2⟩) ⟨As (Bw (by omega) (by omega)),rfl,rfl,rfl,trivial⟩ ⟨rfl,trivial⟩ rfl
   ·exact Ar [] rfl (by simp) (Or t (by simpa using hz)) trivial rfl rfl
  ·exfalso
   simp at h
   rw [List.drop_eq_nil_of_le (by omega)] at hi2
   simp [EM] at hi2
termination_by t=>SizeOf.sizeOf t
decreasing_by
 all_goals
  have:=List.sizeOf_lt_of_mem (List.mem_of_getElem? ht)
  simp_wf
  omega
def IM (t : Tm) : Bool:=decide (0 ≤ AM t 60 14) && Gr t
theorem TO (t : Tm) (h : IM t = true) : AU Tryz.prog 182 [.ref 1 0] [(1,some (.immb 141 5 (B8 t)))] (.ret FC [(1,some (.immb 141 5 (B8 t)))]):=by
 simp only [IM,Bool.and_eq_true,decide_eq_true_eq] at h
 refine Ae E6 Tryz.func182 (by decide +kernel) rfl [2,3,4] rfl rfl ?_
 refine sg [] rfl (by simp) ?_
 refine Az (fr:=[]) [(2,1)] [] rfl (by simp) (HL t 60 14 1 (by decide) (by decide) (by decide) (by decide) (by decide) (by decide) h.1) ⟨⟨rfl,rfl,rfl⟩,trivial⟩ rfl rfl rfl rfl ?_
 refine sg [] rfl (by simp) ?_
 refine Az (fr:=[]) [] [] rfl (by simp) (I0 t h.2) trivial rfl rfl rfl rfl ?_
 refine sg [] rfl (by simp) ?_
 exact B3 ⟨_,rfl,rfl,⟨rfl,trivial⟩⟩
theorem Wo (t : Tm) (h : IM t = false) : AU Tryz.prog 182 [.ref 1 0] [(1,some (.immb 141 5 (B8 t)))] (.pan Dw):=by
 refine Ae E6 Tryz.func182 (by decide +kernel) rfl [2,3,4] rfl rfl ?_
 refine sg [] rfl (by simp) ?_
 by_cases h1 : 0 ≤ AM t 60 14
 ·refine Az (fr:=[]) [(2,1)] [] rfl (by simp) (HL t 60 14 1 (by decide) (by decide) (by decide) (by decide) (by decide) (by decide) h1) ⟨⟨rfl,rfl,rfl⟩,trivial⟩ rfl rfl rfl rfl ?_
  refine sg [] rfl (by simp) ?_
  exact Ar [] rfl (by simp) (Or t (by simpa [IM,h1] using h)) trivial rfl rfl
 ·exact Ar [(2,1)] rfl (by simp) (R4 t 60 14 1 (by decide) (by decide) (by decide) (by decide) (by decide) (by decide) (by show AM t 60 14 < 0;omega)) ⟨⟨rfl,rfl,rfl⟩,trivial⟩ rfl rfl
theorem Y5 (t : Tm) : PureC Tryz.prog 174 [.agg (B8 t)] (Hw (IM t)):=by
 refine Ae E6 Tryz.func174 (by decide +kernel) rfl [1,2,3] rfl rfl ?_
 refine sg [] rfl (by simp) ?_
 cases h : IM t with
 | true =>
  refine Az (fr:=[]) [(1,1)] [] rfl (by simp) (JN Tryz.func182 (by decide +kernel) rfl (TO t h)) ⟨⟨rfl,rfl,rfl⟩,trivial⟩ rfl rfl rfl rfl ?_
  refine sg [] rfl (by simp) ?_
  exact Ab ⟨_,rfl,tV rfl,trivial⟩
 | false =>
  refine Az (fr:=[]) [(1,1)] [] rfl (by simp) (L7 Tryz.func182 (by decide +kernel) rfl (Wo t h)) ⟨⟨rfl,rfl,rfl⟩,trivial⟩ rfl rfl rfl rfl ?_
  refine sg [] rfl (by simp) ?_
  exact Ab ⟨_,rfl,tV rfl,trivial⟩
def bJ : TT:=ZQ ++ [
 (219,⟨.iface,false,1,16,[.imm .niliface]⟩),
 (212,⟨.sl 219,false,1,24,[.nils]⟩),
 (214,⟨.struct [(0,72)],true,2,40,[.imm (.str []),.nils]⟩),
 (216,⟨.struct [(0,143)],true,15,224,[.imm (.str []),.imm (.str []),.imm (.int .i64 0),.imm (.int .i64 0),.imm (.str []),.nils,.imm (.int .i64 0),.imm (.int .i64 0),.imm (.str []),.nils,.imm (.int .i64 0),.imm (.int .i64 0),.imm (.str []),.nils,.nils]⟩),
 (103,⟨.func,false,1,8,[.imm .nilfn]⟩),
 (236,⟨.func,false,1,8,[.imm .nilfn]⟩),
 (220,⟨.func,false,1,8,[.imm .nilfn]⟩)]
theorem Bn : TTok Tryz.prog bJ:=.of_eq (l:=[4,3,9,141,26,50,138,27,5,24,23,57,139,48,143,147,75,22,145,72,70,38,239,192,1,195,248,219,212,214,216,103,236,220]) (by kernel_rfl)
section
variable {n : Nat} {F : List Nat} {Q : DQ} {env env' : Env} {st st' : St} {ids ids' : List Nat} {k todo : List DI} {ob : List Prop}
theorem ad (path : List Pt) (h : run bJ n 300 path todo env st ids [] = .at k env' st' ids' ob) (hob : A1 ob) (hd : G Tryz.prog n F Q k env' st' ids') : DGo Tryz.prog n F Q todo env st ids:=L5 Bn mixed 300 path h hob hd
theorem ag (path : List Pt) (h : run bJ n 300 path todo env st ids [] = .at k env' st' ids' ob) (hob : A1 ob) (hd : G Tryz.prog n F Q k env' st' ids') : G Tryz.prog n F Q todo env st ids:=J2 Bn mixed 300 path h hob hd
theorem ai {es : List (List V)} {m : Int} {sz : Nat} {e : TypeId} {g : Option (Bool × Bool)} {ob : List Prop} {t : Nat} {todo' : List DI} {c : List V} (h : NQ bJ n env todo = some ⟨es,m,sz,e,g,ob,some t,todo'⟩)
  (hc : Af g → 0 ≤ m ∧ es[m.toNat]? = some c ∧ c.length = sz) (hob : A1 ob) (hk : G Tryz.prog n F Q todo' ((t,gD g (.ip e c 0)) :: env) st ids) : G Tryz.prog n F Q todo env st ids:=Fx Bn h hc hob hk
end
def Da {α : Type} (q : α → Bool) : List α → Nat → Int
 | [],_=>-1
 | e :: r,i=>if q e then (i : Int) else Da q r (i + 1)
theorem FQ {α : Type} (q : α → Bool) : ∀ (es : List α) (i : Nat),0 ≤ Da q es i ↔ es.any q = true
 | [],i=>by simp [Da]
 | e :: r,i=>by
  have ih:=FQ q r (i + 1)
  by_cases h : q e = true
  ·simp [Da,h]
  ·simp only [Da,h,List.any_cons]
   simpa using ih
theorem aJ (g : FuncId) (tf : TypeId) (fv : V) (q : List V → Bool) (es : List (List V)) (hes : ∀ e ∈ es,e.length = 4) (hlen : es.length ≤ 9223372036854775806)
  (hq : ∀ e ∈ es,AU Tryz.prog g [.imm (.agg e),.ref 1 0] [(1,some (.immb tf 1 [fv]))] (.ret (.imm (.bool (q e))) [(1,some (.immb tf 1 [fv]))])) :
  AU Tryz.prog 149 [.imm (.sl es),.fn (.func g) [] [.ref 1 0]] [(1,some (.immb tf 1 [fv]))] (.ret (.imm (.int .i64 (Da q es 0))) [(1,some (.immb tf 1 [fv]))]):=by
 refine Ae Bn Tryz.func149 (by decide +kernel) rfl [2,3,4] rfl rfl ?_
 refine ag [] rfl (by simp) ?_
 refine Ah (fun i : Nat=>[(8,.imm (.int .i64 i)),(7,.imm (.int .i64 es.length)),(0,.imm (.sl es)),(1,.fn (.func g) [] [.ref 1 0])]) (fun _=>[(1,some (.immb tf 1 [fv]))]) [2,3,4] (fun i=>es.length - i)
  (fun i=>i ≤ es.length ∧ Da q es 0 = Da q (es.drop i) i) 0 ⟨Nat.zero_le _,rfl⟩ ⟨rfl,As (by simp),rfl,rfl,trivial⟩ ⟨rfl,trivial⟩ rfl fun i hi ih=>?_
 refine ad [] rfl (by simp) ?_
 have hi2:=hi.2
 refine Aa rfl (fun h=>?_) (fun h=>?_)
 ·simp at h
  obtain ⟨e,he⟩:=Ai h
  have hm:=List.mem_of_getElem? he
  rw [Al he] at hi2
  refine ad [] rfl (by simp) ?_
  refine ai rfl (c:=e) (fun _=>⟨by simp,by simpa using he,hes e hm⟩) (by simp) ?_
  refine ag [] rfl (by simp [hes e hm]) ?_
  refine Az (fr:=[]) [(1,1)] [] rfl (by simp) (hq e hm) ⟨⟨rfl,rfl,rfl⟩,trivial⟩ rfl rfl rfl rfl ?_
  refine ag [] rfl (by simp) ?_
  refine Aa rfl (fun h=>?_) (fun h=>?_)
  ·refine ad [] rfl (by simp) ?_
   exact Ab ⟨_,rfl,tV (congrArg _ (by rw [hi2];simp [Da,h])),⟨rfl,trivial⟩⟩
  ·refine ad [] rfl (by simp) ?_
   exact Ad (ih (i + 1) (by omega) ⟨by omega,by rw [hi2];simp [Da,h]⟩) ⟨As (Bw (by omega) (by omega)),rfl,rfl,rfl,trivial⟩ ⟨rfl,trivial⟩ rfl
 ·refine ad [] rfl (by simp) ?_
  simp at h
  refine Ab ⟨_,rfl,tV (congrArg _ ?_),⟨rfl,trivial⟩⟩
  rw [hi2,List.drop_eq_nil_of_le (by omega)];rfl
theorem Wi (g : FuncId) (tf : TypeId) (fv : V) (q : List V → Bool) (es : List (List V)) (hes : ∀ e ∈ es,e.length = 4) (hlen : es.length ≤ 9223372036854775806)
  (hq : ∀ e ∈ es,AU Tryz.prog g [.imm (.agg e),.ref 1 0] [(1,some (.immb tf 1 [fv]))] (.ret (.imm (.bool (q e))) [(1,some (.immb tf 1 [fv]))])) :
  AU Tryz.prog 117 [.imm (.sl es),.fn (.func g) [] [.ref 1 0]] [(1,some (.immb tf 1 [fv]))] (.ret (.imm (.bool (es.any q))) [(1,some (.immb tf 1 [fv]))]):=by
 refine Ae Bn Tryz.func117 (by decide +kernel) rfl [2,3,4] rfl rfl ?_
 refine ag [] rfl (by simp) ?_
 refine Az (fr:=[]) [(1,1)] [] rfl (by simp) (aJ g tf fv q es hes hlen hq) ⟨⟨rfl,rfl,rfl⟩,trivial⟩ rfl rfl rfl rfl ?_
 refine ag [] rfl (by simp) ?_
 refine Ab ⟨_,rfl,tV (congrArg _ ?_),⟨rfl,trivial⟩⟩
 rw [Bool.eq_iff_iff,← FQ q es 0]
 simp
theorem cD (g : FuncId) (e : List V) (hel : e.length = 4) (b : Bool) (hq : PureC Tryz.prog g [.agg e] (.bool b)) :
  AU Tryz.prog 181 [.imm (.agg e),.ref 1 0] [(1,some (.immb 103 1 [.fn (.func g)]))] (.ret (.imm (.bool (!b))) [(1,some (.immb 103 1 [.fn (.func g)]))]):=by
 refine Ae Bn Tryz.func181 (by decide +kernel) rfl [2,3,4] rfl rfl ?_
 refine ag [] rfl (by simp [hel]) ?_
 refine Az (fr:=[]) [] [] rfl (by simp) hq trivial rfl rfl rfl rfl ?_
 refine ag [] rfl (by simp) ?_
 exact Ab ⟨_,rfl,tV rfl,⟨rfl,trivial⟩⟩
theorem allT (g : FuncId) (q : List V → Bool) (es : List (List V)) (hes : ∀ e ∈ es,e.length = 4) (hlen : es.length ≤ 9223372036854775806) (hq : ∀ e ∈ es,PureC Tryz.prog g [.agg e] (.bool (q e))) :
  PureC Tryz.prog 172 [.sl es,.fn (.func g)] (.bool (es.all q)):=by
 refine Ae Bn Tryz.func172 (by decide +kernel) rfl [1,2,3] rfl rfl ?_
 refine ag [] rfl (by simp) ?_
 refine Az (fr:=[]) [(1,1)] [] rfl (by simp) (Wi 181 103 (.fn (.func g)) (fun e=>!q e) es hes hlen (fun e he=>cD g e (hes e he) (q e) (hq e he))) ⟨⟨rfl,rfl,rfl⟩,trivial⟩ rfl rfl rfl rfl ?_
 refine ag [] rfl (by simp) ?_
 refine Ab ⟨_,rfl,tV (congrArg _ ?_),trivial⟩
 rw [List.any_eq_not_all_not]
 simp
theorem aL (g : FuncId) (tf : TypeId) (fv : V) (q : List V → Bool) (es : List (List V)) (hes : ∀ e ∈ es,e.length = 2) (hlen : es.length ≤ 9223372036854775806)
  (hq : ∀ e ∈ es,AU Tryz.prog g [.imm (.agg e),.ref 1 0] [(1,some (.immb tf 1 [fv]))] (.ret (.imm (.bool (q e))) [(1,some (.immb tf 1 [fv]))])) :
  AU Tryz.prog 185 [.imm (.sl es),.fn (.func g) [] [.ref 1 0]] [(1,some (.immb tf 1 [fv]))] (.ret (.imm (.int .i64 (Da q es 0))) [(1,some (.immb tf 1 [fv]))]):=by
 refine Ae Bn Tryz.func185 (by decide +kernel) rfl [2,3,4] rfl rfl ?_
 refine ag [] rfl (by simp) ?_
 refine Ah (fun i : Nat=>[(8,.imm (.int .i64 i)),(7,.imm (.int .i64 es.length)),(0,.imm (.sl es)),(1,.fn (.func g) [] [.ref 1 0])]) (fun _=>[(1,some (.immb tf 1 [fv]))]) [2,3,4] (fun i=>es.length - i)
  (fun i=>i ≤ es.length ∧ Da q es 0 = Da q (es.drop i) i) 0 ⟨Nat.zero_le _,rfl⟩ ⟨rfl,As (by simp),rfl,rfl,trivial⟩ ⟨rfl,trivial⟩ rfl fun i hi ih=>?_
 refine ad [] rfl (by simp) ?_
 have hi2:=hi.2
 refine Aa rfl (fun h=>?_) (fun h=>?_)
 ·simp at h
  obtain ⟨e,he⟩:=Ai h
  have hm:=List.mem_of_getElem? he
  rw [Al he] at hi2
  refine ad [] rfl (by simp) ?_
  refine ai rfl (c:=e) (fun _=>⟨by simp,by simpa using he,hes e hm⟩) (by simp) ?_
  refine ag [] rfl (by simp [hes e hm]) ?_
  refine Az (fr:=[]) [(1,1)] [] rfl (by simp) (hq e hm) ⟨⟨rfl,rfl,rfl⟩,trivial⟩ rfl rfl rfl rfl ?_
  refine ag [] rfl (by simp) ?_
  refine Aa rfl (fun h=>?_) (fun h=>?_)
  ·refine ad [] rfl (by simp) ?_
   exact Ab ⟨_,rfl,tV (congrArg _ (by rw [hi2];simp [Da,h])),⟨rfl,trivial⟩⟩
  ·refine ad [] rfl (by simp) ?_
   exact Ad (ih (i + 1) (by omega) ⟨by omega,by rw [hi2];simp [Da,h]⟩) ⟨As (Bw (by omega) (by omega)),rfl,rfl,rfl,trivial⟩ ⟨rfl,trivial⟩ rfl
 ·refine ad [] rfl (by simp) ?_
  simp at h
  refine Ab ⟨_,rfl,tV (congrArg _ ?_),⟨rfl,trivial⟩⟩
  rw [hi2,List.drop_eq_nil_of_le (by omega)];rfl
theorem Wk (g : FuncId) (tf : TypeId) (fv : V) (q : List V → Bool) (es : List (List V)) (hes : ∀ e ∈ es,e.length = 2) (hlen : es.length ≤ 9223372036854775806)
  (hq : ∀ e ∈ es,AU Tryz.prog g [.imm (.agg e),.ref 1 0] [(1,some (.immb tf 1 [fv]))] (.ret (.imm (.bool (q e))) [(1,some (.immb tf 1 [fv]))])) :
  AU Tryz.prog 179 [.imm (.sl es),.fn (.func g) [] [.ref 1 0]] [(1,some (.immb tf 1 [fv]))] (.ret (.imm (.bool (es.any q))) [(1,some (.immb tf 1 [fv]))]):=by
 refine Ae Bn Tryz.func179 (by decide +kernel) rfl [2,3,4] rfl rfl ?_
 refine ag [] rfl (by simp) ?_
 refine Az (fr:=[]) [(1,1)] [] rfl (by simp) (aL g tf fv q es hes hlen hq) ⟨⟨rfl,rfl,rfl⟩,trivial⟩ rfl rfl rfl rfl ?_
 refine ag [] rfl (by simp) ?_
 refine Ab ⟨_,rfl,tV (congrArg _ ?_),⟨rfl,trivial⟩⟩
 rw [Bool.eq_iff_iff,← FQ q es 0]
 simp
theorem cF (g : FuncId) (e : List V) (hel : e.length = 2) (b : Bool) (hq : PureC Tryz.prog g [.agg e] (.bool b)) :
  AU Tryz.prog 180 [.imm (.agg e),.ref 1 0] [(1,some (.immb 236 1 [.fn (.func g)]))] (.ret (.imm (.bool (!b))) [(1,some (.immb 236 1 [.fn (.func g)]))]):=by
 refine Ae Bn Tryz.func180 (by decide +kernel) rfl [2,3,4] rfl rfl ?_
 refine ag [] rfl (by simp [hel]) ?_
 refine Az (fr:=[]) [] [] rfl (by simp) hq trivial rfl rfl rfl rfl ?_
 refine ag [] rfl (by simp) ?_
 exact Ab ⟨_,rfl,tV rfl,⟨rfl,trivial⟩⟩
theorem allC (g : FuncId) (q : List V → Bool) (es : List (List V)) (hes : ∀ e ∈ es,e.length = 2) (hlen : es.length ≤ 9223372036854775806) (hq : ∀ e ∈ es,PureC Tryz.prog g [.agg e] (.bool (q e))) :
  PureC Tryz.prog 170 [.sl es,.fn (.func g)] (.bool (es.all q)):=by
 refine Ae Bn Tryz.func170 (by decide +kernel) rfl [1,2,3] rfl rfl ?_
 refine ag [] rfl (by simp) ?_
 refine Az (fr:=[]) [(1,1)] [] rfl (by simp) (Wk 180 236 (.fn (.func g)) (fun e=>!q e) es hes hlen (fun e he=>cF g e (hes e he) (q e) (hq e he))) ⟨⟨rfl,rfl,rfl⟩,trivial⟩ rfl rfl rfl rfl ?_
 refine ag [] rfl (by simp) ?_
 refine Ab ⟨_,rfl,tV (congrArg _ ?_),trivial⟩
 rw [List.any_eq_not_all_not]
 simp
theorem aK (g : FuncId) (tf : TypeId) (fv : V) (q : V → Bool) (es : List V) (hlen : es.length ≤ 9223372036854775806)
  (hq : ∀ e ∈ es,AU Tryz.prog g [.imm e,.ref 1 0] [(1,some (.immb tf 1 [fv]))] (.ret (.imm (.bool (q e))) [(1,some (.immb tf 1 [fv]))])) :
  AU Tryz.prog 178 [.imm (.sl (es.map fun x=>[x])),.fn (.func g) [] [.ref 1 0]] [(1,some (.immb tf 1 [fv]))] (.ret (.imm (.int .i64 (Da q es 0))) [(1,some (.immb tf 1 [fv]))]):=by
 refine Ae Bn Tryz.func178 (by decide +kernel) rfl [2,3,4] rfl rfl ?_
 refine ag [] rfl (by simp) ?_
 refine Ah (fun i : Nat=>[(8,.imm (.int .i64 i)),(7,.imm (.int .i64 es.length)),(0,.imm (.sl (es.map fun x=>[x]))),(1,.fn (.func g) [] [.ref 1 0])]) (fun _=>[(1,some (.immb tf 1 [fv]))]) [2,3,4] (fun i=>es.length - i)
  (fun i=>i ≤ es.length ∧ Da q es 0 = Da q (es.drop i) i) 0 ⟨Nat.zero_le _,rfl⟩ ⟨rfl,As (by simp),rfl,rfl,trivial⟩ ⟨rfl,trivial⟩ rfl fun i hi ih=>?_
 refine ad [] rfl (by simp) ?_
 have hi2:=hi.2
 refine Aa rfl (fun h=>?_) (fun h=>?_)
 ·simp at h
  obtain ⟨e,he⟩:=Ai h
  have hm:=List.mem_of_getElem? he
  rw [Al he] at hi2
  refine ad [] rfl (by simp) ?_
  refine ai rfl (c:=[e]) (fun _=>⟨by simp,by simp [he],rfl⟩) (by simp) ?_
  refine ag [] rfl (by simp) ?_
  refine Az (fr:=[]) [(1,1)] [] rfl (by simp) (hq e hm) ⟨⟨rfl,rfl,rfl⟩,trivial⟩ rfl rfl rfl rfl ?_
  refine ag [] rfl (by simp) ?_
  refine Aa rfl (fun h=>?_) (fun h=>?_)
  ·refine ad [] rfl (by simp) ?_
   exact Ab ⟨_,rfl,tV (congrArg _ (by rw [hi2];simp [Da,h])),⟨rfl,trivial⟩⟩
  ·refine ad [] rfl (by simp) ?_
   exact Ad (ih (i + 1) (by omega) ⟨by omega,by rw [hi2];simp [Da,h]⟩) ⟨As (Bw (by omega) (by omega)),rfl,rfl,rfl,trivial⟩ ⟨rfl,trivial⟩ rfl
 ·refine ad [] rfl (by simp) ?_
  simp at h
  refine Ab ⟨_,rfl,tV (congrArg _ ?_),⟨rfl,trivial⟩⟩
  rw [hi2,List.drop_eq_nil_of_le (by omega)];rfl
theorem Wj (g : FuncId) (tf : TypeId) (fv : V) (q : V → Bool) (es : List V) (hlen : es.length ≤ 9223372036854775806)
  (hq : ∀ e ∈ es,AU Tryz.prog g [.imm e,.ref 1 0] [(1,some (.immb tf 1 [fv]))] (.ret (.imm (.bool (q e))) [(1,some (.immb tf 1 [fv]))])) :
  AU Tryz.prog 168 [.imm (.sl (es.map fun x=>[x])),.fn (.func g) [] [.ref 1 0]] [(1,some (.immb tf 1 [fv]))] (.ret (.imm (.bool (es.any q))) [(1,some (.immb tf 1 [fv]))]):=by
 refine Ae Bn Tryz.func168 (by decide +kernel) rfl [2,3,4] rfl rfl ?_
 refine ag [] rfl (by simp) ?_
 refine Az (fr:=[]) [(1,1)] [] rfl (by simp) (aK g tf fv q es hlen hq) ⟨⟨rfl,rfl,rfl⟩,trivial⟩ rfl rfl rfl rfl ?_
 refine ag [] rfl (by simp) ?_
 refine Ab ⟨_,rfl,tV (congrArg _ ?_),⟨rfl,trivial⟩⟩
 rw [Bool.eq_iff_iff,← FQ q es 0]
 simp
theorem cE (g : FuncId) (e : V) (b : Bool) (hq : PureC Tryz.prog g [e] (.bool b)) :
  AU Tryz.prog 169 [.imm e,.ref 1 0] [(1,some (.immb 220 1 [.fn (.func g)]))] (.ret (.imm (.bool (!b))) [(1,some (.immb 220 1 [.fn (.func g)]))]):=by
 refine Ae Bn Tryz.func169 (by decide +kernel) rfl [2,3,4] rfl rfl ?_
 refine ag [] rfl (by simp) ?_
 refine Az (fr:=[]) [] [] rfl (by simp) hq trivial rfl rfl rfl rfl ?_
 refine ag [] rfl (by simp) ?_
 exact Ab ⟨_,rfl,tV rfl,⟨rfl,trivial⟩⟩
theorem allI (g : FuncId) (q : V → Bool) (es : List V) (hlen : es.length ≤ 9223372036854775806) (hq : ∀ e ∈ es,PureC Tryz.prog g [e] (.bool (q e))) :
  PureC Tryz.prog 147 [.sl (es.map fun x=>[x]),.fn (.func g)] (.bool (es.all q)):=by
 refine Ae Bn Tryz.func147 (by decide +kernel) rfl [1,2,3] rfl rfl ?_
 refine ag [] rfl (by simp) ?_
 refine Az (fr:=[]) [(1,1)] [] rfl (by simp) (Wj 169 220 (.fn (.func g)) (fun e=>!q e) es hlen (fun e he=>cE g e (q e) (hq e he))) ⟨⟨rfl,rfl,rfl⟩,trivial⟩ rfl rfl rfl rfl ?_
 refine ag [] rfl (by simp) ?_
 refine Ab ⟨_,rfl,tV (congrArg _ ?_),trivial⟩
 rw [List.any_eq_not_all_not]
 simp
end Go.Hk
namespace Go.Hk
def N8 : Sh → Bool
 | .iface | .other=>false
 | _=>true
structure PTa where
 t : TypeId
 v : V
 to_ : TypeId
 dst : Option Nat
 todo : List DI
def pta (tt : TT) (n : Nat) (env : Env) (todo : List DI) : Option PTa :=
 match PN todo with
 | some o=>match o.guard,o.op with
  | none,.typeAssert x _ to_ true=>match EV env x,lk tt to_,Cj n o.dst,AW todo ([],[]) with
   | some (.imm (.iface t v)),some i,true,some (_,_,todo')=>match N8 i.sh with
    | true=>some ⟨t,v,to_,o.dst,todo'⟩
    | false=>none
   | _,_,_,_=>none
  | _,_=>none
 | none=>none
section
variable {P : Program} {n : Nat} {F : List Nat} {Q : DQ} {tt : TT} {env env' : Env} {st st' : St} {ids ids' : List Nat} {k todo todo' : List DI} {I : Imm} {μ : Mu} {w : World} {a : Act} {Pn : V → Prop} {d : D} {cx : Prop} {ob : List Prop}
theorem KZ {t to_ from_ : TypeId} {i : TyI} {v : Value} (hi : TyOk P to_ i) (hc : N8 i.sh = true) {r : Value} (h : (t = to_ ∧ r = .tuple #[v,.bool true]) ∨ (t ≠ to_ ∧ ∃ z,(P.info? to_).bind (·.zero) = some z ∧ r = .tuple #[z,.bool false])) :
  (Instr.typeAssert (.iface t v) from_ to_ true).run P w = .ok r w:=by
 have hu : ∃ dd,P.underlying to_ = some dd ∧ ∀ ms,dd ≠ .interface ms:=by
  have:=hi.sh
  generalize i.sh = sh at this hc
  cases sh <;> simp only [N8,Bool.false_eq_true] at hc <;> simp only [Cf] at this
  case struct fs=>obtain ⟨f,h1,_⟩:=this;exact ⟨_,h1,fun _ h=>by cases h⟩
  case func=>obtain ⟨a,b,c,h1⟩:=this;exact ⟨_,h1,fun _ h=>by cases h⟩
  all_goals exact ⟨_,this,fun _ h=>by cases h⟩
 obtain ⟨dd,hd,hne⟩:=hu
 rcases h with ⟨rfl,rfl⟩ | ⟨hn,z,hz,rfl⟩
 ·cases dd <;> first | exact absurd rfl (hne _) | simp [Instr.typeAssert,run_underlying hd]
 ·have hz:=D1 (w:=w) hz
  cases dd <;> first | exact absurd rfl (hne _) | simp [Instr.typeAssert,run_underlying hd,hn,hz]
theorem K6 (htt : TTok P tt) {t0 to_ : TypeId} {v0 : V} {d0 : Option Nat} {todo0 : List DI} (h : pta tt n env todo = some ⟨t0,v0,to_,d0,todo0⟩) {r : List V}
  (hr : (t0 = to_ ∧ r = [v0,.bool true]) ∨ (t0 ≠ to_ ∧ ∃ z zd,(P.info? to_).bind (·.zero) = some z ∧ (∀ I,RepV I z zd) ∧ r = [zd,.bool false]))
  (hk : G P n F Q todo0 (B0 d0 (.imm (.tup r)) env) st ids) : G P n F Q todo env st ids:=by
 unfold pta at h
 split at h
 ·rename_i o ho
  split at h
  ·rename_i x from_ to' hg hop
   split at h
   ·rename_i t v i all o' todo' hx hi hd h1
    split at h
    ·rename_i hc
     cases h
     have ho' : o' = o:=CR ho h1
     subst ho'
     refine BH (fr:=[]) (wr:=[]) (rd:=[]) h1 ?_ hd (fun c hc=>by rw [hop] at hc;cases hc) hk
     intro I μ st1 ids1 a w hag hst hon
     refine ⟨fun _=>?_,fun hw=>by rw [wanted_none hg] at hw;cases hw⟩
     have hops:=Bj hon
     rw [hop] at hops
     have rx:=(hops x (by simp [Op.operands]) _ hx).immInv
     generalize hv : a.eval x = v at rx
     cases rx with
     | iface _ u _ hu =>
      have fin : ∀ (z : Value) (b : Bool) (zd : V),(Instr.typeAssert (.iface t0 u) from_ to_ true).run P w = .ok (.tuple #[z,.bool b]) w → RepV I z zd → r = [zd,.bool b] →
        valX P ((execOp a.eval o').run P w) (fun v w'=>∃ I' μ',StRep I' μ' ([] ++ st1) ids1 w' ∧ RepD I' μ' v (.imm (.tup r)) ∧ μ.le μ' ∧ Ext I μ st1 w I' μ' ([] ++ st1) w') (Ku (MD Q) I μ st1 w):=by
       intro z b zd h1 h2 h3
       have hrun : (execOp a.eval o').run P w = .ok (.value (.tuple #[z,.bool b])) w:=by
        simp only [execOp,hop,hv]
        exact Aq h1
       rw [hrun,h3]
       refine ⟨I,μ,hst,.imm _ _ (.tup _ _ rfl fun i c x hc hx=>?_),Mu.le_refl μ,Ext.refl _ _ _ _⟩
       match i,hc,hx with
       | 0,hc,hx=>cases hc;cases hx;exact h2
       | 1,hc,hx=>cases hc;cases hx;exact .bool _
       | i + 2,hc,hx=>simp at hx
      rcases hr with ⟨e1,e2⟩ | ⟨e1,z,zd,e2,e3,e4⟩
      ·exact fin u true v0 (KZ (htt _ _ hi) hc (.inl ⟨e1,rfl⟩)) hu e2
      ·exact fin z false zd (KZ (htt _ _ hi) hc (.inr ⟨e1,z,e2,rfl⟩)) (e3 I) e4
    ·cases h
   ·cases h
  ·cases h
 ·cases h
end
end Go.Hk
namespace Go.Hk
open Go.Proofs
mutual
theorem Fb : ∀ {a b : Ty},dTyc a = dTyc b → a = b
 | .mk s n x ps,.mk s' n' x' ps',h=>by
  simp only [dTyc,List.cons.injEq,V.int.injEq,V.str.injEq,V.sl.injEq,and_true,true_and] at h
  obtain ⟨h1,h2,h3,h4⟩:=h
  subst h1;subst h2;subst h3
  rw [Fa h4]
theorem Fa : ∀ {a b : List Ty},A9 a = A9 b → a = b
 | [],[],_=>rfl
 | [],_ :: _,h=>by simp [A9] at h
 | _ :: _,[],h=>by simp [A9] at h
 | x :: r,y :: t,h=>by
  simp only [A9,List.cons.injEq] at h
  rw [Fb h.1,Fa h.2]
end
theorem N2 {a b : Cd} (h : CA a = CA b) : a = b:=by
 obtain ⟨a1,a2⟩:=a
 obtain ⟨b1,b2⟩:=b
 simp only [CA,List.cons.injEq,V.str.injEq,V.sl.injEq,and_true] at h
 rw [h.1,Fa h.2]
open Classical in
noncomputable def qOf {α β : Type} (d : α → β) (f : α → Bool) (e : β) : Bool:=decide (∃ t,d t = e ∧ f t = true)
open Classical in
theorem GY {α β : Type} {d : α → β} (hd : ∀ {a b},d a = d b → a = b) (f : α → Bool) (t : α) : qOf d f (d t) = f t:=by
 unfold qOf
 by_cases h : f t = true
 ·rw [h];exact decide_eq_true ⟨t,rfl,h⟩
 ·simp only [Bool.not_eq_true] at h
  rw [h]
  refine decide_eq_false fun ⟨u,h1,h2⟩=>?_
  rw [hd h1,h] at h2
  cases h2
theorem PI {α β : Type} {d : α → β} (hd : ∀ {a b},d a = d b → a = b) (f : α → Bool) (l : List α) : (l.map d).all (qOf d f) = l.all f:=by
 rw [List.all_map]
 congr 1
 funext t
 exact GY hd f t
def JK (c : Cd) : Bool:=Cl c.name && decide ((c.args.length : Int) ≤ 3) && c.args.all (Bk false)
def Ef (d : Dt) : Bool:=Cl d.name && decide ((1 : Int) ≤ d.cons.length) && decide ((d.cons.length : Int) ≤ 5) && d.cons.all JK
def J3 (f : Fd) : Bool:=CT f.name && CT f.param && Bk false f.from_ && Bk false f.to_ && IM f.body
theorem Yu (ts : List Ty) (h : ts.length ≤ 9223372036854775806) : PureC Tryz.prog 172 [.sl (A9 ts),.fn (.func 173)] (.bool (ts.all (Bk false))):=by
 have:=allT 173 (qOf dTyc (Bk false)) (A9 ts) (fun e he=>by rw [BW] at he;obtain ⟨t,_,rfl⟩:=List.mem_map.1 he;simp) (by simpa using h) (fun e he=>by
  rw [BW] at he
  obtain ⟨t,_,rfl⟩:=List.mem_map.1 he
  rw [GY Fb]
  exact Mh t)
 rw [BW,PI Fb] at this
 rw [BW]
 exact this
theorem Vu (c : Cd) : PureC Tryz.prog 171 [.agg (CA c)] (.bool (JK c)):=by
 obtain ⟨nm,ts⟩:=c
 refine A2 fun hv=>?_
 simp [Bt,Dd,CA,maxLen] at hv
 refine Ae Bn Tryz.func171 (by decide +kernel) rfl [1,2,3] rfl rfl ?_
 refine ag [] rfl (by simp [Af]) ?_
 refine Ac rfl (fun _=>Cr nm) (by simp [Af]) ?_
 refine ag [] rfl (by simp [Af]) ?_
 refine Ac rfl (fun hg=>Yu ts (by simp [Af] at hg;omega)) (by simp [Af]) ?_
 refine ag [] rfl (by simp [Af] <;> grind) ?_
 refine Ab ⟨_,rfl,tV (congrArg _ ?_),trivial⟩
 simp [JK] <;> grind
theorem Z0 (cs : List Cd) (h : cs.length ≤ 9223372036854775806) : PureC Tryz.prog 170 [.sl (cs.map CA),.fn (.func 171)] (.bool (cs.all JK)):=by
 have:=allC 171 (qOf CA JK) (cs.map CA) (fun e he=>by obtain ⟨t,_,rfl⟩:=List.mem_map.1 he;rfl) (by simpa using h) (fun e he=>by
  obtain ⟨t,_,rfl⟩:=List.mem_map.1 he
  rw [GY N2]
  exact Vu t)
 rw [PI N2] at this
 exact this
def Jg (d : Dt) : V:=.iface 214 (.agg (BB d))
def Hb (f : Fd) : V:=.iface 216 (.agg (LJ f))
theorem P1 : ∃ z,(Tryz.prog.info? 214).bind (·.zero) = some z ∧ ∀ I,RepV I z (.agg [.str [],.sl []]):=by
 refine ⟨.agg #[.string ⟨#[]⟩,.slice none 0 0],by kernel_rfl,fun I=>.agg _ _ rfl (by decide) fun i c x hc hx=>?_⟩
 match i,hc,hx with
 | 0,hc,hx=>cases hc;cases hx;exact .str _ _ rfl
 | 1,hc,hx=>cases hc;cases hx;exact .slnil
 | i + 2,hc,hx=>simp at hx
theorem SN (d : Dt) : PureC Tryz.prog 148 [Jg d] (.bool (Ef d)):=by
 obtain ⟨nm,cs⟩:=d
 refine A2 fun hv=>?_
 simp [Bt,Dd,Jg,BB,maxLen] at hv
 refine Ae Bn Tryz.func148 (by decide +kernel) rfl [1,2,3,4] rfl rfl ?_
 refine ag [] rfl (by simp [Af]) ?_
 refine K6 Bn rfl (.inl ⟨rfl,rfl⟩) ?_
 refine ag [.a] rfl (by simp [Af]) ?_
 refine Ac rfl (fun _=>Cr nm) (by simp [Af]) ?_
 refine ag [] rfl (by simp [Af]) ?_
 refine Ac rfl (fun hg=>Z0 cs (by simp [Af] at hg;omega)) (by simp [Af]) ?_
 refine ag [] rfl (by simp [Af] <;> grind) ?_
 refine Ab ⟨_,rfl,tV (congrArg _ ?_),trivial⟩
 simp [Ef] <;> grind
theorem Vt (f : Fd) : PureC Tryz.prog 148 [Hb f] (.bool (J3 f)):=by
 obtain ⟨nm,pm,⟨s1,n1,x1,p1⟩,⟨s2,n2,x2,p2⟩,⟨o3,n3,x3,k3,p3⟩⟩:=f
 obtain ⟨z,hz,hzr⟩:=P1
 refine A2 fun hv=>?_
 refine Ae Bn Tryz.func148 (by decide +kernel) rfl [1,2,3,4] rfl rfl ?_
 refine ag [] rfl (by simp [Af]) ?_
 refine K6 Bn rfl (.inr ⟨by decide,z,_,hz,hzr,rfl⟩) ?_
 refine ag [.a] rfl (by simp [Af]) ?_
 refine K6 Bn rfl (.inl ⟨rfl,rfl⟩) ?_
 refine ag [.a] rfl (by simp [Af]) ?_
 refine Ac rfl (fun _=>E8 nm) (by simp [Af]) ?_
 refine ag [] rfl (by simp [Af]) ?_
 refine Ac rfl (fun _=>E8 pm) (by simp [Af]) ?_
 refine ag [] rfl (by simp [Af]) ?_
 refine Ac rfl (fun _=>Mh (.mk s1 n1 x1 p1)) (by simp [Af]) ?_
 refine ag [] rfl (by simp [Af]) ?_
 refine Ac rfl (fun _=>Mh (.mk s2 n2 x2 p2)) (by simp [Af]) ?_
 refine ag [] rfl (by simp [Af]) ?_
 refine Ac rfl (fun _=>Y5 (.mk o3 n3 x3 k3 p3)) (by simp [Af]) ?_
 refine ag [] rfl (by simp [Af] <;> grind) ?_
 refine Ab ⟨_,rfl,tV (congrArg _ ?_),trivial⟩
 simp [J3,Hw] <;> grind
inductive Pt2 where
 | d (x : Dt)
 | f (x : Fd)
def Yh : Pt2 → V
 | .d x=>Jg x
 | .f x=>Hb x
def QX : Pt2 → Bool
 | .d x=>Ef x
 | .f x=>J3 x
theorem WV (p : Pt2) : PureC Tryz.prog 148 [Yh p] (.bool (QX p)):=by
 cases p with
 | d x=>exact SN x
 | f x=>exact Vt x
mutual
theorem Yg : ∀ {a b : Tm},B8 a = B8 b → a = b
 | .mk s n x ks ps,.mk s' n' x' ks' ps',h=>by
  simp only [B8,List.cons.injEq,V.int.injEq,V.str.injEq,V.sl.injEq,and_true,true_and] at h
  obtain ⟨h1,h2,h3,h4,h5⟩:=h
  subst h1;subst h2;subst h3
  rw [N0 h4,Fa h5]
theorem N0 : ∀ {a b : List Tm},IJ a = IJ b → a = b
 | [],[],_=>rfl
 | [],_ :: _,h=>by simp [IJ] at h
 | _ :: _,[],h=>by simp [IJ] at h
 | x :: r,y :: t,h=>by
  simp only [IJ,List.cons.injEq] at h
  rw [Yg h.1,N0 h.2]
end
theorem Jp : ∀ {a b : List Cd},a.map CA = b.map CA → a = b
 | [],[],_=>rfl
 | [],_ :: _,h=>by simp at h
 | _ :: _,[],h=>by simp at h
 | x :: r,y :: t,h=>by
  simp only [List.map_cons,List.cons.injEq] at h
  rw [N2 h.1,Jp h.2]
theorem UQ {a b : Pt2} (h : Yh a = Yh b) : a = b:=by
 cases a with
 | d x=>cases b with
  | d y =>
   obtain ⟨x1,x2⟩:=x
   obtain ⟨y1,y2⟩:=y
   simp only [Yh,Jg,BB,V.iface.injEq,V.agg.injEq,List.cons.injEq,V.str.injEq,V.sl.injEq,true_and,and_true] at h
   rw [h.1,Jp h.2]
  | f y=>simp [Yh,Jg,Hb] at h
 | f x=>cases b with
  | d y=>simp [Yh,Jg,Hb] at h
  | f y =>
   obtain ⟨nm,pm,⟨s1,n1,x1,p1⟩,⟨s2,n2,x2,p2⟩,⟨o3,n3,x3,k3,p3⟩⟩:=x
   obtain ⟨nm',pm',⟨s1',n1',x1',p1'⟩,⟨s2',n2',x2',p2'⟩,⟨o3',n3',x3',k3',p3'⟩⟩:=y
   simp only [Yh,Hb,LJ,dTyc,B8,V.iface.injEq,V.agg.injEq,List.cons_append,List.nil_append,List.cons.injEq,V.str.injEq,V.int.injEq,V.sl.injEq,true_and,and_true] at h
   obtain ⟨h1,h2,h3,h4,h5,h6,h7,h8,h9,h10,h11,h12,h13,h14,h15⟩:=h
   rw [h1,h2,h3,h4,h5,Fa h6,h7,h8,h9,Fa h10,h11,h12,h13,N0 h14,Fa h15]
theorem S5 (ps : List Pt2) (h : ps.length ≤ 9223372036854775806) : PureC Tryz.prog 147 [.sl (ps.map fun p=>[Yh p]),.fn (.func 148)] (.bool (ps.all QX)):=by
 have:=allI 148 (qOf Yh QX) (ps.map Yh) (by simpa using h) (fun e he=>by
  obtain ⟨t,_,rfl⟩:=List.mem_map.1 he
  rw [GY UQ]
  exact WV t)
 rw [PI UQ,List.map_map] at this
 exact this
def GG (m : Md) : Bool:=CT m.name && decide ((m.datas.length : Int) ≤ 4) && decide ((1 : Int) ≤ m.funs.length) && decide ((m.funs.length : Int) ≤ 5) && m.datas.all Ef && m.funs.all J3
def Id (l : List Pt2) : List (List V):=l.map fun p=>[Yh p]
@[simp] theorem rowP_length (l : List Pt2) : (Id l).length = l.length:=by simp [Id]
def Zp (b : Bool) (k : Nat) : D:=match b with
 | false=>.nils
 | true=>.own 2 k
def cN (b : Bool) (m : Md) (es : List (List V)) : St:=match b with
 | false=>[(1,some (.immb 147 3 (Qs m)))]
 | true=>[(2,some (.row 219 1 es)),(1,some (.immb 147 3 (Qs m)))]
theorem M3 (a b : List Pt2) : Id (a ++ b) = Id a ++ Id b:=by simp [Id]
theorem US (m : Md) (b : Bool) (es0 : List (List V)) (hb : b = false → es0 = []) (he0 : es0 = Id (m.datas.map .d)) (hd : (m.datas.length : Int) ≤ 4) (hf1 : (1 : Int) ≤ m.funs.length) (hf : (m.funs.length : Int) ≤ 5) :
  DGo Tryz.prog Tryz.f116.ntmps (Dk []) (Og bJ Tryz.f116.results.toList (.ret (.imm (Hw (m.datas.all Ef && m.funs.all J3))) []))
   [.code (Fh Tryz.f116 4)] [(3,Zp b es0.length),(1,.ref 1 0)] (cN b m es0) [3,4]:=by
 cases b with
 | false =>
  have:=hb rfl
  subst this
  refine ad [] rfl (by simp) ?_
  refine Ah (fun y : Nat × Bool × List (List V)=>[(47,.imm (.int .i64 y.1)),(46,.imm (.int .i64 m.funs.length)),(45,.imm (.sl (m.funs.map LJ))),(3,Zp y.2.1 y.2.2.length),(1,.ref 1 0)])
   (fun y=>cN y.2.1 m y.2.2) [3,4] (fun y=>m.funs.length - y.1)
   (fun y=>y.1 ≤ m.funs.length ∧ y.2.2 = Id (m.datas.map .d ++ (m.funs.take y.1).map .f) ∧ (y.2.1 = false → y.2.2 = [])) (0,false,[]) ⟨Nat.zero_le _,by simpa using he0,fun _=>rfl⟩ ⟨rfl,As (by simp),rfl,rfl,rfl,trivial⟩ ⟨rfl,trivial⟩ rfl fun y hi ih=>?_
  obtain ⟨i,b,es⟩:=y
  obtain ⟨hi1,hi2,hi3⟩:=hi
  simp only at hi1 hi2 hi3
  have hlen : es.length ≤ 9:=by
   have:=congrArg List.length hi2
   simp at this
   omega
  have hnext : ∀ f,m.funs[i]? = some f → es ++ [[Hb f]] = Id (m.datas.map .d ++ (m.funs.take (i + 1)).map .f):=fun f hf=>by
   rw [AI hf,List.map_append,← List.append_assoc,M3,← hi2];rfl
  have hend : ¬ i < m.funs.length → es = Id (m.datas.map .d ++ m.funs.map .f):=fun h=>by
   rw [hi2,List.take_of_length_le (by omega)]
  cases b with
  | false =>
   have hi3:=hi3 rfl
   subst hi3
   refine ad [] rfl (by simp) ?_
   refine Aa rfl (fun h=>?_) (fun h=>?_)
   ·simp at h
    obtain ⟨f,hf⟩:=Ai h
    refine ad [] rfl (by simp) ?_
    refine ai rfl (c:=LJ f) (fun _=>⟨by simp,by simpa using AG hf,by simp⟩) (by simp) ?_
    refine ag [] rfl (by simp) ?_
    refine AZ Bn rfl ⟨by simp,by simp [maxLen],by simp,trivial⟩ ?_
    refine ag [] rfl (by simp) ?_
    refine AT 2 4 rfl ?_
    exact Ad (ih (i + 1,true,[] ++ [[Hb f]]) (by simp only;omega) ⟨by simp only;omega,hnext f hf,fun h=>by cases h⟩) ⟨As (Bw (by simp only;omega) (by simp only;omega)),rfl,rfl,rfl,rfl,trivial⟩ ⟨rfl,rfl,trivial⟩ rfl
   ·simp at h
    have:=congrArg List.length (hend (by omega))
    simp at this
    omega
  | true =>
   refine ad [] rfl (by simp) ?_
   refine Aa rfl (fun h=>?_) (fun h=>?_)
   ·simp at h
    obtain ⟨f,hf⟩:=Ai h
    refine ad [] rfl (by simp) ?_
    refine ai rfl (c:=LJ f) (fun _=>⟨by simp,by simpa using AG hf,by simp⟩) (by simp) ?_
    refine ag [] rfl (by simp) ?_
    refine AZ Bn rfl ⟨by simp,by simp [maxLen];omega,by simp;omega,trivial⟩ ?_
    refine ag [] rfl (by simp) ?_
    refine AT 2 4 rfl ?_
    exact Ad (ih (i + 1,true,es ++ [[Hb f]]) (by simp only;omega) ⟨by simp only;omega,hnext f hf,fun h=>by cases h⟩) ⟨As (Bw (by simp only;omega) (by simp only;omega)),rfl,rfl,rfl,rfl,trivial⟩ ⟨rfl,rfl,trivial⟩ rfl
   ·simp at h
    refine Av rfl ?_
    refine Bu 2 rfl ?_
    refine ad [] rfl (by simp) ?_
    refine Ac rfl (fun _=>by rw [hend (by omega)];exact S5 _ (by simp;omega)) (by simp) ?_
    refine ag [] rfl (by simp) ?_
    have hall : (m.datas.map Pt2.d ++ m.funs.map Pt2.f).all QX = (m.datas.all Ef && m.funs.all J3):=by
     rw [List.all_append,List.all_map,List.all_map];rfl
    rw [hall]
    refine Aa rfl (fun h=>?_) (fun h=>?_)
    ·refine ad [] rfl (by simp) ?_
     refine Ab ⟨_,rfl,tV ?_,trivial⟩
     simp only [Bool.not_eq_true'] at h
     rw [h];rfl
    ·refine ad [] rfl (by simp) ?_
     refine Ab ⟨_,rfl,tV ?_,trivial⟩
     simp only [Bool.not_eq_false'] at h
     rw [h];rfl
 | true =>
  refine ad [] rfl (by simp) ?_
  refine Ah (fun y : Nat × Bool × List (List V)=>[(47,.imm (.int .i64 y.1)),(46,.imm (.int .i64 m.funs.length)),(45,.imm (.sl (m.funs.map LJ))),(3,Zp y.2.1 y.2.2.length),(1,.ref 1 0)])
   (fun y=>cN y.2.1 m y.2.2) [3,4] (fun y=>m.funs.length - y.1)
   (fun y=>y.1 ≤ m.funs.length ∧ y.2.2 = Id (m.datas.map .d ++ (m.funs.take y.1).map .f) ∧ (y.2.1 = false → y.2.2 = [])) (0,true,es0) ⟨Nat.zero_le _,by simpa using he0,fun h=>by cases h⟩ ⟨rfl,As (by simp),rfl,rfl,rfl,trivial⟩ ⟨rfl,rfl,trivial⟩ rfl fun y hi ih=>?_
  obtain ⟨i,b,es⟩:=y
  obtain ⟨hi1,hi2,hi3⟩:=hi
  simp only at hi1 hi2 hi3
  have hlen : es.length ≤ 9:=by
   have:=congrArg List.length hi2
   simp at this
   omega
  have hnext : ∀ f,m.funs[i]? = some f → es ++ [[Hb f]] = Id (m.datas.map .d ++ (m.funs.take (i + 1)).map .f):=fun f hf=>by
   rw [AI hf,List.map_append,← List.append_assoc,M3,← hi2];rfl
  have hend : ¬ i < m.funs.length → es = Id (m.datas.map .d ++ m.funs.map .f):=fun h=>by
   rw [hi2,List.take_of_length_le (by omega)]
  cases b with
  | false =>
   have hi3:=hi3 rfl
   subst hi3
   refine ad [] rfl (by simp) ?_
   refine Aa rfl (fun h=>?_) (fun h=>?_)
   ·simp at h
    obtain ⟨f,hf⟩:=Ai h
    refine ad [] rfl (by simp) ?_
    refine ai rfl (c:=LJ f) (fun _=>⟨by simp,by simpa using AG hf,by simp⟩) (by simp) ?_
    refine ag [] rfl (by simp) ?_
    refine AZ Bn rfl ⟨by simp,by simp [maxLen],by simp,trivial⟩ ?_
    refine ag [] rfl (by simp) ?_
    refine AT 2 4 rfl ?_
    exact Ad (ih (i + 1,true,[] ++ [[Hb f]]) (by simp only;omega) ⟨by simp only;omega,hnext f hf,fun h=>by cases h⟩) ⟨As (Bw (by simp only;omega) (by simp only;omega)),rfl,rfl,rfl,rfl,trivial⟩ ⟨rfl,rfl,trivial⟩ rfl
   ·simp at h
    have:=congrArg List.length (hend (by omega))
    simp at this
    omega
  | true =>
   refine ad [] rfl (by simp) ?_
   refine Aa rfl (fun h=>?_) (fun h=>?_)
   ·simp at h
    obtain ⟨f,hf⟩:=Ai h
    refine ad [] rfl (by simp) ?_
    refine ai rfl (c:=LJ f) (fun _=>⟨by simp,by simpa using AG hf,by simp⟩) (by simp) ?_
    refine ag [] rfl (by simp) ?_
    refine AZ Bn rfl ⟨by simp,by simp [maxLen];omega,by simp;omega,trivial⟩ ?_
    refine ag [] rfl (by simp) ?_
    refine AT 2 4 rfl ?_
    exact Ad (ih (i + 1,true,es ++ [[Hb f]]) (by simp only;omega) ⟨by simp only;omega,hnext f hf,fun h=>by cases h⟩) ⟨As (Bw (by simp only;omega) (by simp only;omega)),rfl,rfl,rfl,rfl,trivial⟩ ⟨rfl,rfl,trivial⟩ rfl
   ·simp at h
    refine Av rfl ?_
    refine Bu 2 rfl ?_
    refine ad [] rfl (by simp) ?_
    refine Ac rfl (fun _=>by rw [hend (by omega)];exact S5 _ (by simp;omega)) (by simp) ?_
    refine ag [] rfl (by simp) ?_
    have hall : (m.datas.map Pt2.d ++ m.funs.map Pt2.f).all QX = (m.datas.all Ef && m.funs.all J3):=by
     rw [List.all_append,List.all_map,List.all_map];rfl
    rw [hall]
    refine Aa rfl (fun h=>?_) (fun h=>?_)
    ·refine ad [] rfl (by simp) ?_
     refine Ab ⟨_,rfl,tV ?_,trivial⟩
     simp only [Bool.not_eq_true'] at h
     rw [h];rfl
    ·refine ad [] rfl (by simp) ?_
     refine Ab ⟨_,rfl,tV ?_,trivial⟩
     simp only [Bool.not_eq_false'] at h
     rw [h];rfl
theorem NM (m : Md) : PureC Tryz.prog 116 [.agg (Qs m)] (Hw (GG m)):=by
 refine A2 fun hv=>?_
 have hv1 : m.datas.length ≤ 9223372036854775807 ∧ m.funs.length ≤ 9223372036854775807:=by
  simp [Bt,Dd,Qs,maxLen] at hv;omega
 refine Ae Bn Tryz.func116 (by decide +kernel) rfl [1,2,3,4] rfl rfl ?_
 refine ag [] rfl (by simp [Af]) ?_
 refine Ac rfl (fun _=>E8 m.name) (by simp [Af]) ?_
 refine ag [] rfl (by simp [Af] <;> grind) ?_
 refine Aa rfl (fun h=>?_) (fun h=>?_)
 ·refine ad [] rfl (by simp) ?_
  refine Ab ⟨_,rfl,tV (congrArg _ ?_),trivial⟩
  have : GG m = false:=by
   simp at h
   simp [GG]
   grind
  rw [this];rfl
 have hx : CT m.name = true ∧ (m.datas.length : Int) ≤ 4 ∧ (1 : Int) ≤ m.funs.length ∧ (m.funs.length : Int) ≤ 5:=by
  simp at h
  refine ⟨?_,?_,?_,?_⟩ <;> grind
 clear h
 have hres : GG m = (m.datas.all Ef && m.funs.all J3):=by simp [GG,hx.1,hx.2.1,hx.2.2.1,hx.2.2.2]
 rw [hres]
 refine ad [] rfl (by simp) ?_
 refine Ah (fun y : Nat × Bool × List (List V)=>[(33,.imm (.int .i64 y.1)),(32,.imm (.int .i64 m.datas.length)),(31,.imm (.sl (m.datas.map BB))),(3,Zp y.2.1 y.2.2.length),(1,.ref 1 0)])
  (fun y=>cN y.2.1 m y.2.2) [3,4] (fun y=>m.datas.length - y.1)
  (fun y=>y.1 ≤ m.datas.length ∧ y.2.2 = Id ((m.datas.take y.1).map .d) ∧ (y.2.1 = false → y.2.2 = [])) (0,false,[]) ⟨Nat.zero_le _,rfl,fun _=>rfl⟩ ⟨rfl,As (by simp),rfl,rfl,rfl,trivial⟩ ⟨rfl,trivial⟩ rfl fun y hi ih=>?_
 obtain ⟨i,b,es⟩:=y
 obtain ⟨hi1,hi2,hi3⟩:=hi
 simp only at hi1 hi2 hi3
 have hlen : es.length ≤ 4:=by
  have:=congrArg List.length hi2
  simp at this
  omega
 have hend : ¬ i < m.datas.length → es = Id (m.datas.map .d):=fun h=>by
  rw [hi2,List.take_of_length_le (by omega)]
 have hnext : ∀ d,m.datas[i]? = some d → es ++ [[Jg d]] = Id ((m.datas.take (i + 1)).map .d):=fun d hd=>by
  rw [AI hd,List.map_append,M3,← hi2];rfl
 cases b with
 | false =>
  have hi3:=hi3 rfl
  subst hi3
  refine ad [] rfl (by simp) ?_
  refine Aa rfl (fun h=>?_) (fun h=>?_)
  ·simp at h
   obtain ⟨d,hd⟩:=Ai h
   refine ad [] rfl (by simp) ?_
   refine ai rfl (c:=BB d) (fun _=>⟨by simp,by simpa using AG hd,by simp⟩) (by simp) ?_
   refine ag [] rfl (by simp) ?_
   refine AZ Bn rfl ⟨by simp,by simp [maxLen],by simp,trivial⟩ ?_
   refine ag [] rfl (by simp) ?_
   refine AT 2 4 rfl ?_
   exact Ad (ih (i + 1,true,[] ++ [[Jg d]]) (by simp only;omega) ⟨by simp only;omega,hnext d hd,fun h=>by cases h⟩) ⟨As (Bw (by simp only;omega) (by simp only;omega)),rfl,rfl,rfl,rfl,trivial⟩ ⟨rfl,rfl,trivial⟩ rfl
  ·simp at h
   refine Av rfl ?_
   exact Ad (US m false [] (fun _=>rfl) (hend (by omega)) hx.2.1 hx.2.2.1 hx.2.2.2) ⟨rfl,rfl,trivial⟩ ⟨rfl,trivial⟩ rfl
 | true =>
  refine ad [] rfl (by simp) ?_
  refine Aa rfl (fun h=>?_) (fun h=>?_)
  ·simp at h
   obtain ⟨d,hd⟩:=Ai h
   refine ad [] rfl (by simp) ?_
   refine ai rfl (c:=BB d) (fun _=>⟨by simp,by simpa using AG hd,by simp⟩) (by simp) ?_
   refine ag [] rfl (by simp) ?_
   refine AZ Bn rfl ⟨by simp,by simp [maxLen];omega,by simp;omega,trivial⟩ ?_
   refine ag [] rfl (by simp) ?_
   refine AT 2 4 rfl ?_
   exact Ad (ih (i + 1,true,es ++ [[Jg d]]) (by simp only;omega) ⟨by simp only;omega,hnext d hd,fun h=>by cases h⟩) ⟨As (Bw (by simp only;omega) (by simp only;omega)),rfl,rfl,rfl,rfl,trivial⟩ ⟨rfl,rfl,trivial⟩ rfl
  ·simp at h
   refine Av rfl ?_
   exact Ad (US m true es (fun h=>by cases h) (hend (by omega)) hx.2.1 hx.2.2.1 hx.2.2.2) ⟨rfl,rfl,trivial⟩ ⟨rfl,rfl,trivial⟩ rfl
end Go.Hk
