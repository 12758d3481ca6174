/- Contracts of term: nodes. (And what it stands on.) -/
import Derived.Test.YtdgomkfabfageaaGreatWb
import Derived.Laws.StructEq
import Derived.MapKept
import Derived.Test.YtdgomkfabfageaaGreatProg
import Derived.WalkKit
import Derived.RowKit3
import Derived.Laws.NewBlocks
import Derived.Defers
import Derived.Recover
set_option linter.unusedSimpArgs false
set_option linter.unusedVariables false

set_option maxRecDepth 100000
namespace Go.Hk
def aF (P : Program) (I : Imm) (μ : Mu) (st : St) (w : World) (d : D) (st' : St) (r : Result Next) : Prop :=
 valX P r (fun u w' => ∃ I' μ',RepD I' μ' u d ∧ StRep I' μ' st' [] w' ∧ Pin (Db st) μ μ' ∧ Ext I μ st w I' μ' st' w') (fun _ _ => False)
def PD (j : Nat) (S : Bun) : St := [(0,some .pin),(j,some (.bun 0 S))]
def Li (P : Program) (ds : List D) (S : Bun) (r : Bool) (S' : Bun) : Prop :=
 ∀ I μ w b (xs : Array Value),μ 0 = some (.func (.yield b) #[] #[]) → StRep I μ (PD 1 S) [] w → RepL I μ xs.toList ds → aF P I μ (PD 1 S) w (.imm (.bool r)) (PD 2 S') ((Instr.yield b xs).run P w)
section
variable {P : Program} {n : Nat} {F : List Nat} {Q : DQ} {tt : TT} {env E : Env} {st st0 st1 : St} {ids ids' : List Nat} {k todo todo' : List DI} {I : Imm} {μ : Mu} {w : World} {Pn : V → Prop} {d : D} {das : List D} {f : FuncId}
theorem Cc : ∀ {st : St} {i : Nat} {b : Blk},Al st i b → i ∈ Db st
 | [],i,b,h => by simp [Al,lk] at h
 | (s,x) :: r,i,b,h => by
  by_cases hs : s = i
  ·subst hs;simp [Db]
  ·have : Al r i b := by unfold Al at h ⊢;rwa [lk_cons_ne _ _ hs] at h
   simp only [Db,List.map_cons,List.mem_cons]
   exact .inr (Cc this)
theorem UJ {s t : St} {i : Nat} {b : Blk} (h : Al s i b) : Al (s ++ t) i b := by
 have hm : i ∈ s.map (·.1) := Cc h
 unfold Al at h ⊢;rwa [E6 hm]
theorem UI {s t : St} {i : Nat} {b : Blk} (hn : i ∉ Db s) (h : Al t i b) : Al (s ++ t) i b := by
 unfold Al at h ⊢;rwa [Hq hn]
structure X3 where
 id : Nat
 das : List D
 g : Option (Bool × Bool)
 ob : List Prop
 dst : Option Nat
 o : Oper
 all : List Oper
def V9 (n : Nat) (env : Env) (todo : List DI) : Option X3 :=
 match AQ todo ([],[]) with
 | some (all,o,_) => match BH all env o,o.op with
  | some g,.call { callee := .value (.tmp t),args := ⟨args⟩,.. } => match lk env t,GT (Af g) env args,BW n o.dst with
   | some (.yld id),some (ds,ob),true => some ⟨id,ds,g,ob,o.dst,o,all⟩
   | some (.guard c w (.yld id)),some (ds,ob),true => some ⟨id,ds,g,(Af g → c = w) :: ob,o.dst,o,all⟩
   | _,_,_ => none
  | _,_ => none
 | none => none
theorem RepD.yldInv {v : Value} {id : Nat} (h : RepD I μ v (.yld id)) : ∃ b,μ id = some (.func (.yield b) #[] #[]) ∧ v = .func (.yield b) #[] #[] := by
 cases h with
 | yld b _ h => exact ⟨b,h,rfl⟩
theorem Uh {o : Oper} {t b : Nat} {args : List Operand} {ts : Array TypeId} {a : Act} (ho : o.op = .call { callee := .value (.tmp t),args := ⟨args⟩,argTypes := ts }) (hv : a.eval (.tmp t) = .func (.yield b) #[] #[]) :
  (execOp a.eval o).run P w = (Instr.yield b (args.map a.eval).toArray).run P w := by
 simp only [execOp,ho,resolve,hv,Deferred.ofValue,Sem.run_bind,Sem.run_pure,Result.andThen_ok,invoke]
 congr 2
 simp
theorem Ui {c : X3} (h : V9 n env todo = some c) (hob : Ay c.ob) (hcx : Af c.g) :
  (∀ f,∃ todo',AQ todo f = some (c.all,c.o,todo')) ∧ BH c.all env c.o = some c.g ∧ BW n c.dst = true ∧ c.dst = c.o.dst ∧ (∀ x,c.o.op ≠ .defer x) ∧
  ∀ I μ a,Ci I μ env a c.o.op → ∃ b,∃ xs : Array Value,μ c.id = some (.func (.yield b) #[] #[]) ∧ RepL I μ xs.toList c.das ∧ ∀ w,(execOp a.eval c.o).run P w = (Instr.yield b xs).run P w := by
 unfold V9 at h
 have hnext : ∀ {all : List Oper} {o : Oper} {t : List DI},AQ todo ([],[]) = some (all,o,t) → ∀ f,∃ todo',AQ todo f = some (all,o,todo') := by
  intro all o t h f
  rcases Hn h with ⟨r,k,rfl,_⟩ | ⟨r,fs,k,rfl,_⟩
  ·exact ⟨_,rfl⟩
  ·exact ⟨_,rfl⟩
 split at h
 ·rename_i all o t h1
  split at h
  ·rename_i g t' args ts hg ho
   have fin : ∀ {dv : D} {ds : List D} {ob : List Prop} {id : Nat},lk env t' = some dv → GT (Af g) env args = some (ds,ob) → Ay ob → Af g → (∀ {I : Imm} {μ : Mu} {v : Value},RepD I μ v dv → ∃ b,μ id = some (.func (.yield b) #[] #[]) ∧ v = .func (.yield b) #[] #[]) →
     ∀ I μ a,Ci I μ env a o.op → ∃ b,∃ xs : Array Value,μ id = some (.func (.yield b) #[] #[]) ∧ RepL I μ xs.toList ds ∧ ∀ w,(execOp a.eval o).run P w = (Instr.yield b xs).run P w := by
    intro dv ds ob id ht ha hob hcx hyl I μ a hop
    rw [ho] at hop
    have hargs := evAs_rep (I := I) (μ := μ) (a := a) hcx ha hob fun x hx => hop x (by simp [Op.operands,Call.operands,hx])
    obtain ⟨b,q1,q2⟩ := hyl (hop (.tmp t') (by simp [Op.operands,Call.operands]) _ ht)
    exact ⟨b,_,q1,by simpa using hargs,fun w => Uh ho q2⟩
   split at h
   ·rename_i id ds ob ht ha hd
    cases h
    exact ⟨hnext h1,hg,hd,rfl,(fun x hx => by rw [ho] at hx;cases hx),fin ht ha hob hcx (fun h => h.yldInv)⟩
   ·rename_i cc ww id ds ob ht ha hd
    cases h
    exact ⟨hnext h1,hg,hd,rfl,(fun x hx => by rw [ho] at hx;cases hx),fin ht ha hob.2 hcx (fun h => (h.guardInv (hob.1 hcx)).yldInv)⟩
   ·cases h
  ·cases h
 ·cases h
theorem TN {c : X3} {j j2 : Nat} {S S' : Bun} {r : Bool} (h : V9 n env todo = some c) (hob : Ay c.ob) (hcx : Af c.g) (hE : Li P (DZ (CM [(c.id,0),(j,1)]) c.das) S r S') (hy : lk st c.id = some (some .pin)) (hj : lk st j = some (some (.bun c.id S)))
  (hn : Mk [(c.id,0),(j,1)] [(2,j2)] c.das (PD 1 S) (.imm (.bool r)) (PD 2 S') [j2] = true) (h1 : AQ todo ([c.id,j],[c.id,j2,c.id,j]) = some (c.all,c.o,todo')) (hids : ids = j2 :: ids')
  (hk : G P n F Q todo' (Bo c.dst (gD c.g (.imm (.bool r))) env) ((c.id,some .pin) :: (j2,some (.bun c.id S')) :: (c.id,none) :: (j,none) :: st) ids') : G P n F Q todo env st ids := by
 obtain ⟨_,q2,q3,q4,q5,q6⟩ := Ui (P := P) h hob hcx
 rw [q4] at q3 hk
 subst hids
 have hN := NT hn
 have hb : EM [(c.id,0),(j,1)] st (PD 1 S) := by
  have hne : Nat.beq c.id j = false := by
   have := hN.inv
   simp only [List.map_cons,List.map_nil,BR,A5] at this
   cases hb : Nat.beq c.id j with
   | false => rfl
   | true =>
    have := Nat.eq_of_beq_eq_true hb
    rw [← this] at hj
    rw [hy] at hj
    cases hj
  have e0 : lk (A5 [(c.id,0),(j,1)]) 0 = some c.id := rfl
  have e1 : lk (A5 [(c.id,0),(j,1)]) 1 = some j := rfl
  have f0 : lk [(c.id,0),(j,1)] c.id = some 0 := lk_cons_self _ _ _
  have f1 : lk [(c.id,0),(j,1)] j = some 1 := by
   have : c.id ≠ j := fun e => by rw [e] at hne;simp at hne
   rw [lk_cons_ne _ _ this];exact lk_cons_self _ _ _
  have g0 : CM [(c.id,0),(j,1)] c.id = 0 := by simp [CM,f0]
  refine ⟨?_,?_,trivial⟩
  ·simp only [e0,f0,hy]
   exact ⟨rfl,rfl,rfl⟩
  ·simp only [e1,f1,hj]
   refine ⟨rfl,?_,?_⟩
   ·simp only [OL,g0]
   ·simp only [OU,BR,f0,e0];simp
 have hl : LD P (LZ Q) c.all c.o env st (Jd [(c.id,0),(j,1)]) [j2] (ES (A5 [(c.id,0),(j,1)] ++ [(2,j2)]) (PD 2 S') ++ B8 (Jd [(c.id,0),(j,1)])) (gD c.g (.imm (.bool r))) := by
  intro I μ st2 ids1 a w hag hst hon
  have hwant := Gi q2 hon
  refine ⟨fun _ => ?_,fun hw => by rw [hwant.2 hcx] at hw;cases hw⟩
  obtain ⟨b,xs,m1,m2,m3⟩ := q6 I μ a (Ba hon)
  have hb' := Gn hag hb
  obtain ⟨g1,g2,g3⟩ := Gm hst hb' hN.args m2
  rw [m3]
  refine (hE I _ w b xs (by simpa [Ev,A5,lk] using m1) g1 g2).mono (fun u w' hu => ?_) (fun _ _ h => h.elim)
  obtain ⟨I',μ',r1,r2,r3,r4⟩ := hu
  obtain ⟨ν,s1,s2,s3,s4⟩ := Kg hst hb' hN r1 r2 r3 r4 g3
  rw [← Jc] at s1 s4
  refine ⟨I',ν,s1,?_,s3,s4⟩
  cases hg : c.g with
  | none => exact s2
  | some p => rw [hg] at hcx;exact .guard _ _ _ _ (fun _ => s2) (fun hn => absurd hcx hn)
 have ew : ES (A5 [(c.id,0),(j,1)] ++ [(2,j2)]) (PD 2 S') ++ B8 (Jd [(c.id,0),(j,1)]) = [(c.id,some .pin),(j2,some (.bun c.id S')),(c.id,none),(j,none)] := rfl
 rw [ew] at hl
 exact BA (fr := [j2]) (wr := [(c.id,some .pin),(j2,some (.bun c.id S')),(c.id,none),(j,none)]) h1 hl q3 q5 hk
end
end Go.Hk
namespace Go.Hk
def aG (pend : Option Code) (stB : St) : DQ := fun x _ st _ => match x,pend with
 | .norm,none => Eu st stB
 | .ret,some .ret => Eu st stB
 | .exit j,some (.exit j') => j = j' ∧ Eu st stB
 | _,_ => False
structure HT where
 fn : FuncId
 ps : Array Tmp
 asg : Code
 body : Code
 tmps : Array Value
 E : Env
 F : List Nat
 μ0 : Mu
def X5 (pend : Option Code) (r : Go.Loop) : Prop := r.state = (match pend with | none => .ready | some _ => .done) ∧ r.pending = pend
def ZX (L : HT) (st : St) (pend : Option Code) (I : Imm) (w : World) (b : Nat) (bs : List Nat) : Prop :=
 ∃ (r : Go.Loop) (μ : Mu) (bs0 : List Nat),bs = b :: bs0 ∧ w.heap[b]? = some (.loop r) ∧ X5 pend r ∧ (r.fn = L.fn ∧ r.params = L.ps ∧ r.assign = L.asg ∧ r.body = L.body ∧ r.tmps = L.tmps) ∧
  (∀ t d,lk L.E t = some d → RepD I μ (L.tmps.getD t undef) d) ∧ (∀ i blk,Al st i blk → ∃ g,μ i = some g ∧ BlkRep I μ w g blk) ∧
  (∀ i j bi bj gi gj k,Al st i bi → Al st j bj → μ i = some gi → μ j = some gj → Cj gi k → Cj gj k → i = j) ∧ (∀ k,k ∈ bs0 ↔ AG μ st k) ∧ b ∉ bs0 ∧ Pin L.F L.μ0 μ
def B3 (L : HT) (st : St) (pend : Option Code) : Bun where
 P := ZX L st pend
 mono := fun {I J w b bs} h hp => by
  obtain ⟨r,μ,bs0,h1,h2,h3,h4,h5,h6,h7,h8,h9,h10⟩ := hp
  exact ⟨r,μ,bs0,h1,h2,h3,h4,fun t d hl => (h5 t d hl).mono h (Mu.le_refl μ),fun i blk hl => let ⟨g,q1,q2⟩ := h6 i blk hl;⟨g,q1,q2.mono h (Mu.le_refl μ)⟩,h7,h8,h9,h10⟩
 loc := fun {I w w' b bs} h hp => by
  obtain ⟨r,μ,bs0,h1,h2,h3,h4,h5,h6,h7,h8,h9,h10⟩ := hp
  subst h1
  exact ⟨r,μ,bs0,rfl,(h b (by simp)).trans h2,h3,h4,h5,fun i blk hl => let ⟨g,q1,q2⟩ := h6 i blk hl;⟨g,q1,q2.world fun k hk => h k (by simp [(h8 k).2 ⟨i,blk,g,hl,q1,hk⟩])⟩,h7,h8,h9,h10⟩
def P3 : Value → List Nat
 | .pointer (some a) => [a.block]
 | .slice (some a) _ _ => [a.block]
 | .map (some c) => [c]
 | .agg cs => cs.toList.filterMap fun | .pointer (some a) => some a.block | _ => none
 | .tuple ⟨[_,.agg cs]⟩ => cs.toList.filterMap fun | .pointer (some a) => some a.block | _ => none
 | _ => []
theorem La {g : Value} {k : Nat} : k ∈ P3 g ↔ Cj g k := by
 unfold P3 Cj
 split <;> simp [eq_comm]
 all_goals
  constructor
  ·rintro ⟨a,h1,h2⟩
   split at h2
   ·cases h2;exact ⟨_,h1,rfl⟩
   ·cases h2
  ·rintro ⟨a,h1,h2⟩
   exact ⟨_,h1,by rw [h2]⟩
open Classical in
theorem Me (μ : Mu) (st : St) : ∃ l : List Nat,∀ k,k ∈ l ↔ AG μ st k := by
 refine ⟨(Db st).flatMap fun i => if (∃ b,Al st i b) then (match μ i with | some g => P3 g | none => []) else [],fun k => ?_⟩
 rw [List.mem_flatMap]
 constructor
 ·rintro ⟨i,_,h⟩
  split at h
  ·rename_i hb
   obtain ⟨b,hb⟩ := hb
   cases hg : μ i with
   | none => rw [hg] at h;cases h
   | some g => rw [hg] at h;exact ⟨i,b,g,hb,hg,La.1 h⟩
  ·cases h
 ·rintro ⟨i,b,g,h1,h2,h3⟩
  refine ⟨i,Cc h1,?_⟩
  rw [if_pos ⟨b,h1⟩,h2]
  exact La.2 h3
def M7 (ids : List Nat) (E : Env) (st : St) (F : List Nat) : Prop := ids.Nodup ∧ ∀ i ∈ ids,i ∉ Ql E ∧ i ∉ Dv st ∧ i ∉ F
section
variable {P : Program} {n : Nat} {F : List Nat} {Q : DQ} {tt : TT} {env E : Env} {st st0 st1 : St} {ids ids' : List Nat} {k todo todo' : List DI} {I : Imm} {μ : Mu} {w : World} {Pn : V → Prop} {d : D} {das : List D} {f : FuncId}
theorem XT : ∀ {st : St} {i : Nat} {b : Blk},Al st i b → i ∈ Dv st := fun h => (CF h).1
theorem Rx {L : HT} {pend : Option Code} {b : Nat} {bs : List Nat} (h : ZX L st pend I w b bs) (hf : M7 ids L.E st L.F) (hI : I.ok w) (hbs : ∀ k ∈ bs,I k = none ∧ k < w.heap.size) :
  ∃ (r : Go.Loop) (ν : Mu) (bs0 : List Nat),bs = b :: bs0 ∧ w.heap[b]? = some (.loop r) ∧ X5 pend r ∧ (r.fn = L.fn ∧ r.params = L.ps ∧ r.assign = L.asg ∧ r.body = L.body ∧ r.tmps = L.tmps) ∧
   (∀ t d,lk L.E t = some d → RepD I ν (L.tmps.getD t undef) d) ∧ StRep I ν st ids w ∧ (∀ k,k ∈ bs0 ↔ AG ν st k) ∧ b ∉ bs0 ∧ Pin L.F L.μ0 ν := by
 obtain ⟨r,μ,bs0,h1,h2,h3,h4,h5,h6,h7,h8,h9,h10⟩ := h
 obtain ⟨hf1,hf2⟩ := hf
 obtain ⟨ν,hν⟩ : ∃ ν : Mu,ν = fun i => if i ∈ ids then none else μ i := ⟨_,rfl⟩
 have hν1 : ∀ i,i ∉ ids → ν i = μ i := fun i hi => by rw [hν];exact if_neg hi
 have hv1 : ∀ i,i ∈ Ql L.E ∨ i ∈ Dv st ∨ i ∈ L.F → ν i = μ i := fun i hi => hν1 i fun hm => by
  obtain ⟨q1,q2,q3⟩ := hf2 i hm
  rcases hi with h | h | h
  ·exact q1 h
  ·exact q2 h
  ·exact q3 h
 have hv2 : ∀ {i bi},Al st i bi → ν i = μ i := fun hl => hv1 _ (.inr (.inl (XT hl)))
 have hown : ∀ k,AG ν st k ↔ AG μ st k := fun k => by
  constructor <;> rintro ⟨i,bi,g,q1,q2,q3⟩
  ·exact ⟨i,bi,g,q1,by rw [← hv2 q1];exact q2,q3⟩
  ·exact ⟨i,bi,g,q1,by rw [hv2 q1];exact q2,q3⟩
 refine ⟨r,ν,bs0,h1,h2,h3,h4,fun t d hl => (h5 t d hl).sub fun j hj g hg => by rw [hv1 j (.inl (RR hl j hj))];exact hg,?_,fun k => by rw [hown k];exact h8 k,h9,fun i hi g hg => by rw [hv1 i (.inr (.inr hi))];exact h10 i hi g hg⟩
 exact
  {imm := hI
   blk := fun i bi hl => by
    obtain ⟨g,q1,q2⟩ := h6 i bi hl
    exact ⟨g,by rw [hv2 hl];exact q1,q2.sub fun j hj g hg => by rw [hv1 j (.inr (.inl ((CF hl).2 j hj)))];exact hg⟩
   apart := fun i bi g k hl hgi hk => hbs k (by rw [h1];exact List.mem_cons_of_mem _ ((h8 k).2 ⟨i,bi,g,hl,by rw [← hv2 hl];exact hgi,hk⟩))
   inj := fun i j bi bj gi gj k hi hj hgi hgj => h7 i j bi bj gi gj k hi hj (by rw [← hv2 hi];exact hgi) (by rw [← hv2 hj];exact hgj)
   nodup := hf1
   idsFree := fun i hi => by rw [hν];exact if_pos hi }
theorem Gw {j : Nat} {S : Bun} (hj : j ≠ 0) {i : Nat} {bi : Blk} (h : Al (PD j S) i bi) : (i = 0 ∧ bi = .pin) ∨ (i = j ∧ bi = .bun 0 S) := by
 rcases A8.1 h with h | ⟨_,h⟩
 ·exact .inl h
 ·rcases A8.1 h with h | ⟨_,h⟩
  ·exact .inr h
  ·simp [Al,lk] at h
def YL : Option Code → List DI
 | none => []
 | some c => [.code c]
theorem JZ {g : Operand} {ps : Array Tmp} {asg body c : Code} {f y j j2 : Nat} {fc : Func} {df dc : List D} {stc stc' stx stB : St} {pend : Option Code} (hg : EB env g = some (.fn (.func f) df dc)) (hf : P.funcs[f]? = some fc)
  (hname : (fc.name == "runtime.NumGoroutine") = false) (hb : fc.body = some c) (hF : We ∉ F) (hEE : Up env E) (hl : ∀ i b, Al (stc ++ stx) i b → Al st i b)
  (hE : ∀ L : HT,P.funcs[L.fn]?.isSome → L.tmps.size = n → L.ps = ps → L.asg = asg → L.body = body → L.E = E → L.F = F →
   AP P f (df ++ .yld y :: dc) ((y,some .pin) :: (j,some (.bun y (B3 L stx none))) :: stc) (.ret d ((y,some .pin) :: (j2,some (.bun y (B3 L stB pend))) :: stc')))
  (hdis : ∀ i ∈ Db stc,i ∉ Db stx) (hyj : y ≠ j ∧ y ≠ j2 ∧ y ∉ Db stc ∧ j ∉ Db stc) (hcl : ∀ i,i ∈ Gu (df ++ dc) ∨ i ∈ Dv stc → i ∈ Db stc) (hfree : M7 ids' E stB F)
  (hk : DGo P n F Q (YL pend ++ k) E stB ids') : DGo P n F Q (.code (.rangeFunc g ps asg body) :: k) env st ids := by
 intro b cs I μ a w items hd hc
 obtain ⟨is,rfl,hki⟩ := EG hd
 rcases b.2 with hb0 | ⟨hb0,fcb,hfb⟩
 ·exact absurd hb0 hF
 have he := run_enterLoop_outer (P := P) (w := w) b.1.fn a.tmps ps asg body
 obtain ⟨ro,hro⟩ : ∃ ro,ro = b.1.roundOf := ⟨_,rfl⟩
 have he' : (Instr.enterLoop b.1.fn a.tmps ps asg body ro).run P w = (Instr.enterLoop b.1.fn a.tmps ps asg body none).run P w := by rw [hro,hb0]
 rw [← he',hro] at he
 clear he'
 obtain ⟨L,hL⟩ : ∃ L : HT,L = ⟨b.1.fn,ps,asg,body,a.tmps,E,F,μ⟩ := ⟨_,rfl⟩
 obtain ⟨wa,hwa⟩ : ∃ wa : World,wa = w.alloc (.deferred (some [])) := ⟨_,rfl⟩
 rw [← hwa] at he
 have hwas : wa.heap.size = w.heap.size + 1 := by rw [hwa];simp
 obtain ⟨R,hR⟩ : ∃ R : Go.Loop,R = { state := .ready,pending := none,fn := b.1.fn,tmps := a.tmps,params := ps,assign := asg,body,defers := w.heap.size } := ⟨_,rfl⟩
 rw [← hR,← hwas] at he
 obtain ⟨w1,hw1⟩ : ∃ w1 : World,w1 = wa.alloc (.loop R) := ⟨_,rfl⟩
 rw [← hw1] at he
 have hw1s : w1.heap.size = w.heap.size + 2 := by rw [hw1];simp;omega
 have hw1o : ∀ i,i < w.heap.size → w1.heap[i]? = w.heap[i]? := fun i hi => by rw [hw1,Hr wa _ (by omega),hwa];exact Hr w _ hi
 have hw1m : w1.heap[w.heap.size]? = some (.deferred (some [])) := by rw [hw1,Hr wa _ (by omega),hwa];exact Ec w _
 have hw1r : w1.heap[wa.heap.size]? = some (.loop R) := by rw [hw1];exact Ec wa _
 have hInew : ∀ k,w.heap.size ≤ k → I k = none := fun k hk => by
  cases hI : I k with
  | none => rfl
  | some o => have := B1 (hc.imm k o hI);omega
 have hS1 : StRep I μ st ids w1 := hc.toStRep.other (by omega) (fun i o hi => hw1o i (B1 (hc.imm i o hi))) (fun i hi => hw1o i (C0 hc.toStRep hi))
 have hlx : ∀ i bi,Al stx i bi → Al st i bi := fun i bi h => hl i bi (UI (fun hm => hdis i hm (Cc h)) h)
 have hlc : ∀ i bi,Al stc i bi → Al st i bi := fun i bi h => hl i bi (UJ h)
 obtain ⟨bs0,hbs0⟩ := Me μ stx
 have hownx : ∀ k,k ∈ bs0 → AG μ st k := fun k hk => let ⟨i,bi,g,h1,h2⟩ := (hbs0 k).1 hk;⟨i,bi,g,hlx i bi h1,h2⟩
 have hltx : ∀ k,k ∈ bs0 → k < w.heap.size := fun k hk => C0 hc.toStRep (hownx k hk)
 have hEnv : ∀ t d',lk E t = some d' → RepD I μ (a.tmps.getD t undef) d' := fun t d' hl => by
  obtain ⟨d,h1,h2⟩ := J9 hEE t d' hl
  exact LA h2 (hc.env t d h1)
 have hB1 : (B3 L stx none).P I w1 wa.heap.size (wa.heap.size :: bs0) := by
  refine ⟨R,μ,bs0,rfl,hw1r,⟨by rw [hR],by rw [hR]⟩,?_,?_,fun i bi h => hS1.blk i bi (hlx i bi h),fun i j bi bj gi gj k hi hj => hS1.inj i j bi bj gi gj k (hlx i bi hi) (hlx j bj hj),hbs0,fun hm => by have := hltx _ hm;omega,?_⟩
  ·rw [hR,hL];exact ⟨rfl,rfl,rfl,rfl,rfl⟩
  ·rw [hL];exact hEnv
  ·rw [hL];exact .refl _ _
 obtain ⟨μc,hμc⟩ : ∃ μc : Mu,μc = fun i => if i = y then some (.func (.yield wa.heap.size) #[] #[]) else if i = j then some (.agg (PT (wa.heap.size :: bs0))) else μ i := ⟨_,rfl⟩
 have hmy : μc y = some (.func (.yield wa.heap.size) #[] #[]) := by rw [hμc];simp
 have hmj : μc j = some (.agg (PT (wa.heap.size :: bs0))) := by rw [hμc];simp [Ne.symm hyj.1]
 have hmo : ∀ i ∈ Db stc,μc i = μ i := fun i hi => by
  have h1 : i ≠ y := fun e => hyj.2.2.1 (e ▸ hi)
  have h2 : i ≠ j := fun e => hyj.2.2.2 (e ▸ hi)
  rw [hμc];simp [h1,h2]
 obtain ⟨st0,hst0⟩ : ∃ st0 : St,st0 = (y,some .pin) :: (j,some (.bun y (B3 L stx none))) :: stc := ⟨_,rfl⟩
 have hl0 : ∀ {i bi},Al st0 i bi → (i = y ∧ bi = .pin) ∨ (i = j ∧ bi = .bun y (B3 L stx none)) ∨ (i ≠ y ∧ i ≠ j ∧ Al stc i bi) := fun {i bi} h => by
  rw [hst0] at h
  rcases A8.1 h with h | ⟨h1,h⟩
  ·exact .inl h
  ·rcases A8.1 h with h | ⟨h2,h⟩
   ·exact .inr (.inl h)
   ·exact .inr (.inr ⟨h1,h2,h⟩)
 have hown0 : ∀ k,AG μc st0 k → k = wa.heap.size ∨ k ∈ bs0 ∨ AG μ stc k := fun k ⟨i,bi,g,h1,h2,h3⟩ => by
  rcases hl0 h1 with ⟨rfl,rfl⟩ | ⟨rfl,rfl⟩ | ⟨_,_,h⟩
  ·rw [hmy] at h2;cases h2;exact h3.elim
  ·rw [hmj] at h2;cases h2
   rcases List.mem_cons.1 (BQ.1 h3) with h | h
   ·exact .inl h
   ·exact .inr (.inl h)
  ·exact .inr (.inr ⟨i,bi,g,h,by rw [← hmo i (Cc h)];exact h2,h3⟩)
 have hcx : ∀ {i bi g k},Al stc i bi → μ i = some g → Cj g k → k ∉ bs0 := fun {i bi g k} h1 h2 h3 hm => by
  obtain ⟨i',bi',g',q1,q2,q3⟩ := (hbs0 k).1 hm
  have := hS1.inj i i' bi bi' g g' k (hlc i bi h1) (hlx i' bi' q1) h2 q2 h3 q3
  subst this
  exact hdis i (Cc h1) (Cc q1)
 have hS0 : StRep I μc st0 [] w1 := by
  refine { imm := hS1.imm,blk := fun i bi h => ?_,apart := fun i bi g k h hgi hk => ?_,inj := fun i i' bi bj gi gj k hi hj hgi hgj hki hkj => ?_,nodup := .nil,idsFree := fun _ h => by simp at h }
  ·rcases hl0 h with ⟨rfl,rfl⟩ | ⟨rfl,rfl⟩ | ⟨_,_,h⟩
   ·exact ⟨_,hmy,_,rfl⟩
   ·exact ⟨_,hmj,_,_,hmy,rfl,hB1⟩
   ·obtain ⟨g,q1,q2⟩ := hS1.blk i bi (hlc i bi h)
    exact ⟨g,by rw [hmo i (Cc h)];exact q1,q2.sub fun x hx g hg => by rw [hmo x (hcl x (.inr ((CF h).2 x hx)))];exact hg⟩
  ·rcases hown0 k ⟨i,bi,g,h,hgi,hk⟩ with h | h | ⟨i',bi',g',q1,q2,q3⟩
   ·rw [h];exact ⟨hInew _ (by omega),by omega⟩
   ·obtain ⟨i',bi',g',q1,q2,q3⟩ := hownx k h
    exact hS1.apart i' bi' g' k q1 q2 q3
   ·exact hS1.apart i' bi' g' k (hlc i' bi' q1) q2 q3
  ·rcases hl0 hi with ⟨rfl,rfl⟩ | ⟨rfl,rfl⟩ | ⟨_,_,hi⟩ <;> rcases hl0 hj with ⟨rfl,rfl⟩ | ⟨rfl,rfl⟩ | ⟨_,_,hj⟩
   ·rfl
   ·rw [hmy] at hgi;cases hgi;exact hki.elim
   ·rw [hmy] at hgi;cases hgi;exact hki.elim
   ·rw [hmy] at hgj;cases hgj;exact hkj.elim
   ·rfl
   ·rw [hmj] at hgi;cases hgi
    have q := hmo i' (Cc hj)
    rw [hgj] at q
    rcases List.mem_cons.1 (BQ.1 hki) with h | h
    ·have := (hS1.apart i' bj gj k (hlc _ _ hj) q.symm hkj)
     have hlt := C0 hc.toStRep ⟨i',bj,gj,hlc _ _ hj,q.symm,hkj⟩
     omega
    ·exact absurd h (hcx hj q.symm hkj)
   ·rw [hmy] at hgj;cases hgj;exact hkj.elim
   ·rw [hmj] at hgj;cases hgj
    have q := hmo i (Cc hi)
    rw [hgi] at q
    rcases List.mem_cons.1 (BQ.1 hkj) with h | h
    ·have hlt := C0 hc.toStRep ⟨i,bi,gi,hlc _ _ hi,q.symm,hki⟩
     omega
    ·exact absurd h (hcx hi q.symm hki)
   ·have q1 := hmo i (Cc hi)
    have q2 := hmo i' (Cc hj)
    rw [hgi] at q1
    rw [hgj] at q2
    exact hS1.inj i i' bi bj gi gj k (hlc _ _ hi) (hlc _ _ hj) q1.symm q2.symm hki hkj
 have hvg := Pq (I := I) (μ := μ) (a := a) hg fun t _ d hl => hc.env t d hl
 generalize hve : a.eval g = vg at hvg
 cases hvg with
 | fn _ first cap _ _ hl1 hl2 q1 q2 =>
 have hnL : ∀ {l m : List D} {i},i ∈ Gu l ∨ i ∈ Gu m → i ∈ Gu (l ++ m) := fun {l m i} h => by
  have : ∀ (l m : List D),Gu (l ++ m) = Gu l ++ Gu m := fun l m => by
   induction l with
   | nil => rfl
   | cons x r ih => simp [Gu,ih]
  rw [this];simpa using h
 have hargs : RepL I μc (first ++ #[Value.func (.yield wa.heap.size) #[] #[]] ++ cap).toList (df ++ .yld y :: dc) := by
  have e : df ++ .yld y :: dc = df ++ [.yld y] ++ dc := by simp
  rw [e,Array.toList_append,Array.toList_append]
  have h1 : RepL I μ first.toList df := ⟨by simpa using hl1,fun i v d p q => q1 i v d (by simpa using p) q⟩
  have h2 : RepL I μ cap.toList dc := ⟨by simpa using hl2,fun i v d p q => q2 i v d (by simpa using p) q⟩
  refine RepL.append (RepL.append (h1.sub fun x hx g hg => ?_) (.mk (.yld _ _ hmy) .nil)) (h2.sub fun x hx g hg => ?_)
  ·rw [hmo x (hcl x (.inl (hnL (.inl hx))))];exact hg
  ·rw [hmo x (hcl x (.inl (hnL (.inr hx))))];exact hg
 have hEL := hE L (by rw [hL];simp [hfb]) (by rw [hL];exact hc.size) (by rw [hL]) (by rw [hL]) (by rw [hL]) (by rw [hL]) (by rw [hL])
 rw [← hst0] at hEL
 have hcall := hEL I μc w1 _ hS0 hargs
 rw [run_callFunc_body hf hname hb] at hcall
 have hres : ∃ dd,(resolve a.eval (rangeCall g wa.heap.size) 0).run P w1 = .ok dd w1 ∧ (invoke dd.target dd.args).run P w1 = .ok (.enter f (first ++ #[Value.func (.yield wa.heap.size) #[] #[]] ++ cap)) w1 := by
  refine ⟨⟨.fn (.func f) cap,first ++ #[Value.func (.yield wa.heap.size) #[] #[]]⟩,?_,?_⟩
  ·have hcv : a.eval (.const (.func (.yield wa.heap.size) #[] #[])) = .func (.yield wa.heap.size) #[] #[] := rfl
   simp [rangeCall,resolve,Deferred.ofValue,hve,hcv]
  ·simpa [invoke] using run_callFunc_body (w := w1) hf hname hb (first ++ #[Value.func (.yield wa.heap.size) #[] #[]] ++ cap)
 obtain ⟨dd,hr1,hr2⟩ := hres
 refine reach_rangeFunc he hr1 hr2 (Calls.mono hcall fun en w3 hen => ?_)
 cases en with
 | panicked chain => exact hen.elim
 | outgrown => exact hen.elim
 | returned v =>
  obtain ⟨I',μ',p1,p2,p3,p4⟩ := hen
  have hly : Al ((y,some .pin) :: (j2,some (.bun y (B3 L stB pend))) :: stc') j2 (.bun y (B3 L stB pend)) := A8.2 (.inr ⟨Ne.symm hyj.2.1,A8.2 (.inl ⟨rfl,rfl⟩)⟩)
  obtain ⟨g2,hg2,b2,bs2,hb2,rfl,hP2⟩ := p2.blk j2 _ hly
  have hyy : μ' y = some (.func (.yield wa.heap.size) #[] #[]) := p3 y (by rw [hst0];simp [Db]) _ hmy
  rw [hyy] at hb2
  cases hb2
  have hbs2 : ∀ k ∈ bs2,I' k = none ∧ k < w3.heap.size := fun k hk => p2.apart j2 _ _ k hly hg2 (BQ.2 hk)
  obtain ⟨r,ν,bsN,e1,hrr,⟨hr2',hr3⟩,⟨hr4,hr5,hr6,hr7,hr8⟩,hE3,hS3,hownN,hnbN,hFN⟩ := Rx hP2 (ids := ids') (by rw [hL];exact hfree) p2.imm hbs2
  subst e1
  have hend := run_endLoop (P := P) hrr (by rw [hr2'];cases pend <;> simp)
  obtain ⟨w4,hw4⟩ : ∃ w4 : World,w4 = w3.putObj wa.heap.size (.loop { r with state := .exhausted }) := ⟨_,rfl⟩
  have hend' : (Instr.endLoop wa.heap.size).run P w3 = .ok pend w4 := by rw [hw4,hend,hr3]
  refine ⟨pend,w4,hend',?_⟩
  have hlb : wa.heap.size < w3.heap.size := B1 hrr
  have hoth : ∀ i,i ≠ wa.heap.size → w4.heap[i]? = w3.heap[i]? := fun i hi => by
   rw [hw4];unfold World.putObj
   simp [Array.getElem?_setIfInBounds_ne (Ne.symm hi)]
  have hw4s : w4.heap.size = w3.heap.size := by rw [hw4];unfold World.putObj;simp
  obtain ⟨hIb,_⟩ := hbs2 _ (List.mem_cons_self ..)
  have hS4 : StRep I' ν stB ids' w4 := hS3.other (by omega) (fun i o hi => hoth i (fun e => by rw [e,hIb] at hi;cases hi)) (fun i hi => hoth i (fun e => hnbN ((hownN _).2 (e ▸ hi))))
  have hsz3 := p4.size
  have hno0 : ∀ k,k < w.heap.size → ¬ AG μ st k → ¬ AG μc st0 k := fun k hk hno h => by
   rcases hown0 k h with h | h | ⟨i,bi,g,q1,q2⟩
   ·omega
   ·exact hno (hownx k h)
   ·exact hno ⟨i,bi,g,hlc i bi q1,q2⟩
  have hblk : ∀ k,k < w1.heap.size → k ≠ wa.heap.size → ¬ AG μc st0 k → w4.heap[k]? = w1.heap[k]? := fun k hk hne hno => (hoth k hne).trans (p4.block k hk hno)
  have hfr : ∀ k,k < w1.heap.size → AG ν stB k → AG μc st0 k := fun k hk ho => p4.fresh k hk ⟨j2,_,_,hly,hg2,BQ.2 (List.mem_cons_of_mem _ ((hownN k).2 ho))⟩
  have hExt : Ext I μ st w I' ν stB w4 :=
   {imm := p4.imm
    os := by rw [hw4];unfold World.putObj;exact p4.os.trans (by rw [hw1,hwa];rfl)
    tape := by rw [hw4];unfold World.putObj;exact p4.tape.trans (by rw [hw1,hwa];rfl)
    output := by rw [hw4];unfold World.putObj;exact p4.output.trans (by rw [hw1,hwa];rfl)
    size := by omega
    block := fun k hk hno => (hblk k (by omega) (by omega) (hno0 k hk hno)).trans (hw1o k hk)
    fresh := fun k hk ho => by
     rcases hown0 k (hfr k (by omega) ho) with h | h | ⟨i,bi,g,q1,q2⟩
     ·omega
     ·exact hownx k h
     ·exact ⟨i,bi,g,hlc i bi q1,q2⟩
    old := fun k hk hno => p4.old k (by omega) (hno0 k hk hno) }
  have hMk : MarksOk I' ν stB w4 ([{ target := .collected w.heap.size,args := #[] }] ++ a.defers) := by
   obtain ⟨rs,r1,r2,r3⟩ := hc.defers
   refine ⟨w.heap.size :: rs,by rw [r1];rfl,List.nodup_cons.2 ⟨fun hm => ?_,r2⟩,fun r hr => ?_⟩
   ·have := B1 (r3 _ hm).1;omega
   have hno : ¬ AG μc st0 r ∧ r < w1.heap.size ∧ r ≠ wa.heap.size ∧ w1.heap[r]? = some (.deferred (some [])) ∧ I r = none := by
    rcases List.mem_cons.1 hr with rfl | hr
    ·refine ⟨fun h => ?_,by omega,by omega,hw1m,hInew _ (Nat.le_refl _)⟩
     rcases hown0 _ h with h | h | ⟨i,bi,g,q1,q2,q3⟩
     ·omega
     ·have := hltx _ h;omega
     ·have := C0 hc.toStRep ⟨i,bi,g,hlc i bi q1,q2,q3⟩;omega
    ·obtain ⟨h1,h2,h3⟩ := r3 r hr
     have hlt := B1 h1
     exact ⟨hno0 r hlt h3,by omega,by omega,(hw1o r hlt).trans h1,h2⟩
   obtain ⟨h1,h2,h3,h4,h5⟩ := hno
   exact ⟨(hblk r h2 h3 h1).trans h4,(p4.old r h2 h1).trans h5,fun ho => h1 (hfr r h2 ho)⟩
  have hC : Conc n I' ν E stB ids' { a with defers := [{ target := .collected w.heap.size,args := #[] }] ++ a.defers } w4 :=
   {hS4 with size := hc.size,env := fun t d hl => by have := hE3 t d (by rw [hL];exact hl);rw [hL] at this;exact this,defers := hMk }
  have hden : O2 (YL pend ++ k) ((pend.map Item.code).toList ++ is) := by
   cases pend with
   | none => exact hki
   | some c => exact ⟨rfl,hki⟩
  refine Reach.mono (fun e a' w' hp => ?_) (hk b cs I' ν _ w4 _ hden hC)
  obtain ⟨x',env',st',ids2,I2,μ2,t1,t2,t3,t4,t5,t6⟩ := hp
  have hpin : Pin F μ ν := by rw [hL] at hFN;exact hFN
  refine ⟨x',env',st',ids2,I2,μ2,t1,t2,t3,hpin.trans t4,hExt.trans t5,fun r hr => ?_⟩
  rcases t6 r hr with h | h
  ·simp only [List.singleton_append,List.mem_cons] at h
   rcases h with h | h
   ·simp only [ZM,Deferred.mk.injEq,Target.collected.injEq,and_true] at h
    exact .inr (by omega)
   ·exact .inl h
  ·exact .inr (by omega)
end
end Go.Hk
namespace Go.Hk
section
variable {P : Program} {n : Nat} {F : List Nat} {Q : DQ} {tt : TT} {env : Env} {st : St} {ids : List Nat} {todo : List DI}
theorem Rg (t : Nat) {id off : Nat} {ty : TypeId} {sz : Nat} {xs : List V} (he : lk env t = some (.ref id off)) (hl : lk st id = some (some (.immb ty sz xs))) (h : DGo P n F Q todo ((t,.ip ty xs off) :: env) ((id,none) :: st) ids) :
  DGo P n F Q todo env st ids := by
 intro b cs I μ a w items hd hc
 have hlive : Al st id (.immb ty sz xs) := hl
 obtain ⟨g,hg,hlen,gb,vs,rfl,hheap,hrep,hone⟩ := hc.blk id _ hlive
 obtain ⟨hno,hlt⟩ := hc.apart id _ _ gb hlive hg rfl
 obtain ⟨J,hJ⟩ : ∃ J : Imm,J = fun k => if k = gb then some (.cells vs ty (0,0)) else I k := ⟨_,rfl⟩
 have hle : I.le J := fun k o h => by
  have : k ≠ gb := fun e => by rw [e,hno] at h;cases h
  rw [hJ];simp [this,h]
 have hJo : ∀ k o,J k = some o → I k = some o ∨ (k = gb ∧ w.heap[k]? = some o) := fun k o h => by
  rw [hJ] at h
  by_cases hk : k = gb
  ·subst hk;simp at h;subst h;exact .inr ⟨rfl,hheap⟩
  ·simp [hk] at h;exact .inl h
 have hE : Ext I μ st w J μ ((id,none) :: st) w :=
  {imm := hle,os := rfl,tape := rfl,output := rfl,size := Nat.le_refl _
   block := fun _ _ _ => rfl
   fresh := fun k _ ⟨i,bi,gi,h1,h2,h3⟩ => ⟨i,bi,gi,(BF.1 h1).2,h2,h3⟩
   old := fun k _ ho => by
    have : k ≠ gb := fun e => ho (e ▸ ⟨id,_,_,hlive,hg,rfl⟩)
    rw [hJ];simp [this] }
 have hv : RepD I μ (a.tmps.getD t undef) (.ref id off) := hc.env t _ he
 have hptr : a.tmps.getD t undef = .pointer (some ⟨gb,off,none⟩) := by
  generalize a.tmps.getD t undef = v at hv
  cases hv with
  | ref b' _ _ hm => rw [hg] at hm;cases hm;rfl
 have hip : RepD J μ (a.tmps.getD t undef) (.ip ty xs off) := by
  rw [hptr]
  have := RepD.ip (I := J) (μ := μ) gb 0 ty xs off (fun j => (vs[j]?).getD undef) (fun j x hx => ?_) (fun j x hx => ?_)
  ·simpa using this
  ·have hj : j < vs.size := by have := hrep.1;have := (List.getElem?_eq_some_iff.1 hx).1;simp at *;omega
   rw [hJ]
   simp only [Imm.cell,if_true,Nat.zero_add,Array.getElem?_eq_getElem hj,Option.getD_some,true_and]
   exact hone _ (by simp)
  ·have hj : j < vs.size := by have := hrep.1;have := (List.getElem?_eq_some_iff.1 hx).1;simp at *;omega
   simp only [Array.getElem?_eq_getElem hj,Option.getD_some]
   exact (hrep.2 j _ x (by simp [hj]) hx).mono hle
 have hc' : Conc n J μ ((t,.ip ty xs off) :: env) ((id,none) :: st) ids a w :=
  {imm := fun k o h => (hJo k o h).elim (fun h => hc.imm k o h) fun h => h.2
   blk := fun i bi hli => by
    obtain ⟨_,h2⟩ := BF.1 hli
    obtain ⟨gi,hgi,hr⟩ := hc.blk i bi h2
    exact ⟨gi,hgi,hr.mono hle (Mu.le_refl μ)⟩
   apart := fun i bi gi k hli hgi hk => by
    obtain ⟨h1,h2⟩ := BF.1 hli
    obtain ⟨q1,q2⟩ := hc.apart i bi gi k h2 hgi hk
    refine ⟨?_,q2⟩
    cases hJk : J k with
    | none => rfl
    | some o =>
     rcases hJo k o hJk with h | ⟨h,_⟩
     ·rw [q1] at h;cases h
     ·exact absurd (hc.inj i id bi _ gi _ k h2 hlive hgi hg hk (by rw [h];rfl)) h1
   inj := fun i j bi bj gi gj k hi hj hgi hgj hki hkj => hc.inj i j bi bj gi gj k (BF.1 hi).2 (BF.1 hj).2 hgi hgj hki hkj
   nodup := hc.nodup
   idsFree := hc.idsFree
   size := hc.size
   env := fun t' d hlt => by
    by_cases ht : t = t'
    ·subst ht;rw [lk_cons_self] at hlt;cases hlt;exact hip
    ·rw [lk_cons_ne _ _ ht] at hlt;exact (hc.env t' d hlt).mono hle (Mu.le_refl μ)
   defers := hc.defers.ext hE }
 exact (h b cs J μ a w items hd hc').mono fun e' a' w' hp => hp.back (.refl _ _) hE
theorem FB (i j : Nat) {ids' : List Nat} {blk : Blk} (hl : lk st i = some (some blk)) (hj : (memN ids j && nodupB ids' && Lc ids' ids && !memN ids' j) = true) (h : DGo P n F Q todo env ((j,some blk) :: (i,none) :: st) ids') : DGo P n F Q todo env st ids := by
 intro b cs I μ a w items hd hc
 simp only [Bool.and_eq_true,Bool.not_eq_true'] at hj
 obtain ⟨⟨⟨hj1,hj2⟩,hj3⟩,hj4⟩ := hj
 have hlive : Al st i blk := hl
 obtain ⟨g,hg,hr⟩ := hc.blk i _ hlive
 have hjn : μ j = none := hc.idsFree j (memN_iff.1 hj1)
 have hij : i ≠ j := fun e => by rw [e,hjn] at hg;cases hg
 obtain ⟨ν,hν⟩ : ∃ ν : Mu,ν = fun k => if k = j then some g else μ k := ⟨_,rfl⟩
 have hνj : ν j = some g := by rw [hν];simp
 have hνo : ∀ k,k ≠ j → ν k = μ k := fun k hk => by rw [hν];simp [hk]
 have hle : μ.le ν := fun k v hk => by
  have : k ≠ j := fun e => by rw [e,hjn] at hk;cases hk
  rw [hνo k this];exact hk
 have hst : ∀ k bk,Al ((j,some blk) :: (i,none) :: st) k bk → (k = j ∧ bk = blk) ∨ (k ≠ j ∧ k ≠ i ∧ Al st k bk) := fun k bk h => by
  rcases A8.1 h with h | ⟨h1,h⟩
  ·exact .inl h
  ·obtain ⟨h2,h3⟩ := BF.1 h
   exact .inr ⟨h1,h2,h3⟩
 have hE : Ext I μ st w I ν ((j,some blk) :: (i,none) :: st) w :=
  {imm := Imm.le_refl I,os := rfl,tape := rfl,output := rfl,size := Nat.le_refl _,block := fun _ _ _ => rfl
   fresh := fun k _ ⟨x,bx,gx,h1,h2,h3⟩ => by
    rcases hst x bx h1 with ⟨rfl,rfl⟩ | ⟨q1,_,q3⟩
    ·rw [hνj] at h2;cases h2;exact ⟨i,_,_,hlive,hg,h3⟩
    ·exact ⟨x,bx,gx,q3,by rw [← hνo x q1];exact h2,h3⟩
   old := fun _ _ _ => rfl }
 have hc' : Conc n I ν env ((j,some blk) :: (i,none) :: st) ids' a w :=
  {imm := hc.imm
   blk := fun k bk hk => by
    rcases hst k bk hk with ⟨rfl,rfl⟩ | ⟨q1,_,q3⟩
    ·exact ⟨g,hνj,hr.mono (Imm.le_refl I) hle⟩
    ·obtain ⟨g',h1,h2⟩ := hc.blk k bk q3
     exact ⟨g',hle _ _ h1,h2.mono (Imm.le_refl I) hle⟩
   apart := fun k bk gk m hk hgk hm => by
    rcases hst k bk hk with ⟨rfl,rfl⟩ | ⟨q1,_,q3⟩
    ·rw [hνj] at hgk;cases hgk;exact hc.apart i _ _ m hlive hg hm
    ·exact hc.apart k bk gk m q3 (by rw [← hνo k q1];exact hgk) hm
   inj := fun k k' bk bk' gk gk' m hk hk' hgk hgk' hm hm' => by
    rcases hst k bk hk with ⟨rfl,rfl⟩ | ⟨q1,p1,q3⟩ <;> rcases hst k' bk' hk' with ⟨rfl,rfl⟩ | ⟨q1',p1',q3'⟩
    ·rfl
    ·rw [hνj] at hgk;cases hgk
     exact absurd (hc.inj k' i bk' _ gk' _ m q3' hlive (by rw [← hνo k' q1'];exact hgk') hg hm' hm) p1'
    ·rw [hνj] at hgk';cases hgk'
     exact absurd (hc.inj k i bk _ gk _ m q3 hlive (by rw [← hνo k q1];exact hgk) hg hm hm') p1
    ·exact hc.inj k k' bk bk' gk gk' m q3 q3' (by rw [← hνo k q1];exact hgk) (by rw [← hνo k' q1'];exact hgk') hm hm'
   nodup := nodupB_spec hj2
   idsFree := fun k hk => by
    have h1 := hc.idsFree k (D4 hj3 k hk)
    have : k ≠ j := fun e => by rw [← e] at hj4;rw [memN_iff.2 hk] at hj4;cases hj4
    rw [hνo k this];exact h1
   size := hc.size
   env := fun t d hlt => (hc.env t d hlt).mono (Imm.le_refl I) hle
   defers := hc.defers.ext hE }
 exact (h b cs I ν a w items hd hc').mono fun e' a' w' hp => hp.back (.of_le hle) hE
inductive Yields (P : Program) : List D → Bun → Bool → Bun → Prop where
 | nil (S : Bun) : Yields P [] S true S
 | cons {d : D} {l : List D} {S S1 S2 : Bun} {r : Bool} (h : Li P [d] S true S1) (h1 : Yields P l S1 r S2) : Yields P (d :: l) S r S2
 | stop {d : D} {l : List D} {S S1 : Bun} (h : Li P [d] S false S1) : Yields P (d :: l) S false S1
theorem Yields.split {l m : List D} {S S2 : Bun} {r : Bool} (h : Yields P (l ++ m) S r S2) : (∃ S1,Yields P l S true S1 ∧ Yields P m S1 r S2) ∨ (r = false ∧ Yields P l S false S2) := by
 induction l generalizing S with
 | nil => exact .inl ⟨S,.nil S,h⟩
 | cons d l ih =>
  cases h with
  | cons h h1 =>
   rcases ih h1 with ⟨S1,q1,q2⟩ | ⟨q1,q2⟩
   ·exact .inl ⟨S1,.cons h q1,q2⟩
   ·exact .inr ⟨q1,.cons h q2⟩
  | stop h => exact .inr ⟨rfl,.stop h⟩
theorem Yields.nilInv {S S2 : Bun} {r : Bool} (h : Yields P [] S r S2) : r = true ∧ S2 = S := by
 cases h;exact ⟨rfl,rfl⟩
theorem Yields.all {l : List D} (S : Nat → Bun) (h : ∀ i d,l[i]? = some d → Li P [d] (S i) true (S (i + 1))) : Yields P l (S 0) true (S l.length) := by
 have : ∀ (l : List D) (k : Nat),(∀ i d,l[i]? = some d → Li P [d] (S (k + i)) true (S (k + i + 1))) → Yields P l (S k) true (S (k + l.length)) := by
  intro l
  induction l with
  | nil => intro k _;exact .nil _
  | cons d l ih =>
   intro k h
   have := ih (k + 1) fun i d hi => by
    have := h (i + 1) d (by simpa using hi)
    rwa [show k + 1 + i = k + (i + 1) by omega]
   rw [show k + 1 + l.length = k + (d :: l).length by simp;omega] at this
   exact .cons (h 0 d rfl) this
 have := this l 0 fun i d hi => by simpa using h i d hi
 simpa using this
end
end Go.Hk
namespace Go.Hk
theorem K5 {α : Type} {sz f : Nat} {ys : List α} : ∀ (es : List (List α)) (k : Nat) (c : List α),(∀ e ∈ es,e.length = sz) → es[k]? = some c → f + ys.length ≤ sz →
  (es.set k (c.take f ++ ys ++ c.drop (f + ys.length))).flatten = es.flatten.take (k * sz + f) ++ ys ++ es.flatten.drop (k * sz + f + ys.length)
 | [],_,_,_,h,_ => by simp at h
 | e :: r,0,c,hs,h,hf => by
  simp at h;subst h
  have he := hs e (by simp)
  simp only [List.set_cons_zero,List.flatten_cons,Nat.zero_mul,Nat.zero_add]
  rw [List.take_append_of_le_length (by omega),List.drop_append_of_le_length (by omega)]
  simp
 | e :: r,k + 1,c,hs,h,hf => by
  have he := hs e (by simp)
  have ih := K5 r k c (fun e h => hs e (by simp [h])) (by simpa using h) hf
  simp only [List.set_cons_succ,List.flatten_cons,ih]
  have e1 : (k + 1) * sz + f = e.length + (k * sz + f) := by rw [he,Nat.succ_mul];omega
  rw [e1,Nat.add_assoc e.length,List.take_length_add_append,List.drop_length_add_append]
  simp
theorem RepVL.splice {I : Imm} {vs ns : List Value} {xs ys : List V} (h : RepVL I vs xs) (k : RepVL I ns ys) (off : Nat) : RepVL I (vs.take off ++ ns ++ vs.drop (off + ns.length)) (xs.take off ++ ys ++ xs.drop (off + ys.length)) := by
 have app : ∀ {a b : List Value} {x y : List V},RepVL I a x → RepVL I b y → RepVL I (a ++ b) (x ++ y) := fun {a b x y} p q =>
  ⟨by simp [p.1,q.1],fun i v z h1 h2 => by
   rw [List.getElem?_append] at h1 h2
   by_cases hi : i < a.length
   ·rw [if_pos hi] at h1;rw [if_pos (by rw [← p.1];exact hi)] at h2;exact p.2 i v z h1 h2
   ·rw [if_neg hi] at h1;rw [if_neg (by rw [← p.1];exact hi),← p.1] at h2;exact q.2 _ v z h1 h2⟩
 refine app (app ⟨by simp [h.1],fun i v z h1 h2 => ?_⟩ k) ⟨by simp [h.1,k.1],fun i v z h1 h2 => ?_⟩
 ·rw [List.getElem?_take] at h1 h2
  by_cases hi : i < off
  ·rw [if_pos hi] at h1 h2;exact h.2 i v z h1 h2
  ·rw [if_neg hi] at h1;cases h1
 ·rw [List.getElem?_drop] at h1 h2
  rw [k.1] at h1
  exact h.2 _ v z h1 h2
structure POi where
 id : Nat
 es : List (List V)
 m : Int
 sz : Nat
 g : Option (Bool × Bool)
 ob : List Prop
 t : Nat
 todo : List DI
def YC (tt : TT) (n : Nat) (env : Env) (st : St) (todo : List DI) : Option POi :=
 match AQ todo ([],[]) with
 | some (all,o,_) => match o.op,BH all env o with
  | .indexAddr t x i,some g => match lk tt t,J7 (Af g) env x,J7 (Af g) env i with
   | some { sh := .sl e,.. },some (.own id _,o1),some (.imm (.int _ m),o2) => match lk tt e,lk st id,o.dst,BW n o.dst,AQ todo ([id],[]) with
    | some ti,some (some (.row _ sz es)),some t',true,some (_,_,todo') => match Nat.beq sz ti.size with
     | true => some ⟨id,es,m,sz,g,FE o1 o2,t',todo'⟩
     | false => none
    | _,_,_,_,_ => none
   | _,_,_ => none
  | _,_ => none
 | none => none
structure POl where
 id : Nat
 es : List (List V)
 k : Nat
 f : Nat
 sz : Nat
 i : TyI
 g : Option (Bool × Bool)
 ob : List Prop
 t : Nat
 todo : List DI
def Wp (tt : TT) (n : Nat) (env : Env) (st : St) (todo : List DI) : Option POl :=
 match AQ todo ([],[]) with
 | some (all,o,_) => match o.op,BH all env o with
  | .load t x,some g => match lk tt t,J7 (Af g) env x with
   | some i,some (.elp id k sz f,o1) => match lk st id,o.dst,BW n o.dst,AQ todo ([id],[]) with
    | some (some (.row _ sz' es)),some t',true,some (_,_,todo') => match Nat.beq sz sz' with
     | true => some ⟨id,es,k,f,sz,i,g,o1,t',todo'⟩
     | false => none
    | _,_,_,_ => none
   | _,_ => none
  | _,_ => none
 | none => none
structure POs where
 id : Nat
 e : TypeId
 es : List (List V)
 k : Nat
 f : Nat
 sz : Nat
 ys : List V
 n : Nat
 ob : List Prop
 todo : List DI
def Tq (tt : TT) (env : Env) (st : St) (todo : List DI) : Option POs :=
 match AQ todo ([],[]) with
 | some (_,o,_) => match o.guard,o.dst,o.op with
  | none,none,.store t p x => match lk tt t,EB env p,EB env x with
   | some i,some (.elp id k sz f),some dx => match lk st id,AQ todo ([id],[id]),elemOf i.size dx with
    | some (some (.row e sz' es)),some (_,_,todo'),some (ys,ob) => match Nat.beq sz sz' with
     | true => some ⟨id,e,es,k,f,sz,ys,i.size,ob,todo'⟩
     | false => none
    | _,_,_ => none
   | _,_,_ => none
  | _,_,_ => none
 | none => none
section
variable {P : Program} {n : Nat} {F : List Nat} {Q : DQ} {tt : TT} {env env' : Env} {st st' : St} {ids ids' : List Nat} {k todo todo' : List DI} {I : Imm} {μ : Mu} {w : World} {a : Act} {Pn : V → Prop} {d : D} {cx : Prop} {ob : List Prop}
theorem FZ {f f' : List Nat × List Nat} {all all' : List Oper} {o o' : Oper} (h : AQ todo f = some (all,o,k)) (h' : AQ todo f' = some (all',o',todo')) : all' = all ∧ o' = o := by
 rcases Hn h with ⟨r,q,rfl,_⟩ | ⟨r,fs,q,rfl,_⟩
 ·simp [AQ] at h';exact ⟨h'.1.symm,h'.2.1.symm⟩
 ·simp [AQ] at h';exact ⟨h'.1.symm,h'.2.1.symm⟩
theorem RL {id : Nat} {e : TypeId} {sz : Nat} {es : List (List V)} (hst : StRep I μ st ids w) (hl : Al st id (.row e sz es)) (hne : es ≠ []) :
  ∃ b cap cur,μ id = some (.slice (some ⟨b,0,none⟩) es.length cap) ∧ w.heap[b]? = some (.cells cur e (0,0)) ∧ es.length ≤ cap ∧ cap ≤ maxLen ∧ cur.size = cap * sz ∧
   RepVL I (cur.toList.take (es.length * sz)) es.flatten ∧ (∀ c ∈ es,c.length = sz) ∧ (∀ c ∈ es,∀ x ∈ c,V.one x = true) ∧ 0 < sz := by
 obtain ⟨g,hg,xs,⟨_,hown⟩,hrep,hsz,hone,hp⟩ := hst.blk id _ hl
 rcases hown with ⟨_,h0⟩ | ⟨b,cap,cur,rfl,_,h2,h3,h4,h5,h6⟩
 ·exact absurd (List.eq_nil_of_length_eq_zero h0) hne
 ·rw [← h6] at hrep
  exact ⟨b,cap,cur,hg,h2,h3,h4,h5,hrep,hsz,hone,hp⟩
theorem GP (htt : TTok P tt) {c : POi} (h : YC tt n env st todo = some c) (hc : Af c.g → 0 ≤ c.m ∧ c.m < c.es.length) (hob : Ay c.ob)
  (hk : G P n F Q c.todo ((c.t,gD c.g (.elp c.id c.m.toNat c.sz 0)) :: env) st ids) : G P n F Q todo env st ids := by
 unfold YC at h
 split at h
 ·rename_i all o todo0 h0
  split at h
  ·rename_i t x i g hop hg
   split at h
   ·rename_i e _ _ _ _ id ln o1 kk m o2 ht hx hi
    split at h
    ·rename_i ti e' sz es t' all' o' todo' hti hl hdst hd h1
     split at h
     ·rename_i hsz
      cases h
      obtain ⟨rfl,rfl⟩ := FZ h0 h1
      have hk : G P n F Q todo' (Bo o'.dst (gD g (.elp id m.toNat sz 0)) env) st ids := by rw [hdst];exact hk
      refine BA (fr := []) (wr := []) (rd := [id]) h1 (Cm hg fun I μ st1 ids1 a w hag hst hops hcx => ?_) (by rw [hdst] at hd ⊢;exact hd) (fun c hc => by rw [hop] at hc;cases hc) hk
      rw [hop] at hops
      obtain ⟨ho1,ho2⟩ := A3 hob
      have rx := BN hx ho1 hcx (hops x (by simp [Op.operands]))
      have ri := (BN hi ho2 hcx (hops i (by simp [Op.operands]))).immInv.intInv
      obtain ⟨c0,c1⟩ := hc hcx
      simp only at c0 c1
      have hl1 : Al st1 id (.row e' sz es) := by unfold Al;rw [hag id (by simp)];exact hl
      obtain ⟨b,cap,cur,hmu,hheap,hcap,hcm,hcs,hrep,hlen,hone,hp⟩ := RL hst hl1 (by rintro rfl;simp at c1;omega)
      have hs := Nat.eq_of_beq_eq_true hsz
      subst hs
      have hu : P.underlying t = some (.slice e) := htt.sh ht
      simp only [execOp,hop,ri]
      generalize hv : a.eval x = v at rx
      cases rx with
      | own _ _ ad cp hm =>
       rw [hm] at hmu;cases hmu
       have hr := Od (w := w) hu (htt e ti hti) (b := b) (off := 0) (len := es.length) (cap := cap) (kk := kk) c0 (by omega)
       have hrun : (do pure (.value (← Instr.indexAt t (.slice (some ⟨b,0,none⟩) es.length cap) (.int kk m))) : Sem Next).run P w = .ok (.value (.pointer (some ⟨b,0 + m.toNat * ti.size,none⟩))) w := Am hr
       rw [hrun,Nat.zero_add]
       exact ⟨I,μ,hst,.elp b id _ cap m.toNat ti.size 0 hm,Mu.le_refl μ,Ext.refl _ _ _ _⟩
     ·cases h
    ·cases h
   ·cases h
  ·cases h
 ·cases h
theorem Pj (htt : TTok P tt) {c : POl} {e : List V} {d : D} (h : Wp tt n env st todo = some c) (hc : Af c.g → c.es[c.k]? = some e) (hd : IQ c.i (Nat.beq c.sz c.i.size) e c.f = some d) (hob : Ay c.ob)
  (hk : G P n F Q c.todo ((c.t,gD c.g d) :: env) st ids) : G P n F Q todo env st ids := by
 unfold Wp at h
 split at h
 ·rename_i all o todo0 h0
  split at h
  ·rename_i t x g hop hg
   split at h
   ·rename_i i id kk sz f o1 ht hx
    split at h
    ·rename_i e' sz' es t' all' o' todo' hl hdst hd' h1
     split at h
     ·rename_i hsz
      cases h
      obtain ⟨rfl,rfl⟩ := FZ h0 h1
      have hk : G P n F Q todo' (Bo o'.dst (gD g d) env) st ids := by rw [hdst];exact hk
      refine BA (fr := []) (wr := []) (rd := [id]) h1 (Cm hg fun I μ st1 ids1 a w hag hst hops hcx => ?_) (by rw [hdst] at hd' ⊢;exact hd') (fun c hc => by rw [hop] at hc;cases hc) hk
      rw [hop] at hops
      have rx := BN hx hob hcx (hops x (by simp [Op.operands]))
      have c1 := hc hcx
      simp only at c1
      have hs := Nat.eq_of_beq_eq_true hsz
      subst hs
      have hl1 : Al st1 id (.row e' sz es) := by unfold Al;rw [hag id (by simp)];exact hl
      obtain ⟨b,cap,cur,hmu,hheap,hcap,hcm,hcs,hrep,hlen,hone,hp⟩ := RL hst hl1 (by rintro rfl;simp at c1)
      have he := hlen e (List.mem_of_getElem? c1)
      simp only [execOp,hop]
      generalize hv : a.eval x = v at rx
      cases rx with
      | elp _ _ ln cp _ _ _ hm =>
       rw [hm] at hmu;cases hmu
       have hcell : ∀ j y,e[j]? = some y → ∃ u,cur[kk * sz + j]? = some u ∧ RepV I u y ∧ u.oneCell' = true := by
        intro j y hj
        have h1 := flatten_get hlen kk e j y c1 hj
        have hlt : kk * sz + j < (cur.toList.take (es.length * sz)).length := by rw [hrep.1];exact (List.getElem?_eq_some_iff.1 h1).1
        have h2 := List.getElem?_eq_getElem hlt
        have h3 := hrep.2 _ _ _ h2 h1
        refine ⟨_,?_,h3,h3.one (hone e (List.mem_of_getElem? c1) y (List.mem_of_getElem? hj))⟩
        rw [List.getElem?_take] at h2
        split at h2
        ·simp
        ·cases h2
       obtain ⟨u,q1,q2⟩ := IP (P := P) (w := w) (I := I) (μ := μ) (htt t i ht) (b := b) (o := kk * sz) (off := f) (xs := e) (vs := fun j => (cur[kk * sz + j]?).getD undef) (same := Nat.beq sz i.size)
        (fun j y hj => by
         obtain ⟨u,k1,k2,k3⟩ := hcell j y hj
         refine ⟨?_,by simp [k1,k3]⟩
         rw [cell_of_heap hheap (kk * sz + j) u (by simpa using k1)]
         simp [k1])
        (fun j y hj => by
         obtain ⟨u,k1,k2,k3⟩ := hcell j y hj
         simpa [k1] using k2)
        (fun _ hs _ => by rw [he];exact Nat.eq_of_beq_eq_true hs) hd
       have hrun : (do pure (.value (← Instr.loadAt t (.pointer (some ⟨b,kk * sz + f,none⟩)))) : Sem Next).run P w = .ok (.value u) w := Am q1
       rw [hrun]
       exact ⟨I,μ,hst,q2,Mu.le_refl μ,Ext.refl _ _ _ _⟩
     ·cases h
    ·cases h
   ·cases h
  ·cases h
 ·cases h
theorem QJ (htt : TTok P tt) {c : POs} {e e' : List V} (h : Tq tt env st todo = some c) (hc : c.es[c.k]? = some e) (hf : c.f + c.n ≤ c.sz) (he' : e' = e.take c.f ++ c.ys ++ e.drop (c.f + c.n)) (hob : Ay c.ob)
  (hk : G P n F Q c.todo env ((c.id,some (.row c.e c.sz (c.es.set c.k e'))) :: st) ids) : G P n F Q todo env st ids := by
 unfold Tq at h
 split at h
 ·rename_i all o todo0 h0
  split at h
  ·rename_i t p x hgd hdst hop
   split at h
   ·rename_i i id kk sz f dx ht hp hx
    split at h
    ·rename_i ty sz' es all' o' todo' ys ob hl h1 hel
     split at h
     ·rename_i hsz
      cases h
      obtain ⟨rfl,rfl⟩ := FZ h0 h1
      have hs := Nat.eq_of_beq_eq_true hsz
      subst hs
      simp only at hc hf he' hob hk
      have hk : G P n F Q todo' (Bo o'.dst .undef env) ([(id,some (.row ty sz (es.set kk e')))] ++ st) ids := by rw [hdst];exact hk
      refine BA (fr := []) (wr := [(id,some (.row ty sz (es.set kk e')))]) (rd := [id]) h1 ?_ (by simp [BW,hdst]) (fun c hc => by rw [hop] at hc;cases hc) hk
      intro I μ st1 ids1 a w hag hst hon
      refine ⟨fun _ => ?_,fun hw => by rw [wanted_none hgd] at hw;cases hw⟩
      have hops := Ba hon
      rw [hop] at hops
      have rp := hops p (by simp [Op.operands]) _ hp
      obtain ⟨r1,r2,r3,r4⟩ := MC hel (hops x (by simp [Op.operands]) _ hx) hob
      have hl1 : Al st1 id (.row ty sz es) := by unfold Al;rw [hag id (by simp)];exact hl
      obtain ⟨b,cap,cur,hmu,hheap,hcap,hcm,hcs,hrep,hlen,hone,hpos⟩ := RL hst hl1 (by rintro rfl;simp at hc)
      have hkl := (List.getElem?_eq_some_iff.1 hc).1
      have hfit : kk * sz + f + i.size ≤ es.length * sz := by
       have : (kk + 1) * sz ≤ es.length * sz := Nat.mul_le_mul_right _ hkl
       rw [Nat.succ_mul] at this;omega
      have hcapz : es.length * sz ≤ cap * sz := Nat.mul_le_mul_right _ hcap
      generalize hv : a.eval p = v at rp
      cases rp with
      | elp _ _ ln cp _ _ _ hm =>
       rw [hm] at hmu;cases hmu
       have hvl : (a.eval x).cells.toList.length = i.size := by simpa using r2
       have hrun : (execOp a.eval o').run P w = .ok .skip (w.setRow b (cur.toList.take (kk * sz + f) ++ (a.eval x).cells.toList ++ cur.toList.drop (kk * sz + f + (a.eval x).cells.toList.length)).toArray) := by
        simp only [execOp,hop,hv,Sem.run_bind,storeAt_ok (htt t i ht) hheap r2 r4 (show kk * sz + f + (a.eval x).cells.toList.length ≤ cur.size by rw [hvl];omega),Result.andThen_ok,Sem.run_pure]
       rw [hrun]
       have hcl : cur.toList.length = cap * sz := by simpa using hcs
       have hnew : BlkRep I μ (w.setRow b (cur.toList.take (kk * sz + f) ++ (a.eval x).cells.toList ++ cur.toList.drop (kk * sz + f + (a.eval x).cells.toList.length)).toArray) (.slice (some ⟨b,0,none⟩) es.length cap) (.row ty sz (es.set kk e')) := by
        subst he'
        have hys : ys.length = i.size := r3
        have e1 := K5 (ys := ys) es kk e hlen hc (by rw [hys];exact hf)
        rw [hys] at e1
        have e2 : (cur.toList.take (kk * sz + f) ++ (a.eval x).cells.toList ++ cur.toList.drop (kk * sz + f + (a.eval x).cells.toList.length)).take (es.length * sz) =
          (cur.toList.take (es.length * sz)).take (kk * sz + f) ++ (a.eval x).cells.toList ++ (cur.toList.take (es.length * sz)).drop (kk * sz + f + (a.eval x).cells.toList.length) := by
         rw [hvl,List.append_assoc,List.take_append,List.take_append,List.take_take,List.take_take,List.length_take,hvl,List.append_assoc]
         rw [Nat.min_eq_left (by omega : kk * sz + f ≤ cur.toList.length),Nat.min_eq_right (by omega : kk * sz + f ≤ es.length * sz),Nat.min_eq_left (by omega : kk * sz + f ≤ es.length * sz)]
         rw [List.take_of_length_le (l := (a.eval x).cells.toList) (by omega),List.drop_take]
         congr 3
         omega
        have hR := RepVL.splice hrep r1 (kk * sz + f)
        rw [hvl,hys] at hR
        rw [hvl] at e2
        have hls : (es.set kk (e.take f ++ ys ++ e.drop (f + i.size))).length = es.length := by simp
        refine ⟨_,⟨?_,.inr ⟨b,cap,_,by rw [hls],Nat.zero_le _,setRow_heap w b cur _ ty _ hheap,by rw [hls];exact hcap,hcm,?_,rfl⟩⟩,?_,?_,?_,hpos⟩
        ·simp;omega
        ·simp;omega
        ·rw [hls,hvl,List.toList_toArray,e2]
         exact e1 ▸ hR
        ·intro c hc'
         rcases List.mem_or_eq_of_mem_set hc' with h | h
         ·exact hlen c h
         ·rw [h]
          have := hlen e (List.mem_of_getElem? hc)
          simp [hys];omega
        ·intro c hc' y hy
         rcases List.mem_or_eq_of_mem_set hc' with h | h
         ·exact hone c h y hy
         ·rw [h] at hy
          have h5 := hone e (List.mem_of_getElem? hc)
          rcases List.mem_append.1 hy with hy | hy
          ·rcases List.mem_append.1 hy with hy | hy
           ·exact h5 y (List.mem_of_mem_take hy)
           ·obtain ⟨j,hj⟩ := List.mem_iff_getElem?.1 hy
            have hjl : j < (a.eval x).cells.toList.length := by rw [r1.1];exact (List.getElem?_eq_some_iff.1 hj).1
            exact (r1.2 j _ y (List.getElem?_eq_getElem hjl) hj).oneV (r4 _ (List.getElem_mem _))
          ·exact h5 y (List.mem_of_mem_drop hy)
       obtain ⟨q1,q2⟩ := hst.update (id := id) (blk := .row ty sz es) (g := .slice (some ⟨b,0,none⟩) es.length cap) (b := b) hl1 hm rfl (w' := w.setRow b _) (setRow_size w b _) rfl rfl rfl (fun k hk => setRow_other w b k _ hk) hnew
       exact ⟨I,μ,q1,.undef _,Mu.le_refl μ,q2⟩
     ·cases h
    ·cases h
   ·cases h
  ·cases h
 ·cases h
end
end Go.Hk
namespace Go.Hk
section
variable {P : Program} {n : Nat} {F : List Nat} {Q : DQ} {tt : TT} {env env' : Env} {st st' : St} {ids ids' : List Nat} {k todo todo' : List DI} {I : Imm} {μ : Mu} {w : World} {a : Act} {Pn : V → Prop} {d : D} {cx : Prop} {ob : List Prop}
end
end Go.Hk
namespace Go.Hk
def Mj : List (Nat × Value × Blk) → St
 | [] => []
 | (i,_,b) :: r => (i,some b) :: Mj r
def KC : List (Nat × Value × Blk) → List Nat
 | [] => []
 | (i,_,_) :: r => i :: KC r
def EZ (new : List (Nat × Value × Blk)) (μ : Mu) : Mu := fun i => match lk new i with
 | some p => some p.1
 | none => μ i
def Tx (R : List Nat) (μ : Mu) (st : St) (b : Nat) : Prop := ∃ r blk g,r ∈ R ∧ Al st r blk ∧ μ r = some g ∧ Cj g b
section
variable {P : Program} {n : Nat} {F : List Nat} {Q : DQ} {tt : TT} {env env' : Env} {st st' : St} {ids ids' : List Nat} {todo : List DI} {I J : Imm} {μ : Mu} {w : World} {a : Act} {d : D}
theorem RS {new : List (Nat × Value × Blk)} {i : Nat} {b : Blk} {st : St} : Al (Mj new ++ st) i b → (∃ g,(i,g,b) ∈ new ∧ lk new i = some (g,b)) ∨ (lk new i = none ∧ Al st i b) := by
 induction new with
 | nil => intro h;exact .inr ⟨rfl,h⟩
 | cons p r ih =>
  obtain ⟨k,g,x⟩ := p
  intro h
  simp only [Mj,List.cons_append] at h
  rcases A8.1 h with ⟨rfl,rfl⟩ | ⟨h1,h2⟩
  ·exact .inl ⟨g,by simp,lk_cons_self _ _ _⟩
  ·rw [lk_cons_ne _ _ (fun e => h1 e.symm)]
   rcases ih h2 with ⟨g',q1,q2⟩ | h
   ·exact .inl ⟨g',by simp [q1],q2⟩
   ·exact .inr h
theorem Qm {new : List (Nat × Value × Blk)} {i : Nat} : lk new i = none ↔ i ∉ KC new := by
 induction new with
 | nil => simp [lk,KC]
 | cons p r ih =>
  obtain ⟨k,g,x⟩ := p
  by_cases h : k = i
  ·subst h;rw [lk_cons_self];simp [KC]
  ·rw [lk_cons_ne _ _ h,ih];simp [KC];exact fun _ e => h e.symm
theorem StRep.relay {R : List Nat} {new : List (Nat × Value × Blk)} (hst : StRep I μ st (KC new ++ ids') w)
  (hown : ∀ p ∈ new,∀ b,Cj p.2.1 b → Tx R μ st b) (hdisj : ∀ p ∈ new,∀ q ∈ new,∀ b,Cj p.2.1 b → Cj q.2.1 b → p.1 = q.1)
  (hI : I.le J) (hJ : J.ok w) (hold : ∀ b o,J b = some o → I b = some o ∨ (Tx R μ st b ∧ ∀ p ∈ new,¬ Cj p.2.1 b))
  (hrep : μ.le (EZ new μ) → ∀ p ∈ new,BlkRep J (EZ new μ) w p.2.1 p.2.2) :
  μ.le (EZ new μ) ∧ StRep J (EZ new μ) (Mj new ++ (B8 R ++ st)) ids' w ∧ Ext I μ st w J (EZ new μ) (Mj new ++ (B8 R ++ st)) w := by
 have hnd := List.nodup_append.1 hst.nodup
 have hle : μ.le (EZ new μ) := fun i v h => by
  have : i ∉ KC new := fun hi => by rw [hst.idsFree i (by simp [hi])] at h;cases h
  simp [EZ,Qm.2 this,h]
 have hcase : ∀ {i b},Al (Mj new ++ (B8 R ++ st)) i b → (∃ g,(i,g,b) ∈ new ∧ EZ new μ i = some g) ∨ (i ∉ R ∧ Al st i b ∧ EZ new μ i = μ i) := by
  intro i b h
  rcases RS h with ⟨g,q1,q2⟩ | ⟨q1,q2⟩
  ·exact .inl ⟨g,q1,by simp [EZ,q2]⟩
  ·obtain ⟨h3,h4⟩ := In q2
   exact .inr ⟨h3,h4,by simp [EZ,q1]⟩
 have hold' : ∀ {b},AG μ st b → (∀ r ∈ R,∀ blk g,Al st r blk → μ r = some g → ¬ Cj g b) → J b = none := by
  intro b ⟨i,blk,g,q1,q2,q3⟩ hR
  have hI0 := (hst.apart i blk g b q1 q2 q3).1
  cases hJb : J b with
  | none => rfl
  | some o =>
   rcases hold b o hJb with h | ⟨⟨r,blk',g',k1,k2,k3,k4⟩,_⟩
   ·rw [hI0] at h;cases h
   ·exact absurd k4 (hR r k1 blk' g' k2 k3)
 have hE : Ext I μ st w J (EZ new μ) (Mj new ++ (B8 R ++ st)) w :=
  {imm := hI,os := rfl,tape := rfl,output := rfl,size := Nat.le_refl _,block := fun _ _ _ => rfl
   fresh := fun b _ ⟨i,blk,g,q1,q2,q3⟩ => by
    rcases hcase q1 with ⟨g',k1,k2⟩ | ⟨_,k2,k3⟩
    ·rw [k2] at q2;cases q2
     obtain ⟨r,blk',g',_,a2,a3,a4⟩ := hown _ k1 b q3
     exact ⟨r,blk',g',a2,a3,a4⟩
    ·exact ⟨i,blk,g,k2,by rw [← k3];exact q2,q3⟩
   old := fun b _ ho => by
    cases hJb : J b with
    | none =>
     cases hIb : I b with
     | none => rfl
     | some o => rw [hI b o hIb] at hJb;cases hJb
    | some o =>
     rcases hold b o hJb with h | ⟨⟨r,blk,g,_,k2,k3,k4⟩,_⟩
     ·exact h.symm
     ·exact absurd ⟨r,blk,g,k2,k3,k4⟩ ho }
 refine ⟨hle,{ imm := hJ,blk := fun i b hl => ?_,apart := fun i b g k hl hg hk => ?_,inj := fun i j bi bj gi gj k hi hj hgi hgj hki hkj => ?_,nodup := hnd.2.1,idsFree := fun i hi => ?_ },hE⟩
 ·rcases hcase hl with ⟨g,k1,k2⟩ | ⟨_,k2,k3⟩
  ·exact ⟨g,k2,hrep hle _ k1⟩
  ·obtain ⟨g,q1,q2⟩ := hst.blk i b k2
   exact ⟨g,by rw [k3];exact q1,q2.mono hI hle⟩
 ·rcases hcase hl with ⟨g',k1,k2⟩ | ⟨kR,k2,k3⟩
  ·rw [k2] at hg;cases hg
   obtain ⟨r,blk',g',a1,a2,a3,a4⟩ := hown _ k1 k hk
   obtain ⟨z1,z2⟩ := hst.apart r blk' g' k a2 a3 a4
   refine ⟨?_,z2⟩
   cases hJb : J k with
   | none => rfl
   | some o =>
    rcases hold k o hJb with h | ⟨_,h⟩
    ·rw [z1] at h;cases h
    ·exact absurd hk (h _ k1)
  ·rw [k3] at hg
   obtain ⟨z1,z2⟩ := hst.apart i b g k k2 hg hk
   refine ⟨hold' ⟨i,b,g,k2,hg,hk⟩ fun r hr blk' g' h1 h2 h3 => ?_,z2⟩
   exact kR (by rw [hst.inj i r b blk' g g' k k2 h1 hg h2 hk h3];exact hr)
 ·rcases hcase hi with ⟨g1,k1,k2⟩ | ⟨kR,k2,k3⟩
  ·rw [k2] at hgi;cases hgi
   rcases hcase hj with ⟨g2,l1,l2⟩ | ⟨lR,l2,l3⟩
   ·rw [l2] at hgj;cases hgj
    exact hdisj _ k1 _ l1 k hki hkj
   ·rw [l3] at hgj
    obtain ⟨r,blk',g',a1,a2,a3,a4⟩ := hown _ k1 k hki
    exact absurd (by rw [hst.inj j r bj blk' gj g' k l2 a2 hgj a3 hkj a4];exact a1) lR
  ·rw [k3] at hgi
   rcases hcase hj with ⟨g2,l1,l2⟩ | ⟨lR,l2,l3⟩
   ·rw [l2] at hgj;cases hgj
    obtain ⟨r,blk',g',a1,a2,a3,a4⟩ := hown _ l1 k hkj
    exact absurd (by rw [hst.inj i r bi blk' gi g' k k2 a2 hgi a3 hki a4];exact a1) kR
   ·rw [l3] at hgj
    exact hst.inj i j bi bj gi gj k k2 l2 hgi hgj hki hkj
 ·have : i ∉ KC new := fun h => hnd.2.2 i h i hi rfl
  simp only [EZ,Qm.2 this]
  exact hst.idsFree i (by simp [hi])
theorem Yu (h : ∀ I μ a w,Conc n I μ env st ids a w → ∃ J ν env' st' ids',StRep J ν st' ids' w ∧ (∀ t d,lk env' t = some d → RepD J ν (a.tmps.getD t undef) d) ∧ Ext I μ st w J ν st' w ∧ Pin F μ ν ∧ DGo P n F Q todo env' st' ids') :
  DGo P n F Q todo env st ids := by
 intro b cs I μ a w items hd hc
 obtain ⟨J,ν,env',st',ids',h1,h2,h3,h4,h5⟩ := h I μ a w hc
 exact (h5 b cs J ν a w items hd { h1 with size := hc.size,env := h2,defers := hc.defers.ext h3 }).mono fun e a' w' hp => hp.back h4 h3
end
end Go.Hk
namespace Go.Hk
section
variable {P : Program} {n : Nat} {F : List Nat} {Q : DQ} {tt : TT} {env env' : Env} {st st' : St} {ids ids' : List Nat} {todo : List DI} {I J : Imm} {μ : Mu} {w : World} {a : Act} {d : D}
end
end Go.Hk
namespace Go.Hk
section
variable {P : Program} {n : Nat} {F : List Nat} {Q : DQ} {tt : TT} {env env' : Env} {st st' : St} {ids ids' : List Nat} {k todo todo' : List DI} {I J : Imm} {μ : Mu} {w : World} {a : Act} {d : D}
end
end Go.Hk
namespace Go.Hk
section
variable {P : Program} {n : Nat} {F : List Nat} {Q : DQ} {tt : TT} {env env' : Env} {st st' : St} {ids ids' : List Nat} {k todo todo' : List DI} {I J : Imm} {μ : Mu} {w : World} {a : Act} {d : D}
end
end Go.Hk
namespace Go.Hk
section
variable {P : Program} {n : Nat} {F : List Nat} {Q : DQ} {tt : TT} {env env' : Env} {st st' : St} {ids ids' : List Nat} {k todo todo' : List DI} {I J : Imm} {μ : Mu} {w : World} {a : Act} {d : D}
end
end Go.Hk
namespace Go.Hk
section
variable {P : Program} {n : Nat} {F : List Nat} {Q : DQ} {tt : TT} {env env' : Env} {st st' : St} {ids ids' : List Nat} {todo : List DI} {I J : Imm} {μ : Mu} {w : World} {a : Act} {d : D}
end
end Go.Hk
namespace Go.Hk
def NC : V → Bool
 | .bool _ | .int .. | .str _ => true
 | _ => false
def OE : List V → Bool
 | [] => true
 | x :: r => NC x && OE r
section
variable {P : Program} {I J : Imm} {μ ν : Mu} {st : St} {w : World}
theorem Uy {v : Value} {x : V} (h : NC x = true) (hr : RepV J v x) : RepV I v x := by
 cases hr <;> first | (simp [NC] at h;done) | constructor <;> assumption
end
end Go.Hk
namespace Go.Hk
section
variable {P : Program} {n : Nat} {F : List Nat} {Q : DQ} {todo : List DI} {env : Env} {st : St} {ids' : List Nat}
theorem Fg (t j : Nat) {e : TypeId} {sz : Nat} (hsz : 0 < sz) (ht : lk env t = some .nils) (h : DGo P n F Q todo ((t,.own j 0) :: env) ((j,some (.row e sz [])) :: st) ids') : DGo P n F Q todo env st (j :: ids') := by
 refine Yu fun I μ a w hc => ?_
 have hv : a.tmps.getD t undef = .slice none 0 0 := by
  have := hc.env t _ ht
  generalize a.tmps.getD t undef = v at this
  cases this with
  | nils => rfl
 obtain ⟨q1,q2,q3⟩ := StRep.relay (R := []) (new := [(j,.slice none 0 0,.row e sz [])]) (ids' := ids') hc.toStRep
  (fun p hp b hb => by rw [List.mem_singleton.1 hp] at hb;exact hb.elim)
  (fun p hp q hq b _ _ => by rw [List.mem_singleton.1 hp,List.mem_singleton.1 hq]) (Imm.le_refl I) hc.imm (fun b o h => .inl h)
  (fun _ p hp => by
   rw [List.mem_singleton.1 hp]
   exact ⟨[],World.ownsRow_nil w _ e sz,⟨rfl,fun i v x h _ => by simp at h⟩,fun _ h => by simp at h,fun _ h => by simp at h,hsz⟩)
 refine ⟨I,_,_,_,ids',q2,fun t' d hd => ?_,q3,.of_le q1,h⟩
 by_cases e : t = t'
 ·subst e
  rw [lk_cons_self] at hd;cases hd
  rw [hv]
  exact .own j 0 none 0 (by simp [EZ,lk])
 ·rw [lk_cons_ne _ _ e] at hd;exact (hc.env t' d hd).mono (Imm.le_refl I) q1
end
end Go.Hk
namespace Go.Hk
open Go.Proofs
def VG : Ty := .mk 3 0 [] []
def Fc : Fd := ⟨[102],[120],VG,VG,.mk 3 0 [] [] []⟩
def Bj (ds : List Dt) : List Str := ds.flatMap fun d => d.cons.map Cd.name
def B0 (ds : List Dt) : List Str := ds.map Dt.name
def Bc (ds l : List Dt) : Bool := l.all fun d => d.cons.all fun c => AB ds c.args
def EH (ds : List Dt) : Bool := C6 ⟨[109],ds,[Fc]⟩ && (Bc ds ds && (AE (B0 ds) && AE (Bj ds)))
theorem GC (ds : List Dt) : ∀ l : List Ty,AB ds l = l.all (Bf ds)
 | [] => rfl
 | t :: r => by simp [AB,GC ds r]
theorem C3 {α : Type} {l : List α} {q : α → Bool} {i : Nat} {t : α} (h : l[i]? = some t) : (l.drop i).all q = (q t && (l.drop (i + 1)).all q) := by rw [Aj h];rfl
theorem GD {ds : List Dt} (h : C6 ⟨[109],ds,[Fc]⟩ = true) : ds.length ≤ 4 ∧ ∀ d ∈ ds,d.cons.length ≤ 5 ∧ ∀ c ∈ d.cons,c.args.length ≤ 3 := by
 simp only [C6,Bool.and_eq_true,List.all_eq_true,decide_eq_true_eq] at h
 refine ⟨by omega,fun d hd => ?_⟩
 have hd := h.1.2 d hd
 simp only [FC,Bool.and_eq_true,List.all_eq_true,Dk,decide_eq_true_eq] at hd
 refine ⟨by omega,fun c hc => ?_⟩
 have hc := hd.2 c hc
 simp only [Kc,Bool.and_eq_true,decide_eq_true_eq] at hc
 omega
theorem MN {ds : List Dt} {i : Nat} {d : Dt} (h : ds[i]? = some d) : Bj (ds.take (i + 1)) = Bj (ds.take i) ++ d.cons.map Cd.name := by
 rw [AM h];simp [Bj]
theorem Ou {ds : List Dt} (h : ∀ d ∈ ds,d.cons.length ≤ 5) : (Bj ds).length ≤ 5 * ds.length := by
 induction ds with
 | nil => simp [Bj]
 | cons d r ih =>
  have h1 := h d (by simp)
  have h2 := ih fun x hx => h x (by simp [hx])
  simp only [Bj,List.flatMap_cons,List.length_append,List.length_map,List.length_cons] at h2 ⊢
  omega
set_option maxHeartbeats 1000000 in
theorem XA (ds : List Dt) : PureC Tryz.prog 57 [.sl (ds.map B5)] (.bool (EH ds)) := by
 refine Ae BY Tryz.func57 (by decide +kernel) rfl [1,2,3,4,5,6,7,8] rfl rfl ?_
 refine cg [] rfl (by simp) ?_
 refine Ac rfl (fun _ => V1 ⟨[109],ds,[Fc]⟩) (by simp) ?_
 refine cg [] rfl (by simp) ?_
 refine Aa rfl (fun h => ?_) (fun h => ?_)
 ·refine cd [] rfl (by simp) ?_
  refine Ab ⟨_,rfl,tV (congrArg _ ?_),trivial⟩
  simp at h
  simp [EH,h]
 have hm : C6 ⟨[109],ds,[Fc]⟩ = true := by simpa using h
 clear h
 obtain ⟨hl1,hl2⟩ := GD hm
 refine cd [] rfl (by simp) ?_
 refine Fg (e := 9) (sz := 1) 5 3 (by decide) rfl ?_
 refine Fg (e := 9) (sz := 1) 6 4 (by decide) rfl ?_
 rw [show EH ds = (Bc ds ds && (AE (B0 ds) && AE (Bj ds))) by simp [EH,hm]]
 refine Ah (fun i : Nat => [(7,.imm (.int .i64 i)),(0,.imm (.sl (ds.map B5))),(5,.own 3 (Ck (B0 (ds.take i))).length),(6,.own 4 (Ck (Bj (ds.take i))).length)])
  (fun i => [(3,some (.row 9 1 (Ck (B0 (ds.take i))))),(4,some (.row 9 1 (Ck (Bj (ds.take i)))))]) [5,6,7] (fun i => ds.length - i)
  (fun i => i ≤ ds.length ∧ Bc ds ds = Bc ds (ds.drop i)) 0 ⟨Nat.zero_le _,rfl⟩ ⟨rfl,rfl,rfl,rfl,trivial⟩ ⟨rfl,rfl,trivial⟩ rfl fun i hi ih => ?_
 obtain ⟨hi1,hi2⟩ := hi
 refine cd [] rfl (by simp) ?_
 refine Aa rfl (fun h => ?_) (fun h => ?_)
 ·simp at h
  obtain ⟨d,hd⟩ := Ai h
  have hdm := hl2 d (List.mem_of_getElem? hd)
  have hcl := Ou (ds := ds.take i) fun x hx => (hl2 x (List.mem_of_mem_take hx)).1
  rw [List.length_take] at hcl
  have et : B0 (ds.take (i + 1)) = B0 (ds.take i) ++ [d.name] := by rw [AM hd];simp [B0]
  have ec := MN hd
  rw [show Bc ds (ds.drop i) = (d.cons.all (fun c => AB ds c.args) && Bc ds (ds.drop (i + 1))) from C3 hd] at hi2
  refine cd [] rfl (by simp) ?_
  refine ci rfl (c := B5 d) (fun _ => ⟨by simp,by simpa using AC hd,by simp⟩) (by simp) ?_
  obtain ⟨dn,dc⟩ := d
  refine cg [] rfl (by simp) ?_
  refine BI BY rfl ⟨by simp,by simp [maxLen,B0];omega,by simp [B0];omega,trivial⟩ ?_
  refine cg [] rfl (by simp) ?_
  refine B2 3 5 rfl ?_
  simp only at hdm ec et hi2 ⊢
  refine Ah (fun k : Nat => [(8,.imm (.int .i64 k)),(7,.imm (.int .i64 i)),(0,.imm (.sl (ds.map B5))),(5,.own 3 (Ck (B0 (ds.take (i + 1)))).length),(6,.own 4 (Ck (Bj (ds.take i) ++ (dc.take k).map Cd.name)).length)])
   (fun k => [(3,some (.row 9 1 (Ck (B0 (ds.take (i + 1)))))),(4,some (.row 9 1 (Ck (Bj (ds.take i) ++ (dc.take k).map Cd.name))))]) [5,6,7] (fun k => dc.length - k)
   (fun k => k ≤ dc.length ∧ dc.all (fun c => AB ds c.args) = (dc.drop k).all (fun c => AB ds c.args)) 0 ⟨Nat.zero_le _,rfl⟩ ⟨rfl,rfl,rfl,by rw [et,CK];rfl,by rw [List.take_zero,List.map_nil,List.append_nil];rfl,trivial⟩ ⟨by rw [et,CK];rfl,by rw [List.take_zero,List.map_nil,List.append_nil];rfl,trivial⟩ rfl fun k hk jh => ?_
  obtain ⟨hk1,hk2⟩ := hk
  refine cd [] rfl (by simp) ?_
  refine ci rfl (c := B5 ⟨dn,dc⟩) (fun _ => ⟨by simp,by simpa using AC hd,by simp⟩) (by simp) ?_
  refine cg [] rfl (by simp) ?_
  refine Aa rfl (fun h => ?_) (fun h => ?_)
  ·simp at h
   obtain ⟨c,hc⟩ := Ai h
   have hcm := hdm.2 c (List.mem_of_getElem? hc)
   have ek : (dc.take (k + 1)).map Cd.name = (dc.take k).map Cd.name ++ [c.name] := by rw [AM hc];simp
   rw [C3 hc] at hk2
   refine cd [] rfl (by simp) ?_
   refine ci rfl (c := B5 ⟨dn,dc⟩) (fun _ => ⟨by simp,by simpa using AC hd,by simp⟩) (by simp) ?_
   refine cg [] rfl (by simp) ?_
   refine ci rfl (c := Cx c) (fun _ => ⟨by simp,by simpa using AC hc,by simp⟩) (by simp) ?_
   obtain ⟨cn,ca⟩ := c
   refine cg [] rfl (by simp) ?_
   refine BI BY rfl ⟨by simp,by simp [maxLen];omega,by simp;omega,trivial⟩ ?_
   refine cg [] rfl (by simp) ?_
   refine B2 4 5 rfl ?_
   simp only at hcm ek hk2 ⊢
   refine Ah (fun n : Nat => [(9,.imm (.int .i64 n)),(8,.imm (.int .i64 k)),(7,.imm (.int .i64 i)),(0,.imm (.sl (ds.map B5))),(5,.own 3 (Ck (B0 (ds.take (i + 1)))).length),(6,.own 4 (Ck (Bj (ds.take i) ++ (dc.take (k + 1)).map Cd.name)).length)])
    (fun n => [(3,some (.row 9 1 (Ck (B0 (ds.take (i + 1)))))),(4,some (.row 9 1 (Ck (Bj (ds.take i) ++ (dc.take (k + 1)).map Cd.name))))]) [5,6,7] (fun n => ca.length - n)
    (fun n => n ≤ ca.length ∧ AB ds ca = AB ds (ca.drop n)) 0 ⟨Nat.zero_le _,rfl⟩ ⟨rfl,rfl,rfl,rfl,rfl,by rw [ek,← List.append_assoc,CK _ [cn]];rfl,trivial⟩ ⟨rfl,by rw [ek,← List.append_assoc,CK _ [cn]];rfl,trivial⟩ rfl fun n hn kh => ?_
   obtain ⟨hn1,hn2⟩ := hn
   refine cd [] rfl (by simp) ?_
   refine ci rfl (c := B5 ⟨dn,dc⟩) (fun _ => ⟨by simp,by simpa using AC hd,by simp⟩) (by simp) ?_
   refine cg [] rfl (by simp) ?_
   refine ci rfl (c := Cx ⟨cn,ca⟩) (fun _ => ⟨by simp,by simpa using AC hc,by simp⟩) (by simp) ?_
   refine cg [] rfl (by simp) ?_
   refine Aa rfl (fun h => ?_) (fun h => ?_)
   ·simp at h
    obtain ⟨t,ht⟩ := Ai h
    rw [Aj ht] at hn2
    refine cd [] rfl (by simp) ?_
    refine ci rfl (c := B5 ⟨dn,dc⟩) (fun _ => ⟨by simp,by simpa using AC hd,by simp⟩) (by simp) ?_
    refine cg [] rfl (by simp) ?_
    refine ci rfl (c := Cx ⟨cn,ca⟩) (fun _ => ⟨by simp,by simpa using AC hc,by simp⟩) (by simp) ?_
    refine cg [] rfl (by simp) ?_
    refine ci rfl (c := dTyc t) (fun _ => ⟨by simp,by simpa using Ao ht,by simp⟩) (by simp) ?_
    refine cg [] rfl (by simp) ?_
    refine Ac rfl (fun _ => JN ds t) (by simp) ?_
    refine cg [] rfl (by simp) ?_
    refine Aa rfl (fun h => ?_) (fun h => ?_)
    ·refine cd [] rfl (by simp) ?_
     refine Ab ⟨_,rfl,tV (congrArg _ ?_),trivial⟩
     simp at h
     simp only [AB,h,Bool.false_and] at hn2
     simp only [hn2,Bool.false_and] at hk2
     rw [hi2,hk2];simp
    ·refine cd [] rfl (by simp) ?_
     simp at h
     exact Ad (kh (n + 1) (by omega) ⟨by omega,by rw [hn2];simp [AB,h]⟩) ⟨Aq (Bq (by omega) (by omega)),rfl,rfl,rfl,rfl,rfl,trivial⟩ ⟨rfl,rfl,trivial⟩ rfl
   ·simp at h
    refine Ar rfl ?_
    refine cd [] rfl (by simp) ?_
    rw [List.drop_eq_nil_of_le (by omega)] at hn2
    exact Ad (jh (k + 1) (by omega) ⟨by omega,by rw [hk2];simp [hn2,AB]⟩) ⟨Aq (Bq (by omega) (by omega)),rfl,rfl,rfl,rfl,trivial⟩ ⟨rfl,rfl,trivial⟩ rfl
  ·simp at h
   refine Ar rfl ?_
   refine cd [] rfl (by simp) ?_
   rw [List.drop_eq_nil_of_le (by omega)] at hk2
   have hk3 : dc.take k = dc := List.take_of_length_le h
   refine Ad (ih (i + 1) (by omega) ⟨by omega,by rw [hi2,hk2];simp⟩) ⟨Aq (Bq (by omega) (by omega)),rfl,rfl,by rw [ec,hk3];rfl,trivial⟩ ⟨rfl,by rw [ec,hk3];rfl,trivial⟩ rfl
 ·simp at h
  have hle : ds.length ≤ i := by omega
  refine Ar rfl ?_
  rw [List.take_of_length_le hle,List.drop_eq_nil_of_le hle] at *
  rw [hi2,show Bc ds [] = true from rfl,Bool.true_and]
  refine BL 3 rfl ?_
  refine BL 4 rfl ?_
  refine cd [] rfl (by simp) ?_
  refine Ac rfl (fun _ => Kr (B0 ds)) (by simp) ?_
  refine cg [] rfl (by simp) ?_
  refine Ac rfl (fun _ => Kr (Bj ds)) (by simp [Af]) ?_
  refine cg [] rfl (by simp) ?_
  refine Ab ⟨_,rfl,tV (congrArg _ ?_),trivial⟩
  simp
structure OkD (ds : List Dt) : Prop where
 named : Bc ds ds = true
 len : ∀ d ∈ ds,d.cons.length ≤ 1000000
theorem OkD.of {ds : List Dt} (h : EH ds = true) : OkD ds := by
 simp only [EH,Bool.and_eq_true] at h
 exact ⟨h.2.1,fun d hd => by have := ((GD h.1).2 d hd).1;omega⟩
theorem FS (s : Str) : ∀ (l : List Dt) (i : Nat),0 ≤ AF s i l → ∃ k d,AF s i l = ((i + k : Nat) : Int) ∧ l[k]? = some d ∧ d.name = s
 | [],i,h => by simp [AF] at h
 | d :: r,i,h => by
  simp only [AF] at h ⊢
  by_cases e : d.name = s
  ·rw [if_pos e];exact ⟨0,d,by simp,by simp,e⟩
  ·rw [if_neg e] at h ⊢
   obtain ⟨k,d',h1,h2,h3⟩ := FS s r (i + 1) h
   exact ⟨k + 1,d',by rw [h1];omega,by simpa using h2,h3⟩
theorem Ho {ds : List Dt} {t : Ty} (h : Bf ds t = true) : ∀ so n x ps,t = .mk so n x ps → so = 8 → 0 ≤ AF x 0 ds ∧ ∃ d,ds[(AF x 0 ds).toNat]? = some d := by
 rintro so n x ps rfl rfl
 simp [Bf] at h
 obtain ⟨k,d,h1,h2,_⟩ := FS x ds 0 h.1
 exact ⟨h.1,d,by rw [h1];simpa using h2⟩
theorem Jp {s : Str} : ∀ {l : List Cd} {i : Nat},0 ≤ (CO s i l).2 → (CO s i l).1 ∈ l ∧ (CO s i l).1.name = s
 | [],i,h => by simp [CO] at h
 | c :: r,i,h => by
  simp only [CO] at h ⊢
  by_cases e : c.name = s
  ·rw [if_pos e];exact ⟨by simp,e⟩
  ·rw [if_neg e] at h ⊢
   have := Jp (l := r) h
   exact ⟨List.mem_cons_of_mem _ this.1,this.2⟩
theorem Xr {ds : List Dt} {t : Ty} {s : Str} (h : 0 ≤ (BT ds t s).2) : ∃ d ∈ ds,(BT ds t s).1 ∈ d.cons := by
 obtain ⟨so,n,x,ps⟩ := t
 simp only [BT] at h ⊢
 by_cases e : so = 8
 ·rw [if_pos e] at h ⊢
  cases hd : ds[(AF x 0 ds).toNat]? with
  | none => simp [hd] at h
  | some d =>
   simp only [hd] at h ⊢
   exact ⟨d,List.mem_of_getElem? hd,(Jp h).1⟩
 ·rw [if_neg e] at h;simp at h
theorem Iq {ds : List Dt} (ho : OkD ds) {t : Ty} {s : Str} (h : 0 ≤ (BT ds t s).2) : AB ds (BT ds t s).1.args = true := by
 obtain ⟨d,h1,h2⟩ := Xr h
 have := ho.named
 simp only [Bc,List.all_eq_true] at this
 exact this d h1 _ h2
theorem DG {ds : List Dt} {l : List Ty} (h : AB ds l = true) {i : Nat} {t : Ty} (ht : l[i]? = some t) : Bf ds t = true := by
 rw [GC,List.all_eq_true] at h
 exact h t (List.mem_of_getElem? ht)
mutual
def CB (ds : List Dt) : Ty → Ty → Bool
 | .mk so _ x0 _,.mk f _ x ps => if f = 3 then so == 1 else if f = 4 then so == 2 else if f = 5 then so == 3 else if f = 6 then decide (0 ≤ (BT ds (.mk so 0 x0 []) x).2) && (decide ((BT ds (.mk so 0 x0 []) x).1.args.length = ps.length) && CY ds (BT ds (.mk so 0 x0 []) x).1.args ps) else true
def CY (ds : List Dt) : List Ty → List Ty → Bool
 | _,[] => true
 | [],_ :: _ => true
 | a :: r,p :: q => CB ds a p && CY ds r q
end
theorem Lv (ds : List Dt) (so n m : Int) (x s : Str) (ps qs : List Ty) : BT ds (.mk so n x ps) s = BT ds (.mk so m x qs) s := rfl
set_option maxHeartbeats 1000000 in
theorem Qb (ct : Ty) (rows : List Ty) (ds : List Dt) (ho : OkD ds) : ∀ (p t : Ty),Bf ds t = true → PureC Tryz.prog 61 [.agg (dCse ⟨ds,ct,rows⟩),.agg (dTyc t),.agg (dTyc p)] (.bool (CB ds t p))
 | .mk f n x ps,t,hn => by
  have hcon := Xq ⟨ds,ct,rows⟩ t x (Ho hn) ho.len
  have hnm := fun h => Iq ho (t := t) (s := x) h
  obtain ⟨so,n0,x0,ps0⟩ := t
  obtain ⟨c1,c2,c3,c4⟩ := ct
  simp only [CB]
  rw [Lv ds so 0 n0 x0 x [] ps0]
  simp only at hcon
  generalize BT ds (.mk so n0 x0 ps0) x = r at *
  obtain ⟨⟨kn,ka⟩,kp⟩ := r
  refine Az fun hv => ?_
  simp [Bh,CP,dTyc,dCse,maxLen] at hv
  refine Ae BY Tryz.func61 (by decide +kernel) rfl [1,2,3,4,5,6] rfl rfl ?_
  refine cg [] rfl (by simp) ?_
  by_cases h3 : f = 3
  ·subst h3
   refine Aa rfl (fun h => ?_) (fun h => by simp at h)
   refine cd [] rfl (by simp) ?_
   refine Ab ⟨_,rfl,tV (congrArg _ ?_),trivial⟩
   simp
  rw [if_neg h3]
  refine Aa rfl (fun h => absurd (by simpa using h) h3) (fun h => ?_)
  clear h
  refine cd [] rfl (by simp) ?_
  by_cases h4 : f = 4
  ·subst h4
   refine Aa rfl (fun h => ?_) (fun h => by simp at h)
   refine cd [] rfl (by simp) ?_
   refine Ab ⟨_,rfl,tV (congrArg _ ?_),trivial⟩
   simp
  rw [if_neg h4]
  refine Aa rfl (fun h => absurd (by simpa using h) h4) (fun h => ?_)
  clear h
  refine cd [] rfl (by simp) ?_
  by_cases h5 : f = 5
  ·subst h5
   refine Aa rfl (fun h => ?_) (fun h => by simp at h)
   refine cd [] rfl (by simp) ?_
   refine Ab ⟨_,rfl,tV (congrArg _ ?_),trivial⟩
   simp
  rw [if_neg h5]
  refine Aa rfl (fun h => absurd (by simpa using h) h5) (fun h => ?_)
  clear h
  refine cd [] rfl (by simp) ?_
  by_cases h6 : f = 6
  case neg =>
   rw [if_neg h6]
   refine Aa rfl (fun h => absurd (by simpa using h) h6) (fun h => ?_)
   refine cd [] rfl (by simp) ?_
   exact Ab ⟨_,rfl,tV rfl,trivial⟩
  rw [if_pos h6]
  refine Aa rfl (fun h => ?_) (fun h => by simp [h6] at h)
  clear h
  refine cd [] rfl (by simp) ?_
  refine Ac rfl (fun _ => hcon) (by simp) ?_
  refine cg [] rfl (by simp) ?_
  by_cases hg : 0 ≤ kp ∧ ka.length = ps.length
  case neg =>
   refine Aa rfl (fun h => ?_) (fun h => ?_)
   ·refine cd [] rfl (by simp) ?_
    refine Ab ⟨_,rfl,tV (congrArg _ ?_),trivial⟩
    simp
    grind
   ·exfalso
    simp at h
    apply hg
    omega
  obtain ⟨hkp,hlen⟩ := hg
  have hnm := hnm hkp
  refine Aa rfl (fun h => by exfalso;simp [hlen] at h;omega) (fun h => ?_)
  clear h
  refine cd [] rfl (by simp) ?_
  simp only [hkp,hlen,decide_true,Bool.true_and]
  refine Ah (fun i : Nat => [(9,.imm (.int .i64 i)),(3,.ref 1 0),(5,.ref 3 0),(7,.ref 4 0)]) (fun _ => [(1,some (.immb 29 6 (dCse ⟨ds,.mk c1 c2 c3 c4,rows⟩))),(3,some (.immb 50 4 (dTyc (.mk f n x ps)))),(4,some (.immb 75 2 (Cx ⟨kn,ka⟩)))]) [5,6] (fun i => ps.length - i)
   (fun i => i ≤ ps.length ∧ CY ds ka ps = CY ds (ka.drop i) (ps.drop i)) 0 ⟨Nat.zero_le _,rfl⟩ ⟨rfl,rfl,rfl,rfl,trivial⟩ ⟨rfl,rfl,rfl,trivial⟩ rfl fun i hi ih => ?_
  obtain ⟨hi1,hi2⟩ := hi
  refine cd [] rfl (by simp) ?_
  refine Aa rfl (fun h => ?_) (fun h => ?_)
  ·simp at h
   obtain ⟨p,hp⟩ := Ai h
   obtain ⟨a,ha⟩ := Ai (l := ka) (i := i) (by omega)
   rw [Aj hp,Aj ha] at hi2
   simp only [CY] at hi2
   refine cd [] rfl (by simp) ?_
   refine ci rfl (c := dTyc a) (fun _ => ⟨by simp,by simpa using Ao ha,by simp⟩) (by simp) ?_
   refine cg [] rfl (by simp) ?_
   refine ci rfl (c := dTyc p) (fun _ => ⟨by simp,by simpa using Ao hp,by simp⟩) (by simp) ?_
   refine cg [] rfl (by simp) ?_
   refine Ac rfl (fun _ => Qb (.mk c1 c2 c3 c4) rows ds ho p a (DG hnm ha)) (by simp) ?_
   refine cg [] rfl (by simp;rfl) ?_
   refine Aa rfl (fun h => ?_) (fun h => ?_)
   ·refine cd [] rfl (by simp) ?_
    refine Ab ⟨_,rfl,tV (congrArg _ ?_),trivial⟩
    simp at h
    simp [hi2,h]
   ·refine cd [] rfl (by simp) ?_
    simp at h
    exact Ad (ih (i + 1) (by omega) ⟨by omega,by rw [hi2];simp [h]⟩) ⟨Aq (Bq (by omega) (by omega)),rfl,rfl,rfl,trivial⟩ ⟨rfl,rfl,rfl,trivial⟩ rfl
  ·simp at h
   refine Ar rfl ?_
   refine cd [] rfl (by simp) ?_
   rw [hi2,List.drop_eq_nil_of_le (by omega),List.drop_eq_nil_of_le (by omega)]
   exact Ab ⟨_,rfl,tV rfl,trivial⟩
termination_by p => SizeOf.sizeOf p
decreasing_by
 have := List.sizeOf_lt_of_mem (List.mem_of_getElem? hp)
 simp_wf
 omega
mutual
def V5 (ds : List Dt) : Ty → Ty → Bool
 | .mk so _ x0 _,.mk f _ x ps => if so = 1 then f == 1 else if so = 2 then f == 2 else if so = 3 then f == 3 else if so = 8 then decide (f = 4) && (decide (0 ≤ (BT ds (.mk so 0 x0 []) x).2) && (decide ((BT ds (.mk so 0 x0 []) x).1.args.length = ps.length) && Mg ds (BT ds (.mk so 0 x0 []) x).1.args ps)) else f == 5
def Mg (ds : List Dt) : List Ty → List Ty → Bool
 | _,[] => true
 | [],_ :: _ => true
 | a :: r,p :: q => V5 ds a p && Mg ds r q
end
set_option maxHeartbeats 1000000 in
theorem YS (ct : Ty) (rows : List Ty) (ds : List Dt) (ho : OkD ds) : ∀ (p t : Ty),Bf ds t = true → PureC Tryz.prog 28 [.agg (dCse ⟨ds,ct,rows⟩),.agg (dTyc t),.agg (dTyc p)] (.bool (V5 ds t p))
 | .mk f n x ps,t,hn => by
  have hcon := Xq ⟨ds,ct,rows⟩ t x (Ho hn) ho.len
  have hnm := fun h => Iq ho (t := t) (s := x) h
  obtain ⟨so,n0,x0,ps0⟩ := t
  obtain ⟨c1,c2,c3,c4⟩ := ct
  simp only [V5]
  rw [Lv ds so 0 n0 x0 x [] ps0]
  simp only at hcon
  generalize BT ds (.mk so n0 x0 ps0) x = r at *
  obtain ⟨⟨kn,ka⟩,kp⟩ := r
  refine Az fun hv => ?_
  simp [Bh,CP,dTyc,dCse,maxLen] at hv
  refine Ae BY Tryz.func28 (by decide +kernel) rfl [1,2,3,4,5,6] rfl rfl ?_
  refine cg [] rfl (by simp) ?_
  by_cases h1 : so = 1
  ·subst h1
   refine Aa rfl (fun h => ?_) (fun h => by simp at h)
   refine cd [] rfl (by simp) ?_
   refine Ab ⟨_,rfl,tV (congrArg _ ?_),trivial⟩
   simp
  rw [if_neg h1]
  refine Aa rfl (fun h => absurd (by simpa using h) h1) (fun h => ?_)
  clear h
  refine cd [] rfl (by simp) ?_
  by_cases h2 : so = 2
  ·subst h2
   refine Aa rfl (fun h => ?_) (fun h => by simp at h)
   refine cd [] rfl (by simp) ?_
   refine Ab ⟨_,rfl,tV (congrArg _ ?_),trivial⟩
   simp
  rw [if_neg h2]
  refine Aa rfl (fun h => absurd (by simpa using h) h2) (fun h => ?_)
  clear h
  refine cd [] rfl (by simp) ?_
  by_cases h3 : so = 3
  ·subst h3
   refine Aa rfl (fun h => ?_) (fun h => by simp at h)
   refine cd [] rfl (by simp) ?_
   refine Ab ⟨_,rfl,tV (congrArg _ ?_),trivial⟩
   simp
  rw [if_neg h3]
  refine Aa rfl (fun h => absurd (by simpa using h) h3) (fun h => ?_)
  clear h
  refine cd [] rfl (by simp) ?_
  by_cases h8 : so = 8
  case neg =>
   rw [if_neg h8]
   refine Aa rfl (fun h => absurd (by simpa using h) h8) (fun h => ?_)
   refine cd [] rfl (by simp) ?_
   refine Ab ⟨_,rfl,tV (congrArg _ ?_),trivial⟩
   simp
  rw [if_pos h8]
  refine Aa rfl (fun h => ?_) (fun h => by simp [h8] at h)
  clear h
  refine cd [] rfl (by simp) ?_
  refine Ac rfl (fun _ => hcon) (by simp) ?_
  refine cg [] rfl (by simp) ?_
  by_cases hg : f = 4 ∧ 0 ≤ kp ∧ ka.length = ps.length
  case neg =>
   refine Aa rfl (fun h => ?_) (fun h => ?_)
   ·refine cd [] rfl (by simp) ?_
    refine Ab ⟨_,rfl,tV (congrArg _ ?_),trivial⟩
    simp
    grind
   ·exfalso
    simp at h
    apply hg
    omega
  obtain ⟨rfl,hkp,hlen⟩ := hg
  have hnm := hnm hkp
  refine Aa rfl (fun h => by exfalso;simp [hlen] at h;omega) (fun h => ?_)
  clear h
  refine cd [] rfl (by simp) ?_
  simp only [hkp,hlen,decide_true,Bool.true_and]
  refine Ah (fun i : Nat => [(9,.imm (.int .i64 i)),(3,.ref 1 0),(5,.ref 3 0),(7,.ref 4 0)]) (fun _ => [(1,some (.immb 29 6 (dCse ⟨ds,.mk c1 c2 c3 c4,rows⟩))),(3,some (.immb 33 4 (dTyc (.mk 4 n x ps)))),(4,some (.immb 75 2 (Cx ⟨kn,ka⟩)))]) [5,6] (fun i => ps.length - i)
   (fun i => i ≤ ps.length ∧ Mg ds ka ps = Mg ds (ka.drop i) (ps.drop i)) 0 ⟨Nat.zero_le _,rfl⟩ ⟨rfl,rfl,rfl,rfl,trivial⟩ ⟨rfl,rfl,rfl,trivial⟩ rfl fun i hi ih => ?_
  obtain ⟨hi1,hi2⟩ := hi
  refine cd [] rfl (by simp) ?_
  refine Aa rfl (fun h => ?_) (fun h => ?_)
  ·simp at h
   obtain ⟨p,hp⟩ := Ai h
   obtain ⟨a,ha⟩ := Ai (l := ka) (i := i) (by omega)
   rw [Aj hp,Aj ha] at hi2
   simp only [Mg] at hi2
   refine cd [] rfl (by simp) ?_
   refine ci rfl (c := dTyc a) (fun _ => ⟨by simp,by simpa using Ao ha,by simp⟩) (by simp) ?_
   refine cg [] rfl (by simp) ?_
   refine ci rfl (c := dTyc p) (fun _ => ⟨by simp,by simpa using Ao hp,by simp⟩) (by simp) ?_
   refine cg [] rfl (by simp) ?_
   refine Ac rfl (fun _ => YS (.mk c1 c2 c3 c4) rows ds ho p a (DG hnm ha)) (by simp) ?_
   refine cg [] rfl (by simp;rfl) ?_
   refine Aa rfl (fun h => ?_) (fun h => ?_)
   ·refine cd [] rfl (by simp) ?_
    refine Ab ⟨_,rfl,tV (congrArg _ ?_),trivial⟩
    simp at h
    simp [hi2,h]
   ·refine cd [] rfl (by simp) ?_
    simp at h
    exact Ad (ih (i + 1) (by omega) ⟨by omega,by rw [hi2];simp [h]⟩) ⟨Aq (Bq (by omega) (by omega)),rfl,rfl,rfl,trivial⟩ ⟨rfl,rfl,rfl,trivial⟩ rfl
  ·simp at h
   refine Ar rfl ?_
   refine cd [] rfl (by simp) ?_
   rw [hi2,List.drop_eq_nil_of_le (by omega),List.drop_eq_nil_of_le (by omega)]
   exact Ab ⟨_,rfl,tV rfl,trivial⟩
termination_by p => SizeOf.sizeOf p
decreasing_by
 have := List.sizeOf_lt_of_mem (List.mem_of_getElem? hp)
 simp_wf
 omega
def Wd (c : Cse) (p : Ty) : Bool := CX p && CB c.datas c.type p
def HR (c : Cse) : Bool := (EH c.datas && Dp c.type && Bf c.datas c.type && decide (c.rows.length ≤ 5)) && (c.rows.all (Wd c) && decide (Ag c.rows ≤ 30))
theorem Qa {p : Ty} (h : CX p = true) : Ak p ≤ 12 := by
 simp only [CX,Bool.and_eq_true,decide_eq_true_eq] at h
 have h1 := Cy p 12 h.1.1
 have h2 := h.1.1
 omega
set_option maxHeartbeats 1000000 in
theorem Y6 (c : Cse) : PureC Tryz.prog 25 [.agg (dCse c)] (.bool (HR c)) := by
 obtain ⟨ds,t,rows⟩ := c
 obtain ⟨so,n0,x0,ps0⟩ := t
 refine Ae BY Tryz.func25 (by decide +kernel) rfl [1,2,3,4,5,6] rfl rfl ?_
 refine cg [] rfl (by simp) ?_
 refine Ac rfl (fun _ => XA ds) (by simp) ?_
 refine cg [] rfl (by simp) ?_
 refine Ac rfl (fun _ => J0 (.mk so n0 x0 ps0)) (by simp [Af]) ?_
 refine cg [] rfl (by simp [Af]) ?_
 refine Ac rfl (fun _ => JN ds (.mk so n0 x0 ps0)) (by simp [Af]) ?_
 refine cg [] rfl (by simp [Af]) ?_
 refine Aa rfl (fun h => ?_) (fun h => ?_)
 ·refine cd [] rfl (by simp) ?_
  refine Ab ⟨_,rfl,tV (congrArg _ ?_),trivial⟩
  simp at h
  simp [HR]
  grind
 have hg : (EH ds && Dp (.mk so n0 x0 ps0) && Bf ds (.mk so n0 x0 ps0) && decide (rows.length ≤ 5)) = true := by simp at h ⊢;grind
 rw [show HR ⟨ds,.mk so n0 x0 ps0,rows⟩ = (rows.all (Wd ⟨ds,.mk so n0 x0 ps0,rows⟩) && decide (Ag rows ≤ 30)) by simp only [HR,hg,Bool.true_and]]
 clear h
 simp only [Bool.and_eq_true,decide_eq_true_eq] at hg
 obtain ⟨⟨⟨hd,hw⟩,hn⟩,hl⟩ := hg
 have ho := OkD.of hd
 have hP := fun p => Qb (.mk so n0 x0 ps0) rows ds ho p (.mk so n0 x0 ps0) hn
 generalize hR : Wd ⟨ds,.mk so n0 x0 ps0,rows⟩ = R
 have hR : ∀ p,R p = (CX p && CB ds (.mk so n0 x0 ps0) p) := fun p => by rw [← hR];rfl
 refine cd [] rfl (by simp) ?_
 refine Ah (fun i : Nat => [(4,.imm (.int .i64 i)),(3,.imm (.int .i64 ((Ag (rows.take i) : Nat) : Int))),(1,.ref 1 0)]) (fun _ => [(1,some (.immb 29 6 (dCse ⟨ds,.mk so n0 x0 ps0,rows⟩)))]) [2,3,4,5,6] (fun i => rows.length - i)
  (fun i => i ≤ rows.length ∧ rows.all R = (rows.drop i).all R ∧ Ag (rows.take i) ≤ 12 * i) 0 ⟨Nat.zero_le _,rfl,by simp [Ag]⟩ ⟨rfl,rfl,rfl,trivial⟩ ⟨rfl,trivial⟩ rfl fun i hi ih => ?_
 obtain ⟨hi1,hi2,hi3⟩ := hi
 refine cd [] rfl (by simp) ?_
 refine Aa rfl (fun h => ?_) (fun h => ?_)
 ·simp at h
  obtain ⟨p,hp⟩ := Ai h
  rw [C3 hp,hR] at hi2
  have en : Ag (rows.take (i + 1)) = Ag (rows.take i) + Ak p := by rw [AM hp,AO];simp [Ag]
  refine cd [] rfl (by simp) ?_
  refine ci rfl (c := dTyc p) (fun _ => ⟨by simp,by simpa using Ao hp,by simp⟩) (by simp) ?_
  refine cg [] rfl (by simp) ?_
  refine Ac rfl (fun _ => X6 p) (by simp) ?_
  refine cg [] rfl (by simp) ?_
  refine ci rfl (c := dTyc p) (fun _ => ⟨by simp,by simpa using Ao hp,by simp⟩) (by simp [Af]) ?_
  refine cg [] rfl (by simp [Af]) ?_
  refine Ac rfl (fun _ => hP p) (by simp [Af]) ?_
  refine cg [] rfl (by simp [Af];rfl) ?_
  refine Aa rfl (fun h => ?_) (fun h => ?_)
  ·refine cd [] rfl (by simp) ?_
   refine Ab ⟨_,rfl,tV (congrArg _ ?_),trivial⟩
   simp at h
   rw [hi2]
   grind
  ·have hr : (CX p && CB ds (.mk so n0 x0 ps0) p) = true := by simp at h ⊢;grind
   rw [hr,Bool.true_and] at hi2
   have hp12 := Qa (Bool.and_eq_true _ _ ▸ hr).1
   refine cd [] rfl (by simp) ?_
   refine ci rfl (c := dTyc p) (fun _ => ⟨by simp,by simpa using Ao hp,by simp⟩) (by simp) ?_
   refine cg [] rfl (by simp) ?_
   refine Ac rfl (fun _ => Rp p (by omega)) (by simp) ?_
   refine cg [] rfl (by simp) ?_
   exact Ad (ih (i + 1) (by omega) ⟨by omega,hi2,by omega⟩) ⟨Aq (Bq (by omega) (by omega)),Aq (by rw [en,Bq (by omega) (by omega)];omega),rfl,trivial⟩ ⟨rfl,trivial⟩ rfl
 ·simp at h
  refine Ar rfl ?_
  refine cd [] rfl (by simp) ?_
  rw [List.take_of_length_le (by omega),hi2,List.drop_eq_nil_of_le (by omega)]
  refine Ab ⟨_,rfl,tV (congrArg _ ?_),trivial⟩
  simp
  omega
end Go.Hk
namespace Go.Hk
def Tg (P : Program) (t : TypeId) : Bool := (match P.underlying t with
 | some (.struct fs) => fs.toList.all fun f => f.name != "_"
 | _ => false) && !P.stoodInHeld t && !P.eqGuardType P.depth t
def Yr : V → V → Option Bool
 | .bool a,.bool b => some (a == b)
 | .int k a,.int k' b => match decide (k = k') with
  | true => some (a == b)
  | false => none
 | .str a,.str b => some (a == b)
 | _,_ => none
def GL : V → Sh → Bool
 | .bool _,.bool => true
 | .int _ _,.int _ => true
 | .str _,.str => true
 | _,_ => false
def O7 (tt : TT) : Nat → List (Nat × TypeId) → List V → List V → Option Bool
 | _,[],[],[] => some true
 | i,(off,ft) :: fs,x :: xs,y :: ys => match Nat.beq off i,lk tt ft with
  | true,some ti => match GL x ti.sh,Yr x y with
   | true,some b => match O7 tt (i + 1) fs xs ys with
    | some b' => some (b && b')
    | none => none
   | _,_ => none
  | _,_ => none
 | _,_,_,_ => none
structure PSeq where
 t : TypeId
 b : Bool
 g : Option (Bool × Bool)
 ob : List Prop
 dst : Option Nat
 todo : List DI
def Y3 : D → Option (List V)
 | .imm (.agg xs) => some xs
 | _ => none
def ZH (tt : TT) (n : Nat) (env : Env) (todo : List DI) : Option PSeq :=
 match AQ todo ([],[]) with
 | some (all,o,todo') => match o.op,BH all env o with
  | .binOp op t x y _,some g => match lk tt t,J7 (Af g) env x,J7 (Af g) env y with
   | some { sh := .struct fs,.. },some (dx,o1),some (dy,o2) => match Y3 dx,Y3 dy,BW n o.dst with
    | some xs,some ys,true => match O7 tt 0 fs xs ys,op with
     | some b,.eql => some ⟨t,b,g,FE o1 o2,o.dst,todo'⟩
     | some b,.neq => some ⟨t,!b,g,FE o1 o2,o.dst,todo'⟩
     | _,_ => none
    | _,_,_ => none
   | _,_,_ => none
  | _,_ => none
 | none => none
section
variable {P : Program} {n : Nat} {F : List Nat} {Q : DQ} {tt : TT} {env : Env} {st : St} {ids : List Nat} {todo : List DI} {I : Imm} {w : World}
theorem Mi {t : TypeId} {ti : TyI} (hty : TyOk P t ti) {x : V} (hs : GL x ti.sh = true) : (Go.isAgg t).run P w = .ok false w := by
 have := hty.sh
 cases hsh : ti.sh <;> rw [hsh] at hs this <;> cases x <;> simp only [GL,reduceCtorEq] at hs
 all_goals
  have hu : P.underlying t = some _ := this
  simp [Go.isAgg,run_underlying hu]
theorem Xg {x y : V} {vx vy : Value} {b : Bool} {t : TypeId} {ti : TyI} (hty : TyOk P t ti) (n : Nat) (hx : RepV I vx x) (hy : RepV I vy y) (h : Yr x y = some b) (hs : GL x ti.sh = true) :
  (Op.equalIn (n + 1) t vx vy).run P w = .ok b w := by
 have := hty.sh
 cases x <;> simp only [Yr,reduceCtorEq] at h <;> cases y <;> simp only [Option.some.injEq,reduceCtorEq] at h
 ·cases hx;cases hy
  cases hsh : ti.sh <;> rw [hsh] at hs this <;> simp only [GL,reduceCtorEq] at hs
  rw [run_equalIn_bool' w n t _ _ this,h]
 ·rename_i k a k' b'
  cases hk : decide (k = k') with
  | false => rw [hk] at h;cases h
  | true =>
   rw [hk] at h
   have hkk : k = k' := of_decide_eq_true hk
   subst hkk
   cases hx;cases hy
   cases hsh : ti.sh <;> rw [hsh] at hs this <;> simp only [GL,reduceCtorEq] at hs
   simp only [Option.some.injEq] at h
   rw [run_equalIn_int w n t _ _ _ _ this,h]
 ·cases hx with
  | str s l e1 =>
  cases hy with
  | str s' l' e2 =>
  cases hsh : ti.sh <;> rw [hsh] at hs this <;> simp only [GL,reduceCtorEq] at hs
  rw [run_equalIn_string w n t _ _ this,ByteArray.toList_eq,ByteArray.toList_eq,e1,e2,h]
theorem Jj (htt : TTok P tt) {xs ys : Array Value} (n : Nat) : ∀ (fs : List Field) (i : Nat) (gx gy : List V) (b : Bool), (∀ f ∈ fs, f.name ≠ "_") →
  RepVL I (xs.toList.drop i) gx → RepVL I (ys.toList.drop i) gy → O7 tt i (fs.map fun f => (f.offset,f.type)) gx gy = some b → (Op.eqFields (n + 1) xs ys fs).run P w = .ok b w
 | [],i,gx,gy,b,_,_,_,h => by
  cases gx <;> cases gy <;> simp only [List.map_nil,O7,Option.some.injEq,reduceCtorEq] at h
  simp [Op.eqFields,← h]
 | f :: fs,i,gx,gy,b,hn,hx,hy,h => by
  cases gx with
  | nil => simp [O7] at h
  | cons x gx =>
   cases gy with
   | nil => simp [O7] at h
   | cons y gy =>
    simp only [List.map_cons,O7] at h
    cases ho : Nat.beq f.offset i with
    | false => rw [ho] at h;cases h
    | true =>
    cases hl : lk tt f.type with
    | none => rw [ho,hl] at h;cases h
    | some ti =>
    rw [ho,hl] at h
    simp only at h
    cases hs : GL x ti.sh with
    | false => rw [hs] at h;cases h
    | true =>
    cases hk : Yr x y with
    | none => rw [hs,hk] at h;cases h
    | some b1 =>
    rw [hs,hk] at h
    simp only at h
    cases hr : O7 tt (i + 1) (fs.map fun f => (f.offset,f.type)) gx gy with
    | none => rw [hr] at h;cases h
    | some b2 =>
    rw [hr] at h
    cases h
    have ho := Nat.eq_of_beq_eq_true ho
    have get : ∀ {vs : Array Value} {g : V} {gs : List V},RepVL I (vs.toList.drop i) (g :: gs) → ∃ v,vs[i]? = some v ∧ RepV I v g ∧ RepVL I (vs.toList.drop (i + 1)) gs := by
     intro vs g gs hr
     cases hd : vs.toList.drop i with
     | nil => rw [hd] at hr;exact absurd hr.1 (by simp)
     | cons v vs' =>
      rw [hd] at hr
      have h0 : vs.toList[i]? = some v := by
       have : (vs.toList.drop i)[0]? = some v := by rw [hd];rfl
       rw [List.getElem?_drop] at this;simpa using this
      refine ⟨v,by rw [← Array.getElem?_toList];exact h0,hr.2 0 v g rfl rfl,?_⟩
      have : vs.toList.drop (i + 1) = vs' := by
       have := congrArg List.tail hd
       simpa [List.tail_drop] using this
      rw [this]
      exact ⟨by have := hr.1;simpa using this,fun j v x h1 h2 => hr.2 (j + 1) v x (by simpa using h1) (by simpa using h2)⟩
    obtain ⟨vx,x1,x2,x3⟩ := get hx
    obtain ⟨vy,y1,y2,y3⟩ := get hy
    have ih := Jj htt n fs (i + 1) gx gy b2 (fun f hf => hn f (by simp [hf])) x3 y3 hr
    have hagg := Mi (w := w) (htt _ _ hl) hs
    have hpart : ∀ (vs : Array Value) (v : Value),vs[i]? = some v → (part f.type vs f.offset).run P w = .ok v w := fun vs v hv => by
     simp [part,hagg,ho,hv]
    have he := Xg (w := w) (htt _ _ hl) n x2 y2 hk hs
    simp only [Op.eqFields,hn f (by simp),ne_eq,not_false_eq_true,if_true,Sem.run_bind,hpart _ _ x1,hpart _ _ y1,Result.andThen_ok,he]
    cases b1 with
    | true => simpa using ih
    | false => simp
theorem PG (htt : TTok P tt) {t : TypeId} (hs : Tg P t = true) {fs : List (Nat × TypeId)} (hsh : BS P t (.struct fs)) {xo yo : Operand} {xs ys : List V} {b : Bool} {vx vy : Value} (hx : RepV I vx (.agg xs)) (hy : RepV I vy (.agg ys))
  (h : O7 tt 0 fs xs ys = some b) : (do eqGuard .eql t xo yo vx vy;binOp .eql t vx vy : Sem Value).run P w = .ok (.bool b) w ∧ (do eqGuard .neq t xo yo vx vy;binOp .neq t vx vy : Sem Value).run P w = .ok (.bool (!b)) w := by
 simp only [Tg,Bool.and_eq_true,Bool.not_eq_true'] at hs
 obtain ⟨⟨h1,h2⟩,h3⟩ := hs
 obtain ⟨fields,hu,hmap,_⟩ : ∃ fields,P.underlying t = some (.struct fields) ∧ fields.toList.map (fun f => (f.offset,f.type)) = fs ∧ ∀ f ∈ fields.toList,0 < P.cellsOf f.type := hsh
 rw [hu] at h1
 simp only [List.all_eq_true,bne_iff_ne] at h1
 cases hx with
 | agg cx _ lx _ rx =>
 cases hy with
 | agg cy _ ly _ ry =>
 have hf := Jj (w := w) (xs := cx) (ys := cy) (I := I) htt 9998 fields.toList 0 xs ys b h1 ⟨by simpa using lx,fun i v d h1 h2 => rx i v d (by simpa using h1) h2⟩ ⟨by simpa using ly,fun i v d h1 h2 => ry i v d (by simpa using h1) h2⟩ (by rw [hmap];exact h)
 have hfo : P.fieldsOf t = fields := by simp [Program.fieldsOf,hu]
 have he : (Op.equalIn 10000 t (.agg cx) (.agg cy)).run P w = .ok b w := by
  have := run_equalIn_struct (P := P) w 9999 t cx cy (by rw [hfo];exact hu) h2
  rw [this,hfo];exact hf
 exact ⟨by simp only [Sem.run_bind,run_eqGuard_agg w _ _ _ _ _ _ h3,Result.andThen_ok,run_eql_struct w,he],by simp only [Sem.run_bind,run_eqGuard_agg w _ _ _ _ _ _ h3,Result.andThen_ok,run_neq_struct w,he]⟩
theorem R7 {d : D} {xs : List V} (h : Y3 d = some xs) : d = .imm (.agg xs) := by
 unfold Y3 at h
 split at h
 ·cases h;rfl
 ·cases h
theorem WR (htt : TTok P tt) {t : TypeId} {b : Bool} {g : Option (Bool × Bool)} {ob : List Prop} {dst : Option Nat} {todo0 : List DI} (h : ZH tt n env todo = some ⟨t,b,g,ob,dst,todo0⟩) (hs : Tg P t = true) (hob : Ay ob)
  (hg : G P n F Q todo0 (Bo dst (gD g (.imm (.bool b))) env) st ids) : G P n F Q todo env st ids := by
 unfold ZH at h
 split at h
 ·rename_i all o todo' h1
  split at h
  ·rename_i op t' x y t2 g' hop hgd
   split at h
   ·rename_i fs _ _ _ _ dx o1 dy o2 ht hx hy
    split at h
    ·rename_i xs ys ex ey hdo
     have ex := R7 ex
     have ey := R7 ey
     subst ex;subst ey
     split at h
     ·rename_i b' hv
      cases h
      refine BA (fr := []) (wr := []) (rd := []) h1 (Cm hgd fun I μ st1 ids1 a w hag hst hops hcx => ?_) hdo (fun c hc => by rw [hop] at hc;cases hc) hg
      rw [hop] at hops
      obtain ⟨ho1,ho2⟩ := A3 hob
      have rx := (BN hx ho1 hcx (hops x (by simp [Op.operands]))).immInv
      have ry := (BN hy ho2 hcx (hops y (by simp [Op.operands]))).immInv
      have hrun : (execOp a.eval o).run P w = .ok (.value (.bool b)) w := by
       simp only [execOp,hop]
       exact Am (PG htt hs (htt.sh ht) rx ry hv).1
      rw [hrun]
      exact ⟨I,μ,hst,.imm _ _ (.bool _),Mu.le_refl μ,Ext.refl _ _ _ _⟩
     ·rename_i b' hv
      cases h
      refine BA (fr := []) (wr := []) (rd := []) h1 (Cm hgd fun I μ st1 ids1 a w hag hst hops hcx => ?_) hdo (fun c hc => by rw [hop] at hc;cases hc) hg
      rw [hop] at hops
      obtain ⟨ho1,ho2⟩ := A3 hob
      have rx := (BN hx ho1 hcx (hops x (by simp [Op.operands]))).immInv
      have ry := (BN hy ho2 hcx (hops y (by simp [Op.operands]))).immInv
      have hrun : (execOp a.eval o).run P w = .ok (.value (.bool (!b'))) w := by
       simp only [execOp,hop]
       exact Am (PG htt hs (htt.sh ht) rx ry hv).2
      rw [hrun]
      exact ⟨I,μ,hst,.imm _ _ (.bool _),Mu.le_refl μ,Ext.refl _ _ _ _⟩
     ·cases h
    ·cases h
   ·cases h
  ·cases h
 ·cases h
end
end Go.Hk
namespace Go.Hk
section
variable {P : Program} {I J : Imm} {μ ν : Mu} {w : World}
theorem WE {g : Value} {e : TypeId} {sz : Nat} {es : List (List V)} (h : BlkRep I μ w g (.row e sz es)) (hle : I.le J) (hb : ∀ b,Cj g b → J b = w.heap[b]?) : RepV J g (.sl es) := by
 obtain ⟨xs,hown,hrep,hsz,hone,hp⟩ := h
 rcases hown.2 with ⟨rfl,h0⟩ | ⟨gb,cap,cur,rfl,_,hheap,hle2,hcm,hcs,htake⟩
 ·have : es = [] := List.eq_nil_of_length_eq_zero h0
  subst this
  exact .slnil
 ·have hJg : J gb = some (.cells cur e (0,0)) := (hb gb rfl).trans hheap
  have hcell : ∀ (i : Nat) (c : List V) (j : Nat) (x : V),es[i]? = some c → c[j]? = some x → ∃ v,xs[i * sz + j]? = some v ∧ cur[i * sz + j]? = some v ∧ RepV I v x ∧ v.oneCell' = true := by
   intro i c j x hi hj
   have h1 := flatten_get hsz i c j x hi hj
   have hlt : i * sz + j < xs.length := by rw [hrep.1];exact (List.getElem?_eq_some_iff.1 h1).1
   obtain ⟨v,hv⟩ : ∃ v,xs[i * sz + j]? = some v := ⟨_,List.getElem?_eq_getElem hlt⟩
   have hr := hrep.2 _ _ _ hv h1
   refine ⟨v,hv,?_,hr,?_⟩
   ·rw [← htake,List.getElem?_take] at hv
    split at hv
    ·simpa using hv
    ·cases hv
   ·have := hone c (List.mem_of_getElem? hi) x (List.mem_of_getElem? hj)
    exact hr.one this
  refine .sl gb 0 _ cap sz es (fun i j => (cur[i * sz + j]?).getD undef) rfl hle2 hcm hsz (fun i c j x hi hj => ?_) (fun i c j x hi hj => ?_)
  ·obtain ⟨v,_,h2,_,h4⟩ := hcell i c j x hi hj
   simp [Imm.cell,hJg,h2,h4]
  ·obtain ⟨v,_,h2,h3,_⟩ := hcell i c j x hi hj
   simp only [h2,Option.getD_some]
   exact h3.mono hle
end
end Go.Hk
namespace Go.Hk
def R6 (w : World) : Imm := fun b => w.heap[b]?
def IO (k : D → Option V) : List D → Option (List V)
 | [] => some []
 | d :: r => match k d,IO k r with
  | some x,some xs => some (x :: xs)
  | _,_ => none
def Jx (k : D → List Nat) : List D → List Nat
 | [] => []
 | d :: r => k d ++ Jx k r
def Di (st : St) : Nat → D → Option V
 | 0,_ => none
 | f + 1,d => match d with
  | .imm x => some x
  | .nils => some (.sl [])
  | .ip t cs off => some (.ip t cs off)
  | .clip es => some (.sl es)
  | .own id _ => match lk st id with
   | some (some (.row _ _ es)) => some (.sl es)
   | _ => none
  | .mapr id => match lk st id with
   | some (some (.map kv)) => some (.mapv kv)
   | _ => none
  | .ref id off => match lk st id with
   | some (some (.immb t _ xs)) => some (.ip t xs off)
   | some (some (.cells t _ ds)) => match IO (Di st f) ds with
    | some xs => some (.ip t xs off)
    | none => none
   | _ => none
  | .agg ds => match IO (Di st f) ds with
   | some xs => some (.agg xs)
   | none => none
  | .fn g a b => match IO (Di st f) a,IO (Di st f) b with
   | some xs,some ys => some (.clo g xs ys)
   | _,_ => none
  | _ => none
def Dj (st : St) : Nat → D → List Nat
 | 0,_ => []
 | f + 1,d => match d with
  | .own id _ => [id]
  | .mapr id => [id]
  | .ref id _ => match lk st id with
   | some (some (.cells _ _ ds)) => id :: Jx (Dj st f) ds
   | _ => [id]
  | .agg ds => Jx (Dj st f) ds
  | .fn _ a b => Jx (Dj st f) a ++ Jx (Dj st f) b
  | _ => []
structure X8 where
 f : FuncId
 vs : List V
 rd : List Nat
 g : Option (Bool × Bool)
 ob : List Prop
 dst : Option Nat
 todo : List DI
def RO (n : Nat) (st : St) (all : List Oper) (o : Oper) (env : Env) (todo : List DI) (f : FuncId) (a b : List D) (args : List Operand) : Option X8 :=
 match BH all env o with
 | some g => match GT (Af g) env args with
  | some (ds,ob) => match IO (Di st 6) (a ++ ds ++ b),BW n o.dst with
   | some vs,true => match AQ todo (Jx (Dj st 6) (a ++ ds ++ b),[]) with
    | some (_,_,todo') => match o.dst with
     | some t => some ⟨f,vs,Jx (Dj st 6) (a ++ ds ++ b),g,ob,some t,todo'⟩
     | none => some ⟨f,vs,Jx (Dj st 6) (a ++ ds ++ b),g,ob,none,todo'⟩
    | none => none
   | _,_ => none
  | none => none
 | none => none
def Wr (n : Nat) (env : Env) (st : St) (todo : List DI) : Option X8 :=
 match AQ todo ([],[]) with
 | some (all,o,_) => match o.op with
  | .call { callee := .value (.func f),args := ⟨args⟩,.. } => RO n st all o env todo f [] [] args
  | .call { callee := .value (.tmp t),args := ⟨args⟩,.. } => match lk env t with
   | some (.imm (.fn (.func f))) => RO n st all o env todo f [] [] args
   | some (.imm (.clo (.func f) a b)) => RO n st all o env todo f (a.map .imm) (b.map .imm) args
   | some (.fn (.func f) a b) => RO n st all o env todo f a b args
   | _ => none
  | _ => none
 | none => none
def Th : V → Bool
 | .tup xs => OE xs
 | x => NC x
section
variable {P : Program} {n : Nat} {F : List Nat} {Q : DQ} {tt : TT} {env env' : Env} {st st' : St} {ids ids' : List Nat} {k todo todo' : List DI} {I J : Imm} {μ : Mu} {w : World} {a : Act} {Pn : V → Prop} {d : D} {cx : Prop} {ob : List Prop}
theorem Ux {v : Value} {x : V} (h : Th x = true) (hr : RepV J v x) : RepV I v x := by
 cases hr with
 | tup cs xs hl hh =>
  refine .tup cs xs hl fun i c x hc hx => ?_
  have hm : ∀ {xs : List V} {i : Nat} {x : V},OE xs = true → xs[i]? = some x → NC x = true := by
   intro xs
   induction xs with
   | nil => intro i x _ h;simp at h
   | cons y r ih =>
    intro i x hs h
    simp only [OE,Bool.and_eq_true] at hs
    cases i with
    | zero => simp at h;subst h;exact hs.1
    | succ i => exact ih hs.2 (by simpa using h)
  exact Uy (hm h hx) (hh i c x hc hx)
 | bool b => exact .bool b
 | int k n => exact .int k n
 | str s l hs => exact .str s l hs
 | _ => simp [Th,NC] at h
theorem F5 {q : D → Option V} {μ : Mu} (hq : ∀ d x v,q d = some x → RepD I μ v d → RepV J v x) : ∀ {vs : List Value} {ds : List D} {xs : List V},IO q ds = some xs → RepL I μ vs ds → RepVL J vs xs
 | [],ds,xs,h,hr => by
  cases ds with
  | nil => cases h;exact .nil
  | cons d ds => simp [RepL] at hr
 | v :: vs,ds,xs,h,hr => by
  cases ds with
  | nil => simp [RepL] at hr
  | cons d ds =>
   obtain ⟨h1,h2⟩ := hr.cons
   simp only [IO] at h
   split at h
   ·cases h;exact .mk (hq _ _ _ (by assumption) h1) (F5 hq (by assumption) h2)
   ·cases h
theorem Ny (hst : StRep I μ st ids w) : ∀ (f : Nat) (d : D) (x : V) (v : Value),Di st f d = some x → RepD I μ v d → RepV (R6 w) v x
 | 0,_,_,_,h,_ => by simp [Di] at h
 | f + 1,d,x,v,h,hr => by
  have hle : I.le (R6 w) := fun b o h => hst.imm b o h
  have ih := Ny hst f
  simp only [Di] at h
  split at h
  ·cases h;exact hr.immInv.mono hle
  ·cases h;cases hr;exact .slnil
  ·cases h;exact hr.ipV.mono hle
  ·cases h;cases hr with
   | clip a len es h => exact h.mono hle
  ·split at h
   ·rename_i hl
    cases h
    cases hr with
    | own id len a cap hm =>
     obtain ⟨g,hg,hb⟩ := hst.blk _ _ hl
     rw [hm] at hg;cases hg
     exact WE hb hle fun b _ => rfl
   ·cases h
  ·split at h
   ·rename_i hl
    cases h
    cases hr with
    | mapr id b hm =>
     obtain ⟨g,hg,b',es,clock,rfl,h1,h2,h3,h4⟩ := hst.blk _ _ hl
     rw [hm] at hg;cases hg
     exact .mapv b es clock _ h1 h2 h3 (fun i e p q1 q2 => (h4 i e p q1 q2).1.mono hle) (fun i e p q1 q2 => (h4 i e p q1 q2).2.mono hle)
   ·cases h
  ·have fin : ∀ {t : TypeId} {off : Nat} {vs : Array Value} {xs : List V} {gb : Nat},v = .pointer (some ⟨gb,off,none⟩) → w.heap[gb]? = some (.cells vs t (0,0)) → RepVL (R6 w) vs.toList xs → (∀ v ∈ vs.toList,v.oneCell' = true) → RepV (R6 w) v (.ip t xs off) := by
    intro t off vs xs gb hv hheap hrep hone
    subst hv
    have := RepV.ip (I := R6 w) gb 0 t xs off (fun j => (vs[j]?).getD undef) (fun j x hx => ?_) (fun j x hx => ?_)
    ·simpa using this
    ·have hj : j < vs.size := by have := hrep.1;have := (List.getElem?_eq_some_iff.1 hx).1;simp at *;omega
     have : R6 w gb = some (.cells vs t (0,0)) := hheap
     simp only [Imm.cell,this,Nat.zero_add,Array.getElem?_eq_getElem hj,Option.getD_some,true_and]
     exact hone _ (by simp)
    ·have hj : j < vs.size := by have := hrep.1;have := (List.getElem?_eq_some_iff.1 hx).1;simp at *;omega
     simp only [Array.getElem?_eq_getElem hj,Option.getD_some]
     exact hrep.2 j _ x (by simp [hj]) hx
   split at h
   ·rename_i hl
    cases h
    cases hr with
    | ref b id off hm =>
     obtain ⟨g,hg,hs,gb,vs,rfl,hheap,hrep,hone⟩ := hst.blk _ _ hl
     rw [hm] at hg;cases hg
     exact fin rfl hheap (hrep.mono hle) hone
   ·rename_i hl
    split at h
    ·rename_i xs hx
     cases h
     cases hr with
     | ref b id off hm =>
      obtain ⟨g,hg,hs,gb,vs,rfl,hheap,hrep,hone⟩ := hst.blk _ _ hl
      rw [hm] at hg;cases hg
      exact fin rfl hheap (F5 ih hx hrep) hone
    ·cases h
   ·cases h
  ·split at h
   ·rename_i xs hx
    cases h
    cases hr with
    | agg cs ds hl h1 hh =>
     have := F5 (vs := cs.toList) ih hx ⟨by simpa using hl,fun i v d h1 h2 => hh i v d (by simpa using h1) h2⟩
     exact .agg cs xs (by simpa using this.1) h1 fun i c x h1 h2 => this.2 i c x (by simpa using h1) h2
   ·cases h
  ·split at h
   ·rename_i xs ys hx hy
    cases h
    cases hr with
    | fn _ first cap df dc hf hc h1 h2 =>
     have q1 := F5 (vs := first.toList) ih hx ⟨by simpa using hf,fun i v d e1 e2 => h1 i v d (by simpa using e1) e2⟩
     have q2 := F5 (vs := cap.toList) ih hy ⟨by simpa using hc,fun i v d e1 e2 => h2 i v d (by simpa using e1) e2⟩
     exact .clo _ first cap xs ys (by simpa using q1.1) (by simpa using q2.1) (fun i c x h1 h2 => q1.2 i c x (by simpa using h1) h2) (fun i c x h1 h2 => q2.2 i c x (by simpa using h1) h2)
   ·cases h
  ·cases h
theorem Agree.sub {r s : List Nat} (h : Agree r st st') (hs : ∀ i ∈ s,i ∈ r) : Agree s st st' := fun i hi => h i (hs i hi)
theorem Dw {q q' : D → Option V} {r : D → List Nat} (h : ∀ d,Agree (r d) st st' → q' d = q d) : ∀ {ds : List D},Agree (Jx r ds) st st' → IO q' ds = IO q ds
 | [],_ => rfl
 | d :: l,ha => by
  simp only [IO]
  rw [h d (ha.sub fun i hi => by simp [Jx,hi]),Dw h (ha.sub fun i hi => by simp [Jx,hi])]
theorem Kw {st st' : St} : ∀ (f : Nat) (d : D),Agree (Dj st f d) st st' → Di st' f d = Di st f d
 | 0,_,_ => rfl
 | f + 1,d,h => by
  have ih := Kw (st := st) (st' := st') f
  cases d with
  | own id n =>
   simp only [Di]
   rw [h id (by simp [Dj])]
  | mapr id =>
   simp only [Di]
   rw [h id (by simp [Dj])]
  | ref id off =>
   have hid : lk st' id = lk st id := h id (by simp only [Dj];split <;> simp)
   simp only [Di]
   rw [hid]
   split
   ·rfl
   ·rename_i ds hl
    rw [Dw ih (h.sub fun i hi => by simp only [Dj,hl];simp [hi])]
   ·rfl
  | agg ds =>
   simp only [Di]
   rw [Dw ih (h.sub fun i hi => by simp only [Dj];exact hi)]
  | fn g a b =>
   simp only [Di]
   rw [Dw ih (h.sub fun i hi => by simp only [Dj];simp [hi]),Dw ih (h.sub fun i hi => by simp only [Dj];simp [hi])]
  | _ => rfl
theorem Yd {all : List Oper} {o : Oper} {f : FuncId} {das : List D} {vs : List V} {v : V} {m : Nat} {g : Option (Bool × Bool)} (hg : BH all env o = some g) (hc : Ei P o env f das (Af g)) (hv : IO (Di st m) das = some vs) (hs : Th v = true)
  (hE : Af g → PureC P f vs v) : LD P Pn all o env st (Jx (Dj st m) das) [] [] (gD g (.imm v)) := by
 refine Cm hg fun I μ st1 ids1 a w hag hst hops hcx => ?_
 obtain ⟨xs,h1,h2⟩ := hc I μ a w hops hcx
 rw [h2]
 have hv1 : IO (Di st1 m) das = some vs := by rw [Dw (Kw m) hag,hv]
 have hx := F5 (Ny hst m) hv1 h1
 have hst0 : StRep (R6 w) μ [] [] w := { imm := fun b o h => h,blk := fun i b h => by simp [Al,lk] at h,apart := fun i b g k h => by simp [Al,lk] at h,inj := fun i j bi bj gi gj k h => by simp [Al,lk] at h,nodup := .nil,idsFree := fun i h => by cases h }
 have hno : ∀ b,¬ AG μ [] b := fun b ⟨i,bi,g,h,_⟩ => by simp [Al,lk] at h
 refine (hE hcx (R6 w) μ w xs hst0 hx.imm).mono (fun u w' hu => ?_) (fun _ _ h => h.elim)
 obtain ⟨I',μ',r1,r2,r3,r4⟩ := hu
 have hlt : ∀ b o,I b = some o → b < w.heap.size := fun b o h => by
  have := hst.imm b o h
  exact (Array.getElem?_eq_some_iff.1 this).1
 refine ⟨I,μ,hst.other r4.size (fun b o h => r4.block b (hlt b o h) (hno b)) (fun b ho => r4.block b (C0 hst ho) (hno b)),?_,Mu.le_refl μ,{ imm := Imm.le_refl I,os := r4.os,tape := r4.tape,output := r4.output,size := r4.size,block := fun b hb _ => r4.block b hb (hno b),fresh := fun _ _ h => h,old := fun _ _ _ => rfl }⟩
 exact .imm _ _ (Ux hs r1.immInv)
theorem KX {o : Oper} {t : Nat} {f : FuncId} {args : List Operand} {ts : Array TypeId} {ds : List D} {df dc : List V} (ho : o.op = .call { callee := .value (.tmp t),args := ⟨args⟩,argTypes := ts }) (ht : lk env t = some (.imm (.clo (.func f) df dc)))
  (ha : GT cx env args = some (ds,ob)) (hob : Ay ob) : Ei P o env f (df.map .imm ++ ds ++ dc.map .imm) cx := by
 intro I μ a w hop hc
 rw [ho] at hop
 have hd := evAs_rep (I := I) (μ := μ) (a := a) hc ha hob fun x hx => hop x (by simp [Op.operands,Call.operands,hx])
 have hf := (hop (.tmp t) (by simp [Op.operands,Call.operands]) _ ht).immInv
 generalize hv : a.eval (.tmp t) = v at hf
 cases hf with
 | clo _ first cap _ _ h1 h2 h3 h4 =>
  refine ⟨first ++ (args.map a.eval).toArray ++ cap,?_,?_⟩
  ·simp only [Array.toList_append]
   have q1 : RepVL I first.toList df := ⟨by simpa using h1,fun i v d hv hd => h3 i v d (by simpa using hv) hd⟩
   have q2 : RepVL I cap.toList dc := ⟨by simpa using h2,fun i v d hv hd => h4 i v d (by simpa using hv) hd⟩
   exact RepL.append (RepL.append q1.imm hd) q2.imm
  ·simp only [execOp,ho,resolve,hv,Deferred.ofValue,Sem.run_bind,Sem.run_pure,Result.andThen_ok,invoke]
   congr 3
   simp
theorem Ws {all : List Oper} {o : Oper} {f : FuncId} {a b : List D} {args : List Operand} {c : X8} (h : RO n st all o env todo f a b args = some c) :
  ∃ g ds ob vs todo',BH all env o = some g ∧ GT (Af g) env args = some (ds,ob) ∧ IO (Di st 6) (a ++ ds ++ b) = some vs ∧ BW n o.dst = true ∧ (∃ p q,AQ todo (Jx (Dj st 6) (a ++ ds ++ b),[]) = some (p,q,todo')) ∧ c = ⟨f,vs,Jx (Dj st 6) (a ++ ds ++ b),g,ob,o.dst,todo'⟩ := by
 unfold RO at h
 split at h
 ·rename_i g hg
  split at h
  ·rename_i ds ob ha
   split at h
   ·rename_i vs hv hd
    split at h
    ·rename_i p q todo' hn
     split at h
     ·rename_i t hdst
      cases h
      exact ⟨g,ds,ob,vs,todo',hg,ha,hv,hd,⟨p,q,hn⟩,by rw [hdst]⟩
     ·rename_i hdst
      cases h
      exact ⟨g,ds,ob,vs,todo',hg,ha,hv,hd,⟨p,q,hn⟩,by rw [hdst]⟩
    ·cases h
   ·cases h
  ·cases h
 ·cases h
theorem Hu {f : FuncId} {vs : List V} {rd : List Nat} {g : Option (Bool × Bool)} {dst : Option Nat} {todo' : List DI} {v : V} (h : Wr n env st todo = some ⟨f,vs,rd,g,ob,dst,todo'⟩) (hE : Af g → PureC P f vs v) (hs : Th v = true) (hob : Ay ob)
  (hk : G P n F Q todo' (Bo dst (gD g (.imm v)) env) st ids) : G P n F Q todo env st ids := by
 have fin : ∀ {all : List Oper} {o : Oper} {f' : FuncId} {a b : List D} {args : List Operand} {t : List DI},AQ todo ([],[]) = some (all,o,t) → RO n st all o env todo f' a b args = some ⟨f,vs,rd,g,ob,dst,todo'⟩ → (∀ c,o.op ≠ .defer c) →
   (∀ {ds : List D} {cx : Prop} {ob : List Prop},GT cx env args = some (ds,ob) → Ay ob → Ei P o env f' (a ++ ds ++ b) cx) → G P n F Q todo env st ids := by
  intro all o f' a b args t hn1 hp hnd hcalls
  obtain ⟨g',ds,ob',vs',todo2,q1,q2,q3,q4,⟨p,q,q5⟩,q6⟩ := Ws hp
  obtain ⟨e1,e2⟩ := FZ hn1 q5
  subst e1;subst e2
  cases q6
  exact BA (fr := []) (wr := []) q5 (Yd q1 (hcalls q2 hob) q3 hs hE) q4 hnd hk
 unfold Wr at h
 split at h
 ·rename_i all o t hn1
  have hnd : ∀ cc,o.op = .call cc → ∀ c,o.op ≠ .defer c := fun cc h c h' => by rw [h] at h';cases h'
  split at h
  ·rename_i f' args ts ho
   exact fin hn1 h (hnd _ ho) fun ha hob => by simpa using EL ho ha hob
  ·rename_i t' args ts ho
   split at h
   ·rename_i f' ht
    exact fin hn1 h (hnd _ ho) fun ha hob => by simpa using DS ho ht ha hob
   ·rename_i f' a b ht
    exact fin hn1 h (hnd _ ho) fun ha hob => KX ho ht ha hob
   ·rename_i f' a b ht
    exact fin hn1 h (hnd _ ho) fun ha hob => HS ho ht ha hob
   ·cases h
  ·cases h
 ·cases h
end
end Go.Hk
namespace Go.Hk
section
variable {P : Program} {n : Nat} {F : List Nat} {Q : DQ} {env : Env} {st : St} {ids : List Nat} {k : List DI}
theorem Vj {all rest : List Oper} {o : Oper} {x : Operand} {t : TypeId} {v : V} (hg : o.guard = none) (ho : o.op = .panic x) (hx : EB env x = some (.imm (.iface t v))) (hq : LZ Q (.iface t v)) : DGo P n F Q (.ops all (o :: rest) :: k) env st ids := by
 intro b cs I μ a w items hd hc
 obtain ⟨j,is,rfl,hr,hk⟩ := Hz hd
 obtain ⟨hj,_⟩ := Bx hr
 have hlen : (o :: rest).length = rest.length + 1 := rfl
 rw [hlen,List.range'_succ]
 refine BD hj (wanted_none hg) (fun c hc => by rw [ho] at hc;cases hc) ?_
 have hon : HU (o.looksAt all.toArray) I μ env a := fun t _ d hl => hc.env t d hl
 have hxr := Ba hon x (by rw [ho];simp [Op.operands]) _ hx
 obtain ⟨u,hu,hur⟩ : ∃ u,a.eval x = .iface t u ∧ RepV I (.iface t u) (.iface t v) := by
  have := hxr.immInv
  generalize a.eval x = y at this
  cases this with
  | iface _ u _ h => exact ⟨u,rfl,.iface t u v h⟩
 have hrun : (execOp a.eval o).run P w = .halt (.panic (.iface t u)) w := by simp [execOp,ho,hu,Instr.panic,goPanic]
 rw [hrun]
 have hE' : Ext I μ st w I μ [] w := { imm := Imm.le_refl I,os := rfl,tape := rfl,output := rfl,size := Nat.le_refl _,block := fun _ _ _ => rfl,fresh := fun b hb ⟨i,bi,g,h1,_⟩ => by simp [Al,lk] at h1,old := fun _ _ _ => rfl }
 exact ⟨.panic (.iface t v),[],[],[],I,μ,⟨_,rfl,hur⟩,hq,Jo hc.imm hc.size (hc.defers.ext hE'),.refl _ _,hE',.refl _ _⟩
end
theorem C7 {P : Program} {f : FuncId} {ds : List D} {st : St} {out : Z7} (j : Nat) {x : V} (hj : ds[j]? = some (.imm x)) (h : CP x → AP P f ds st out) : AP P f ds st out := by
 intro I μ w xs hst hx
 have hlt : j < xs.toList.length := by rw [hx.1];exact (List.getElem?_eq_some_iff.1 hj).1
 exact h (hx.2 j _ (.imm x) (List.getElem?_eq_getElem hlt) hj).immInv.ok I μ w xs hst hx
end Go.Hk
namespace Go.Hk
structure PRng where
 s : List UInt8
 id' : Nat
 ids' : List Nat
 dst : Option Nat
 todo : List DI
def ZI (tt : TT) (n : Nat) (env : Env) (ids : List Nat) (todo : List DI) : Option PRng :=
 match OR todo,ids with
 | some o,id' :: ids' => match o.guard,o.op with
  | none,.range t x => match lk tt t,EB env x,BW n o.dst,AQ todo ([],[id']) with
   | some { sh := .str,.. },some (.imm (.str s)),true,some (_,_,todo') => some ⟨s,id',ids',o.dst,todo'⟩
   | _,_,_,_ => none
  | _,_ => none
 | _,_ => none
structure PNxt where
 s : List UInt8
 pos : Nat
 id : Nat
 dst : Option Nat
 todo : List DI
def XO (n : Nat) (env : Env) (st : St) (wr : Bool) (todo : List DI) : Option PNxt :=
 match OR todo with
 | some o => match o.guard,o.op with
  | none,.next x true => match EB env x,BW n o.dst with
   | some (.iter id),true => match lk st id,AQ todo ([id],bif wr then [id] else []) with
    | some (some (.siter s pos)),some (_,_,todo') => some ⟨s,pos,id,o.dst,todo'⟩
    | _,_ => none
   | _,_ => none
  | _,_ => none
 | none => none
def Cu (s : List UInt8) (pos : Nat) : Nat × Nat := Utf8.decode ⟨s.toArray⟩ pos
section
variable {P : Program} {n : Nat} {F : List Nat} {Q : DQ} {tt : TT} {env env' : Env} {st st' : St} {ids ids' : List Nat} {k todo todo' : List DI} {I : Imm} {μ : Mu} {w : World} {a : Act} {Pn : V → Prop} {d : D} {cx : Prop} {ob : List Prop}
theorem FV {s : Sem Value} {v : Value} {w' : World} (h : s.run P w = .ok v w') : (do pure (.value (← s)) : Sem Next).run P w = .ok (.value v) w' := by simp [h]
theorem RepD.iterInv {v : Value} {id : Nat} (h : RepD I μ v (.iter id)) : ∃ b,v = .pointer (some ⟨b,0,none⟩) ∧ μ id = some v := by
 cases h with
 | iter _ b h => exact ⟨b,rfl,h⟩
theorem WQ (htt : TTok P tt) {s0 : List UInt8} {i0 : Nat} {ids0 : List Nat} {d0 : Option Nat} {todo0 : List DI} (h : ZI tt n env ids todo = some ⟨s0,i0,ids0,d0,todo0⟩) (hk : G P n F Q todo0 (Bo d0 (.iter i0) env) ((i0,some (.siter s0 0)) :: st) ids0) : G P n F Q todo env st ids := by
 unfold ZI at h
 split at h
 ·rename_i o id' ids' ho
  split at h
  ·rename_i t x hg hop
   split at h
   ·rename_i _ _ _ _ s all o' todo' ht hx hd h1
    cases h
    have ho' : o' = o := CE ho h1
    subst ho'
    refine BA (fr := [i0]) (wr := [(i0,some (.siter s0 0))]) (rd := []) h1 ?_ hd (fun c hc => by rw [hop] at hc;cases hc) hk
    intro I μ st1 ids1 a w hag hst hon
    refine ⟨fun _ => ?_,fun hw => by rw [wanted_none hg] at hw;cases hw⟩
    have hops := Ba hon
    rw [hop] at hops
    obtain ⟨bs,e1,e2⟩ := (hops x (by simp [Op.operands]) _ hx).immInv.strInv
    have hu : P.underlying t = some .string := htt.sh ht
    have hrun : (execOp a.eval o').run P w = .ok (.value (.pointer (some ⟨w.heap.size,0,none⟩))) (w.alloc (.stringIter bs 0)) := by
     simp only [execOp,hop,e1]
     refine FV ?_
     simp only [Instr.range,Sem.run_bind,run_underlying hu,Result.andThen_ok,Sem.run_pure,run_newObj]
     rfl
    rw [hrun]
    obtain ⟨μ',q1,q2,q3,q4⟩ := hst.allocO (.stringIter bs 0) (.pointer (some ⟨w.heap.size,0,none⟩)) (fun _ h => Eq.symm h) (.siter s0 0) (fun μ' _ => ⟨w.heap.size,bs,rfl,Ec w _,e2⟩)
    exact ⟨I,μ',q3,.iter _ _ q1,q2,q4⟩
   ·cases h
  ·cases h
 ·cases h
theorem N7 {id pos : Nat} {s : List UInt8} {v : Value} (hst : StRep I μ st ids w) (hl : Al st id (.siter s pos)) (hv : RepD I μ v (.iter id)) :
  ∃ b,v = .pointer (some ⟨b,0,none⟩) ∧ μ id = some v ∧ w.heap[b]? = some (.stringIter ⟨s.toArray⟩ pos) := by
 obtain ⟨b,rfl,hm⟩ := hv.iterInv
 obtain ⟨g,hg,b',bs,rfl,hheap,hs⟩ := hst.blk id _ hl
 rw [hm] at hg;cases hg
 refine ⟨b,rfl,hm,?_⟩
 rw [hheap,← hs]
theorem TO {s0 : List UInt8} {p0 i0 : Nat} {d0 : Option Nat} {todo0 : List DI} (h : XO n env st true todo = some ⟨s0,p0,i0,d0,todo0⟩) (hp : p0 < s0.length) {dc : Nat × Nat} (hdc : Cu s0 p0 = dc)
  (hk : G P n F Q todo0 (Bo d0 (.imm (.tup [.bool true,.int .i64 p0,.int .i32 dc.1])) env) ((i0,some (.siter s0 (p0 + dc.2))) :: st) ids) : G P n F Q todo env st ids := by
 subst hdc
 unfold XO at h
 split at h
 ·rename_i o ho
  split at h
  ·rename_i x hg hop
   split at h
   ·rename_i id hx hd
    split at h
    ·rename_i s pos all o' todo' hl h1
     cases h
     have ho' : o' = o := CE ho h1
     subst ho'
     refine BA (fr := []) (wr := [(i0,some (.siter s0 (p0 + (Cu s0 p0).2)))]) (rd := [i0]) h1 ?_ hd (fun c hc => by rw [hop] at hc;cases hc) hk
     intro I μ st1 ids1 a w hag hst hon
     refine ⟨fun _ => ?_,fun hw => by rw [wanted_none hg] at hw;cases hw⟩
     have hops := Ba hon
     rw [hop] at hops
     have hl1 : Al st1 i0 (.siter s0 p0) := by unfold Al;rw [hag i0 (by simp)];exact hl
     obtain ⟨b,e1,hm,hheap⟩ := N7 hst hl1 (hops x (by simp [Op.operands]) _ hx)
     have hget : (getObj b).run P w = .ok (.stringIter ⟨s0.toArray⟩ p0) w := by simp [getObj,Sem.run,hheap]
     have hset : (setObj b (.stringIter ⟨s0.toArray⟩ (p0 + (Cu s0 p0).2))).run P w = .ok () { w with heap := w.heap.setIfInBounds b (.stringIter ⟨s0.toArray⟩ (p0 + (Cu s0 p0).2)) } := by simp [setObj,Sem.run,hheap]
     have hlt : p0 < (ByteArray.mk s0.toArray).size := by simpa [ByteArray.size] using hp
     have hrun : (execOp a.eval o').run P w = .ok (.value (.tuple #[.bool true,.int .i64 p0,.int .i32 (Cu s0 p0).1])) { w with heap := w.heap.setIfInBounds b (.stringIter ⟨s0.toArray⟩ (p0 + (Cu s0 p0).2)) } := by
      simp only [execOp,hop,e1]
      refine FV ?_
      simp only [Instr.next,Sem.run_bind,hget,Result.andThen_ok,if_pos hlt]
      have : (setObj b (.stringIter ⟨s0.toArray⟩ (p0 + (Utf8.decode ⟨s0.toArray⟩ p0).2))).run P w = _ := hset
      simp only [Sem.run_bind,this,Result.andThen_ok,Sem.run_pure]
      rfl
     rw [hrun]
     have hbl := B1 hheap
     obtain ⟨q1,q2⟩ := hst.update (blk' := .siter s0 (p0 + (Cu s0 p0).2)) (w' := { w with heap := w.heap.setIfInBounds b (.stringIter ⟨s0.toArray⟩ (p0 + (Cu s0 p0).2)) }) hl1 hm (by rw [e1];rfl) (by simp) rfl rfl rfl
      (fun k hk => Array.getElem?_setIfInBounds_ne (Ne.symm hk)) ⟨b,⟨s0.toArray⟩,e1,by simp [hbl],rfl⟩
     refine ⟨I,μ,q1,.imm _ _ (.tup _ _ rfl fun i c x hc hx => ?_),Mu.le_refl μ,q2⟩
     match i,hc,hx with
     | 0,hc,hx => cases hc;cases hx;exact .bool _
     | 1,hc,hx => cases hc;cases hx;exact .int _ _
     | 2,hc,hx => cases hc;cases hx;exact .int _ _
     | i + 3,hc,hx => simp at hx
    ·cases h
   ·cases h
  ·cases h
 ·cases h
theorem Yk {s0 : List UInt8} {p0 i0 : Nat} {d0 : Option Nat} {todo0 : List DI} (h : XO n env st false todo = some ⟨s0,p0,i0,d0,todo0⟩) (hp : s0.length ≤ p0)
  (hk : G P n F Q todo0 (Bo d0 (.imm (.tup [.bool false])) env) st ids) : G P n F Q todo env st ids := by
 unfold XO at h
 split at h
 ·rename_i o ho
  split at h
  ·rename_i x hg hop
   split at h
   ·rename_i id hx hd
    split at h
    ·rename_i s pos all o' todo' hl h1
     cases h
     have ho' : o' = o := CE ho h1
     subst ho'
     refine BA (fr := []) (wr := []) (rd := [i0]) h1 ?_ hd (fun c hc => by rw [hop] at hc;cases hc) hk
     intro I μ st1 ids1 a w hag hst hon
     refine ⟨fun _ => ?_,fun hw => by rw [wanted_none hg] at hw;cases hw⟩
     have hops := Ba hon
     rw [hop] at hops
     have hl1 : Al st1 i0 (.siter s0 p0) := by unfold Al;rw [hag i0 (by simp)];exact hl
     obtain ⟨b,e1,hm,hheap⟩ := N7 hst hl1 (hops x (by simp [Op.operands]) _ hx)
     have hget : (getObj b).run P w = .ok (.stringIter ⟨s0.toArray⟩ p0) w := by simp [getObj,Sem.run,hheap]
     have hlt : ¬ p0 < (ByteArray.mk s0.toArray).size := by simpa [ByteArray.size] using hp
     have hrun : (execOp a.eval o').run P w = .ok (.value (.tuple #[.bool false])) w := by
      simp only [execOp,hop,e1]
      refine FV ?_
      simp only [Instr.next,Sem.run_bind,hget,Result.andThen_ok,if_neg hlt,Sem.run_pure]
     rw [hrun]
     refine ⟨I,μ,hst,.imm _ _ (.tup _ _ rfl fun i c x hc hx => ?_),Mu.le_refl μ,Ext.refl _ _ _ _⟩
     match i,hc,hx with
     | 0,hc,hx => cases hc;cases hx;exact .bool _
     | i + 1,hc,hx => simp at hx
    ·cases h
   ·cases h
  ·cases h
 ·cases h
end
end Go.Hk
namespace Go.Hk
open Go.MapKept
def QU : V → V → Bool
 | .str a,.str b => a == b
 | .int _ a,.int _ b => a == b
 | .bool a,.bool b => a == b
 | _,_ => false
def Bn : List (V × V) → V → Option V
 | [],_ => none
 | (k,d) :: r,x => if QU x k then some d else Bn r x
def CL : List (V × V) → V → V → List (V × V)
 | [],x,d => [(x,d)]
 | (k,e) :: r,x,d => if QU x k then (x,d) :: r else (k,e) :: CL r x d
def descOf : Sh → Option TypeDesc
 | .str => some .string
 | .int k => some (.int k)
 | _ => none
def Gd : Sh → V → Bool
 | .str,.str _ => true
 | .int k,.int k' _ => decide (k' = k)
 | _,_ => false
section
variable {P : Program} {n : Nat} {F : List Nat} {Q : DQ} {tt : TT} {env env' : Env} {st st' : St} {ids ids' : List Nat} {k todo todo' : List DI} {I : Imm} {μ : Mu} {w : World} {a : Act} {Pn : V → Prop} {d : D} {cx : Prop} {ob : List Prop}
theorem Ka {t : TypeId} {sh : Sh} {dd : TypeDesc} (h : descOf sh = some dd) (hs : BS P t sh) : P.underlying t = some dd := by
 cases sh <;> simp only [descOf,reduceCtorEq,Option.some.injEq] at h <;> subst h <;> exact hs
theorem F7 {sh : Sh} {dd : TypeDesc} {v : Value} {x : V} (h : descOf sh = some dd) (hk : Gd sh x = true) (hv : RepV I v x) : IsKey dd v := by
 cases sh <;> simp only [descOf,reduceCtorEq,Option.some.injEq] at h <;> subst h <;> cases x <;> simp [Gd] at hk <;> cases hv <;> simp [IsKey,hk]
theorem Yq {sh : Sh} {v u : Value} {x y : V} (hx : Gd sh x = true) (hy : Gd sh y = true) (hv : RepV I v x) (hu : RepV I u y) : QU x y = true ↔ v = u := by
 cases x with
 | str a =>
  cases y with
  | str b =>
   obtain ⟨s,rfl,rfl⟩ := hv.strInv
   obtain ⟨t,rfl,rfl⟩ := hu.strInv
   simp only [QU,beq_iff_eq,Value.string.injEq]
   constructor
   ·intro h
    obtain ⟨⟨s⟩⟩ := s
    obtain ⟨⟨t⟩⟩ := t
    simp at h
    rw [h]
   ·intro h;rw [h]
  | _ => cases sh <;> simp [Gd] at hx hy
 | int k i =>
  cases y with
  | int k' j =>
   obtain rfl := hv.intInv
   obtain rfl := hu.intInv
   cases sh <;> simp [Gd] at hx hy
   subst hx;subst hy
   simp [QU]
  | _ => cases sh <;> simp [Gd] at hx hy
 | _ => cases sh <;> simp [Gd] at hx
theorem Jh {sh : Sh} {dd : TypeDesc} {v : Value} {x : V} (hd : descOf sh = some dd) (hk : Gd sh x = true) (hv : RepV I v x) : ∀ (l : List MapEntry) (kv : List (V × V)) (i : Nat),l.length = kv.length →
  (∀ (j : Nat) (e : MapEntry) (p : V × V),l[j]? = some e → kv[j]? = some p → RepV I e.key p.1 ∧ RepV I e.val p.2) → (∀ p ∈ kv,Gd sh p.1 = true) →
  (Instr.findNow dd v l i = some none ∧ Bn kv x = none ∧ (∀ y,CL kv x y = kv ++ [(x,y)]) ∧ ∀ e ∈ l,e.key ≠ v) ∨
   ∃ j e y,Instr.findNow dd v l i = some (some (i + j,e.val)) ∧ l[j]? = some e ∧ e.key = v ∧ Bn kv x = some y ∧ RepV I e.val y ∧ ∀ z,CL kv x z = kv.set j (x,z)
 | [],[],i,_,_,_ => .inl ⟨rfl,rfl,fun _ => rfl,fun _ h => by cases h⟩
 | [],_ :: _,_,h,_,_ => by simp at h
 | _ :: _,[],_,h,_,_ => by simp at h
 | e :: l,p :: kv,i,hl,h,hkv => by
  obtain ⟨h1,h2⟩ := h 0 e p rfl rfl
  obtain ⟨y,dy⟩ := p
  have hky := hkv (y,dy) (by simp)
  obtain ⟨r,hr,hiff⟩ := sameNow_of_keys (F7 hd hk hv) (F7 hd hky h1)
  have he := Yq hk hky hv h1
  cases r with
  | true =>
   have hvy := hiff.1 rfl
   have := he.2 hvy
   exact .inr ⟨0,e,dy,by simp [Instr.findNow,hr],rfl,hvy.symm,by simp [Bn,this],h2,fun z => by simp [CL,this]⟩
  | false =>
   have hne : v ≠ e.key := fun q => by have := hiff.2 q;cases this
   have hf : QU x y = false := by
    cases hq : QU x y with
    | false => rfl
    | true => exact absurd (he.1 hq) hne
   rcases Jh hd hk hv l kv (i + 1) (by simpa using hl) (fun j e' p' a b => h (j + 1) e' p' (by simpa using a) (by simpa using b)) (fun p' hp => hkv p' (by simp [hp])) with ⟨q1,q2,q3,q4⟩ | ⟨j,e',y',q1,q2,q3,q4,q5,q6⟩
   ·refine .inl ⟨by simp [Instr.findNow,hr,q1],by simp [Bn,hf,q2],fun z => by simp [CL,hf,q3],fun e' he' => ?_⟩
    rcases List.mem_cons.1 he' with rfl | he'
    ·exact fun q => hne q.symm
    ·exact q4 e' he'
   ·exact .inr ⟨j + 1,e',y',by simp [Instr.findNow,hr,q1];omega,by simpa using q2,q3,by simp [Bn,hf,q4],q5,fun z => by simp [CL,hf,q6]⟩
def pmk (n : Nat) (ids : List Nat) (todo : List DI) : Option (Nat × List Nat × Option Nat × List DI) :=
 match OR todo,ids with
 | some o,id' :: ids' => match o.guard,o.op with
  | none,.makeMap _ none => match BW n o.dst,AQ todo ([],[id']) with
   | true,some (_,_,todo') => some (id',ids',o.dst,todo')
   | _,_ => none
  | _,_ => none
 | _,_ => none
theorem Lu {i0 : Nat} {ids0 : List Nat} {d0 : Option Nat} {todo0 : List DI} (h : pmk n ids todo = some (i0,ids0,d0,todo0)) (hk : G P n F Q todo0 (Bo d0 (.mapr i0) env) ((i0,some (.map [])) :: st) ids0) : G P n F Q todo env st ids := by
 unfold pmk at h
 split at h
 ·rename_i o id' ids' ho
  split at h
  ·rename_i t hg hop
   split at h
   ·rename_i all o' todo' hd h1
    cases h
    have ho' : o' = o := CE ho h1
    subst ho'
    refine BA (fr := [i0]) (wr := [(i0,some (.map []))]) (rd := []) h1 ?_ hd (fun c hc => by rw [hop] at hc;cases hc) hk
    intro I μ st1 ids1 a w hag hst hon
    refine ⟨fun _ => ?_,fun hw => by rw [wanted_none hg] at hw;cases hw⟩
    have hrun : (execOp a.eval o').run P w = .ok (.value (.map (some w.heap.size))) (w.alloc (.map #[] 0)) := by
     simp only [execOp,hop,Option.map_none]
     refine FV ?_
     simp only [Instr.makeMap,Sem.run_bind,Result.andThen_ok,Sem.run_pure,run_newObj]
     rfl
    rw [hrun]
    obtain ⟨μ',q1,q2,q3,q4⟩ := hst.allocO (.map #[] 0) (.map (some w.heap.size)) (fun _ h => Eq.symm h) (.map []) (fun μ' _ => ⟨w.heap.size,#[],0,rfl,Ec w _,rfl,stamped_empty 0,fun i e p h => by simp at h⟩)
    exact ⟨I,μ',q3,.mapr _ _ q1,q2,q4⟩
   ·cases h
  ·cases h
 ·cases h
theorem TC {id : Nat} {kv : List (V × V)} {v : Value} (hst : StRep I μ st ids w) (hl : Al st id (.map kv)) (hv : RepD I μ v (.mapr id)) :
  ∃ b es clock,v = .map (some b) ∧ μ id = some v ∧ w.heap[b]? = some (.map es clock) ∧ es.size = kv.length ∧ Stamped es clock ∧ ∀ (i : Nat) (e : MapEntry) (p : V × V),es[i]? = some e → kv[i]? = some p → RepV I e.key p.1 ∧ RepV I e.val p.2 := by
 cases hv with
 | mapr _ b hm =>
  obtain ⟨g,hg,b',es,clock,rfl,h1,h2,h3,h4⟩ := hst.blk id _ hl
  rw [hm] at hg;cases hg
  exact ⟨b,es,clock,rfl,hm,h1,h2,h3,h4⟩
def VX : Op → Option (TypeId × Operand × Operand × Operand)
 | .mapUpdate t m x y => some (t,m,x,y)
 | .insert t m x y => some (t,m,x,y)
 | _ => none
theorem N8 {op : Op} {t : TypeId} {m x y : Operand} (h : VX op = some (t,m,x,y)) : (op = .mapUpdate t m x y ∨ op = .insert t m x y) ∧ ∀ z ∈ [m,x,y],z ∈ op.operands.toList := by
 unfold VX at h
 split at h
 ·cases h;exact ⟨.inl rfl,by simp [Op.operands]⟩
 ·cases h;exact ⟨.inr rfl,by simp [Op.operands]⟩
 ·cases h
def YE (tt : TT) (env : Env) (st : St) (todo : List DI) : Option (Nat × List (V × V) × Sh × V × V × List DI) :=
 match OR todo with
 | some o => match o.guard,VX o.op with
  | none,some (t,m,x,y) => match o.dst,lk tt t,EB env m,EB env x,EB env y with
   | none,some { sh := .map kt _,.. },some (.mapr id),some (.imm kx),some dy => match lk tt kt,lk st id,AQ todo ([id],[id]),Z9 dy with
    | some i,some (some (.map kv)),some (_,_,todo'),some vy => some (id,kv,i.sh,kx,vy,todo')
    | _,_,_,_ => none
   | _,_,_,_,_ => none
  | _,_ => none
 | none => none
theorem S7 (htt : TTok P tt) {i0 : Nat} {kv : List (V × V)} {sh : Sh} {kx : V} {dy : V} {todo0 : List DI} {dd : TypeDesc} (h : YE tt env st todo = some (i0,kv,sh,kx,dy,todo0)) (hd : descOf sh = some dd) (hk : Gd sh kx = true)
  (hkv : ∀ p ∈ kv,Gd sh p.1 = true) (hg : G P n F Q todo0 env ((i0,some (.map (CL kv kx dy))) :: st) ids) : G P n F Q todo env st ids := by
 unfold YE at h
 split at h
 ·rename_i o ho
  split at h
  ·rename_i t m x y hgd hop
   split at h
   ·rename_i kt et _ _ _ _ id kx' dy' hdst ht hm hx hy
    split at h
    ·rename_i i kv' all o' todo' vy hi hl h1 hng
     cases h
     have ho' : o' = o := CE ho h1
     subst ho'
     have hg : G P n F Q todo0 (Bo o'.dst .undef env) ((i0,some (.map (CL kv kx dy))) :: st) ids := by rw [hdst];exact hg
     refine BA (fr := []) (wr := [(i0,some (.map (CL kv kx dy)))]) (rd := [i0]) h1 ?_ (by simp [BW,hdst]) (fun c hc => by rcases (N8 hop).1 with e | e <;> rw [e] at hc <;> cases hc) hg
     intro I μ st1 ids1 a w hag hst hon
     refine ⟨fun _ => ?_,fun hw => by rw [wanted_none hgd] at hw;cases hw⟩
     have hops := Ba hon
     obtain ⟨hop2,hop3⟩ := N8 hop
     have hl1 : Al st1 i0 (.map kv) := by unfold Al;rw [hag i0 (by simp)];exact hl
     obtain ⟨b,es,clock,e1,hmu,hheap,hlen,hst2,hent⟩ := TC hst hl1 (hops m (hop3 m (by simp)) _ hm)
     have rx := (hops x (hop3 x (by simp)) _ hx).immInv
     have ry := O9 hng (hops y (hop3 y (by simp)) _ hy)
     have hu : P.underlying t = some (.map kt et) := htt.sh ht
     have hkd : P.underlying kt = some dd := Ka hd (htt.sh hi)
     have hik := F7 hd hk rx
     have hbl := B1 hheap
     have fin : ∀ (es' : Array MapEntry) (c' : Nat),(Instr.mapUpdate t (.map (some b)) (a.eval x) (a.eval y)).run P w = .ok () { w with heap := w.heap.setIfInBounds b (.map es' c') } → es'.size = (CL kv kx dy).length → Stamped es' c' →
       (∀ (i : Nat) (e : MapEntry) (p : V × V),es'[i]? = some e → (CL kv kx dy)[i]? = some p → RepV I e.key p.1 ∧ RepV I e.val p.2) →
       valX P ((execOp a.eval o').run P w) (fun v w' => ∃ I' μ',StRep I' μ' ([(i0,some (.map (CL kv kx dy)))] ++ st1) ids1 w' ∧ RepD I' μ' v .undef ∧ μ.le μ' ∧ Ext I μ st1 w I' μ' ([(i0,some (.map (CL kv kx dy)))] ++ st1) w') (JJ (LZ Q) I μ st1 w) := by
      intro es' c' hr h2 h3 h4
      have hrun : (execOp a.eval o').run P w = .ok .skip { w with heap := w.heap.setIfInBounds b (.map es' c') } := by
       rcases hop2 with e | e <;> (simp only [execOp,e,e1];simp [hr])
      rw [hrun]
      obtain ⟨q1,q2⟩ := hst.update (blk' := .map (CL kv kx dy)) (w' := { w with heap := w.heap.setIfInBounds b (.map es' c') }) hl1 hmu (by rw [e1];rfl) (by simp) rfl rfl rfl
       (fun k hk => Array.getElem?_setIfInBounds_ne (Ne.symm hk)) ⟨b,es',c',e1,by simp [hbl],h2,h3,h4⟩
      exact ⟨I,μ,q1,.undef _,Mu.le_refl μ,q2⟩
     rcases Jh (I := I) hd hk rx es.toList kv 0 (by simpa using hlen) (fun j e p h1 h2 => hent j e p (by simpa using h1) h2) hkv with ⟨q1,_,q3,q4⟩ | ⟨j,e,y',q1,q2,q3,_,q5,q6⟩
     ·refine fin _ _ ?_ (by rw [q3];simp [hlen]) (stamped_push hst2 (key := a.eval x) (val := a.eval y) q4) fun i e p h1 h2 => ?_
      ·simp [Instr.mapUpdate,run_underlying hu,MapKept.run_getObj_map hheap,MapKept.run_checkKey hkd hik,MapKept.run_findKey hkd q1,MapKept.run_setObj_map _ hheap,Result.andThen]
      ·rw [q3] at h2
       rw [Array.getElem?_push] at h1
       rw [List.getElem?_append] at h2
       by_cases hi : i = es.size
       ·rw [if_pos hi] at h1;cases h1
        rw [if_neg (by omega)] at h2
        rw [show i - kv.length = 0 by omega] at h2
        cases h2
        exact ⟨rx,ry⟩
       ·rw [if_neg hi] at h1
        have := (Array.getElem?_eq_some_iff.1 h1).1
        rw [if_pos (by omega)] at h2
        exact hent i e p h1 h2
     ·have hj : es[j]? = some e := by simpa using q2
      have hkey : ∀ e',es[j]? = some e' → ({ e' with key := a.eval x,val := a.eval y } : MapEntry).key = e'.key := fun e' he' => by rw [hj] at he';cases he';exact q3.symm
      refine fin (es.modify j fun e => { e with key := a.eval x,val := a.eval y }) clock ?_ (by rw [q6];simp [hlen]) (stamped_modify hst2 _ _ (fun _ _ => rfl) (fun e' _ he' => hkey e' he')) fun i e' p h1 h2 => ?_
      ·simp [Instr.mapUpdate,run_underlying hu,MapKept.run_getObj_map hheap,MapKept.run_checkKey hkd hik,MapKept.run_findKey hkd q1,hj,q3,MapKept.run_keyThatStays hik,MapKept.run_setObj_map _ hheap,Result.andThen]
      ·rw [q6] at h2
       rw [Array.getElem?_modify] at h1
       rw [List.getElem?_set] at h2
       by_cases hi : j = i
       ·subst hi
        rw [if_pos rfl,hj] at h1
        cases h1
        rw [if_pos rfl] at h2
        split at h2
        ·cases h2;exact ⟨rx,ry⟩
        ·cases h2
       ·rw [if_neg hi] at h1 h2
        exact hent i e' p h1 h2
    ·cases h
   ·cases h
  ·cases h
 ·cases h
structure PMl where
 kv : List (V × V)
 sh : Sh
 kx : V
 et : TypeId
 two : Bool
 g : Option (Bool × Bool)
 ob : List Prop
 t : Nat
 todo : List DI
def Wq (tt : TT) (n : Nat) (env : Env) (st : St) (nm : Nat) (todo : List DI) : Option PMl :=
 match AQ todo ([nm],[]) with
 | some (all,o,todo') => match o.op,BH all env o with
  | .lookup t m k two,some g => match lk tt t,J7 (Af g) env m,J7 (Af g) env k with
   | some { sh := .map kt et,.. },some (.mapr id,o1),some (.imm kx,o2) => match Nat.beq id nm,lk tt kt,lk st id,BW n o.dst with
    | true,some i,some (some (.map kv)),true => match o.dst with
     | some t => some ⟨kv,i.sh,kx,et,two,g,FE o1 o2,t,todo'⟩
     | none => none
    | _,_,_,_ => none
   | _,_,_ => none
  | _,_ => none
 | none => none
theorem Dr {t : TypeId} {z : Value} (h : (P.info? t).bind (·.zero) = some z) : (zeroValue t).run P w = .ok z w := by
 cases hi : P.info? t with
 | none => rw [hi] at h;cases h
 | some inf =>
  rw [hi] at h
  have h : inf.zero = some z := h
  simp [zeroValue,typeInfo,hi,h]
def CH (two : Bool) (kv : List (V × V)) (x : V) (zd : V) : D :=
 let r := match Bn kv x with
  | some y => (y,true)
  | none => (zd,false)
 if two then .imm (.tup [r.1,.bool r.2]) else .imm r.1
theorem TP (htt : TTok P tt) (nm : Nat) {kv : List (V × V)} {sh : Sh} {kx : V} {et : TypeId} {two : Bool} {g : Option (Bool × Bool)} {ob : List Prop} {t0 : Nat} {todo0 : List DI} {dd : TypeDesc} {z : Value} {zd : V} {dr : D}
  (h : Wq tt n env st nm todo = some ⟨kv,sh,kx,et,two,g,ob,t0,todo0⟩) (hd : descOf sh = some dd) (hk : Gd sh kx = true) (hkv : ∀ p ∈ kv,Gd sh p.1 = true) (hob : Ay ob)
  (hz : (P.info? et).bind (·.zero) = some z) (hzr : ∀ I,RepV I z zd) (hdr : CH two kv kx zd = dr) (hg : G P n F Q todo0 ((t0,gD g dr) :: env) st ids) : G P n F Q todo env st ids := by
 unfold Wq at h
 split at h
 ·rename_i all o todo' h1
  split at h
  ·rename_i t m k two' g' hop hgd
   split at h
   ·rename_i kt et' _ _ _ _ id o1 kx' o2 ht hm hx
    split at h
    ·rename_i i kv' hid hi hl hdo
     split at h
     ·rename_i t' hdst
      cases h
      have hid := Nat.eq_of_beq_eq_true hid
      subst hid
      subst hdr
      have hg : G P n F Q todo0 (Bo o.dst (gD g (CH two kv kx zd)) env) st ids := by rw [hdst];exact hg
      refine BA (fr := []) (wr := []) (rd := [id]) h1 (Cm hgd fun I μ st1 ids1 a w hag hst hops hcx => ?_) hdo (fun c hc => by rw [hop] at hc;cases hc) hg
      rw [hop] at hops
      obtain ⟨ho1,ho2⟩ := A3 hob
      have rm := BN hm ho1 hcx (hops m (by simp [Op.operands]))
      have rx := (BN hx ho2 hcx (hops k (by simp [Op.operands]))).immInv
      have hl1 : Al st1 id (.map kv) := by unfold Al;rw [hag id (by simp)];exact hl
      obtain ⟨b,es,clock,e1,hmu,hheap,hlen,hst2,hent⟩ := TC hst hl1 rm
      have hu : P.underlying t = some (.map kt et) := htt.sh ht
      have hkd : P.underlying kt = some dd := Ka hd (htt.sh hi)
      have hik := F7 hd hk rx
      have fin : ∀ (v : Value) (ok : Bool) (d : V),(Instr.lookup t (.map (some b)) (a.eval k) two).run P w = .ok (if two then .tuple #[v,.bool ok] else v) w → RepV I v d →
        CH two kv kx zd = (if two then .imm (.tup [d,.bool ok]) else .imm d) →
        valX P ((execOp a.eval o).run P w) (fun u w' => ∃ I' μ',StRep I' μ' st1 ids1 w' ∧ RepD I' μ' u (CH two kv kx zd) ∧ μ.le μ' ∧ Ext I μ st1 w I' μ' st1 w') (JJ (LZ Q) I μ st1 w) := by
       intro v ok d hr hv he
       have hrun : (execOp a.eval o).run P w = .ok (.value (if two then .tuple #[v,.bool ok] else v)) w := by
        simp only [execOp,hop,e1]
        exact Am hr
       rw [hrun]
       refine ⟨I,μ,hst,?_,Mu.le_refl μ,Ext.refl _ _ _ _⟩
       rw [he]
       cases two with
       | false => exact .imm _ _ hv
       | true =>
        refine .imm _ _ (.tup _ _ rfl fun i c x hc hx => ?_)
        match i,hc,hx with
        | 0,hc,hx => cases hc;cases hx;exact hv
        | 1,hc,hx => cases hc;cases hx;exact .bool _
        | i + 2,hc,hx => simp at hx
      rcases Jh (I := I) hd hk rx es.toList kv 0 (by simpa using hlen) (fun j e p h1 h2 => hent j e p (by simpa using h1) h2) hkv with ⟨q1,q2,_,_⟩ | ⟨j,e,y',q1,q2,q3,q4,q5,q6⟩
      ·refine fin z false zd ?_ (hzr I) (by simp [CH,q2])
       simp [Instr.lookup,run_underlying hu,MapKept.run_getObj_map hheap,MapKept.run_checkKey hkd hik,MapKept.run_findKey hkd q1,Dr hz,Result.andThen]
      ·refine fin e.val true y' ?_ q5 (by simp [CH,q4])
       simp [Instr.lookup,run_underlying hu,MapKept.run_getObj_map hheap,MapKept.run_checkKey hkd hik,MapKept.run_findKey hkd q1,Result.andThen]
     ·cases h
    ·cases h
   ·cases h
  ·cases h
 ·cases h
end
end Go.Hk
namespace Go.Hk
mutual
def Mo (id : Nat) (es : List (V × V)) : D → D
 | .mapr i => bif Nat.beq i id then .imm (.mapv es) else .mapr i
 | .agg cs => F3 (Nj id es cs)
 | .tup cs => .tup (Nj id es cs)
 | .fn f a b => .fn f (Nj id es a) (Nj id es b)
 | .iface t d => match Mo id es d with
  | .imm x => .imm (.iface t x)
  | d' => .iface t d'
 | .guard c w d => .guard c w (Mo id es d)
 | d => d
def Nj (id : Nat) (es : List (V × V)) : List D → List D
 | [] => []
 | d :: r => Mo id es d :: Nj id es r
end
def UE (id : Nat) (es : List (V × V)) : Env → Env
 | [] => []
 | (t,d) :: r => (t,Mo id es d) :: UE id es r
def XW (id : Nat) (es : List (V × V)) : Blk → Blk
 | .cells t sz cs => KD t sz (Nj id es cs)
 | b => b
def Ni (id : Nat) (es : List (V × V)) : St → St
 | [] => []
 | (i,some b) :: r => (i,some (XW id es b)) :: Ni id es r
 | (i,none) :: r => (i,none) :: Ni id es r
theorem Eb (id : Nat) (es : List (V × V)) : ∀ l : List D,Nj id es l = l.map (Mo id es)
 | [] => rfl
 | d :: r => by simp [Nj,Eb id es r]
section
variable {P : Program} {n : Nat} {F : List Nat} {Q : DQ} {tt : TT} {env : Env} {st : St} {ids : List Nat} {todo : List DI} {I J : Imm} {μ : Mu} {w : World} {id : Nat} {es : List (V × V)} {g : Value}
theorem RepD.mfr {v : Value} {d : D} (h : RepD I μ v d) (hIJ : I.le J) (hg : μ id = some g) (hr : RepV J g (.mapv es)) : RepD J μ v (Mo id es d) := by
 have at_ : ∀ {l : List D} {i : Nat} {x : D},(Nj id es l)[i]? = some x → ∃ y,l[i]? = some y ∧ x = Mo id es y := by
  intro l i x hx
  rw [Eb,List.getElem?_map] at hx
  cases hl : l[i]? with
  | none => rw [hl] at hx;cases hx
  | some y => rw [hl] at hx;cases hx;exact ⟨y,rfl,rfl⟩
 induction h with
 | undef v => exact .undef v
 | imm v x hx => exact .imm v x (hx.mono hIJ)
 | nils => exact .nils
 | ref b id off hm => exact .ref b id off hm
 | ip b o t cs off vs hcell hrep => exact (RepD.ip b o t cs off vs hcell hrep).mono hIJ (Mu.le_refl μ)
 | agg cs ds hl h1 _ ih =>
  have : RepD J μ (.agg cs.toList.toArray) (F3 (Nj id es ds)) := Hp ⟨by rw [Eb,List.length_map,← hl];simp,fun i c x hc hx => by
   obtain ⟨y,hy,rfl⟩ := at_ hx
   exact ih i c y (by simpa using hc) hy⟩ h1
  simpa [Mo] using this
 | tup cs ds hl _ ih =>
  refine .tup cs _ (by rw [Eb,List.length_map,hl]) fun i c x hc hx => ?_
  obtain ⟨y,hy,rfl⟩ := at_ hx
  exact ih i c y hc hy
 | own i len a cap hm => exact .own i len a cap hm
 | elp b id len cap k sz f hm => exact .elp b id len cap k sz f hm
 | mapr i b hm =>
  simp only [Mo]
  cases hb : Nat.beq i id with
  | false => exact .mapr i b hm
  | true =>
   rw [Nat.eq_of_beq_eq_true hb,hg] at hm
   cases hm
   exact .imm _ _ hr
 | iter id b hm => exact .iter id b hm
 | fn f first cap df dc hf hc _ _ ih1 ih2 =>
  refine .fn f first cap _ _ (by rw [Eb,List.length_map,hf]) (by rw [Eb,List.length_map,hc]) (fun i c x h1 h2 => ?_) (fun i c x h1 h2 => ?_)
  ·obtain ⟨y,hy,rfl⟩ := at_ h2
   exact ih1 i c y h1 hy
  ·obtain ⟨y,hy,rfl⟩ := at_ h2
   exact ih2 i c y h1 hy
 | iface t v d _ ih =>
  simp only [Mo]
  split
  ·rename_i x hx
   rw [hx] at ih
   exact .imm _ _ (.iface t v x ih.immInv)
  ·exact .iface t v _ ih
 | guard c want v d _ hu ih => exact .guard c want v _ ih hu
 | clip a len es hr => exact .clip a len es (hr.mono hIJ)
 | slc b id off len cap hm hl hx => exact .slc b id off len cap hm hl hx
 | yld b id hm => exact .yld b id hm
 | raw v h => exact .raw v h
 | hv v id i vs bs hm hi h1 => exact .hv v id i vs bs hm hi h1
theorem BlkRep.mfr {gb : Value} {blk : Blk} (h : BlkRep I μ w gb blk) (hIJ : I.le J) (hg : μ id = some g) (hr : RepV J g (.mapv es)) : BlkRep J μ w gb (XW id es blk) := by
 cases blk with
 | cells t sz cs =>
  obtain ⟨hs,b,vs,rfl,h2,h3,h4⟩ := h
  refine Em h2 ⟨by rw [Eb,List.length_map,h3.1],fun i v x hv hx => ?_⟩ h4 (by rw [Eb,List.length_map,hs])
  rw [Eb,List.getElem?_map] at hx
  cases hl : cs[i]? with
  | none => rw [hl] at hx;cases hx
  | some y => rw [hl] at hx;cases hx;exact (h3.2 i v y hv hl).mfr hIJ hg hr
 | _ => exact h.mono hIJ (Mu.le_refl μ)
theorem JO {i : Nat} {b : Blk} : ∀ {st : St},Al (Ni id es st) i b → ∃ b0,Al st i b0 ∧ b = XW id es b0
 | [],h => by simp [Ni,Al,lk] at h
 | (k,some x) :: r,h => by
  simp only [Ni] at h
  rcases A8.1 h with ⟨h1,h2⟩ | ⟨h1,h2⟩
  ·exact ⟨x,by unfold Al;rw [h1,lk_cons_self],h2⟩
  ·obtain ⟨b0,q1,q2⟩ := JO h2
   exact ⟨b0,A8.2 (.inr ⟨h1,q1⟩),q2⟩
 | (k,none) :: r,h => by
  simp only [Ni] at h
  obtain ⟨h1,h2⟩ := BF.1 h
  obtain ⟨b0,q1,q2⟩ := JO h2
  exact ⟨b0,BF.2 ⟨h1,q1⟩,q2⟩
theorem KR (id : Nat) (hl : lk st id = some (some (.map es))) (h : DGo P n F Q todo (UE id es env) ((id,none) :: Ni id es st) ids) : DGo P n F Q todo env st ids := by
 intro b cs I μ a w items hd hc
 have hlive : Al st id (.map es) := hl
 obtain ⟨g,hg,gb,ms,clock,rfl,hheap,hsz,hstm,hent⟩ := hc.blk id _ hlive
 have hno := (hc.apart id _ _ gb hlive hg rfl).1
 obtain ⟨J,hJ,hJr,hJo⟩ : ∃ J : Imm,I.le J ∧ RepV J (.map (some gb)) (.mapv es) ∧ (∀ k o,J k = some o → (I k = some o ∨ (Cj (.map (some gb)) k ∧ w.heap[k]? = some o))) := by
  have hle' : I.le (fun k => if k = gb then some (.map ms clock) else I k) := fun k o h => by
   have : k ≠ gb := fun e => by rw [e,hno] at h;cases h
   simp [this,h]
  refine ⟨_,hle',.mapv gb ms clock es (by simp) hsz hstm (fun i e p h1 h2 => (hent i e p h1 h2).1.mono hle') (fun i e p h1 h2 => (hent i e p h1 h2).2.mono hle'),fun k o h => ?_⟩
  by_cases hk : k = gb
  ·subst hk;simp at h;subst h;exact .inr ⟨rfl,hheap⟩
  ·simp [hk] at h;exact .inl h
 have hst : ∀ i bi,Al ((id,none) :: Ni id es st) i bi → i ≠ id ∧ ∃ b0,Al st i b0 ∧ bi = XW id es b0 := fun i bi h => by
  obtain ⟨h1,h2⟩ := BF.1 h
  exact ⟨h1,JO h2⟩
 have hE : Ext I μ st w J μ ((id,none) :: Ni id es st) w :=
  {imm := hJ,os := rfl,tape := rfl,output := rfl,size := Nat.le_refl _
   block := fun _ _ _ => rfl
   fresh := fun k _ ⟨i,bi,gi,h1,h2,h3⟩ => let ⟨_,b0,q,_⟩ := hst i bi h1;⟨i,b0,gi,q,h2,h3⟩
   old := fun k _ ho => by
      cases hJk : J k with
      | none =>
       cases hIk : I k with
       | none => rfl
       | some o => rw [hJ k o hIk] at hJk;cases hJk
      | some o =>
       rcases hJo k o hJk with h | ⟨h,_⟩
       ·exact h.symm
       ·exact absurd ⟨id,_,_,hlive,hg,h⟩ ho }
 have hc' : Conc n J μ (UE id es env) ((id,none) :: Ni id es st) ids a w :=
  {imm := fun k o h => (hJo k o h).elim (fun h => hc.imm k o h) fun h => h.2
   blk := fun i bi hli => by
    obtain ⟨_,b0,h2,rfl⟩ := hst i bi hli
    obtain ⟨gi,hgi,hr⟩ := hc.blk i b0 h2
    exact ⟨gi,hgi,hr.mfr hJ hg hJr⟩
   apart := fun i bi gi k hli hgi hk => by
    obtain ⟨h1,b0,h2,rfl⟩ := hst i bi hli
    obtain ⟨q1,q2⟩ := hc.apart i b0 gi k h2 hgi hk
    refine ⟨?_,q2⟩
    cases hJk : J k with
    | none => rfl
    | some o =>
     rcases hJo k o hJk with h | ⟨h,_⟩
     ·rw [q1] at h;cases h
     ·exact absurd (hc.inj i id b0 _ gi _ k h2 hlive hgi hg hk h) h1
   inj := fun i j bi bj gi gj k hi hj hgi hgj hki hkj => by
    obtain ⟨_,b1,h1,rfl⟩ := hst i bi hi
    obtain ⟨_,b2,h2,rfl⟩ := hst j bj hj
    exact hc.inj i j b1 b2 gi gj k h1 h2 hgi hgj hki hkj
   nodup := hc.nodup
   idsFree := hc.idsFree
   size := hc.size
   env := fun t d hlt => by
    have : ∀ {env : Env},lk (UE id es env) t = some d → ∃ d0,lk env t = some d0 ∧ d = Mo id es d0 := by
     intro env
     induction env with
     | nil => intro h;simp [UE,lk] at h
     | cons p r ih =>
      obtain ⟨s,x⟩ := p
      intro h
      simp only [UE] at h
      by_cases hs : s = t
      ·subst hs;rw [lk_cons_self] at h;cases h;exact ⟨x,lk_cons_self _ _ _,rfl⟩
      ·rw [lk_cons_ne _ _ hs] at h;rw [lk_cons_ne _ _ hs];exact ih h
    obtain ⟨d0,h1,rfl⟩ := this hlt
    exact (hc.env t d0 h1).mfr hJ hg hJr
   defers := hc.defers.ext hE }
 refine (h b cs J μ a w items hd hc').mono fun e' a' w' hp => hp.back (.refl _ _) ?_
 exact hE
def Tr (tt : TT) (n : Nat) (env : Env) (todo : List DI) : Option PMl :=
 match AQ todo ([],[]) with
 | some (all,o,todo') => match o.op,BH all env o with
  | .lookup t m k two,some g => match lk tt t,J7 (Af g) env m,J7 (Af g) env k with
   | some { sh := .map kt et,.. },some (.imm (.mapv kv),o1),some (.imm kx,o2) => match lk tt kt,BW n o.dst with
    | some i,true => match o.dst with
     | some t => some ⟨kv,i.sh,kx,et,two,g,FE o1 o2,t,todo'⟩
     | none => none
    | _,_ => none
   | _,_,_ => none
  | _,_ => none
 | none => none
theorem GQ (htt : TTok P tt) {kv : List (V × V)} {sh : Sh} {kx : V} {et : TypeId} {two : Bool} {g : Option (Bool × Bool)} {ob : List Prop} {t0 : Nat} {todo0 : List DI} {dd : TypeDesc} {z : Value} {zd : V} {dr : D}
  (h : Tr tt n env todo = some ⟨kv,sh,kx,et,two,g,ob,t0,todo0⟩) (hd : descOf sh = some dd) (hk : Gd sh kx = true) (hkv : ∀ p ∈ kv,Gd sh p.1 = true) (hob : Ay ob)
  (hz : (P.info? et).bind (·.zero) = some z) (hzr : ∀ I,RepV I z zd) (hdr : CH two kv kx zd = dr) (hg : G P n F Q todo0 ((t0,gD g dr) :: env) st ids) : G P n F Q todo env st ids := by
 unfold Tr at h
 split at h
 ·rename_i all o todo' h1
  split at h
  ·rename_i t m k two' g' hop hgd
   split at h
   ·rename_i kt et' _ _ _ _ kv' o1 kx' o2 ht hm hx
    split at h
    ·rename_i i hi hdo
     split at h
     ·rename_i t' hdst
      cases h
      subst hdr
      have hg : G P n F Q todo0 (Bo o.dst (gD g (CH two kv kx zd)) env) st ids := by rw [hdst];exact hg
      refine BA (fr := []) (wr := []) (rd := []) h1 (Cm hgd fun I μ st1 ids1 a w hag hst hops hcx => ?_) hdo (fun c hc => by rw [hop] at hc;cases hc) hg
      rw [hop] at hops
      obtain ⟨ho1,ho2⟩ := A3 hob
      have rm := BN hm ho1 hcx (hops m (by simp [Op.operands]))
      have rx := (BN hx ho2 hcx (hops k (by simp [Op.operands]))).immInv
      obtain ⟨b,es,clock,e1,hheap,hlen,hst2,hent⟩ : ∃ b es clock,a.eval m = .map (some b) ∧ w.heap[b]? = some (.map es clock) ∧ es.size = kv.length ∧ MapKept.Stamped es clock ∧ ∀ (i : Nat) (e : MapEntry) (p : V × V),es[i]? = some e → kv[i]? = some p → RepV I e.key p.1 ∧ RepV I e.val p.2 := by
       have rm := rm.immInv
       generalize a.eval m = vm at rm
       cases rm with
       | mapv b es clock _ q1 q2 q3 q4 q5 => exact ⟨b,es,clock,rfl,hst.imm _ _ q1,q2,q3,fun i e p h1 h2 => ⟨q4 i e p h1 h2,q5 i e p h1 h2⟩⟩
      have hu : P.underlying t = some (.map kt et) := htt.sh ht
      have hkd : P.underlying kt = some dd := Ka hd (htt.sh hi)
      have hik := F7 hd hk rx
      have fin : ∀ (v : Value) (ok : Bool) (d : V),(Instr.lookup t (.map (some b)) (a.eval k) two).run P w = .ok (if two then .tuple #[v,.bool ok] else v) w → RepV I v d →
        CH two kv kx zd = (if two then .imm (.tup [d,.bool ok]) else .imm d) →
        valX P ((execOp a.eval o).run P w) (fun u w' => ∃ I' μ',StRep I' μ' st1 ids1 w' ∧ RepD I' μ' u (CH two kv kx zd) ∧ μ.le μ' ∧ Ext I μ st1 w I' μ' st1 w') (JJ (LZ Q) I μ st1 w) := by
       intro v ok d hr hv he
       have hrun : (execOp a.eval o).run P w = .ok (.value (if two then .tuple #[v,.bool ok] else v)) w := by
        simp only [execOp,hop,e1]
        exact Am hr
       rw [hrun]
       refine ⟨I,μ,hst,?_,Mu.le_refl μ,Ext.refl _ _ _ _⟩
       rw [he]
       cases two with
       | false => exact .imm _ _ hv
       | true =>
        refine .imm _ _ (.tup _ _ rfl fun i c x hc hx => ?_)
        match i,hc,hx with
        | 0,hc,hx => cases hc;cases hx;exact hv
        | 1,hc,hx => cases hc;cases hx;exact .bool _
        | i + 2,hc,hx => simp at hx
      rcases Jh (I := I) hd hk rx es.toList kv 0 (by simpa using hlen) (fun j e p h1 h2 => hent j e p (by simpa using h1) h2) hkv with ⟨q1,q2,_,_⟩ | ⟨j,e,y',q1,q2,q3,q4,q5,q6⟩
      ·refine fin z false zd ?_ (hzr I) (by simp [CH,q2])
       simp [Instr.lookup,run_underlying hu,MapKept.run_getObj_map hheap,MapKept.run_checkKey hkd hik,MapKept.run_findKey hkd q1,Dr hz,Result.andThen]
      ·refine fin e.val true y' ?_ q5 (by simp [CH,q4])
       simp [Instr.lookup,run_underlying hu,MapKept.run_getObj_map hheap,MapKept.run_checkKey hkd hik,MapKept.run_findKey hkd q1,Result.andThen]
     ·cases h
    ·cases h
   ·cases h
  ·cases h
 ·cases h
def aL : List V → List D
 | [] => []
 | .ip t cs off :: r => .ip t cs off :: aL r
 | x :: r => .imm x :: aL r
theorem TJ : ∀ {xs : List Value} {vs : List V},RepL I μ xs (vs.map .imm) → RepL I μ xs (aL vs)
 | [],[],h => h
 | [],v :: vs,h => absurd h.1 (by simp)
 | x :: xs,[],h => absurd h.1 (by simp)
 | x :: xs,v :: vs,h => by
  obtain ⟨h1,h2⟩ := (show RepL I μ (x :: xs) (.imm v :: vs.map .imm) from h).cons
  have := TJ h2
  cases v with
  | ip t cs off => exact .mk h1.immInv.ipD this
  | _ => exact .mk h1 this
theorem To {f : FuncId} {vs : List V} {v : V} (h : AP P f (aL vs) [] (.ret (.imm v) [])) : PureC P f vs v := fun I μ w xs hst hx => h I μ w xs hst (TJ hx)
def Wu (n : Nat) (env : Env) (todo : List DI) : Option Ue :=
 match AQ todo ([],[]) with
 | some (all,o,todo') => match o.op,BH all env o with
  | .call { callee := .value (.tmp t),args := ⟨args⟩,.. },some g => match lk env t,GT (Af g) env args with
   | some (.imm (.clo (.func f) a b)),some (ds,ob) => match I1 ds,BW n o.dst with
    | some vs,true => match o.dst with
     | some t => some ⟨f,a ++ vs ++ b,g,ob,some t,todo'⟩
     | none => some ⟨f,a ++ vs ++ b,g,ob,none,todo'⟩
    | _,_ => none
   | _,_ => none
  | _,_ => none
 | none => none
theorem LB : ∀ l : List V,I1 (l.map .imm) = some l
 | [] => rfl
 | x :: r => by simp [I1,Z9,LB r]
theorem G1 : ∀ {a b : List D} {xs ys : List V},I1 a = some xs → I1 b = some ys → I1 (a ++ b) = some (xs ++ ys)
 | [],b,xs,ys,h1,h2 => by cases h1;exact h2
 | d :: r,b,xs,ys,h1,h2 => by
  simp only [I1] at h1
  split at h1
  ·rename_i x xs' hx hr
   cases h1
   simp [I1,hx,G1 hr h2]
  ·cases h1
theorem TQ {f : FuncId} {vs : List V} {g : Option (Bool × Bool)} {ob : List Prop} {dst : Option Nat} {todo' : List DI} {v : V} (h : Wu n env todo = some ⟨f,vs,g,ob,dst,todo'⟩) (hE : Af g → PureC P f vs v) (hob : Ay ob)
  (hk : G P n F Q todo' (Bo dst (gD g (.imm v)) env) st ids) : G P n F Q todo env st ids := by
 unfold Wu at h
 split at h
 ·rename_i all o todo1 h1
  have hnd : ∀ cc,o.op = .call cc → ∀ c,o.op ≠ .defer c := fun cc h c h' => by rw [h] at h';cases h'
  split at h
  ·rename_i t args ts g' ho hg
   split at h
   ·rename_i f' a b ds ob' ht ha
    split at h
    ·rename_i vs' hv hd
     have fin : f' = f ∧ a ++ vs' ++ b = vs ∧ g' = g ∧ ob' = ob ∧ o.dst = dst ∧ todo1 = todo' := by
      split at h <;> (rename_i hdst;cases h;exact ⟨rfl,rfl,rfl,rfl,hdst,rfl⟩)
     obtain ⟨rfl,rfl,rfl,rfl,rfl,rfl⟩ := fin
     exact BA (fr := []) (wr := []) h1 (Pd hg (KX ho ht ha hob) (G1 (G1 (LB a) hv) (LB b)) hE) hd (hnd _ ho) hk
    ·cases h
   ·cases h
  ·cases h
 ·cases h
end
end Go.Hk
namespace Go.Hk
open Go.Proofs
def aI : TT := ZD ++ [
 (37,⟨.sl 60,false,1,24,[.nils]⟩),
 (60,⟨.struct [(0,9),(1,33)],true,5,72,[.imm (.str []),.imm (.int .i64 0),.imm (.int .i64 0),.imm (.str []),.nils]⟩),
 (137,⟨.struct [(0,29),(6,134),(7,135),(8,83)],true,9,144,[.nils,.imm (.int .i64 0),.imm (.int .i64 0),.imm (.str []),.nils,.nils,.imm .nilmap,.imm .nilmap,.nils]⟩),
 (131,⟨.struct [(0,30),(1,3),(2,9)],true,3,32,[.imm (.int .i64 0),.imm (.int .i64 0),.imm (.str [])]⟩),
 (186,⟨.struct [(0,3),(1,3)],true,2,16,[.imm (.int .i64 0),.imm (.int .i64 0)]⟩),
 (134,⟨.map 9 3,false,1,8,[.imm .nilmap]⟩),
 (135,⟨.map 9 186,false,1,8,[.imm .nilmap]⟩),
 (83,⟨.sl 3,false,1,24,[.nils]⟩),
 (95,⟨.ptr 137,false,1,8,[.imm .nilp]⟩),
 (103,⟨.func,false,1,8,[.imm .nilfn]⟩),
 (179,⟨.func,false,1,8,[.imm .nilfn]⟩),
 (128,⟨.func,false,1,8,[.imm .nilfn]⟩),
 (54,⟨.func,false,1,8,[.imm .nilfn]⟩)]
theorem Ap : TTok Tryz.prog aI := .of_eq (l := [4,3,9,141,26,50,138,27,5,24,23,57,139,48,143,147,75,22,145,72,70,38,33,30,31,29,37,60,137,131,186,134,135,83,95,103,179,128,54]) (by kernel_rfl)
section
variable {n : Nat} {F : List Nat} {Q : DQ} {env env' : Env} {st st' : St} {ids ids' : List Nat} {k todo : List DI} {ob : List Prop}
theorem bd (path : List Pt) (h : run aI n 300 path todo env st ids [] = .at k env' st' ids' ob) (hob : Ay ob) (hd : G Tryz.prog n F Q k env' st' ids') : DGo Tryz.prog n F Q todo env st ids := KU Ap mixed 300 path h hob hd
theorem bg (path : List Pt) (h : run aI n 300 path todo env st ids [] = .at k env' st' ids' ob) (hob : Ay ob) (hd : G Tryz.prog n F Q k env' st' ids') : G Tryz.prog n F Q todo env st ids := Ja Ap mixed 300 path h hob hd
theorem bi {es : List (List V)} {m : Int} {sz : Nat} {e : TypeId} {g : Option (Bool × Bool)} {ob : List Prop} {t : Nat} {todo' : List DI} {c : List V} (h : Nf aI n env todo = some ⟨es,m,sz,e,g,ob,some t,todo'⟩)
  (hc : Af g → 0 ≤ m ∧ es[m.toNat]? = some c ∧ c.length = sz) (hob : Ay ob) (hk : G Tryz.prog n F Q todo' ((t,gD g (.ip e c 0)) :: env) st ids) : G Tryz.prog n F Q todo env st ids := Ff Ap h hc hob hk
end
def CZ : Ty → List Ty
 | .mk _ _ _ ps => ps
def EK (b : Str × Ty) : List V := .str b.1 :: dTyc b.2
@[simp] theorem dBind_length (b : Str × Ty) : (EK b).length = 5 := by simp [EK]
def AD (l : List (Str × Ty)) : List (List V) := l.map EK
@[simp] theorem dBinds_length (l : List (Str × Ty)) : (AD l).length = l.length := by simp [AD]
theorem HP (a b : List (Str × Ty)) : AD (a ++ b) = AD a ++ AD b := by simp [AD]
mutual
def AJ : Ty → Ty → List (Str × Ty) × Bool
 | .mk f n x ps,v => if f = 1 then ([],true) else if f = 2 then ([(x,v)],true) else if BV (B6 (.mk f n x ps)) v = false then ([],false) else A7 ps (CZ v)
def A7 : List Ty → List Ty → List (Str × Ty) × Bool
 | [],_ => ([],true)
 | _ :: _,[] => ([],true)
 | p :: r,q :: s => bif (AJ p q).2 && (A7 r s).2 then ((AJ p q).1 ++ (A7 r s).1,true) else ([],false)
end
mutual
def GA : Ty → Ty → Bool
 | .mk f n x ps,v => decide (f = 1) || decide (f = 2) || !BV (B6 (.mk f n x ps)) v || (decide (ps.length ≤ (CZ v).length) && G9 ps (CZ v))
def G9 : List Ty → List Ty → Bool
 | [],_ => true
 | _ :: _,[] => true
 | p :: r,q :: s => GA p q && G9 r s
end
mutual
theorem If : ∀ p v : Ty,(AJ p v).1.length ≤ Ak p
 | .mk f n x ps,v => by
  simp only [AJ,Ak]
  have := KG ps (CZ v)
  split
  ·simp
  ·split
   ·simp
   ·split <;> simp;omega
theorem KG : ∀ ps vs : List Ty,(A7 ps vs).1.length ≤ Ag ps
 | [],_ => by simp [A7]
 | _ :: _,[] => by simp [A7]
 | p :: r,q :: s => by
  have h1 := If p q
  have h2 := KG r s
  simp only [A7,Ag]
  cases (AJ p q).2 && (A7 r s).2
  ·simp
  ·simp;omega
end
theorem HI : ∀ ps vs : List Ty,(A7 ps vs).2 = false → (A7 ps vs).1 = []
 | [],_,h => by simp [A7] at h
 | _ :: _,[],h => by simp [A7] at h
 | p :: r,q :: s,h => by
  simp only [A7] at h ⊢
  cases hc : (AJ p q).2 && (A7 r s).2
  ·simp
  ·rw [hc] at h;cases h
theorem OZ : ∀ p v : Ty,(AJ p v).2 = false → (AJ p v).1 = []
 | .mk f n x ps,v,h => by
  simp only [AJ] at h ⊢
  split at h
  ·cases h
  ·split at h
   ·cases h
   ·split at h
    ·simp [*]
    ·rename_i h1 h2 h3
     simp only [h1,h2,h3,if_false]
     exact HI _ _ h
def IT (a b : List (Str × Ty) × Bool) : List (Str × Ty) × Bool := bif b.2 then (a.1 ++ b.1,true) else ([],false)
theorem Q2 (ps vs : List Ty) : A7 ps vs = IT ([],true) (A7 ps vs) := by
 have := HI ps vs
 generalize A7 ps vs = r at *
 obtain ⟨a,b⟩ := r
 cases b with
 | false => simp at this;simp [IT,this]
 | true => simp [IT]
theorem Sx (a : List (Str × Ty)) (b c : List (Str × Ty) × Bool) (hb : b.2 = true) : IT (a,true) (bif b.2 && c.2 then (b.1 ++ c.1,true) else ([],false)) = IT (a ++ b.1,true) c := by
 obtain ⟨b1,b2⟩ := b
 obtain ⟨c1,c2⟩ := c
 simp only at hb
 subst hb
 cases c2 <;> simp [IT]
set_option maxHeartbeats 1000000 in
theorem MY : ∀ p v : Ty,Ak p ≤ 1000000 → GA p v = true → PureC Tryz.prog 14 [.agg (dTyc p),.agg (dTyc v)] (.tup [.sl (AD (AJ p v).1),.bool (AJ p v).2])
 | .mk f n x ps,.mk g m z vs,hN,hok => by
  have hH := UZ (.mk f n x ps)
  have hS := K7 (B6 (.mk f n x ps)) (.mk g m z vs)
  simp only [Ak] at hN
  refine Az fun hv => ?_
  simp [Bh,CP,dTyc,maxLen] at hv
  simp only [GA,CZ] at hok
  simp only [AJ,CZ]
  generalize hb : BV (B6 (.mk f n x ps)) (.mk g m z vs) = b at *
  refine Ae Ap Tryz.func14 (by decide +kernel) rfl [1,2,3,4,5,6,7] rfl rfl ?_
  refine bg [] rfl (by simp) ?_
  by_cases h1 : f = 1
  ·subst h1
   refine Aa rfl (fun h => ?_) (fun h => by simp at h)
   refine bd [] rfl (by simp) ?_
   exact Ab ⟨_,rfl,tV rfl,trivial⟩
  rw [if_neg h1]
  refine Aa rfl (fun h => absurd (by simpa using h) h1) (fun h => ?_)
  clear h
  refine bd [] rfl (by simp) ?_
  by_cases h2 : f = 2
  ·subst h2
   refine Aa rfl (fun h => ?_) (fun h => by simp at h)
   refine bd [] rfl (by simp) ?_
   exact Ab ⟨_,rfl,tV rfl,trivial⟩
  rw [if_neg h2]
  refine Aa rfl (fun h => absurd (by simpa using h) h2) (fun h => ?_)
  clear h
  refine bd [] rfl (by simp) ?_
  refine Ac rfl (fun _ => hH) (by simp) ?_
  refine bg [] rfl (by simp) ?_
  refine Ac rfl (fun _ => hS) (by simp) ?_
  refine bg [] rfl (by simp;rfl) ?_
  cases b with
  | false =>
   refine Aa rfl (fun h => ?_) (fun h => by simp at h)
   refine bd [] rfl (by simp) ?_
   exact Ab ⟨_,rfl,tV rfl,trivial⟩
  | true =>
  refine Aa rfl (fun h => by simp at h) (fun h => ?_)
  clear h
  simp only [h1,h2,decide_false,Bool.false_or,Bool.not_true,Bool.and_eq_true,decide_eq_true_eq] at hok
  obtain ⟨hlen,hok⟩ := hok
  rw [if_neg (by simp)]
  refine bd [] rfl (by simp) ?_
  refine Fg (e := 60) (sz := 5) 6 3 (by decide) rfl ?_
  refine Ah (fun y : Nat × List (Str × Ty) => [(7,.imm (.int .i64 y.1)),(6,.own 3 (AD y.2).length),(2,.ref 1 0),(3,.ref 2 0)])
   (fun y => [(3,some (.row 60 5 (AD y.2))),(1,some (.immb 50 4 (dTyc (.mk f n x ps)))),(2,some (.immb 33 4 (dTyc (.mk g m z vs))))]) [4,5,6,7] (fun y => ps.length - y.1)
   (fun y => y.1 ≤ ps.length ∧ G9 (ps.drop y.1) (vs.drop y.1) = true ∧ A7 ps vs = IT (y.2,true) (A7 (ps.drop y.1) (vs.drop y.1)) ∧ y.2.length ≤ Ag (ps.take y.1)) (0,[])
   ⟨Nat.zero_le _,hok,Q2 ps vs,by simp⟩ ⟨rfl,rfl,rfl,rfl,trivial⟩ ⟨rfl,rfl,rfl,trivial⟩ rfl fun y hi ih => ?_
  obtain ⟨i,l⟩ := y
  obtain ⟨hi1,hi2,hi3,hi4⟩ := hi
  simp only at hi1 hi2 hi3 hi4
  refine bd [] rfl (by simp) ?_
  refine Aa rfl (fun h => ?_) (fun h => ?_)
  ·simp at h
   obtain ⟨p,hp⟩ := Ai h
   have hlen2 : ps.length ≤ vs.length := of_decide_eq_true hlen
   obtain ⟨q,hq⟩ := Ai (l := vs) (i := i) (by omega)
   rw [Aj hp,Aj hq] at hi2 hi3
   simp only [G9,Bool.and_eq_true] at hi2
   simp only [A7] at hi3
   have hnt := Bk hp
   have e : Ag (ps.take (i + 1)) = Ag (ps.take i) + Ak p := by rw [AM hp,AO];simp [Ag]
   have hml := If p q
   refine bd [] rfl (by simp) ?_
   refine bi rfl (c := dTyc p) (fun _ => ⟨by simp,by simpa using Ao hp,by simp⟩) (by simp) ?_
   refine bg [] rfl (by simp) ?_
   refine bi rfl (c := dTyc q) (fun _ => ⟨by simp,by simpa using Ao hq,by simp⟩) (by simp) ?_
   refine bg [] rfl (by simp) ?_
   refine Ac rfl (fun _ => MY p q (by omega) hi2.1) (by simp) ?_
   refine bg [] rfl (by simp;rfl) ?_
   refine Aa rfl (fun h => ?_) (fun h => ?_)
   ·refine bd [] rfl (by simp) ?_
    simp at h
    rw [h] at hi3
    rw [hi3]
    exact Ab ⟨_,rfl,tV rfl,trivial⟩
   ·have h : (AJ p q).2 = true := by simpa using h
    rw [Sx _ _ _ h] at hi3
    refine bd [] rfl (by simp) ?_
    refine BI Ap rfl ⟨fun c hc => by simp only [AD,List.mem_map] at hc;obtain ⟨b,_,rfl⟩ := hc;simp,by simp [maxLen];omega,by simp;omega,trivial⟩ ?_
    refine bg [] rfl (by simp) ?_
    refine B2 3 4 rfl ?_
    exact Ad (ih (i + 1,l ++ (AJ p q).1) (by simp only;omega) ⟨by simp only;omega,hi2.2,hi3,by simp only [List.length_append];omega⟩) ⟨Aq (Bq (by simp only;omega) (by simp only;omega)),by rw [HP];rfl,rfl,rfl,trivial⟩ ⟨by rw [HP];rfl,rfl,rfl,trivial⟩ rfl
  ·simp at h
   refine Ar rfl ?_
   refine BL 3 rfl ?_
   refine bd [] rfl (by simp) ?_
   rw [(List.drop_eq_nil_of_le (by omega) : ps.drop i = [])] at hi3
   rw [hi3,show IT (l,true) (A7 [] (vs.drop i)) = (l,true) by simp [A7,IT]]
   exact Ab ⟨_,rfl,tV rfl,trivial⟩
termination_by p => SizeOf.sizeOf p
decreasing_by
 have := List.sizeOf_lt_of_mem (List.mem_of_getElem? hp)
 simp_wf
 omega
end Go.Hk
namespace Go.Hk
open Go.Proofs
def Fs (v : Ty) : Nat → List Ty → Int
 | _,[] => -1
 | i,p :: r => bif (AJ p v).2 then (i : Int) else Fs v (i + 1) r
theorem V4 (c : Cse) (v : Ty) (h : ∀ p ∈ c.rows,Ak p ≤ 1000000 ∧ GA p v = true) : PureC Tryz.prog 12 [.agg (dCse c),.agg (dTyc v)] (.int .i64 (Fs v 0 c.rows)) := by
 obtain ⟨ds,⟨c1,c2,c3,c4⟩,rows⟩ := c
 obtain ⟨g,m,z,vs⟩ := v
 simp only at h
 refine Az fun hv => ?_
 simp [Bh,CP,dTyc,dCse,maxLen] at hv
 refine Ae Ap Tryz.func12 (by decide +kernel) rfl [1,2,3,4,5,6] rfl rfl ?_
 refine bg [] rfl (by simp) ?_
 refine Ah (fun i : Nat => [(5,.imm (.int .i64 i)),(2,.ref 1 0),(3,.ref 2 0)]) (fun _ => [(1,some (.immb 29 6 (dCse ⟨ds,.mk c1 c2 c3 c4,rows⟩))),(2,some (.immb 33 4 (dTyc (.mk g m z vs))))]) [3,4,5,6] (fun i => rows.length - i)
  (fun i => i ≤ rows.length ∧ Fs (.mk g m z vs) 0 rows = Fs (.mk g m z vs) i (rows.drop i)) 0 ⟨Nat.zero_le _,rfl⟩ ⟨rfl,rfl,rfl,trivial⟩ ⟨rfl,rfl,trivial⟩ rfl fun i hi ih => ?_
 obtain ⟨hi1,hi2⟩ := hi
 refine bd [] rfl (by simp) ?_
 refine Aa rfl (fun h' => ?_) (fun h' => ?_)
 ·simp at h'
  obtain ⟨p,hp⟩ := Ai h'
  rw [Aj hp] at hi2
  simp only [Fs] at hi2
  have hpm := h p (List.mem_of_getElem? hp)
  refine bd [] rfl (by simp) ?_
  refine bi rfl (c := dTyc p) (fun _ => ⟨by simp,by simpa using Ao hp,by simp⟩) (by simp) ?_
  refine bg [] rfl (by simp) ?_
  refine Ac rfl (fun _ => MY p (.mk g m z vs) hpm.1 hpm.2) (by simp) ?_
  refine bg [] rfl (by simp;rfl) ?_
  refine Aa rfl (fun h => ?_) (fun h => ?_)
  ·refine bd [] rfl (by simp) ?_
   rw [show (AJ p (.mk g m z vs)).2 = true from h] at hi2
   rw [hi2]
   exact Ab ⟨_,rfl,tV rfl,trivial⟩
  ·rw [show (AJ p (.mk g m z vs)).2 = false by simpa using h] at hi2
   refine bd [] rfl (by simp) ?_
   exact Ad (ih (i + 1) (by omega) ⟨by omega,hi2⟩) ⟨Aq (Bq (by omega) (by omega)),rfl,rfl,trivial⟩ ⟨rfl,rfl,trivial⟩ rfl
 ·simp at h'
  refine Ar rfl ?_
  refine bd [] rfl (by simp) ?_
  rw [hi2,List.drop_eq_nil_of_le (by omega)]
  exact Ab ⟨_,rfl,tV rfl,trivial⟩
def TK : Ty → List V
 | .mk s n x _ => [.int .i64 s,.int .i64 n,.str x]
theorem L6 : ∀ p : Ty,PureC Tryz.prog 79 [.agg (dTyc p)] (.agg (TK (B6 p)))
 | .mk s n x ks => by
  refine Ae Ap Tryz.func79 (by decide +kernel) rfl [1,2,3] rfl rfl ?_
  simp only [B6]
  refine bg [] rfl (by simp) ?_
  by_cases h3 : s = 3
  ·subst h3
   refine Aa rfl (fun h => ?_) (fun h => by simp at h)
   refine bd [] rfl (by simp) ?_
   exact Ab ⟨_,rfl,tV rfl,trivial⟩
  rw [if_neg h3]
  refine Aa rfl (fun h => absurd (by simpa using h) h3) (fun h => ?_)
  clear h
  refine bd [] rfl (by simp) ?_
  by_cases h4 : s = 4
  ·subst h4
   refine Aa rfl (fun h => ?_) (fun h => by simp at h)
   refine bd [] rfl (by simp) ?_
   exact Ab ⟨_,rfl,tV rfl,trivial⟩
  rw [if_neg h4]
  refine Aa rfl (fun h => absurd (by simpa using h) h4) (fun h => ?_)
  clear h
  refine bd [] rfl (by simp) ?_
  by_cases h5 : s = 5
  ·subst h5
   refine Aa rfl (fun h => ?_) (fun h => by simp at h)
   refine bd [] rfl (by simp) ?_
   exact Ab ⟨_,rfl,tV rfl,trivial⟩
  rw [if_neg h5]
  refine Aa rfl (fun h => absurd (by simpa using h) h5) (fun h => ?_)
  clear h
  refine bd [] rfl (by simp) ?_
  exact Ab ⟨_,rfl,tV rfl,trivial⟩
theorem T0 : ∀ v : Ty,PureC Tryz.prog 80 [.agg (dTyc v)] (.agg (TK v))
 | .mk s n x ks => by
  refine Ae Ap Tryz.func80 (by decide +kernel) rfl [1,2,3] rfl rfl ?_
  refine bg [] rfl (by simp) ?_
  exact Ab ⟨_,rfl,tV rfl,trivial⟩
theorem VQ (c : Cse) (r : Int) : PureC Tryz.prog 49 [.agg (dCse c),.int .i64 r] (.bool (decide (0 ≤ r) && decide (r < c.rows.length))) := by
 obtain ⟨ds,⟨s,n,x,ps⟩,rows⟩ := c
 refine Ae Ap Tryz.func49 (by decide +kernel) rfl [1,2,3] rfl rfl ?_
 refine bg [] rfl (by simp [Af]) ?_
 refine Ab ⟨_,rfl,tV (congrArg _ ?_),trivial⟩
 simp
theorem NQ : ∀ p : Ty,Ak p ≤ 1000000 → PureC Tryz.prog 94 [.agg (dTyc p)] (.int .i64 (Ak p : Int))
 | .mk s n x ps,hN => by
  simp only [Ak] at hN
  refine Az fun hv => ?_
  simp [Bh,CP,dTyc,maxLen] at hv
  refine Ae Ap Tryz.func94 (by decide +kernel) rfl [1,2,3] rfl rfl ?_
  refine bg [] rfl (by simp) ?_
  refine Ah (fun i : Nat => [(9,.imm (.int .i64 i)),(8,.imm (.int .i64 ps.length)),(7,.imm (.sl (Bg ps))),(3,.imm (.int .i64 ((1 + Ag (ps.take i) : Nat) : Int)))]) (fun _ => []) [2,3] (fun i => ps.length - i)
   (fun i => i ≤ ps.length) 0 (Nat.zero_le _) ⟨rfl,Aq (by simp),rfl,rfl,trivial⟩ trivial rfl fun i hi ih => ?_
  refine bd [] rfl (by simp) ?_
  refine Aa rfl (fun h => ?_) (fun h => ?_)
  ·simp at h
   obtain ⟨t,ht⟩ := Ai h
   have e : Ag (ps.take (i + 1)) = Ag (ps.take i) + Ak t := by rw [AM ht,AO];simp [Ag]
   have hb := Bk ht
   refine bd [] rfl (by simp) ?_
   refine bi rfl (c := dTyc t) (fun _ => ⟨by simp,by simpa using Ao ht,by simp⟩) (by simp) ?_
   refine bg [] rfl (by simp) ?_
   refine Ac rfl (fun _ => NQ t (by omega)) (by simp) ?_
   refine bg [] rfl (by simp) ?_
   exact Ad (ih (i + 1) (by omega) (by omega)) ⟨Aq (Bq (by omega) (by omega)),rfl,rfl,Aq (by rw [e,Bq (by omega) (by omega)];omega),trivial⟩ trivial rfl
  ·simp at h
   refine Ar rfl ?_
   refine bd [] rfl (by simp) ?_
   rw [List.take_of_length_le (by omega)]
   refine Ab ⟨_,rfl,tV ?_,trivial⟩
   simp [Ak]
termination_by p => SizeOf.sizeOf p
decreasing_by
 have := List.sizeOf_lt_of_mem (List.mem_of_getElem? ht)
 simp_wf
 omega
theorem L4 : ∀ (t : Ty) (l d : Int),-9223372036854775808 ≤ l → l ≤ 9223372036854775807 → -9223372036854775807 ≤ d → d ≤ 9223372036854775807 → PureC Tryz.prog 96 [.agg (dTyc t),.int .i64 l,.int .i64 d] (.int .i64 (Bd t l d))
 | .mk op n x ks,l,d,hl0,hl1,hd0,hd1 => by
  refine Az fun hv => ?_
  simp [Bh,CP,dTyc,maxLen] at hv
  refine Ae Ap Tryz.func96 (by decide +kernel) rfl [1,2,3] rfl rfl ?_
  refine bg [] rfl (by simp [Af]) ?_
  refine Aa rfl (fun h => ?_) (fun h => ?_)
  ·refine bd [] rfl (by simp) ?_
   refine Ab ⟨_,rfl,tV (congrArg _ ?_),trivial⟩
   simp at h
   simp only [Bd];rw [if_pos (by grind)]
  have h : ¬ (l < 1 ∨ d < 1) := by simp at h;grind
  refine bd [] rfl (by simp) ?_
  refine Ah (fun x : Nat × Int => [(20,.imm (.int .i64 x.1)),(19,.imm (.int .i64 ks.length)),(18,.imm (.sl (Bg ks))),(1,.imm (.int .i64 x.2)),(2,.imm (.int .i64 d))]) (fun _ => []) [2,3] (fun x => ks.length - x.1)
   (fun y => y.1 ≤ ks.length ∧ Bd (.mk op n x ks) l d = B4 (ks.drop y.1) y.2 (d - 1) ∧ 0 ≤ y.2 ∧ y.2 < l) (0,l - 1)
   ⟨Nat.zero_le _,by simp only [Bd,List.drop_zero];rw [if_neg h],by simp only;omega,by simp only;omega⟩ ⟨rfl,Aq (by simp),rfl,Aq (Bq (by omega) (by omega)),rfl,trivial⟩ trivial rfl fun y hi ih => ?_
  obtain ⟨i,m⟩ := y
  obtain ⟨hi1,hi2,hi3,hi4⟩ := hi
  simp only at hi1 hi2 hi3 hi4
  refine bd [] rfl (by simp) ?_
  refine Aa rfl (fun h => ?_) (fun h => ?_)
  ·simp at h
   obtain ⟨t,ht⟩ := Ai (l := ks) (i := i) (by omega)
   rw [Aj ht] at hi2
   simp only [B4] at hi2
   rw [if_pos hi3] at hi2
   refine bd [] rfl (by simp) ?_
   refine bi rfl (c := dTyc t) (fun _ => ⟨by simp,by simpa using Ao ht,by simp⟩) (by simp) ?_
   refine bg [] rfl (by simp) ?_
   have hw : IntKind.i64.wrap (d - 1) = d - 1 := Bq (by omega) (by omega)
   refine Ac rfl (v := .int .i64 (Bd t m (d - 1))) (fun _ => by rw [hw];exact L4 t m (d - 1) (by omega) (by omega) (by omega) (by omega)) (by simp) ?_
   refine bg [] rfl (by simp) ?_
   have hb := Hh t m (d - 1)
   refine Aa rfl (fun h' => ?_) (fun h' => ?_)
   ·simp at h'
    refine Ar rfl ?_
    refine bd [] rfl (by simp) ?_
    refine Ab ⟨_,rfl,tV (congrArg _ ?_),trivial⟩
    rw [hi2]
    have : Bd t m (d - 1) = -1 := by omega
    rw [this]
    cases ks.drop (i + 1) with
    | nil => rfl
    | cons a b => simp [B4]
   ·simp at h'
    refine bd [] rfl (by simp) ?_
    exact Ad (ih (i + 1,Bd t m (d - 1)) (by simp only;omega) ⟨by simp only;omega,hi2,by simp only;omega,by simp only;omega⟩) ⟨Aq (Bq (by omega) (by omega)),rfl,rfl,rfl,rfl,trivial⟩ trivial rfl
  ·refine Ar rfl ?_
   refine bd [] rfl (by simp) ?_
   refine Ab ⟨_,rfl,tV (congrArg _ ?_),trivial⟩
   simp at h
   rw [hi2,List.drop_eq_nil_of_le (by omega)];simp [B4]
termination_by t => SizeOf.sizeOf t
decreasing_by
 have := List.sizeOf_lt_of_mem (List.mem_of_getElem? ht)
 simp_wf
 omega
def Dm : V := .iface 239 (.agg [])
def YU : TT := VI ++ [
 (239,⟨.struct [],true,0,0,[]⟩),
 (192,⟨.struct [(0,3),(1,3)],true,2,16,[.imm (.int .i64 0),.imm (.int .i64 0)]⟩),
 (1,⟨.func,false,1,8,[.imm .nilfn]⟩)]
theorem Ax : TTok Tryz.prog YU := .of_eq (l := [4,3,9,141,26,50,138,27,5,24,23,57,139,48,143,147,75,22,145,72,70,38,239,192,1]) (by kernel_rfl)
section
variable {n : Nat} {F : List Nat} {Q : DQ} {env env' : Env} {st st' : St} {ids ids' : List Nat} {k todo : List DI} {ob : List Prop}
theorem td (path : List Pt) (h : run YU n 300 path todo env st ids [] = .at k env' st' ids' ob) (hob : Ay ob) (hd : G Tryz.prog n F Q k env' st' ids') : DGo Tryz.prog n F Q todo env st ids := KU Ax mixed 300 path h hob hd
theorem tg (path : List Pt) (h : run YU n 300 path todo env st ids [] = .at k env' st' ids' ob) (hob : Ay ob) (hd : G Tryz.prog n F Q k env' st' ids') : G Tryz.prog n F Q todo env st ids := Ja Ax mixed 300 path h hob hd
theorem ti {es : List (List V)} {m : Int} {sz : Nat} {e : TypeId} {g : Option (Bool × Bool)} {ob : List Prop} {t : Nat} {todo' : List DI} {c : List V} (h : Nf YU n env todo = some ⟨es,m,sz,e,g,ob,some t,todo'⟩)
  (hc : Af g → 0 ≤ m ∧ es[m.toNat]? = some c ∧ c.length = sz) (hob : Ay ob) (hk : G Tryz.prog n F Q todo' ((t,gD g (.ip e c 0)) :: env) st ids) : G Tryz.prog n F Q todo env st ids := Ff Ax h hc hob hk
end
theorem VD : PureC Tryz.prog 155 [.bool true] (.tup []) := by
 refine Ae Ax Tryz.func155 (by decide +kernel) rfl [1,2] rfl rfl ?_
 refine tg [.a] rfl (by simp) ?_
 exact Bu ⟨_,rfl,rfl,trivial⟩
theorem XE : AP Tryz.prog 155 [.imm (.bool false)] [] (.pan Dm) := by
 refine Ae Ax Tryz.func155 (by decide +kernel) rfl [1,2] rfl rfl ?_
 refine tg [.a] rfl (by simp) ?_
 exact Vj rfl rfl rfl rfl
end Go.Hk
namespace Go.Hk
open Go.Proofs
theorem AA (b : Bool) (h : b = true) : PureC Tryz.prog 155 [.bool b] (.tup []) := by subst h;exact VD
theorem AV (b : Bool) (h : b = false) : AP Tryz.prog 155 [.imm (.bool b)] [] (.pan Dm) := by subst h;exact XE
def Bm (a b : Int) : Blk := .immb 192 2 [.int .i64 a,.int .i64 b]
theorem Ej (n d x : Int) (h0 : 1 ≤ n) (h1 : n ≤ 4611686018427387904) (hx : x ≤ d) : AP Tryz.prog 154 [.ref 1 0,.imm (.int .i64 x)] [(1,some (Bm n d))] (.ret (.imm (.tup [])) [(1,some (Bm (n - 1) d))]) := by
 have hw : IntKind.i64.wrap (n - 1) = n - 1 := Bq (by omega) (by omega)
 refine Ae Ax Tryz.func154 (by decide +kernel) rfl [2,3] rfl rfl ?_
 refine tg [] rfl (by simp) ?_
 refine Ac rfl (fun _ => AA _ (by simp [hw];omega)) (by simp) ?_
 refine tg [] rfl (by simp) ?_
 refine Bu ⟨_,rfl,rfl,?_⟩
 simp only [hw]
 exact ⟨rfl,trivial⟩
theorem LF (n d x : Int) (h0 : -1 ≤ n) (h1 : n ≤ 4611686018427387904) (hx : n < 1 ∨ d < x) : AP Tryz.prog 154 [.ref 1 0,.imm (.int .i64 x)] [(1,some (Bm n d))] (.pan Dm) := by
 have hw : IntKind.i64.wrap (n - 1) = n - 1 := Bq (by omega) (by omega)
 refine Ae Ax Tryz.func154 (by decide +kernel) rfl [2,3] rfl rfl ?_
 refine tg [] rfl (by simp) ?_
 exact An [] rfl (by simp) (AV _ (by simp [hw];omega)) trivial rfl rfl
theorem DA {ps : List Ty} {i : Nat} {t : Ty} (h : ps[i]? = some t) : Ag (ps.drop i) = Ak t + Ag (ps.drop (i + 1)) := by rw [Aj h];rfl
theorem Ht : ∀ (t : Ty) (n : Int),(Ak t : Int) ≤ n → n ≤ 4611686018427387904 → AP Tryz.prog 151 [.ref 1 0,.imm (.agg (dTyc t))] [(1,some (Bm n 0))] (.ret (.imm (.tup [])) [(1,some (Bm (n - Ak t) 0))])
 | .mk s m x ps,n,h0,h1 => by
  refine C7 1 rfl fun hok => ?_
  have hv : ps.length ≤ 9223372036854775807 := by
   simp [Bh,CP,dTyc,maxLen] at hok
   have := hok.1
   omega
  refine Ae Ax Tryz.func151 (by decide +kernel) rfl [2,3,4] rfl rfl ?_
  have hN : (1 : Int) + Ag ps ≤ n := by simp only [Ak] at h0;omega
  refine tg [] rfl (by simp) ?_
  refine Aw (fr := []) [(1,1)] [] rfl (by simp) (Ej n 0 0 (by omega) h1 (by decide)) ⟨⟨rfl,rfl,rfl⟩,trivial⟩ rfl rfl rfl rfl ?_
  refine tg [] rfl (by simp) ?_
  refine Ah (fun i : Nat => [(11,.imm (.int .i64 i)),(10,.imm (.int .i64 ps.length)),(9,.imm (.sl (Bg ps))),(0,.ref 1 0)]) (fun i => [(1,some (Bm (n - 1 - Ag (ps.take i)) 0))]) [2,3,4] (fun i => ps.length - i)
   (fun i => i ≤ ps.length) 0 (Nat.zero_le _) ⟨rfl,Aq (by simp),rfl,rfl,trivial⟩ ⟨by simp [Ag];rfl,trivial⟩ rfl fun i hi ih => ?_
  refine td [] rfl (by simp) ?_
  refine Aa rfl (fun h => ?_) (fun h => ?_)
  ·simp at h
   obtain ⟨t,ht⟩ := Ai h
   have hnt := Bk ht
   have hnd := DA ht
   have htk : (Ag (ps.take (i + 1)) : Int) = Ag (ps.take i) + Ak t := by rw [AM ht,AO];simp [Ag]
   refine td [] rfl (by simp) ?_
   refine ti rfl (c := dTyc t) (fun _ => ⟨by simp,by simpa using Ao ht,by simp⟩) (by simp) ?_
   refine tg [] rfl (by simp) ?_
   refine Aw (fr := []) [(1,1)] [] rfl (by simp) (Ht t (n - 1 - Ag (ps.take i)) (by omega) (by omega)) ⟨⟨rfl,rfl,rfl⟩,trivial⟩ rfl rfl rfl rfl ?_
   refine tg [] rfl (by simp) ?_
   exact Ad (ih (i + 1) (by omega) (by omega)) ⟨Aq (Bq (by omega) (by omega)),rfl,rfl,rfl,trivial⟩ ⟨congrArg (fun z => Bm z 0) (by omega),trivial⟩ rfl
  ·refine td [] rfl (by simp) ?_
   simp at h
   refine Bu ⟨_,rfl,rfl,⟨?_,trivial⟩⟩
   rw [List.take_of_length_le (by omega)]
   simp only [Ak]
   exact congrArg (fun z => some (some (Bm z 0))) (by omega)
termination_by t => SizeOf.sizeOf t
decreasing_by
 all_goals
  have := List.sizeOf_lt_of_mem (List.mem_of_getElem? ht)
  simp_wf
  omega
theorem QF : ∀ (t : Ty) (n : Int),n < Ak t → -1 ≤ n → n ≤ 4611686018427387904 → AP Tryz.prog 151 [.ref 1 0,.imm (.agg (dTyc t))] [(1,some (Bm n 0))] (.pan Dm)
 | .mk s m x ps,n,h0,hm1,h1 => by
  refine C7 1 rfl fun hok => ?_
  have hv : ps.length ≤ 9223372036854775807 := by
   simp [Bh,CP,dTyc,maxLen] at hok
   have := hok.1
   omega
  refine Ae Ax Tryz.func151 (by decide +kernel) rfl [2,3,4] rfl rfl ?_
  have hN : n < (1 : Int) + Ag ps := by simp only [Ak] at h0;omega
  refine tg [] rfl (by simp) ?_
  by_cases hn : n < 1
  ·exact An [(1,1)] rfl (by simp) (LF n 0 0 (by omega) h1 (.inl hn)) ⟨⟨rfl,rfl,rfl⟩,trivial⟩ rfl rfl
  refine Aw (fr := []) [(1,1)] [] rfl (by simp) (Ej n 0 0 (by omega) h1 (by decide)) ⟨⟨rfl,rfl,rfl⟩,trivial⟩ rfl rfl rfl rfl ?_
  refine tg [] rfl (by simp) ?_
  refine Ah (fun i : Nat => [(11,.imm (.int .i64 i)),(10,.imm (.int .i64 ps.length)),(9,.imm (.sl (Bg ps))),(0,.ref 1 0)]) (fun i => [(1,some (Bm (n - 1 - Ag (ps.take i)) 0))]) [2,3,4] (fun i => ps.length - i)
   (fun i => i ≤ ps.length ∧ (Ag (ps.take i) : Int) ≤ n - 1 ∧ n - 1 < Ag (ps.take i) + Ag (ps.drop i)) 0 ⟨Nat.zero_le _,by simp [Ag];omega,by simp [Ag];omega⟩ ⟨rfl,Aq (by simp),rfl,rfl,trivial⟩ ⟨by simp [Ag];rfl,trivial⟩ rfl fun i hi ih => ?_
  refine td [] rfl (by simp) ?_
  refine Aa rfl (fun h => ?_) (fun h => ?_)
  ·simp at h
   obtain ⟨t,ht⟩ := Ai h
   have hnt := Bk ht
   have hnd := DA ht
   have htk : (Ag (ps.take (i + 1)) : Int) = Ag (ps.take i) + Ak t := by rw [AM ht,AO];simp [Ag]
   refine td [] rfl (by simp) ?_
   refine ti rfl (c := dTyc t) (fun _ => ⟨by simp,by simpa using Ao ht,by simp⟩) (by simp) ?_
   refine tg [] rfl (by simp) ?_
   by_cases hle : (Ak t : Int) ≤ n - 1 - Ag (ps.take i)
   ·refine Aw (fr := []) [(1,1)] [] rfl (by simp) (Ht t (n - 1 - Ag (ps.take i)) (by omega) (by omega)) ⟨⟨rfl,rfl,rfl⟩,trivial⟩ rfl rfl rfl rfl ?_
    refine tg [] rfl (by simp) ?_
    exact Ad (ih (i + 1) (by omega) ⟨by omega,by omega,by omega⟩) ⟨Aq (Bq (by omega) (by omega)),rfl,rfl,rfl,trivial⟩ ⟨congrArg (fun z => Bm z 0) (by omega),trivial⟩ rfl
   ·exact An [(1,1)] rfl (by simp) (QF t (n - 1 - Ag (ps.take i)) (by omega) (by omega) (by omega)) ⟨⟨rfl,rfl,rfl⟩,trivial⟩ rfl rfl
  ·exfalso
   simp at h
   have := hi.2
   rw [List.take_of_length_le (by omega),List.drop_eq_nil_of_le (by omega)] at this
   simp [Ag] at this
   omega
termination_by t => SizeOf.sizeOf t
decreasing_by
 all_goals
  have := List.sizeOf_lt_of_mem (List.mem_of_getElem? ht)
  simp_wf
  omega
theorem IY : ∀ (t : Ty) (n : Int),(Ak t : Int) ≤ n → n ≤ 4611686018427387904 → AP Tryz.prog 123 [.ref 1 0,.imm (.agg (dTyc t))] [(1,some (Bm n 0))] (.ret (.imm (.tup [])) [(1,some (Bm (n - Ak t) 0))])
 | .mk s m x ps,n,h0,h1 => by
  refine C7 1 rfl fun hok => ?_
  have hv : ps.length ≤ 9223372036854775807 := by
   simp [Bh,CP,dTyc,maxLen] at hok
   have := hok.1
   omega
  refine Ae Ax Tryz.func123 (by decide +kernel) rfl [2,3,4] rfl rfl ?_
  have hN : (1 : Int) + Ag ps ≤ n := by simp only [Ak] at h0;omega
  refine tg [] rfl (by simp) ?_
  refine Aw (fr := []) [(1,1)] [] rfl (by simp) (Ej n 0 0 (by omega) h1 (by decide)) ⟨⟨rfl,rfl,rfl⟩,trivial⟩ rfl rfl rfl rfl ?_
  refine tg [] rfl (by simp) ?_
  refine Ah (fun i : Nat => [(11,.imm (.int .i64 i)),(10,.imm (.int .i64 ps.length)),(9,.imm (.sl (Bg ps))),(0,.ref 1 0)]) (fun i => [(1,some (Bm (n - 1 - Ag (ps.take i)) 0))]) [2,3,4] (fun i => ps.length - i)
   (fun i => i ≤ ps.length) 0 (Nat.zero_le _) ⟨rfl,Aq (by simp),rfl,rfl,trivial⟩ ⟨by simp [Ag];rfl,trivial⟩ rfl fun i hi ih => ?_
  refine td [] rfl (by simp) ?_
  refine Aa rfl (fun h => ?_) (fun h => ?_)
  ·simp at h
   obtain ⟨t,ht⟩ := Ai h
   have hnt := Bk ht
   have hnd := DA ht
   have htk : (Ag (ps.take (i + 1)) : Int) = Ag (ps.take i) + Ak t := by rw [AM ht,AO];simp [Ag]
   refine td [] rfl (by simp) ?_
   refine ti rfl (c := dTyc t) (fun _ => ⟨by simp,by simpa using Ao ht,by simp⟩) (by simp) ?_
   refine tg [] rfl (by simp) ?_
   refine Aw (fr := []) [(1,1)] [] rfl (by simp) (IY t (n - 1 - Ag (ps.take i)) (by omega) (by omega)) ⟨⟨rfl,rfl,rfl⟩,trivial⟩ rfl rfl rfl rfl ?_
   refine tg [] rfl (by simp) ?_
   exact Ad (ih (i + 1) (by omega) (by omega)) ⟨Aq (Bq (by omega) (by omega)),rfl,rfl,rfl,trivial⟩ ⟨congrArg (fun z => Bm z 0) (by omega),trivial⟩ rfl
  ·refine td [] rfl (by simp) ?_
   simp at h
   refine Bu ⟨_,rfl,rfl,⟨?_,trivial⟩⟩
   rw [List.take_of_length_le (by omega)]
   simp only [Ak]
   exact congrArg (fun z => some (some (Bm z 0))) (by omega)
termination_by t => SizeOf.sizeOf t
decreasing_by
 all_goals
  have := List.sizeOf_lt_of_mem (List.mem_of_getElem? ht)
  simp_wf
  omega
theorem TL : ∀ (t : Ty) (n : Int),n < Ak t → -1 ≤ n → n ≤ 4611686018427387904 → AP Tryz.prog 123 [.ref 1 0,.imm (.agg (dTyc t))] [(1,some (Bm n 0))] (.pan Dm)
 | .mk s m x ps,n,h0,hm1,h1 => by
  refine C7 1 rfl fun hok => ?_
  have hv : ps.length ≤ 9223372036854775807 := by
   simp [Bh,CP,dTyc,maxLen] at hok
   have := hok.1
   omega
  refine Ae Ax Tryz.func123 (by decide +kernel) rfl [2,3,4] rfl rfl ?_
  have hN : n < (1 : Int) + Ag ps := by simp only [Ak] at h0;omega
  refine tg [] rfl (by simp) ?_
  by_cases hn : n < 1
  ·exact An [(1,1)] rfl (by simp) (LF n 0 0 (by omega) h1 (.inl hn)) ⟨⟨rfl,rfl,rfl⟩,trivial⟩ rfl rfl
  refine Aw (fr := []) [(1,1)] [] rfl (by simp) (Ej n 0 0 (by omega) h1 (by decide)) ⟨⟨rfl,rfl,rfl⟩,trivial⟩ rfl rfl rfl rfl ?_
  refine tg [] rfl (by simp) ?_
  refine Ah (fun i : Nat => [(11,.imm (.int .i64 i)),(10,.imm (.int .i64 ps.length)),(9,.imm (.sl (Bg ps))),(0,.ref 1 0)]) (fun i => [(1,some (Bm (n - 1 - Ag (ps.take i)) 0))]) [2,3,4] (fun i => ps.length - i)
   (fun i => i ≤ ps.length ∧ (Ag (ps.take i) : Int) ≤ n - 1 ∧ n - 1 < Ag (ps.take i) + Ag (ps.drop i)) 0 ⟨Nat.zero_le _,by simp [Ag];omega,by simp [Ag];omega⟩ ⟨rfl,Aq (by simp),rfl,rfl,trivial⟩ ⟨by simp [Ag];rfl,trivial⟩ rfl fun i hi ih => ?_
  refine td [] rfl (by simp) ?_
  refine Aa rfl (fun h => ?_) (fun h => ?_)
  ·simp at h
   obtain ⟨t,ht⟩ := Ai h
   have hnt := Bk ht
   have hnd := DA ht
   have htk : (Ag (ps.take (i + 1)) : Int) = Ag (ps.take i) + Ak t := by rw [AM ht,AO];simp [Ag]
   refine td [] rfl (by simp) ?_
   refine ti rfl (c := dTyc t) (fun _ => ⟨by simp,by simpa using Ao ht,by simp⟩) (by simp) ?_
   refine tg [] rfl (by simp) ?_
   by_cases hle : (Ak t : Int) ≤ n - 1 - Ag (ps.take i)
   ·refine Aw (fr := []) [(1,1)] [] rfl (by simp) (IY t (n - 1 - Ag (ps.take i)) (by omega) (by omega)) ⟨⟨rfl,rfl,rfl⟩,trivial⟩ rfl rfl rfl rfl ?_
    refine tg [] rfl (by simp) ?_
    exact Ad (ih (i + 1) (by omega) ⟨by omega,by omega,by omega⟩) ⟨Aq (Bq (by omega) (by omega)),rfl,rfl,rfl,trivial⟩ ⟨congrArg (fun z => Bm z 0) (by omega),trivial⟩ rfl
   ·exact An [(1,1)] rfl (by simp) (TL t (n - 1 - Ag (ps.take i)) (by omega) (by omega) (by omega)) ⟨⟨rfl,rfl,rfl⟩,trivial⟩ rfl rfl
  ·exfalso
   simp at h
   have := hi.2
   rw [List.take_of_length_le (by omega),List.drop_eq_nil_of_le (by omega)] at this
   simp [Ag] at this
   omega
termination_by t => SizeOf.sizeOf t
decreasing_by
 all_goals
  have := List.sizeOf_lt_of_mem (List.mem_of_getElem? ht)
  simp_wf
  omega
theorem O6 : ∀ (ts : List Tm) (l d : Int),l < 0 → AU ts l d < 0
 | [],l,d,h => h
 | t :: r,l,d,h => by simp only [AU];rw [if_neg (by omega)];exact h
theorem Hs : ∀ (t : Tm) (n dp x : Int),0 ≤ n → n ≤ 4611686018427387904 → 0 ≤ dp → dp ≤ 1000000 → 0 ≤ x → x ≤ 1000001 → 0 ≤ AH t n (dp - x + 1) → AP Tryz.prog 183 [.ref 1 0,.imm (.agg (Bz t)),.imm (.int .i64 x)] [(1,some (Bm n dp))] (.ret (.imm (.tup [])) [(1,some (Bm (AH t n (dp - x + 1)) dp))])
 | .mk op nn tx ks ps,n,dp,x,h0,h1,hd0,hd1,hx0,hx1,hw => by
  refine C7 1 rfl fun hok => ?_
  have hv : ks.length ≤ 9223372036854775807 := by
   simp [Bh,CP,Bz,maxLen] at hok
   have := hok.1
   omega
  refine Ae Ax Tryz.func183 (by decide +kernel) rfl [2,3,4] rfl rfl ?_
  have hst : ¬ (n < 1 ∨ dp - x + 1 < 1) → AH (.mk op nn tx ks ps) n (dp - x + 1) = AU ks (n - 1) (dp - x) := fun h => by
   simp only [AH];rw [if_neg h];congr 1;omega
  refine tg [] rfl (by simp) ?_
  by_cases hs : n < 1 ∨ dp - x + 1 < 1
  ·exfalso
   simp only [AH] at hw
   rw [if_pos hs] at hw
   omega
  have hs' : 1 ≤ n ∧ x ≤ dp := by omega
  refine Aw (fr := []) [(1,1)] [] rfl (by simp) (Ej n dp x (by omega) h1 (by omega)) ⟨⟨rfl,rfl,rfl⟩,trivial⟩ rfl rfl rfl rfl ?_
  refine tg [] rfl (by simp) ?_
  refine Ah (fun y : Nat × Int => [(14,.imm (.int .i64 y.1)),(13,.imm (.int .i64 ks.length)),(12,.imm (.sl (Ip ks))),(0,.ref 1 0),(2,.imm (.int .i64 x))]) (fun y => [(1,some (Bm y.2 dp))]) [2,3,4] (fun y => ks.length - y.1)
   (fun y => y.1 ≤ ks.length ∧ AH (.mk op nn tx ks ps) n (dp - x + 1) = AU (ks.drop y.1) y.2 (dp - x) ∧ 0 ≤ y.2 ∧ y.2 ≤ n) (0,n - 1) ⟨Nat.zero_le _,by simp only [List.drop_zero];exact hst hs,by simp only;omega,by simp only;omega⟩ ⟨rfl,Aq (by simp),rfl,rfl,rfl,trivial⟩ ⟨rfl,trivial⟩ rfl fun y hi ih => ?_
  obtain ⟨i,m⟩ := y
  obtain ⟨hi1,hi2,hi3,hi4⟩ := hi
  simp only at hi1 hi2 hi3 hi4
  refine td [] rfl (by simp) ?_
  refine Aa rfl (fun h => ?_) (fun h => ?_)
  ·simp at h
   obtain ⟨t,ht⟩ := Ai h
   rw [Aj ht] at hi2
   simp only [AU] at hi2
   rw [if_pos hi3] at hi2
   have hb := FI t m (dp - x)
   have hx : IntKind.i64.wrap (x + 1) = x + 1 := Bq (by omega) (by omega)
   refine td [] rfl (by simp) ?_
   refine ti rfl (c := Bz t) (fun _ => ⟨by simp,by simpa using FD ht,by simp⟩) (by simp) ?_
   refine tg [] rfl (by simp) ?_
   have hdx : dp - (x + 1) + 1 = dp - x := by omega
   have hz : 0 ≤ AH t m (dp - x) := by
    rw [hi2] at hw
    rcases Int.lt_or_le (AH t m (dp - x)) 0 with hl | hl
    ·exfalso
     have := O6 (ks.drop (i + 1)) (AH t m (dp - x)) (dp - x) hl
     omega
    ·exact hl
   refine Aw (fr := []) [(1,1)] [] rfl (by simp) (Hs t m dp (IntKind.i64.wrap (x + 1)) hi3 (by omega) hd0 hd1 (by omega) (by omega) (by rw [hx,hdx];exact hz)) ⟨⟨rfl,rfl,rfl⟩,trivial⟩ rfl rfl rfl rfl ?_
   refine tg [] rfl (by simp) ?_
   exact Ad (ih (i + 1,AH t m (dp - x)) (by simp only;omega) ⟨by simp only;omega,hi2,by simp only;exact hz,by simp only;omega⟩) ⟨Aq (Bq (by omega) (by omega)),rfl,rfl,rfl,rfl,trivial⟩ ⟨congrArg (fun z => Bm z dp) (by simp only [hx,hdx]),trivial⟩ rfl
  ·refine td [] rfl (by simp) ?_
   simp at h
   refine Bu ⟨_,rfl,rfl,⟨?_,trivial⟩⟩
   rw [List.drop_eq_nil_of_le (by omega)] at hi2
   simp only [AU] at hi2
   rw [hi2]
   rfl
termination_by t => SizeOf.sizeOf t
decreasing_by
 all_goals
  have := List.sizeOf_lt_of_mem (List.mem_of_getElem? ht)
  simp_wf
  omega
theorem QA : ∀ (t : Tm) (n dp x : Int),0 ≤ n → n ≤ 4611686018427387904 → 0 ≤ dp → dp ≤ 1000000 → 0 ≤ x → x ≤ 1000001 → AH t n (dp - x + 1) < 0 → AP Tryz.prog 183 [.ref 1 0,.imm (.agg (Bz t)),.imm (.int .i64 x)] [(1,some (Bm n dp))] (.pan Dm)
 | .mk op nn tx ks ps,n,dp,x,h0,h1,hd0,hd1,hx0,hx1,hw => by
  refine C7 1 rfl fun hok => ?_
  have hv : ks.length ≤ 9223372036854775807 := by
   simp [Bh,CP,Bz,maxLen] at hok
   have := hok.1
   omega
  refine Ae Ax Tryz.func183 (by decide +kernel) rfl [2,3,4] rfl rfl ?_
  have hst : ¬ (n < 1 ∨ dp - x + 1 < 1) → AH (.mk op nn tx ks ps) n (dp - x + 1) = AU ks (n - 1) (dp - x) := fun h => by
   simp only [AH];rw [if_neg h];congr 1;omega
  refine tg [] rfl (by simp) ?_
  by_cases hs : n < 1 ∨ dp - x + 1 < 1
  ·exact An [(1,1)] rfl (by simp) (LF n dp x (by omega) h1 (by omega)) ⟨⟨rfl,rfl,rfl⟩,trivial⟩ rfl rfl
  have hs' : 1 ≤ n ∧ x ≤ dp := by omega
  refine Aw (fr := []) [(1,1)] [] rfl (by simp) (Ej n dp x (by omega) h1 (by omega)) ⟨⟨rfl,rfl,rfl⟩,trivial⟩ rfl rfl rfl rfl ?_
  refine tg [] rfl (by simp) ?_
  refine Ah (fun y : Nat × Int => [(14,.imm (.int .i64 y.1)),(13,.imm (.int .i64 ks.length)),(12,.imm (.sl (Ip ks))),(0,.ref 1 0),(2,.imm (.int .i64 x))]) (fun y => [(1,some (Bm y.2 dp))]) [2,3,4] (fun y => ks.length - y.1)
   (fun y => y.1 ≤ ks.length ∧ AH (.mk op nn tx ks ps) n (dp - x + 1) = AU (ks.drop y.1) y.2 (dp - x) ∧ 0 ≤ y.2 ∧ y.2 ≤ n) (0,n - 1) ⟨Nat.zero_le _,by simp only [List.drop_zero];exact hst hs,by simp only;omega,by simp only;omega⟩ ⟨rfl,Aq (by simp),rfl,rfl,rfl,trivial⟩ ⟨rfl,trivial⟩ rfl fun y hi ih => ?_
  obtain ⟨i,m⟩ := y
  obtain ⟨hi1,hi2,hi3,hi4⟩ := hi
  simp only at hi1 hi2 hi3 hi4
  refine td [] rfl (by simp) ?_
  refine Aa rfl (fun h => ?_) (fun h => ?_)
  ·simp at h
   obtain ⟨t,ht⟩ := Ai h
   rw [Aj ht] at hi2
   simp only [AU] at hi2
   rw [if_pos hi3] at hi2
   have hb := FI t m (dp - x)
   have hx : IntKind.i64.wrap (x + 1) = x + 1 := Bq (by omega) (by omega)
   refine td [] rfl (by simp) ?_
   refine ti rfl (c := Bz t) (fun _ => ⟨by simp,by simpa using FD ht,by simp⟩) (by simp) ?_
   refine tg [] rfl (by simp) ?_
   have hdx : dp - (x + 1) + 1 = dp - x := by omega
   by_cases hz : 0 ≤ AH t m (dp - x)
   ·refine Aw (fr := []) [(1,1)] [] rfl (by simp) (Hs t m dp (IntKind.i64.wrap (x + 1)) hi3 (by omega) hd0 hd1 (by omega) (by omega) (by rw [hx,hdx];exact hz)) ⟨⟨rfl,rfl,rfl⟩,trivial⟩ rfl rfl rfl rfl ?_
    refine tg [] rfl (by simp) ?_
    exact Ad (ih (i + 1,AH t m (dp - x)) (by simp only;omega) ⟨by simp only;omega,hi2,by simp only;exact hz,by simp only;omega⟩) ⟨Aq (Bq (by omega) (by omega)),rfl,rfl,rfl,rfl,trivial⟩ ⟨congrArg (fun z => Bm z dp) (by simp only [hx,hdx]),trivial⟩ rfl
   ·exact An [(1,1)] rfl (by simp) (QA t m dp (IntKind.i64.wrap (x + 1)) hi3 (by omega) hd0 hd1 (by omega) (by omega) (by rw [hx,hdx];omega)) ⟨⟨rfl,rfl,rfl⟩,trivial⟩ rfl rfl
  ·exfalso
   simp at h
   rw [List.drop_eq_nil_of_le (by omega)] at hi2
   simp only [AU] at hi2
   omega
termination_by t => SizeOf.sizeOf t
decreasing_by
 all_goals
  have := List.sizeOf_lt_of_mem (List.mem_of_getElem? ht)
  simp_wf
  omega
theorem SN {s : Str} {pos : Nat} {c : UInt8} (h : s[pos]? = some c) (hc : c.toNat < 128) : Cu s pos = (c.toNat,1) := by
 have hg : (ByteArray.mk s.toArray).get! pos = c := by simp [ByteArray.get!,h]
 simp only [Cu,Utf8.decode,Nat.add_zero,hg]
 rw [if_pos hc]
theorem Rl {s : Str} {pos : Nat} {c : UInt8} (h : s[pos]? = some c) (hc : 128 ≤ c.toNat) : 128 ≤ (Cu s pos).1 := by
 have hg : (ByteArray.mk s.toArray).get! pos = c := by simp [ByteArray.get!,h]
 simp only [Cu,Utf8.decode,Nat.add_zero,hg,Utf8.runeError]
 rw [if_neg (by omega)]
 repeat' split
 all_goals first | (simp only;omega) | decide | (simp only [Bool.and_eq_true,decide_eq_true_eq] at *;omega)
theorem N3 (s : Str) : PureC Tryz.prog 166 [.str s] (.bool (CA s)) := by
 refine Ae Ax Tryz.func166 (by decide +kernel) rfl [1,2] rfl rfl ?_
 refine tg [] rfl (by simp) ?_
 refine WQ Ax rfl ?_
 refine tg [] rfl (by simp) ?_
 refine Ah (fun i : Nat => [(6,.iter 1)]) (fun i => [(1,some (.siter s i))]) [2] (fun i => s.length - i) (fun i => i ≤ s.length ∧ CA s = CA (s.drop i)) 0
  ⟨Nat.zero_le _,rfl⟩ ⟨rfl,trivial⟩ ⟨rfl,trivial⟩ rfl fun i hi ih => ?_
 refine td [] rfl (by simp) ?_
 by_cases hl : i < s.length
 ·obtain ⟨c,hc⟩ := Ai hl
  have e := hi.2
  rw [K3 hc] at e
  by_cases hlow : c.toNat < 128
  ·refine TO rfl hl (SN hc hlow) ?_
   refine tg [.a] rfl (by simp) ?_
   refine Aa rfl (fun h => ?_) (fun h => ?_)
   ·refine td [] rfl (by simp) ?_
    refine Ab ⟨_,rfl,tV (congrArg _ ?_),trivial⟩
    rw [e];simp at h;simp [UInt8.le_iff_toNat_le];omega
   ·refine td [] rfl (by simp) ?_
    refine Ad (ih (i + 1) (by omega) ⟨by omega,?_⟩) ⟨rfl,trivial⟩ ⟨rfl,trivial⟩ rfl
    rw [e];simp at h;simp [UInt8.le_iff_toNat_le];omega
  ·refine TO (dc := Cu s i) rfl hl rfl ?_
   have hh := Rl hc (by omega)
   refine tg [.a] rfl (by simp) ?_
   refine Aa rfl (fun h => ?_) (fun h => ?_)
   ·refine td [] rfl (by simp) ?_
    refine Ab ⟨_,rfl,tV (congrArg _ ?_),trivial⟩
    rw [e];simp [UInt8.le_iff_toNat_le];omega
   ·exfalso
    simp at h
    omega
 ·refine Yk rfl (by omega) ?_
  refine tg [.a] rfl (by simp) ?_
  refine Ab ⟨_,rfl,tV (congrArg _ ?_),trivial⟩
  rw [hi.2,List.drop_eq_nil_of_le (by omega)];rfl
theorem Sb (s : Str) (h : Pe s = false) : PureC Tryz.prog 167 [.str s] (.bool false) := by
 simp only [Pe,F6,DO,Bool.or_eq_false_iff] at h
 refine Ae Ax Tryz.func167 (by decide +kernel) rfl [1,2] rfl rfl ?_
 refine tg [.f,.f,.f,.f,.f,.f,.f,.f,.f,.f,.f,.f,.f,.f,.f,.f,.f,.f,.f,.f,.f,.f,.f,.f,.f,.f,.f,.f,.f] rfl (by simp at h;simp;grind) ?_
 exact Ab ⟨_,rfl,tV rfl,trivial⟩
theorem UW : PureC Tryz.prog 167 [.str [98,111,111,108]] (.bool true) := by
 refine Ae Ax Tryz.func167 (by decide +kernel) rfl [1,2] rfl rfl ?_
 refine tg [.a,.a] rfl (by simp) ?_
 exact Ab ⟨_,rfl,tV rfl,trivial⟩
theorem UV : PureC Tryz.prog 167 [.str [99,101,108,108]] (.bool true) := by
 refine Ae Ax Tryz.func167 (by decide +kernel) rfl [1,2] rfl rfl ?_
 refine tg [.a,.a,.a] rfl (by simp) ?_
 exact Ab ⟨_,rfl,tV rfl,trivial⟩
theorem UU : PureC Tryz.prog 167 [.str [99,104,97,110]] (.bool true) := by
 refine Ae Ax Tryz.func167 (by decide +kernel) rfl [1,2] rfl rfl ?_
 refine tg [.a,.a,.a,.a] rfl (by simp) ?_
 exact Ab ⟨_,rfl,tV rfl,trivial⟩
theorem UT : PureC Tryz.prog 167 [.str [101,108,115,101]] (.bool true) := by
 refine Ae Ax Tryz.func167 (by decide +kernel) rfl [1,2] rfl rfl ?_
 refine tg [.a,.a,.a,.a,.a] rfl (by simp) ?_
 exact Ab ⟨_,rfl,tV rfl,trivial⟩
theorem US : PureC Tryz.prog 167 [.str [102,97,108,115,101]] (.bool true) := by
 refine Ae Ax Tryz.func167 (by decide +kernel) rfl [1,2] rfl rfl ?_
 refine tg [.a,.a,.a,.a,.a,.a] rfl (by simp) ?_
 exact Ab ⟨_,rfl,tV rfl,trivial⟩
theorem UR : PureC Tryz.prog 167 [.str [102,117,110]] (.bool true) := by
 refine Ae Ax Tryz.func167 (by decide +kernel) rfl [1,2] rfl rfl ?_
 refine tg [.a,.a,.a,.a,.a,.a,.a] rfl (by simp) ?_
 exact Ab ⟨_,rfl,tV rfl,trivial⟩
theorem UQ : PureC Tryz.prog 167 [.str [103,101,116]] (.bool true) := by
 refine Ae Ax Tryz.func167 (by decide +kernel) rfl [1,2] rfl rfl ?_
 refine tg [.a,.a,.a,.a,.a,.a,.a,.a] rfl (by simp) ?_
 exact Ab ⟨_,rfl,tV rfl,trivial⟩
theorem UP : PureC Tryz.prog 167 [.str [105,102]] (.bool true) := by
 refine Ae Ax Tryz.func167 (by decide +kernel) rfl [1,2] rfl rfl ?_
 refine tg [.a,.a,.a,.a,.a,.a,.a,.a,.a] rfl (by simp) ?_
 exact Ab ⟨_,rfl,tV rfl,trivial⟩
theorem UO : PureC Tryz.prog 167 [.str [105,110]] (.bool true) := by
 refine Ae Ax Tryz.func167 (by decide +kernel) rfl [1,2] rfl rfl ?_
 refine tg [.a,.a,.a,.a,.a,.a,.a,.a,.a,.a] rfl (by simp) ?_
 exact Ab ⟨_,rfl,tV rfl,trivial⟩
theorem UN : PureC Tryz.prog 167 [.str [105,110,112,117,116]] (.bool true) := by
 refine Ae Ax Tryz.func167 (by decide +kernel) rfl [1,2] rfl rfl ?_
 refine tg [.a,.a,.a,.a,.a,.a,.a,.a,.a,.a,.a] rfl (by simp) ?_
 exact Ab ⟨_,rfl,tV rfl,trivial⟩
theorem Sv : PureC Tryz.prog 167 [.str [105,110,116]] (.bool true) := by
 refine Ae Ax Tryz.func167 (by decide +kernel) rfl [1,2] rfl rfl ?_
 refine tg [.a,.a,.a,.a,.a,.a,.a,.a,.a,.a,.a,.a] rfl (by simp) ?_
 exact Ab ⟨_,rfl,tV rfl,trivial⟩
theorem Su : PureC Tryz.prog 167 [.str [106,111,105,110]] (.bool true) := by
 refine Ae Ax Tryz.func167 (by decide +kernel) rfl [1,2] rfl rfl ?_
 refine tg [.a,.a,.a,.a,.a,.a,.a,.a,.a,.a,.a,.a,.a] rfl (by simp) ?_
 exact Ab ⟨_,rfl,tV rfl,trivial⟩
theorem Ss : PureC Tryz.prog 167 [.str [108,101,116]] (.bool true) := by
 refine Ae Ax Tryz.func167 (by decide +kernel) rfl [1,2] rfl rfl ?_
 refine tg [.a,.a,.a,.a,.a,.a,.a,.a,.a,.a,.a,.a,.a,.a] rfl (by simp) ?_
 exact Ab ⟨_,rfl,tV rfl,trivial⟩
theorem Sr : PureC Tryz.prog 167 [.str [109,97,116,99,104]] (.bool true) := by
 refine Ae Ax Tryz.func167 (by decide +kernel) rfl [1,2] rfl rfl ?_
 refine tg [.a,.a,.a,.a,.a,.a,.a,.a,.a,.a,.a,.a,.a,.a,.a] rfl (by simp) ?_
 exact Ab ⟨_,rfl,tV rfl,trivial⟩
theorem Sq : PureC Tryz.prog 167 [.str [109,111,100,117,108,101]] (.bool true) := by
 refine Ae Ax Tryz.func167 (by decide +kernel) rfl [1,2] rfl rfl ?_
 refine tg [.a,.a,.a,.a,.a,.a,.a,.a,.a,.a,.a,.a,.a,.a,.a,.a] rfl (by simp) ?_
 exact Ab ⟨_,rfl,tV rfl,trivial⟩
theorem Sp : PureC Tryz.prog 167 [.str [111,117,116]] (.bool true) := by
 refine Ae Ax Tryz.func167 (by decide +kernel) rfl [1,2] rfl rfl ?_
 refine tg [.a,.a,.a,.a,.a,.a,.a,.a,.a,.a,.a,.a,.a,.a,.a,.a,.a] rfl (by simp) ?_
 exact Ab ⟨_,rfl,tV rfl,trivial⟩
theorem So : PureC Tryz.prog 167 [.str [112,97,117,115,101]] (.bool true) := by
 refine Ae Ax Tryz.func167 (by decide +kernel) rfl [1,2] rfl rfl ?_
 refine tg [.a,.a,.a,.a,.a,.a,.a,.a,.a,.a,.a,.a,.a,.a,.a,.a,.a,.a] rfl (by simp) ?_
 exact Ab ⟨_,rfl,tV rfl,trivial⟩
theorem Sn : PureC Tryz.prog 167 [.str [112,117,116]] (.bool true) := by
 refine Ae Ax Tryz.func167 (by decide +kernel) rfl [1,2] rfl rfl ?_
 refine tg [.a,.a,.a,.a,.a,.a,.a,.a,.a,.a,.a,.a,.a,.a,.a,.a,.a,.a,.a] rfl (by simp) ?_
 exact Ab ⟨_,rfl,tV rfl,trivial⟩
theorem Sm : PureC Tryz.prog 167 [.str [114,101,115,101,116]] (.bool true) := by
 refine Ae Ax Tryz.func167 (by decide +kernel) rfl [1,2] rfl rfl ?_
 refine tg [.a,.a,.a,.a,.a,.a,.a,.a,.a,.a,.a,.a,.a,.a,.a,.a,.a,.a,.a,.a] rfl (by simp) ?_
 exact Ab ⟨_,rfl,tV rfl,trivial⟩
theorem Sl : PureC Tryz.prog 167 [.str [115,101,110,100]] (.bool true) := by
 refine Ae Ax Tryz.func167 (by decide +kernel) rfl [1,2] rfl rfl ?_
 refine tg [.a,.a,.a,.a,.a,.a,.a,.a,.a,.a,.a,.a,.a,.a,.a,.a,.a,.a,.a,.a,.a] rfl (by simp) ?_
 exact Ab ⟨_,rfl,tV rfl,trivial⟩
theorem Sk : PureC Tryz.prog 167 [.str [115,104,105,102,116]] (.bool true) := by
 refine Ae Ax Tryz.func167 (by decide +kernel) rfl [1,2] rfl rfl ?_
 refine tg [.a,.a,.a,.a,.a,.a,.a,.a,.a,.a,.a,.a,.a,.a,.a,.a,.a,.a,.a,.a,.a,.a] rfl (by simp) ?_
 exact Ab ⟨_,rfl,tV rfl,trivial⟩
theorem Sj : PureC Tryz.prog 167 [.str [115,112,97,119,110]] (.bool true) := by
 refine Ae Ax Tryz.func167 (by decide +kernel) rfl [1,2] rfl rfl ?_
 refine tg [.a,.a,.a,.a,.a,.a,.a,.a,.a,.a,.a,.a,.a,.a,.a,.a,.a,.a,.a,.a,.a,.a,.a] rfl (by simp) ?_
 exact Ab ⟨_,rfl,tV rfl,trivial⟩
theorem Si : PureC Tryz.prog 167 [.str [116,97,107,101]] (.bool true) := by
 refine Ae Ax Tryz.func167 (by decide +kernel) rfl [1,2] rfl rfl ?_
 refine tg [.a,.a,.a,.a,.a,.a,.a,.a,.a,.a,.a,.a,.a,.a,.a,.a,.a,.a,.a,.a,.a,.a,.a,.a] rfl (by simp) ?_
 exact Ab ⟨_,rfl,tV rfl,trivial⟩
theorem Sg : PureC Tryz.prog 167 [.str [116,97,115,107]] (.bool true) := by
 refine Ae Ax Tryz.func167 (by decide +kernel) rfl [1,2] rfl rfl ?_
 refine tg [.a,.a,.a,.a,.a,.a,.a,.a,.a,.a,.a,.a,.a,.a,.a,.a,.a,.a,.a,.a,.a,.a,.a,.a,.a] rfl (by simp) ?_
 exact Ab ⟨_,rfl,tV rfl,trivial⟩
theorem Sf : PureC Tryz.prog 167 [.str [116,104,101,110]] (.bool true) := by
 refine Ae Ax Tryz.func167 (by decide +kernel) rfl [1,2] rfl rfl ?_
 refine tg [.a,.a,.a,.a,.a,.a,.a,.a,.a,.a,.a,.a,.a,.a,.a,.a,.a,.a,.a,.a,.a,.a,.a,.a,.a,.a] rfl (by simp) ?_
 exact Ab ⟨_,rfl,tV rfl,trivial⟩
theorem Se : PureC Tryz.prog 167 [.str [116,114,117,101]] (.bool true) := by
 refine Ae Ax Tryz.func167 (by decide +kernel) rfl [1,2] rfl rfl ?_
 refine tg [.a,.a,.a,.a,.a,.a,.a,.a,.a,.a,.a,.a,.a,.a,.a,.a,.a,.a,.a,.a,.a,.a,.a,.a,.a,.a,.a] rfl (by simp) ?_
 exact Ab ⟨_,rfl,tV rfl,trivial⟩
theorem Sd : PureC Tryz.prog 167 [.str [116,121,112,101]] (.bool true) := by
 refine Ae Ax Tryz.func167 (by decide +kernel) rfl [1,2] rfl rfl ?_
 refine tg [.a,.a,.a,.a,.a,.a,.a,.a,.a,.a,.a,.a,.a,.a,.a,.a,.a,.a,.a,.a,.a,.a,.a,.a,.a,.a,.a,.a] rfl (by simp) ?_
 exact Ab ⟨_,rfl,tV rfl,trivial⟩
theorem Sc : PureC Tryz.prog 167 [.str [117,110,105,116]] (.bool true) := by
 refine Ae Ax Tryz.func167 (by decide +kernel) rfl [1,2] rfl rfl ?_
 refine tg [.a,.a,.a,.a,.a,.a,.a,.a,.a,.a,.a,.a,.a,.a,.a,.a,.a,.a,.a,.a,.a,.a,.a,.a,.a,.a,.a,.a,.a] rfl (by simp) ?_
 exact Ab ⟨_,rfl,tV rfl,trivial⟩
theorem Sa (s : Str) : PureC Tryz.prog 167 [.str s] (.bool (Pe s)) := by
 cases h : Pe s with
 | false => exact Sb s h
 | true =>
  simp only [Pe,F6,DO,Bool.or_eq_true,beq_iff_eq,Bool.or_false] at h
  rcases h with rfl | rfl | rfl | rfl | rfl | rfl | rfl | rfl | rfl | rfl | rfl | rfl | rfl | rfl | rfl | rfl | rfl | rfl | rfl | rfl | rfl | rfl | rfl | rfl | rfl | rfl | rfl | rfl
  ·exact UW
  ·exact UV
  ·exact UU
  ·exact UT
  ·exact US
  ·exact UR
  ·exact UQ
  ·exact UP
  ·exact UO
  ·exact UN
  ·exact Sv
  ·exact Su
  ·exact Ss
  ·exact Sr
  ·exact Sq
  ·exact Sp
  ·exact So
  ·exact Sn
  ·exact Sm
  ·exact Sl
  ·exact Sk
  ·exact Sj
  ·exact Si
  ·exact Sg
  ·exact Sf
  ·exact Se
  ·exact Sd
  ·exact Sc
theorem Et (s : Str) : PureC Tryz.prog 146 [.str s] (.bool (CG s)) := by
 refine Ae Ax Tryz.func146 (by decide +kernel) rfl [1,2] rfl rfl ?_
 refine tg [] rfl (by simp) ?_
 refine Ac rfl (v := .bool (CA s)) (fun h => N3 s) (by simp [Af]) ?_
 refine tg [] rfl (by simp) ?_
 refine Ac rfl (v := .bool (Pe s)) (fun h => Sa s) (by simp [Af]) ?_
 refine tg [] rfl (by simp) ?_
 refine Ab ⟨_,rfl,tV (congrArg _ ?_),trivial⟩
 cases s with
 | nil => simp [CG]
 | cons a r => simp [CG];norm_cast;simp
theorem Cf (s : Str) : PureC Tryz.prog 157 [.str s] (.bool (BZ s)) := by
 refine Ae Ax Tryz.func157 (by decide +kernel) rfl [1,2] rfl rfl ?_
 refine tg [] rfl (by cases s with | nil => simp [Af] | cons a r => simp [Af];omega) ?_
 refine Ac rfl (v := .bool (CA (s.drop 1))) (fun h => N3 _) (by simp [Af]) ?_
 refine tg [] rfl (by simp) ?_
 refine Ab ⟨_,rfl,tV (congrArg _ ?_),trivial⟩
 cases s with
 | nil => simp [BZ]
 | cons a r => simp [BZ,UInt8.le_iff_toNat_le,Bool.and_assoc];norm_cast;simp
def Bs (n : Int) : Bool := decide (-1000000000 ≤ n) && decide (n ≤ 1000000000)
theorem Gf (n : Int) : PureC Tryz.prog 156 [.int .i64 n] (.bool (Bs n)) := by
 refine Ae Ax Tryz.func156 (by decide +kernel) rfl [1,2] rfl rfl ?_
 refine tg [] rfl (by simp) ?_
 refine Ab ⟨_,rfl,tV (congrArg _ ?_),trivial⟩
 simp [Bs]
def Fw : D := .imm (.tup [])
theorem HX (holes : Bool) : ∀ (t : Ty),BC holes t = true → AP Tryz.prog 152 [.imm (.agg (dTyc t)),.imm (.bool holes)] [] (.ret Fw [])
 | .mk s n x ps,hy => by
  refine C7 0 rfl fun hok => ?_
  have hv : ps.length ≤ 9223372036854775807 := by
   simp [Bh,CP,dTyc,maxLen] at hok
   have := hok.1
   omega
  simp only [BC,Bool.and_eq_true_iff] at hy
  refine Ae Ax Tryz.func152 (by decide +kernel) rfl [1,2,3] rfl rfl ?_
  have J : ∀ p : Nat,AY holes s n x ps.length = (((ps.length : Int) == (p : Int)) && (s == 9 || n == 0) && (s == 8 || x == [])) → DGo Tryz.prog Tryz.f152.ntmps (Db []) (Nt YU Tryz.f152.results.toList (.ret Fw []))
    [.code (EQ Tryz.f152 3)] [(4,.imm (.int .i64 p)),(1,.imm (.bool holes)),(2,.ref 1 0)] [(1,some (.immb 26 4 (dTyc (.mk s n x ps))))] [2,3] := by
   intro p hp
   have hc : (((ps.length : Int) == (p : Int)) && (s == 9 || n == 0) && (s == 8 || x == [])) = true := by rw [← hp];exact hy.1
   refine td [] rfl (by simp [Af];grind) ?_
   refine Ac rfl (fun _ => AA _ ?_) (by simp) ?_
   ·simp at hc ⊢;grind
   refine tg [] rfl (by simp) ?_
   refine Ah (fun i : Nat => [(69,.imm (.int .i64 i)),(68,.imm (.int .i64 ps.length)),(67,.imm (.sl (Bg ps))),(1,.imm (.bool holes)),(2,.ref 1 0)]) (fun _ => [(1,some (.immb 26 4 (dTyc (.mk s n x ps))))]) [2,3] (fun i => ps.length - i)
    (fun i => i ≤ ps.length ∧ BB holes (ps.drop i) = true) 0 ⟨Nat.zero_le _,hy.2⟩ ⟨rfl,Aq (by simp),rfl,rfl,rfl,trivial⟩ ⟨rfl,trivial⟩ rfl fun i hi ih => ?_
   refine td [] rfl (by simp) ?_
   have hi2 := hi.2
   refine Aa rfl (fun h => ?_) (fun h => ?_)
   ·simp at h
    obtain ⟨t,ht⟩ := Ai h
    rw [Aj ht] at hi2
    simp only [BB,Bool.and_eq_true_iff] at hi2
    refine td [] rfl (by simp) ?_
    refine ti rfl (c := dTyc t) (fun _ => ⟨by simp,by simpa using Ao ht,by simp⟩) (by simp) ?_
    refine tg [] rfl (by simp) ?_
    refine Aw (fr := []) [] [] rfl (by simp) (HX holes t hi2.1) trivial rfl rfl rfl rfl ?_
    refine tg [] rfl (by simp) ?_
    exact Ad (ih (i + 1) (by omega) ⟨by omega,hi2.2⟩) ⟨Aq (Bq (by omega) (by omega)),rfl,rfl,rfl,rfl,trivial⟩ ⟨rfl,trivial⟩ rfl
   ·refine td [] rfl (by simp) ?_
    exact Bu ⟨_,rfl,rfl,trivial⟩
  by_cases h1 : s = 1
  ·subst h1
   refine tg [.a,.a,.s] rfl (by simp) ?_
   exact Ad (J 0 (by simp [AY])) ⟨rfl,rfl,rfl,trivial⟩ ⟨rfl,trivial⟩ rfl
  by_cases h2 : s = 2
  ·subst h2
   refine tg [.a,.a,.a,.s] rfl (by simp) ?_
   exact Ad (J 0 (by simp [AY])) ⟨rfl,rfl,rfl,trivial⟩ ⟨rfl,trivial⟩ rfl
  by_cases h3 : s = 3
  ·subst h3
   refine tg [.a,.a,.a,.s] rfl (by simp) ?_
   exact Ad (J 0 (by simp [AY])) ⟨rfl,rfl,rfl,trivial⟩ ⟨rfl,trivial⟩ rfl
  by_cases h4 : s = 4
  ·subst h4
   refine tg [.a,.a,.a,.a,.s] rfl (by simp) ?_
   exact Ad (J 2 (by simp [AY])) ⟨rfl,rfl,rfl,trivial⟩ ⟨rfl,trivial⟩ rfl
  by_cases h5 : s = 5
  ·subst h5
   refine tg [.a,.a,.a,.a,.a,.a,.s] rfl (by simp) ?_
   exact Ad (J 1 (by simp [AY])) ⟨rfl,rfl,rfl,trivial⟩ ⟨rfl,trivial⟩ rfl
  by_cases h6 : s = 6
  ·subst h6
   refine tg [.a,.a,.a,.a,.a,.a,.a,.s] rfl (by simp) ?_
   exact Ad (J 1 (by simp [AY])) ⟨rfl,rfl,rfl,trivial⟩ ⟨rfl,trivial⟩ rfl
  by_cases h7 : s = 7
  ·subst h7
   refine tg [.a,.a,.a,.a,.a,.a,.a,.s] rfl (by simp) ?_
   exact Ad (J 1 (by simp [AY])) ⟨rfl,rfl,rfl,trivial⟩ ⟨rfl,trivial⟩ rfl
  by_cases h8 : s = 8
  ·subst h8
   by_cases hg : BZ x = true
   ·refine tg [.a,.a,.a,.a,.a,.a,.a,.a] rfl (by simp [Af]) ?_
    refine Ac rfl (fun _ => Cf x) (by simp) ?_
    refine tg [] rfl (by simp) ?_
    refine Ac rfl (fun _ => AA _ hg) (by simp) ?_
    refine tg [.s] rfl (by simp) ?_
    exact Ad (J 0 (by simp [AY,hg])) ⟨rfl,rfl,rfl,trivial⟩ ⟨rfl,trivial⟩ rfl
   ·exfalso
    have := hy.1
    simp [AY] at this
    simp at hg
    grind
  by_cases h9 : s = 9
  ·subst h9
   by_cases hg : (holes && Dk n 0 99) = true
   ·refine tg [.a,.a,.a,.a,.a,.a,.a,.a,.a] rfl (by simp [Af]) ?_
    refine Ac rfl (fun _ => AA _ (by simp [Dk] at hg ⊢;grind)) (by simp) ?_
    refine tg [.s] rfl (by simp) ?_
    exact Ad (J 0 (by simp [AY,Dk] at hg ⊢;grind)) ⟨rfl,rfl,rfl,trivial⟩ ⟨rfl,trivial⟩ rfl
   ·exfalso
    have := hy.1
    simp [AY] at this
    simp at hg
    grind
  exfalso
  have := hy.1
  simp [AY,h1,h2,h3,h4,h5,h6,h7,h8,h9] at this
termination_by t => SizeOf.sizeOf t
decreasing_by
 all_goals
  have := List.sizeOf_lt_of_mem (List.mem_of_getElem? ht)
  simp_wf
  omega
theorem N2 (holes : Bool) : ∀ (t : Ty),BC holes t = false → AP Tryz.prog 152 [.imm (.agg (dTyc t)),.imm (.bool holes)] [] (.pan Dm)
 | .mk s n x ps,hy => by
  refine C7 0 rfl fun hok => ?_
  have hv : ps.length ≤ 9223372036854775807 := by
   simp [Bh,CP,dTyc,maxLen] at hok
   have := hok.1
   omega
  simp only [BC,Bool.and_eq_false_iff] at hy
  refine Ae Ax Tryz.func152 (by decide +kernel) rfl [1,2,3] rfl rfl ?_
  have J : ∀ p : Nat,AY holes s n x ps.length = (((ps.length : Int) == (p : Int)) && (s == 9 || n == 0) && (s == 8 || x == [])) → DGo Tryz.prog Tryz.f152.ntmps (Db []) (Nt YU Tryz.f152.results.toList (.pan Dm))
    [.code (EQ Tryz.f152 3)] [(4,.imm (.int .i64 p)),(1,.imm (.bool holes)),(2,.ref 1 0)] [(1,some (.immb 26 4 (dTyc (.mk s n x ps))))] [2,3] := by
   intro p hp
   by_cases hc : (((ps.length : Int) == (p : Int)) && (s == 9 || n == 0) && (s == 8 || x == [])) = true
   rotate_left
   ·refine td [] rfl (by simp [Af];grind) ?_
    exact An [] rfl (by simp) (AV _ (by simp at hc ⊢;grind)) trivial rfl rfl
   rw [hp,hc] at hy
   simp only [Bool.true_eq_false,false_or] at hy
   refine td [] rfl (by simp [Af];grind) ?_
   refine Ac rfl (fun _ => AA _ ?_) (by simp) ?_
   ·simp at hc ⊢;grind
   refine tg [] rfl (by simp) ?_
   refine Ah (fun i : Nat => [(69,.imm (.int .i64 i)),(68,.imm (.int .i64 ps.length)),(67,.imm (.sl (Bg ps))),(1,.imm (.bool holes)),(2,.ref 1 0)]) (fun _ => [(1,some (.immb 26 4 (dTyc (.mk s n x ps))))]) [2,3] (fun i => ps.length - i)
    (fun i => i ≤ ps.length ∧ BB holes (ps.drop i) = false) 0 ⟨Nat.zero_le _,hy⟩ ⟨rfl,Aq (by simp),rfl,rfl,rfl,trivial⟩ ⟨rfl,trivial⟩ rfl fun i hi ih => ?_
   refine td [] rfl (by simp) ?_
   have hi2 := hi.2
   refine Aa rfl (fun h => ?_) (fun h => ?_)
   ·simp at h
    obtain ⟨t,ht⟩ := Ai h
    rw [Aj ht] at hi2
    simp only [BB,Bool.and_eq_false_iff] at hi2
    refine td [] rfl (by simp) ?_
    refine ti rfl (c := dTyc t) (fun _ => ⟨by simp,by simpa using Ao ht,by simp⟩) (by simp) ?_
    refine tg [] rfl (by simp) ?_
    by_cases hz : BC holes t = true
    ·refine Aw (fr := []) [] [] rfl (by simp) (HX holes t hz) trivial rfl rfl rfl rfl ?_
     refine tg [] rfl (by simp) ?_
     exact Ad (ih (i + 1) (by omega) ⟨by omega,by rw [hz] at hi2;simpa using hi2⟩) ⟨Aq (Bq (by omega) (by omega)),rfl,rfl,rfl,rfl,trivial⟩ ⟨rfl,trivial⟩ rfl
    ·exact An [] rfl (by simp) (N2 holes t (by simpa using hz)) trivial rfl rfl
   ·exfalso
    simp at h
    rw [List.drop_eq_nil_of_le (by omega)] at hi2
    simp [BB] at hi2
  by_cases h1 : s = 1
  ·subst h1
   refine tg [.a,.a,.s] rfl (by simp) ?_
   exact Ad (J 0 (by simp [AY])) ⟨rfl,rfl,rfl,trivial⟩ ⟨rfl,trivial⟩ rfl
  by_cases h2 : s = 2
  ·subst h2
   refine tg [.a,.a,.a,.s] rfl (by simp) ?_
   exact Ad (J 0 (by simp [AY])) ⟨rfl,rfl,rfl,trivial⟩ ⟨rfl,trivial⟩ rfl
  by_cases h3 : s = 3
  ·subst h3
   refine tg [.a,.a,.a,.s] rfl (by simp) ?_
   exact Ad (J 0 (by simp [AY])) ⟨rfl,rfl,rfl,trivial⟩ ⟨rfl,trivial⟩ rfl
  by_cases h4 : s = 4
  ·subst h4
   refine tg [.a,.a,.a,.a,.s] rfl (by simp) ?_
   exact Ad (J 2 (by simp [AY])) ⟨rfl,rfl,rfl,trivial⟩ ⟨rfl,trivial⟩ rfl
  by_cases h5 : s = 5
  ·subst h5
   refine tg [.a,.a,.a,.a,.a,.a,.s] rfl (by simp) ?_
   exact Ad (J 1 (by simp [AY])) ⟨rfl,rfl,rfl,trivial⟩ ⟨rfl,trivial⟩ rfl
  by_cases h6 : s = 6
  ·subst h6
   refine tg [.a,.a,.a,.a,.a,.a,.a,.s] rfl (by simp) ?_
   exact Ad (J 1 (by simp [AY])) ⟨rfl,rfl,rfl,trivial⟩ ⟨rfl,trivial⟩ rfl
  by_cases h7 : s = 7
  ·subst h7
   refine tg [.a,.a,.a,.a,.a,.a,.a,.s] rfl (by simp) ?_
   exact Ad (J 1 (by simp [AY])) ⟨rfl,rfl,rfl,trivial⟩ ⟨rfl,trivial⟩ rfl
  by_cases h8 : s = 8
  ·subst h8
   by_cases hg : BZ x = true
   ·refine tg [.a,.a,.a,.a,.a,.a,.a,.a] rfl (by simp [Af]) ?_
    refine Ac rfl (fun _ => Cf x) (by simp) ?_
    refine tg [] rfl (by simp) ?_
    refine Ac rfl (fun _ => AA _ hg) (by simp) ?_
    refine tg [.s] rfl (by simp) ?_
    exact Ad (J 0 (by simp [AY,hg])) ⟨rfl,rfl,rfl,trivial⟩ ⟨rfl,trivial⟩ rfl
   ·refine tg [.a,.a,.a,.a,.a,.a,.a,.a] rfl (by simp [Af]) ?_
    refine Ac rfl (fun _ => Cf x) (by simp) ?_
    refine tg [] rfl (by simp) ?_
    exact An [] rfl (by simp) (AV _ (by simpa using hg)) trivial rfl rfl
  by_cases h9 : s = 9
  ·subst h9
   by_cases hg : (holes && Dk n 0 99) = true
   ·refine tg [.a,.a,.a,.a,.a,.a,.a,.a,.a] rfl (by simp [Af]) ?_
    refine Ac rfl (fun _ => AA _ (by simp [Dk] at hg ⊢;grind)) (by simp) ?_
    refine tg [.s] rfl (by simp) ?_
    exact Ad (J 0 (by simp [AY,Dk] at hg ⊢;grind)) ⟨rfl,rfl,rfl,trivial⟩ ⟨rfl,trivial⟩ rfl
   ·refine tg [.a,.a,.a,.a,.a,.a,.a,.a,.a] rfl (by simp [Af]) ?_
    exact An [] rfl (by simp) (AV _ (by simp [Dk] at hg ⊢;grind)) trivial rfl rfl
  refine tg [.f,.f,.f,.f,.f,.f,.f,.f,.f] rfl (by simp [h1,h2,h3,h4,h5,h6,h7,h8,h9]) ?_
  exact An [] rfl (by simp) (AV _ rfl) trivial rfl rfl
termination_by t => SizeOf.sizeOf t
decreasing_by
 all_goals
  have := List.sizeOf_lt_of_mem (List.mem_of_getElem? ht)
  simp_wf
  omega
theorem hmf : ∀ (fn : Fn) (first cap : Array Value) (w : World),(Instr.makeFunc fn first cap).run Tryz.prog w = .ok (.func fn first cap) w := fun _ _ _ _ => rfl
theorem Q6 (p : Addr) (w : World) :
  CallsD Tryz.prog 175 #[.pointer (some p)] .returning w fun e u' w' => e = .returned (.tuple #[]) ∧ u' = .returning ∧ w' = w := by
 refine callsD_of_wpS Tryz.func175 rfl fun c₀ cs hu => ?_
 apply wpS_seq
 apply wpS_region
 simp [wpOpsS,go_sem,recoverD,hu,Tryz.ntmps175,Exit.thenS]
 apply wpS_seq
 apply wpS_region
 simp [wpOpsS,go_sem,Exit.thenS]
 refine wpS_cond (t := false) (by simp [Act.eval,Array.replicate]) ?_
 simp only [if_false,Bool.false_eq_true]
 refine wpS_of_wp (wp_skip ?_)
 cases c₀
 simp_all [bodyPostS,results,Tryz.results175]
theorem Q7 (pb : Nat) (x : Value) (w : World) (hpb : pb < w.heap.size) (hx : w.cell? ⟨pb,0,none⟩ = some x) (hz : w.frozen? ⟨pb,0,none⟩ = false) :
  CallsD Tryz.prog 175 #[.pointer (some ⟨pb,0,none⟩)] (.panicking [{ v := .iface 239 (.agg #[]),recovered := false }]) w fun e u' w' => e = .returned (.tuple #[]) ∧
   u' = .panicking [{ v := .iface 239 (.agg #[]),recovered := true }] ∧ w' = (w.setCell ⟨pb,0,none⟩ (.bool false)).alloc (.cells #[] 239) := by
 refine callsD_of_wpS Tryz.func175 rfl fun c₀ cs hu => ?_
 change Code.wpS _ _ _ { tmps := #[.pointer (some ⟨pb,0,none⟩),undef,undef,undef,undef,undef,undef,undef,undef,undef,undef,undef,undef,undef,undef],defers := [] } _ _
 apply wpS_seq
 apply wpS_region
 simp [wpOpsS,go_sem,recoverD,hu,Tryz.ntmps175,Exit.thenS]
 apply wpS_seq
 apply wpS_region
 simp [wpOpsS,go_sem,Exit.thenS]
 refine wpS_cond (t := true) (by simp [Act.eval,Array.replicate]) ?_
 simp only [if_true]
 refine wpS_of_wp ?_
 clear hu
 have hta : ∀ w : World,(Instr.typeAssert (.iface 239 (.agg #[])) 20 239 true).run Tryz.prog w = .ok (.tuple #[.agg #[],.bool true]) w := fun _ => by kernel_rfl
 have hx' : (w.alloc (.cells #[] 239)).cell? ⟨pb,0,none⟩ = some x := by rw [World.cell?_alloc_past _ _ _ hpb];exact hx
 have hz' : (w.alloc (.cells #[] 239)).frozen? ⟨pb,0,none⟩ = false := by rw [RowKit.frozen?_alloc_cells];exact hz
 go_wp2
 simp [bodyPostS,results,Tryz.results175]
theorem Q4 (g : FuncId) (fi ca : Array Value) (w : World) (K : World → Prop) (Kp : World → Prop)
  (hen : (callFunc g (fi ++ ca)).run Tryz.prog (w.alloc (.cells #[.bool false] 4)) = .ok (.enter g (fi ++ ca)) (w.alloc (.cells #[.bool false] 4)))
  (hcall : Calls Tryz.prog g (fi ++ ca) (w.alloc (.cells #[.bool false] 4)) fun e w' => match e with
   | .returned _ => K w'
   | .panicked chain => chain = [{ v := .iface 239 (.agg #[]),recovered := false }] ∧ Kp w'
   | .outgrown => False)
  (hK : ∀ w',K w' → w'.heap[w.heap.size]? = some (.cells #[.bool false] 4 (0,0))) (hKp : ∀ w',Kp w' → w'.heap[w.heap.size]? = some (.cells #[.bool false] 4 (0,0))) :
  Calls Tryz.prog 153 #[.func (.func g) fi ca] w fun e w' => (e = .returned (.bool true) ∧ ∃ w1,K w1 ∧ w' = w1.setCell ⟨w.heap.size,0,none⟩ (.bool true)) ∨
   (e = .returned (.bool false) ∧ ∃ w1,Kp w1 ∧ w' = (w1.setCell ⟨w.heap.size,0,none⟩ (.bool false)).alloc (.cells #[] 239)) := by
 go_enter_defers Tryz.func153,Tryz.ntmps153
 have hmf := hmf
 go_wp2_with fail
 clear hen
 refine hcall.mono ?_
 intro e w' he
 cases e with
 | outgrown => exact he.elim
 | returned v =>
  have hc : w'.cell? ⟨w.heap.size,0,none⟩ = some (.bool false) := by unfold World.cell?;simp [hK w' he]
  have hz : w'.frozen? ⟨w.heap.size,0,none⟩ = false := by unfold World.frozen?;simp [hK w' he]
  simp only
  go_wp2
  refine leaves_cons (f := 175) (args := #[.pointer (some ⟨w.heap.size,0,none⟩)]) (by simp) (by simp [go_sem]) ?_
  refine (Q6 ⟨w.heap.size,0,none⟩ _).mono ?_
  rintro e u' w'' ⟨rfl,rfl,rfl⟩
  simp [Leaves,settle,results,Tryz.results153,go_sem,hc]
  exact ⟨w',he,rfl⟩
 | panicked chain =>
  obtain ⟨rfl,he⟩ := he
  have hc : w'.cell? ⟨w.heap.size,0,none⟩ = some (.bool false) := by unfold World.cell?;simp [hKp w' he]
  have hz : w'.frozen? ⟨w.heap.size,0,none⟩ = false := by unfold World.frozen?;simp [hKp w' he]
  have hlt : w.heap.size < w'.heap.size := (Array.getElem?_eq_some_iff.1 (hKp w' he)).1
  refine leaves_cons (f := 175) (args := #[.pointer (some ⟨w.heap.size,0,none⟩)]) (by simp) (by simp [go_sem]) ?_
  refine (Q7 w.heap.size _ _ hlt hc hz).mono ?_
  rintro e u' w'' ⟨rfl,rfl,rfl⟩
  have hc2 : ((w'.setCell ⟨w.heap.size,0,none⟩ (.bool false)).alloc (.cells #[] 239)).cell? ⟨w.heap.size,0,none⟩ = some (.bool false) := by
   rw [setCell_block (hKp w' he),World.cell?_alloc_past _ _ _ (by simpa using hlt)]
   unfold World.cell?
   simp [hlt]
  simp [Leaves,settle,results,Tryz.results153,go_sem,hc2]
  exact ⟨w',he,rfl⟩
theorem holds_spec : HoldsSpec Tryz.prog 153 239 4 := fun g fi ca w K Kp h1 h2 h3 h4 => Q4 g fi ca w K Kp h1 h2 h3 h4
theorem Jt {g : FuncId} {fg : Func} {cg : Code} (hg : Tryz.prog.funcs[g]? = some fg) (hn : (fg.name == "runtime.NumGoroutine") = false) (hc : fg.body = some cg) {t1 : TypeId} {s1 : Nat} {x1 y1 : List V} (hE : AP Tryz.prog g [.ref 1 0] [(1, some (.immb t1 s1 x1))] (.ret Fw [(1, some (.immb t1 s1 y1))])) :
  AP Tryz.prog 121 [.fn (.func g) [] [.ref 1 0]] [(1,some (.immb t1 s1 x1))] (.ret (.imm (.int .i64 0)) [(1,some (.immb t1 s1 y1))]) := by
 refine Ae Ax Tryz.func121 (by decide +kernel) rfl [2,3,4] rfl rfl ?_
 refine tg [] rfl (by simp) ?_
 refine Aw (fr := []) [(1,1)] [] rfl (by simp) (Of Tryz.func153 (by decide +kernel) rfl holds_spec hg hn hc hE) ⟨⟨rfl,rfl,rfl⟩,trivial⟩ rfl rfl rfl rfl ?_
 refine tg [.a] rfl (by simp) ?_
 exact Ab ⟨_,rfl,tV rfl,⟨rfl,trivial⟩⟩
theorem KW {g : FuncId} {fg : Func} {cg : Code} (hg : Tryz.prog.funcs[g]? = some fg) (hn : (fg.name == "runtime.NumGoroutine") = false) (hc : fg.body = some cg) {t1 : TypeId} {s1 : Nat} {x1 : List V} (hE : AP Tryz.prog g [.ref 1 0] [(1, some (.immb t1 s1 x1))] (.pan Dm)) :
  AP Tryz.prog 121 [.fn (.func g) [] [.ref 1 0]] [(1,some (.immb t1 s1 x1))] (.ret (.imm (.int .i64 2)) []) := by
 refine Ae Ax Tryz.func121 (by decide +kernel) rfl [2,3,4] rfl rfl ?_
 refine tg [] rfl (by simp) ?_
 refine Aw (fr := []) [(1,1)] [] rfl (by simp) (Q3 Tryz.func153 (by decide +kernel) rfl holds_spec hg hn hc hE) ⟨⟨rfl,rfl,rfl⟩,trivial⟩ rfl rfl rfl rfl ?_
 refine tg [.a] rfl (by simp) ?_
 exact Ab ⟨_,rfl,tV rfl,trivial⟩
theorem P1 {g : FuncId} {fg : Func} {cg : Code} (hg : Tryz.prog.funcs[g]? = some fg) (hn : (fg.name == "runtime.NumGoroutine") = false) (hc : fg.body = some cg) {t1 t2 : TypeId} {s1 s2 : Nat} {x1 x2 y1 y2 : List V} (hE : AP Tryz.prog g [.ref 1 0, .ref 2 0] [(1, some (.immb t1 s1 x1)), (2, some (.immb t2 s2 x2))] (.ret Fw [(1, some (.immb t1 s1 y1)), (2, some (.immb t2 s2 y2))])) :
  AP Tryz.prog 121 [.fn (.func g) [] [.ref 1 0,.ref 2 0]] [(1,some (.immb t1 s1 x1)),(2,some (.immb t2 s2 x2))] (.ret (.imm (.int .i64 0)) [(1,some (.immb t1 s1 y1)),(2,some (.immb t2 s2 y2))]) := by
 refine Ae Ax Tryz.func121 (by decide +kernel) rfl [3,4,5] rfl rfl ?_
 refine tg [] rfl (by simp) ?_
 refine Aw (fr := []) [(1,1),(2,2)] [] rfl (by simp) (Of Tryz.func153 (by decide +kernel) rfl holds_spec hg hn hc hE) ⟨⟨rfl,rfl,rfl⟩,⟨⟨rfl,rfl,rfl⟩,trivial⟩⟩ rfl rfl rfl rfl ?_
 refine tg [.a] rfl (by simp) ?_
 exact Ab ⟨_,rfl,tV rfl,⟨rfl,⟨rfl,trivial⟩⟩⟩
theorem Rt {g : FuncId} {fg : Func} {cg : Code} (hg : Tryz.prog.funcs[g]? = some fg) (hn : (fg.name == "runtime.NumGoroutine") = false) (hc : fg.body = some cg) {t1 t2 : TypeId} {s1 s2 : Nat} {x1 x2 : List V} (hE : AP Tryz.prog g [.ref 1 0, .ref 2 0] [(1, some (.immb t1 s1 x1)), (2, some (.immb t2 s2 x2))] (.pan Dm)) :
  AP Tryz.prog 121 [.fn (.func g) [] [.ref 1 0,.ref 2 0]] [(1,some (.immb t1 s1 x1)),(2,some (.immb t2 s2 x2))] (.ret (.imm (.int .i64 2)) []) := by
 refine Ae Ax Tryz.func121 (by decide +kernel) rfl [3,4,5] rfl rfl ?_
 refine tg [] rfl (by simp) ?_
 refine Aw (fr := []) [(1,1),(2,2)] [] rfl (by simp) (Q3 Tryz.func153 (by decide +kernel) rfl holds_spec hg hn hc hE) ⟨⟨rfl,rfl,rfl⟩,⟨⟨rfl,rfl,rfl⟩,trivial⟩⟩ rfl rfl rfl rfl ?_
 refine tg [.a] rfl (by simp) ?_
 exact Ab ⟨_,rfl,tV rfl,trivial⟩
def GU (b : Bool) : V := .int .i64 (bif b then 0 else 2)
def Bb (holes : Bool) (t : Ty) : Bool := decide (Ak t ≤ 12) && BC holes t
theorem QL (t : Ty) (holes : Bool) (h : Bb holes t = true) : AP Tryz.prog 150 [.ref 1 0,.ref 2 0] [(1,some (.immb 26 4 (dTyc t))),(2,some (.immb 4 1 [.bool holes]))] (.ret Fw [(1,some (.immb 26 4 (dTyc t))),(2,some (.immb 4 1 [.bool holes]))]) := by
 simp only [Bb,Bool.and_eq_true,decide_eq_true_eq] at h
 refine Ae Ax Tryz.func150 (by decide +kernel) rfl [3,4,5] rfl rfl ?_
 refine tg [] rfl (by simp) ?_
 refine Aw (fr := []) [(3,1)] [] rfl (by simp) (Ht t 12 (by omega) (by decide)) ⟨⟨rfl,rfl,rfl⟩,trivial⟩ rfl rfl rfl rfl ?_
 refine tg [] rfl (by simp) ?_
 refine Aw (fr := []) [] [] rfl (by simp) (HX holes t h.2) trivial rfl rfl rfl rfl ?_
 refine tg [] rfl (by simp) ?_
 exact Bu ⟨_,rfl,rfl,⟨rfl,rfl,trivial⟩⟩
theorem SA (t : Ty) (holes : Bool) (h : Bb holes t = false) : AP Tryz.prog 150 [.ref 1 0,.ref 2 0] [(1,some (.immb 26 4 (dTyc t))),(2,some (.immb 4 1 [.bool holes]))] (.pan Dm) := by
 simp only [Bb,Bool.and_eq_false_iff,decide_eq_false_iff_not] at h
 refine Ae Ax Tryz.func150 (by decide +kernel) rfl [3,4,5] rfl rfl ?_
 refine tg [] rfl (by simp) ?_
 by_cases h1 : Ak t ≤ 12
 ·refine Aw (fr := []) [(3,1)] [] rfl (by simp) (Ht t 12 (by omega) (by decide)) ⟨⟨rfl,rfl,rfl⟩,trivial⟩ rfl rfl rfl rfl ?_
  refine tg [] rfl (by simp) ?_
  exact An [] rfl (by simp) (N2 holes t (by simpa [h1] using h)) trivial rfl rfl
 ·exact An [(3,1)] rfl (by simp) (QF t 12 (by omega) (by decide) (by decide)) ⟨⟨rfl,rfl,rfl⟩,trivial⟩ rfl rfl
theorem Oj (t : Ty) (holes : Bool) : PureC Tryz.prog 119 [.agg (dTyc t),.bool holes] (GU (Bb holes t)) := by
 refine Ae Ax Tryz.func119 (by decide +kernel) rfl [1,2,3] rfl rfl ?_
 refine tg [] rfl (by simp) ?_
 cases h : Bb holes t with
 | true =>
  refine Aw (fr := []) [(1,1),(2,2)] [] rfl (by simp) (P1 Tryz.func150 (by decide +kernel) rfl (QL t holes h)) ⟨⟨rfl,rfl,rfl⟩,⟨rfl,rfl,rfl⟩,trivial⟩ rfl rfl rfl rfl ?_
  refine tg [] rfl (by simp) ?_
  exact Ab ⟨_,rfl,tV rfl,trivial⟩
 | false =>
  refine Aw (fr := []) [(1,1),(2,2)] [] rfl (by simp) (Rt Tryz.func150 (by decide +kernel) rfl (SA t holes h)) ⟨⟨rfl,rfl,rfl⟩,⟨rfl,rfl,rfl⟩,trivial⟩ rfl rfl rfl rfl ?_
  refine tg [] rfl (by simp) ?_
  exact Ab ⟨_,rfl,tV rfl,trivial⟩
theorem PB (t : Ty) : PureC Tryz.prog 88 [.agg (dTyc t)] (GU (Bb true t)) := by
 refine Ae Ax Tryz.func88 (by decide +kernel) rfl [1,2,3] rfl rfl ?_
 refine tg [] rfl (by simp) ?_
 refine Ac rfl (fun _ => Oj t true) (by simp [Af]) ?_
 refine tg [] rfl (by simp) ?_
 exact Ab ⟨_,rfl,tV rfl,trivial⟩
theorem L3 (t : Ty) : PureC Tryz.prog 173 [.agg (dTyc t)] (.bool (Bb false t)) := by
 refine Ae Ax Tryz.func173 (by decide +kernel) rfl [1,2,3] rfl rfl ?_
 refine tg [] rfl (by simp) ?_
 refine Ac rfl (fun _ => Oj t false) (by simp [Af]) ?_
 refine tg [] rfl (by simp) ?_
 refine Ab ⟨_,rfl,tV (congrArg _ ?_),trivial⟩
 cases Bb false t <;> rfl
def YW : TT := YU ++ [
 (195,⟨.map 9 4,false,1,8,[.imm .nilmap]⟩)]
theorem Es : TTok Tryz.prog YW := .of_eq (l := [4,3,9,141,26,50,138,27,5,24,23,57,139,48,143,147,75,22,145,72,70,38,239,192,1,195]) (by kernel_rfl)
section
variable {n : Nat} {F : List Nat} {Q : DQ} {env env' : Env} {st st' : St} {ids ids' : List Nat} {k todo : List DI} {ob : List Prop}
theorem pd (path : List Pt) (h : run YW n 300 path todo env st ids [] = .at k env' st' ids' ob) (hob : Ay ob) (hd : G Tryz.prog n F Q k env' st' ids') : DGo Tryz.prog n F Q todo env st ids := KU Es mixed 300 path h hob hd
theorem pg (path : List Pt) (h : run YW n 300 path todo env st ids [] = .at k env' st' ids' ob) (hob : Ay ob) (hd : G Tryz.prog n F Q k env' st' ids') : G Tryz.prog n F Q todo env st ids := Ja Es mixed 300 path h hob hd
theorem pi {es : List (List V)} {m : Int} {sz : Nat} {e : TypeId} {g : Option (Bool × Bool)} {ob : List Prop} {t : Nat} {todo' : List DI} {c : List V} (h : Nf YW n env todo = some ⟨es,m,sz,e,g,ob,some t,todo'⟩)
  (hc : Af g → 0 ≤ m ∧ es[m.toNat]? = some c ∧ c.length = sz) (hob : Ay ob) (hk : G Tryz.prog n F Q todo' ((t,gD g (.ip e c 0)) :: env) st ids) : G Tryz.prog n F Q todo env st ids := Ff Es h hc hob hk
end
def setK (l : List Str) : List (V × V) := l.map fun s => (.str s,.bool true)
def Nc (l : List Str) : Blk := .map (setK l)
theorem JD (l : List Str) : ∀ p ∈ setK l,Gd .str p.1 = true := by
 intro p hp
 obtain ⟨s,_,rfl⟩ := List.mem_map.1 hp
 rfl
theorem Xx (s x : Str) : (s == x) = (x == s) := by
 rw [Bool.eq_iff_iff,beq_iff_eq,beq_iff_eq];exact ⟨Eq.symm,Eq.symm⟩
theorem Uw (l : List Str) (s : Str) : Bn (setK l) (.str s) = if DO l s then some (.bool true) else none := by
 induction l with
 | nil => rfl
 | cons x r ih =>
  simp only [setK,List.map_cons,Bn,QU,DO] at ih ⊢
  rw [ih]
  by_cases h : x = s
  ·subst h;simp
  ·have h1 : (s == x) = false := by simpa using fun e => h e.symm
   have h2 : (x == s) = false := by simpa using h
   simp [h1,h2]
theorem NA (l : List Str) (s : Str) : CH false (setK l) (.str s) (.bool false) = .imm (.bool (DO l s)) := by
 simp only [CH,Uw]
 cases DO l s <;> rfl
theorem Wa (l : List Str) (s : Str) (h : DO l s = false) : CL (setK l) (.str s) (.bool true) = setK (l ++ [s]) := by
 induction l with
 | nil => rfl
 | cons x r ih =>
  simp only [DO,Bool.or_eq_false_iff] at h
  have h1 : (s == x) = false := by rw [Xx];exact h.1
  simp only [setK,List.map_cons,CL,QU,h1,List.cons_append] at ih ⊢
  simp [ih h.2]
theorem DP : ∀ (a b p : List Str),A0 p (a ++ b) = (A0 p a && A0 (p ++ a) b)
 | [],b,p => by simp [A0]
 | x :: r,b,p => by simp [A0,DP r b (p ++ [x]),Bool.and_assoc]
theorem J8 : ∀ (t : Ty) (met : List Str),(Bp t && A0 met (A2 t)) = true → AP Tryz.prog 124 [.imm (.agg (dTyc t)),.mapr 1] [(1,some (Nc met))] (.ret Fw [(1,some (Nc (met ++ A2 t)))])
 | .mk s n x ps,met,hy => by
  refine C7 0 rfl fun hok => ?_
  have hv : ps.length ≤ 9223372036854775807 := by
   simp [Bh,CP,dTyc,maxLen] at hok
   have := hok.1
   omega
  refine Ae Es Tryz.func124 (by decide +kernel) rfl [2,3,4] rfl rfl ?_
  have J : ∀ m0 : List Str,(AZ ps && A0 m0 (As ps)) = true → m0 ++ As ps = met ++ A2 (.mk s n x ps) → DGo Tryz.prog Tryz.f124.ntmps (Db [(1,some (Nc met))]) (Nt YW Tryz.f124.results.toList (.ret Fw [(1,some (Nc (met ++ A2 (.mk s n x ps))))]))
    [.code (EQ Tryz.f124 2)] [(1,.mapr 1),(2,.ref 2 0)] [(2,some (.immb 50 4 (dTyc (.mk s n x ps)))),(1,some (Nc m0))] [3,4] := by
   intro m0 hy he
   refine pd [] rfl (by simp) ?_
   refine Ah (fun i : Nat => [(113,.imm (.int .i64 i)),(112,.imm (.int .i64 ps.length)),(111,.imm (.sl (Bg ps))),(1,.mapr 1),(2,.ref 2 0)]) (fun i => [(2,some (.immb 50 4 (dTyc (.mk s n x ps)))),(1,some (Nc (m0 ++ As (ps.take i))))]) [3,4] (fun i => ps.length - i)
    (fun i => i ≤ ps.length ∧ (AZ (ps.drop i) && A0 (m0 ++ As (ps.take i)) (As (ps.drop i))) = true) 0 ⟨Nat.zero_le _,by simpa [As] using hy⟩ ⟨rfl,Aq (by simp),rfl,rfl,rfl,trivial⟩ ⟨rfl,by simp [As];rfl,trivial⟩ rfl fun i hi ih => ?_
   refine pd [] rfl (by simp) ?_
   have hi2 := hi.2
   refine Aa rfl (fun h => ?_) (fun h => ?_)
   ·simp at h
    obtain ⟨t,ht⟩ := Ai h
    have htk : As (ps.take (i + 1)) = As (ps.take i) ++ A2 t := by rw [AM ht,C5];simp [As]
    rw [Aj ht] at hi2
    simp only [AZ,As,DP] at hi2
    refine pd [] rfl (by simp) ?_
    refine pi rfl (c := dTyc t) (fun _ => ⟨by simp,by simpa using Ao ht,by simp⟩) (by simp) ?_
    refine pg [] rfl (by simp) ?_
    refine Aw (fr := []) [(1,1)] [] rfl (by simp) (J8 t (m0 ++ As (ps.take i)) (by simp only [Bool.and_eq_true] at hi2 ⊢;exact ⟨hi2.1.1,hi2.2.1⟩)) ⟨⟨rfl,rfl,rfl⟩,trivial⟩ rfl rfl rfl rfl ?_
    refine pg [] rfl (by simp) ?_
    exact Ad (ih (i + 1) (by omega) ⟨by omega,by rw [htk,← List.append_assoc];simp only [Bool.and_eq_true] at hi2 ⊢;exact ⟨hi2.1.2,hi2.2.2⟩⟩) ⟨Aq (Bq (by omega) (by omega)),rfl,rfl,rfl,rfl,trivial⟩ ⟨rfl,by rw [htk,← List.append_assoc];rfl,trivial⟩ rfl
   ·refine pd [] rfl (by simp) ?_
    simp at h
    refine Bu ⟨_,rfl,rfl,⟨?_,trivial⟩⟩
    rw [List.take_of_length_le (by omega),he]
    rfl
  simp only [Bp,Bool.and_eq_true] at hy
  obtain ⟨⟨hp,hps⟩,hdf⟩ := hy
  by_cases h1 : s = 1
  ·subst h1
   simp [Ct,Dk] at hp
   refine pg [.a,.a] rfl (by simp [Af] <;> grind) ?_
   refine Ac rfl (fun _ => AA _ (by simp [Bs] at hp ⊢;grind)) (by simp) ?_
   refine pg [.s] rfl (by simp) ?_
   exact Ad (J met (by simpa [A2,hps] using hdf) (by simp [A2])) ⟨rfl,rfl,trivial⟩ ⟨rfl,rfl,trivial⟩ rfl
  by_cases h5 : s = 5
  ·subst h5
   simp [Ct,Dk] at hp
   refine pg [.a,.a] rfl (by simp [Af] <;> grind) ?_
   refine Ac rfl (fun _ => AA _ (by simp [Bs] at hp ⊢;grind)) (by simp) ?_
   refine pg [.s] rfl (by simp) ?_
   exact Ad (J met (by simpa [A2,hps] using hdf) (by simp [A2])) ⟨rfl,rfl,trivial⟩ ⟨rfl,rfl,trivial⟩ rfl
  by_cases h3 : s = 3
  ·subst h3
   simp [Ct,Dk] at hp
   refine pg [.a,.a,.a,.a] rfl (by simp [Af] <;> grind) ?_
   refine Ac rfl (fun _ => Gf n) (by simp [Af]) ?_
   refine pg [] rfl (by simp [Af]) ?_
   refine Ac rfl (fun _ => AA _ (by simp [Bs] at hp ⊢;grind)) (by simp) ?_
   refine pg [.s] rfl (by simp) ?_
   exact Ad (J met (by simpa [A2,hps] using hdf) (by simp [A2])) ⟨rfl,rfl,trivial⟩ ⟨rfl,rfl,trivial⟩ rfl
  by_cases h4 : s = 4
  ·subst h4
   simp [Ct,Dk] at hp
   refine pg [.a,.a,.a,.a,.a] rfl (by simp [Af] <;> grind) ?_
   refine Ac rfl (fun _ => AA _ (by obtain ⟨⟨rfl,rfl⟩,ha,hb⟩ := hp;have : n = 0 ∨ n = 1 := (by omega);rcases this with rfl | rfl <;> simp)) (by simp) ?_
   refine pg [.s] rfl (by simp) ?_
   exact Ad (J met (by simpa [A2,hps] using hdf) (by simp [A2])) ⟨rfl,rfl,trivial⟩ ⟨rfl,rfl,trivial⟩ rfl
  by_cases h6 : s = 6
  ·subst h6
   simp [Ct,Dk] at hp
   refine pg [.a,.a,.a,.a,.a,.a] rfl (by simp [Af] <;> grind) ?_
   refine Ac rfl (fun _ => Cf x) (by simp [Af]) ?_
   refine pg [] rfl (by simp [Af]) ?_
   refine Ac rfl (fun _ => AA _ (by simp [Bs] at hp ⊢;grind)) (by simp) ?_
   refine pg [.s] rfl (by simp) ?_
   exact Ad (J met (by simpa [A2,hps] using hdf) (by simp [A2])) ⟨rfl,rfl,trivial⟩ ⟨rfl,rfl,trivial⟩ rfl
  by_cases h2 : s = 2
  ·subst h2
   simp [Ct,Dk] at hp
   refine pg [.a,.a,.a] rfl (by simp [Af] <;> grind) ?_
   refine Ac rfl (fun _ => Et x) (by simp [Af]) ?_
   refine pg [] rfl (by simp [Af]) ?_
   have hx : DO met x = false := by simpa [A2,A0] using hdf
   refine TP Es 1 rfl rfl rfl (JD met) (by simp [Af]) (z := .bool false) rfl (fun _ => .bool _) (NA met x) ?_
   refine pg [] rfl (by simp [Af]) ?_
   refine Ac rfl (fun _ => AA _ (by simp at hp ⊢;rw [hx];grind)) (by simp) ?_
   refine pg [] rfl (by simp) ?_
   refine S7 Es rfl rfl rfl (JD met) ?_
   rw [Wa met x hx]
   have he : ps = [] := by simpa using hp.1.1
   subst he
   refine pg [.s] rfl (by simp) ?_
   exact Ad (J (met ++ [x]) (by simp [AZ,As,A0]) (by simp [A2,As])) ⟨rfl,rfl,trivial⟩ ⟨rfl,rfl,trivial⟩ rfl
  exfalso
  simp [Ct,h1,h2,h3,h4,h5,h6] at hp
termination_by t => SizeOf.sizeOf t
decreasing_by
 all_goals
  have := List.sizeOf_lt_of_mem (List.mem_of_getElem? ht)
  simp_wf
  omega
theorem PH : ∀ (t : Ty) (met : List Str),(Bp t && A0 met (A2 t)) = false → AP Tryz.prog 124 [.imm (.agg (dTyc t)),.mapr 1] [(1,some (Nc met))] (.pan Dm)
 | .mk s n x ps,met,hy => by
  refine C7 0 rfl fun hok => ?_
  have hv : ps.length ≤ 9223372036854775807 := by
   simp [Bh,CP,dTyc,maxLen] at hok
   have := hok.1
   omega
  refine Ae Es Tryz.func124 (by decide +kernel) rfl [2,3,4] rfl rfl ?_
  have J : ∀ m0 : List Str,(AZ ps && A0 m0 (As ps)) = false → DGo Tryz.prog Tryz.f124.ntmps (Db [(1,some (Nc met))]) (Nt YW Tryz.f124.results.toList (.pan Dm))
    [.code (EQ Tryz.f124 2)] [(1,.mapr 1),(2,.ref 2 0)] [(2,some (.immb 50 4 (dTyc (.mk s n x ps)))),(1,some (Nc m0))] [3,4] := by
   intro m0 hy
   refine pd [] rfl (by simp) ?_
   refine Ah (fun i : Nat => [(113,.imm (.int .i64 i)),(112,.imm (.int .i64 ps.length)),(111,.imm (.sl (Bg ps))),(1,.mapr 1),(2,.ref 2 0)]) (fun i => [(2,some (.immb 50 4 (dTyc (.mk s n x ps)))),(1,some (Nc (m0 ++ As (ps.take i))))]) [3,4] (fun i => ps.length - i)
    (fun i => i ≤ ps.length ∧ (AZ (ps.drop i) && A0 (m0 ++ As (ps.take i)) (As (ps.drop i))) = false) 0 ⟨Nat.zero_le _,by simpa [As] using hy⟩ ⟨rfl,Aq (by simp),rfl,rfl,rfl,trivial⟩ ⟨rfl,by simp [As];rfl,trivial⟩ rfl fun i hi ih => ?_
   refine pd [] rfl (by simp) ?_
   have hi2 := hi.2
   refine Aa rfl (fun h => ?_) (fun h => ?_)
   ·simp at h
    obtain ⟨t,ht⟩ := Ai h
    have htk : As (ps.take (i + 1)) = As (ps.take i) ++ A2 t := by rw [AM ht,C5];simp [As]
    rw [Aj ht] at hi2
    simp only [AZ,As,DP] at hi2
    refine pd [] rfl (by simp) ?_
    refine pi rfl (c := dTyc t) (fun _ => ⟨by simp,by simpa using Ao ht,by simp⟩) (by simp) ?_
    refine pg [] rfl (by simp) ?_
    by_cases hz : (Bp t && A0 (m0 ++ As (ps.take i)) (A2 t)) = true
    ·refine Aw (fr := []) [(1,1)] [] rfl (by simp) (J8 t (m0 ++ As (ps.take i)) hz) ⟨⟨rfl,rfl,rfl⟩,trivial⟩ rfl rfl rfl rfl ?_
     refine pg [] rfl (by simp) ?_
     exact Ad (ih (i + 1) (by omega) ⟨by omega,by rw [htk,← List.append_assoc];simp only [Bool.and_eq_true] at hz;rw [hz.1,hz.2] at hi2;simpa using hi2⟩) ⟨Aq (Bq (by omega) (by omega)),rfl,rfl,rfl,rfl,trivial⟩ ⟨rfl,by rw [htk,← List.append_assoc];rfl,trivial⟩ rfl
    ·exact An [(1,1)] rfl (by simp) (PH t (m0 ++ As (ps.take i)) (by simpa using hz)) ⟨⟨rfl,rfl,rfl⟩,trivial⟩ rfl rfl
   ·exfalso
    simp at h
    rw [List.drop_eq_nil_of_le (by omega)] at hi2
    simp [AZ,As,A0] at hi2
  by_cases h1 : s = 1
  ·subst h1
   refine pg [.a,.a] rfl (by simp [Af] <;> grind) ?_
   by_cases hp : Ct 1 n x ps.length = true
   ·have hps : (AZ ps && A0 met (As ps)) = false := by simpa [Bp,hp,A2] using hy
    simp [Ct,Dk] at hp
    refine Ac rfl (fun _ => AA _ (by simp [Bs] at hp ⊢;grind)) (by simp) ?_
    refine pg [.s] rfl (by simp) ?_
    exact Ad (J met hps) ⟨rfl,rfl,trivial⟩ ⟨rfl,rfl,trivial⟩ rfl
   ·simp [Ct,Dk] at hp
    exact An [] rfl (by simp) (AV _ (by simp [Bs] at hp ⊢;grind)) trivial rfl rfl
  by_cases h5 : s = 5
  ·subst h5
   refine pg [.a,.a] rfl (by simp [Af] <;> grind) ?_
   by_cases hp : Ct 5 n x ps.length = true
   ·have hps : (AZ ps && A0 met (As ps)) = false := by simpa [Bp,hp,A2] using hy
    simp [Ct,Dk] at hp
    refine Ac rfl (fun _ => AA _ (by simp [Bs] at hp ⊢;grind)) (by simp) ?_
    refine pg [.s] rfl (by simp) ?_
    exact Ad (J met hps) ⟨rfl,rfl,trivial⟩ ⟨rfl,rfl,trivial⟩ rfl
   ·simp [Ct,Dk] at hp
    exact An [] rfl (by simp) (AV _ (by simp [Bs] at hp ⊢;grind)) trivial rfl rfl
  by_cases h3 : s = 3
  ·subst h3
   refine pg [.a,.a,.a,.a] rfl (by simp [Af] <;> grind) ?_
   refine Ac rfl (fun _ => Gf n) (by simp [Af]) ?_
   refine pg [] rfl (by simp [Af]) ?_
   by_cases hp : Ct 3 n x ps.length = true
   ·have hps : (AZ ps && A0 met (As ps)) = false := by simpa [Bp,hp,A2] using hy
    simp [Ct,Dk] at hp
    refine Ac rfl (fun _ => AA _ (by simp [Bs] at hp ⊢;grind)) (by simp) ?_
    refine pg [.s] rfl (by simp) ?_
    exact Ad (J met hps) ⟨rfl,rfl,trivial⟩ ⟨rfl,rfl,trivial⟩ rfl
   ·simp [Ct,Dk] at hp
    exact An [] rfl (by simp) (AV _ (by simp [Bs] at hp ⊢;grind)) trivial rfl rfl
  by_cases h4 : s = 4
  ·subst h4
   refine pg [.a,.a,.a,.a,.a] rfl (by simp [Af] <;> grind) ?_
   by_cases hp : Ct 4 n x ps.length = true
   ·have hps : (AZ ps && A0 met (As ps)) = false := by simpa [Bp,hp,A2] using hy
    simp [Ct,Dk] at hp
    refine Ac rfl (fun _ => AA _ (by obtain ⟨⟨rfl,rfl⟩,ha,hb⟩ := hp;have : n = 0 ∨ n = 1 := (by omega);rcases this with rfl | rfl <;> simp)) (by simp) ?_
    refine pg [.s] rfl (by simp) ?_
    exact Ad (J met hps) ⟨rfl,rfl,trivial⟩ ⟨rfl,rfl,trivial⟩ rfl
   ·simp [Ct,Dk] at hp
    exact An [] rfl (by simp) (AV _ (by simp [Bs] at hp ⊢;grind)) trivial rfl rfl
  by_cases h6 : s = 6
  ·subst h6
   refine pg [.a,.a,.a,.a,.a,.a] rfl (by simp [Af] <;> grind) ?_
   refine Ac rfl (fun _ => Cf x) (by simp [Af]) ?_
   refine pg [] rfl (by simp [Af]) ?_
   by_cases hp : Ct 6 n x ps.length = true
   ·have hps : (AZ ps && A0 met (As ps)) = false := by simpa [Bp,hp,A2] using hy
    simp [Ct,Dk] at hp
    refine Ac rfl (fun _ => AA _ (by simp [Bs] at hp ⊢;grind)) (by simp) ?_
    refine pg [.s] rfl (by simp) ?_
    exact Ad (J met hps) ⟨rfl,rfl,trivial⟩ ⟨rfl,rfl,trivial⟩ rfl
   ·simp [Ct,Dk] at hp
    exact An [] rfl (by simp) (AV _ (by simp [Bs] at hp ⊢;grind)) trivial rfl rfl
  by_cases h2 : s = 2
  ·subst h2
   refine pg [.a,.a,.a] rfl (by simp [Af] <;> grind) ?_
   refine Ac rfl (fun _ => Et x) (by simp [Af]) ?_
   refine pg [] rfl (by simp [Af]) ?_
   refine TP Es 1 rfl rfl rfl (JD met) (by simp [Af]) (z := .bool false) rfl (fun _ => .bool _) (NA met x) ?_
   refine pg [] rfl (by simp [Af]) ?_
   refine An [] rfl (by simp) (AV _ ?_) trivial rfl rfl
   simp [Bp,Ct,A2,A0] at hy
   cases hm : DO met x with
   | true => simp
   | false =>
    simp only [hm] at hy
    by_cases hq : ps = []
    ·subst hq;simp [AZ] at hy ⊢;grind
    ·simp [hq]
  refine pg [.f,.f,.f,.f,.f,.f] rfl (by simp [h1,h2,h3,h4,h5,h6]) ?_
  exact An [] rfl (by simp) (AV _ rfl) trivial rfl rfl
termination_by t => SizeOf.sizeOf t
decreasing_by
 all_goals
  have := List.sizeOf_lt_of_mem (List.mem_of_getElem? ht)
  simp_wf
  omega
def AK (t : Ty) : Bool := decide (Ak t ≤ 12) && (Bp t && AE (A2 t))
theorem Nr (t : Ty) (h : AK t = true) : AP Tryz.prog 122 [.ref 1 0] [(1,some (.immb 50 4 (dTyc t)))] (.ret Fw [(1,some (.immb 50 4 (dTyc t)))]) := by
 simp only [AK,Bool.and_eq_true,decide_eq_true_eq] at h
 refine Ae Es Tryz.func122 (by decide +kernel) rfl [2,3,4] rfl rfl ?_
 refine pg [] rfl (by simp) ?_
 refine Aw (fr := []) [(2,1)] [] rfl (by simp) (IY t 12 (by omega) (by decide)) ⟨⟨rfl,rfl,rfl⟩,trivial⟩ rfl rfl rfl rfl ?_
 refine pg [] rfl (by simp) ?_
 refine Lu rfl ?_
 refine pg [] rfl (by simp) ?_
 refine Aw (fr := []) [(3,1)] [] rfl (by simp) (J8 t [] (by simpa [AE] using h.2)) ⟨⟨rfl,rfl,rfl⟩,trivial⟩ rfl rfl rfl rfl ?_
 refine pg [] rfl (by simp) ?_
 exact Bu ⟨_,rfl,rfl,⟨rfl,trivial⟩⟩
theorem P2 (t : Ty) (h : AK t = false) : AP Tryz.prog 122 [.ref 1 0] [(1,some (.immb 50 4 (dTyc t)))] (.pan Dm) := by
 refine Ae Es Tryz.func122 (by decide +kernel) rfl [2,3,4] rfl rfl ?_
 refine pg [] rfl (by simp) ?_
 by_cases h1 : Ak t ≤ 12
 ·refine Aw (fr := []) [(2,1)] [] rfl (by simp) (IY t 12 (by omega) (by decide)) ⟨⟨rfl,rfl,rfl⟩,trivial⟩ rfl rfl rfl rfl ?_
  refine pg [] rfl (by simp) ?_
  refine Lu rfl ?_
  refine pg [] rfl (by simp) ?_
  exact An [(3,1)] rfl (by simp) (PH t [] (by simpa [AK,h1,AE] using h)) ⟨⟨rfl,rfl,rfl⟩,trivial⟩ rfl rfl
 ·exact An [(2,1)] rfl (by simp) (TL t 12 (by omega) (by decide) (by decide)) ⟨⟨rfl,rfl,rfl⟩,trivial⟩ rfl rfl
theorem Hf (t : Ty) : PureC Tryz.prog 92 [.agg (dTyc t)] (GU (AK t)) := by
 refine Ae Es Tryz.func92 (by decide +kernel) rfl [1,2,3] rfl rfl ?_
 refine pg [] rfl (by simp) ?_
 cases h : AK t with
 | true =>
  refine Aw (fr := []) [(1,1)] [] rfl (by simp) (Jt Tryz.func122 (by decide +kernel) rfl (Nr t h)) ⟨⟨rfl,rfl,rfl⟩,trivial⟩ rfl rfl rfl rfl ?_
  refine pg [] rfl (by simp) ?_
  exact Ab ⟨_,rfl,tV rfl,trivial⟩
 | false =>
  refine Aw (fr := []) [(1,1)] [] rfl (by simp) (KW Tryz.func122 (by decide +kernel) rfl (P2 t h)) ⟨⟨rfl,rfl,rfl⟩,trivial⟩ rfl rfl rfl rfl ?_
  refine pg [] rfl (by simp) ?_
  exact Ab ⟨_,rfl,tV rfl,trivial⟩
end Go.Hk
namespace Go.Hk
open Go.Proofs
def YV : TT := YW ++ [
 (248,⟨.struct [(0,4),(1,4),(2,4),(3,3)],true,4,16,[.imm (.bool false),.imm (.bool false),.imm (.bool false),.imm (.int .i64 0)]⟩)]
theorem Er : TTok Tryz.prog YV := .of_eq (l := [4,3,9,141,26,50,138,27,5,24,23,57,139,48,143,147,75,22,145,72,70,38,239,192,1,195,248]) (by kernel_rfl)
section
variable {n : Nat} {F : List Nat} {Q : DQ} {env env' : Env} {st st' : St} {ids ids' : List Nat} {k todo : List DI} {ob : List Prop}
theorem sd (path : List Pt) (h : run YV n 300 path todo env st ids [] = .at k env' st' ids' ob) (hob : Ay ob) (hd : G Tryz.prog n F Q k env' st' ids') : DGo Tryz.prog n F Q todo env st ids := KU Er mixed 300 path h hob hd
theorem sg (path : List Pt) (h : run YV n 300 path todo env st ids [] = .at k env' st' ids' ob) (hob : Ay ob) (hd : G Tryz.prog n F Q k env' st' ids') : G Tryz.prog n F Q todo env st ids := Ja Er mixed 300 path h hob hd
theorem si {es : List (List V)} {m : Int} {sz : Nat} {e : TypeId} {g : Option (Bool × Bool)} {ob : List Prop} {t : Nat} {todo' : List DI} {c : List V} (h : Nf YV n env todo = some ⟨es,m,sz,e,g,ob,some t,todo'⟩)
  (hc : Af g → 0 ≤ m ∧ es[m.toNat]? = some c ∧ c.length = sz) (hob : Ay ob) (hk : G Tryz.prog n F Q todo' ((t,gD g (.ip e c 0)) :: env) st ids) : G Tryz.prog n F Q todo env st ids := Ff Er h hc hob hk
end
structure Has where
 n : Bool
 text : Bool
 pats : Bool
 kids : Int
 is : Bool
def AL (op : Int) (k p : Nat) : Has :=
 if op = 1 ∨ op = 2 then ⟨true,false,false,0,true⟩
 else if op = 3 ∨ op = 21 ∨ op = 25 ∨ op = 28 then ⟨false,false,false,0,true⟩
 else if op = 4 then ⟨false,true,false,0,true⟩
 else if op = 5 ∨ op = 27 then ⟨false,true,false,1,true⟩
 else if op = 7 then ⟨false,true,false,2,true⟩
 else if op = 8 then ⟨false,false,false,3,true⟩
 else if op = 14 then ⟨false,true,false,(if (3 : Int) < k then 3 else k),true⟩
 else if op = 15 then ⟨false,false,true,(IntKind.i64.wrap (1 + (p : Int))),true⟩
 else if op = 16 ∨ op = 17 ∨ op = 19 ∨ op = 20 ∨ op = 23 ∨ op = 26 then ⟨false,false,false,1,true⟩
 else if op = 24 then ⟨true,false,false,1,true⟩
 else if op = 6 ∨ op = 9 ∨ op = 10 ∨ op = 11 ∨ op = 12 ∨ op = 13 ∨ op = 18 ∨ op = 22 then ⟨false,false,false,2,true⟩
 else ⟨false,false,false,0,false⟩
def Cl (h : Has) : List V := [.bool h.n,.bool h.text,.bool h.pats,.int .i64 h.kids]
set_option maxHeartbeats 1000000 in
theorem PO (op n : Int) (x : Str) (ks : List Tm) (ps : List Ty) : PureC Tryz.prog 187 [.agg (Bz (.mk op n x ks ps))] (.tup [.agg (Cl (AL op ks.length ps.length)),.bool (AL op ks.length ps.length).is]) := by
 refine Az fun hv => ?_
 simp [Bh,CP,Bz,maxLen] at hv
 refine Ae Er Tryz.func187 (by decide +kernel) rfl [1,2,3] rfl rfl ?_
 by_cases h1 : op = 1
 ·subst h1
  refine sg [.a,.a] rfl (by simp) ?_
  refine Ab ⟨_,rfl,tV ?_,trivial⟩
  simp [AL,Cl]
 by_cases h2 : op = 2
 ·subst h2
  refine sg [.a,.a] rfl (by simp) ?_
  refine Ab ⟨_,rfl,tV ?_,trivial⟩
  simp [AL,Cl]
 by_cases h3 : op = 3
 ·subst h3
  refine sg [.a,.a,.a,.a] rfl (by simp) ?_
  refine Ab ⟨_,rfl,tV ?_,trivial⟩
  simp [AL,Cl]
 by_cases h21 : op = 21
 ·subst h21
  refine sg [.a,.a,.a,.a,.a] rfl (by simp) ?_
  refine Ab ⟨_,rfl,tV ?_,trivial⟩
  simp [AL,Cl]
 by_cases h25 : op = 25
 ·subst h25
  refine sg [.a,.a,.a,.a,.a,.a] rfl (by simp) ?_
  refine Ab ⟨_,rfl,tV ?_,trivial⟩
  simp [AL,Cl]
 by_cases h28 : op = 28
 ·subst h28
  refine sg [.a,.a,.a,.a,.a,.a] rfl (by simp) ?_
  refine Ab ⟨_,rfl,tV ?_,trivial⟩
  simp [AL,Cl]
 by_cases h4 : op = 4
 ·subst h4
  refine sg [.a,.a,.a,.a,.a,.a,.a] rfl (by simp) ?_
  refine Ab ⟨_,rfl,tV ?_,trivial⟩
  simp [AL,Cl]
 by_cases h5 : op = 5
 ·subst h5
  refine sg [.a,.a,.a,.a,.a,.a,.a,.a,.a] rfl (by simp) ?_
  refine Ab ⟨_,rfl,tV ?_,trivial⟩
  simp [AL,Cl]
 by_cases h27 : op = 27
 ·subst h27
  refine sg [.a,.a,.a,.a,.a,.a,.a,.a,.a] rfl (by simp) ?_
  refine Ab ⟨_,rfl,tV ?_,trivial⟩
  simp [AL,Cl]
 by_cases h7 : op = 7
 ·subst h7
  refine sg [.a,.a,.a,.a,.a,.a,.a,.a,.a,.a] rfl (by simp) ?_
  refine Ab ⟨_,rfl,tV ?_,trivial⟩
  simp [AL,Cl]
 by_cases h8 : op = 8
 ·subst h8
  refine sg [.a,.a,.a,.a,.a,.a,.a,.a,.a,.a,.a] rfl (by simp) ?_
  refine Ab ⟨_,rfl,tV ?_,trivial⟩
  simp [AL,Cl]
 by_cases h14 : op = 14
 ·subst h14
  refine sg [.a,.a,.a,.a,.a,.a,.a,.a,.a,.a,.a,.a] rfl (by simp) ?_
  refine Ab ⟨_,rfl,tV ?_,trivial⟩
  simp [AL,Cl]
 by_cases h15 : op = 15
 ·subst h15
  refine sg [.a,.a,.a,.a,.a,.a,.a,.a,.a,.a,.a,.a,.a] rfl (by simp) ?_
  refine Ab ⟨_,rfl,tV ?_,trivial⟩
  simp [AL,Cl]
 by_cases h16 : op = 16
 ·subst h16
  refine sg [.a,.a,.a,.a,.a,.a,.a,.a,.a,.a,.a,.a,.a,.a,.a] rfl (by simp) ?_
  refine Ab ⟨_,rfl,tV ?_,trivial⟩
  simp [AL,Cl]
 by_cases h17 : op = 17
 ·subst h17
  refine sg [.a,.a,.a,.a,.a,.a,.a,.a,.a,.a,.a,.a,.a,.a,.a,.a] rfl (by simp) ?_
  refine Ab ⟨_,rfl,tV ?_,trivial⟩
  simp [AL,Cl]
 by_cases h19 : op = 19
 ·subst h19
  refine sg [.a,.a,.a,.a,.a,.a,.a,.a,.a,.a,.a,.a,.a,.a,.a,.a,.a] rfl (by simp) ?_
  refine Ab ⟨_,rfl,tV ?_,trivial⟩
  simp [AL,Cl]
 by_cases h20 : op = 20
 ·subst h20
  refine sg [.a,.a,.a,.a,.a,.a,.a,.a,.a,.a,.a,.a,.a,.a,.a,.a,.a,.a] rfl (by simp) ?_
  refine Ab ⟨_,rfl,tV ?_,trivial⟩
  simp [AL,Cl]
 by_cases h23 : op = 23
 ·subst h23
  refine sg [.a,.a,.a,.a,.a,.a,.a,.a,.a,.a,.a,.a,.a,.a,.a,.a,.a,.a,.a] rfl (by simp) ?_
  refine Ab ⟨_,rfl,tV ?_,trivial⟩
  simp [AL,Cl]
 by_cases h26 : op = 26
 ·subst h26
  refine sg [.a,.a,.a,.a,.a,.a,.a,.a,.a,.a,.a,.a,.a,.a,.a,.a,.a,.a,.a] rfl (by simp) ?_
  refine Ab ⟨_,rfl,tV ?_,trivial⟩
  simp [AL,Cl]
 by_cases h24 : op = 24
 ·subst h24
  refine sg [.a,.a,.a,.a,.a,.a,.a,.a,.a,.a,.a,.a,.a,.a,.a,.a,.a,.a,.a,.a] rfl (by simp) ?_
  refine Ab ⟨_,rfl,tV ?_,trivial⟩
  simp [AL,Cl]
 by_cases h6 : op = 6
 ·subst h6
  refine sg [.a,.a,.a,.a,.a,.a,.a,.a,.a,.a,.a,.a,.a,.a,.a,.a,.a,.a,.a,.a,.a,.a] rfl (by simp) ?_
  refine Ab ⟨_,rfl,tV ?_,trivial⟩
  simp [AL,Cl]
 by_cases h9 : op = 9
 ·subst h9
  refine sg [.a,.a,.a,.a,.a,.a,.a,.a,.a,.a,.a,.a,.a,.a,.a,.a,.a,.a,.a,.a,.a,.a,.a] rfl (by simp) ?_
  refine Ab ⟨_,rfl,tV ?_,trivial⟩
  simp [AL,Cl]
 by_cases h10 : op = 10
 ·subst h10
  refine sg [.a,.a,.a,.a,.a,.a,.a,.a,.a,.a,.a,.a,.a,.a,.a,.a,.a,.a,.a,.a,.a,.a,.a,.a] rfl (by simp) ?_
  refine Ab ⟨_,rfl,tV ?_,trivial⟩
  simp [AL,Cl]
 by_cases h11 : op = 11
 ·subst h11
  refine sg [.a,.a,.a,.a,.a,.a,.a,.a,.a,.a,.a,.a,.a,.a,.a,.a,.a,.a,.a,.a,.a,.a,.a,.a,.a] rfl (by simp) ?_
  refine Ab ⟨_,rfl,tV ?_,trivial⟩
  simp [AL,Cl]
 by_cases h12 : op = 12
 ·subst h12
  refine sg [.a,.a,.a,.a,.a,.a,.a,.a,.a,.a,.a,.a,.a,.a,.a,.a,.a,.a,.a,.a,.a,.a,.a,.a,.a,.a] rfl (by simp) ?_
  refine Ab ⟨_,rfl,tV ?_,trivial⟩
  simp [AL,Cl]
 by_cases h13 : op = 13
 ·subst h13
  refine sg [.a,.a,.a,.a,.a,.a,.a,.a,.a,.a,.a,.a,.a,.a,.a,.a,.a,.a,.a,.a,.a,.a,.a,.a,.a,.a,.a] rfl (by simp) ?_
  refine Ab ⟨_,rfl,tV ?_,trivial⟩
  simp [AL,Cl]
 by_cases h18 : op = 18
 ·subst h18
  refine sg [.a,.a,.a,.a,.a,.a,.a,.a,.a,.a,.a,.a,.a,.a,.a,.a,.a,.a,.a,.a,.a,.a,.a,.a,.a,.a,.a,.a] rfl (by simp) ?_
  refine Ab ⟨_,rfl,tV ?_,trivial⟩
  simp [AL,Cl]
 by_cases h22 : op = 22
 ·subst h22
  refine sg [.a,.a,.a,.a,.a,.a,.a,.a,.a,.a,.a,.a,.a,.a,.a,.a,.a,.a,.a,.a,.a,.a,.a,.a,.a,.a,.a,.a] rfl (by simp) ?_
  refine Ab ⟨_,rfl,tV ?_,trivial⟩
  simp [AL,Cl]
 refine sg [.f,.f,.f,.f,.f,.f,.f,.f,.f,.f,.f,.f,.f,.f,.f,.f,.f,.f,.f,.f,.f,.f,.f,.f,.f,.f,.f,.f] rfl (by simp [h1,h2,h3,h21,h25,h28,h4,h5,h27,h7,h8,h14,h15,h16,h17,h19,h20,h23,h26,h24,h6,h9,h10,h11,h12,h13,h18,h22]) ?_
 refine Ab ⟨_,rfl,tV ?_,trivial⟩
 simp [AL,Cl,h1,h2,h3,h21,h25,h28,h4,h5,h27,h7,h8,h14,h15,h16,h17,h19,h20,h23,h26,h24,h6,h9,h10,h11,h12,h13,h18,h22]
end Go.Hk
namespace Go.Hk
open Go.Proofs
def Q5 (op n : Int) (x : Str) (k p : Nat) : Bool := let h := AL op k p
 h.is && ((k : Int) == h.kids) && (h.n || n == 0) && (h.text || x == []) && (h.pats || (p : Int) == 0)
def lastB (op : Int) (x : Str) (k p : Nat) : Bool := !((AL op k p).text && op != 14) || CG x
theorem BO (op n : Int) (x : Str) (ks : List Tm) (ps : List Ty) (hl : lastB op x ks.length ps.length = true) : DGo Tryz.prog Tryz.f186.ntmps (Db []) (Nt YV Tryz.f186.results.toList (.ret Fw []))
  [.code (EQ Tryz.f186 4)] [(1,.ref 1 0),(2,.ref 2 0)] [(2,some (.immb 248 4 (Cl (AL op ks.length ps.length)))),(1,some (.immb 141 5 (Bz (.mk op n x ks ps))))] [3,4] := by
 refine sd [] rfl (by simp [Af]) ?_
 refine Aa rfl (fun h => ?_) (fun h => ?_)
 ·refine sd [] rfl (by simp) ?_
  refine Ac rfl (fun _ => Et x) (by simp [Af]) ?_
  refine sg [] rfl (by simp) ?_
  have hx : CG x = true := by simp [lastB] at hl h;grind
  refine Ac rfl (fun _ => AA _ hx) (by simp) ?_
  refine sg [] rfl (by simp) ?_
  exact Bu ⟨_,rfl,rfl,trivial⟩
 ·refine sd [] rfl (by simp) ?_
  exact Bu ⟨_,rfl,rfl,trivial⟩
theorem Ce (op n : Int) (x : Str) (ks : List Tm) (ps : List Ty) (hl : lastB op x ks.length ps.length = false) : DGo Tryz.prog Tryz.f186.ntmps (Db []) (Nt YV Tryz.f186.results.toList (.pan Dm))
  [.code (EQ Tryz.f186 4)] [(1,.ref 1 0),(2,.ref 2 0)] [(2,some (.immb 248 4 (Cl (AL op ks.length ps.length)))),(1,some (.immb 141 5 (Bz (.mk op n x ks ps))))] [3,4] := by
 refine sd [] rfl (by simp [Af]) ?_
 refine Aa rfl (fun h => ?_) (fun h => ?_)
 ·refine sd [] rfl (by simp) ?_
  refine Ac rfl (fun _ => Et x) (by simp [Af]) ?_
  refine sg [] rfl (by simp) ?_
  have hx : CG x = false := by simp [lastB] at hl h;grind
  exact An [] rfl (by simp) (AV _ hx) trivial rfl rfl
 ·exfalso
  simp [lastB] at hl h
  grind
def BK (op n : Int) (x : Str) (ps : List Ty) : Bool :=
 if op = 1 then Bs n
 else if op = 2 then n == 0 || n == 1
 else if op = 24 then decide (0 ≤ n) && decide (n < 4)
 else if op = 14 then BZ x
 else if op = 15 then decide (1 ≤ (ps.length : Int)) && decide ((ps.length : Int) ≤ 5) && ps.all AK
 else true
def NR (op n : Int) (x : Str) (k : Nat) (ps : List Ty) : Bool := Q5 op n x k ps.length && BK op n x ps && lastB op x k ps.length
theorem N5 (op n : Int) (x : Str) (ks : List Tm) (ps : List Ty) (hy : NR op n x ks.length ps = true) : AP Tryz.prog 186 [.imm (.agg (Bz (.mk op n x ks ps)))] [] (.ret Fw []) := by
 simp only [NR] at hy
 refine Ae Er Tryz.func186 (by decide +kernel) rfl [1,2,3,4] rfl rfl ?_
 refine sg [] rfl (by simp) ?_
 refine Ac rfl (fun _ => PO op n x ks ps) (by simp [Af]) ?_
 refine sg [] rfl (by simp [Af,Cl] <;> grind) ?_
 simp only [Bool.and_eq_true] at hy
 obtain ⟨⟨hh,he⟩,hl⟩ := hy
 refine Ac rfl (fun _ => AA _ (by simp [Q5] at hh ⊢;grind)) (by simp) ?_
 by_cases h1 : op = 1
 ·subst h1
  refine sg [.a] rfl (by simp [Af]) ?_
  refine Ac rfl (fun _ => Gf n) (by simp) ?_
  refine sg [] rfl (by simp) ?_
  simp [BK] at he
  refine Ac rfl (fun _ => AA _ (by first | exact he | (simp at he ⊢;grind) | (simp;grind) | grind)) (by simp) ?_
  refine sg [.s] rfl (by simp) ?_
  exact Ad (BO _ n x ks ps hl) ⟨rfl,rfl,trivial⟩ ⟨rfl,rfl,trivial⟩ rfl
 by_cases h2 : op = 2
 ·subst h2
  refine sg [.a,.a] rfl (by simp [Af]) ?_
  simp [BK] at he
  refine Ac rfl (fun _ => AA _ (by first | exact he | (simp at he ⊢;grind) | (simp;grind) | grind)) (by simp) ?_
  refine sg [.s] rfl (by simp) ?_
  exact Ad (BO _ n x ks ps hl) ⟨rfl,rfl,trivial⟩ ⟨rfl,rfl,trivial⟩ rfl
 by_cases h24 : op = 24
 ·subst h24
  refine sg [.a,.a,.a] rfl (by simp [Af]) ?_
  simp [BK] at he
  refine Ac rfl (fun _ => AA _ (by first | exact he | (simp at he ⊢;grind) | (simp;grind) | grind)) (by simp) ?_
  refine sg [.s] rfl (by simp) ?_
  exact Ad (BO _ n x ks ps hl) ⟨rfl,rfl,trivial⟩ ⟨rfl,rfl,trivial⟩ rfl
 by_cases h14 : op = 14
 ·subst h14
  refine sg [.a,.a,.a,.a] rfl (by simp [Af]) ?_
  refine Ac rfl (fun _ => Cf x) (by simp) ?_
  refine sg [] rfl (by simp) ?_
  simp [BK] at he
  refine Ac rfl (fun _ => AA _ (by first | exact he | (simp at he ⊢;grind) | (simp;grind) | grind)) (by simp) ?_
  refine sg [.s] rfl (by simp) ?_
  exact Ad (BO _ n x ks ps hl) ⟨rfl,rfl,trivial⟩ ⟨rfl,rfl,trivial⟩ rfl
 by_cases h15 : op = 15
 ·subst h15
  refine sg [.a,.a,.a,.a,.a] rfl (by simp [Af]) ?_
  simp [BK] at he
  refine Ac rfl (fun _ => AA _ (by simp;grind)) (by simp) ?_
  refine sg [] rfl (by simp) ?_
  refine Ah (fun i : Nat => [(101,.imm (.int .i64 i)),(100,.imm (.int .i64 ps.length)),(99,.imm (.sl (Bg ps))),(1,.ref 1 0),(2,.ref 2 0)]) (fun _ => [(2,some (.immb 248 4 (Cl (AL 15 ks.length ps.length)))),(1,some (.immb 141 5 (Bz (.mk 15 n x ks ps))))]) [3,4] (fun i => ps.length - i)
   (fun i => i ≤ ps.length ∧ (ps.drop i).all AK = true) 0 ⟨Nat.zero_le _,by simpa using he.2⟩ ⟨rfl,Aq (by simp),rfl,rfl,rfl,trivial⟩ ⟨rfl,rfl,trivial⟩ rfl fun i hi ih => ?_
  refine sd [] rfl (by simp) ?_
  have hi2 := hi.2
  refine Aa rfl (fun h => ?_) (fun h => ?_)
  ·simp at h
   obtain ⟨t,ht⟩ := Ai h
   rw [Aj ht,List.all_cons] at hi2
   refine sd [] rfl (by simp) ?_
   refine si rfl (c := dTyc t) (fun _ => ⟨by simp,by simpa using Ao ht,by simp⟩) (by simp) ?_
   refine sg [] rfl (by simp) ?_
   refine Ac rfl (fun _ => Hf t) (by simp) ?_
   refine sg [] rfl (by simp) ?_
   simp only [Bool.and_eq_true] at hi2
   have hz := hi2.1
   refine Ac rfl (fun _ => AA _ (by first | rfl | (rw [hz];rfl))) (by simp) ?_
   refine sg [] rfl (by simp) ?_
   exact Ad (ih (i + 1) (by omega) ⟨by omega,hi2.2⟩) ⟨Aq (Bq (by omega) (by omega)),rfl,rfl,rfl,rfl,trivial⟩ ⟨rfl,rfl,trivial⟩ rfl
  ·simp at h
   rw [List.drop_eq_nil_of_le (by omega)] at hi2
   refine sd [.s] rfl (by simp) ?_
   exact Ad (BO _ n x ks ps hl) ⟨rfl,rfl,trivial⟩ ⟨rfl,rfl,trivial⟩ rfl
 refine sg [.f,.f,.f,.f,.f,.s] rfl (by simp [h1,h2,h24,h14,h15]) ?_
 exact Ad (BO _ n x ks ps hl) ⟨rfl,rfl,trivial⟩ ⟨rfl,rfl,trivial⟩ rfl
theorem VP (op n : Int) (x : Str) (ks : List Tm) (ps : List Ty) (hy : NR op n x ks.length ps = false) : AP Tryz.prog 186 [.imm (.agg (Bz (.mk op n x ks ps)))] [] (.pan Dm) := by
 simp only [NR] at hy
 refine Ae Er Tryz.func186 (by decide +kernel) rfl [1,2,3,4] rfl rfl ?_
 refine sg [] rfl (by simp) ?_
 refine Ac rfl (fun _ => PO op n x ks ps) (by simp [Af]) ?_
 refine sg [] rfl (by simp [Af,Cl] <;> grind) ?_
 by_cases hh : Q5 op n x ks.length ps.length = true
 rotate_left
 ·exact An [] rfl (by simp) (AV _ (by simp [Q5] at hh ⊢;grind)) trivial rfl rfl
 rw [hh] at hy
 refine Ac rfl (fun _ => AA _ (by simp [Q5] at hh ⊢;grind)) (by simp) ?_
 by_cases h1 : op = 1
 ·subst h1
  refine sg [.a] rfl (by simp [Af]) ?_
  refine Ac rfl (fun _ => Gf n) (by simp) ?_
  refine sg [] rfl (by simp) ?_
  by_cases he : BK 1 n x ps = true
  ·have hl : lastB 1 x ks.length ps.length = false := by simpa [he] using hy
   simp [BK] at he
   refine Ac rfl (fun _ => AA _ (by first | exact he | (simp at he ⊢;grind) | (simp;grind) | grind)) (by simp) ?_
   refine sg [.s] rfl (by simp) ?_
   exact Ad (Ce _ n x ks ps hl) ⟨rfl,rfl,trivial⟩ ⟨rfl,rfl,trivial⟩ rfl
  ·simp [BK] at he
   exact An [] rfl (by simp) (AV _ (by first | exact he | (simp at he ⊢;grind) | (simp;grind) | grind)) trivial rfl rfl
 by_cases h2 : op = 2
 ·subst h2
  refine sg [.a,.a] rfl (by simp [Af]) ?_
  by_cases he : BK 2 n x ps = true
  ·have hl : lastB 2 x ks.length ps.length = false := by simpa [he] using hy
   simp [BK] at he
   refine Ac rfl (fun _ => AA _ (by first | exact he | (simp at he ⊢;grind) | (simp;grind) | grind)) (by simp) ?_
   refine sg [.s] rfl (by simp) ?_
   exact Ad (Ce _ n x ks ps hl) ⟨rfl,rfl,trivial⟩ ⟨rfl,rfl,trivial⟩ rfl
  ·simp [BK] at he
   exact An [] rfl (by simp) (AV _ (by first | exact he | (simp at he ⊢;grind) | (simp;grind) | grind)) trivial rfl rfl
 by_cases h24 : op = 24
 ·subst h24
  refine sg [.a,.a,.a] rfl (by simp [Af]) ?_
  by_cases he : BK 24 n x ps = true
  ·have hl : lastB 24 x ks.length ps.length = false := by simpa [he] using hy
   simp [BK] at he
   refine Ac rfl (fun _ => AA _ (by first | exact he | (simp at he ⊢;grind) | (simp;grind) | grind)) (by simp) ?_
   refine sg [.s] rfl (by simp) ?_
   exact Ad (Ce _ n x ks ps hl) ⟨rfl,rfl,trivial⟩ ⟨rfl,rfl,trivial⟩ rfl
  ·simp [BK] at he
   exact An [] rfl (by simp) (AV _ (by first | exact he | (simp at he ⊢;grind) | (simp;grind) | grind)) trivial rfl rfl
 by_cases h14 : op = 14
 ·subst h14
  refine sg [.a,.a,.a,.a] rfl (by simp [Af]) ?_
  refine Ac rfl (fun _ => Cf x) (by simp) ?_
  refine sg [] rfl (by simp) ?_
  by_cases he : BK 14 n x ps = true
  ·have hl : lastB 14 x ks.length ps.length = false := by simpa [he] using hy
   simp [BK] at he
   refine Ac rfl (fun _ => AA _ (by first | exact he | (simp at he ⊢;grind) | (simp;grind) | grind)) (by simp) ?_
   refine sg [.s] rfl (by simp) ?_
   exact Ad (Ce _ n x ks ps hl) ⟨rfl,rfl,trivial⟩ ⟨rfl,rfl,trivial⟩ rfl
  ·simp [BK] at he
   exact An [] rfl (by simp) (AV _ (by first | exact he | (simp at he ⊢;grind) | (simp;grind) | grind)) trivial rfl rfl
 by_cases h15 : op = 15
 ·subst h15
  refine sg [.a,.a,.a,.a,.a] rfl (by simp [Af]) ?_
  by_cases he : (decide (1 ≤ (ps.length : Int)) && decide ((ps.length : Int) ≤ 5)) = true
  rotate_left
  ·exact An [] rfl (by simp) (AV _ (by simp at he ⊢;grind)) trivial rfl rfl
  have he5 : ps.length ≤ 5 := by simp at he;omega
  have hy : ps.all AK = false ∨ lastB 15 x ks.length ps.length = false := by
   have e : BK 15 n x ps = ((decide (1 ≤ (ps.length : Int)) && decide ((ps.length : Int) ≤ 5)) && ps.all AK) := by simp only [BK];rfl
   rw [e,he] at hy
   simpa only [Bool.true_and,Bool.and_eq_false_iff] using hy
  refine Ac rfl (fun _ => AA _ (by simp at he ⊢;grind)) (by simp) ?_
  refine sg [] rfl (by simp) ?_
  refine Ah (fun i : Nat => [(101,.imm (.int .i64 i)),(100,.imm (.int .i64 ps.length)),(99,.imm (.sl (Bg ps))),(1,.ref 1 0),(2,.ref 2 0)]) (fun _ => [(2,some (.immb 248 4 (Cl (AL 15 ks.length ps.length)))),(1,some (.immb 141 5 (Bz (.mk 15 n x ks ps))))]) [3,4] (fun i => ps.length - i)
   (fun i => i ≤ ps.length ∧ ((ps.drop i).all AK = false ∨ lastB 15 x ks.length ps.length = false)) 0 ⟨Nat.zero_le _,hy⟩ ⟨rfl,Aq (by simp),rfl,rfl,rfl,trivial⟩ ⟨rfl,rfl,trivial⟩ rfl fun i hi ih => ?_
  refine sd [] rfl (by simp) ?_
  have hi2 := hi.2
  refine Aa rfl (fun h => ?_) (fun h => ?_)
  ·simp at h
   obtain ⟨t,ht⟩ := Ai h
   rw [Aj ht,List.all_cons] at hi2
   refine sd [] rfl (by simp) ?_
   refine si rfl (c := dTyc t) (fun _ => ⟨by simp,by simpa using Ao ht,by simp⟩) (by simp) ?_
   refine sg [] rfl (by simp) ?_
   refine Ac rfl (fun _ => Hf t) (by simp) ?_
   refine sg [] rfl (by simp) ?_
   cases hz : AK t with
   | true =>
    rw [hz,Bool.true_and] at hi2
    refine Ac rfl (fun _ => AA _ (by first | rfl | (rw [hz];rfl))) (by simp) ?_
    refine sg [] rfl (by simp) ?_
    exact Ad (ih (i + 1) (by omega) ⟨by omega,hi2⟩) ⟨Aq (Bq (by omega) (by omega)),rfl,rfl,rfl,rfl,trivial⟩ ⟨rfl,rfl,trivial⟩ rfl
   | false => exact An [] rfl (by simp) (AV _ (by first | rfl | (rw [hz];rfl))) trivial rfl rfl
  ·simp at h
   rw [List.drop_eq_nil_of_le (by omega)] at hi2
   refine sd [.s] rfl (by simp) ?_
   exact Ad (Ce _ n x ks ps (by simpa using hi2)) ⟨rfl,rfl,trivial⟩ ⟨rfl,rfl,trivial⟩ rfl
 refine sg [.f,.f,.f,.f,.f,.s] rfl (by simp [h1,h2,h24,h14,h15]) ?_
 exact Ad (Ce _ n x ks ps (by simpa [BK,h1,h2,h24,h14,h15] using hy)) ⟨rfl,rfl,trivial⟩ ⟨rfl,rfl,trivial⟩ rfl
end Go.Hk
