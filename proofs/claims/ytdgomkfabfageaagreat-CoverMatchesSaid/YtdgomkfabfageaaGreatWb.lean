/- A function that does something and tells whether it gave up, by contract. (And what it stands on.) -/
import Derived.Test.YtdgomkfabfageaaGreatWa
import Derived.Test.YtdgomkfabfageaaGreatProg
import Derived.KernelRfl
import Derived.RowKit3
set_option linter.unusedSimpArgs false
set_option linter.unusedVariables false

set_option maxRecDepth 100000
namespace Go.Hk
section
variable {P : Program} {n : Nat} {F : List Nat} {Q : DQ} {all : List Oper} {env env' : Env} {st st' : St} {ids ids' : List Nat} {k : List DI} {Pn : V → Prop}
theorem Dx (h : ∀ i,lk st i = lk st' i) {id : Nat} {blk : Blk} : Al st id blk ↔ Al st' id blk := by unfold Al;rw [h]
theorem DF (h : ∀ i,lk st i = lk st' i) {μ : Mu} {b : Nat} : AG μ st b ↔ AG μ st' b := by
 unfold AG
 constructor <;> rintro ⟨id,blk,g,h1,h2⟩
 ·exact ⟨id,blk,g,(Dx h).1 h1,h2⟩
 ·exact ⟨id,blk,g,(Dx h).2 h1,h2⟩
theorem StRep.congr {I : Imm} {μ : Mu} {w : World} (hs : StRep I μ st ids w) (h : ∀ i,lk st i = lk st' i) : StRep I μ st' ids w :=
 {imm := hs.imm,blk := fun id blk hl => hs.blk id blk ((Dx h).2 hl),apart := fun id blk g b hl => hs.apart id blk g b ((Dx h).2 hl),
  inj := fun i j bi bj gi gj b hi hj => hs.inj i j bi bj gi gj b ((Dx h).2 hi) ((Dx h).2 hj),nodup := hs.nodup,idsFree := hs.idsFree }
theorem StRep.perm {I : Imm} {μ : Mu} {w : World} (hs : StRep I μ st ids w) (h : ids.Perm ids') : StRep I μ st ids' w :=
 {hs with nodup := h.nodup_iff.1 hs.nodup,idsFree := fun i hi => hs.idsFree i (h.mem_iff.2 hi) }
theorem Ext.congr {I J : Imm} {μ ν : Mu} {w w' : World} {st1 st1' : St} (h : Ext I μ st w J ν st' w') (h1 : ∀ i,lk st i = lk st1 i) (h2 : ∀ i,lk st' i = lk st1' i) : Ext I μ st1 w J ν st1' w' :=
 {h with block := fun b hb ho => h.block b hb (fun hx => ho ((DF h1).1 hx)),fresh := fun b hb ho => (DF h1).1 (h.fresh b hb ((DF h2).2 ho)),old := fun b hb ho => h.old b hb (fun hx => ho ((DF h1).1 hx)) }
theorem MarksOk.congr {I : Imm} {μ : Mu} {w : World} {ds : List Deferred} {st1 : St} (h : MarksOk I μ st w ds) (h1 : ∀ i,lk st i = lk st1 i) : MarksOk I μ st1 w ds := by
 obtain ⟨rs,q1,q2,q3⟩ := h
 exact ⟨rs,q1,q2,fun r hr => ⟨(q3 r hr).1,(q3 r hr).2.1,fun ho => (q3 r hr).2.2 ((DF h1).2 ho)⟩⟩
theorem Jo {I : Imm} {μ : Mu} {a : Act} {w : World} (hI : I.ok w) (hs : a.tmps.size = n) (hd : MarksOk I μ [] w a.defers) : Conc n I μ [] [] [] a w where
 imm := hI
 blk := fun _ _ h => by simp [Al,lk] at h
 apart := fun _ _ _ _ h => by simp [Al,lk] at h
 inj := fun _ _ _ _ _ _ _ h => by simp [Al,lk] at h
 nodup := .nil
 idsFree := fun _ h => by simp at h
 size := hs
 env := fun _ _ h => by simp [lk] at h
 defers := hd
def Iv (P : Program) (Pn : V → Prop) (n : Nat) (all : List Oper) : List Oper → List Stp → Env → St → Prop
 | [],[],_,_ => True
 | o :: os,s :: ss,env,st => LD P Pn all o env st s.rd s.fr s.wr s.d ∧ (∀ t,o.dst = some t → t < n) ∧ (∀ c,o.op ≠ .defer c) ∧ Iv P Pn n all os ss (Bo o.dst s.d env) (s.wr ++ st)
 | _,_,_,_ => False
def B7 (S : Nat → Bool) : List Oper → List Stp → Nat → Env → Env
 | o :: os,s :: ss,i,env => B7 S os ss (i + 1) (bif S i then Bo o.dst s.d env else env)
 | _,_,_,env => env
def Cz (S : Nat → Bool) : List Stp → Nat → St → St
 | s :: ss,i,st => Cz S ss (i + 1) (bif S i then s.wr ++ st else st)
 | [],_,st => st
def Dd (S : Nat → Bool) : List Stp → Nat → List Nat → List Nat
 | s :: ss,i,l => (bif S i then [] else s.fr) ++ Dd S ss (i + 1) l
 | [],_,l => l
theorem Mt {dst : Option Nat} {d : D} {t : Nat} (h : dst ≠ some t) : lk (Bo dst d env) t = lk env t := by
 cases dst with
 | none => rfl
 | some s => exact lk_cons_ne _ _ (fun e => h (by rw [e]))
theorem Gb {dst : Option Nat} {d : D} {t : Nat} (h : dst = some t) : lk (Bo dst d env) t = some d := by subst h;exact lk_cons_self _ _ _
theorem Hq : ∀ {wr : St} {i : Nat},i ∉ wr.map (·.1) → lk (wr ++ st) i = lk st i
 | [],_,_ => rfl
 | (k,x) :: r,i,h => by
  simp only [List.map_cons,List.mem_cons,not_or] at h
  rw [List.cons_append,lk_cons_ne _ _ (fun e => h.1 e.symm)]
  exact Hq h.2
theorem E6 : ∀ {wr : St} {i : Nat},i ∈ wr.map (·.1) → lk (wr ++ st) i = lk wr i
 | [],_,h => by simp at h
 | (k,x) :: r,i,h => by
  by_cases hk : k = i
  ·subst hk;rw [List.cons_append,lk_cons_self,lk_cons_self]
  ·rw [List.cons_append,lk_cons_ne _ _ hk,lk_cons_ne _ _ hk]
   simp only [List.map_cons,List.mem_cons] at h
   exact E6 (h.resolve_left fun e => hk e.symm)
theorem DK {S S' : Nat → Bool} {t : Nat} : ∀ (os : List Oper) (ss : List Stp) (i : Nat) (env env' : Env),lk env t = lk env' t →
  (∀ j o,os[j]? = some o → o.dst = some t → S (i + j) = S' (i + j)) → lk (B7 S os ss i env) t = lk (B7 S' os ss i env') t
 | [],ss,i,env,env',h,_ => by cases ss <;> simpa [B7] using h
 | o :: os,[],i,env,env',h,_ => by simpa [B7] using h
 | o :: os,s :: ss,i,env,env',h,hS => by
  simp only [B7]
  refine DK os ss (i + 1) _ _ ?_ fun j o' hj hd => by
   have := hS (j + 1) o' (by simpa using hj) hd
   rwa [show i + 1 + j = i + (j + 1) by omega]
  by_cases hd : o.dst = some t
  ·have := hS 0 o rfl hd
   simp only [Nat.add_zero] at this
   rw [this]
   cases S' i with
   | true => simp [Gb hd]
   | false => simpa using h
  ·have h1 : ∀ (c : Bool) (e : Env),lk (bif c then Bo o.dst s.d e else e) t = lk e t := fun c e => by cases c <;> simp [Mt hd]
   rw [h1,h1,h]
theorem Ex {S S' : Nat → Bool} {t : Nat} : ∀ (ss : List Stp) (i : Nat) (st st' : St),lk st t = lk st' t →
  (∀ j s,ss[j]? = some s → t ∈ s.wr.map (·.1) → S (i + j) = S' (i + j)) → lk (Cz S ss i st) t = lk (Cz S' ss i st') t
 | [],i,st,st',h,_ => by simpa [Cz] using h
 | s :: ss,i,st,st',h,hS => by
  simp only [Cz]
  refine Ex ss (i + 1) _ _ ?_ fun j o' hj hd => by
   have := hS (j + 1) o' (by simpa using hj) hd
   rwa [show i + 1 + j = i + (j + 1) by omega]
  by_cases hd : t ∈ s.wr.map (·.1)
  ·have := hS 0 s rfl hd
   simp only [Nat.add_zero] at this
   rw [this]
   cases S' i with
   | true => simp [E6 hd]
   | false => simpa using h
  ·have h1 : ∀ (c : Bool) (e : St),lk (bif c then s.wr ++ e else e) t = lk e t := fun c e => by cases c <;> simp [Hq hd]
   rw [h1,h1,h]
theorem Gk {S : Nat → Bool} : ∀ (os : List Oper) (ss : List Stp) (i : Nat) (env : Env),(∀ j,i ≤ j → S j = false) → B7 S os ss i env = env
 | [],ss,i,env,_ => by cases ss <;> rfl
 | o :: os,[],i,env,_ => rfl
 | o :: os,s :: ss,i,env,h => by
  simp only [B7,h i (Nat.le_refl i),cond_false]
  exact Gk os ss (i + 1) env fun j hj => h j (by omega)
theorem F0 {S : Nat → Bool} : ∀ (ss : List Stp) (i : Nat) (st : St),(∀ j,i ≤ j → S j = false) → Cz S ss i st = st
 | [],i,st,_ => rfl
 | s :: ss,i,st,h => by
  simp only [Cz,h i (Nat.le_refl i),cond_false]
  exact F0 ss (i + 1) st fun j hj => h j (by omega)
theorem Oq {S : Nat → Bool} {t : Nat} : ∀ (os : List Oper) (ss : List Stp) (k : Nat) (env : Env) (i : Nat) (o : Oper) (s : Stp),os[i]? = some o → ss[i]? = some s → o.dst = some t → S (k + i) = true →
  (∀ j o',i < j → os[j]? = some o' → o'.dst = some t → S (k + j) = false) → lk (B7 S os ss k env) t = some s.d
 | [],ss,k,env,i,o,s,h,_,_,_,_ => by simp at h
 | o1 :: os,[],k,env,i,o,s,_,h,_,_,_ => by simp at h
 | o1 :: os,s1 :: ss,k,env,0,o,s,h1,h2,hd,hS,hno => by
  simp at h1 h2;subst h1;subst h2
  simp only [B7]
  have := DK (S := S) (S' := fun _ => false) (t := t) os ss (k + 1) (bif S k then Bo o1.dst s1.d env else env) (bif S k then Bo o1.dst s1.d env else env) rfl fun j o' hj hd' => by
   have := hno (j + 1) o' (by omega) (by simpa using hj) hd'
   rwa [show k + 1 + j = k + (j + 1) by omega]
  rw [this,Gk _ _ _ _ fun _ _ => rfl]
  simp only [Nat.add_zero] at hS
  simp [hS,Gb hd]
 | o1 :: os,s1 :: ss,k,env,i + 1,o,s,h1,h2,hd,hS,hno => by
  simp only [B7]
  exact Oq os ss (k + 1) _ i o s (by simpa using h1) (by simpa using h2) hd (by rwa [show k + 1 + i = k + (i + 1) by omega]) fun j o' hj hj' hd' => by
   have := hno (j + 1) o' (by omega) (by simpa using hj') hd'
   rwa [show k + 1 + j = k + (j + 1) by omega]
theorem PK {S : Nat → Bool} {t : Nat} : ∀ (ss : List Stp) (k : Nat) (st : St) (i : Nat) (s : Stp),ss[i]? = some s → t ∈ s.wr.map (·.1) → S (k + i) = true →
  (∀ j s',i < j → ss[j]? = some s' → t ∈ s'.wr.map (·.1) → S (k + j) = false) → lk (Cz S ss k st) t = lk s.wr t
 | [],k,st,i,s,h,_,_,_ => by simp at h
 | s1 :: ss,k,st,0,s,h2,hd,hS,hno => by
  simp at h2;subst h2
  simp only [Cz]
  have := Ex (S := S) (S' := fun _ => false) (t := t) ss (k + 1) (bif S k then s1.wr ++ st else st) (bif S k then s1.wr ++ st else st) rfl fun j o' hj hd' => by
   have := hno (j + 1) o' (by omega) (by simpa using hj) hd'
   rwa [show k + 1 + j = k + (j + 1) by omega]
  rw [this,F0 _ _ _ fun _ _ => rfl]
  simp only [Nat.add_zero] at hS
  simp only [hS,cond_true]
  exact E6 hd
 | s1 :: ss,k,st,i + 1,s,h2,hd,hS,hno => by
  simp only [Cz]
  exact PK ss (k + 1) _ i s (by simpa using h2) hd (by rwa [show k + 1 + i = k + (i + 1) by omega]) fun j o' hj hj' hd' => by
   have := hno (j + 1) o' (by omega) (by simpa using hj') hd'
   rwa [show k + 1 + j = k + (j + 1) by omega]
theorem M0 {S S' : Nat → Bool} : ∀ (ss : List Stp) (k : Nat) (l : List Nat) (i : Nat) (s : Stp),ss[i]? = some s → S (k + i) = false → S' (k + i) = true → (∀ j,j ≠ k + i → S' j = S j) →
  (Dd S ss k l).Perm (s.fr ++ Dd S' ss k l)
 | [],k,l,i,s,h,_,_,_ => by simp at h
 | s1 :: ss,k,l,0,s,h2,hS,hS',hno => by
  simp at h2;subst h2
  simp only [Nat.add_zero] at hS hS' hno
  simp only [Dd,hS,hS',cond_false,cond_true,List.nil_append]
  have : ∀ (ss : List Stp) (j : Nat),k < j → Dd S ss j l = Dd S' ss j l := by
   intro ss
   induction ss with
   | nil => intro j _;rfl
   | cons s ss ih => intro j hj;simp only [Dd,hno j (by omega),ih (j + 1) (by omega)]
  rw [this ss (k + 1) (by omega)]
 | s1 :: ss,k,l,i + 1,s,h2,hS,hS',hno => by
  simp only [Dd,hno k (by omega)]
  have := M0 (S := S) (S' := S') ss (k + 1) l i s (by simpa using h2) (by rwa [show k + 1 + i = k + (i + 1) by omega]) (by rwa [show k + 1 + i = k + (i + 1) by omega]) (fun j hj => hno j (by omega))
  exact (List.Perm.append_left _ this).trans (by
   rw [← List.append_assoc,← List.append_assoc]
   exact List.Perm.append_right _ List.perm_append_comm)
theorem Ru : ∀ (os : List Oper) (ss : List Stp) (k : Nat) (env : Env) (st : St),Iv P Pn n all os ss env st → ∀ (i : Nat) (o : Oper),os[i]? = some o →
  ∃ s,ss[i]? = some s ∧ LD P Pn all o (B7 (fun j => decide (j < k + i)) os ss k env) (Cz (fun j => decide (j < k + i)) ss k st) s.rd s.fr s.wr s.d ∧ (∀ t,o.dst = some t → t < n) ∧ (∀ c,o.op ≠ .defer c)
 | [],_,_,_,_,_,i,o,h => by simp at h
 | o1 :: os,[],_,_,_,h,_,_,_ => by simp [Iv] at h
 | o1 :: os,s1 :: ss,k,env,st,h,0,o,ho => by
  simp at ho;subst ho
  obtain ⟨h1,h2,h3,_⟩ := h
  refine ⟨s1,rfl,?_,h2,h3⟩
  rw [Gk _ _ _ _ (fun j hj => by simp;omega),F0 _ _ _ (fun j hj => by simp;omega)]
  exact h1
 | o1 :: os,s1 :: ss,k,env,st,h,i + 1,o,ho => by
  obtain ⟨_,_,_,h4⟩ := h
  obtain ⟨s,q1,q2,q3⟩ := Ru os ss (k + 1) _ _ h4 i o (by simpa using ho)
  refine ⟨s,by simpa using q1,?_,q3⟩
  have e : k + 1 + i = k + (i + 1) := by omega
  have hk : decide (k < k + (i + 1)) = true := by simp
  rw [e] at q2
  simp only [B7,Cz,hk,cond_true]
  exact q2
theorem Jv : ∀ (os : List Oper) (ss : List Stp) (env : Env) (st : St),Iv P Pn n all os ss env st → ss.length = os.length
 | [],[],_,_,_ => rfl
 | [],_ :: _,_,_,h => by simp [Iv] at h
 | _ :: _,[],_,_,h => by simp [Iv] at h
 | _ :: os,_ :: ss,_,_,h => by simp [Jv os ss _ _ h.2.2.2]
theorem IW {A : Array Oper} : ∀ {os : List Oper} {fs : List (List Nat × List Nat)} {i : Nat} {o : Oper} {f : List Nat × List Nat},os[i]? = some o → fs[i]? = some f → (Oc A os fs)[i]? = some (Ih A o f)
 | [],_,i,o,f,h,_ => by simp at h
 | _ :: _,[],i,o,f,_,h => by simp at h
 | _ :: _,_ :: _,0,o,f,h1,h2 => by simp at h1 h2;simp [Oc,h1,h2]
 | _ :: os,_ :: fs,i + 1,o,f,h1,h2 => by
  simp only [Oc,List.getElem?_cons_succ]
  exact IW (by simpa using h1) (by simpa using h2)
def Ov (S : Nat → Bool) : Nat → Nat
 | 0 => 0
 | m + 1 => Ov S m + (bif S m then 0 else 1)
theorem GW {S : Nat → Bool} : ∀ {m : Nat},Ov S m = 0 → ∀ j,j < m → S j = true
 | 0,_,j,h => by omega
 | m + 1,h,j,hj => by
  simp only [Ov,Nat.add_eq_zero_iff] at h
  rcases Nat.lt_succ_iff_lt_or_eq.1 hj with h' | rfl
  ·exact GW h.1 j h'
  ·cases hS : S j with
   | true => rfl
   | false => simp [hS] at h
theorem Rs {S S' : Nat → Bool} : ∀ {m : Nat},(∀ j,j < m → S' j = S j) → Ov S' m = Ov S m
 | 0,_ => rfl
 | m + 1,h => by
  have := Rs (S := S) (S' := S') (m := m) fun j hj => h j (by omega)
  simp only [Ov,h m (by omega),this]
theorem Jr {S S' : Nat → Bool} {i : Nat} (h1 : S i = false) (h2 : S' i = true) (h3 : ∀ j,j ≠ i → S' j = S j) : ∀ {m : Nat},i < m → Ov S' m + 1 = Ov S m
 | 0,h => by omega
 | m + 1,h => by
  rcases Nat.lt_succ_iff_lt_or_eq.1 h with h' | rfl
  ·have := Jr h1 h2 h3 h'
   simp only [Ov,h3 m (by omega)]
   omega
  ·have := Rs (S := S) (S' := S') (m := i) fun j hj => h3 j (by omega)
   simp only [Ov,h1,h2,cond_false,cond_true]
   omega
def Ft (s : Stp) : List Nat × List Nat := (s.rd,s.wr.map (·.1))
def VJ : Nat → Bool := fun _ => true
def LZ (Q : DQ) (x : V) : Prop := Q (.panic x) [] [] []
def DD (P : Program) (n : Nat) (F : List Nat) (Q : DQ) (all rest : List Oper) (fs : List (List Nat × List Nat)) (k : List DI) (env : Env) (st : St) (ids : List Nat) : Prop :=
 ∃ ss idsf,ids = Dd (fun _ => false) ss 0 idsf ∧ Iv P (LZ Q) n all rest ss env st ∧ Ju all (fs ++ ss.map Ft) = true ∧ DGo P n F Q k (B7 VJ rest ss 0 env) (Cz VJ ss 0 st) idsf
theorem Iy {S S' : Nat → Bool} : ∀ (os : List Oper) (ss : List Stp) (i j : Nat) (env : Env) (st : St) (l : List Nat),(∀ m,S (i + m) = S' (j + m)) → B7 S os ss i env = B7 S' os ss j env ∧ Cz S ss i st = Cz S' ss j st ∧ Dd S ss i l = Dd S' ss j l
 | os,[],i,j,env,st,l,_ => by cases os <;> exact ⟨rfl,rfl,rfl⟩
 | os,s :: ss,i,j,env,st,l,h => by
  have h0 := h 0
  simp only [Nat.add_zero] at h0
  have hs : ∀ m,S (i + 1 + m) = S' (j + 1 + m) := fun m => by
   have := h (m + 1)
   rwa [show i + (m + 1) = i + 1 + m by omega,show j + (m + 1) = j + 1 + m by omega] at this
  cases os with
  | nil =>
   obtain ⟨_,h2,h3⟩ := Iy [] ss (i + 1) (j + 1) env (bif S' j then s.wr ++ st else st) l hs
   exact ⟨rfl,by simp only [Cz,h0,h2],by simp only [Dd,h0,h3]⟩
  | cons o os =>
   obtain ⟨h1,h2,h3⟩ := Iy os ss (i + 1) (j + 1) (bif S' j then Bo o.dst s.d env else env) (bif S' j then s.wr ++ st else st) l hs
   exact ⟨by simp only [B7,h0,h1],by simp only [Cz,h0,h2],by simp only [Dd,h0,h3]⟩
theorem Px {o : Oper} {rest : List Oper} {fs : List (List Nat × List Nat)} {rd fr : List Nat} {wr : St} {d : D} (hl : LD P (LZ Q) all o env st rd fr wr d) (hn : ∀ t,o.dst = some t → t < n) (hnd : ∀ c,o.op ≠ .defer c)
  (h : DD P n F Q all rest (fs ++ [(rd,wr.map (·.1))]) k (Bo o.dst d env) (wr ++ st) ids') : DD P n F Q all (o :: rest) fs k env st (fr ++ ids') := by
 obtain ⟨ss,idsf,h1,h2,h3,h4⟩ := h
 refine ⟨⟨rd,fr,wr,d⟩ :: ss,idsf,?_,⟨hl,hn,hnd,h2⟩,?_,?_⟩
 ·simp only [Dd,cond_false,h1]
  rw [(Iy (S := fun _ => false) (S' := fun _ => false) [] ss 0 1 env st idsf fun _ => rfl).2.2]
 ·simpa [Ft] using h3
 ·have := Iy (S := VJ) (S' := VJ) rest ss 0 1 (Bo o.dst d env) (wr ++ st) idsf fun _ => rfl
  simp only [B7,Cz,VJ,cond_true] at this ⊢
  rw [← this.1,← this.2.1]
  exact h4
theorem Zz {fs : List (List Nat × List Nat)} (hc : Ju all fs = true) (h : DGo P n F Q k env st ids) : DD P n F Q all [] fs k env st ids :=
 ⟨[],ids,rfl,trivial,by simpa using hc,h⟩
theorem Xl {id : Nat} (hm : P.follows .mixedOrders = true) (h : DD P n F Q all all [] k env st ids) : DGo P n F Q (.code (.region id ⟨all⟩ true) :: k) env st ids := by
 obtain ⟨ss,idsf,hids,hch,hck,hfin⟩ := h
 intro b cs I μ a w items hd hc
 obtain ⟨is,rfl,hk⟩ := EG hd
 refine FP fun t => ?_
 simp only [Region.schedule,hm,Bool.true_or,if_true]
 simp only [Ju,Bool.and_eq_true,List.nil_append] at hck
 obtain ⟨hck,_⟩ := hck
 have hlen := Jv _ _ _ _ hch
 have hsp := fun (S : Nat → Bool) (hS : DownClosed all S) => Gl hS all _ 0 [] [] hck rfl rfl rfl (by simp [C1])
 have hedge : ∀ j o,all[j]? = some o → ∀ e ∈ o.after.toList,Dn e = true → e.on < j := by
  intro j o hj e he hb
  have := (hsp (fun _ => false) (fun _ _ _ h => by cases h)).1 j o hj e he hb
  omega
 have hap : ∀ (S : Nat → Bool),DownClosed all S → ∀ i j oi oj si sj,all[i]? = some oi → all[j]? = some oj → ss[i]? = some si → ss[j]? = some sj → i < j → S i = false → S j = true →
   ApartOI (Ih all.toArray oi (Ft si)) (Ih all.toArray oj (Ft sj)) := by
  intro S hS i j oi oj si sj h1 h2 h3 h4 hij hSi hSj
  have hx := IW (A := all.toArray) h2 (f := Ft sj) (fs := ss.map Ft) (by simp [h4])
  have hy := IW (A := all.toArray) h1 (f := Ft si) (fs := ss.map Ft) (by simp [h3])
  exact ((hsp S hS).2 j _ hx (by simpa using hSj)).2 i _ hij hy (by simpa using hSi)
 suffices H : ∀ (fuel t : Nat) (listed : Array Bool) (a' : Act) (w' : World) (I' : Imm) (μ' : Mu),listed.size = all.length → DownClosed all (fun j => listed.getD j false) → Ov (fun j => listed.getD j false) all.length ≤ fuel →
   Conc n I' μ' (B7 (fun j => listed.getD j false) all ss 0 env) (Cz (fun j => listed.getD j false) ss 0 st) (Dd (fun j => listed.getD j false) ss 0 idsf) a' w' → Pin F μ μ' → a'.defers = a.defers →
   Ext I μ st w I' μ' (Cz (fun j => listed.getD j false) ss 0 st) w' →
   Reach P b.1 cs (Post n F Q a.defers I μ st w) (.inRegion all.toArray (Region.linearise.go .any all.toArray fuel t listed []) :: is) a' w' by
  have hf : (fun j => (Array.replicate all.length false).getD j false) = fun _ => false := by
   funext j
   by_cases hj : j < all.length <;> simp [hj]
  refine H all.length t (Array.replicate all.length false) a { w with drawn := w.drawn + 1 } I μ (by simp) ?_ ?_ ?_ (.refl _ _) rfl ?_
  ·rw [hf];intro j o _ h;cases h
  ·rw [hf]
   have : ∀ m,Ov (fun _ => false) m ≤ m := fun m => by induction m with
    | zero => simp [Ov]
    | succ m ih => simp only [Ov,cond_false];omega
   exact this _
  ·rw [hf,Gk _ _ _ _ fun _ _ => rfl,F0 _ _ _ fun _ _ => rfl,← hids]
   exact hc.drew
  ·rw [hf,F0 _ _ _ fun _ _ => rfl]
   exact .drew I μ st w
 have hdone : ∀ (S : Nat → Bool) (a' : Act) (w' : World) (I' : Imm) (μ' : Mu),(∀ j,j < all.length → S j = true) → Conc n I' μ' (B7 S all ss 0 env) (Cz S ss 0 st) (Dd S ss 0 idsf) a' w' → Pin F μ μ' → a'.defers = a.defers →
   Ext I μ st w I' μ' (Cz S ss 0 st) w' → Reach P b.1 cs (Post n F Q a.defers I μ st w) (.inRegion all.toArray [] :: is) a' w' := by
  intro S a' w' I' μ' hall hC hp hdf hE
  have he : ∀ t,lk (B7 S all ss 0 env) t = lk (B7 VJ all ss 0 env) t := fun t => DK _ _ _ _ _ rfl fun j o hj _ => by
   have := hall j (List.getElem?_eq_some_iff.1 hj).1
   simpa [VJ] using this
  have hs : ∀ t,lk (Cz S ss 0 st) t = lk (Cz VJ ss 0 st) t := fun t => Ex _ _ _ _ rfl fun j s hj _ => by
   have := hall j (by rw [← hlen];exact (List.getElem?_eq_some_iff.1 hj).1)
   simpa [VJ] using this
  have hi : ∀ (ss : List Stp) (k : Nat),(∀ j,j < k + ss.length → S j = true) → Dd S ss k idsf = idsf := by
   intro ss
   induction ss with
   | nil => intro k _;rfl
   | cons s ss ih =>
    intro k hk
    simp only [Dd,hk k (by simp),cond_true,List.nil_append]
    exact ih (k + 1) fun j hj => hk j (by simp at hj ⊢;omega)
  rw [hi ss 0 (fun j hj => hall j (by omega))] at hC
  refine AT ?_
  have hC' : Conc n I' μ' (B7 VJ all ss 0 env) (Cz VJ ss 0 st) idsf a' w' := { hC.toStRep.congr hs with size := hC.size,env := fun t d hl => hC.env t d (by rw [he];exact hl),defers := hC.defers.congr hs }
  have := hfin b cs I' μ' a' w' is hk hC'
  rw [hdf] at this
  exact this.mono fun e a2 w2 hq => hq.back hp (hE.congr (fun _ => rfl) hs)
 intro fuel
 induction fuel with
 | zero =>
  intro t listed a' w' I' μ' hsz hdc hcnt hC hp hdf hE
  simp only [Region.linearise.go,List.reverse_nil]
  exact hdone _ a' w' I' μ' (fun j hj => GW (Nat.le_zero.1 hcnt) j hj) hC hp hdf hE
 | succ fuel ih =>
  intro t listed a' w' I' μ' hsz hdc hcnt hC hp hdf hE
  simp only [Region.linearise.go]
  change Reach P b.1 cs (Post n F Q a.defers I μ st w) (.inRegion all.toArray (match (Region.ready .any all.toArray listed)[t % (Region.ready .any all.toArray listed).length]? with
   | some i => Region.linearise.go .any all.toArray fuel (t / (Region.ready .any all.toArray listed).length) (listed.setIfInBounds i true) [i]
   | none => [].reverse) :: is) a' w'
  have hgd : ∀ j,j < all.length → listed.getD j true = listed.getD j false := fun j hj => by simp [hsz,hj]
  cases hi : (Region.ready .any all.toArray listed)[t % (Region.ready .any all.toArray listed).length]? with
  | none =>
   have hnil : Region.ready .any all.toArray listed = [] := by
    cases hr : Region.ready .any all.toArray listed with
    | nil => rfl
    | cons x xs =>
     rw [hr] at hi
     have hlt : t % (x :: xs).length < (x :: xs).length := Nat.mod_lt _ (by simp)
     simp at hi
     simp at hlt
     omega
   have hall : ∀ m j,j < m → j < all.length → listed.getD j false = true := by
    intro m
    induction m with
    | zero => intro j hj;omega
    | succ m ihm =>
     intro j hj hja
     cases hS : listed.getD j false with
     | true => rfl
     | false =>
      have hmem : j ∈ Region.ready .any all.toArray listed := by
       refine mem_ready.2 ⟨by rw [hgd j hja,hS],all[j],by simp [hja],fun e he hb => ?_⟩
       have hlt := hedge j all[j] (by simp [hja]) e (by simpa using he) (by rw [D0];exact hb)
       exact ihm e.on (by omega) (by omega)
      rw [hnil] at hmem;cases hmem
   exact hdone _ a' w' I' μ' (fun j hj => hall (j + 1) j (by omega) hj) hC hp hdf hE
  | some i =>
   simp only []
   rw [linearise_go_acc,List.reverse_singleton,List.singleton_append]
   have hmem := List.mem_of_getElem? hi
   obtain ⟨hun,o,ho,hbef⟩ := mem_ready.1 hmem
   have hil : i < all.length := by
    have := (Array.getElem?_eq_some_iff.1 ho).1
    simpa using this
   have hSi : listed.getD i false = false := by rw [← hgd i hil];exact hun
   have ho' : all[i]? = some o := by simpa using ho
   obtain ⟨s,hs,hLD,hn,hnd⟩ := Ru all ss 0 env st hch i o ho'
   simp only [Nat.zero_add] at hLD
   have hS' : ∀ j,(listed.setIfInBounds i true).getD j false = (bif Nat.beq j i then true else listed.getD j false) := by
    intro j
    by_cases hj : j = i
    ·subst hj;simp [hsz,hil]
    ·have : Nat.beq j i = false := by
      cases hb : Nat.beq j i with
      | false => rfl
      | true => exact absurd (Nat.eq_of_beq_eq_true hb) hj
     simp [this,Array.getElem?_setIfInBounds_ne (Ne.symm hj)]
   have hS'i : (listed.setIfInBounds i true).getD i false = true := by rw [hS'];simp
   have hS'n : ∀ j,j ≠ i → (listed.setIfInBounds i true).getD j false = listed.getD j false := by
    intro j hj
    rw [hS']
    have : Nat.beq j i = false := by
     cases hb : Nat.beq j i with
     | false => rfl
     | true => exact absurd (Nat.eq_of_beq_eq_true hb) hj
    simp [this]
   have hdc' : DownClosed all (fun j => (listed.setIfInBounds i true).getD j false) := by
    intro j oj hj hSj e he hb
    by_cases hji : j = i
    ·subst hji
     rw [ho'] at hj;cases hj
     have := hbef e (by simpa using he) (by rw [← D0];exact hb)
     by_cases hei : e.on = j
     ·rw [hei];exact hS'i
     ·exact (hS'n _ hei).trans this
    ·have hSj' : listed.getD j false = true := by have := hS'n j hji;simp only at hSj;rw [this] at hSj;exact hSj
     have := hdc j oj hj hSj' e he hb
     by_cases hei : e.on = i
     ·rw [hei];exact hS'i
     ·exact (hS'n _ hei).trans this
   have hA : ∀ j oj sj,all[j]? = some oj → ss[j]? = some sj → j ≠ i → listed.getD j false ≠ decide (j < i) → ApartOI (Ih all.toArray o (Ft s)) (Ih all.toArray oj (Ft sj)) := by
    intro j oj sj h1 h2 hji hne
    by_cases hlt : j < i
    ·have hf : listed.getD j false = false := by
      cases h : listed.getD j false with
      | false => rfl
      | true => exact absurd (by rw [h];simp [hlt]) hne
     exact (hap _ hdc' j i oj o sj s h1 ho' h2 hs hlt ((hS'n j hji).trans hf) hS'i).symm
    ·have hf : listed.getD j false = true := by
      cases h : listed.getD j false with
      | true => rfl
      | false => exact absurd (by rw [h];simp [hlt]) hne
     exact hap _ hdc i j o oj s sj ho' h1 hs h2 (by omega) hSi hf
   have hss : ∀ j oj,all[j]? = some oj → ∃ sj,ss[j]? = some sj := fun j oj h => by
    have : j < ss.length := by rw [hlen];exact (List.getElem?_eq_some_iff.1 h).1
    exact ⟨_,List.getElem?_eq_getElem this⟩
   have hoo : ∀ j sj,ss[j]? = some sj → ∃ oj,all[j]? = some oj := fun j oj h => by
    have : j < all.length := by rw [← hlen];exact (List.getElem?_eq_some_iff.1 h).1
    exact ⟨_,List.getElem?_eq_getElem this⟩
   have hag : Agree s.rd (Cz (fun j => decide (j < i)) ss 0 st) (Cz (fun j => listed.getD j false) ss 0 st) := by
    intro id hid
    refine Ex _ _ _ _ rfl fun j sj hj hw => ?_
    rw [Nat.zero_add]
    by_cases hji : j = i
    ·subst hji;rw [hSi];simp
    ·obtain ⟨oj,hoj⟩ := hoo j sj hj
     cases hq : decide (listed.getD j false = decide (j < i)) with
     | true => exact of_decide_eq_true hq
     | false => exact absurd hid ((hA j oj sj hoj hj hji (of_decide_eq_false hq)).e id hw)
   have hel : ∀ t ∈ o.looksAt all.toArray,lk (B7 (fun j => listed.getD j false) all ss 0 env) t = lk (B7 (fun j => decide (j < i)) all ss 0 env) t := by
    intro t ht
    refine DK _ _ _ _ _ rfl fun j oj hj hd => ?_
    rw [Nat.zero_add]
    by_cases hji : j = i
    ·subst hji;rw [hSi];simp
    ·obtain ⟨sj,hsj⟩ := hss j oj hj
     cases hq : decide (listed.getD j false = decide (j < i)) with
     | true => exact of_decide_eq_true hq
     | false => exact absurd ht ((hA j oj sj hj hsj hji (of_decide_eq_false hq)).b t hd)
   have hperm := M0 (S := fun j => listed.getD j false) (S' := fun j => (listed.setIfInBounds i true).getD j false) ss 0 idsf i s hs (by simpa using hSi) (by simpa using hS'i) (fun j hj => hS'n j (by omega))
   have hEnv : ∀ t,lk (Bo o.dst s.d (B7 (fun j => listed.getD j false) all ss 0 env)) t = lk (B7 (fun j => (listed.setIfInBounds i true).getD j false) all ss 0 env) t := by
    intro t
    by_cases hd : o.dst = some t
    ·rw [Gb hd]
     refine (Oq all ss 0 env i o s ho' hs hd (by simpa using hS'i) fun j o' hij hj hd' => ?_).symm
     obtain ⟨sj,hsj⟩ := hss j o' hj
     simp only [Nat.zero_add]
     rw [hS'n j (by omega)]
     cases hq : listed.getD j false with
     | false => rfl
     | true => exact absurd hd' ((hA j o' sj hj hsj (by omega) (by rw [hq];simp;omega)).c t hd)
    ·rw [Mt hd]
     refine DK _ _ _ _ _ rfl fun j oj hj hd' => ?_
     simp only [Nat.zero_add]
     have hji : j ≠ i := fun e => by subst e;rw [ho'] at hj;cases hj;exact hd hd'
     rw [hS'n j hji]
   have hSt : ∀ t,lk (s.wr ++ Cz (fun j => listed.getD j false) ss 0 st) t = lk (Cz (fun j => (listed.setIfInBounds i true).getD j false) ss 0 st) t := by
    intro t
    by_cases hd : t ∈ s.wr.map (·.1)
    ·rw [E6 hd]
     refine (PK ss 0 st i s hs hd (by simpa using hS'i) fun j s' hij hj hd' => ?_).symm
     obtain ⟨oj,hoj⟩ := hoo j s' hj
     simp only [Nat.zero_add]
     rw [hS'n j (by omega)]
     cases hq : listed.getD j false with
     | false => rfl
     | true => exact absurd hd' ((hA j oj s' hoj hj (by omega) (by rw [hq];simp;omega)).f t hd)
    ·rw [Hq hd]
     refine Ex _ _ _ _ rfl fun j sj hj hd' => ?_
     simp only [Nat.zero_add]
     have hji : j ≠ i := fun e => by subst e;rw [hs] at hj;cases hj;exact hd hd'
     rw [hS'n j hji]
   obtain ⟨hl1,hl2⟩ := hLD I' μ' _ _ a' w' hag (hC.toStRep.perm hperm) (fun t ht d hl => hC.env t d (by rw [hel t ht];exact hl))
   have cont : ∀ v w2 I2 μ2,StRep I2 μ2 (s.wr ++ Cz (fun j => listed.getD j false) ss 0 st) (Dd (fun j => (listed.setIfInBounds i true).getD j false) ss 0 idsf) w2 → RepD I2 μ2 v s.d → μ'.le μ2 →
     Ext I' μ' (Cz (fun j => listed.getD j false) ss 0 st) w' I2 μ2 (s.wr ++ Cz (fun j => listed.getD j false) ss 0 st) w2 →
     Reach P b.1 cs (Post n F Q a.defers I μ st w) (.inRegion all.toArray (Region.linearise.go .any all.toArray fuel (t / (Region.ready .any all.toArray listed).length) (listed.setIfInBounds i true) []) :: is) (a'.put o.dst v) w2 := by
    intro v w2 I2 μ2 q1 q2 q3 q4
    obtain ⟨p1,p2,p3⟩ := FR (n := n) (w := w2) (dst := o.dst) (fun t d hl => (hC.env t d hl).mono q4.imm q3) hC.size hn q2
    refine ih _ (listed.setIfInBounds i true) _ w2 I2 μ2 (by simp [hsz]) hdc' ?_ ?_ (hp.trans (.of_le q3)) (p3.trans hdf) (hE.trans (q4.congr (fun _ => rfl) hSt))
    ·have := Jr (S := fun j => listed.getD j false) (S' := fun j => (listed.setIfInBounds i true).getD j false) hSi hS'i hS'n hil
     omega
    ·refine { q1.congr hSt with size := p2,env := fun t d hl => ?_,defers := by rw [p3];exact (hC.defers.ext q4).congr hSt }
     rw [← hEnv t] at hl
     have : Bo o.dst s.d (B7 (fun j => listed.getD j false) all ss 0 env) = (match o.dst with | some t => (t,s.d) :: B7 (fun j => listed.getD j false) all ss 0 env | none => B7 (fun j => listed.getD j false) all ss 0 env) := by
      cases o.dst <;> rfl
     rw [this] at hl
     exact p1 t d hl
   by_cases hw : Region.wanted o (yielded all.toArray a'.tmps) = true
   ·refine BD ho hw hnd (valX.upon ((hl1 hw).mono (fun v w2 ⟨I2,μ2,q1,q2,q3,q4⟩ => cont v w2 I2 μ2 q1 q2 q3 q4) fun chain w2 hx => ?_))
    obtain ⟨v,x,I2,q1,q2,q3,q4,q5⟩ := hx
    refine ⟨.panic x,[],[],[],I2,μ',⟨v,q1,q3⟩,q2,?_,hp,hE.trans q5,by rw [hdf];exact .refl _ _⟩
    exact Jo q4 hC.size (hC.defers.ext q5)
   ·have hw' : Region.wanted o (yielded all.toArray a'.tmps) = false := by simpa using hw
    obtain ⟨e1,e2,e3⟩ := hl2 hw'
    refine Bt ho hw' ?_
    refine cont undef w' I' μ' ?_ e3 (Mu.le_refl μ') ?_
    ·rw [e1]
     have := hC.toStRep.perm hperm
     rw [e2] at this
     exact this
    ·rw [e1];exact Ext.refl _ _ _ _
theorem ZU {all rest : List Oper} {o : Oper} {d : D} {rd fr : List Nat} {wr : St} (hl : LD P (LZ Q) all o env st rd fr wr d) (hn : ∀ t,o.dst = some t → t < n) (hnd : ∀ c,o.op ≠ .defer c)
  (h : DGo P n F Q (.ops all rest :: k) (Bo o.dst d env) (wr ++ st) ids') : DGo P n F Q (.ops all (o :: rest) :: k) env st (fr ++ ids') := by
 intro b cs I μ a w items hd hc
 obtain ⟨j,is,rfl,hr,hk⟩ := Hz hd
 obtain ⟨hj,hr'⟩ := Bx hr
 have hon : HU (o.looksAt all.toArray) I μ env a := fun t _ d hl => hc.env t d hl
 obtain ⟨hl1,hl2⟩ := hl I μ st ids' a w (fun _ _ => rfl) hc.toStRep hon
 have cont : ∀ v w' I' μ',StRep I' μ' (wr ++ st) ids' w' → RepD I' μ' v d → μ.le μ' → Ext I μ st w I' μ' (wr ++ st) w' → Reach P b.1 cs (Post n F Q a.defers I μ st w) (.inRegion all.toArray (List.range' (j + 1) rest.length) :: is) (a.put o.dst v) w' := by
  intro v w' I' μ' q1 q2 q4 q3
  obtain ⟨p1,p2,p3⟩ := FR (n := n) (w := w') (dst := o.dst) (fun t d hl => (hc.env t d hl).mono q3.imm q4) hc.size hn q2
  have := h b cs I' μ' (a.put o.dst v) w' (.inRegion all.toArray (List.range' (j + 1) rest.length) :: is) ⟨⟨rfl,j + 1,hr',rfl⟩,hk⟩
   {q1 with size := p2,env := by cases hdst : o.dst <;> simpa [Bo,hdst] using p1,defers := by rw [p3];exact hc.defers.ext q3 }
  rw [p3] at this
  exact this.mono fun e a' w'' hp => hp.back (.of_le q4) q3
 have hlen : (o :: rest).length = rest.length + 1 := rfl
 rw [hlen,List.range'_succ]
 by_cases hw : Region.wanted o (yielded all.toArray a.tmps) = true
 ·refine BD hj hw hnd (valX.upon ((hl1 hw).mono (fun v w2 ⟨I2,μ2,q1,q2,q3,q4⟩ => cont v w2 I2 μ2 q1 q2 q3 q4) fun chain w2 hx => ?_))
  obtain ⟨v,x,I2,q1,q2,q3,q4,q5⟩ := hx
  refine ⟨.panic x,[],[],[],I2,μ,⟨v,q1,q3⟩,q2,?_,.refl _ _,q5,.refl _ _⟩
  exact Jo q4 hc.size (hc.defers.ext q5)
 ·have hw' : Region.wanted o (yielded all.toArray a.tmps) = false := by simpa using hw
  obtain ⟨e1,e2,e3⟩ := hl2 hw'
  refine Bt hj hw' ?_
  refine cont undef w I μ ?_ e3 (Mu.le_refl μ) ?_
  ·rw [e1]
   have := hc.toStRep
   rw [e2] at this
   exact this
  ·rw [e1];exact Ext.refl _ _ _ _
end
end Go.Hk
namespace Go.Hk
inductive Res where
 | at (todo : List DI) (env : Env) (st : St) (ids : List Nat) (ob : List Prop)
 | bad
inductive Pt where
 | t
 | f
 | a
 | s
def run (tt : TT) (n : Nat) : Nat → List Pt → List DI → Env → St → List Nat → List Prop → Res
 | 0,_,k,env,st,ids,ob => .at k env st ids ob
 | f + 1,path,todo,env,st,ids,ob => match todo with
  | .code (.seq a b) :: k => run tt n f path (.code a :: .code b :: k) env st ids ob
  | .code .skip :: k => run tt n f path k env st ids ob
  | .code (.label _) :: k => run tt n f path k env st ids ob
  | .inBlock _ :: k => match path with
   | .s :: _ => .at k env st ids ob
   | _ => run tt n f path k env st ids ob
  | .inScope _ :: k => run tt n f path k env st ids ob
  | .code (.block id c) :: k => run tt n f path (.code c :: .inBlock id :: k) env st ids ob
  | .code (.scope c) :: k => run tt n f path (.code c :: .inScope c :: k) env st ids ob
  | .code (.exit id) :: k => match Dg id k with
   | some k' => run tt n f path k' env st ids ob
   | none => .at (.code (.exit id) :: k) env st ids ob
  | .code (.region _ ⟨ops⟩ false) :: k => run tt n f path (.ops ops ops :: k) env st ids ob
  | .code (.region _ ⟨ops⟩ true) :: k => run tt n f path (.dops ops ops [] :: k) env st ids ob
  | .ops _ [] :: k => run tt n f path k env st ids ob
  | .ops all (o :: r) :: k => match CT tt n all o env st ids with
   | .y _ env' [] => run tt n f path (.ops all r :: k) env' st ids ob
   | .y _ env' [p] => run tt n f path (.ops all r :: k) env' st ids (p :: ob)
   | .y _ env' [p,q] => run tt n f path (.ops all r :: k) env' st ids (p :: q :: ob)
   | .y _ env' (p :: q :: l) => run tt n f path (.ops all r :: k) env' st ids (p :: q :: FE l ob)
   | .e env' st' ids' [] => run tt n f path (.ops all r :: k) env' st' ids' ob
   | .e env' st' ids' [p] => run tt n f path (.ops all r :: k) env' st' ids' (p :: ob)
   | .e env' st' ids' (p :: l) => run tt n f path (.ops all r :: k) env' st' ids' (p :: FE l ob)
   | .no => .at (.ops all (o :: r) :: k) env st ids ob
  | .dops all [] fs :: k => run tt n f path k env st ids ((Ju all fs.reverse = true) :: ob)
  | .dops all (o :: r) fs :: k => match CT tt n all o env st ids,LT env o.op with
   | .y _ env' [],[] => run tt n f path (.dops all r (([],[]) :: fs) :: k) env' st ids ob
   | .y _ env' [],[i] => run tt n f path (.dops all r (([i],[]) :: fs) :: k) env' st ids ob
   | .y _ env' [p],[] => run tt n f path (.dops all r (([],[]) :: fs) :: k) env' st ids (p :: ob)
   | .y _ env' [p],[i] => run tt n f path (.dops all r (([i],[]) :: fs) :: k) env' st ids (p :: ob)
   | .y _ env' (p :: l),rd => run tt n f path (.dops all r ((rd,[]) :: fs) :: k) env' st ids (p :: FE l ob)
   | .e env' ((i,x) :: st') ids' ob',[] => run tt n f path (.dops all r (([],[i]) :: fs) :: k) env' ((i,x) :: st') ids' (FE ob' ob)
   | .e env' ((i,x) :: st') ids' ob',[j] => run tt n f path (.dops all r (([j],[i]) :: fs) :: k) env' ((i,x) :: st') ids' (FE ob' ob)
   | _,_ => .at (.dops all (o :: r) fs :: k) env st ids ob
  | .code (.cond c x y) :: k => match path,EB env c with
   | .t :: path',some (.imm (.bool t)) => run tt n f path' (.code x :: k) env st ids ((t = true) :: ob)
   | .f :: path',some (.imm (.bool t)) => run tt n f path' (.code y :: k) env st ids ((t = false) :: ob)
   | .a :: path',some (.imm (.bool t)) => run tt n f path' (.code (bif t then x else y) :: k) env st ids ob
   | _,_ => .at (.code (.cond c x y) :: k) env st ids ob
  | k => .at k env st ids ob
def G (P : Program) (n : Nat) (F : List Nat) (Q : DQ) (todo : List DI) (env : Env) (st : St) (ids : List Nat) : Prop :=
 match todo with
 | .dops all rest fs :: k => DD P n F Q all rest fs.reverse k env st ids
 | todo => DGo P n F Q todo env st ids
section
variable {P : Program} {n : Nat} {F : List Nat} {Q : DQ} {tt : TT} {env env' : Env} {st st' : St} {ids ids' : List Nat} {k : List DI} {cx : Prop} {d : D} {ob ob' : List Prop} {todo : List DI} {Pn : V → Prop}
theorem G.go (h : G P n F Q todo env st ids) : DGo P n F Q todo env st ids := by
 unfold G at h
 split at h
 ·intro b cs I μ a w items hd hc
  obtain ⟨i,is,rfl,h1,_⟩ := DL hd
  cases i <;> exact h1.elim
 ·exact h
theorem LD.ld_y {all : List Oper} {o : Oper} {rd : List Nat} (h : ∀ st',Agree rd st st' → YD P all o env st' d) : LD P Pn all o env st rd [] [] d := by
 intro I μ st1 ids1 a w hag hst hon
 obtain ⟨h1,h2⟩ := h st1 hag I μ _ a w hst hon
 exact ⟨fun hw => ((h1 hw).mono fun v w' ⟨I',q1,q2,q3⟩ => ⟨I',μ,q1,q2,Mu.le_refl μ,q3⟩).x,fun hw => ⟨rfl,rfl,h2 hw⟩⟩
theorem K1 {all : List Oper} {o : Oper} {rd : Bool} (h : CT tt n all o env st ids = .y rd env' ob) (hag : Agree (LT env o.op) st st') : CT tt n all o env st' ids = .y rd env' ob := by
 unfold CT at h ⊢
 split at h
 ·rename_i hg
  simp only [Om hag]
  split at h
  ·exact h
  ·exact h
  ·split at h
   ·exact absurd h PS
   ·cases h
 ·rename_i j w0 hg
  simp only [Om hag]
  exact h
theorem Wn {dst : Option Nat} {d d' : D} (h : Bo dst d env = Bo dst d' env) : dst = none ∨ d = d' := by
 cases dst with
 | none => exact .inl rfl
 | some t => simp only [Bo,List.cons.injEq,Prod.mk.injEq,true_and,and_true] at h;exact .inr h
theorem UL (htt : TTok P tt) {all : List Oper} {o : Oper} {rd : Bool} (h : CT tt n all o env st ids = .y rd env' ob) (hob : Ay ob) :
  ∃ d,env' = Bo o.dst d env ∧ (∀ t,o.dst = some t → t < n) ∧ (∀ c,o.op ≠ .defer c) ∧ YD P all o env st d ∧ LD P Pn all o env st (LT env o.op) [] [] d := by
 obtain ⟨d,e1,e2,e3,e4,_⟩ := Lm htt h hob
 cases hdst : o.dst with
 | some t =>
  refine ⟨d,by rw [e1,hdst],fun t' ht => e2 t' (by rw [hdst];exact ht),e3,e4,LD.ld_y fun st' hag => ?_⟩
  obtain ⟨d',e1',_,_,e4',_⟩ := Lm htt (K1 h hag) hob
  rw [e1] at e1'
  rcases Wn e1' with h | h
  ·rw [hdst] at h;cases h
  ·rw [h];exact e4'
 | none =>
  refine ⟨.undef,(by rw [e1,hdst];rfl),(fun t' ht => by cases ht),e3,?_,LD.ld_y fun st' hag => ?_⟩
  ·intro I μ ids a w hst hon
   obtain ⟨h1,_⟩ := e4 I μ ids a w hst hon
   exact ⟨fun hw => (h1 hw).mono fun v w' ⟨I',q1,_,q3⟩ => ⟨I',q1,.undef _,q3⟩,fun _ => .undef _⟩
  ·obtain ⟨d',_,_,_,e4',_⟩ := Lm htt (K1 h hag) hob
   intro I μ ids a w hst hon
   obtain ⟨h1,_⟩ := e4' I μ ids a w hst hon
   exact ⟨fun hw => (h1 hw).mono fun v w' ⟨I',q1,_,q3⟩ => ⟨I',q1,.undef _,q3⟩,fun _ => .undef _⟩
theorem NZ (htt : TTok P tt) {all : List Oper} {o : Oper} {i : Nat} {x : Option Blk} (h : CT tt n all o env st ids = .e env' ((i,x) :: st') ids' ob) (hob : Ay ob) :
  ∃ d fr,st' = st ∧ ids = fr ++ ids' ∧ env' = Bo o.dst d env ∧ (∀ t,o.dst = some t → t < n) ∧ (∀ c,o.op ≠ .defer c) ∧ ED P all o env st ids d ((i,x) :: st') ids' ∧ LD P Pn all o env st (LT env o.op) fr [(i,x)] d := by
 have h0 := h
 unfold CT at h
 split at h
 ·rename_i hg
  split at h
  ·exact absurd h EW
  ·exact absurd h EW
  ·split at h
   ·rename_i d s i2 ob2 he
    obtain ⟨rfl,rfl,rfl,e1,e2⟩ := Wo h
    obtain ⟨fr,wr,q1,q2,_,q4⟩ := On he
    have hwr : wr = [(i,x)] ∧ st' = st := by
     have hcons : ∀ (op : Op) (env : Env) {d : D} {s : St} {i : List Nat} {ob : List Prop},SG tt env st ids op = .e d s i ob → ∃ p,s = p :: st := by
      intro op env d s i ob h
      obtain ⟨fr,wr,a1,a2,a3,a4⟩ := On h
      cases op <;> simp only [SG,Kx,reduceCtorEq] at h
      all_goals (repeat' split at h) <;> first | (cases h;done) | (cases h;exact ⟨_,rfl⟩)
     obtain ⟨p,hp⟩ := hcons _ _ he
     cases hp
     have : wr.length = 1 := by have := congrArg List.length q2;simp at this;omega
     match wr,this with
     | [y],_ => simp at q2;exact ⟨by rw [q2],rfl⟩
    obtain ⟨rfl,rfl⟩ := hwr
    have hnd : ∀ c,o.op ≠ .defer c := fun c hc => by rw [hc,Oo] at he;cases he
    refine ⟨d,fr,rfl,q1,e1,e2,hnd,fun I μ a w hst hon => ⟨wanted_none hg,SF htt hst (Ba hon) he hob⟩,fun I μ st1 ids1 a w hag hst hon => ⟨fun _ => ?_,fun hw => ?_⟩⟩
    ·exact (SF htt hst (Ba hon) (q4 st1 ids1 hag) hob).x
    ·rw [wanted_none hg] at hw;cases hw
   ·cases h
 ·split at h
  ·split at h
   ·split at h
    ·exact absurd h EW
    ·exact absurd h EW
    ·cases h
   ·cases h
  ·cases h
theorem run_ok (htt : TTok P tt) (hm : P.follows .mixedOrders = true) : ∀ (f : Nat) (path : List Pt) (todo : List DI) (env : Env) (st : St) (ids : List Nat) (ob0 : List Prop) {todo' : List DI} {env' : Env} {st' : St} {ids' : List Nat} {ob : List Prop},
  run tt n f path todo env st ids ob0 = .at todo' env' st' ids' ob → Ay ob → Ay ob0 ∧ (G P n F Q todo' env' st' ids' → G P n F Q todo env st ids)
 | 0,path,todo,env,st,ids,ob0,todo',env',st',ids',ob,h,hob => by
  simp only [run,Res.at.injEq] at h
  obtain ⟨rfl,rfl,rfl,rfl,rfl⟩ := h
  exact ⟨hob,id⟩
 | f + 1,path,todo,env,st,ids,ob0,todo',env',st',ids',ob,h,hob => by
  simp only [run] at h
  have stop : ∀ {t : List DI},Res.at t env st ids ob0 = .at todo' env' st' ids' ob → Ay ob0 ∧ (G P n F Q todo' env' st' ids' → G P n F Q t env st ids) := by
   intro t h
   simp only [Res.at.injEq] at h
   obtain ⟨rfl,rfl,rfl,rfl,rfl⟩ := h
   exact ⟨hob,id⟩
  split at h
  ·obtain ⟨h1,h2⟩ := run_ok htt hm f _ _ _ _ _ _ h hob;exact ⟨h1,fun hd => Yt (h2 hd)⟩
  ·obtain ⟨h1,h2⟩ := run_ok htt hm f _ _ _ _ _ _ h hob;exact ⟨h1,fun hd => Xk (h2 hd).go⟩
  ·obtain ⟨h1,h2⟩ := run_ok htt hm f _ _ _ _ _ _ h hob;exact ⟨h1,fun hd => Vk (h2 hd).go⟩
  ·split at h
   ·simp only [Res.at.injEq] at h
    obtain ⟨rfl,rfl,rfl,rfl,rfl⟩ := h
    exact ⟨hob,fun hd => KS hd.go⟩
   ·obtain ⟨h1,h2⟩ := run_ok htt hm f _ _ _ _ _ _ h hob;exact ⟨h1,fun hd => KS (h2 hd).go⟩
  ·obtain ⟨h1,h2⟩ := run_ok htt hm f _ _ _ _ _ _ h hob;exact ⟨h1,fun hd => Rf (h2 hd).go⟩
  ·obtain ⟨h1,h2⟩ := run_ok htt hm f _ _ _ _ _ _ h hob;exact ⟨h1,fun hd => Vl (h2 hd)⟩
  ·obtain ⟨h1,h2⟩ := run_ok htt hm f _ _ _ _ _ _ h hob;exact ⟨h1,fun hd => Vi (h2 hd)⟩
  ·split at h
   ·rename_i he
    obtain ⟨h1,h2⟩ := run_ok htt hm f _ _ _ _ _ _ h hob;exact ⟨h1,fun hd => Ar he (h2 hd).go⟩
   ·exact stop h
  ·obtain ⟨h1,h2⟩ := run_ok htt hm f _ _ _ _ _ _ h hob;exact ⟨h1,fun hd => SK (h2 hd)⟩
  ·obtain ⟨h1,h2⟩ := run_ok htt hm f _ _ _ _ _ _ h hob;exact ⟨h1,fun hd => Xl hm (h2 hd)⟩
  ·obtain ⟨h1,h2⟩ := run_ok htt hm f _ _ _ _ _ _ h hob;exact ⟨h1,fun hd => SL (h2 hd).go⟩
  ·rename_i all o r k
   have hY : ∀ {rd : Bool} {env1 : Env} {ob1 ob2 : List Prop},CT tt n all o env st ids = .y rd env1 ob1 → (Ay ob2 → Ay ob1 ∧ Ay ob0) →
     (run tt n f path (.ops all r :: k) env1 st ids ob2 = .at todo' env' st' ids' ob) → Ay ob0 ∧ (G P n F Q todo' env' st' ids' → G P n F Q (.ops all (o :: r) :: k) env st ids) := by
    intro rd env1 ob1 ob2 hs hobs hrun
    obtain ⟨h1,h2⟩ := run_ok htt hm f _ _ _ _ _ _ hrun hob
    obtain ⟨h3,h4⟩ := hobs h1
    obtain ⟨d,e1,e2,e3,e4,_⟩ := Lm htt hs h3
    subst e1
    exact ⟨h4,fun hd => ZT e3 e4 e2 (h2 hd)⟩
   have hE : ∀ {env1 : Env} {st1 : St} {ids1 : List Nat} {ob1 ob2 : List Prop},CT tt n all o env st ids = .e env1 st1 ids1 ob1 → (Ay ob2 → Ay ob1 ∧ Ay ob0) →
     (run tt n f path (.ops all r :: k) env1 st1 ids1 ob2 = .at todo' env' st' ids' ob) → Ay ob0 ∧ (G P n F Q todo' env' st' ids' → G P n F Q (.ops all (o :: r) :: k) env st ids) := by
    intro env1 st1 ids1 ob1 ob2 hs hobs hrun
    obtain ⟨h1,h2⟩ := run_ok htt hm f _ _ _ _ _ _ hrun hob
    obtain ⟨h3,h4⟩ := hobs h1
    obtain ⟨d,e1,e2,e3,e4⟩ := XG htt hs h3
    subst e1
    exact ⟨h4,fun hd => ZV e3 e4 e2 (h2 hd)⟩
   split at h
   ·rename_i hs;refine hY hs ?_ h;intro q;exact ⟨trivial,q⟩
   ·rename_i hs;refine hY hs ?_ h;intro q;exact ⟨⟨q.1,trivial⟩,q.2⟩
   ·rename_i hs;refine hY hs ?_ h;intro q;exact ⟨⟨q.1,q.2.1,trivial⟩,q.2.2⟩
   ·rename_i hs;refine hY hs ?_ h;intro q;exact ⟨⟨q.1,q.2.1,(A3 q.2.2).1⟩,(A3 q.2.2).2⟩
   ·rename_i hs;refine hE hs ?_ h;intro q;exact ⟨trivial,q⟩
   ·rename_i hs;refine hE hs ?_ h;intro q;exact ⟨⟨q.1,trivial⟩,q.2⟩
   ·rename_i hs;refine hE hs ?_ h;intro q;exact ⟨⟨q.1,(A3 q.2).1⟩,(A3 q.2).2⟩
   ·exact stop h
  ·obtain ⟨h1,h2⟩ := run_ok htt hm f _ _ _ _ _ _ h hob;exact ⟨h1.2,fun hd => Zz h1.1 (h2 hd).go⟩
  ·rename_i all o r fs k
   have hY : ∀ {rd : Bool} {env1 : Env} {ob1 ob2 : List Prop} {rds : List Nat},CT tt n all o env st ids = .y rd env1 ob1 → LT env o.op = rds → (Ay ob2 → Ay ob1 ∧ Ay ob0) →
     (run tt n f path (.dops all r ((rds,[]) :: fs) :: k) env1 st ids ob2 = .at todo' env' st' ids' ob) → Ay ob0 ∧ (G P n F Q todo' env' st' ids' → G P n F Q (.dops all (o :: r) fs :: k) env st ids) := by
    intro rd env1 ob1 ob2 rds hs hrd hobs hrun
    obtain ⟨h1,h2⟩ := run_ok htt hm f _ _ _ _ _ _ hrun hob
    obtain ⟨h3,h4⟩ := hobs h1
    obtain ⟨d,e1,e2,e3,_,e5⟩ := UL htt hs h3
    subst e1
    rw [hrd] at e5
    refine ⟨h4,fun hd => ?_⟩
    have := h2 hd
    simp only [G,List.reverse_cons] at this ⊢
    exact Px (ids' := ids) e5 e2 e3 this
   have hE : ∀ {env1 : Env} {st1 : St} {ids1 : List Nat} {ob1 : List Prop} {rds : List Nat} {i : Nat} {x : Option Blk},CT tt n all o env st ids = .e env1 ((i,x) :: st1) ids1 ob1 → LT env o.op = rds →
     (run tt n f path (.dops all r ((rds,[i]) :: fs) :: k) env1 ((i,x) :: st1) ids1 (FE ob1 ob0) = .at todo' env' st' ids' ob) → Ay ob0 ∧ (G P n F Q todo' env' st' ids' → G P n F Q (.dops all (o :: r) fs :: k) env st ids) := by
    intro env1 st1 ids1 ob1 rds i x hs hrd hrun
    obtain ⟨h1,h2⟩ := run_ok htt hm f _ _ _ _ _ _ hrun hob
    obtain ⟨h3,h4⟩ := (MX _ _).1 h1
    obtain ⟨d,fr,rfl,rfl,e1,e2,e3,_,e5⟩ := NZ htt hs h3
    subst e1
    rw [hrd] at e5
    refine ⟨h4,fun hd => ?_⟩
    have := h2 hd
    simp only [G,List.reverse_cons] at this ⊢
    exact Px e5 e2 e3 this
   split at h
   ·rename_i hs hr;refine hY hs hr ?_ h;intro q;exact ⟨trivial,q⟩
   ·rename_i hs hr;refine hY hs hr ?_ h;intro q;exact ⟨trivial,q⟩
   ·rename_i hs hr;refine hY hs hr ?_ h;intro q;exact ⟨⟨q.1,trivial⟩,q.2⟩
   ·rename_i hs hr;refine hY hs hr ?_ h;intro q;exact ⟨⟨q.1,trivial⟩,q.2⟩
   ·rename_i hs _ _;refine hY hs rfl ?_ h;intro q;exact ⟨⟨q.1,(A3 q.2).1⟩,(A3 q.2).2⟩
   ·rename_i hs hr;exact hE hs hr h
   ·rename_i hs hr;exact hE hs hr h
   ·exact stop h
  ·split at h
   ·rename_i t hc
    obtain ⟨h1,h2⟩ := run_ok htt hm f _ _ _ _ _ _ h hob
    exact ⟨h1.2,fun hd => Aa hc (fun _ => (h2 hd).go) (fun hf => by rw [h1.1] at hf;cases hf)⟩
   ·rename_i t hc
    obtain ⟨h1,h2⟩ := run_ok htt hm f _ _ _ _ _ _ h hob
    exact ⟨h1.2,fun hd => Aa hc (fun ht => by rw [h1.1] at ht;cases ht) (fun _ => (h2 hd).go)⟩
   ·rename_i t hc
    obtain ⟨h1,h2⟩ := run_ok htt hm f _ _ _ _ _ _ h hob
    refine ⟨h1,fun hd => Aa hc (fun ht => ?_) (fun ht => ?_)⟩
    ·subst ht;exact (h2 hd).go
    ·subst ht;exact (h2 hd).go
   ·exact stop h
  ·exact stop h
theorem Ja (htt : TTok P tt) (hm : P.follows .mixedOrders = true) (f : Nat) (path : List Pt) (h : run tt n f path todo env st ids [] = .at k env' st' ids' ob) (hob : Ay ob) (hd : G P n F Q k env' st' ids') : G P n F Q todo env st ids :=
 (run_ok htt hm f path todo env st ids [] h hob).2 hd
end
end Go.Hk
namespace Go.Hk
mutual
def Hm : D → List Nat
 | .ref id _ => [id]
 | .own id _ => [id]
 | .elp id _ _ _ => [id]
 | .hv id _ => [id]
 | .mapr id => [id]
 | .iter id => [id]
 | .slc id _ _ _ => [id]
 | .yld id => [id]
 | .agg cs => Gu cs
 | .tup cs => Gu cs
 | .fn _ a b => Gu a ++ Gu b
 | .iface _ d => Hm d
 | .guard _ _ d => Hm d
 | _ => []
def Gu : List D → List Nat
 | [] => []
 | d :: r => Hm d ++ Gu r
end
mutual
def Ib (ρ : Nat → Nat) : D → D
 | .ref id off => .ref (ρ id) off
 | .own id n => .own (ρ id) n
 | .elp id k sz f => .elp (ρ id) k sz f
 | .mapr id => .mapr (ρ id)
 | .iter id => .iter (ρ id)
 | .agg cs => .agg (DZ ρ cs)
 | .tup cs => .tup (DZ ρ cs)
 | .fn f a b => .fn f (DZ ρ a) (DZ ρ b)
 | .iface t d => .iface t (Ib ρ d)
 | .guard c w d => .guard c w (Ib ρ d)
 | .undef => .undef
 | .imm x => .imm x
 | .nils => .nils
 | .ip t cs off => .ip t cs off
 | .clip es => .clip es
 | .slc id off n c => .slc (ρ id) off n c
 | .yld id => .yld (ρ id)
 | .raw v => .raw v
 | .hv id i => .hv (ρ id) i
def DZ (ρ : Nat → Nat) : List D → List D
 | [] => []
 | d :: r => Ib ρ d :: DZ ρ r
end
def Ql : Env → List Nat
 | [] => []
 | (_,d) :: r => Hm d ++ Ql r
def U3 (ρ : Nat → Nat) : Env → Env
 | [] => []
 | (t,d) :: r => (t,Ib ρ d) :: U3 ρ r
theorem Tl {ρ : Nat → Nat} : ∀ {env : Env} {t : Nat} {d : D},lk (U3 ρ env) t = some d → ∃ d0,lk env t = some d0 ∧ d = Ib ρ d0
 | [],t,d,h => by simp [U3,lk] at h
 | (s,x) :: r,t,d,h => by
  simp only [U3] at h
  by_cases hs : s = t
  ·subst hs;rw [lk_cons_self] at h ⊢;cases h;exact ⟨x,rfl,rfl⟩
  ·rw [lk_cons_ne _ _ hs] at h ⊢;exact Tl h
theorem RR : ∀ {env : Env} {t : Nat} {d : D},lk env t = some d → ∀ i ∈ Hm d,i ∈ Ql env
 | [],t,d,h,_,_ => by simp [lk] at h
 | (s,x) :: r,t,d,h,i,hi => by
  simp only [Ql,List.mem_append]
  by_cases hs : s = t
  ·subst hs;rw [lk_cons_self] at h;cases h;exact .inl hi
  ·rw [lk_cons_ne _ _ hs] at h;exact .inr (RR h i hi)
theorem D6 (ρ : Nat → Nat) : ∀ l : List D,DZ ρ l = l.map (Ib ρ)
 | [] => rfl
 | d :: r => by simp [DZ,D6 ρ r]
theorem FY {d : D} {i : Nat} : ∀ {l : List D},d ∈ l → i ∈ Hm d → i ∈ Gu l
 | [],h,_ => by simp at h
 | x :: r,h,hi => by
  simp only [Gu,List.mem_append]
  rcases List.mem_cons.1 h with rfl | h
  ·exact .inl hi
  ·exact .inr (FY h hi)
section
variable {I : Imm} {μ ν : Mu} {ρ : Nat → Nat}
theorem RepD.ren {v : Value} {d : D} (h : RepD I μ v d) : (∀ i ∈ Hm d,∀ g,μ i = some g → ν (ρ i) = some g) → RepD I ν v (Ib ρ d) := by
 have at_ : ∀ {l : List D} {i : Nat} {x : D},(DZ ρ l)[i]? = some x → ∃ y,l[i]? = some y ∧ x = Ib ρ y := by
  intro l i x hx
  rw [D6,List.getElem?_map] at hx
  cases hl : l[i]? with
  | none => rw [hl] at hx;cases hx
  | some y => rw [hl] at hx;cases hx;exact ⟨y,rfl,rfl⟩
 induction h with
 | undef v => intro _;exact .undef v
 | imm v x hx => intro _;exact .imm v x hx
 | nils => intro _;exact .nils
 | ref b id off hm => intro hn;exact .ref b _ off (hn id (by simp [Hm]) _ hm)
 | ip b o t cs off vs hcell hrep => intro _;exact .ip b o t cs off vs hcell hrep
 | agg cs ds hl h1 _ ih =>
  intro hn
  refine .agg cs _ (by rw [D6,List.length_map,hl]) h1 fun i c x hc hx => ?_
  obtain ⟨y,hy,rfl⟩ := at_ hx
  exact ih i c y hc hy fun j hj => hn j (by simp only [Hm];exact FY (List.mem_of_getElem? hy) hj)
 | tup cs ds hl _ ih =>
  intro hn
  refine .tup cs _ (by rw [D6,List.length_map,hl]) fun i c x hc hx => ?_
  obtain ⟨y,hy,rfl⟩ := at_ hx
  exact ih i c y hc hy fun j hj => hn j (by simp only [Hm];exact FY (List.mem_of_getElem? hy) hj)
 | own id len a cap hm => intro hn;exact .own _ len a cap (hn id (by simp [Hm]) _ hm)
 | elp b id len cap k sz f hm => intro hn;exact .elp b _ len cap k sz f (hn id (by simp [Hm]) _ hm)
 | mapr id b hm => intro hn;exact .mapr _ b (hn id (by simp [Hm]) _ hm)
 | iter id b hm => intro hn;exact .iter _ b (hn id (by simp [Hm]) _ hm)
 | fn f first cap df dc hf hc _ _ ih1 ih2 =>
  intro hn
  refine .fn f first cap _ _ (by rw [D6,List.length_map,hf]) (by rw [D6,List.length_map,hc]) (fun i c x h1 h2 => ?_) (fun i c x h1 h2 => ?_)
  ·obtain ⟨y,hy,rfl⟩ := at_ h2
   exact ih1 i c y h1 hy fun j hj => hn j (by simp only [Hm];exact List.mem_append_left _ (FY (List.mem_of_getElem? hy) hj))
  ·obtain ⟨y,hy,rfl⟩ := at_ h2
   exact ih2 i c y h1 hy fun j hj => hn j (by simp only [Hm];exact List.mem_append_right _ (FY (List.mem_of_getElem? hy) hj))
 | iface t v d _ ih => intro hn;exact .iface t v _ (ih hn)
 | guard c want v d _ hu ih => intro hn;exact .guard c want v _ (fun hc => ih hc hn) hu
 | clip a len es hr => intro _;exact .clip a len es hr
 | slc b id off len cap hm hl hx => intro hn;exact .slc b _ off len cap (hn id (by simp [Hm]) _ hm) hl hx
 | yld b id hm => intro hn;exact .yld b _ (hn id (by simp [Hm]) _ hm)
 | raw v h => intro _;exact .raw v h
 | hv v id i vs bs hm hi h1 => intro hn;exact .hv v _ i vs bs (hn id (by simp [Hm]) _ hm) hi h1
theorem RepL.ren {vs : List Value} {ds : List D} (h : RepL I μ vs ds) (hn : ∀ i ∈ Gu ds,∀ g,μ i = some g → ν (ρ i) = some g) : RepL I ν vs (DZ ρ ds) := by
 refine ⟨by rw [D6,List.length_map,h.1],fun i v x hv hx => ?_⟩
 rw [D6,List.getElem?_map] at hx
 cases hl : ds[i]? with
 | none => rw [hl] at hx;cases hx
 | some y =>
  rw [hl] at hx;cases hx
  exact (h.2 i v y hv hl).ren fun j hj => hn j (FY (List.mem_of_getElem? hl) hj)
def OU : Blk → List Nat
 | .cells _ _ cs => Gu cs
 | .bun id _ => [id]
 | .adr id _ => [id]
 | _ => []
def OL (ρ : Nat → Nat) : Blk → Blk
 | .cells t sz cs => .cells t sz (DZ ρ cs)
 | .map kv => .map kv
 | .immb t sz xs => .immb t sz xs
 | .row t sz es => .row t sz es
 | .siter s pos => .siter s pos
 | .pin => .pin
 | .bun id S => .bun (ρ id) S
 | .hp A => .hp A
 | .adr id b => .adr (ρ id) b
 | .mapx kv b es c => .mapx kv b es c
 | .miter b s z c => .miter b s z c
theorem BlkRep.ren {w : World} {g : Value} {blk : Blk} (h : BlkRep I μ w g blk) (hn : ∀ i ∈ OU blk,∀ g,μ i = some g → ν (ρ i) = some g) : BlkRep I ν w g (OL ρ blk) := by
 cases blk with
 | immb t sz xs => exact h
 | cells t sz cs =>
  obtain ⟨hs,b,vs,h1,h2,h3,h4⟩ := h
  exact ⟨by rw [D6,List.length_map,hs],b,vs,h1,h2,h3.ren hn,h4⟩
 | row t sz es => exact h
 | map kv => exact h
 | siter s pos => exact h
 | pin => exact h
 | bun id S =>
  obtain ⟨b,bs,h1,h2,h3⟩ := h
  exact ⟨b,bs,hn id (by simp [OU]) _ h1,h2,h3⟩
 | hp A => exact h
 | adr id b => exact ⟨h.1,hn id (by simp [OU]) _ h.2⟩
 | mapx kv b es c => exact h
 | miter b s z c => exact h
theorem RepD.sub {v : Value} {d : D} (h : RepD I μ v d) (hn : ∀ i ∈ Hm d,∀ g,μ i = some g → ν i = some g) : RepD I ν v d := by
 have := h.ren (ν := ν) (ρ := fun i => i) hn
 have hid : ∀ d,Ib (fun i => i) d = d := by
  intro d
  refine D.rec (motive_1 := fun d => Ib (fun i => i) d = d) (motive_2 := fun l => DZ (fun i => i) l = l) ?_ ?_ ?_ ?_ ?_ ?_ ?_ ?_ ?_ ?_ ?_ ?_ ?_ ?_ ?_ ?_ ?_ ?_ ?_ ?_ ?_ d <;> intros <;> simp_all [Ib,DZ]
 rwa [hid] at this
end
end Go.Hk
namespace Go.Hk
inductive Z7 where
 | ret (d : D) (st : St)
 | pan (x : V)
def Db (st : St) : List Nat := st.map (·.1)
def AP (P : Program) (f : FuncId) (ds : List D) (st : St) (out : Z7) : Prop :=
 ∀ I μ w (xs : Array Value),StRep I μ st [] w → RepL I μ xs.toList ds → valX P ((callFunc f xs).run P w)
  (fun u w' => match out with
   | .ret d st' => ∃ I' μ',RepD I' μ' u d ∧ StRep I' μ' st' [] w' ∧ Pin (Db st) μ μ' ∧ Ext I μ st w I' μ' st' w'
   | .pan _ => False)
  (fun chain w' => match out with
   | .ret _ _ => False
   | .pan x => JJ (· = x) I μ st w chain w')
def PureC (P : Program) (f : FuncId) (vs : List V) (v : V) : Prop := AP P f (vs.map .imm) [] (.ret (.imm v) [])
def CM (l : List (Nat × Nat)) (i : Nat) : Nat := match lk l i with
 | some j => j
 | none => i
def A5 : List (Nat × Nat) → List (Nat × Nat)
 | [] => []
 | (a,b) :: r => (b,a) :: A5 r
def BR (σ τ : List (Nat × Nat)) : List Nat → Bool
 | [] => true
 | i :: r => (match lk σ i with
  | some j => (match lk τ j with
   | some k => Nat.beq k i
   | none => false)
  | none => false) && BR σ τ r
theorem Hb {σ τ : List (Nat × Nat)} : ∀ {l : List Nat},BR σ τ l = true → ∀ i ∈ l,∃ j,lk σ i = some j ∧ lk τ j = some i
 | [],_,i,hi => by simp at hi
 | x :: r,h,i,hi => by
  simp only [BR,Bool.and_eq_true] at h
  rcases List.mem_cons.1 hi with rfl | hi
  ·cases h1 : lk σ i with
   | none => simp [h1] at h
   | some j =>
    cases h2 : lk τ j with
    | none => simp [h1,h2] at h
    | some k =>
     simp only [h1,h2] at h
     rw [Nat.eq_of_beq_eq_true h.1] at h2
     exact ⟨j,rfl,h2⟩
  ·exact Hb h.2 i hi
def Dv : St → List Nat
 | [] => []
 | (i,some b) :: r => i :: (OU b ++ Dv r)
 | (i,none) :: r => i :: Dv r
def ES (τ : List (Nat × Nat)) : St → St
 | [] => []
 | (i,some b) :: r => (CM τ i,some (OL (CM τ) b)) :: ES τ r
 | (i,none) :: r => (CM τ i,none) :: ES τ r
def EM (σ : List (Nat × Nat)) (st : St) : St → Prop
 | [] => True
 | (i,some b) :: r => (match lk (A5 σ) i with
  | some a => (match lk σ a with
   | some j => Nat.beq j i = true
   | none => False) ∧ (match lk st a with
   | some (some ba) => OL (CM σ) ba = b ∧ BR σ (A5 σ) (OU ba) = true
   | _ => False)
  | none => False) ∧ EM σ st r
 | (_,none) :: _ => False
theorem Fi {σ : List (Nat × Nat)} {st : St} : ∀ {st0 : St},EM σ st st0 → ∀ i b,Al st0 i b →
  ∃ a ba,lk (A5 σ) i = some a ∧ lk σ a = some i ∧ Al st a ba ∧ OL (CM σ) ba = b ∧ BR σ (A5 σ) (OU ba) = true
 | [],_,i,b,h => by simp [Al,lk] at h
 | (k,none) :: r,h,_,_,_ => h.elim
 | (k,some x) :: r,h,i,b,hl => by
  obtain ⟨h1,h2⟩ := h
  by_cases hk : k = i
  ·subst hk
   have : x = b := by unfold Al at hl;rw [lk_cons_self] at hl;cases hl;rfl
   subst this
   cases ha : lk (A5 σ) k with
   | none => simp [ha] at h1
   | some a =>
    simp only [ha] at h1
    obtain ⟨h3,h4⟩ := h1
    cases hj : lk σ a with
    | none => simp [hj] at h3
    | some j =>
     simp only [hj] at h3
     cases hb : lk st a with
     | none => simp [hb] at h4
     | some ob =>
      cases ob with
      | none => simp [hb] at h4
      | some ba =>
       simp only [hb] at h4
       exact ⟨a,ba,rfl,by rw [hj,Nat.eq_of_beq_eq_true h3],hb,h4.1,h4.2⟩
  ·refine Fi h2 i b ?_
   unfold Al at hl ⊢
   rwa [lk_cons_ne _ _ hk] at hl
def B8 : List Nat → St
 | [] => []
 | a :: r => (a,none) :: B8 r
theorem In {l : List Nat} {st : St} {i : Nat} {b : Blk} (h : Al (B8 l ++ st) i b) : i ∉ l ∧ Al st i b := by
 induction l with
 | nil => exact ⟨by simp,h⟩
 | cons a r ih =>
  simp only [B8,List.cons_append] at h
  obtain ⟨h1,h2⟩ := BF.1 h
  obtain ⟨h3,h4⟩ := ih h2
  exact ⟨by simp [h1,h3],h4⟩
theorem Ia {τ : List (Nat × Nat)} {st : St} {i : Nat} {b : Blk} : ∀ {st1 : St},Al (ES τ st1 ++ st) i b →
  (∃ j b1,Al st1 j b1 ∧ i = CM τ j ∧ b = OL (CM τ) b1) ∨ Al st i b
 | [],h => .inr h
 | (k,some x) :: r,h => by
  simp only [ES,List.cons_append] at h
  rcases A8.1 h with ⟨h1,h2⟩ | ⟨h1,h2⟩
  ·exact .inl ⟨k,x,by unfold Al;rw [lk_cons_self],h1,h2⟩
  ·rcases Ia h2 with ⟨j,b1,q1,q2,q3⟩ | q
   ·refine .inl ⟨j,b1,?_,q2,q3⟩
    unfold Al at q1 ⊢
    rw [lk_cons_ne _ _ (fun e => by subst e;exact h1 q2)]
    exact q1
   ·exact .inr q
 | (k,none) :: r,h => by
  simp only [ES,List.cons_append] at h
  obtain ⟨h1,h2⟩ := BF.1 h
  rcases Ia h2 with ⟨j,b1,q1,q2,q3⟩ | q
  ·refine .inl ⟨j,b1,?_,q2,q3⟩
   unfold Al at q1 ⊢
   rw [lk_cons_ne _ _ (fun e => by subst e;exact h1 q2)]
   exact q1
  ·exact .inr q
theorem GJ : ∀ {σ : List (Nat × Nat)} {i a : Nat},lk (A5 σ) i = some a → (a,i) ∈ σ
 | [],i,a,h => by simp [A5,lk] at h
 | (x,y) :: r,i,a,h => by
  simp only [A5] at h
  by_cases hy : y = i
  ·subst hy;rw [lk_cons_self] at h;cases h;simp
  ·rw [lk_cons_ne _ _ hy] at h;exact List.mem_cons_of_mem _ (GJ h)
theorem Mv : ∀ {σ : List (Nat × Nat)} {i a : Nat},lk σ i = some a → (i,a) ∈ σ
 | [],i,a,h => by simp [lk] at h
 | (x,y) :: r,i,a,h => by
  by_cases hy : x = i
  ·subst hy;rw [lk_cons_self] at h;cases h;simp
  ·rw [lk_cons_ne _ _ hy] at h;exact List.mem_cons_of_mem _ (Mv h)
theorem IR {l m : List (Nat × Nat)} {i : Nat} : (∃ a,lk l i = some a ∧ lk (l ++ m) i = some a) ∨ (lk l i = none ∧ lk (l ++ m) i = lk m i) := by
 induction l with
 | nil => exact .inr ⟨rfl,rfl⟩
 | cons p r ih =>
  obtain ⟨x,y⟩ := p
  by_cases hx : x = i
  ·subst hx;exact .inl ⟨y,lk_cons_self _ _ _,lk_cons_self _ _ _⟩
  ·rw [lk_cons_ne _ _ hx,List.cons_append,lk_cons_ne _ _ hx];exact ih
structure Uf (σ τ1 : List (Nat × Nat)) (das : List D) (st0 : St) (d : D) (st1 : St) (fr : List Nat) : Prop where
 args : BR σ (A5 σ) (Gu das) = true
 inv : BR σ (A5 σ) (σ.map (·.1)) = true
 given : ∀ p ∈ σ,p.2 ∈ Db st0
 res : BR (A5 σ ++ τ1) (σ ++ A5 τ1) (Hm d) = true
 now : BR (A5 σ ++ τ1) (σ ++ A5 τ1) (Dv st1) = true
 new : ∀ p ∈ τ1,p.2 ∈ fr
theorem CF : ∀ {st : St} {i : Nat} {b : Blk},Al st i b → i ∈ Dv st ∧ ∀ j ∈ OU b,j ∈ Dv st
 | [],i,b,h => by simp [Al,lk] at h
 | (k,x) :: r,i,b,h => by
  by_cases hk : k = i
  ·subst hk
   unfold Al at h;rw [lk_cons_self] at h;cases h
   simp only [Dv]
   exact ⟨by simp,fun j hj => by simp [hj]⟩
  ·have h' : Al r i b := by unfold Al at h ⊢;rwa [lk_cons_ne _ _ hk] at h
   obtain ⟨h1,h2⟩ := CF h'
   cases x with
   | none => simp only [Dv,List.mem_cons];exact ⟨.inr h1,fun j hj => .inr (h2 j hj)⟩
   | some y => simp only [Dv,List.mem_cons,List.mem_append];exact ⟨.inr (.inr h1),fun j hj => .inr (.inr (h2 j hj))⟩
section
variable {P : Program} {I : Imm} {μ : Mu} {st st0 st1 : St} {ids ids' fr : List Nat} {w : World} {σ τ1 : List (Nat × Nat)} {das : List D} {d : D} {f : FuncId} {x : V} {Pn : V → Prop}
def Ev (σ : List (Nat × Nat)) (μ : Mu) : Mu := fun j => match lk (A5 σ) j with
 | some a => μ a
 | none => none
theorem MV {σ τ : List (Nat × Nat)} {l : List Nat} (h : BR σ τ l = true) {i : Nat} (hi : i ∈ l) : lk τ (CM σ i) = some i := by
 obtain ⟨j,h1,h2⟩ := Hb h i hi
 simp [CM,h1,h2]
theorem Gm (hst : StRep I μ st ids w) (hb : EM σ st st0) (hd : BR σ (A5 σ) (Gu das) = true) {xs : List Value} (hx : RepL I μ xs das) :
  StRep I (Ev σ μ) st0 [] w ∧ RepL I (Ev σ μ) xs (DZ (CM σ) das) ∧ ∀ b,AG (Ev σ μ) st0 b → AG μ st b := by
 have hn : ∀ {l : List Nat},BR σ (A5 σ) l = true → ∀ i ∈ l,∀ g,μ i = some g → Ev σ μ (CM σ i) = some g := by
  intro l hl i hi g hg
  unfold Ev
  rw [MV hl hi]
  exact hg
 have hl : ∀ i b g,Al st0 i b → Ev σ μ i = some g → ∃ a ba,Al st a ba ∧ μ a = some g ∧ lk σ a = some i := by
  intro i b g hi hg
  obtain ⟨a,ba,h1,h2,h3,_⟩ := Fi hb i b hi
  exact ⟨a,ba,h3,by simpa [Ev,h1] using hg,h2⟩
 refine ⟨{ imm := hst.imm,blk := fun i b h => ?_,apart := fun i b g k h hg hk => ?_,inj := fun i j bi bj gi gj k hi hj hgi hgj hki hkj => ?_,nodup := .nil,idsFree := fun _ h => by simp at h },hx.ren (hn hd),?_⟩
 ·obtain ⟨a,ba,h1,h2,h3,h4,h5⟩ := Fi hb i b h
  obtain ⟨g,hg,hr⟩ := hst.blk a ba h3
  refine ⟨g,by simp [Ev,h1,hg],?_⟩
  rw [← h4]
  exact hr.ren (hn h5)
 ·obtain ⟨a,ba,h1,h2,_⟩ := hl i b g h hg
  exact hst.apart a ba g k h1 h2 hk
 ·obtain ⟨a,ba,h1,h2,h3⟩ := hl i bi gi hi hgi
  obtain ⟨a',ba',h1',h2',h3'⟩ := hl j bj gj hj hgj
  have := hst.inj a a' ba ba' gi gj k h1 h1' h2 h2' hki hkj
  subst this
  rw [h3] at h3';cases h3';rfl
 ·rintro b ⟨i,bi,g,h1,h2,h3⟩
  obtain ⟨a,ba,q1,q2,_⟩ := hl i bi g h1 h2
  exact ⟨a,ba,g,q1,q2,h3⟩
theorem Kg (hst : StRep I μ st (fr ++ ids') w) (hb : EM σ st st0) (hn : Uf σ τ1 das st0 d st1 fr) {I' : Imm} {μ' : Mu} {w' : World} {u : Value} (hu : RepD I' μ' u d) (hst' : StRep I' μ' st1 [] w')
  (hp : Pin (Db st0) (Ev σ μ) μ') (he : Ext I (Ev σ μ) st0 w I' μ' st1 w') (hsub : ∀ b,AG (Ev σ μ) st0 b → AG μ st b) :
  ∃ ν,StRep I' ν (ES (A5 σ ++ τ1) st1 ++ B8 (σ.map (·.1)) ++ st) ids' w' ∧ RepD I' ν u (Ib (CM (A5 σ ++ τ1)) d) ∧ μ.le ν ∧
   Ext I μ st w I' ν (ES (A5 σ ++ τ1) st1 ++ B8 (σ.map (·.1)) ++ st) w' := by
 have hfree : ∀ i ∈ fr,μ i = none := fun i hi => hst.idsFree i (by simp [hi])
 have hgiven : ∀ i j,lk σ i = some j → lk (A5 σ) j = some i ∧ ∃ g,μ i = some g := by
  intro i j hij
  have hinv : lk (A5 σ) j = some i := by
   obtain ⟨j',h1,h2⟩ := Hb hn.inv i (List.mem_map.2 ⟨(i,j),Mv hij,rfl⟩)
   rw [hij] at h1;cases h1;exact h2
  refine ⟨hinv,?_⟩
  have h1 := hn.given _ (Mv hij)
  obtain ⟨⟨j',x⟩,h2,h3⟩ := List.mem_map.1 h1
  have h3 : j' = j := h3
  subst h3
  have : ∀ {st0 : St},EM σ st st0 → (j',x) ∈ st0 → ∃ g,μ i = some g := by
   intro st0
   induction st0 with
   | nil => intro _ h;simp at h
   | cons p r ih =>
    obtain ⟨k,y⟩ := p
    intro h hm
    cases y with
    | none => exact h.elim
    | some y =>
     rcases List.mem_cons.1 hm with e | e
     ·cases e
      have h1 := h.1
      simp only [hinv] at h1
      have h4 := h1.2
      cases hb : lk st i with
      | none => simp [hb] at h4
      | some ob =>
       cases ob with
       | none => simp [hb] at h4
       | some ba =>
        obtain ⟨g,hg,_⟩ := hst.blk i ba hb
        exact ⟨g,hg⟩
     ·exact ih h.2 e
  exact this hb h2
 obtain ⟨ν,hν⟩ : ∃ ν : Mu,ν = fun i => match lk (σ ++ A5 τ1) i with | some j => μ' j | none => μ i := ⟨_,rfl⟩
 have hν1 : ∀ {l : List Nat},BR (A5 σ ++ τ1) (σ ++ A5 τ1) l = true → ∀ i ∈ l,∀ g,μ' i = some g → ν (CM (A5 σ ++ τ1) i) = some g := by
  intro l hl i hi g hg
  rw [hν]
  simp only [MV hl hi]
  exact hg
 have hσ : ∀ i j,lk σ i = some j → ∀ g,μ i = some g → ν i = some g := by
  intro i j hij g hg
  have h2 := (hgiven i j hij).1
  rw [hν]
  rcases IR (l := σ) (m := A5 τ1) (i := i) with ⟨a,h3,h4⟩ | ⟨h3,_⟩
  ·rw [hij] at h3;cases h3
   simp only [h4]
   exact hp j (hn.given _ (Mv hij)) g (by simp [Ev,h2,hg])
  ·rw [hij] at h3;cases h3
 have hin : ∀ i,(∃ j,lk σ i = some j) ∨ i ∈ fr ∨ ν i = μ i := by
  intro i
  rcases IR (l := σ) (m := A5 τ1) (i := i) with ⟨a,h1,_⟩ | ⟨h1,h2⟩
  ·exact .inl ⟨a,h1⟩
  ·cases h : lk (A5 τ1) i with
   | none => refine .inr (.inr ?_);rw [hν];simp [h2,h]
   | some j => exact .inr (.inl (hn.new _ (GJ h)))
 have hle : μ.le ν := by
  intro i g hg
  rcases hin i with ⟨j,h⟩ | h | h
  ·exact hσ i j h g hg
  ·rw [hfree i h] at hg;cases hg
  ·rw [h];exact hg
 have hlive : ∀ i b,Al (ES (A5 σ ++ τ1) st1 ++ B8 (σ.map (·.1)) ++ st) i b →
   (∃ j b1,Al st1 j b1 ∧ (b = OL (CM (A5 σ ++ τ1)) b1 ∧ i = CM (A5 σ ++ τ1) j) ∧ ∀ g,ν i = some g ↔ μ' j = some g) ∨ ((∀ j,lk σ i ≠ some j) ∧ Al st i b ∧ ν i = μ i) := by
  intro i b hl
  rw [List.append_assoc] at hl
  rcases Ia hl with ⟨j,b1,h1,h2,h3⟩ | h
  ·refine .inl ⟨j,b1,h1,⟨h3,h2⟩,fun g => ?_⟩
   rw [h2,hν]
   simp only [MV hn.now (CF h1).1]
  ·obtain ⟨h1,h2⟩ := In h
   have h3 : ∀ j,lk σ i ≠ some j := fun j hj => h1 (List.mem_map.2 ⟨(i,j),Mv hj,rfl⟩)
   refine .inr ⟨h3,h2,?_⟩
   rcases hin i with ⟨j,h⟩ | h | h
   ·exact absurd h (h3 j)
   ·obtain ⟨g,hg,_⟩ := hst.blk i b h2
    rw [hfree i h] at hg;cases hg
   ·exact h
 have hframe : ∀ i b g k,(∀ j,lk σ i ≠ some j) → Al st i b → μ i = some g → Cj g k → ¬ AG (Ev σ μ) st0 k := by
  rintro i b g k h1 h2 h3 h4 ⟨j,bj,gj,h5,h6,h7⟩
  obtain ⟨a,ba,q1,q2,q3,_⟩ := Fi hb j bj h5
  simp only [Ev,q1] at h6
  have := hst.inj i a b ba g gj k h2 q3 h3 h6 h4 h7
  subst this
  exact h1 j q2
 have hext : Ext I μ st w I' ν (ES (A5 σ ++ τ1) st1 ++ B8 (σ.map (·.1)) ++ st) w' := by
  refine { imm := he.imm,os := he.os,tape := he.tape,output := he.output,size := he.size,block := fun b hb' ho => he.block b hb' (fun h => ho (hsub b h)),fresh := fun b hb' ho => ?_,old := fun b hb' ho => he.old b hb' (fun h => ho (hsub b h)) }
  obtain ⟨i,bi,g,h1,h2,h3⟩ := ho
  rcases hlive i bi h1 with ⟨j,b1,q1,_,q3⟩ | ⟨_,q2,q3⟩
  ·exact hsub b (he.fresh b hb' ⟨j,b1,g,q1,(q3 g).1 h2,h3⟩)
  ·exact ⟨i,bi,g,q2,by rw [← q3];exact h2,h3⟩
 refine ⟨ν,?_,hu.ren (hν1 hn.res),hle,hext⟩
 refine { imm := hst'.imm,blk := fun i b h => ?_,apart := fun i b g k h hg hk => ?_,inj := fun i j bi bj gi gj k hi hj hgi hgj hki hkj => ?_,nodup := (List.nodup_append.1 hst.nodup).2.1,idsFree := fun i hi => ?_ }
 ·rcases hlive i b h with ⟨j,b1,q1,q2,q3⟩ | ⟨q1,q2,q3⟩
  ·obtain ⟨g,hg,hr⟩ := hst'.blk j b1 q1
   exact ⟨g,(q3 g).2 hg,by rw [q2.1];exact hr.ren fun k hk => hν1 hn.now k ((CF q1).2 k hk)⟩
  ·obtain ⟨g,hg,hr⟩ := hst.blk i b q2
   refine ⟨g,by rw [q3];exact hg,(hr.mono he.imm hle).world fun k hk => ?_⟩
   exact he.block k (hst.apart i b g k q2 hg hk).2 (hframe i b g k q1 q2 hg hk)
 ·rcases hlive i b h with ⟨j,b1,q1,q2,q3⟩ | ⟨q1,q2,q3⟩
  ·exact hst'.apart j b1 g k q1 ((q3 g).1 hg) hk
  ·rw [q3] at hg
   obtain ⟨h1,h2⟩ := hst.apart i b g k q2 hg hk
   exact ⟨by rw [he.old k h2 (hframe i b g k q1 q2 hg hk)];exact h1,Nat.lt_of_lt_of_le h2 he.size⟩
 ·rcases hlive i bi hi with ⟨i1,b1,q1,q2,q3⟩ | ⟨q1,q2,q3⟩ <;> rcases hlive j bj hj with ⟨j1,b2,p1,p2,p3⟩ | ⟨p1,p2,p3⟩
  ·have := hst'.inj i1 j1 b1 b2 gi gj k q1 p1 ((q3 gi).1 hgi) ((p3 gj).1 hgj) hki hkj
   subst this
   rw [q2.2,p2.2]
  ·rw [p3] at hgj
   have hk := (hst.apart j bj gj k p2 hgj hkj).2
   exact absurd (he.fresh k hk ⟨i1,b1,gi,q1,(q3 gi).1 hgi,hki⟩) (hframe j bj gj k p1 p2 hgj hkj)
  ·rw [q3] at hgi
   have hk := (hst.apart i bi gi k q2 hgi hki).2
   exact absurd (he.fresh k hk ⟨j1,b2,gj,p1,(p3 gj).1 hgj,hkj⟩) (hframe i bi gi k q1 q2 hgi hki)
  ·rw [q3] at hgi
   rw [p3] at hgj
   exact hst.inj i j bi bj gi gj k q2 p2 hgi hgj hki hkj
 ·rcases hin i with ⟨j,h⟩ | h | h
  ·obtain ⟨_,g,hg⟩ := hgiven i j h
   rw [hst.idsFree i (by simp [hi])] at hg;cases hg
  ·exact absurd rfl ((List.nodup_append.1 hst.nodup).2.2 i h i hi)
  ·rw [h];exact hst.idsFree i (by simp [hi])
end
end Go.Hk
namespace Go.Hk
def GT (cx : Prop) (env : Env) : List Operand → Option (List D × List Prop)
 | [] => some ([],[])
 | x :: r => match EB env x,GT cx env r with
  | some (.guard c w d),some (ds,o) => some (d :: ds,(cx → c = w) :: o)
  | some d,some (ds,o) => some (d :: ds,o)
  | _,_ => none
def AQ : List DI → List Nat × List Nat → Option (List Oper × Oper × List DI)
 | .ops all (o :: r) :: k,_ => some (all,o,.ops all r :: k)
 | .dops all (o :: r) fs :: k,f => some (all,o,.dops all r (f :: fs) :: k)
 | _,_ => none
def BW (n : Nat) : Option Nat → Bool
 | some t => Nat.blt t n
 | none => true
def Af : Option (Bool × Bool) → Prop
 | none => True
 | some (c,w) => c = w
def gD : Option (Bool × Bool) → D → D
 | none,d => d
 | some (c,w),d => .guard c w d
def BH (all : List Oper) (env : Env) (o : Oper) : Option (Option (Bool × Bool)) :=
 match o.guard with
 | none => some none
 | some (j,w) => match C1 all j with
  | some { dst := some g,.. } => match ZW (lk env g) w with
   | some c => some (some (c,w))
   | none => none
  | _ => none
structure Ue where
 f : FuncId
 vs : List V
 g : Option (Bool × Bool)
 ob : List Prop
 dst : Option Nat
 todo : List DI
def YG (n : Nat) (env : Env) (todo : List DI) : Option Ue :=
 match AQ todo ([],[]) with
 | some (all,o,todo') => match o.op,BH all env o with
  | .call { callee := .value (.func f),args := ⟨args⟩,.. },some g => match GT (Af g) env args with
   | some (ds,ob) => match I1 ds,BW n o.dst with
    | some vs,true => match o.dst with
     | some t => some ⟨f,vs,g,ob,some t,todo'⟩
     | none => some ⟨f,vs,g,ob,none,todo'⟩
    | _,_ => none
   | none => none
  | .call { callee := .value (.tmp t),args := ⟨args⟩,.. },some g => match lk env t,GT (Af g) env args with
   | some (.imm (.fn (.func f))),some (ds,ob) => match I1 ds,BW n o.dst with
    | some vs,true => match o.dst with
     | some t => some ⟨f,vs,g,ob,some t,todo'⟩
     | none => some ⟨f,vs,g,ob,none,todo'⟩
    | _,_ => none
   | _,_ => none
  | _,_ => none
 | none => none
section
variable {P : Program} {n : Nat} {F : List Nat} {Q : DQ} {tt : TT} {env env' : Env} {st st' : St} {ids ids' : List Nat} {k todo todo' : List DI} {cx : Prop} {d : D} {ob ob' : List Prop} {Pn : V → Prop}
 {I : Imm} {μ : Mu} {w : World} {a : Act}
theorem RepV.fnInv {v : Value} {f : Fn} (h : RepV I v (.fn f)) : v = .func f #[] #[] := by cases h;rfl
theorem evAs_rep (hc : cx) : ∀ {args : List Operand} {ds : List D} {ob : List Prop},GT cx env args = some (ds,ob) → Ay ob → (∀ x ∈ args,∀ d,EB env x = some d → RepD I μ (a.eval x) d) →
  RepL I μ (args.map a.eval) ds
 | [],ds,ob,h,_,_ => by cases h;exact .nil
 | x :: r,ds,ob,h,hob,hx => by
  have hr : ∀ y ∈ r,∀ d,EB env y = some d → RepD I μ (a.eval y) d := fun y hy => hx y (by simp [hy])
  simp only [GT] at h
  split at h
  ·rename_i c w0 d ds' o' h1 h2
   cases h
   exact .mk ((hx x (by simp) _ h1).guardInv (hob.1 hc)) (evAs_rep hc h2 hob.2 hr)
  ·rename_i d ds' o' _ h1 h2
   cases h
   exact .mk (hx x (by simp) _ h1) (evAs_rep hc h2 hob hr)
  ·cases h
theorem Ep : ∀ {vs : List Value} {ds : List D} {xs : List V},Fl ds = some xs → RepL I μ vs ds → RepVL I vs xs
 | [],ds,xs,h,hr => by
  cases ds with
  | nil => cases h;exact .nil
  | cons d ds => simp [RepL] at hr
 | v :: vs,ds,xs,h,hr => by
  cases ds with
  | nil => simp [RepL] at hr
  | cons d ds =>
   obtain ⟨h1,h2⟩ := hr.cons
   cases d <;> simp only [Fl,reduceCtorEq] at h
   ·split at h
    ·cases h;exact .mk h1.immInv (Ep (by assumption) h2)
    ·cases h
   ·split at h
    ·cases h
     cases h1
     exact .mk .slnil (Ep (by assumption) h2)
    ·cases h
theorem RepD.ipV {v : Value} {t : TypeId} {cs : List V} {off : Nat} (h : RepD I μ v (.ip t cs off)) : RepV I v (.ip t cs off) := by
 cases h with
 | ip b o _ _ _ vs h1 h2 => exact .ip b o t cs off vs h1 h2
theorem RepV.ipD {v : Value} {t : TypeId} {cs : List V} {off : Nat} (h : RepV I v (.ip t cs off)) : RepD I μ v (.ip t cs off) := by
 cases h with
 | ip b o _ _ _ vs h1 h2 => exact .ip b o t cs off vs h1 h2
theorem VN {v : Value} {x : V} (h : YX d = some x) (hr : RepD I μ v d) : RepV I v x := by
 unfold YX at h
 split at h
 ·cases h;exact hr.immInv
 ·cases h;cases hr;exact .slnil
 ·split at h
  ·rename_i xs hx
   cases h
   obtain ⟨cs,rfl,h1,h2⟩ := hr.aggDInv
   have := Ep hx h1
   exact .agg cs xs (by have := this.1;simpa using this) h2 fun i c x hc hx => this.2 i c x (by simpa using hc) hx
  ·cases h
 ·cases h;exact hr.ipV
 ·cases h
theorem FJ : ∀ {vs : List Value} {ds : List D} {xs : List V},HW ds = some xs → RepL I μ vs ds → RepVL I vs xs
 | [],[],xs,h,hr => by
  simp only [HW,Option.some.injEq] at h
  subst h
  exact ⟨rfl,fun i v x h => by simp at h⟩
 | v :: vs,d :: ds,xs,h,hr => by
  simp only [HW] at h
  split at h
  ·rename_i x xs' h1 h2
   cases h
   have ih := FJ (vs := vs) h2 ⟨by simpa using hr.1,fun i v d p q => hr.2 (i + 1) v d (by simpa using p) (by simpa using q)⟩
   refine ⟨by simp [ih.1],fun i u y p q => ?_⟩
   cases i with
   | zero => simp at p q;rw [← p,← q];exact VN h1 (hr.2 0 v d rfl rfl)
   | succ i => exact ih.2 i u y (by simpa using p) (by simpa using q)
  ·cases h
 | [],_ :: _,_,_,hr => by have := hr.1;simp at this
 | _ :: _,[],_,_,hr => by have := hr.1;simp at this
theorem O9 {v : Value} {x : V} (h : Z9 d = some x) (hr : RepD I μ v d) : RepV I v x := by
 unfold Z9 at h
 split at h
 ·cases h;exact hr.immInv
 ·cases h;cases hr;exact .slnil
 ·split at h
  ·rename_i xs hx
   cases h
   obtain ⟨cs,rfl,h1,h2⟩ := hr.aggDInv
   have := Ep hx h1
   exact .agg cs xs (by have := this.1;simpa using this) h2 fun i c x hc hx => this.2 i c x (by simpa using hc) hx
  ·cases h
 ·split at h
  ·rename_i ds _ xs hx
   cases h
   generalize hd : D.tup ds = d' at hr
   cases hr <;> cases hd
   rename_i cs hl h
   have := FJ (vs := cs.toList) hx ⟨by simpa using hl,fun i c x hc hx => h i c x (by simpa using hc) hx⟩
   exact .tup cs xs (by have := this.1;simpa using this) fun i c x hc hx => this.2 i c x (by simpa using hc) hx
  ·cases h
 ·cases h;exact hr.ipV
 ·cases h;cases hr;assumption
 ·split at h
  ·rename_i xs ys hx hy
   cases h
   cases hr with
   | fn g first cap df dc hf hc h1 h2 =>
    have q1 := FJ (vs := first.toList) hx ⟨by simpa using hf,fun i v d e1 e2 => h1 i v d (by simpa using e1) e2⟩
    have q2 := FJ (vs := cap.toList) hy ⟨by simpa using hc,fun i v d e1 e2 => h2 i v d (by simpa using e1) e2⟩
    exact .clo _ first cap xs ys (by simpa using q1.1) (by simpa using q2.1) (fun i c x h1 h2 => q1.2 i c x (by simpa using h1) h2) (fun i c x h1 h2 => q2.2 i c x (by simpa using h1) h2)
  ·cases h
 ·cases h
theorem PI : ∀ {vs : List Value} {ds : List D} {xs : List V},I1 ds = some xs → RepL I μ vs ds → RepVL I vs xs
 | [],ds,xs,h,hr => by
  cases ds with
  | nil => cases h;exact .nil
  | cons d ds => simp [RepL] at hr
 | v :: vs,ds,xs,h,hr => by
  cases ds with
  | nil => simp [RepL] at hr
  | cons d ds =>
   obtain ⟨h1,h2⟩ := hr.cons
   simp only [I1] at h
   split at h
   ·cases h;exact .mk (O9 (by assumption) h1) (PI (by assumption) h2)
   ·cases h
theorem Hn {f : List Nat × List Nat} {all : List Oper} {o : Oper} (h : AQ todo f = some (all,o,todo')) :
  (∃ r k,todo = .ops all (o :: r) :: k ∧ todo' = .ops all r :: k) ∨ ∃ r fs k,todo = .dops all (o :: r) fs :: k ∧ todo' = .dops all r (f :: fs) :: k := by
 unfold AQ at h
 split at h
 ·cases h;exact .inl ⟨_,_,rfl,rfl⟩
 ·cases h;exact .inr ⟨_,_,_,rfl,rfl⟩
 ·cases h
theorem BA {rd fr : List Nat} {wr : St} {all : List Oper} {o : Oper} (h1 : AQ todo (rd,wr.map (·.1)) = some (all,o,todo')) (hl : LD P (LZ Q) all o env st rd fr wr d) (hn : BW n o.dst = true)
  (hnd : ∀ c,o.op ≠ .defer c) (h : G P n F Q todo' (Bo o.dst d env) (wr ++ st) ids') : G P n F Q todo env st (fr ++ ids') := by
 have hn' : ∀ t,o.dst = some t → t < n := fun t ht => by
  unfold BW at hn
  rw [ht] at hn
  simpa [Nat.blt_eq] using hn
 rcases Hn h1 with ⟨r,k,rfl,rfl⟩ | ⟨r,fs,k,rfl,rfl⟩
 ·exact ZU hl hn' hnd h
 ·simp only [G,List.reverse_cons] at h ⊢
  exact Px hl hn' hnd h
def Ei (P : Program) (o : Oper) (env : Env) (f : FuncId) (das : List D) (cx : Prop) : Prop :=
 ∀ I μ a w,Ci I μ env a o.op → cx → ∃ xs : Array Value,RepL I μ xs.toList das ∧ (execOp a.eval o).run P w = (callFunc f xs).run P w
theorem EL {o : Oper} {f : FuncId} {args : List Operand} {ts : Array TypeId} {ds : List D} (ho : o.op = .call { callee := .value (.func f),args := ⟨args⟩,argTypes := ts }) (ha : GT cx env args = some (ds,ob)) (hob : Ay ob) :
  Ei P o env f ds cx := by
 intro I μ a w hop hc
 rw [ho] at hop
 refine ⟨(args.map a.eval).toArray,by simpa using evAs_rep hc ha hob fun x hx => hop x (by simp [Op.operands,Call.operands,hx]),?_⟩
 simp only [execOp,ho,resolve,Act.eval,Deferred.ofValue,Sem.run_bind,Sem.run_pure,Result.andThen_ok,invoke]
 congr 2
 simp
theorem DS {o : Oper} {t : Nat} {f : FuncId} {args : List Operand} {ts : Array TypeId} {ds : List D} (ho : o.op = .call { callee := .value (.tmp t),args := ⟨args⟩,argTypes := ts }) (ht : lk env t = some (.imm (.fn (.func f))))
  (ha : GT cx env args = some (ds,ob)) (hob : Ay ob) : Ei P o env f ds cx := by
 intro I μ a w hop hc
 rw [ho] at hop
 refine ⟨(args.map a.eval).toArray,by simpa using evAs_rep hc ha hob fun x hx => hop x (by simp [Op.operands,Call.operands,hx]),?_⟩
 have hv : a.eval (.tmp t) = .func (.func f) #[] #[] := (hop (.tmp t) (by simp [Op.operands,Call.operands]) _ ht).immInv.fnInv
 simp only [execOp,ho,resolve,hv,Deferred.ofValue,Sem.run_bind,Sem.run_pure,Result.andThen_ok,invoke]
 congr 2
 simp
theorem HS {o : Oper} {t : Nat} {f : FuncId} {args : List Operand} {ts : Array TypeId} {ds df dc : List D} (ho : o.op = .call { callee := .value (.tmp t),args := ⟨args⟩,argTypes := ts }) (ht : lk env t = some (.fn (.func f) df dc))
  (ha : GT cx env args = some (ds,ob)) (hob : Ay ob) : Ei P o env f (df ++ ds ++ dc) cx := by
 intro I μ a w hop hc
 rw [ho] at hop
 have hd := evAs_rep (I := I) (μ := μ) (a := a) hc ha hob fun x hx => hop x (by simp [Op.operands,Call.operands,hx])
 have hf := hop (.tmp t) (by simp [Op.operands,Call.operands]) _ ht
 generalize hv : a.eval (.tmp t) = v at hf
 cases hf with
 | fn _ first cap _ _ h1 h2 h3 h4 =>
  refine ⟨first ++ (args.map a.eval).toArray ++ cap,?_,?_⟩
  ·simp only [Array.toList_append]
   refine RepL.append (RepL.append ⟨by simpa using h1,fun i v d hv hd => h3 i v d (by simpa using hv) hd⟩ hd) ⟨by simpa using h2,fun i v d hv hd => h4 i v d (by simpa using hv) hd⟩
  ·simp only [execOp,ho,resolve,hv,Deferred.ofValue,Sem.run_bind,Sem.run_pure,Result.andThen_ok,invoke]
   congr 3
   simp
theorem Gi {all : List Oper} {o : Oper} {g : Option (Bool × Bool)} (hg : BH all env o = some g) (hon : ∀ t ∈ o.looksAt all.toArray,∀ d,lk env t = some d → RepD I μ (a.tmps.getD t undef) d) :
  Region.wanted o (yielded all.toArray a.tmps) = true ↔ Af g := by
 unfold BH at hg
 split at hg
 ·rename_i hgd
  cases hg
  simp [Af,wanted_none hgd]
 ·rename_i j w0 hgd
  split at hg
  ·rename_i gs _ _ _ _ _ hj
   split at hg
   ·rename_i c hl
    cases hg
    rw [A6] at hj
    exact MK hgd hj rfl hl hon
   ·cases hg
  ·cases hg
theorem Pd {all : List Oper} {o : Oper} {f : FuncId} {das : List D} {vs : List V} {v : V} {g : Option (Bool × Bool)} (hg : BH all env o = some g) (hc : Ei P o env f das (Af g)) (hv : I1 das = some vs)
  (hE : Af g → PureC P f vs v) : LD P Pn all o env st [] [] [] (gD g (.imm v)) := by
 have key : ∀ I μ st1 ids1 a w,StRep I μ st1 ids1 w → Ci I μ env a o.op → Af g → valX P ((execOp a.eval o).run P w) (fun u w' => ∃ I' μ',StRep I' μ' st1 ids1 w' ∧ RepD I' μ' u (gD g (.imm v)) ∧ μ.le μ' ∧ Ext I μ st1 w I' μ' st1 w') (JJ Pn I μ st1 w) := by
  intro I μ st1 ids1 a w hst hop hcx
  obtain ⟨xs,h1,h2⟩ := hc I μ a w hop hcx
  have hx := PI hv h1
  obtain ⟨q1,q2,q3⟩ := Gm (σ := []) (st0 := []) hst trivial (das := vs.map .imm) (by
   have : ∀ vs : List V,Gu (vs.map .imm) = [] := fun vs => by induction vs with
    | nil => rfl
    | cons x r ih => simp [Gu,Hm,ih]
   rw [this];rfl) hx.imm
  have hren : DZ (CM []) (vs.map .imm) = vs.map .imm := by
   rw [D6];simp [Ib]
  rw [hren] at q2
  rw [h2]
  refine (hE hcx I _ w xs q1 q2).mono (fun u w' hu => ?_) (fun _ _ h => h.elim)
  obtain ⟨I',μ',r1,r2,r3,r4⟩ := hu
  obtain ⟨ν,s1,s2,s3,s4⟩ := Kg (fr := []) (ids' := ids1) (σ := []) (τ1 := []) (das := []) (st0 := []) hst trivial ⟨rfl,rfl,fun _ h => by simp at h,rfl,rfl,fun _ h => by simp at h⟩ r1 r2 r3 r4 q3
  refine ⟨I',ν,s1,?_,s3,s4⟩
  cases g with
  | none => exact s2
  | some p => exact .guard _ _ _ _ (fun _ => s2) (fun hn => absurd hcx hn)
 intro I μ st1 ids1 a w _ hst hon
 have hwant := Gi hg hon
 refine ⟨fun hw => key I μ st1 ids1 a w hst (Ba hon) (hwant.1 hw),fun hw => ⟨rfl,rfl,?_⟩⟩
 cases g with
 | none => rw [hwant.2 trivial] at hw;cases hw
 | some p => exact .guard _ _ _ _ (fun hc => by rw [hwant.2 hc] at hw;cases hw) (fun _ => rfl)
theorem Ac {f : FuncId} {vs : List V} {g : Option (Bool × Bool)} {ob : List Prop} {dst : Option Nat} {todo' : List DI} {v : V} (h : YG n env todo = some ⟨f,vs,g,ob,dst,todo'⟩) (hE : Af g → PureC P f vs v) (hob : Ay ob)
  (hk : G P n F Q todo' (Bo dst (gD g (.imm v)) env) st ids) : G P n F Q todo env st ids := by
 unfold YG at h
 have fin : ∀ {all : List Oper} {o : Oper} {todo1 : List DI} {x : Ue},(match o.dst with
   | some t => some (⟨x.f,x.vs,x.g,x.ob,some t,todo1⟩ : Ue)
   | none => some ⟨x.f,x.vs,x.g,x.ob,none,todo1⟩) = some ⟨f,vs,g,ob,dst,todo'⟩ → x.f = f ∧ x.vs = vs ∧ x.g = g ∧ x.ob = ob ∧ o.dst = dst ∧ todo1 = todo' := by
  intro all o todo1 x hx
  split at hx <;> (rename_i hd;cases hx;exact ⟨rfl,rfl,rfl,rfl,hd,rfl⟩)
 split at h
 ·rename_i all o todo1 h1
  have hnd : ∀ cc,o.op = .call cc → ∀ c,o.op ≠ .defer c := fun cc h c h' => by rw [h] at h';cases h'
  split at h
  ·rename_i f args ts g ho hg
   split at h
   ·rename_i ds ob ha
    split at h
    ·rename_i vs hv hd
     obtain ⟨e1,e2,e3,e4,e5,e6⟩ := fin (all := all) (x := ⟨f,vs,g,ob,none,todo1⟩) h
     dsimp only at e1 e2 e3 e4
     subst e1;subst e2;subst e3;subst e4;subst e5;subst e6
     exact BA (fr := []) (wr := []) h1 (Pd hg (EL ho ha hob) hv hE) hd (hnd _ ho) hk
    ·cases h
   ·cases h
  ·rename_i t args ts g ho hg
   split at h
   ·rename_i f ds ob ht ha
    split at h
    ·rename_i vs hv hd
     obtain ⟨e1,e2,e3,e4,e5,e6⟩ := fin (all := all) (x := ⟨f,vs,g,ob,none,todo1⟩) h
     dsimp only at e1 e2 e3 e4
     subst e1;subst e2;subst e3;subst e4;subst e5;subst e6
     exact BA (fr := []) (wr := []) h1 (Pd hg (DS ho ht ha hob) hv hE) hd (hnd _ ho) hk
    ·cases h
   ·cases h
  ·cases h
 ·cases h
end
end Go.Hk
namespace Go.Hk
def Pb (tt : TT) (st : St) (ty : TypeId) : D → Option D
 | .ref id off => match lk tt ty,lk st id with
  | some i,some (some (.immb _ sz xs)) => IQ i (Nat.beq sz i.size) xs off
  | some i,some (some (.cells _ sz cs)) => GI i (Nat.beq sz i.size) cs off
  | _,_ => none
 | _ => none
def W2 : D → Bool
 | .guard .. => false
 | _ => true
def LR (tt : TT) (env : Env) (st : St) : List ResultVar → Option (List D)
 | [] => some []
 | .tmp t :: r => match lk env t,LR tt env st r with
  | some d,some ds => match W2 d with
   | true => some (d :: ds)
   | false => none
  | _,_ => none
 | .cell t ty :: r => match lk env t,LR tt env st r with
  | some a,some ds => match Pb tt st ty a with
   | some d => some (d :: ds)
   | none => none
  | _,_ => none
def I7 : List D → D
 | [d] => d
 | ds => .tup ds
def Nb (d : D) : D → Prop
 | .imm v => Z9 d = some v
 | d' => d = d'
def Eu (st : St) : St → Prop
 | [] => True
 | (i,some b) :: r => lk st i = some (some b) ∧ Eu st r
 | (_,none) :: _ => False
def Nt (tt : TT) (rs : List ResultVar) (out : Z7) : DQ := fun x env st _ => match x,out with
 | .ret,.ret d st' => ∃ ds,LR tt env st rs = some ds ∧ Nb (I7 ds) d ∧ Eu st st'
 | .norm,.ret d st' => ∃ ds,LR tt env st rs = some ds ∧ Nb (I7 ds) d ∧ Eu st st'
 | .panic x,.pan y => x = y
 | _,_ => False
def Iu : Nat → List D → Env
 | _,[] => []
 | i,d :: r => (i,d) :: Iu (i + 1) r
section
variable {P : Program} {tt : TT} {env : Env} {st st' : St} {ids : List Nat} {I : Imm} {μ : Mu} {w : World} {d : D}
theorem C9 : ∀ {st' : St},Eu st st' → ∀ i b,Al st' i b → Al st i b
 | [],_,i,b,h => by simp [Al,lk] at h
 | (k,none) :: r,h,_,_,_ => h.elim
 | (k,some x) :: r,h,i,b,hl => by
  by_cases hk : k = i
  ·subst hk
   unfold Al at hl;rw [lk_cons_self] at hl;cases hl
   exact h.1
  ·refine C9 h.2 i b ?_
   unfold Al at hl ⊢;rwa [lk_cons_ne _ _ hk] at hl
theorem StRep.less (hs : StRep I μ st ids w) (h : ∀ i b,Al st' i b → Al st i b) {ids' : List Nat} (hn : ids'.Nodup) (hi : ∀ i ∈ ids',μ i = none) : StRep I μ st' ids' w :=
 {imm := hs.imm,blk := fun id blk hl => hs.blk id blk (h _ _ hl),apart := fun id blk g b hl => hs.apart id blk g b (h _ _ hl),
  inj := fun i j bi bj gi gj b hi hj => hs.inj i j bi bj gi gj b (h _ _ hi) (h _ _ hj),nodup := hn,idsFree := hi }
theorem RZ (htt : TTok P tt) (hst : StRep I μ st ids w) {ty : TypeId} {v : Value} {da : D} (hv : RepD I μ v da) (h : Pb tt st ty da = some d) :
  ∃ b u,v = .pointer (some b) ∧ (loadVar ty b).run P w = .ok u w ∧ RepD I μ u d := by
 unfold Pb at h
 split at h
 ·rename_i id off
  obtain ⟨b,e1,e2⟩ := hv.refInv
  have conv : ∀ {u : Value},(Instr.loadAt ty (.pointer (some ⟨b,off,none⟩))).run P w = .ok u w → (loadVar ty ⟨b,off,none⟩).run P w = .ok u w := fun h => by
   simpa [Instr.loadAt,Instr.sureAddr] using h
  split at h
  ·rename_i i bt sz xs hi hl
   obtain ⟨g,hg,hlen,b',vs,hg2,hheap,hrep,hone⟩ := hst.blk id _ hl
   rw [e2] at hg;cases hg;cases hg2
   obtain ⟨u,h1,h2⟩ := IP (P := P) (w := w) (I := I) (μ := μ) (htt ty i hi) (b := b) (o := 0) (off := off) (xs := xs) (vs := fun j => vs.toList.getD j undef) (same := Nat.beq sz i.size)
    (fun j x hj => by
     have hlt : j < xs.length := (List.getElem?_eq_some_iff.1 hj).1
     have hv : vs.toList[j]? = some (vs.toList[j]'(by rw [hrep.1];exact hlt)) := List.getElem?_eq_getElem _
     rw [Nat.zero_add]
     have e : vs.toList.getD j undef = vs.toList[j]'(by rw [hrep.1];exact hlt) := by simp [List.getD,hv]
     rw [e]
     exact ⟨cell_of_heap hheap j _ hv,hone _ (List.getElem_mem _)⟩)
    (fun j x hj => by
     have hlt : j < xs.length := (List.getElem?_eq_some_iff.1 hj).1
     have hv : vs.toList[j]? = some (vs.toList[j]'(by rw [hrep.1];exact hlt)) := List.getElem?_eq_getElem _
     have e : vs.toList.getD j undef = vs.toList[j]'(by rw [hrep.1];exact hlt) := by simp [List.getD,hv]
     rw [e]
     exact hrep.2 j _ _ hv hj)
    (fun _ hs _ => by rw [hlen];exact Nat.eq_of_beq_eq_true hs) h
   rw [Nat.zero_add] at h1
   exact ⟨_,u,e1,conv h1,h2⟩
  ·rename_i i bt sz cs hi hl
   obtain ⟨g,hg,hlen,b',vs,hg2,hheap,hrep,hone⟩ := hst.blk id _ hl
   rw [e2] at hg;cases hg;cases hg2
   obtain ⟨u,h1,h2⟩ := Qv (P := P) (w := w) (I := I) (μ := μ) (htt ty i hi) (b := b) (off := off) (cs := cs) (vs := vs.toList) (same := Nat.beq sz i.size)
    (fun j v hj => cell_of_heap hheap j v hj) hone hrep (fun _ hs _ => by rw [hlen];exact Nat.eq_of_beq_eq_true hs) h
   exact ⟨_,u,e1,conv h1,h2⟩
  ·cases h
 ·cases h
theorem run_asAddr (b : Addr) : (asAddr (.pointer (some b))).run P w = .ok b w := by simp [asAddr]
theorem OH (htt : TTok P tt) (hst : StRep I μ st ids w) {tmps : Array Value} (he : ∀ t d,lk env t = some d → RepD I μ (tmps.getD t undef) d) {g : ResultVar → Sem Value} (g1 : ∀ t,g (.tmp t) = pure (tmps.getD t undef))
  (g2 : ∀ a t,g (.cell a t) = do loadVar t (← asAddr (tmps.getD a undef))) : ∀ {rs : List ResultVar} {ds : List D},LR tt env st rs = some ds → ∃ vs,(rs.mapM g).run P w = .ok vs w ∧ RepL I μ vs ds
 | [],ds,h => by cases h;exact ⟨[],by simp,.nil⟩
 | .tmp t :: r,ds,h => by
  simp only [LR] at h
  split at h
  ·rename_i d ds' h1 h2
   split at h
   ·cases h
    obtain ⟨vs,h3,h4⟩ := OH htt hst he g1 g2 h2
    exact ⟨_,by simp only [List.mapM_cons,g1,Sem.run_bind,Sem.run_pure,Result.andThen_ok,h3],.mk (he t d h1) h4⟩
   ·cases h
  ·cases h
 | .cell t ty :: r,ds,h => by
  simp only [LR] at h
  split at h
  ·rename_i a ds' h1 h2
   split at h
   ·rename_i d hd
    cases h
    obtain ⟨vs,h3,h4⟩ := OH htt hst he g1 g2 h2
    obtain ⟨b,u,e1,e2,e3⟩ := RZ htt hst (he t a h1) hd
    exact ⟨_,by simp only [List.mapM_cons,g2,Sem.run_bind,Sem.run_pure,Result.andThen_ok,h3,e1,run_asAddr,e2],.mk e3 h4⟩
   ·cases h
  ·cases h
theorem RN (htt : TTok P tt) (hst : StRep I μ st ids w) {tmps : Array Value} (he : ∀ t d,lk env t = some d → RepD I μ (tmps.getD t undef) d) {fn : Func} {ds : List D} (h : LR tt env st fn.results.toList = some ds) :
  ∃ vs : List Value,(results fn tmps).run P w = .ok (if h : vs.toArray.size = 1 then vs.toArray[0] else .tuple vs.toArray) w ∧ RepL I μ vs ds := by
 have hm : ∀ (f : ResultVar → Sem Value) (vs : List Value),(fn.results.toList.mapM f).run P w = .ok vs w → (fn.results.mapM f).run P w = .ok vs.toArray w := fun f vs hf => by
  rw [Array.mapM_eq_mapM_toList]
  change Sem.run P (List.mapM f fn.results.toList >>= fun l => pure l.toArray) w = _
  simp only [Sem.run_bind,hf,Sem.run_pure,Result.andThen_ok]
 refine Exists.imp (fun vs hv => ⟨?_,hv.2⟩) (OH (g := fun | .tmp t => pure (tmps.getD t undef) | .cell a t => do loadVar t (← asAddr (tmps.getD a undef))) htt hst he (fun _ => rfl) (fun _ _ => rfl) h)
 have q := hm _ vs hv.1
 unfold results
 simp only [Sem.run_bind]
 exact Eq.trans (congrArg (Result.andThen · (fun vs w => Sem.run P (pure (if h : vs.size = 1 then vs[0] else .tuple vs)) w)) q) (by simp)
theorem U2 {vs : List Value} {ds : List D} (h : RepL I μ vs ds) : RepD I μ (if h : vs.toArray.size = 1 then vs.toArray[0] else .tuple vs.toArray) (I7 ds) := by
 have tup : RepD I μ (.tuple vs.toArray) (.tup ds) := .tup _ _ (by simpa using h.1) fun i c x hc hx => h.2 i c x (by simpa using hc) hx
 match vs,ds,h,tup with
 | [],[],_,tup => simpa [I7] using tup
 | [v],[d],h,_ => simpa [I7] using h.2 0 v d rfl rfl
 | v :: v' :: r,d :: d' :: s,_,tup => simpa [I7] using tup
 | [],_ :: _,h,_ => simp [RepL] at h
 | _ :: _,[],h,_ => simp [RepL] at h
 | [_],_ :: _ :: _,h,_ => simp [RepL] at h
 | _ :: _ :: _,[_],h,_ => simp [RepL] at h
theorem LA {v : Value} {d' : D} (h : Nb d d') (hr : RepD I μ v d) : RepD I μ v d' := by
 cases d' with
 | imm x => exact .imm _ _ (O9 h hr)
 | _ => (have h : d = _ := h);rw [← h];exact hr
theorem run_callFunc_body {f : FuncId} {fn : Func} {c : Code} (hf : P.funcs[f]? = some fn) (hname : (fn.name == "runtime.NumGoroutine") = false) (hb : fn.body = some c) (xs : Array Value) :
  (callFunc f xs).run P w = .ok (.enter f xs) w := by
 have hn : ¬ fn.name = "runtime.NumGoroutine" := by simpa using hname
 simp [callFunc,hf,hn,hb]
theorem NY : ∀ {ds : List D} {i t : Nat} {d : D},lk (Iu i ds) t = some d → ∃ j,t = i + j ∧ ds[j]? = some d
 | [],i,t,d,h => by simp [Iu,lk] at h
 | x :: r,i,t,d,h => by
  simp only [Iu] at h
  by_cases hi : i = t
  ·subst hi;rw [lk_cons_self] at h;cases h;exact ⟨0,rfl,rfl⟩
  ·rw [lk_cons_ne _ _ hi] at h
   obtain ⟨j,h1,h2⟩ := NY h
   exact ⟨j + 1,by omega,by simpa using h2⟩
def Lc : List Nat → List Nat → Bool
 | [],_ => true
 | x :: r,l => memN l x && Lc r l
theorem D4 : ∀ {a b : List Nat},Lc a b = true → ∀ i ∈ a,i ∈ b
 | [],_,_,i,h => by simp at h
 | x :: r,b,h,i,hi => by
  simp only [Lc,Bool.and_eq_true] at h
  rcases List.mem_cons.1 hi with rfl | hi
  ·exact memN_iff.1 h.1
  ·exact D4 h.2 i hi
def nodupB : List Nat → Bool
 | [] => true
 | x :: r => !memN r x && nodupB r
theorem nodupB_spec : ∀ {a : List Nat},nodupB a = true → a.Nodup
 | [],_ => .nil
 | x :: r,h => by
  simp only [nodupB,Bool.and_eq_true,Bool.not_eq_true'] at h
  exact List.nodup_cons.2 ⟨fun hm => (by rw [memN_iff.2 hm] at h;cases h.1),nodupB_spec h.2⟩
theorem RepL.sub {ν : Mu} {vs : List Value} {ds : List D} (h : RepL I μ vs ds) (hn : ∀ i ∈ Gu ds,∀ g,μ i = some g → ν i = some g) : RepL I ν vs ds :=
 ⟨h.1,fun i v d hv hd => (h.2 i v d hv hd).sub fun j hj => hn j (FY (List.mem_of_getElem? hd) hj)⟩
theorem BlkRep.sub {ν : Mu} {g : Value} {blk : Blk} (h : BlkRep I μ w g blk) (hn : ∀ i ∈ OU blk,∀ g,μ i = some g → ν i = some g) : BlkRep I ν w g blk := by
 cases blk with
 | immb t sz xs => exact h
 | cells t sz cs =>
  obtain ⟨hs,b,vs,h1,h2,h3,h4⟩ := h
  exact ⟨hs,b,vs,h1,h2,h3.sub hn,h4⟩
 | row t sz es => exact h
 | map kv => exact h
 | siter s pos => exact h
 | pin => exact h
 | bun id S =>
  obtain ⟨b,bs,h1,h2,h3⟩ := h
  exact ⟨b,bs,hn id (by simp [OU]) _ h1,h2,h3⟩
 | hp A => exact h
 | adr id b => exact ⟨h.1,hn id (by simp [OU]) _ h.2⟩
 | mapx kv b es c => exact h
 | miter b s z c => exact h
def RetL (tt : TT) (rs : List ResultVar) (out : Z7) : DQ := fun x env st _ => match x,out with
 | .ret,.ret d st' => ∃ ds,LR tt env st rs = some ds ∧ Nb (I7 ds) d ∧ ∀ i b,Al st' i b → Al st i b
 | .norm,.ret d st' => ∃ ds,LR tt env st rs = some ds ∧ Nb (I7 ds) d ∧ ∀ i b,Al st' i b → Al st i b
 | .panic x,.pan y => x = y
 | _,_ => False
theorem Xh {f : FuncId} {fn : Func} {c : Code} {ds : List D} {st0 : St} {out : Z7} (htt : TTok P tt) (hf : P.funcs[f]? = some fn) (hname : (fn.name == "runtime.NumGoroutine") = false) (hb : fn.body = some c)
  (ids : List Nat) (hsz : Nat.ble ds.length fn.ntmps = true) (hn1 : ids.Nodup) (hn2 : ∀ i ∈ ids,i ∉ Db st0) (hn3 : ∀ i ∈ Gu ds,i ∈ Db st0) (hn4 : ∀ i ∈ Dv st0,i ∈ Db st0)
  (h : DGo P fn.ntmps (Db st0) (RetL tt fn.results.toList out) [.code c] (Iu 0 ds) st0 ids) : AP P f ds st0 out := by
 intro I μ w xs hst hx
 rw [run_callFunc_body hf hname hb]
 refine calls_of_reachM hf hb fun b cs hbf _ hbr => ?_
 obtain ⟨ν,hν⟩ : ∃ ν : Mu,ν = fun i => if memN (Db st0) i = true then μ i else none := ⟨_,rfl⟩
 have hν1 : ∀ i ∈ Db st0,ν i = μ i := fun i hi => by rw [hν];simp [memN_iff.2 hi]
 have hlive : ∀ i b,Al st0 i b → i ∈ Db st0 := by
  intro i b hl
  have : ∀ {st0 : St},Al st0 i b → i ∈ Db st0 := by
   intro st0
   induction st0 with
   | nil => intro h;simp [Al,lk] at h
   | cons p r ih =>
    obtain ⟨k,y⟩ := p
    intro h
    by_cases hk : k = i
    ·subst hk;simp [Db]
    ·have : Al r i b := by unfold Al at h ⊢;rwa [lk_cons_ne _ _ hk] at h
     simp only [Db,List.map_cons,List.mem_cons];exact .inr (ih this)
  exact this hl
 have hst1 : StRep I ν st0 ids w := by
  refine { imm := hst.imm,blk := fun i b hl => ?_,apart := fun i bb g k hl hg hk => hst.apart i bb g k hl (by rw [← hν1 i (hlive i bb hl)];exact hg) hk,inj := fun i j bi bj gi gj k hi hj hgi hgj => hst.inj i j bi bj gi gj k hi hj (by rw [← hν1 i (hlive i bi hi)];exact hgi) (by rw [← hν1 j (hlive j bj hj)];exact hgj),nodup := hn1,idsFree := fun i hi => ?_ }
  ·obtain ⟨g,hg,hr⟩ := hst.blk i b hl
   refine ⟨g,by rw [hν1 i (hlive i b hl)];exact hg,hr.sub fun j hj g hgj => ?_⟩
   rw [hν1 j (hn4 j ((CF hl).2 j hj))];exact hgj
  ·rw [hν]
   have := hn2 i hi
   have hm : memN (Db st0) i = false := by
    cases h : memN (Db st0) i with
    | false => rfl
    | true => exact absurd (memN_iff.1 h) this
   simp [hm]
 have hx1 : RepL I ν xs.toList ds := hx.sub fun j hj g hg => by rw [hν1 j (hn3 j hj)];exact hg
 have hlen : xs.size = ds.length := by have := hx.1;simpa using this
 have hsz' : ds.length ≤ fn.ntmps := by simpa [Nat.ble_eq] using hsz
 have hc : Conc fn.ntmps I ν (Iu 0 ds) st0 ids { tmps := xs ++ Array.replicate (fn.ntmps - xs.size) undef,defers := [] } w :=
  {hst1 with
   size := (by simp;omega)
   env := fun t d hl => by
    obtain ⟨j,rfl,hd⟩ := NY hl
    have hj : j < ds.length := (List.getElem?_eq_some_iff.1 hd).1
    have hjx : j < xs.size := by omega
    have e : (xs ++ Array.replicate (fn.ntmps - xs.size) undef).getD (0 + j) undef = xs[j] := by
     rw [Nat.zero_add]
     simp [Array.getD,Array.getElem_append_left hjx]
     omega
    rw [e]
    exact hx1.2 j _ d (by simp [hjx]) hd
   defers := MarksOk.nil _ _ _ _ }
 have hown : ∀ b,AG ν st0 b ↔ AG μ st0 b := fun b => by
  constructor <;> rintro ⟨i,bi,g,h1,h2,h3⟩
  ·exact ⟨i,bi,g,h1,by rw [← hν1 i (hlive i bi h1)];exact h2,h3⟩
  ·exact ⟨i,bi,g,h1,by rw [hν1 i (hlive i bi h1)];exact h2,h3⟩
 have hrun := h ⟨b,.inr ⟨hbr,fn,by rw [hbf];exact hf⟩⟩ cs I ν { tmps := xs ++ Array.replicate (fn.ntmps - xs.size) undef,defers := [] } w [.code c] ⟨rfl,trivial⟩ hc
 refine hrun.mono fun e a' w' hp => ?_
 obtain ⟨x,env',st',ids',I',μ',p1,p2,p3,p4,p5',p6⟩ := hp
 obtain ⟨rs,m1,m2,m3⟩ := p3.defers
 have hrs : ∀ r ∈ rs,w.heap.size ≤ r := fun r hr => by
  rcases p6 r (by rw [m1];exact List.mem_map.2 ⟨r,hr,rfl⟩) with h | h
  ·simp at h
  ·exact h
 obtain ⟨w2,k1,k2,k3,k4,k5,k6⟩ := NX (P := P) rs w' m2 (fun r hr => (m3 r hr).1)
 have hS2 : StRep I' μ' st' ids' w2 :=
  {imm := fun b o h => by rw [k6 b (fun hm => by rw [(m3 b hm).2.1] at h;cases h)];exact p3.imm b o h
   blk := fun i b hl => by
    obtain ⟨g,hg,hr⟩ := p3.blk i b hl
    exact ⟨g,hg,hr.world fun bb hbb => k6 bb fun hm => (m3 bb hm).2.2 ⟨i,b,g,hl,hg,hbb⟩⟩
   apart := fun i b g bb hl hg hbb => by rw [k5];exact p3.apart i b g bb hl hg hbb
   inj := p3.inj
   nodup := p3.nodup
   idsFree := p3.idsFree }
 have p5 : Ext I ν st0 w I' μ' st' w2 :=
  {imm := p5'.imm,os := k2.trans p5'.os,tape := k3.trans p5'.tape,output := k4.trans p5'.output,size := by rw [k5];exact p5'.size
   block := fun b hb ho => (k6 b fun hm => by have := hrs b hm;omega).trans (p5'.block b hb ho),fresh := p5'.fresh,old := p5'.old }
 have fin : ∀ d st1,out = .ret d st1 → (∃ ds,LR tt env' st' fn.results.toList = some ds ∧ Nb (I7 ds) d ∧ ∀ i b,Al st1 i b → Al st' i b) → ∃ w'' v,Marks P a'.defers w' w'' ∧ (results fn a'.tmps).run P w'' = .ok v w'' ∧
   (match (Ending.returned v) with
    | .returned v => (match out with
     | .ret d st' => ∃ I' μ',RepD I' μ' v d ∧ StRep I' μ' st' [] w'' ∧ Pin (Db st0) μ μ' ∧ Ext I μ st0 w I' μ' st' w''
     | .pan _ => False)
    | .panicked chain => (match out with
     | .ret _ _ => False
     | .pan x => JJ (· = x) I μ st0 w chain w'')
    | .outgrown => False) := by
  rintro d st1 rfl ⟨ds',r1,r2,r3⟩
  obtain ⟨vs,q1,q2⟩ := RN htt hS2 p3.env r1
  refine ⟨w2,_,by rw [m1];exact k1,q1,I',μ',LA r2 (U2 q2),hS2.less (r3) .nil (fun _ h => by simp at h),fun i hi g hg => p4 i hi g (by rw [hν1 i hi];exact hg),?_⟩
  exact { imm := p5.imm,os := p5.os,tape := p5.tape,output := p5.output,size := p5.size,block := fun b hb ho => p5.block b hb (fun h => ho ((hown b).1 h)),fresh := fun b hb ⟨i,bi,g,h1,h2⟩ => (hown b).1 (p5.fresh b hb ⟨i,bi,g,r3 i bi h1,h2⟩),old := fun b hb ho => p5.old b hb (fun h => ho ((hown b).1 h)) }
 cases e with
 | normal =>
  cases x <;> simp only [Kl] at p1
  cases hout : out with
  | ret d st1 => subst hout;exact fin d st1 rfl p2
  | pan y => subst hout;exact p2.elim
 | ret =>
  cases x <;> simp only [Kl] at p1
  cases hout : out with
  | ret d st1 => subst hout;exact fin d st1 rfl p2
  | pan y => subst hout;exact p2.elim
 | panic chain =>
  cases x <;> simp only [Kl] at p1
  rename_i x
  obtain ⟨v,rfl,hv⟩ := p1
  cases hout : out with
  | ret d st1 => subst hout;exact p2.elim
  | pan y =>
   subst hout
   have p2 : x = y := p2
   subst p2
   refine ⟨w2,by rw [m1];exact k1,v,x,I',rfl,rfl,hv,hS2.imm,?_⟩
   exact { imm := p5.imm,os := p5.os,tape := p5.tape,output := p5.output,size := p5.size,block := fun b hb ho => p5.block b hb (fun h => ho ((hown b).1 h)),fresh := fun b hb ⟨i,bi,g,h1,h2⟩ => by simp [Al,lk] at h1,old := fun b hb ho => p5.old b hb (fun h => ho ((hown b).1 h)) }
 | exit id =>
  cases x <;> simp only [Kl] at p1
  exact p2.elim
 | goto l =>
  cases x <;> simp only [Kl] at p1
  exact p2.elim
 | outgrown => cases x <;> simp only [Kl] at p1
theorem Ae {f : FuncId} {fn : Func} {c : Code} {ds : List D} {st0 : St} {out : Z7} (htt : TTok P tt) (hf : P.funcs[f]? = some fn) (hname : (fn.name == "runtime.NumGoroutine") = false) (hb : fn.body = some c)
  (ids : List Nat) (hsz : Nat.ble ds.length fn.ntmps = true) (hn : (nodupB ids && Jk ids (Db st0) && Lc (Gu ds) (Db st0) && Lc (Dv st0) (Db st0)) = true)
  (h : G P fn.ntmps (Db st0) (Nt tt fn.results.toList out) [.code c] (Iu 0 ds) st0 ids) : AP P f ds st0 out := by
 simp only [Bool.and_eq_true] at hn
 obtain ⟨⟨⟨hn1,hn2⟩,hn3⟩,hn4⟩ := hn
 refine Xh htt hf hname hb ids hsz (nodupB_spec hn1) (Hy.1 hn2) (D4 hn3) (D4 hn4) (h.go.mono fun x env st ids hq => ?_)
 cases x <;> cases out <;> first
  | exact hq
  | exact hq.elim
  | exact ⟨hq.choose,hq.choose_spec.1,hq.choose_spec.2.1,fun i b hl => C9 hq.choose_spec.2.2 i b hl⟩
end
end Go.Hk
namespace Go.Hk
mutual
def CP : V → Prop
 | .sl es => es.length ≤ maxLen ∧ L7 es
 | .agg cs => Bh cs
 | .tup cs => Bh cs
 | .iface _ x => CP x
 | _ => True
def Bh : List V → Prop
 | [] => True
 | x :: r => CP x ∧ Bh r
def L7 : List (List V) → Prop
 | [] => True
 | e :: r => Bh e ∧ L7 r
end
theorem G0 : ∀ {l : List V},Bh l ↔ ∀ x ∈ l,CP x
 | [] => by simp [Bh]
 | x :: r => by simp [Bh,G0 (l := r)]
theorem Nz : ∀ {l : List (List V)},L7 l ↔ ∀ e ∈ l,Bh e
 | [] => by simp [L7]
 | x :: r => by simp [L7,Nz (l := r)]
def Up (env : Env) : Env → Prop
 | [] => True
 | (t,d') :: r => (match lk env t with
  | some d => Nb d d'
  | none => False) ∧ Up env r
def Tc : Blk → Blk → Prop
 | .cells t sz cs,.immb t' sz' xs => t = t' ∧ sz = sz' ∧ Fl cs = some xs
 | .immb t sz xs,.cells t' sz' cs => t = t' ∧ sz = sz' ∧ xs.map .imm = cs
 | b,b' => b = b'
def VS (st : St) : St → Prop
 | [] => True
 | (i,some b') :: r => (match lk st i with
  | some (some b) => Tc b b'
  | _ => False) ∧ VS st r
 | (_,none) :: _ => False
def Oe (ids l : List Nat) : List Nat → Bool
 | [] => true
 | i :: r => (memN ids i || !memN l i) && Oe ids l r
theorem M1 {ids l : List Nat} : ∀ {m : List Nat},Oe ids l m = true → ∀ i ∈ m,i ∈ ids ∨ i ∉ l
 | [],_,i,h => by simp at h
 | x :: r,h,i,hi => by
  simp only [Oe,Bool.and_eq_true,Bool.or_eq_true,Bool.not_eq_true'] at h
  rcases List.mem_cons.1 hi with rfl | hi
  ·exact h.1.imp (fun h => memN_iff.1 h) fun h hm => by rw [memN_iff.2 hm] at h;cases h
  ·exact M1 h.2 i hi
section
variable {P : Program} {n : Nat} {F : List Nat} {Q : DQ} {tt : TT} {env env' : Env} {st st' : St} {ids ids' : List Nat} {k todo : List DI} {I : Imm} {μ : Mu} {w : World}
theorem RepV.ok {v : Value} {x : V} (h : RepV I v x) : CP x := by
 induction h with
 | agg cs xs hl _ _ ih =>
  simp only [CP,G0]
  intro x hx
  obtain ⟨i,hi⟩ := List.mem_iff_getElem?.1 hx
  have hlt : i < cs.size := by rw [hl];exact (List.getElem?_eq_some_iff.1 hi).1
  exact ih i cs[i] x (by simp [hlt]) hi
 | tup cs xs hl _ ih =>
  simp only [CP,G0]
  intro x hx
  obtain ⟨i,hi⟩ := List.mem_iff_getElem?.1 hx
  have hlt : i < cs.size := by rw [hl];exact (List.getElem?_eq_some_iff.1 hi).1
  exact ih i cs[i] x (by simp [hlt]) hi
 | slnil => simp [CP,L7]
 | sl0 => simp [CP,L7]
 | sl b o len cap sz es vs hl hc hm hsz hcell _ ih =>
  simp only [CP,Nz,G0]
  refine ⟨by omega,fun e he x hx => ?_⟩
  obtain ⟨i,hi⟩ := List.mem_iff_getElem?.1 he
  obtain ⟨j,hj⟩ := List.mem_iff_getElem?.1 hx
  exact ih i e j x hi hj
 | iface t v x _ ih => exact ih
 | _ => trivial
theorem J9 : ∀ {env' : Env},Up env env' → ∀ t d',lk env' t = some d' → ∃ d,lk env t = some d ∧ Nb d d'
 | [],_,t,d',h => by simp [lk] at h
 | (s,x) :: r,h,t,d',hl => by
  by_cases hs : s = t
  ·subst hs
   rw [lk_cons_self] at hl;cases hl
   have h1 := h.1
   split at h1
   ·exact ⟨_,by assumption,h1⟩
   ·exact h1.elim
  ·rw [lk_cons_ne _ _ hs] at hl
   exact J9 h.2 t d' hl
theorem JA : ∀ {st' : St},VS st st' → ∀ i b',Al st' i b' → ∃ b,Al st i b ∧ Tc b b'
 | [],_,i,b,h => by simp [Al,lk] at h
 | (s,none) :: r,h,_,_,_ => h.elim
 | (s,some x) :: r,h,i,b',hl => by
  by_cases hs : s = i
  ·subst hs
   unfold Al at hl
   rw [lk_cons_self] at hl;cases hl
   have h1 := h.1
   split at h1
   ·exact ⟨_,by assumption,h1⟩
   ·exact h1.elim
  ·refine JA h.2 i b' ?_
   unfold Al at hl ⊢;rwa [lk_cons_ne _ _ hs] at hl
theorem Ul {g : Value} {b b' : Blk} (h : Tc b b') (hr : BlkRep I μ w g b) : BlkRep I μ w g b' := by
 unfold Tc at h
 split at h
 ·obtain ⟨rfl,rfl,h⟩ := h
  obtain ⟨hs,bb,vs,h1,h2,h3,h4⟩ := hr
  have := Ep h h3
  exact ⟨by rw [← hs,← h3.1,this.1],bb,vs,h1,h2,this,h4⟩
 ·obtain ⟨rfl,rfl,rfl⟩ := h
  obtain ⟨hs,bb,vs,h1,h2,h3,h4⟩ := hr
  exact ⟨by simpa using hs,bb,vs,h1,h2,h3.imm,h4⟩
 ·subst h;exact hr
theorem ME (hE : Up env env') (hS : VS st st') (hI : (nodupB ids' && Oe ids (Ql env' ++ Dv st' ++ F) ids') = true) (h : DGo P n F Q todo env' st' ids') : DGo P n F Q todo env st ids := by
 intro b cs I μ a w items hd hc
 simp only [Bool.and_eq_true] at hI
 obtain ⟨hI1,hI2⟩ := hI
 obtain ⟨ν,hν⟩ : ∃ ν : Mu,ν = fun i => if memN ids' i = true then none else μ i := ⟨_,rfl⟩
 have hno : ∀ i ∈ Ql env' ++ Dv st' ++ F,∀ g,μ i = some g → ν i = some g := by
  intro i hi g hg
  rw [hν]
  have : memN ids' i = false := by
   cases hm : memN ids' i with
   | false => rfl
   | true =>
    rcases M1 hI2 i (memN_iff.1 hm) with h | h
    ·rw [hc.idsFree i h] at hg;cases hg
    ·exact absurd hi h
  simp [this,hg]
 have hback : ∀ i g,ν i = some g → μ i = some g := by
  intro i g hg
  rw [hν] at hg
  by_cases hm : memN ids' i = true
  ·simp [hm] at hg
  ·simpa [hm] using hg
 have hlive : ∀ i b',Al st' i b' → ∃ b,Al st i b := fun i b' hl => let ⟨b,h1,_⟩ := JA hS i b' hl;⟨b,h1⟩
 have nmE_mem : ∀ {env : Env} {t : Nat} {d : D},lk env t = some d → ∀ i ∈ Hm d,i ∈ Ql env := by
  intro env
  induction env with
  | nil => intro t d h;simp [lk] at h
  | cons p r ih =>
   obtain ⟨s,x⟩ := p
   intro t d h i hi
   simp only [Ql,List.mem_append]
   by_cases hs : s = t
   ·subst hs;rw [lk_cons_self] at h;cases h;exact .inl hi
   ·rw [lk_cons_ne _ _ hs] at h;exact .inr (ih h i hi)
 have hEx : Ext I μ st w I ν st' w :=
  {imm := Imm.le_refl I,os := rfl,tape := rfl,output := rfl,size := Nat.le_refl _,block := fun _ _ _ => rfl,
     fresh := fun b _ ⟨i,b',g,h1,h2,h3⟩ => let ⟨bb,q⟩ := hlive i b' h1;⟨i,bb,g,q,hback i g h2,h3⟩,old := fun _ _ _ => rfl }
 have hc' : Conc n I ν env' st' ids' a w :=
  {imm := hc.imm
   blk := fun i b' hl => by
    obtain ⟨b,h1,h2⟩ := JA hS i b' hl
    obtain ⟨g,hg,hr⟩ := hc.blk i b h1
    obtain ⟨q1,q2⟩ := CF hl
    exact ⟨g,hno i (by simp [q1]) g hg,(Ul h2 hr).sub fun j hj g hg => hno j (by simp [q2 j hj]) g hg⟩
   apart := fun i b' g k hl hg hk => by
    obtain ⟨b,h1⟩ := hlive i b' hl
    exact hc.apart i b g k h1 (hback i g hg) hk
   inj := fun i j bi bj gi gj k hi hj hgi hgj hki hkj => by
    obtain ⟨b1,h1⟩ := hlive i bi hi
    obtain ⟨b2,h2⟩ := hlive j bj hj
    exact hc.inj i j b1 b2 gi gj k h1 h2 (hback i gi hgi) (hback j gj hgj) hki hkj
   nodup := nodupB_spec hI1
   idsFree := fun i hi => by rw [hν];simp [memN_iff.2 hi]
   size := hc.size
   env := fun t d' hl => by
    obtain ⟨d,h1,h2⟩ := J9 hE t d' hl
    exact (LA h2 (hc.env t d h1)).sub fun j hj g hg => hno j (by simp [nmE_mem hl j hj]) g hg
   defers := hc.defers.ext hEx }
 refine (h b cs I ν a w items hd hc').mono fun e a' w' hp => ?_
 refine hp.back (fun i hi g hg => hno i (by simp [hi]) g hg) ?_
 exact hEx
theorem Ad (h : DGo P n F Q todo env' st' ids') (hE : Up env env') (hS : VS st st') (hI : (nodupB ids' && Oe ids (Ql env' ++ Dv st' ++ F) ids') = true) : DGo P n F Q todo env st ids := ME hE hS hI h
theorem Re {α : Type} {c : Code} (E : α → Env) (S : α → St) (ids' : List Nat) (m : α → Nat) (Inv : α → Prop)
  (step : ∀ x,Inv x → (∀ x',m x' < m x → Inv x' → DGo P n F Q (.inLoop c :: k) (E x') (S x') ids') → DGo P n F Q (.code c :: .inLoop c :: k) (E x) (S x) ids') :
  ∀ x,Inv x → DGo P n F Q (.inLoop c :: k) (E x) (S x) ids' := by
 have : ∀ b x,m x < b → Inv x → DGo P n F Q (.inLoop c :: k) (E x) (S x) ids' := by
  intro b
  induction b with
  | zero => intro x h;omega
  | succ b ih => intro x hm hx;exact MF (step x hx fun x' hm' hx' => ih x' (by omega) hx')
 intro x hx
 exact this (m x + 1) x (by omega) hx
theorem Ah {α : Type} {c : Code} (E : α → Env) (S : α → St) (ids' : List Nat) (m : α → Nat) (Inv : α → Prop) (x0 : α) (h0 : Inv x0) (hE : Up env (E x0)) (hS : VS st (S x0))
  (hI : (nodupB ids' && Oe ids (Ql (E x0) ++ Dv (S x0) ++ F) ids') = true)
  (step : ∀ x,Inv x → (∀ x',m x' < m x → Inv x' → DGo P n F Q (.inLoop c :: k) (E x') (S x') ids') → DGo P n F Q (.code c :: .inLoop c :: k) (E x) (S x) ids') :
  DGo P n F Q (.code (.loop c) :: k) env st ids :=
 HN (ME hE hS hI (Re E S ids' m Inv step x0 h0))
theorem Rh {t : Nat} {x : V} (hl : lk env t = some (.imm x)) (h : CP x → DGo P n F Q todo env st ids) : DGo P n F Q todo env st ids :=
 fun b cs I μ a w items hd hc => h (hc.env t _ hl).immInv.ok b cs I μ a w items hd hc
theorem Az {f : FuncId} {vs : List V} {v : V} (h : Bh vs → PureC P f vs v) : PureC P f vs v := by
 intro I μ w xs hst hx
 refine h (G0.2 fun x hxm => ?_) I μ w xs hst hx
 obtain ⟨j,hj⟩ := List.mem_iff_getElem?.1 hxm
 have hlt : j < xs.toList.length := by rw [hx.1];simpa using (List.getElem?_eq_some_iff.1 hj).1
 exact (hx.2 j _ (.imm x) (List.getElem?_eq_getElem hlt) (by simp [hj])).immInv.ok
end
end Go.Hk
namespace Go.Hk
def OR : List DI → Option Oper
 | .ops _ (o :: _) :: _ => some o
 | .dops _ (o :: _) _ :: _ => some o
 | _ => none
def Fv (st : St) : D → Option (List Nat × List (List V))
 | .nils => some ([],[])
 | .own id _ => match lk st id with
  | some (some (.row _ _ es)) => some ([id],es)
  | _ => none
 | .clip es => some ([],es)
 | _ => none
def I4 : D → Option (List (List V))
 | .imm (.sl es) => some es
 | .nils => some []
 | _ => none
def YR (sz bytes : Nat) (base : D) (es es2 : List (List V)) : Prop :=
 (∀ c ∈ es2,c.length = sz) ∧ es.length + es2.length ≤ maxLen ∧ (es.length + es2.length) * bytes ≤ 140737488355328 ∧
 match base with
 | .clip _ => (∀ c ∈ es,c.length = sz) ∧ es2 ≠ []
 | .own _ _ => True
 | _ => True
section
variable {P : Program} {n : Nat} {F : List Nat} {Q : DQ} {tt : TT} {env env' : Env} {st st' : St} {ids ids' : List Nat} {k todo todo' : List DI} {I : Imm} {μ : Mu} {w : World} {Pn : V → Prop}
theorem RepV.oneV {v : Value} {x : V} (h : RepV I v x) (h1 : v.oneCell' = true) : V.one x = true := by
 cases h <;> first | rfl | simp [Value.oneCell'] at h1
theorem Te {v : Value} {es : List (List V)} {sz : Nat} (hI : I.ok w) (h : RepV I v (.sl es)) (hs : ∀ c ∈ es,c.length = sz) (hp : 0 < sz) :
  ((∃ ad,v = .slice ad 0 0) ∧ es = []) ∨ ∃ b o c news,v = .slice (some ⟨b,o,none⟩) es.length c ∧ es.length ≤ c ∧ c ≤ maxLen ∧ news.length = es.length * sz ∧ (∀ j u,news[j]? = some u → w.cell? ((⟨b,o,none⟩ : Addr).add j) = some u) ∧
   (∀ u ∈ news,u.oneCell' = true) ∧ RepVL I news es.flatten ∧ (∀ e ∈ es,∀ x ∈ e,V.one x = true) := by
 cases h with
 | slnil => exact .inl ⟨⟨_,rfl⟩,rfl⟩
 | sl0 ad => exact .inl ⟨⟨_,rfl⟩,rfl⟩
 | sl b o len cap sz' _ vs hl hc hm hsz hcell hrep =>
  subst hl
  refine .inr ⟨b,o,cap,(List.range (es.length * sz)).map fun q => vs (q / sz) (q % sz),rfl,hc,hm,by simp,?_,?_,?_,?_⟩
  all_goals
   have hget : ∀ j,j < es.length * sz → ∃ e x,es[j / sz]? = some e ∧ e[j % sz]? = some x ∧ e.length = sz ∧ sz' = sz := by
    intro j hj
    have h1 : j / sz < es.length := Nat.div_lt_of_lt_mul (by rw [Nat.mul_comm];exact hj)
    have h2 : j % sz < sz := Nat.mod_lt _ hp
    have h3 := hs es[j / sz] (List.getElem_mem _)
    have h4 := hsz es[j / sz] (List.getElem_mem _)
    exact ⟨es[j / sz],(es[j / sz])[j % sz],List.getElem?_eq_getElem h1,List.getElem?_eq_getElem (by omega),h3,by omega⟩
  ·intro j u hu
   obtain ⟨hlt,rfl⟩ := DC hu
   obtain ⟨e,x,h1,h2,_,rfl⟩ := hget j hlt
   have := Imm.cell_world hI (hcell _ _ _ _ h1 h2).1
   rw [addr_add]
   rw [show o + j = o + j / sz' * sz' + j % sz' by rw [Nat.add_assoc,Nat.mul_comm,Nat.div_add_mod]]
   exact this
  ·intro u hu
   obtain ⟨j,hj⟩ := List.mem_iff_getElem?.1 hu
   obtain ⟨hlt,rfl⟩ := DC hj
   obtain ⟨e,x,h1,h2,_,rfl⟩ := hget j hlt
   exact (hcell _ _ _ _ h1 h2).2
  ·refine ⟨by rw [flatten_length_const hs];simp,fun j u x hu hx => ?_⟩
   obtain ⟨hlt,rfl⟩ := DC hu
   obtain ⟨e,y,h1,h2,_,rfl⟩ := hget j hlt
   have h3 := flatten_get hs _ _ _ _ h1 h2
   rw [Nat.mul_comm,Nat.div_add_mod,hx] at h3
   cases h3
   exact hrep _ _ _ _ h1 h2
  ·intro e he x hx
   obtain ⟨i,hi⟩ := List.mem_iff_getElem?.1 he
   obtain ⟨j,hj⟩ := List.mem_iff_getElem?.1 hx
   exact (hrep _ _ _ _ hi hj).oneV (hcell _ _ _ _ hi hj).2
theorem StRep.renew {id' : Nat} (hst : StRep I μ st (id' :: ids) w) {rd : List Nat} {v' : Value} {blk' : Blk} {w' : World} {row : Option Nat} (hg : w.grownBy w' row)
  (hrow : ∀ b,row = some b → ∃ id blk g,id ∈ rd ∧ Al st id blk ∧ μ id = some g ∧ Cj g b) (hnew : ∀ b,Cj v' b → b < w'.heap.size ∧ (w.heap.size ≤ b ∨ ∃ id blk g,id ∈ rd ∧ Al st id blk ∧ μ id = some g ∧ Cj g b))
  (hb : ∀ μ',BlkRep I μ' w' v' blk') :
  ∃ μ',μ' id' = some v' ∧ μ.le μ' ∧ StRep I μ' ((id',some blk') :: B8 rd ++ st) ids w' ∧ Ext I μ st w I μ' ((id',some blk') :: B8 rd ++ st) w' := by
 have hid : μ id' = none := hst.idsFree id' (by simp)
 have hle : μ.le (fun i => if i = id' then some v' else μ i) := fun i v h => by
  have : i ≠ id' := fun e => by rw [e,hid] at h;cases h
  simp [this,h]
 have hrowI : ∀ b,row = some b → I b = none := fun b hr => by
  obtain ⟨id,blk,g,_,h2,h3,h4⟩ := hrow b hr
  exact (hst.apart id blk g b h2 h3 h4).1
 have hlive : ∀ i b,Al ((id',some blk') :: B8 rd ++ st) i b → (i = id' ∧ b = blk') ∨ (i ≠ id' ∧ i ∉ rd ∧ Al st i b) := by
  intro i b h
  rcases A8.1 h with h | ⟨h1,h2⟩
  ·exact .inl h
  ·obtain ⟨h3,h4⟩ := In h2
   exact .inr ⟨h1,h3,h4⟩
 have hother : ∀ i g,i ≠ id' → (if i = id' then some v' else μ i) = some g → μ i = some g := fun i g hne h => by rwa [if_neg hne] at h
 have hkeep : ∀ i b g k,i ∉ rd → Al st i b → μ i = some g → Cj g k → w'.heap[k]? = w.heap[k]? := by
  intro i b g k h1 h2 h3 h4
  refine hg.block k (hst.apart i b g k h2 h3 h4).2 fun hk => ?_
  obtain ⟨id,blk,g',q1,q2,q3,q4⟩ := hrow k hk.symm
  have := hst.inj i id b blk g g' k h2 q2 h3 q3 h4 q4
  subst this
  exact h1 q1
 have hclash : ∀ i b g k,i ∉ rd → Al st i b → μ i = some g → Cj g k → ¬ Cj v' k := by
  intro i b g k h1 h2 h3 h4 h5
  rcases (hnew k h5).2 with h | ⟨id,blk,g',q1,q2,q3,q4⟩
  ·have := (hst.apart i b g k h2 h3 h4).2;omega
  ·have := hst.inj i id b blk g g' k h2 q2 h3 q3 h4 q4
   subst this
   exact h1 q1
 refine ⟨fun i => if i = id' then some v' else μ i,by simp,hle,?_,?_⟩
 ·refine { imm := fun b o h => ?_,blk := fun i b hl => ?_,apart := fun i b g k hl hgi hk => ?_,inj := fun i j bi bj gi gj k hi hj hgi hgj hki hkj => ?_,nodup := (List.nodup_cons.1 hst.nodup).2,idsFree := fun i hi => ?_ }
  ·have h1 := hst.imm b o h
   rw [hg.block b (B1 h1) (fun hk => by rw [hrowI b hk.symm] at h;cases h)]
   exact h1
  ·rcases hlive i b hl with ⟨rfl,rfl⟩ | ⟨h1,h2,h3⟩
   ·exact ⟨v',by simp,hb _⟩
   ·obtain ⟨g,hgi,hr⟩ := hst.blk i b h3
    exact ⟨g,by simp [h1,hgi],(hr.mono (Imm.le_refl I) hle).world fun k hk => hkeep i b g k h2 h3 hgi hk⟩
  ·rcases hlive i b hl with ⟨rfl,rfl⟩ | ⟨h1,h2,h3⟩
   ·simp at hgi;subst hgi
    obtain ⟨h1,h2⟩ := hnew k hk
    refine ⟨?_,h1⟩
    rcases h2 with h2 | ⟨id,blk,g',q1,q2,q3,q4⟩
    ·cases h : I k with
     | none => rfl
     | some o => have := B1 (hst.imm _ _ h);omega
    ·exact (hst.apart id blk g' k q2 q3 q4).1
   ·obtain ⟨q1,q2⟩ := hst.apart i b g k h3 (hother i g h1 hgi) hk
    exact ⟨q1,Nat.lt_of_lt_of_le q2 hg.size⟩
  ·rcases hlive i bi hi with ⟨rfl,rfl⟩ | ⟨h1,h2,h3⟩ <;> rcases hlive j bj hj with ⟨rfl,rfl⟩ | ⟨p1,p2,p3⟩
   ·rfl
   ·simp at hgi;subst hgi
    exact absurd hki (hclash j bj gj k p2 p3 (hother j gj p1 hgj) hkj)
   ·simp at hgj;subst hgj
    exact absurd hkj (hclash i bi gi k h2 h3 (hother i gi h1 hgi) hki)
   ·exact hst.inj i j bi bj gi gj k h3 p3 (hother i gi h1 hgi) (hother j gj p1 hgj) hki hkj
  ·have hne : i ≠ id' := fun e => (List.nodup_cons.1 hst.nodup).1 (e ▸ hi)
   simp [hne,hst.idsFree i (by simp [hi])]
 ·refine { imm := Imm.le_refl I,os := hg.os,tape := hg.tape,output := hg.output,size := hg.size,block := fun b hb ho => hg.block b hb (fun hk => ?_),fresh := fun b hb ho => ?_,old := fun _ _ _ => rfl }
  ·obtain ⟨id,blk,g',_,q2,q3,q4⟩ := hrow b hk.symm
   exact ho ⟨id,blk,g',q2,q3,q4⟩
  ·obtain ⟨i,bi,g,hl,hgi,hk⟩ := ho
   rcases hlive i bi hl with ⟨rfl,rfl⟩ | ⟨h1,h2,h3⟩
   ·simp at hgi;subst hgi
    rcases (hnew b hk).2 with h | ⟨id,blk,g',_,q2,q3,q4⟩
    ·omega
    ·exact ⟨id,blk,g',q2,q3,q4⟩
   ·exact ⟨i,bi,g,h3,hother i g h1 hgi,hk⟩
theorem Wy {v : Value} {b : Nat} {t : TypeId} {sz k : Nat} {xs : List Value} (h : w.ownsRow 0 t sz v k xs) (hb : Cj v b) : v.ownBlock = some b := by
 rcases h.2 with ⟨rfl,_⟩ | ⟨g,cap,cur,rfl,_⟩
 ·simp [Cj] at hb
 ·simpa [Cj,Value.ownBlock] using hb
theorem Wx {v : Value} {b : Nat} (hb : v.ownBlock = some b) : Cj v b := by
 unfold Value.ownBlock at hb
 split at hb
 ·cases hb;rfl
 ·cases hb
theorem Qe {v : Value} {t : TypeId} {sz k : Nat} {xs : List Value} (h : w.ownsRow 0 t sz v k xs) : ∃ a cap,v = .slice a k cap := by
 rcases h.2 with ⟨rfl,rfl⟩ | ⟨g,cap,cur,rfl,_⟩
 ·exact ⟨none,0,rfl⟩
 ·exact ⟨_,cap,rfl⟩
theorem UM (htt : TTok P tt) {all : List Oper} {o : Oper} {x y : Operand} {t e : TypeId} {ti i : TyI} {dx dy : D} {rd : List Nat} {id' : Nat} {es es2 : List (List V)} (hg : o.guard = none)
  (ho : o.op = .call { callee := .builtin .append,args := ⟨[x,y]⟩,argTypes := ⟨[t,t]⟩ }) (ht : lk tt t = some ti) (hsh : ti.sh = .sl e) (hi : lk tt e = some i) (hz : (Nat.beq i.zero.length i.size && Nat.blt 0 i.size) = true)
  (hx : EB env x = some dx) (hb : Fv st dx = some (rd,es)) (hrow : ∀ id,rd = [id] → lk st id = some (some (.row e i.size es))) (hy : EB env y = some dy) (hs : I4 dy = some es2) (hok : YR i.size i.bytes dx es es2) :
  LD P Pn all o env st rd [id'] ((id',some (.row e i.size (es ++ es2))) :: B8 rd) (.own id' (es ++ es2).length) := by
 intro I μ st1 ids1 a w hag hst hon
 refine ⟨fun _ => ?_,fun hw => by rw [wanted_none hg] at hw;cases hw⟩
 have hop := Ba hon
 rw [ho] at hop
 have rx := hop x (by simp [Op.operands,Call.operands]) _ hx
 have ry := hop y (by simp [Op.operands,Call.operands]) _ hy
 obtain ⟨inf,z,z1,z2,z3,z4,z5,z6⟩ := (htt e i hi).info
 have hu : P.underlying t = some (.slice e) := by have := htt.sh ht;rwa [hsh] at this
 simp only [Bool.and_eq_true,Nat.blt_eq] at hz
 have hzl : z.cells.size = i.size := by
  have := (z5 I μ).1
  rw [Nat.eq_of_beq_eq_true hz.1] at this
  simpa using this
 obtain ⟨k1,k2,k3,k4⟩ := hok
 have hyv : RepV I (a.eval y) (.sl es2) := by
  cases dy <;> simp only [I4,reduceCtorEq,Option.some.injEq] at hs
  ·rename_i vx
   cases vx <;> simp only [I4,reduceCtorEq,Option.some.injEq] at hs
   subst hs;exact ry.immInv
  ·subst hs
   have := ry
   generalize a.eval y = v at this
   cases this;exact .slnil
 have hrun : ∀ {u w'},(Builtin.append_ #[t,t] o.type #[a.eval x,a.eval y]).run P w = .ok u w' → (execOp a.eval o).run P w = .ok (.value u) w' := by
  intro u w' h
  simp only [execOp,ho,resolve,invoke,builtin,Sem.run_bind,Sem.run_pure,Result.andThen_ok,List.map_toArray,List.map_cons,List.map_nil,h]
 have fin : ∀ {u : Value} {w' : World} {xs : List Value} {row : Option Nat},(Builtin.append_ #[t,t] o.type #[a.eval x,a.eval y]).run P w = .ok u w' → w'.ownsRow 0 e i.size u (es.length + es2.length) xs → w.grownBy w' row →
   (∀ b,row = some b → ∃ id blk g,id ∈ rd ∧ Al st1 id blk ∧ μ id = some g ∧ Cj g b) → (∀ b,u.ownBlock = some b → row = some b ∨ w.heap.size ≤ b) → RepVL I xs (es ++ es2).flatten → (∀ c ∈ es ++ es2,c.length = i.size) →
   (∀ c ∈ es ++ es2,∀ x ∈ c,V.one x = true) →
   valX P ((execOp a.eval o).run P w) (fun v w' => ∃ I' μ',StRep I' μ' ((id',some (.row e i.size (es ++ es2))) :: B8 rd ++ st1) ids1 w' ∧ RepD I' μ' v (.own id' (es ++ es2).length) ∧ μ.le μ' ∧ Ext I μ st1 w I' μ' ((id',some (.row e i.size (es ++ es2))) :: B8 rd ++ st1) w') (JJ Pn I μ st1 w) := by
  intro u w' xs row h1 h2 h3 h4 h5 h6 h7 h8
  rw [hrun h1]
  obtain ⟨μ',q1,q2,q3,q4⟩ := StRep.renew (id' := id') (ids := ids1) (rd := rd) (v' := u) (blk' := .row e i.size (es ++ es2)) hst h3 h4 (fun b hb => by
   have hb' := Wy h2 hb
   refine ⟨(h2.lt b hb').2,?_⟩
   rcases h5 b hb' with h | h
   ·exact .inr (h4 b h)
   ·exact .inl h) (fun μ' => ⟨xs,by rw [List.length_append];exact h2,h6,h7,h8,hz.2⟩)
  refine ⟨I,μ',q3,?_,q2,q4⟩
  obtain ⟨ad,cap,rfl⟩ := Qe h2
  rw [List.length_append]
  exact .own _ _ _ _ q1
 rcases Te hst.imm hyv k1 hz.2 with ⟨⟨ady,ey⟩,rfl⟩ | ⟨yb,yo,yc,news,ey,_,_,n1,n2,n3,n4,n5⟩
 ·-- nothing
  have hsame : ∀ (v : Value),a.eval x = v → (∃ ad len cap,v = .slice ad len cap ∧ len ≤ cap) → (Builtin.append_ #[t,t] o.type #[a.eval x,a.eval y]).run P w = .ok v w := by
   rintro v hv ⟨ad,len,cap,rfl,hle⟩
   rw [hv,ey]
   cases ad <;> cases ady <;> simp [Builtin.append_,run_underlying hu,sizeOf,typeInfo,z1,Builtin.lenOf,hle,Builtin.firstCells,loadCells,loadCellsFrom,storeCells]
  have hgrow : w.grownBy w none := ⟨rfl,rfl,rfl,Nat.le_refl _,fun _ _ _ => rfl⟩
  cases dx with
  | nils =>
   simp only [Fv,Option.some.injEq,Prod.mk.injEq] at hb
   obtain ⟨rfl,rfl⟩ := hb
   have hv : a.eval x = .slice none 0 0 := by
    generalize a.eval x = v at rx
    cases rx;rfl
   exact fin (hsame _ hv ⟨_,_,_,rfl,Nat.le_refl _⟩) (World.ownsRow_nil w 0 e i.size) hgrow (fun b h => by cases h) (fun b h => by simp [Value.ownBlock] at h) (xs := []) .nil (by simp) (by simp)
  | own id nn =>
   simp only [Fv] at hb
   split at hb
   ·rename_i bt sz es0 hl
    cases hb
    have hl' := hrow id rfl
    have hl1 : Al st1 id (.row e i.size es) := by unfold Al;rw [hag id (by simp)];exact hl'
    obtain ⟨g,hg1,xs,r1,r2,r3,r4,_⟩ := hst.blk id _ hl1
    have hv : a.eval x = g := by
     generalize a.eval x = v at rx
     cases rx with
     | own _ _ ad cap hm => rw [hm] at hg1;cases hg1;rfl
    have hr0 : ∃ ad len cap,g = .slice ad len cap ∧ len ≤ cap := by
     rcases r1.2 with ⟨rfl,h⟩ | ⟨gb,cap,cur,rfl,_,_,h,_⟩
     ·exact ⟨_,_,_,rfl,Nat.le_refl _⟩
     ·exact ⟨_,_,_,rfl,h⟩
    exact fin (row := g.ownBlock) (hsame g hv hr0) (by simpa using r1) ⟨rfl,rfl,rfl,Nat.le_refl _,fun _ _ _ => rfl⟩ (fun b h => ⟨id,_,g,by simp,hl1,hg1,Wx h⟩) (fun b h => .inl h) (xs := xs) (by simpa using r2) (by simpa using r3) (by simpa using r4)
   ·cases hb
  | clip es' => exact absurd rfl k4.2
  | _ => simp [Fv] at hb
 ·have hfl : ∀ {xs : List Value},RepVL I xs es.flatten → RepVL I (xs ++ news) (es ++ es2).flatten := fun h => by rw [List.flatten_append];exact h.append n4
  have hnil : a.eval x = .slice none 0 0 → es = [] →
    valX P ((execOp a.eval o).run P w) (fun v w' => ∃ I' μ',StRep I' μ' ((id',some (.row e i.size (es ++ es2))) :: B8 rd ++ st1) ids1 w' ∧ RepD I' μ' v (.own id' (es ++ es2).length) ∧ μ.le μ' ∧ Ext I μ st1 w I' μ' ((id',some (.row e i.size (es ++ es2))) :: B8 rd ++ st1) w') (JJ Pn I μ st1 w) := fun hv he => by
   subst he
   obtain ⟨v',w',q1,q2,q3,_⟩ := run_append_own (P := P) w w.heap.size t o.type e inf z i.size i.bytes hu z1 z4 z2 z3 hzl hz.2 (.slice none 0 0) 0 [] (World.ownsRow_nil w _ e i.size) ⟨yb,yo,none⟩ es2.length yc news n1 n2 n3
    (by simpa using k2) (by simpa using k3) (Nat.le_refl _)
   have q2' : w'.ownsRow 0 e i.size v' (0 + es2.length) news := ⟨q2.1,q2.2.imp id fun ⟨g,cap,cur,a1,_,a2⟩ => ⟨g,cap,cur,a1,Nat.zero_le _,a2⟩⟩
   exact fin (row := none) (by rw [hv,ey];exact q1) q2' ⟨q3.os,q3.tape,q3.output,q3.size,fun b hb _ => q3.block b hb (by simp [Value.ownBlock])⟩ (fun b h => by cases h) (fun b h => .inr (q2.lt b h).1) (hfl .nil) (by simpa using k1) (by simpa using n5)
  have hgrow : ∀ (ad : Addr) (cap : Nat) (xs : List Value),a.eval x = .slice (some ad) es.length cap → xs.length = es.length * i.size → (∀ j u,xs[j]? = some u → w.cell? (ad.add j) = some u) → cap < es.length + es2.length → RepVL I xs es.flatten → (∀ c ∈ es,c.length = i.size) → (∀ c ∈ es,∀ x ∈ c,V.one x = true) →
    valX P ((execOp a.eval o).run P w) (fun v w' => ∃ I' μ',StRep I' μ' ((id',some (.row e i.size (es ++ es2))) :: B8 rd ++ st1) ids1 w' ∧ RepD I' μ' v (.own id' (es ++ es2).length) ∧ μ.le μ' ∧ Ext I μ st1 w I' μ' ((id',some (.row e i.size (es ++ es2))) :: B8 rd ++ st1) w') (JJ Pn I μ st1 w) := fun ad cap xs hv hl hcell hlt hr hsz h1 => by
   have hsmall : es.length + es2.length ≤ 9223372036854775807 := by simp only [maxLen] at k2;omega
   have hr' := run_append_grow (P := P) w t o.type e inf z hu z1 z4 ad es.length cap xs (by rw [z2];exact hl) hcell ⟨yb,yo,none⟩ es2.length yc news (by rw [z2];exact n1) n2 hlt (by omega) (by rw [z3];exact growslice_fits hlt k3)
   have hge := grownCap_ge w (es.length + es2.length) cap e
   have hcm : grownCap w (es.length + es2.length) cap e ≤ maxLen := grownCap_le_maxLen w _ cap e k2
   have hlen : (xs ++ news).length = (es.length + es2.length) * i.size := by rw [List.length_append,hl,n1,Nat.add_mul]
   refine fin (row := none) (by rw [hv,ey];exact hr') (xs := xs ++ news) ⟨hlen,.inr ⟨w.heap.size,_,_,rfl,Nat.zero_le _,Ec w.drew _,hge,hcm,?_,?_⟩⟩ ⟨rfl,rfl,rfl,by simp,fun k hk _ => Hr w.drew _ hk⟩ (fun b h => by cases h)
    (fun b h => by simp [Value.ownBlock] at h;exact .inr (by omega)) (hfl hr) (fun c hc => (List.mem_append.1 hc).elim (hsz c) (k1 c)) (fun c hc => (List.mem_append.1 hc).elim (h1 c) (n5 c))
   ·simp only [Array.size_append,List.size_toArray,size_zeroCells,hzl,hl,n1,← Nat.add_mul]
    congr 1
    omega
   ·simp only [Array.toList_append,List.append_assoc]
    rw [← List.append_assoc,← hlen]
    exact List.take_left
  cases dx with
  | nils =>
   simp only [Fv,Option.some.injEq,Prod.mk.injEq] at hb
   obtain ⟨rfl,rfl⟩ := hb
   have hv : a.eval x = .slice none 0 0 := by
    generalize a.eval x = v at rx
    cases rx;rfl
   exact hnil hv rfl
  | own id nn =>
   simp only [Fv] at hb
   split at hb
   ·rename_i bt sz es0 hl
    cases hb
    have hl' := hrow id rfl
    have hl1 : Al st1 id (.row e i.size es) := by unfold Al;rw [hag id (by simp)];exact hl'
    obtain ⟨g,hg1,xs,r1,r2,r3,r4,_⟩ := hst.blk id _ hl1
    have hv : a.eval x = g := by
     generalize a.eval x = v at rx
     cases rx with
     | own _ _ ad cap hm => rw [hm] at hg1;cases hg1;rfl
    rcases r1.2 with ⟨eg,h⟩ | ⟨gb,cap,cur,eg,_,hheap,hle,hcm,hcs,htake⟩
    ·exact hnil (hv.trans eg) (List.eq_nil_of_length_eq_zero h)
    ·by_cases hroom : es.length + es2.length ≤ cap
     ·have hfit : es.length * i.size + news.length ≤ cur.size := by rw [n1,hcs,← Nat.add_mul];exact Nat.mul_le_mul_right _ hroom
      have hr := run_append_room (P := P) w t o.type e inf hu z1 gb es.length cap cur hheap ⟨yb,yo,none⟩ es2.length yc news (by rw [z2];exact n1) n2 n3 hroom (by rw [z2];exact hfit)
      rw [z2] at hr
      have hlen : (xs ++ news).length = (es.length + es2.length) * i.size := by rw [List.length_append,r1.1,n1,Nat.add_mul]
      refine fin (row := some gb) (by rw [hv,eg,ey];exact hr) (xs := xs ++ news) ⟨hlen,.inr ⟨gb,cap,_,rfl,Nat.zero_le _,setRow_heap w gb cur _ e _ hheap,hroom,hcm,?_,?_⟩⟩ ⟨rfl,rfl,rfl,by simp,fun k _ hk => setRow_other w gb k _ (fun e => hk (by simp [e]))⟩
       (fun b h => by cases h;exact ⟨id,_,g,by simp,hl1,hg1,by rw [eg];rfl⟩) (fun b h => by simp [Value.ownBlock] at h;exact .inl (by rw [h])) (hfl r2) (fun c hc => (List.mem_append.1 hc).elim (r3 c) (k1 c)) (fun c hc => (List.mem_append.1 hc).elim (r4 c) (n5 c))
      ·simp only [List.size_toArray,List.length_append,List.length_take,List.length_drop,Array.length_toList]
       omega
      ·rw [htake,← hlen]
       exact List.take_left
     ·exact hgrow ⟨gb,0,none⟩ cap xs (hv.trans eg) r1.1 (by rw [eg] at r1;exact r1.cells (g := gb) rfl) (by omega) r2 r3 r4
   ·cases hb
  | clip es' =>
   simp only [Fv,Option.some.injEq,Prod.mk.injEq] at hb
   obtain ⟨rfl,rfl⟩ := hb
   have rx' : ∃ ad len,a.eval x = .slice ad len len ∧ RepV I (.slice ad len len) (.sl es') := by
    generalize a.eval x = v at rx
    cases rx with
    | clip ad len _ h => exact ⟨ad,len,rfl,h⟩
   obtain ⟨ad,len,hv,hr⟩ := rx'
   rcases Te hst.imm hr k4.1 hz.2 with ⟨⟨adx,ex⟩,e0⟩ | ⟨xb,xo,xc,xs,ex,_,_,p1,p2,p3,p4,p5⟩
   ·cases adx with
    | none => exact hnil (hv.trans ex) e0
    | some adx =>
     have hpos : 0 < es2.length := List.length_pos_iff.2 k4.2
     subst e0
     exact hgrow adx 0 [] (hv.trans ex) (by simp) (fun j u h => by simp at h) (by simp;omega) .nil (by simp) (by simp)
   ·cases ex
    have hpos : 0 < es2.length := List.length_pos_iff.2 k4.2
    exact hgrow ⟨xb,xo,none⟩ _ xs hv p1 p2 (by omega) p4 k4.1 p5
  | _ => simp [Fv] at hb
end
end Go.Hk
namespace Go.Hk
def J7 (cx : Prop) (env : Env) (x : Operand) : Option (D × List Prop) := match EB env x with
 | some (.guard c w d) => some (d,[cx → c = w])
 | some d => some (d,[])
 | none => none
structure aE where
 dx : D
 es : List (List V)
 es2 : List (List V)
 sz : Nat
 bytes : Nat
 e : TypeId
 rd : List Nat
 id' : Nat
 ids' : List Nat
 dst : Option Nat
 todo : List DI
def YA (st : St) (e : TypeId) (sz : Nat) : List Nat → Bool
 | [] => true
 | [id] => match lk st id with
  | some (some (.row e' sz' _)) => Nat.beq e e' && Nat.beq sz sz'
  | _ => false
 | _ => false
def ZL (tt : TT) (n : Nat) (env : Env) (st : St) (ids : List Nat) (todo : List DI) : Option aE :=
 match OR todo,ids with
 | some o,id' :: ids' => match o.guard,o.op with
  | none,.call { callee := .builtin .append,args := ⟨[x,y]⟩,argTypes := ⟨[t,t']⟩ } => match Nat.beq t t',lk tt t,EB env x,EB env y with
   | true,some { sh := .sl e,.. },some dx,some dy => match lk tt e,Fv st dx,I4 dy with
    | some i,some (rd,es),some es2 => match Nat.beq i.zero.length i.size && Nat.blt 0 i.size,YA st e i.size rd,BW n o.dst,AQ todo (rd,id' :: rd) with
     | true,true,true,some (_,_,todo') => some ⟨dx,es,es2,i.size,i.bytes,e,rd,id',ids',o.dst,todo'⟩
     | _,_,_,_ => none
    | _,_,_ => none
   | _,_,_,_ => none
  | _,_ => none
 | _,_ => none
section
variable {P : Program} {n : Nat} {F : List Nat} {Q : DQ} {tt : TT} {env env' : Env} {st st' : St} {ids ids' : List Nat} {k todo todo' : List DI} {I : Imm} {μ : Mu} {w : World} {a : Act} {Pn : V → Prop} {d : D} {cx : Prop} {ob : List Prop}
theorem BN {x : Operand} {v : Value} (h : J7 cx env x = some (d,ob)) (hob : Ay ob) (hc : cx) (hv : ∀ d,EB env x = some d → RepD I μ v d) : RepD I μ v d := by
 unfold J7 at h
 split at h
 ·cases h;rename_i hx;exact (hv _ hx).guardInv (hob.1 hc)
 ·cases h;rename_i hx;exact hv _ hx
 ·cases h
theorem KT : ∀ l : List Nat,(B8 l).map (·.1) = l
 | [] => rfl
 | x :: r => by simp [B8,KT r]
theorem CE {f : List Nat × List Nat} {o o' : Oper} {all : List Oper} (h : OR todo = some o) (h' : AQ todo f = some (all,o',todo')) : o' = o := by
 unfold OR at h
 split at h
 ·simp [AQ] at h';cases h;exact h'.2.1.symm
 ·simp [AQ] at h';cases h;exact h'.2.1.symm
 ·cases h
theorem BI (htt : TTok P tt) {c : aE} (h : ZL tt n env st ids todo = some c) (hok : YR c.sz c.bytes c.dx c.es c.es2)
  (hk : G P n F Q c.todo (Bo c.dst (.own c.id' (c.es ++ c.es2).length) env) ((c.id',some (.row c.e c.sz (c.es ++ c.es2))) :: B8 c.rd ++ st) c.ids') : G P n F Q todo env st ids := by
 unfold ZL at h
 split at h
 ·rename_i o id' ids' ho
  split at h
  ·rename_i x y t t' hg hop
   split at h
   ·rename_i e _ _ _ _ dx dy htt' ht hx hy
    have := Nat.eq_of_beq_eq_true htt'
    subst this
    split at h
    ·rename_i i rd es es2 hi hb hs
     split at h
     ·rename_i all o' todo' hz hr hd h1
      cases h
      have ho' : o' = o := CE ho h1
      subst ho'
      refine BA (fr := [id']) (wr := (id',some (.row e i.size (es ++ es2))) :: B8 rd) (rd := rd) (by rw [List.map_cons,KT];exact h1) ?_ hd (fun c hc => by rw [hop] at hc;cases hc) hk
      refine UM htt hg hop ht rfl hi hz hx hb (fun id hid => ?_) hy hs hok
      subst hid
      simp only [YA] at hr
      split at hr
      ·rename_i e' sz' es' hl
       simp only [Bool.and_eq_true] at hr
       rw [Nat.eq_of_beq_eq_true hr.1,Nat.eq_of_beq_eq_true hr.2,hl]
       have : es' = es := by
        cases dx <;> simp only [Fv,reduceCtorEq,Option.some.injEq,Prod.mk.injEq] at hb
        ·cases hb.1
        ·split at hb
         ·rename_i hl2
          simp only [Option.some.injEq,Prod.mk.injEq,List.cons.injEq,and_true] at hb
          obtain ⟨e1,e2⟩ := hb
          subst e1
          rw [hl2] at hl;cases hl
          exact e2
         ·cases hb
        ·cases hb.1
       rw [this]
      ·cases hr
     ·cases h
    ·cases h
   ·cases h
  ·cases h
 ·cases h
theorem Cm {all : List Oper} {o : Oper} {rd : List Nat} {g : Option (Bool × Bool)} (hg : BH all env o = some g)
  (key : ∀ I μ st1 ids1 a w,Agree rd st st1 → StRep I μ st1 ids1 w → Ci I μ env a o.op → Af g →
   valX P ((execOp a.eval o).run P w) (fun u w' => ∃ I' μ',StRep I' μ' st1 ids1 w' ∧ RepD I' μ' u d ∧ μ.le μ' ∧ Ext I μ st1 w I' μ' st1 w') (JJ Pn I μ st1 w)) :
  LD P Pn all o env st rd [] [] (gD g d) := by
 intro I μ st1 ids1 a w hag hst hon
 have hwant := Gi hg hon
 refine ⟨fun hw => ?_,fun hw => ⟨rfl,rfl,?_⟩⟩
 ·have hcx := hwant.1 hw
  refine (key I μ st1 ids1 a w hag hst (Ba hon) hcx).mono (fun v w' ⟨I',μ',q1,q2,q3,q4⟩ => ⟨I',μ',q1,?_,q3,q4⟩) (fun _ _ h => h)
  cases g with
  | none => exact q2
  | some p => exact .guard _ _ _ _ (fun _ => q2) (fun hn => absurd hcx hn)
 ·cases g with
  | none => rw [hwant.2 trivial] at hw;cases hw
  | some p => exact .guard _ _ _ _ (fun hc => by rw [hwant.2 hc] at hw;cases hw) (fun _ => rfl)
structure PIdx where
 es : List (List V)
 i : Int
 sz : Nat
 e : TypeId
 g : Option (Bool × Bool)
 ob : List Prop
 dst : Option Nat
 todo : List DI
def Nf (tt : TT) (n : Nat) (env : Env) (todo : List DI) : Option PIdx :=
 match AQ todo ([],[]) with
 | some (all,o,todo') => match o.op,BH all env o with
  | .indexAddr t x i,some g => match lk tt t,J7 (Af g) env x,J7 (Af g) env i with
   | some { sh := .sl e,.. },some (.imm (.sl es),o1),some (.imm (.int _ i),o2) => match lk tt e,BW n o.dst with
    | some ti,true => match o.dst with
     | some t => some ⟨es,i,ti.size,e,g,FE o1 o2,some t,todo'⟩
     | none => none
    | _,_ => none
   | _,_,_ => none
  | _,_ => none
 | none => none
theorem Od {t e : TypeId} {i : TyI} (hu : P.underlying t = some (.slice e)) (hi : TyOk P e i) {b off len cap : Nat} {kk : IntKind} {m : Int} (h0 : 0 ≤ m) (hm : m < len) :
  (Instr.indexAt t (.slice (some ⟨b,off,none⟩) len cap) (.int kk m)).run P w = .ok (.pointer (some ⟨b,off + m.toNat * i.size,none⟩)) w := by
 simp only [Instr.indexAt,Sem.run_bind,asIntOf,Sem.run_pure,Result.andThen_ok,run_underlying hu]
 simp [h0,hm,hi.sizeOf w,addr_add]
theorem Ff (htt : TTok P tt) {es : List (List V)} {m : Int} {sz : Nat} {e : TypeId} {g : Option (Bool × Bool)} {ob : List Prop} {t : Nat} {todo' : List DI} {c : List V} (h : Nf tt n env todo = some ⟨es,m,sz,e,g,ob,some t,todo'⟩)
  (hc : Af g → 0 ≤ m ∧ es[m.toNat]? = some c ∧ c.length = sz) (hob : Ay ob) (hk : G P n F Q todo' ((t,gD g (.ip e c 0)) :: env) st ids) : G P n F Q todo env st ids := by
 unfold Nf at h
 split at h
 ·rename_i all o todo' h1
  split at h
  ·rename_i t x i g hop hg
   split at h
   ·rename_i e _ _ _ _ es o1 kk m o2 ht hx hi
    split at h
    ·rename_i ti hti hd
     split at h
     ·rename_i t' hdst
      cases h
      have hk : G P n F Q todo' (Bo o.dst (gD g (.ip e c 0)) env) st ids := by rw [hdst];exact hk
      refine BA (fr := []) (wr := []) (rd := []) h1 (Cm hg fun I μ st1 ids1 a w _ hst hops hcx => ?_) hd (fun c hc => by rw [hop] at hc;cases hc) hk
      rw [hop] at hops
      obtain ⟨ho1,ho2⟩ := A3 hob
      have rx := (BN hx ho1 hcx (hops x (by simp [Op.operands]))).immInv
      have ri := (BN hi ho2 hcx (hops i (by simp [Op.operands]))).immInv.intInv
      obtain ⟨c0,c1,c2⟩ := hc hcx
      have hu : P.underlying t = some (.slice e) := htt.sh ht
      have hlt := (List.getElem?_eq_some_iff.1 c1).1
      simp only [execOp,hop,ri]
      generalize hv : a.eval x = v at rx
      cases rx with
      | slnil => simp at hlt
      | sl0 => simp at hlt
      | sl b off len cap sz _ vs hl hcap hm hsz hcell hrep =>
       have hs : sz = ti.size := by rw [← hsz c (List.mem_of_getElem? c1),c2]
       subst hs
       have hr := Od (w := w) hu (htt e ti hti) (b := b) (off := off) (len := len) (cap := cap) (kk := kk) c0 (by omega)
       have hrun : (do pure (.value (← Instr.indexAt t (.slice (some ⟨b,off,none⟩) len cap) (.int kk m))) : Sem Next).run P w = .ok (.value (.pointer (some ⟨b,off + m.toNat * ti.size,none⟩))) w := Am hr
       rw [hrun]
       refine ⟨I,μ,hst,?_,Mu.le_refl μ,Ext.refl _ _ _ _⟩
       have := RepD.ip (I := I) (μ := μ) b (off + m.toNat * ti.size) e c 0 (vs m.toNat) (fun j x hj => hcell m.toNat c j x c1 hj) (fun j x hj => hrep m.toNat c j x c1 hj)
       simpa using this
     ·cases h
    ·cases h
   ·cases h
  ·cases h
 ·cases h
end
end Go.Hk
namespace Go.Hk
def Lk : List Value → Option (List D)
 | [] => some []
 | v :: r => match T1 v,v.oneCell',Lk r with
  | some d,true,some ds => some (d :: ds)
  | _,_,_ => none
def ZF (P : Program) : TypeDesc → Option Sh
 | .bool => some .bool
 | .int k => some (.int k)
 | .string => some .str
 | .pointer e => some (.ptr e)
 | .slice e => some (.sl e)
 | .map k e => some (.map k e)
 | .array n e => some (.arr n e)
 | .func _ _ _ => some .func
 | .interface _ => some .iface
 | .struct fs => match fs.toList.all fun f => Nat.blt 0 (P.cellsOf f.type) with
  | true => some (.struct (fs.toList.map fun f => (f.offset,f.type)))
  | false => none
 | _ => none
def aC : TypeDesc → Bool
 | .struct _ => true
 | .array _ _ => true
 | _ => false
def YT (P : Program) (t : TypeId) : Option TyI := match P.info? t,P.underlying t with
 | some inf,some u => match inf.zero,ZF P u with
  | some z,some sh => match Lk z.cells.toList with
   | some ds => some { sh,agg := aC u,size := inf.size,bytes := inf.bytes,zero := ds }
   | none => none
  | _,_ => none
 | _,_ => none
def Uk (P : Program) : List TypeId → TT
 | [] => []
 | t :: r => match YT P t with
  | some i => (t,i) :: Uk P r
  | none => Uk P r
theorem L1 : ∀ {vs : List Value} {ds : List D},Lk vs = some ds → (∀ I μ,RepL I μ vs ds) ∧ ∀ v ∈ vs,v.oneCell' = true
 | [],ds,h => by cases h;exact ⟨fun _ _ => .nil,fun _ h => by simp at h⟩
 | v :: r,ds,h => by
  simp only [Lk] at h
  split at h
  ·rename_i d ds' h1 h2 h3
   cases h
   obtain ⟨q1,q2⟩ := L1 h3
   exact ⟨fun I μ => .mk (NM h1 I μ) (q1 I μ),fun u hu => (List.mem_cons.1 hu).elim (fun e => e ▸ h2) (q2 u)⟩
  ·cases h
theorem XF {P : Program} {t : TypeId} {i : TyI} (h : YT P t = some i) : TyOk P t i := by
 unfold YT at h
 split at h
 ·rename_i inf u h1 h2
  split at h
  ·rename_i z sh h3 h4
   split at h
   ·rename_i ds h5
    cases h
    obtain ⟨q1,q2⟩ := L1 h5
    refine ⟨⟨inf,z,h1,rfl,rfl,h3,q1,q2⟩,?_,?_⟩
    ·funext w
     simp only [isAgg,Sem.run_bind,run_underlying h2,Result.andThen_ok]
     cases u <;> rfl
    ·unfold ZF at h4
     split at h4 <;> first | (cases h4;exact h2) | (cases h4;exact ⟨_,_,_,h2⟩) | (cases h4;exact ⟨_,h2⟩) | skip
     ·split at h4
      ·rename_i hall
       cases h4
       refine ⟨_,h2,rfl,fun f hf => ?_⟩
       have := List.all_eq_true.1 hall f hf
       simpa [Nat.blt_eq] using this
      ·cases h4
     ·cases h4
   ·cases h
  ·cases h
 ·cases h
theorem O8 {P : Program} : ∀ {l : List TypeId},TTok P (Uk P l)
 | [],t,i,h => by simp [Uk,lk] at h
 | x :: r,t,i,h => by
  simp only [Uk] at h
  split at h
  ·rename_i j hj
   by_cases hx : x = t
   ·subst hx;rw [lk_cons_self] at h;cases h;exact XF hj
   ·rw [lk_cons_ne _ _ hx] at h;exact O8 t i h
  ·exact O8 t i h
theorem TTok.of_eq {P : Program} {tt : TT} {l : List TypeId} (h : tt = Uk P l) : TTok P tt := h ▸ O8
attribute [simp] Ay FE
theorem Bq {x : Int} (h0 : -9223372036854775808 ≤ x) (h1 : x ≤ 9223372036854775807) : IntKind.i64.wrap x = x := by
 simp only [IntKind.wrap,IntKind.bits,IntKind.signed]
 simp
 omega
theorem Aq {k : IntKind} {a b : Int} (h : a = b) : Nb (.imm (.int k a)) (.imm (.int k b)) := by rw [h];rfl
theorem tV {a b : V} (h : a = b) : Nb (.imm a) (.imm b) := by rw [h];rfl
section
variable {P : Program} {n : Nat} {F : List Nat} {Q : DQ} {tt : TT} {env env' : Env} {st st' : St} {ids ids' : List Nat} {k todo todo' : List DI} {I : Imm} {μ : Mu} {w : World} {a : Act} {Pn : V → Prop} {d : D} {cx : Prop} {ob : List Prop}
theorem KU (htt : TTok P tt) (hm : P.follows .mixedOrders = true) (f : Nat) (path : List Pt)
  (h : run tt n f path todo env st ids [] = .at k env' st' ids' ob) (hob : Ay ob) (hd : G P n F Q k env' st' ids') : DGo P n F Q todo env st ids := (Ja htt hm f path h hob hd).go
end
end Go.Hk
namespace Go.Hk
mutual
def M6 (id : Nat) (es : List (List V)) : D → D
 | .own i n => bif Nat.beq i id then .imm (.sl es) else .own i n
 | .agg cs => F3 (Nm id es cs)
 | .tup cs => .tup (Nm id es cs)
 | .fn f a b => .fn f (Nm id es a) (Nm id es b)
 | .iface t d => match M6 id es d with
  | .imm x => .imm (.iface t x)
  | d' => .iface t d'
 | .guard c w d => .guard c w (M6 id es d)
 | d => d
def Nm (id : Nat) (es : List (List V)) : List D → List D
 | [] => []
 | d :: r => M6 id es d :: Nm id es r
end
def Vc (id : Nat) (es : List (List V)) : Env → Env
 | [] => []
 | (t,d) :: r => (t,M6 id es d) :: Vc id es r
def Yl (id : Nat) (es : List (List V)) : Blk → Blk
 | .cells t sz cs => KD t sz (Nm id es cs)
 | b => b
def Nl (id : Nat) (es : List (List V)) : St → St
 | [] => []
 | (i,some b) :: r => (i,some (Yl id es b)) :: Nl id es r
 | (i,none) :: r => (i,none) :: Nl id es r
theorem Ee (id : Nat) (es : List (List V)) : ∀ l : List D,Nm id es l = l.map (M6 id es)
 | [] => rfl
 | d :: r => by simp [Nm,Ee id es r]
section
variable {P : Program} {n : Nat} {F : List Nat} {Q : DQ} {tt : TT} {env : Env} {st : St} {ids : List Nat} {todo : List DI} {I J : Imm} {μ : Mu} {w : World} {id : Nat} {es : List (List V)} {g : Value}
theorem RepD.frz {v : Value} {d : D} (h : RepD I μ v d) (hIJ : I.le J) (hg : μ id = some g) (hr : RepV J g (.sl es)) : RepD J μ v (M6 id es d) := by
 have at_ : ∀ {l : List D} {i : Nat} {x : D},(Nm id es l)[i]? = some x → ∃ y,l[i]? = some y ∧ x = M6 id es y := by
  intro l i x hx
  rw [Ee,List.getElem?_map] at hx
  cases hl : l[i]? with
  | none => rw [hl] at hx;cases hx
  | some y => rw [hl] at hx;cases hx;exact ⟨y,rfl,rfl⟩
 induction h with
 | undef v => exact .undef v
 | imm v x hx => exact .imm v x (hx.mono hIJ)
 | nils => exact .nils
 | ref b id off hm => exact .ref b id off hm
 | ip b o t cs off vs hcell hrep => exact (RepD.ip b o t cs off vs hcell hrep).mono hIJ (Mu.le_refl μ)
 | agg cs ds hl h1 _ ih =>
  have : RepD J μ (.agg cs.toList.toArray) (F3 (Nm id es ds)) := Hp ⟨by rw [Ee,List.length_map,← hl];simp,fun i c x hc hx => by
   obtain ⟨y,hy,rfl⟩ := at_ hx
   exact ih i c y (by simpa using hc) hy⟩ h1
  simpa [M6] using this
 | tup cs ds hl _ ih =>
  refine .tup cs _ (by rw [Ee,List.length_map,hl]) fun i c x hc hx => ?_
  obtain ⟨y,hy,rfl⟩ := at_ hx
  exact ih i c y hc hy
 | own i len a cap hm =>
  simp only [M6]
  cases hb : Nat.beq i id with
  | false => exact .own i len a cap hm
  | true =>
   rw [Nat.eq_of_beq_eq_true hb,hg] at hm
   cases hm
   exact .imm _ _ hr
 | elp b id len cap k sz f hm => exact .elp b id len cap k sz f hm
 | mapr id b hm => exact .mapr id b hm
 | iter id b hm => exact .iter id b hm
 | fn f first cap df dc hf hc _ _ ih1 ih2 =>
  refine .fn f first cap _ _ (by rw [Ee,List.length_map,hf]) (by rw [Ee,List.length_map,hc]) (fun i c x h1 h2 => ?_) (fun i c x h1 h2 => ?_)
  ·obtain ⟨y,hy,rfl⟩ := at_ h2
   exact ih1 i c y h1 hy
  ·obtain ⟨y,hy,rfl⟩ := at_ h2
   exact ih2 i c y h1 hy
 | iface t v d _ ih =>
  simp only [M6]
  split
  ·rename_i x hx
   rw [hx] at ih
   exact .imm _ _ (.iface t v x ih.immInv)
  ·exact .iface t v _ ih
 | guard c want v d _ hu ih => exact .guard c want v _ ih hu
 | clip a len es hr => exact .clip a len es (hr.mono hIJ)
 | slc b id off len cap hm hl hx => exact .slc b id off len cap hm hl hx
 | yld b id hm => exact .yld b id hm
 | raw v h => exact .raw v h
 | hv v id i vs bs hm hi h1 => exact .hv v id i vs bs hm hi h1
theorem BlkRep.frz {gb : Value} {blk : Blk} (h : BlkRep I μ w gb blk) (hIJ : I.le J) (hg : μ id = some g) (hr : RepV J g (.sl es)) : BlkRep J μ w gb (Yl id es blk) := by
 cases blk with
 | cells t sz cs =>
  obtain ⟨hs,b,vs,rfl,h2,h3,h4⟩ := h
  refine Em h2 ⟨by rw [Ee,List.length_map,h3.1],fun i v x hv hx => ?_⟩ h4 (by rw [Ee,List.length_map,hs])
  rw [Ee,List.getElem?_map] at hx
  cases hl : cs[i]? with
  | none => rw [hl] at hx;cases hx
  | some y => rw [hl] at hx;cases hx;exact (h3.2 i v y hv hl).frz hIJ hg hr
 | _ => exact h.mono hIJ (Mu.le_refl μ)
theorem JW {i : Nat} {b : Blk} : ∀ {st : St},Al (Nl id es st) i b → ∃ b0,Al st i b0 ∧ b = Yl id es b0
 | [],h => by simp [Nl,Al,lk] at h
 | (k,some x) :: r,h => by
  simp only [Nl] at h
  rcases A8.1 h with ⟨h1,h2⟩ | ⟨h1,h2⟩
  ·exact ⟨x,by unfold Al;rw [h1,lk_cons_self],h2⟩
  ·obtain ⟨b0,q1,q2⟩ := JW h2
   exact ⟨b0,A8.2 (.inr ⟨h1,q1⟩),q2⟩
 | (k,none) :: r,h => by
  simp only [Nl] at h
  obtain ⟨h1,h2⟩ := BF.1 h
  obtain ⟨b0,q1,q2⟩ := JW h2
  exact ⟨b0,BF.2 ⟨h1,q1⟩,q2⟩
theorem BL (id : Nat) {e : TypeId} {sz : Nat} (hl : lk st id = some (some (.row e sz es))) (h : DGo P n F Q todo (Vc id es env) ((id,none) :: Nl id es st) ids) : DGo P n F Q todo env st ids := by
 intro b cs I μ a w items hd hc
 have hlive : Al st id (.row e sz es) := hl
 obtain ⟨g,hg,xs,hown,hrep,hsz,hone,hp⟩ := hc.blk id _ hlive
 obtain ⟨J,hJ,hJr,hJo⟩ : ∃ J : Imm,I.le J ∧ RepV J g (.sl es) ∧ (∀ k o,J k = some o → (I k = some o ∨ (Cj g k ∧ w.heap[k]? = some o))) := by
  rcases hown.2 with ⟨rfl,h0⟩ | ⟨gb,cap,cur,rfl,_,hheap,hle,hcm,hcs,htake⟩
  ·have : es = [] := List.eq_nil_of_length_eq_zero h0
   subst this
   exact ⟨I,Imm.le_refl I,.slnil,fun k o h => .inl h⟩
  ·have hno := (hc.apart id _ _ gb hlive hg rfl).1
   have hle' : I.le (fun k => if k = gb then some (.cells cur e (0,0)) else I k) := fun k o h => by
    have : k ≠ gb := fun e => by rw [e,hno] at h;cases h
    simp [this,h]
   refine ⟨_,hle',?_,fun k o h => ?_⟩
   ·have hcell : ∀ (i : Nat) (c : List V) (j : Nat) (x : V),es[i]? = some c → c[j]? = some x → ∃ v,xs[i * sz + j]? = some v ∧ cur[i * sz + j]? = some v ∧ RepV I v x ∧ v.oneCell' = true := by
     intro i c j x hi hj
     have h1 := flatten_get hsz i c j x hi hj
     have hlt : i * sz + j < xs.length := by rw [hrep.1];exact (List.getElem?_eq_some_iff.1 h1).1
     obtain ⟨v,hv⟩ : ∃ v,xs[i * sz + j]? = some v := ⟨_,List.getElem?_eq_getElem hlt⟩
     have hr := hrep.2 _ _ _ hv h1
     refine ⟨v,hv,?_,hr,?_⟩
     ·rw [← htake,List.getElem?_take] at hv
      split at hv
      ·simpa using hv
      ·cases hv
     ·have := hone c (List.mem_of_getElem? hi) x (List.mem_of_getElem? hj)
      exact hr.one this
    refine .sl gb 0 _ cap sz es (fun i j => (cur[i * sz + j]?).getD undef) rfl hle hcm hsz (fun i c j x hi hj => ?_) (fun i c j x hi hj => ?_)
    ·obtain ⟨v,_,h2,_,h4⟩ := hcell i c j x hi hj
     simp [Imm.cell,h2,h4]
    ·obtain ⟨v,_,h2,h3,_⟩ := hcell i c j x hi hj
     simp only [h2,Option.getD_some]
     exact h3.mono hle'
   ·by_cases hk : k = gb
    ·subst hk;simp at h;subst h;exact .inr ⟨rfl,hheap⟩
    ·simp [hk] at h;exact .inl h
 have hst : ∀ i bi,Al ((id,none) :: Nl id es st) i bi → i ≠ id ∧ ∃ b0,Al st i b0 ∧ bi = Yl id es b0 := fun i bi h => by
  obtain ⟨h1,h2⟩ := BF.1 h
  exact ⟨h1,JW h2⟩
 have hE : Ext I μ st w J μ ((id,none) :: Nl id es st) w :=
  {imm := hJ,os := rfl,tape := rfl,output := rfl,size := Nat.le_refl _
   block := fun _ _ _ => rfl
   fresh := fun k _ ⟨i,bi,gi,h1,h2,h3⟩ => let ⟨_,b0,q,_⟩ := hst i bi h1;⟨i,b0,gi,q,h2,h3⟩
   old := fun k _ ho => by
      cases hJk : J k with
      | none =>
       cases hIk : I k with
       | none => rfl
       | some o => rw [hJ k o hIk] at hJk;cases hJk
      | some o =>
       rcases hJo k o hJk with h | ⟨h,_⟩
       ·exact h.symm
       ·exact absurd ⟨id,_,g,hlive,hg,h⟩ ho }
 have hc' : Conc n J μ (Vc id es env) ((id,none) :: Nl id es st) ids a w :=
  {imm := fun k o h => (hJo k o h).elim (fun h => hc.imm k o h) fun h => h.2
   blk := fun i bi hli => by
    obtain ⟨_,b0,h2,rfl⟩ := hst i bi hli
    obtain ⟨gi,hgi,hr⟩ := hc.blk i b0 h2
    exact ⟨gi,hgi,hr.frz hJ hg hJr⟩
   apart := fun i bi gi k hli hgi hk => by
    obtain ⟨h1,b0,h2,rfl⟩ := hst i bi hli
    obtain ⟨q1,q2⟩ := hc.apart i b0 gi k h2 hgi hk
    refine ⟨?_,q2⟩
    cases hJk : J k with
    | none => rfl
    | some o =>
     rcases hJo k o hJk with h | ⟨h,_⟩
     ·rw [q1] at h;cases h
     ·exact absurd (hc.inj i id b0 _ gi g k h2 hlive hgi hg hk h) h1
   inj := fun i j bi bj gi gj k hi hj hgi hgj hki hkj => by
    obtain ⟨_,b1,h1,rfl⟩ := hst i bi hi
    obtain ⟨_,b2,h2,rfl⟩ := hst j bj hj
    exact hc.inj i j b1 b2 gi gj k h1 h2 hgi hgj hki hkj
   nodup := hc.nodup
   idsFree := hc.idsFree
   size := hc.size
   env := fun t d hlt => by
    have : ∀ {env : Env},lk (Vc id es env) t = some d → ∃ d0,lk env t = some d0 ∧ d = M6 id es d0 := by
     intro env
     induction env with
     | nil => intro h;simp [Vc,lk] at h
     | cons p r ih =>
      obtain ⟨s,x⟩ := p
      intro h
      simp only [Vc] at h
      by_cases hs : s = t
      ·subst hs;rw [lk_cons_self] at h;cases h;exact ⟨x,lk_cons_self _ _ _,rfl⟩
      ·rw [lk_cons_ne _ _ hs] at h;rw [lk_cons_ne _ _ hs];exact ih h
    obtain ⟨d0,h1,rfl⟩ := this hlt
    exact (hc.env t d0 h1).frz hJ hg hJr
   defers := hc.defers.ext hE }
 refine (h b cs J μ a w items hd hc').mono fun e' a' w' hp => hp.back (.refl _ _) ?_
 exact hE
end
end Go.Hk
namespace Go.Hk
structure Ug where
 f : FuncId
 das : List D
 ob : List Prop
 dst : Option Nat
 o : Oper
 all : List Oper
def TW (n : Nat) (env : Env) (todo : List DI) : Option Ug :=
 match AQ todo ([],[]) with
 | some (all,o,_) => match o.guard,o.op with
  | none,.call { callee := .value (.func f),args := ⟨args⟩,.. } => match GT True env args,BW n o.dst with
   | some (ds,ob),true => some ⟨f,ds,ob,o.dst,o,all⟩
   | _,_ => none
  | none,.call { callee := .value (.tmp t),args := ⟨args⟩,.. } => match lk env t,GT True env args,BW n o.dst with
   | some (.imm (.fn (.func f))),some (ds,ob),true => some ⟨f,ds,ob,o.dst,o,all⟩
   | some (.fn (.func f) df dc),some (ds,ob),true => some ⟨f,df ++ ds ++ dc,ob,o.dst,o,all⟩
   | _,_,_ => none
  | _,_ => none
 | none => none
def VV : List (Nat × Nat) → List Nat
 | [] => []
 | (_,b) :: r => b :: VV r
def Jd : List (Nat × Nat) → List Nat
 | [] => []
 | (a,_) :: r => a :: Jd r
def Mk (σ τ1 : List (Nat × Nat)) (das : List D) (st0 : St) (d : D) (st1 : St) (fr : List Nat) : Bool :=
 BR σ (A5 σ) (Gu das) && BR σ (A5 σ) (Jd σ) && Lc (VV σ) (Db st0) && BR (A5 σ ++ τ1) (σ ++ A5 τ1) (Hm d) && BR (A5 σ ++ τ1) (σ ++ A5 τ1) (Dv st1) && Lc (VV τ1) fr
theorem OB : ∀ l : List (Nat × Nat),VV l = l.map (·.2)
 | [] => rfl
 | (a,b) :: r => by simp [VV,OB r]
theorem Jc : ∀ l : List (Nat × Nat),Jd l = l.map (·.1)
 | [] => rfl
 | (a,b) :: r => by simp [Jd,Jc r]
section
variable {P : Program} {n : Nat} {F : List Nat} {Q : DQ} {tt : TT} {env : Env} {st st0 st1 : St} {ids ids' fr : List Nat} {k todo todo' : List DI} {I : Imm} {μ : Mu} {w : World} {Pn : V → Prop} {d : D} {σ τ1 : List (Nat × Nat)} {das : List D}
theorem NT (h : Mk σ τ1 das st0 d st1 fr = true) : Uf σ τ1 das st0 d st1 fr := by
 simp only [Mk,Bool.and_eq_true] at h
 obtain ⟨⟨⟨⟨⟨h1,h2⟩,h3⟩,h4⟩,h5⟩,h6⟩ := h
 exact ⟨h1,by rw [← Jc];exact h2,fun p hp => D4 h3 _ (by rw [OB];exact List.mem_map_of_mem hp),h4,h5,fun p hp => D4 h6 _ (by rw [OB];exact List.mem_map_of_mem hp)⟩
theorem Gn (hag : Agree (Jd σ) st st1) : ∀ {st0 : St},EM σ st st0 → EM σ st1 st0
 | [],_ => trivial
 | (i,none) :: _,h => h.elim
 | (i,some b) :: r,h => by
  refine ⟨?_,Gn hag h.2⟩
  have h1 := h.1
  cases ha : lk (A5 σ) i with
  | none => simp [ha] at h1
  | some a =>
   simp only [ha] at h1 ⊢
   refine ⟨h1.1,?_⟩
   have hm : a ∈ Jd σ := by rw [Jc];exact List.mem_map.2 ⟨(a,i),GJ ha,rfl⟩
   rw [hag a hm]
   exact h1.2
theorem Ye {all : List Oper} {o : Oper} {f : FuncId} (hg : o.guard = none) (hc : Ei P o env f das True) (hE : AP P f (DZ (CM σ) das) st0 (.ret d st1)) (hb : EM σ st st0) (hn : Mk σ τ1 das st0 d st1 fr = true) :
  LD P Pn all o env st (Jd σ) fr (ES (A5 σ ++ τ1) st1 ++ B8 (Jd σ)) (Ib (CM (A5 σ ++ τ1)) d) := by
 intro I μ st2 ids1 a w hag hst hon
 refine ⟨fun _ => ?_,fun hw => by rw [wanted_none hg] at hw;cases hw⟩
 obtain ⟨xs,h1,h2⟩ := hc I μ a w (Ba hon) trivial
 have hb' := Gn hag hb
 have hN := NT hn
 obtain ⟨q1,q2,q3⟩ := Gm hst hb' hN.args h1
 rw [h2]
 refine (hE I _ w xs q1 q2).mono (fun u w' hu => ?_) (fun _ _ h => h.elim)
 obtain ⟨I',μ',r1,r2,r3,r4⟩ := hu
 obtain ⟨ν,s1,s2,s3,s4⟩ := Kg hst hb' hN r1 r2 r3 r4 q3
 rw [← Jc] at s1 s4
 exact ⟨I',ν,s1,s2,s3,s4⟩
theorem QY {c : Ug} (h : TW n env todo = some c) (hob : Ay c.ob) : (∀ f,∃ todo',AQ todo f = some (c.all,c.o,todo')) ∧ c.o.guard = none ∧ Ei P c.o env c.f c.das True ∧ BW n c.dst = true ∧ (∀ x,c.o.op ≠ .defer x) ∧ c.dst = c.o.dst := by
 unfold TW at h
 have hnext : ∀ {all : List Oper} {o : Oper} {t : List DI},AQ todo ([],[]) = some (all,o,t) → ∀ f,∃ todo',AQ todo f = some (all,o,todo') := by
  intro all o t h f
  rcases Hn h with ⟨r,k,rfl,_⟩ | ⟨r,fs,k,rfl,_⟩
  ·exact ⟨_,rfl⟩
  ·exact ⟨_,rfl⟩
 split at h
 ·rename_i all o t h1
  split at h
  ·rename_i f args ts hg ho
   split at h
   ·rename_i ds ob ha hd
    cases h
    exact ⟨hnext h1,hg,EL ho ha hob,hd,(fun x hx => by rw [ho] at hx;cases hx),rfl⟩
   ·cases h
  ·rename_i t' args ts hg ho
   split at h
   ·rename_i f ds ob ht ha hd
    cases h
    exact ⟨hnext h1,hg,DS ho ht ha hob,hd,(fun x hx => by rw [ho] at hx;cases hx),rfl⟩
   ·rename_i f df dc ds ob ht ha hd
    cases h
    exact ⟨hnext h1,hg,HS ho ht ha hob,hd,(fun x hx => by rw [ho] at hx;cases hx),rfl⟩
   ·cases h
  ·cases h
 ·cases h
theorem Aw {c : Ug} (σ τ1 : List (Nat × Nat)) {fr : List Nat} {nm : List Nat} (h : TW n env todo = some c) (hob : Ay c.ob) (hE : AP P c.f (DZ (CM σ) c.das) st0 (.ret d st1)) (hb : EM σ st st0)
  (hn : Mk σ τ1 c.das st0 d st1 fr = true) (hnm : (ES (A5 σ ++ τ1) st1 ++ B8 (Jd σ)).map (·.1) = nm) (h1 : AQ todo (Jd σ,nm) = some (c.all,c.o,todo')) (hids : ids = fr ++ ids')
  (hk : G P n F Q todo' (Bo c.dst (Ib (CM (A5 σ ++ τ1)) d) env) (ES (A5 σ ++ τ1) st1 ++ B8 (Jd σ) ++ st) ids') : G P n F Q todo env st ids := by
 obtain ⟨_,q2,q3,q4,q5,q6⟩ := QY (P := P) h hob
 subst hids
 rw [q6] at q4 hk
 subst hnm
 exact BA h1 (Ye q2 q3 hE hb hn) q4 q5 hk
theorem An {c : Ug} {x : V} {all rest : List Oper} {o : Oper} (σ : List (Nat × Nat)) (h : TW n env (.ops all (o :: rest) :: k) = some c) (hob : Ay c.ob) (hE : AP P c.f (DZ (CM σ) c.das) st0 (.pan x)) (hb : EM σ st st0)
  (hn : BR σ (A5 σ) (Gu c.das) = true) (hq : LZ Q x) : DGo P n F Q (.ops all (o :: rest) :: k) env st ids := by
 obtain ⟨q1,q2,q3,q4,q5,_⟩ := QY (P := P) h hob
 obtain ⟨t,ht⟩ := q1 ([],[])
 simp only [AQ,Option.some.injEq,Prod.mk.injEq] at ht
 obtain ⟨_,ho,_⟩ := ht
 subst ho
 intro b cs I μ a w items hd hc
 obtain ⟨j,is,rfl,hr,hk⟩ := Hz hd
 obtain ⟨hj,_⟩ := Bx hr
 have hon : HU (c.o.looksAt all.toArray) I μ env a := fun t _ d hl => hc.env t d hl
 have hlen : (c.o :: rest).length = rest.length + 1 := rfl
 rw [hlen,List.range'_succ]
 refine BD hj (wanted_none q2) q5 ?_
 obtain ⟨xs,h1,h2⟩ := q3 I μ a w (Ba hon) trivial
 obtain ⟨p1,p2,p3⟩ := Gm hc.toStRep hb hn h1
 rw [h2]
 refine valX.upon ((hE I _ w xs p1 p2).mono (fun _ _ h => h.elim) fun chain w' hp => ?_)
 obtain ⟨v,y,I',r1,r2,r3,r4,r5⟩ := hp
 subst r2
 have hE' : Ext I μ st w I' μ [] w' := { imm := r5.imm,os := r5.os,tape := r5.tape,output := r5.output,size := r5.size,block := fun b hb ho => r5.block b hb (fun h => ho (p3 b h)),fresh := fun b hb ⟨i,bi,g,h1,_⟩ => by simp [Al,lk] at h1,old := fun b hb ho => r5.old b hb (fun h => ho (p3 b h)) }
 exact ⟨.panic y,[],[],[],I',μ,⟨v,r1,r3⟩,hq,Jo r4 hc.size (hc.defers.ext hE'),.refl _ _,hE',.refl _ _⟩
end
end Go.Hk
namespace Go.Hk
open Go.Proofs
theorem mixed : Tryz.prog.follows .mixedOrders = true := by kernel_rfl
def VI : TT := [
 (4,⟨.bool,false,1,1,[.imm (.bool false)]⟩),
 (3,⟨.int .i64,false,1,8,[.imm (.int .i64 0)]⟩),
 (9,⟨.str,false,1,16,[.imm (.str [])]⟩),
 (141,⟨.struct [(0,138),(1,3),(2,9),(3,139),(4,27)],true,5,80,[.imm (.int .i64 0),.imm (.int .i64 0),.imm (.str []),.nils,.nils]⟩),
 (26,⟨.struct [(0,23),(1,3),(2,9),(3,24)],true,4,56,[.imm (.int .i64 0),.imm (.int .i64 0),.imm (.str []),.nils]⟩),
 (50,⟨.struct [(0,48),(1,3),(2,9),(3,27)],true,4,56,[.imm (.int .i64 0),.imm (.int .i64 0),.imm (.str []),.nils]⟩),
 (138,⟨.int .i64,false,1,8,[.imm (.int .i64 0)]⟩),
 (27,⟨.sl 50,false,1,24,[.nils]⟩),
 (5,⟨.int .u8,false,1,1,[.imm (.int .u8 0)]⟩),
 (24,⟨.sl 26,false,1,24,[.nils]⟩),
 (23,⟨.int .i64,false,1,8,[.imm (.int .i64 0)]⟩),
 (57,⟨.sl 9,false,1,24,[.nils]⟩),
 (139,⟨.sl 141,false,1,24,[.nils]⟩),
 (48,⟨.int .i64,false,1,8,[.imm (.int .i64 0)]⟩),
 (143,⟨.struct [(0,9),(1,9),(2,26),(6,26),(10,141)],true,15,224,[.imm (.str []),.imm (.str []),.imm (.int .i64 0),.imm (.int .i64 0),.imm (.str []),.nils,.imm (.int .i64 0),.imm (.int .i64 0),.imm (.str []),.nils,.imm (.int .i64 0),.imm (.int .i64 0),.imm (.str []),.nils,.nils]⟩),
 (147,⟨.struct [(0,9),(1,22),(2,145)],true,3,64,[.imm (.str []),.nils,.nils]⟩),
 (75,⟨.struct [(0,9),(1,24)],true,2,40,[.imm (.str []),.nils]⟩),
 (22,⟨.sl 72,false,1,24,[.nils]⟩),
 (145,⟨.sl 143,false,1,24,[.nils]⟩),
 (72,⟨.struct [(0,9),(1,70)],true,2,40,[.imm (.str []),.nils]⟩),
 (70,⟨.sl 75,false,1,24,[.nils]⟩),
 (38,⟨.int .i64,false,1,8,[.imm (.int .i64 0)]⟩)]
theorem AI : TTok Tryz.prog VI := .of_eq (l := [4,3,9,141,26,50,138,27,5,24,23,57,139,48,143,147,75,22,145,72,70,38]) (by kernel_rfl)
def ZG : Code → Code
 | .seq _ b => b
 | _ => .skip
def EQ (f : Func) : Nat → Code
 | 0 => match f.body with
  | some c => c
  | none => .skip
 | k + 1 => ZG (EQ f k)
section
variable {n : Nat} {F : List Nat} {Q : DQ} {env env' : Env} {st st' : St} {ids ids' : List Nat} {k todo : List DI} {ob : List Prop}
theorem kd (path : List Pt) (h : run VI n 300 path todo env st ids [] = .at k env' st' ids' ob) (hob : Ay ob) (hd : G Tryz.prog n F Q k env' st' ids') : DGo Tryz.prog n F Q todo env st ids := KU AI mixed 300 path h hob hd
theorem kg (path : List Pt) (h : run VI n 300 path todo env st ids [] = .at k env' st' ids' ob) (hob : Ay ob) (hd : G Tryz.prog n F Q k env' st' ids') : G Tryz.prog n F Q todo env st ids := Ja AI mixed 300 path h hob hd
theorem ki {es : List (List V)} {m : Int} {sz : Nat} {e : TypeId} {g : Option (Bool × Bool)} {ob : List Prop} {t : Nat} {todo' : List DI} {c : List V} (h : Nf VI n env todo = some ⟨es,m,sz,e,g,ob,some t,todo'⟩)
  (hc : Af g → 0 ≤ m ∧ es[m.toNat]? = some c ∧ c.length = sz) (hob : Ay ob) (hk : G Tryz.prog n F Q todo' ((t,gD g (.ip e c 0)) :: env) st ids) : G Tryz.prog n F Q todo env st ids := Ff AI h hc hob hk
end
abbrev Str := List UInt8
inductive Ty where
 | mk (s n : Int) (x : Str) (ps : List Ty)
mutual
def dTyc : Ty → List V
 | .mk s n x ps => [.int .i64 s,.int .i64 n,.str x,.sl (Bg ps)]
def Bg : List Ty → List (List V)
 | [] => []
 | t :: r => dTyc t :: Bg r
end
inductive Tm where
 | mk (op n : Int) (x : Str) (ks : List Tm) (ps : List Ty)
mutual
def Bz : Tm → List V
 | .mk op n x ks ps => [.int .i64 op,.int .i64 n,.str x,.sl (Ip ks),.sl (Bg ps)]
def Ip : List Tm → List (List V)
 | [] => []
 | t :: r => Bz t :: Ip r
end
structure Cd where
 name : Str
 args : List Ty
structure Dt where
 name : Str
 cons : List Cd
structure Fd where
 name : Str
 param : Str
 from_ : Ty
 to_ : Ty
 body : Tm
structure Md where
 name : Str
 datas : List Dt
 funs : List Fd
def Cx (c : Cd) : List V := [.str c.name,.sl (Bg c.args)]
def B5 (d : Dt) : List V := [.str d.name,.sl (d.cons.map Cx)]
def Lg (f : Fd) : List V := [.str f.name,.str f.param] ++ dTyc f.from_ ++ dTyc f.to_ ++ Bz f.body
def Pz (m : Md) : List V := [.str m.name,.sl (m.datas.map B5),.sl (m.funs.map Lg)]
def Ck (l : List Str) : List (List V) := l.map fun s => [.str s]
theorem BM : ∀ l : List Ty,Bg l = l.map dTyc
 | [] => rfl
 | t :: r => by simp [Bg,BM r]
theorem Py : ∀ l : List Tm,Ip l = l.map Bz
 | [] => rfl
 | t :: r => by simp [Ip,Py r]
@[simp] theorem dTys_length (l : List Ty) : (Bg l).length = l.length := by rw [BM];simp
@[simp] theorem dTms_length (l : List Tm) : (Ip l).length = l.length := by rw [Py];simp
@[simp] theorem dTyc_length (t : Ty) : (dTyc t).length = 4 := by cases t;rfl
@[simp] theorem dTmc_length (t : Tm) : (Bz t).length = 5 := by cases t;rfl
@[simp] theorem dStr_length (l : List Str) : (Ck l).length = l.length := by simp [Ck]
theorem Ao {l : List Ty} {i : Nat} {t : Ty} (h : l[i]? = some t) : (Bg l)[i]? = some (dTyc t) := by rw [BM];simp [h]
theorem FD {l : List Tm} {i : Nat} {t : Tm} (h : l[i]? = some t) : (Ip l)[i]? = some (Bz t) := by rw [Py];simp [h]
theorem Ro {l : List Str} {i : Nat} {t : Str} (h : l[i]? = some t) : (Ck l)[i]? = some [.str t] := by simp [Ck,h]
theorem Rn (a b : List Ty) : Bg (a ++ b) = Bg a ++ Bg b := by simp [BM]
theorem CK (a b : List Str) : Ck (a ++ b) = Ck a ++ Ck b := by simp [Ck]
theorem Aj {α : Type} {l : List α} {i : Nat} {t : α} (h : l[i]? = some t) : l.drop i = t :: l.drop (i + 1) := by
 obtain ⟨h1,h2⟩ := List.getElem?_eq_some_iff.1 h
 rw [← h2]
 exact List.drop_eq_getElem_cons h1
theorem AM {α : Type} {l : List α} {i : Nat} {t : α} (h : l[i]? = some t) : l.take (i + 1) = l.take i ++ [t] := by
 rw [List.take_add_one,h];rfl
theorem Ai {α : Type} {l : List α} {i : Nat} (h : i < l.length) : ∃ t,l[i]? = some t := ⟨_,List.getElem?_eq_getElem h⟩
end Go.Hk
namespace Go.Hk
open Go.Proofs
def DO : List Str → Str → Bool
 | [],_ => false
 | x :: r,s => x == s || DO r s
theorem X9 (l : List Str) (s : Str) : PureC Tryz.prog 115 [.sl (Ck l),.str s] (.bool (DO l s)) := by
 refine Az fun hv => ?_
 simp [Bh,CP,maxLen] at hv
 refine Ae AI Tryz.func115 (by decide +kernel) rfl [1,2] rfl rfl ?_
 refine kg [] rfl (by simp) ?_
 refine Ah (fun i : Nat => [(5,.imm (.int .i64 i)),(0,.imm (.sl (Ck l))),(1,.imm (.str s))]) (fun _ => []) [1] (fun i => l.length - i) (fun i => i ≤ l.length ∧ DO l s = DO (l.drop i) s) 0
  ⟨Nat.zero_le _,rfl⟩ ⟨rfl,rfl,rfl,trivial⟩ trivial rfl fun i hi ih => ?_
 refine kd [] rfl (by simp) ?_
 refine Aa rfl (fun h => ?_) (fun h => ?_)
 ·simp at h
  obtain ⟨t,ht⟩ := Ai h
  refine kd [] rfl (by simp) ?_
  refine ki rfl (c := [.str t]) (fun _ => ⟨by simp,by simpa using Ro ht,rfl⟩) (by simp) ?_
  refine kg [] rfl (by simp) ?_
  have e := hi.2
  rw [Aj ht] at e
  refine Aa rfl (fun h => ?_) (fun h => ?_)
  ·refine kd [] rfl (by simp) ?_
   refine Ab ⟨_,rfl,tV (congrArg _ ?_),trivial⟩
   rw [e];simp [DO,h]
  ·refine kd [] rfl (by simp) ?_
   refine Ad (ih (i + 1) (by omega) ⟨by omega,by rw [e];simp [DO,h]⟩) ⟨Aq (Bq (by omega) (by omega)),rfl,rfl,trivial⟩ trivial rfl
 ·refine kd [] rfl (by simp) ?_
  refine Ab ⟨_,rfl,tV (congrArg _ ?_),trivial⟩
  simp at h
  rw [hi.2,List.drop_eq_nil_of_le (by omega)];rfl
def CA (s : Str) : Bool := s.all fun c => 97 ≤ c && c ≤ 122
theorem K3 {s : Str} {i : Nat} {c : UInt8} (h : s[i]? = some c) : CA (s.drop i) = ((97 ≤ c && c ≤ 122) && CA (s.drop (i + 1))) := by
 rw [Aj h];simp [CA]
theorem PM (s : Str) (hs : s.length ≤ 9223372036854775806) : PureC Tryz.prog 142 [.str s] (.bool (CA s)) := by
 refine Ae AI Tryz.func142 (by decide +kernel) rfl [1,2] rfl rfl ?_
 refine kg [] rfl (by simp) ?_
 refine Ah (fun i : Nat => [(3,.imm (.int .i64 i)),(0,.imm (.str s))]) (fun _ => []) [1] (fun i => s.length - i) (fun i => i ≤ s.length ∧ CA s = CA (s.drop i)) 0
  ⟨Nat.zero_le _,rfl⟩ ⟨rfl,rfl,trivial⟩ trivial rfl fun i hi ih => ?_
 refine kd [] rfl (by simp) ?_
 refine Aa rfl (fun h => ?_) (fun h => ?_)
 ·simp at h
  obtain ⟨c,hc⟩ := Ai h
  have e := hi.2
  rw [K3 hc] at e
  have hg : s[i]?.getD 0 = c := by rw [hc];rfl
  refine kd [] rfl (by simp [h]) ?_
  refine Aa rfl (fun h => ?_) (fun h => ?_)
  ·refine kd [] rfl (by simp) ?_
   refine Ab ⟨_,rfl,tV (congrArg _ ?_),trivial⟩
   rw [e];simp [hg] at h;simp [UInt8.le_iff_toNat_le];omega
  ·refine kd [] rfl (by simp) ?_
   refine Ad (ih (i + 1) (by omega) ⟨by omega,?_⟩) ⟨Aq (Bq (by omega) (by omega)),rfl,trivial⟩ trivial rfl
   rw [e];simp [hg] at h;simp [UInt8.le_iff_toNat_le];omega
 ·refine kd [] rfl (by simp) ?_
  refine Ab ⟨_,rfl,tV (congrArg _ ?_),trivial⟩
  simp at h
  rw [hi.2,List.drop_eq_nil_of_le (by omega)];rfl
def F6 : List Str := [[98,111,111,108],[99,101,108,108],[99,104,97,110],[101,108,115,101],[102,97,108,115,101],[102,117,110],[103,101,116],[105,102],[105,110],[105,110,112,117,116],[105,110,116],[106,111,105,110],[108,101,116],[109,97,116,99,104],[109,111,100,117,108,101],[111,117,116],[112,97,117,115,101],[112,117,116],[114,101,115,101,116],[115,101,110,100],[115,104,105,102,116],[115,112,97,119,110],[116,97,107,101],[116,97,115,107],[116,104,101,110],[116,114,117,101],[116,121,112,101],[117,110,105,116]]
theorem Q0 : PureC Tryz.prog 164 [] (.sl (Ck F6)) := by
 refine Ae AI Tryz.func164 (by decide +kernel) rfl [1,2] rfl rfl ?_
 refine kg [] rfl (by simp) ?_
 refine Ab ⟨_,rfl,?_,trivial⟩
 rfl
def Pe (s : Str) : Bool := DO F6 s
theorem Z8 (s : Str) : PureC Tryz.prog 143 [.str s] (.bool (Pe s)) := by
 refine Ae AI Tryz.func143 (by decide +kernel) rfl [1,2] rfl rfl ?_
 refine kg [] rfl (by simp) ?_
 refine Ac rfl (fun _ => Q0) (by simp) ?_
 refine kg [] rfl (by simp) ?_
 refine Ac rfl (fun _ => X9 F6 s) (by simp) ?_
 refine kg [] rfl (by simp) ?_
 exact Ab ⟨_,rfl,tV rfl,trivial⟩
def CG (s : Str) : Bool := decide (1 ≤ s.length) && decide (s.length ≤ 8) && CA s && !Pe s
def BZ (s : Str) : Bool := decide (1 ≤ s.length) && decide (s.length ≤ 8) && (65 ≤ s.getD 0 0 && s.getD 0 0 ≤ 90) && CA (s.drop 1)
def Dk (x lo hi : Int) : Bool := decide (lo ≤ x) && decide (x ≤ hi)
theorem Fk (s : Str) : PureC Tryz.prog 111 [.str s] (.bool (CG s)) := by
 refine Ae AI Tryz.func111 (by decide +kernel) rfl [1,2] rfl rfl ?_
 refine kg [] rfl (by simp) ?_
 refine Ac rfl (v := .bool (CA s)) (fun h => PM s ?_) (by simp [Af]) ?_
 ·simp [Af] at h;omega
 refine kg [] rfl (by simp) ?_
 refine Ac rfl (v := .bool (Pe s)) (fun h => Z8 s) (by simp [Af]) ?_
 refine kg [] rfl (by simp) ?_
 refine Ab ⟨_,rfl,tV (congrArg _ ?_),trivial⟩
 simp [CG]
 norm_cast
theorem IX (x lo hi : Int) : PureC Tryz.prog 112 [.int .i64 x,.int .i64 lo,.int .i64 hi] (.bool (Dk x lo hi)) := by
 refine Ae AI Tryz.func112 (by decide +kernel) rfl [1,2] rfl rfl ?_
 refine kg [] rfl (by simp) ?_
 refine Ab ⟨_,rfl,tV (congrArg _ ?_),trivial⟩
 simp [Dk]
theorem FG (s : Str) : PureC Tryz.prog 110 [.str s] (.bool (BZ s)) := by
 refine Ae AI Tryz.func110 (by decide +kernel) rfl [1,2] rfl rfl ?_
 refine kg [] rfl (by simp [Af];omega) ?_
 refine Ac rfl (v := .bool (CA (s.drop 1))) (fun h => PM _ ?_) (by simp [Af]) ?_
 ·simp [Af] at h;simp;omega
 refine kg [] rfl (by simp) ?_
 refine Ab ⟨_,rfl,tV (congrArg _ ?_),trivial⟩
 simp [BZ,UInt8.le_iff_toNat_le,Bool.and_assoc]
 norm_cast
mutual
def A4 : Ty → Int → Int
 | .mk _ _ _ ps,l => if l < 1 then -1 else AS ps (l - 1)
def AS : List Ty → Int → Int
 | [],l => l
 | t :: r,l => if 0 ≤ l then AS r (A4 t l) else l
end
mutual
theorem FH : ∀ (t : Ty) (l : Int),-1 ≤ A4 t l ∧ (-1 ≤ l → A4 t l ≤ l)
 | .mk _ _ _ ps,l => by
  simp only [A4]
  by_cases h : l < 1
  ·rw [if_pos h];omega
  ·rw [if_neg h]
   have := Gz ps (l - 1) (by omega)
   omega
theorem Gz : ∀ (ts : List Ty) (l : Int),-1 ≤ l → -1 ≤ AS ts l ∧ AS ts l ≤ l
 | [],l,h => by simp [AS,h]
 | t :: r,l,h => by
  simp only [AS]
  by_cases h0 : 0 ≤ l
  ·rw [if_pos h0]
   have h1 := FH t l
   have h2 := Gz r (A4 t l) h1.1
   omega
  ·rw [if_neg h0];omega
end
theorem Eg : ∀ (t : Ty) (l : Int),-9223372036854775808 ≤ l → l ≤ 9223372036854775807 → PureC Tryz.prog 29 [.agg (dTyc t),.int .i64 l] (.int .i64 (A4 t l))
 | .mk s n x ps,l,hl0,hl1 => by
  refine Az fun hv => ?_
  simp [Bh,CP,dTyc,maxLen] at hv
  refine Ae AI Tryz.func29 (by decide +kernel) rfl [1,2,3] rfl rfl ?_
  refine kg [] rfl (by simp) ?_
  refine Aa rfl (fun h => ?_) (fun h => ?_)
  ·refine kd [] rfl (by simp) ?_
   refine Ab ⟨_,rfl,tV (congrArg _ ?_),trivial⟩
   simp at h
   simp [A4,h]
  simp at h
  refine kd [] rfl (by simp) ?_
  refine Ah (fun x : Nat × Int => [(5,.imm (.int .i64 x.1)),(1,.imm (.int .i64 x.2)),(2,.ref 1 0)]) (fun _ => [(1,some (.immb 26 4 (dTyc (.mk s n x ps))))]) [2,3] (fun x => ps.length - x.1)
   (fun y => y.1 ≤ ps.length ∧ A4 (.mk s n x ps) l = AS (ps.drop y.1) y.2 ∧ -1 ≤ y.2 ∧ y.2 < l) (0,l - 1)
   ⟨Nat.zero_le _,by simp [A4];omega,by simp only;omega,by simp only;omega⟩ ⟨rfl,Aq (Bq (by omega) (by omega)),rfl,trivial⟩ ⟨rfl,trivial⟩ rfl fun y hi ih => ?_
  obtain ⟨i,m⟩ := y
  obtain ⟨hi1,hi2,hi3,hi4⟩ := hi
  simp only at hi1 hi2 hi3 hi4
  refine kd [] rfl (by simp) ?_
  refine Aa rfl (fun h => ?_) (fun h => ?_)
  ·simp at h
   obtain ⟨t,ht⟩ := Ai (l := ps) (i := i) (by omega)
   rw [Aj ht] at hi2
   refine kd [] rfl (by simp) ?_
   refine ki rfl (c := dTyc t) (fun _ => ⟨by simp,by simpa using Ao ht,by simp⟩) (by simp) ?_
   refine kg [] rfl (by simp) ?_
   refine Ac rfl (fun _ => Eg t m (by omega) (by omega)) (by simp) ?_
   refine kg [] rfl (by simp) ?_
   have hb := FH t m
   refine Ad (ih (i + 1,A4 t m) (by simp only;omega) ⟨by simp only;omega,by simp only;rw [hi2];simp [AS];omega,by simp only;omega,by simp only;omega⟩) ⟨Aq (Bq (by omega) (by omega)),rfl,rfl,trivial⟩ ⟨rfl,trivial⟩ rfl
  ·refine kd [] rfl (by simp) ?_
   refine Ab ⟨_,rfl,tV (congrArg _ ?_),trivial⟩
   rw [hi2]
   simp at h
   by_cases hlt : i < ps.length
   ·obtain ⟨t,ht⟩ := Ai hlt
    rw [Aj ht];simp [AS];omega
   ·rw [List.drop_eq_nil_of_le (by omega)];simp [AS]
termination_by t => SizeOf.sizeOf t
decreasing_by
 have := List.sizeOf_lt_of_mem (List.mem_of_getElem? ht)
 simp_wf
 omega
theorem Hd : ∀ (t : Ty) (l : Int),-9223372036854775808 ≤ l → l ≤ 9223372036854775807 → PureC Tryz.prog 30 [.agg (dTyc t),.int .i64 l] (.int .i64 (A4 t l))
 | .mk s n x ps,l,hl0,hl1 => by
  refine Az fun hv => ?_
  simp [Bh,CP,dTyc,maxLen] at hv
  refine Ae AI Tryz.func30 (by decide +kernel) rfl [1,2,3] rfl rfl ?_
  refine kg [] rfl (by simp) ?_
  refine Aa rfl (fun h => ?_) (fun h => ?_)
  ·refine kd [] rfl (by simp) ?_
   refine Ab ⟨_,rfl,tV (congrArg _ ?_),trivial⟩
   simp at h
   simp [A4,h]
  simp at h
  refine kd [] rfl (by simp) ?_
  refine Ah (fun x : Nat × Int => [(5,.imm (.int .i64 x.1)),(1,.imm (.int .i64 x.2)),(2,.ref 1 0)]) (fun _ => [(1,some (.immb 50 4 (dTyc (.mk s n x ps))))]) [2,3] (fun x => ps.length - x.1)
   (fun y => y.1 ≤ ps.length ∧ A4 (.mk s n x ps) l = AS (ps.drop y.1) y.2 ∧ -1 ≤ y.2 ∧ y.2 < l) (0,l - 1)
   ⟨Nat.zero_le _,by simp [A4];omega,by simp only;omega,by simp only;omega⟩ ⟨rfl,Aq (Bq (by omega) (by omega)),rfl,trivial⟩ ⟨rfl,trivial⟩ rfl fun y hi ih => ?_
  obtain ⟨i,m⟩ := y
  obtain ⟨hi1,hi2,hi3,hi4⟩ := hi
  simp only at hi1 hi2 hi3 hi4
  refine kd [] rfl (by simp) ?_
  refine Aa rfl (fun h => ?_) (fun h => ?_)
  ·simp at h
   obtain ⟨t,ht⟩ := Ai (l := ps) (i := i) (by omega)
   rw [Aj ht] at hi2
   refine kd [] rfl (by simp) ?_
   refine ki rfl (c := dTyc t) (fun _ => ⟨by simp,by simpa using Ao ht,by simp⟩) (by simp) ?_
   refine kg [] rfl (by simp) ?_
   refine Ac rfl (fun _ => Hd t m (by omega) (by omega)) (by simp) ?_
   refine kg [] rfl (by simp) ?_
   have hb := FH t m
   refine Ad (ih (i + 1,A4 t m) (by simp only;omega) ⟨by simp only;omega,by simp only;rw [hi2];simp [AS];omega,by simp only;omega,by simp only;omega⟩) ⟨Aq (Bq (by omega) (by omega)),rfl,rfl,trivial⟩ ⟨rfl,trivial⟩ rfl
  ·refine kd [] rfl (by simp) ?_
   refine Ab ⟨_,rfl,tV (congrArg _ ?_),trivial⟩
   rw [hi2]
   simp at h
   by_cases hlt : i < ps.length
   ·obtain ⟨t,ht⟩ := Ai hlt
    rw [Aj ht];simp [AS];omega
   ·rw [List.drop_eq_nil_of_le (by omega)];simp [AS]
termination_by t => SizeOf.sizeOf t
decreasing_by
 have := List.sizeOf_lt_of_mem (List.mem_of_getElem? ht)
 simp_wf
 omega
def AY (holes : Bool) (s n : Int) (x : Str) (k : Nat) : Bool :=
 if s = 1 ∨ s = 2 ∨ s = 3 then ((k : Int) == 0) && n == 0 && x == []
 else if s = 4 then ((k : Int) == 2) && n == 0 && x == []
 else if s = 5 ∨ s = 6 ∨ s = 7 then ((k : Int) == 1) && n == 0 && x == []
 else if s = 8 then ((k : Int) == 0) && n == 0 && BZ x
 else if s = 9 then holes && ((k : Int) == 0) && x == [] && Dk n 0 99
 else false
mutual
def BC (holes : Bool) : Ty → Bool
 | .mk s n x ps => AY holes s n x ps.length && BB holes ps
def BB (holes : Bool) : List Ty → Bool
 | [] => true
 | t :: r => BC holes t && BB holes r
end
theorem PL (holes : Bool) : ∀ (t : Ty),PureC Tryz.prog 84 [.agg (dTyc t),.bool holes] (.bool (BC holes t))
 | .mk s n x ps => by
  refine Az fun hv => ?_
  simp [Bh,CP,dTyc,maxLen] at hv
  refine Ae AI Tryz.func84 (by decide +kernel) rfl [1,2,3] rfl rfl ?_
  have J : ∀ is : Bool,is = AY holes s n x ps.length → DGo Tryz.prog Tryz.f84.ntmps (Db []) (Nt VI Tryz.f84.results.toList (.ret (.imm (.bool (BC holes (.mk s n x ps)))) []))
    [.code (EQ Tryz.f84 4)] [(6,.imm (.bool is)),(5,.imm (.int .i64 ps.length)),(1,.imm (.bool holes)),(2,.ref 1 0)] [(1,some (.immb 26 4 (dTyc (.mk s n x ps))))] [2,3] := by
   intro is his
   refine kd [] rfl (by simp) ?_
   refine Ah (fun y : Nat × Bool => [(7,.imm (.int .i64 y.1)),(6,.imm (.bool y.2)),(5,.imm (.int .i64 ps.length)),(1,.imm (.bool holes)),(2,.ref 1 0)]) (fun _ => [(1,some (.immb 26 4 (dTyc (.mk s n x ps))))]) [2,3] (fun y => ps.length - y.1)
    (fun y => y.1 ≤ ps.length ∧ BC holes (.mk s n x ps) = (y.2 && BB holes (ps.drop y.1))) (0,is) ⟨Nat.zero_le _,by simp [BC,his]⟩ ⟨rfl,rfl,rfl,rfl,rfl,trivial⟩ ⟨rfl,trivial⟩ rfl fun y hi ih => ?_
   obtain ⟨i,b⟩ := y
   obtain ⟨hi1,hi2⟩ := hi
   simp only at hi1 hi2
   refine kd [] rfl (by simp) ?_
   refine Aa rfl (fun h => ?_) (fun h => ?_)
   ·simp at h
    obtain ⟨t,ht⟩ := Ai (l := ps) (i := i) (by omega)
    rw [Aj ht] at hi2
    refine kd [] rfl (by simp) ?_
    refine ki rfl (c := dTyc t) (fun _ => ⟨by simp,by simpa using Ao ht,by simp⟩) (by simp) ?_
    refine kg [] rfl (by simp) ?_
    refine Ac rfl (fun _ => PL holes t) (by simp) ?_
    refine kg [] rfl (by simp) ?_
    refine Ad (ih (i + 1,BC holes t) (by simp only;omega) ⟨by simp only;omega,by simp only;rw [hi2,h.2];simp [BB]⟩) ⟨Aq (Bq (by omega) (by omega)),rfl,rfl,rfl,rfl,trivial⟩ ⟨rfl,trivial⟩ rfl
   ·refine kd [] rfl (by simp) ?_
    refine Ab ⟨_,rfl,tV (congrArg _ ?_),trivial⟩
    rw [hi2]
    simp at h
    by_cases hlt : i < ps.length
    ·rw [h hlt];rfl
    ·rw [List.drop_eq_nil_of_le (by omega)];simp [BB]
  by_cases h1 : s = 1
  ·subst h1
   refine kg [.a,.a,.s] rfl (by simp) ?_
   exact Ad (J _ (by simp [AY])) ⟨rfl,Aq (by simp),rfl,rfl,trivial⟩ ⟨rfl,trivial⟩ rfl
  by_cases h2 : s = 2
  ·subst h2
   refine kg [.a,.a,.a,.s] rfl (by simp) ?_
   exact Ad (J _ (by simp [AY])) ⟨rfl,Aq (by simp),rfl,rfl,trivial⟩ ⟨rfl,trivial⟩ rfl
  by_cases h3 : s = 3
  ·subst h3
   refine kg [.a,.a,.a,.s] rfl (by simp) ?_
   exact Ad (J _ (by simp [AY])) ⟨rfl,Aq (by simp),rfl,rfl,trivial⟩ ⟨rfl,trivial⟩ rfl
  by_cases h4 : s = 4
  ·subst h4
   refine kg [.a,.a,.a,.a,.s] rfl (by simp) ?_
   exact Ad (J _ (by simp [AY])) ⟨rfl,Aq (by simp),rfl,rfl,trivial⟩ ⟨rfl,trivial⟩ rfl
  by_cases h5 : s = 5
  ·subst h5
   refine kg [.a,.a,.a,.a,.a,.a,.s] rfl (by simp) ?_
   exact Ad (J _ (by simp [AY])) ⟨rfl,Aq (by simp),rfl,rfl,trivial⟩ ⟨rfl,trivial⟩ rfl
  by_cases h6 : s = 6
  ·subst h6
   refine kg [.a,.a,.a,.a,.a,.a,.a,.s] rfl (by simp) ?_
   exact Ad (J _ (by simp [AY])) ⟨rfl,Aq (by simp),rfl,rfl,trivial⟩ ⟨rfl,trivial⟩ rfl
  by_cases h7 : s = 7
  ·subst h7
   refine kg [.a,.a,.a,.a,.a,.a,.a,.s] rfl (by simp) ?_
   exact Ad (J _ (by simp [AY])) ⟨rfl,Aq (by simp),rfl,rfl,trivial⟩ ⟨rfl,trivial⟩ rfl
  by_cases h8 : s = 8
  ·subst h8
   refine kg [.a,.a,.a,.a,.a,.a,.a,.a] rfl (by simp) ?_
   refine Ac rfl (fun _ => FG x) (by simp [Af]) ?_
   refine kg [.s] rfl (by simp) ?_
   exact Ad (J _ (by simp [AY])) ⟨rfl,Aq (by simp),rfl,rfl,trivial⟩ ⟨rfl,trivial⟩ rfl
  by_cases h9 : s = 9
  ·subst h9
   refine kg [.a,.a,.a,.a,.a,.a,.a,.a,.a] rfl (by simp) ?_
   refine Ac rfl (fun _ => IX n 0 99) (by simp [Af]) ?_
   refine kg [.s] rfl (by simp) ?_
   exact Ad (J _ (by simp [AY])) ⟨rfl,Aq (by simp),rfl,rfl,trivial⟩ ⟨rfl,trivial⟩ rfl
  refine kg [.f,.f,.f,.f,.f,.f,.f,.f,.f,.s] rfl (by simp [h1,h2,h3,h4,h5,h6,h7,h8,h9]) ?_
  exact Ad (J _ (by simp [AY,h1,h2,h3,h4,h5,h6,h7,h8,h9])) ⟨rfl,Aq (by simp),rfl,rfl,trivial⟩ ⟨rfl,trivial⟩ rfl
termination_by t => SizeOf.sizeOf t
decreasing_by
 have := List.sizeOf_lt_of_mem (List.mem_of_getElem? ht)
 simp_wf
 omega
def Dp (t : Ty) : Bool := decide (0 ≤ A4 t 12) && BC false t
theorem J0 (t : Ty) : PureC Tryz.prog 58 [.agg (dTyc t)] (.bool (Dp t)) := by
 refine Ae AI Tryz.func58 (by decide +kernel) rfl [1,2,3] rfl rfl ?_
 refine kg [] rfl (by simp) ?_
 refine Ac rfl (fun _ => Eg t 12 (by decide) (by decide)) (by simp) ?_
 refine kg [] rfl (by simp) ?_
 refine Ac rfl (fun _ => PL false t) (by simp [Af]) ?_
 refine kg [] rfl (by simp) ?_
 refine Ab ⟨_,rfl,tV (congrArg _ ?_),trivial⟩
 simp [Dp]
def Ct (s n : Int) (x : Str) (k : Nat) : Bool :=
 if s = 1 ∨ s = 5 then ((k : Int) == 0) && n == 0 && x == []
 else if s = 2 then ((k : Int) == 0) && n == 0 && CG x
 else if s = 3 then ((k : Int) == 0) && x == [] && Dk n (-1000000000) 1000000000
 else if s = 4 then ((k : Int) == 0) && x == [] && Dk n 0 1
 else if s = 6 then decide ((k : Int) ≤ 3) && n == 0 && BZ x
 else false
mutual
def Bp : Ty → Bool
 | .mk s n x ps => Ct s n x ps.length && AZ ps
def AZ : List Ty → Bool
 | [] => true
 | t :: r => Bp t && AZ r
end
theorem Tt : ∀ (t : Ty),PureC Tryz.prog 86 [.agg (dTyc t)] (.bool (Bp t))
 | .mk s n x ps => by
  refine Az fun hv => ?_
  simp [Bh,CP,dTyc,maxLen] at hv
  refine Ae AI Tryz.func86 (by decide +kernel) rfl [1,2,3] rfl rfl ?_
  have J : ∀ is : Bool,is = Ct s n x ps.length → DGo Tryz.prog Tryz.f86.ntmps (Db []) (Nt VI Tryz.f86.results.toList (.ret (.imm (.bool (Bp (.mk s n x ps)))) []))
    [.code (EQ Tryz.f86 4)] [(4,.imm (.bool is)),(3,.imm (.int .i64 ps.length)),(1,.ref 1 0)] [(1,some (.immb 50 4 (dTyc (.mk s n x ps))))] [2,3] := by
   intro is his
   refine kd [] rfl (by simp) ?_
   refine Ah (fun y : Nat × Bool => [(5,.imm (.int .i64 y.1)),(4,.imm (.bool y.2)),(3,.imm (.int .i64 ps.length)),(1,.ref 1 0)]) (fun _ => [(1,some (.immb 50 4 (dTyc (.mk s n x ps))))]) [2,3] (fun y => ps.length - y.1)
    (fun y => y.1 ≤ ps.length ∧ Bp (.mk s n x ps) = (y.2 && AZ (ps.drop y.1))) (0,is) ⟨Nat.zero_le _,by simp [Bp,his]⟩ ⟨rfl,rfl,rfl,rfl,trivial⟩ ⟨rfl,trivial⟩ rfl fun y hi ih => ?_
   obtain ⟨i,b⟩ := y
   obtain ⟨hi1,hi2⟩ := hi
   simp only at hi1 hi2
   refine kd [] rfl (by simp) ?_
   refine Aa rfl (fun h => ?_) (fun h => ?_)
   ·simp at h
    obtain ⟨t,ht⟩ := Ai (l := ps) (i := i) (by omega)
    rw [Aj ht] at hi2
    refine kd [] rfl (by simp) ?_
    refine ki rfl (c := dTyc t) (fun _ => ⟨by simp,by simpa using Ao ht,by simp⟩) (by simp) ?_
    refine kg [] rfl (by simp) ?_
    refine Ac rfl (fun _ => Tt t) (by simp) ?_
    refine kg [] rfl (by simp) ?_
    exact Ad (ih (i + 1,Bp t) (by simp only;omega) ⟨by simp only;omega,by simp only;rw [hi2,h.2];simp [AZ]⟩) ⟨Aq (Bq (by omega) (by omega)),rfl,rfl,rfl,trivial⟩ ⟨rfl,trivial⟩ rfl
   ·refine kd [] rfl (by simp) ?_
    refine Ab ⟨_,rfl,tV (congrArg _ ?_),trivial⟩
    rw [hi2]
    simp at h
    by_cases hlt : i < ps.length
    ·rw [h hlt];rfl
    ·rw [List.drop_eq_nil_of_le (by omega)];simp [AZ]
  by_cases h1 : s = 1
  ·subst h1
   refine kg [.a,.a,.s] rfl (by simp) ?_
   exact Ad (J _ (by simp [Ct])) ⟨rfl,Aq (by simp),rfl,trivial⟩ ⟨rfl,trivial⟩ rfl
  by_cases h2 : s = 2
  ·subst h2
   refine kg [.a,.a,.a] rfl (by simp) ?_
   refine Ac rfl (fun _ => Fk x) (by simp [Af]) ?_
   refine kg [.s] rfl (by simp) ?_
   exact Ad (J _ (by simp [Ct])) ⟨rfl,Aq (by simp),rfl,trivial⟩ ⟨rfl,trivial⟩ rfl
  by_cases h3 : s = 3
  ·subst h3
   refine kg [.a,.a,.a,.a] rfl (by simp) ?_
   refine Ac rfl (fun _ => IX n (-1000000000) 1000000000) (by simp [Af]) ?_
   refine kg [.s] rfl (by simp) ?_
   exact Ad (J _ (by simp [Ct])) ⟨rfl,Aq (by simp),rfl,trivial⟩ ⟨rfl,trivial⟩ rfl
  by_cases h4 : s = 4
  ·subst h4
   refine kg [.a,.a,.a,.a,.a] rfl (by simp) ?_
   refine Ac rfl (fun _ => IX n 0 1) (by simp [Af]) ?_
   refine kg [.s] rfl (by simp) ?_
   exact Ad (J _ (by simp [Ct])) ⟨rfl,Aq (by simp),rfl,trivial⟩ ⟨rfl,trivial⟩ rfl
  by_cases h5 : s = 5
  ·subst h5
   refine kg [.a,.a,.s] rfl (by simp) ?_
   exact Ad (J _ (by simp [Ct])) ⟨rfl,Aq (by simp),rfl,trivial⟩ ⟨rfl,trivial⟩ rfl
  by_cases h6 : s = 6
  ·subst h6
   refine kg [.a,.a,.a,.a,.a,.a] rfl (by simp) ?_
   refine Ac rfl (fun _ => FG x) (by simp [Af]) ?_
   refine kg [.s] rfl (by simp) ?_
   exact Ad (J _ (by simp [Ct])) ⟨rfl,Aq (by simp),rfl,trivial⟩ ⟨rfl,trivial⟩ rfl
  refine kg [.f,.f,.f,.f,.f,.f,.s] rfl (by simp [h1,h2,h3,h4,h5,h6]) ?_
  exact Ad (J _ (by simp [Ct,h1,h2,h3,h4,h5,h6])) ⟨rfl,Aq (by simp),rfl,trivial⟩ ⟨rfl,trivial⟩ rfl
termination_by t => SizeOf.sizeOf t
decreasing_by
 have := List.sizeOf_lt_of_mem (List.mem_of_getElem? ht)
 simp_wf
 omega
mutual
def AH : Tm → Int → Int → Int
 | .mk _ _ _ ks _,l,d => if l < 1 ∨ d < 1 then -1 else AU ks (l - 1) (d - 1)
def AU : List Tm → Int → Int → Int
 | [],l,_ => l
 | t :: r,l,d => if 0 ≤ l then AU r (AH t l d) d else l
end
mutual
theorem FI : ∀ (t : Tm) (l d : Int),-1 ≤ AH t l d ∧ (-1 ≤ l → AH t l d ≤ l)
 | .mk _ _ _ ks _,l,d => by
  simp only [AH]
  by_cases h : l < 1 ∨ d < 1
  ·rw [if_pos h];omega
  ·rw [if_neg h]
   have := Kv ks (l - 1) (d - 1) (by omega)
   omega
theorem Kv : ∀ (ts : List Tm) (l d : Int),-1 ≤ l → -1 ≤ AU ts l d ∧ AU ts l d ≤ l
 | [],l,d,h => by simp [AU,h]
 | t :: r,l,d,h => by
  simp only [AU]
  by_cases h0 : 0 ≤ l
  ·rw [if_pos h0]
   have h1 := FI t l d
   have h2 := Kv r (AH t l d) d h1.1
   omega
  ·rw [if_neg h0];omega
end
theorem R8 : ∀ (t : Tm) (l d : Int),-9223372036854775808 ≤ l → l ≤ 9223372036854775807 → -9223372036854775807 ≤ d → d ≤ 9223372036854775807 → PureC Tryz.prog 144 [.agg (Bz t),.int .i64 l,.int .i64 d] (.int .i64 (AH t l d))
 | .mk op n x ks ps,l,d,hl0,hl1,hd0,hd1 => by
  refine Az fun hv => ?_
  simp [Bh,CP,Bz,maxLen] at hv
  refine Ae AI Tryz.func144 (by decide +kernel) rfl [1,2,3] rfl rfl ?_
  refine kg [] rfl (by simp) ?_
  refine Aa rfl (fun h => ?_) (fun h => ?_)
  ·refine kd [] rfl (by simp) ?_
   refine Ab ⟨_,rfl,tV (congrArg _ ?_),trivial⟩
   simp at h
   simp only [AH];rw [if_pos (by omega)]
  simp at h
  refine kd [] rfl (by simp) ?_
  refine Ah (fun x : Nat × Int => [(7,.imm (.int .i64 x.1)),(1,.imm (.int .i64 x.2)),(2,.imm (.int .i64 d)),(3,.ref 1 0)]) (fun _ => [(1,some (.immb 141 5 (Bz (.mk op n x ks ps))))]) [2,3] (fun x => ks.length - x.1)
   (fun y => y.1 ≤ ks.length ∧ AH (.mk op n x ks ps) l d = AU (ks.drop y.1) y.2 (d - 1) ∧ -1 ≤ y.2 ∧ y.2 < l) (0,l - 1)
   ⟨Nat.zero_le _,by simp only [AH,List.drop_zero];rw [if_neg (by omega)],by simp only;omega,by simp only;omega⟩ ⟨rfl,Aq (Bq (by omega) (by omega)),rfl,rfl,trivial⟩ ⟨rfl,trivial⟩ rfl fun y hi ih => ?_
  obtain ⟨i,m⟩ := y
  obtain ⟨hi1,hi2,hi3,hi4⟩ := hi
  simp only at hi1 hi2 hi3 hi4
  refine kd [] rfl (by simp) ?_
  refine Aa rfl (fun h => ?_) (fun h => ?_)
  ·simp at h
   obtain ⟨t,ht⟩ := Ai (l := ks) (i := i) (by omega)
   rw [Aj ht] at hi2
   refine kd [] rfl (by simp) ?_
   refine ki rfl (c := Bz t) (fun _ => ⟨by simp,by simpa using FD ht,by simp⟩) (by simp) ?_
   refine kg [] rfl (by simp) ?_
   have hw : IntKind.i64.wrap (d - 1) = d - 1 := Bq (by omega) (by omega)
   refine Ac rfl (v := .int .i64 (AH t m (d - 1))) (fun _ => by rw [hw];exact R8 t m (d - 1) (by omega) (by omega) (by omega) (by omega)) (by simp) ?_
   refine kg [] rfl (by simp) ?_
   have hb := FI t m (d - 1)
   exact Ad (ih (i + 1,AH t m (d - 1)) (by simp only;omega) ⟨by simp only;omega,by simp only;rw [hi2];simp only [AU];rw [if_pos h.2],by simp only;omega,by simp only;omega⟩) ⟨Aq (Bq (by omega) (by omega)),rfl,rfl,rfl,trivial⟩ ⟨rfl,trivial⟩ rfl
  ·refine kd [] rfl (by simp) ?_
   refine Ab ⟨_,rfl,tV (congrArg _ ?_),trivial⟩
   rw [hi2]
   simp at h
   by_cases hlt : i < ks.length
   ·obtain ⟨t,ht⟩ := Ai hlt
    rw [Aj ht];simp only [AU];rw [if_neg (by omega)]
   ·rw [List.drop_eq_nil_of_le (by omega)];simp [AU]
termination_by t => SizeOf.sizeOf t
decreasing_by
 have := List.sizeOf_lt_of_mem (List.mem_of_getElem? ht)
 simp_wf
 omega
def CU (n : Int) (x : Str) (p : Nat) (fn ft fp : Bool) : Bool := (fn || n == 0) && (ft || x == []) && (fp || ((p : Int) == 0))
theorem A9 (op n : Int) (x : Str) (ks : List Tm) (ps : List Ty) (a b c : Bool) : PureC Tryz.prog 177 [.agg (Bz (.mk op n x ks ps)),.bool a,.bool b,.bool c] (.bool (CU n x ps.length a b c)) := by
 refine Ae AI Tryz.func177 (by decide +kernel) rfl [1,2,3] rfl rfl ?_
 refine kg [] rfl (by cases a <;> cases b <;> cases c <;> simp) ?_
 refine Ab ⟨_,rfl,tV (congrArg _ ?_),trivial⟩
 cases a <;> cases b <;> cases c <;> simp [CU]
end Go.Hk
namespace Go.Hk
def K0 (i j k : Nat) : Nat := bif Nat.beq k i then j else bif Nat.beq k j then i else k
theorem DW (i j k : Nat) : K0 i j (K0 i j k) = k := by
 have hb : ∀ a b : Nat,Nat.beq a b = decide (a = b) := fun a b => by
  cases h : Nat.beq a b with
  | true => simp [Nat.eq_of_beq_eq_true h]
  | false =>
   have : a ≠ b := fun e => by subst e;simp at h
   simp [this]
 unfold K0
 simp only [hb]
 by_cases h1 : k = i
 ·subst h1
  simp only [decide_true,cond_true]
  by_cases h2 : j = k
  ·subst h2;simp
  ·simp [h2]
 ·by_cases h2 : k = j
  ·subst h2;simp [h1]
  ·simp [h1,h2]
def OK (ρ : Nat → Nat) : St → St
 | [] => []
 | (i,some b) :: r => (ρ i,some (OL ρ b)) :: OK ρ r
 | (i,none) :: r => (ρ i,none) :: OK ρ r
theorem Ds {i j : Nat} {k : Nat} {b : Blk} : ∀ {st : St},Al (OK (K0 i j) st) k b → ∃ b0,Al st (K0 i j k) b0 ∧ b = OL (K0 i j) b0
 | [],h => by simp [OK,Al,lk] at h
 | (a,some x) :: r,h => by
  simp only [OK] at h
  unfold Al at h ⊢
  by_cases ha : K0 i j a = k
  ·subst ha
   rw [lk_cons_self] at h
   rw [DW,lk_cons_self]
   cases h;exact ⟨x,rfl,rfl⟩
  ·rw [lk_cons_ne _ _ ha] at h
   rw [lk_cons_ne _ _ (fun e => ha (by rw [e,DW]))]
   exact Ds h
 | (a,none) :: r,h => by
  simp only [OK] at h
  unfold Al at h ⊢
  by_cases ha : K0 i j a = k
  ·subst ha
   rw [lk_cons_self] at h
   cases h
  ·rw [lk_cons_ne _ _ ha] at h
   rw [lk_cons_ne _ _ (fun e => ha (by rw [e,DW]))]
   exact Ds h
theorem B2 {P : Program} {n : Nat} {F : List Nat} {Q : DQ} {env : Env} {st : St} {ids : List Nat} {todo : List DI} (i j : Nat) (hF : (memN F i || memN F j) = false)
  (h : DGo P n F Q todo (U3 (K0 i j) env) (OK (K0 i j) st) (ids.map (K0 i j))) : DGo P n F Q todo env st ids := by
 intro b cs I μ a w items hd hc
 have hn : ∀ k g,μ k = some g → (fun k => μ (K0 i j k)) (K0 i j k) = some g := fun k g hg => by simp only [DW];exact hg
 have hE : Ext I μ st w I (fun k => μ (K0 i j k)) (OK (K0 i j) st) w :=
  {imm := Imm.le_refl I,os := rfl,tape := rfl,output := rfl,size := Nat.le_refl _,block := fun _ _ _ => rfl,
     fresh := fun b _ ⟨k,b',g,h1,h2,h3⟩ => let ⟨b0,q,_⟩ := Ds h1;⟨_,b0,g,q,h2,h3⟩,old := fun _ _ _ => rfl }
 have hc' : Conc n I (fun k => μ (K0 i j k)) (U3 (K0 i j) env) (OK (K0 i j) st) (ids.map (K0 i j)) a w :=
  {imm := hc.imm
   blk := fun k b' hl => by
    obtain ⟨b0,h1,rfl⟩ := Ds hl
    obtain ⟨g,hg,hr⟩ := hc.blk _ b0 h1
    exact ⟨g,hg,hr.ren fun x _ g hg => hn x g hg⟩
   apart := fun k b' g m hl hg hk => by
    obtain ⟨b0,h1,rfl⟩ := Ds hl
    exact hc.apart _ b0 g m h1 hg hk
   inj := fun k k' bi bj gi gj m hi hj hgi hgj hki hkj => by
    obtain ⟨b1,h1,_⟩ := Ds hi
    obtain ⟨b2,h2,_⟩ := Ds hj
    have := hc.inj _ _ b1 b2 gi gj m h1 h2 hgi hgj hki hkj
    have e := congrArg (K0 i j) this
    rwa [DW,DW] at e
   nodup := by
    have := hc.nodup
    rw [List.nodup_iff_pairwise_ne] at this ⊢
    exact List.Pairwise.map _ (fun x y hxy e => hxy (by have e := congrArg (K0 i j) e;rwa [DW,DW] at e)) this
   idsFree := fun k hk => by
    obtain ⟨x,hx,rfl⟩ := List.mem_map.1 hk
    show μ (K0 i j (K0 i j x)) = none
    rw [DW];exact hc.idsFree x hx
   size := hc.size
   env := fun t d hl => by
    obtain ⟨d0,h1,rfl⟩ := Tl hl
    exact (hc.env t d0 h1).ren fun x _ g hg => hn x g hg
   defers := hc.defers.ext hE }
 simp only [Bool.or_eq_false_iff] at hF
 have hfix : ∀ k ∈ F,K0 i j k = k := fun k hk => by
  have h1 : Nat.beq k i = false := by
   cases hb : Nat.beq k i with
   | false => rfl
   | true => rw [← Nat.eq_of_beq_eq_true hb,memN_iff.2 hk] at hF;cases hF.1
  have h2 : Nat.beq k j = false := by
   cases hb : Nat.beq k j with
   | false => rfl
   | true => rw [← Nat.eq_of_beq_eq_true hb,memN_iff.2 hk] at hF;cases hF.2
  simp [K0,h1,h2]
 refine (h b cs I _ a w items hd hc').mono fun e a' w' hp => ?_
 refine hp.back (fun k hk g hg => by show μ (K0 i j k) = some g;rw [hfix k hk];exact hg) ?_
 exact hE
end Go.Hk
namespace Go.Hk
open Go.Proofs
mutual
def Ak : Ty → Nat
 | .mk _ _ _ ps => 1 + Ag ps
def Ag : List Ty → Nat
 | [] => 0
 | t :: r => Ak t + Ag r
end
mutual
theorem Cy : ∀ (t : Ty) (l : Int),0 ≤ A4 t l → A4 t l + Ak t = l
 | .mk _ _ _ ps,l,h => by
  simp only [A4] at h ⊢
  by_cases h0 : l < 1
  ·rw [if_pos h0] at h;omega
  ·rw [if_neg h0] at h ⊢
   have := Gy ps (l - 1) h
   simp only [Ak];omega
theorem Gy : ∀ (ts : List Ty) (l : Int),0 ≤ AS ts l → AS ts l + Ag ts = l
 | [],l,h => by simp [AS,Ag]
 | t :: r,l,h => by
  simp only [AS] at h ⊢
  by_cases h0 : 0 ≤ l
  ·rw [if_pos h0] at h ⊢
   have h1 := Gy r (A4 t l) h
   have h2 := Gz r (A4 t l) (FH t l).1
   have h3 := Cy t l (by omega)
   simp only [Ag];omega
  ·rw [if_neg h0] at h;omega
end
mutual
def A2 : Ty → List Str
 | .mk s _ x ps => if s = 2 then [x] else As ps
def As : List Ty → List Str
 | [] => []
 | t :: r => A2 t ++ As r
end
mutual
theorem Ie : ∀ t : Ty,(A2 t).length ≤ Ak t
 | .mk s _ x ps => by
  simp only [A2,Ak]
  split
  ·simp
  ·have := Fa ps;omega
theorem Fa : ∀ ts : List Ty,(As ts).length ≤ Ag ts
 | [] => by simp [As]
 | t :: r => by
  have h1 := Ie t
  have h2 := Fa r
  simp only [As,Ag,List.length_append];omega
end
theorem C5 (a b : List Ty) : As (a ++ b) = As a ++ As b := by
 induction a with
 | nil => rfl
 | cons t r ih => simp [As,ih]
theorem AO (a b : List Ty) : Ag (a ++ b) = Ag a + Ag b := by
 induction a with
 | nil => simp [Ag]
 | cons t r ih => simp [Ag,ih];omega
theorem Bk {ps : List Ty} {i : Nat} {t : Ty} (h : ps[i]? = some t) : Ag (ps.take i) + Ak t ≤ Ag ps := by
 have e : ps = ps.take i ++ t :: ps.drop (i + 1) := by rw [← Aj h,List.take_append_drop]
 have := congrArg Ag e
 rw [AO] at this
 simp only [Ag] at this
 omega
theorem MI (l : List Str) : ∀ c ∈ Ck l,c.length = 1 := by
 intro c hc
 simp only [Ck,List.mem_map] at hc
 obtain ⟨a,_,rfl⟩ := hc
 rfl
theorem He : ∀ (t : Ty),Ak t ≤ 1000000 → PureC Tryz.prog 20 [.agg (dTyc t)] (.sl (Ck (A2 t)))
 | .mk s n x ps,hN => by
  refine Az fun hv => ?_
  simp [Bh,CP,dTyc,maxLen] at hv
  refine Ae AI Tryz.func20 (by decide +kernel) rfl [1,2,3,4,5] rfl rfl ?_
  refine kg [] rfl (by simp) ?_
  refine Aa rfl (fun h => ?_) (fun h => ?_)
  ·refine kd [] rfl (by simp) ?_
   refine Ab ⟨_,rfl,tV (congrArg _ ?_),trivial⟩
   simp at h
   simp [A2,h,Ck]
  simp at h
  have hNp : Ag ps ≤ 1000000 := by simp only [Ak] at hN;omega
  refine kd [] rfl (by simp) ?_
  refine Ah (fun y : Nat × Bool × List (List V) => [(4,.imm (.int .i64 y.1)),(3,match y.2.1 with | false => .nils | true => .own 2 y.2.2.length),(1,.ref 1 0)])
   (fun y => match y.2.1 with | false => [(1,some (.immb 50 4 (dTyc (.mk s n x ps))))] | true => [(2,some (.row 9 1 y.2.2)),(1,some (.immb 50 4 (dTyc (.mk s n x ps))))]) [3,4] (fun y => ps.length - y.1)
   (fun y => y.1 ≤ ps.length ∧ Ck (As (ps.take y.1)) = y.2.2 ∧ (y.2.1 = false → y.2.2 = [])) (0,false,[]) ⟨Nat.zero_le _,rfl,fun _ => rfl⟩ ⟨rfl,rfl,rfl,trivial⟩ ⟨rfl,trivial⟩ rfl fun y hi ih => ?_
  obtain ⟨i,b,es⟩ := y
  obtain ⟨hi1,hi2,hi3⟩ := hi
  simp only at hi1 hi2 hi3
  cases b with
  | false =>
   have hi3 := hi3 rfl
   subst hi3
   refine kd [] rfl (by simp) ?_
   refine Aa rfl (fun h => ?_) (fun h => ?_)
   ·simp at h
    obtain ⟨t,ht⟩ := Ai h
    have hnt := Bk ht
    have hlt := Ie t
    have hl2 := Fa (ps.take i)
    have hlen := congrArg List.length hi2
    simp at hlen
    refine kd [] rfl (by simp) ?_
    refine ki rfl (c := dTyc t) (fun _ => ⟨by simp,by simpa using Ao ht,by simp⟩) (by simp) ?_
    refine kg [] rfl (by simp) ?_
    refine Ac rfl (fun _ => He t (by omega)) (by simp) ?_
    refine kg [] rfl (by simp) ?_
    refine BI AI rfl ⟨MI _,by simp [maxLen];omega,by simp;omega,trivial⟩ ?_
    refine kg [] rfl (by simp) ?_
    refine B2 2 3 rfl ?_
    exact Ad (ih (i + 1,true,[] ++ Ck (A2 t)) (by simp only;omega) ⟨by simp only;omega,by simp only;rw [AM ht,C5,CK,hi2];simp [As],fun h => by cases h⟩) ⟨Aq (Bq (by simp only;omega) (by simp only;omega)),rfl,rfl,trivial⟩ ⟨rfl,rfl,trivial⟩ rfl
   ·refine kd [] rfl (by simp) ?_
    refine Ab ⟨_,rfl,?_,trivial⟩
    simp at h
    rw [List.take_of_length_le (by omega)] at hi2
    simp only [A2]
    rw [if_neg (by assumption),hi2]
    rfl
  | true =>
   refine kd [] rfl (by simp) ?_
   refine Aa rfl (fun h => ?_) (fun h => ?_)
   ·simp at h
    obtain ⟨t,ht⟩ := Ai h
    have hnt := Bk ht
    have hlt := Ie t
    have hl2 := Fa (ps.take i)
    have hlen := congrArg List.length hi2
    simp at hlen
    refine kd [] rfl (by simp) ?_
    refine ki rfl (c := dTyc t) (fun _ => ⟨by simp,by simpa using Ao ht,by simp⟩) (by simp) ?_
    refine kg [] rfl (by simp) ?_
    refine Ac rfl (fun _ => He t (by omega)) (by simp) ?_
    refine kg [] rfl (by simp) ?_
    refine BI AI rfl ⟨MI _,by simp [maxLen];omega,by simp;omega,trivial⟩ ?_
    refine kg [] rfl (by simp) ?_
    refine B2 2 3 rfl ?_
    exact Ad (ih (i + 1,true,es ++ Ck (A2 t)) (by simp only;omega) ⟨by simp only;omega,by simp only;rw [AM ht,C5,CK,hi2];simp [As],fun h => by cases h⟩) ⟨Aq (Bq (by simp only;omega) (by simp only;omega)),rfl,rfl,trivial⟩ ⟨rfl,rfl,trivial⟩ rfl
   ·refine BL 2 rfl ?_
    refine kd [] rfl (by simp) ?_
    refine Ab ⟨_,rfl,?_,trivial⟩
    simp at h
    rw [List.take_of_length_le (by omega)] at hi2
    simp only [A2]
    rw [if_neg (by assumption),hi2]
    rfl
termination_by t => SizeOf.sizeOf t
decreasing_by
 all_goals
  have := List.sizeOf_lt_of_mem (List.mem_of_getElem? ht)
  simp_wf
  omega
def A0 (pre : List Str) : List Str → Bool
 | [] => true
 | x :: r => !DO pre x && A0 (pre ++ [x]) r
def AE (l : List Str) : Bool := A0 [] l
theorem Vm (l : List Str) (n : Nat) : (Ck l).take n = Ck (l.take n) := by simp [Ck,List.map_take]
theorem Kr (l : List Str) : PureC Tryz.prog 83 [.sl (Ck l)] (.bool (AE l)) := by
 refine Az fun hv => ?_
 simp [Bh,CP,maxLen] at hv
 refine Ae AI Tryz.func83 (by decide +kernel) rfl [1,2] rfl rfl ?_
 refine kg [] rfl (by simp) ?_
 refine Ah (fun i : Nat => [(3,.imm (.int .i64 i)),(0,.imm (.sl (Ck l)))]) (fun _ => []) [1] (fun i => l.length - i) (fun i => i ≤ l.length ∧ AE l = A0 (l.take i) (l.drop i)) 0
  ⟨Nat.zero_le _,rfl⟩ ⟨rfl,rfl,trivial⟩ trivial rfl fun i hi ih => ?_
 refine kd [] rfl (by simp) ?_
 refine Aa rfl (fun h => ?_) (fun h => ?_)
 ·simp at h
  obtain ⟨t,ht⟩ := Ai h
  have e := hi.2
  rw [Aj ht] at e
  refine kd [] rfl (by simp;exact ⟨by omega,MI l⟩) ?_
  refine ki rfl (c := [.str t]) (fun _ => ⟨by simp,by simpa using Ro ht,rfl⟩) (by simp) ?_
  refine kg [] rfl (by simp) ?_
  refine Ac rfl (v := .bool (DO (l.take i) t)) (fun _ => ?_) (by simp) ?_
  ·have := X9 (l.take i) t
   rw [← Vm] at this
   exact this
  refine kg [] rfl (by first | exact ⟨by kernel_rfl,trivial⟩ | simp) ?_
  refine Aa rfl (fun h => ?_) (fun h => ?_)
  ·refine kd [] rfl (by simp) ?_
   refine Ab ⟨_,rfl,tV (congrArg _ ?_),trivial⟩
   rw [e];simp [A0,h]
  ·refine kd [] rfl (by simp) ?_
   exact Ad (ih (i + 1) (by omega) ⟨by omega,by rw [e,AM ht];simp [A0,h]⟩) ⟨Aq (Bq (by omega) (by omega)),rfl,trivial⟩ trivial rfl
 ·refine kd [] rfl (by simp) ?_
  refine Ab ⟨_,rfl,tV (congrArg _ ?_),trivial⟩
  simp at h
  rw [hi.2,List.drop_eq_nil_of_le (by omega)];rfl
def CX (t : Ty) : Bool := decide (0 ≤ A4 t 12) && Bp t && AE (A2 t)
theorem X6 (t : Ty) : PureC Tryz.prog 60 [.agg (dTyc t)] (.bool (CX t)) := by
 refine Ae AI Tryz.func60 (by decide +kernel) rfl [1,2,3] rfl rfl ?_
 refine kg [] rfl (by simp) ?_
 refine Ac rfl (fun _ => Hd t 12 (by decide) (by decide)) (by simp) ?_
 refine kg [] rfl (by simp) ?_
 refine Ac rfl (fun _ => Tt t) (by simp [Af]) ?_
 refine kg [] rfl (by simp) ?_
 refine Ac rfl (v := .sl (Ck (A2 t))) (fun hc => He t ?_) (by simp [Af]) ?_
 ·simp [Af] at hc
  have := Cy t 12 hc.1
  omega
 refine kg [] rfl (by simp) ?_
 refine Ac rfl (fun _ => Kr (A2 t)) (by simp [Af]) ?_
 refine kg [] rfl (by simp) ?_
 refine Ab ⟨_,rfl,tV (congrArg _ ?_),trivial⟩
 simp [CX]
def Bw (op n : Int) (x : Str) (k p : Nat) : Bool :=
 if op = 1 then ((k : Int) == 0) && CU n x p true false false && Dk n (-1000000000) 1000000000
 else if op = 2 then ((k : Int) == 0) && CU n x p true false false && Dk n 0 1
 else if op = 3 ∨ op = 21 ∨ op = 25 ∨ op = 28 then ((k : Int) == 0) && CU n x p false false false
 else if op = 4 then ((k : Int) == 0) && CU n x p false true false && CG x
 else if op = 5 ∨ op = 27 then ((k : Int) == 1) && CU n x p false true false && CG x
 else if op = 7 then ((k : Int) == 2) && CU n x p false true false && CG x
 else if op = 8 then ((k : Int) == 3) && CU n x p false false false
 else if op = 14 then decide ((k : Int) ≤ 3) && CU n x p false true false && BZ x
 else if op = 15 then Dk p 1 5 && ((k : Int) == 1 + (p : Int)) && CU n x p false false true
 else if op = 16 ∨ op = 17 ∨ op = 19 ∨ op = 20 ∨ op = 23 ∨ op = 26 then ((k : Int) == 1) && CU n x p false false false
 else if op = 24 then ((k : Int) == 1) && CU n x p true false false && Dk n 0 3
 else if op = 6 ∨ op = 9 ∨ op = 10 ∨ op = 11 ∨ op = 12 ∨ op = 13 ∨ op = 18 ∨ op = 22 then ((k : Int) == 2) && CU n x p false false false
 else false
set_option maxHeartbeats 1000000 in
theorem XS (op n : Int) (x : Str) (ks : List Tm) (ps : List Ty) : PureC Tryz.prog 165 [.agg (Bz (.mk op n x ks ps))] (.bool (Bw op n x ks.length ps.length)) := by
 refine Az fun hv => ?_
 simp [Bh,CP,Bz,maxLen] at hv
 refine Ae AI Tryz.func165 (by decide +kernel) rfl [1,2,3] rfl rfl ?_
 by_cases h1 : op = 1
 ·subst h1
  refine kg [.a] rfl (by simp) ?_
  refine Ac rfl (fun _ => A9 1 n x ks ps true false false) (by simp [Af]) ?_
  refine kg [] rfl (by simp) ?_
  refine Ac rfl (fun _ => IX n (-1000000000) 1000000000) (by simp [Af]) ?_
  refine kg [] rfl (by simp) ?_
  exact Ab ⟨_,rfl,tV (congrArg _ (by simp [Bw])),trivial⟩
 by_cases h2 : op = 2
 ·subst h2
  refine kg [.a,.a] rfl (by simp) ?_
  refine Ac rfl (fun _ => A9 2 n x ks ps true false false) (by simp [Af]) ?_
  refine kg [] rfl (by simp) ?_
  refine Ac rfl (fun _ => IX n 0 1) (by simp [Af]) ?_
  refine kg [] rfl (by simp) ?_
  exact Ab ⟨_,rfl,tV (congrArg _ (by simp [Bw])),trivial⟩
 by_cases h3 : op = 3
 ·subst h3
  refine kg [.a,.a,.a,.a] rfl (by simp) ?_
  refine Ac rfl (fun _ => A9 3 n x ks ps false false false) (by simp [Af]) ?_
  refine kg [] rfl (by simp) ?_
  exact Ab ⟨_,rfl,tV (congrArg _ (by simp [Bw])),trivial⟩
 by_cases h21 : op = 21
 ·subst h21
  refine kg [.a,.a,.a,.a,.a] rfl (by simp) ?_
  refine Ac rfl (fun _ => A9 21 n x ks ps false false false) (by simp [Af]) ?_
  refine kg [] rfl (by simp) ?_
  exact Ab ⟨_,rfl,tV (congrArg _ (by simp [Bw])),trivial⟩
 by_cases h25 : op = 25
 ·subst h25
  refine kg [.a,.a,.a,.a,.a,.a] rfl (by simp) ?_
  refine Ac rfl (fun _ => A9 25 n x ks ps false false false) (by simp [Af]) ?_
  refine kg [] rfl (by simp) ?_
  exact Ab ⟨_,rfl,tV (congrArg _ (by simp [Bw])),trivial⟩
 by_cases h28 : op = 28
 ·subst h28
  refine kg [.a,.a,.a,.a,.a,.a] rfl (by simp) ?_
  refine Ac rfl (fun _ => A9 28 n x ks ps false false false) (by simp [Af]) ?_
  refine kg [] rfl (by simp) ?_
  exact Ab ⟨_,rfl,tV (congrArg _ (by simp [Bw])),trivial⟩
 by_cases h4 : op = 4
 ·subst h4
  refine kg [.a,.a,.a,.a,.a,.a,.a] rfl (by simp) ?_
  refine Ac rfl (fun _ => A9 4 n x ks ps false true false) (by simp [Af]) ?_
  refine kg [] rfl (by simp) ?_
  refine Ac rfl (fun _ => Fk x) (by simp [Af]) ?_
  refine kg [] rfl (by simp) ?_
  exact Ab ⟨_,rfl,tV (congrArg _ (by simp [Bw])),trivial⟩
 by_cases h5 : op = 5
 ·subst h5
  refine kg [.a,.a,.a,.a,.a,.a,.a,.a,.a] rfl (by simp) ?_
  refine Ac rfl (fun _ => A9 5 n x ks ps false true false) (by simp [Af]) ?_
  refine kg [] rfl (by simp) ?_
  refine Ac rfl (fun _ => Fk x) (by simp [Af]) ?_
  refine kg [] rfl (by simp) ?_
  exact Ab ⟨_,rfl,tV (congrArg _ (by simp [Bw])),trivial⟩
 by_cases h27 : op = 27
 ·subst h27
  refine kg [.a,.a,.a,.a,.a,.a,.a,.a,.a] rfl (by simp) ?_
  refine Ac rfl (fun _ => A9 27 n x ks ps false true false) (by simp [Af]) ?_
  refine kg [] rfl (by simp) ?_
  refine Ac rfl (fun _ => Fk x) (by simp [Af]) ?_
  refine kg [] rfl (by simp) ?_
  exact Ab ⟨_,rfl,tV (congrArg _ (by simp [Bw])),trivial⟩
 by_cases h7 : op = 7
 ·subst h7
  refine kg [.a,.a,.a,.a,.a,.a,.a,.a,.a,.a] rfl (by simp) ?_
  refine Ac rfl (fun _ => A9 7 n x ks ps false true false) (by simp [Af]) ?_
  refine kg [] rfl (by simp) ?_
  refine Ac rfl (fun _ => Fk x) (by simp [Af]) ?_
  refine kg [] rfl (by simp) ?_
  exact Ab ⟨_,rfl,tV (congrArg _ (by simp [Bw])),trivial⟩
 by_cases h8 : op = 8
 ·subst h8
  refine kg [.a,.a,.a,.a,.a,.a,.a,.a,.a,.a,.a] rfl (by simp) ?_
  refine Ac rfl (fun _ => A9 8 n x ks ps false false false) (by simp [Af]) ?_
  refine kg [] rfl (by simp) ?_
  exact Ab ⟨_,rfl,tV (congrArg _ (by simp [Bw])),trivial⟩
 by_cases h14 : op = 14
 ·subst h14
  refine kg [.a,.a,.a,.a,.a,.a,.a,.a,.a,.a,.a,.a] rfl (by simp) ?_
  refine Ac rfl (fun _ => A9 14 n x ks ps false true false) (by simp [Af]) ?_
  refine kg [] rfl (by simp) ?_
  refine Ac rfl (fun _ => FG x) (by simp [Af]) ?_
  refine kg [] rfl (by simp) ?_
  exact Ab ⟨_,rfl,tV (congrArg _ (by simp [Bw])),trivial⟩
 by_cases h15 : op = 15
 ·subst h15
  refine kg [.a,.a,.a,.a,.a,.a,.a,.a,.a,.a,.a,.a,.a] rfl (by simp) ?_
  refine Ac rfl (v := .bool (Dk ps.length 1 5)) (fun _ => by have := IX ps.length 1 5;simpa using this) (by simp [Af]) ?_
  refine kg [] rfl (by simp) ?_
  refine Ac rfl (fun _ => A9 15 n x ks ps false false true) (by simp [Af]) ?_
  refine kg [] rfl (by simp) ?_
  have hw : IntKind.i64.wrap (1 + (ps.length : Int)) = 1 + ps.length ∨ Dk ps.length 1 5 = false := by
   by_cases hp : ps.length ≤ 5
   ·exact .inl (Bq (by omega) (by omega))
   ·exact .inr (by simp [Dk];omega)
  refine Ab ⟨_,rfl,tV (congrArg _ ?_),trivial⟩
  rcases hw with hw | hw <;> simp [Bw,hw]
 by_cases h16 : op = 16
 ·subst h16
  refine kg [.a,.a,.a,.a,.a,.a,.a,.a,.a,.a,.a,.a,.a,.a,.a] rfl (by simp) ?_
  refine Ac rfl (fun _ => A9 16 n x ks ps false false false) (by simp [Af]) ?_
  refine kg [] rfl (by simp) ?_
  exact Ab ⟨_,rfl,tV (congrArg _ (by simp [Bw])),trivial⟩
 by_cases h17 : op = 17
 ·subst h17
  refine kg [.a,.a,.a,.a,.a,.a,.a,.a,.a,.a,.a,.a,.a,.a,.a,.a] rfl (by simp) ?_
  refine Ac rfl (fun _ => A9 17 n x ks ps false false false) (by simp [Af]) ?_
  refine kg [] rfl (by simp) ?_
  exact Ab ⟨_,rfl,tV (congrArg _ (by simp [Bw])),trivial⟩
 by_cases h19 : op = 19
 ·subst h19
  refine kg [.a,.a,.a,.a,.a,.a,.a,.a,.a,.a,.a,.a,.a,.a,.a,.a,.a] rfl (by simp) ?_
  refine Ac rfl (fun _ => A9 19 n x ks ps false false false) (by simp [Af]) ?_
  refine kg [] rfl (by simp) ?_
  exact Ab ⟨_,rfl,tV (congrArg _ (by simp [Bw])),trivial⟩
 by_cases h20 : op = 20
 ·subst h20
  refine kg [.a,.a,.a,.a,.a,.a,.a,.a,.a,.a,.a,.a,.a,.a,.a,.a,.a,.a] rfl (by simp) ?_
  refine Ac rfl (fun _ => A9 20 n x ks ps false false false) (by simp [Af]) ?_
  refine kg [] rfl (by simp) ?_
  exact Ab ⟨_,rfl,tV (congrArg _ (by simp [Bw])),trivial⟩
 by_cases h23 : op = 23
 ·subst h23
  refine kg [.a,.a,.a,.a,.a,.a,.a,.a,.a,.a,.a,.a,.a,.a,.a,.a,.a,.a,.a] rfl (by simp) ?_
  refine Ac rfl (fun _ => A9 23 n x ks ps false false false) (by simp [Af]) ?_
  refine kg [] rfl (by simp) ?_
  exact Ab ⟨_,rfl,tV (congrArg _ (by simp [Bw])),trivial⟩
 by_cases h26 : op = 26
 ·subst h26
  refine kg [.a,.a,.a,.a,.a,.a,.a,.a,.a,.a,.a,.a,.a,.a,.a,.a,.a,.a,.a] rfl (by simp) ?_
  refine Ac rfl (fun _ => A9 26 n x ks ps false false false) (by simp [Af]) ?_
  refine kg [] rfl (by simp) ?_
  exact Ab ⟨_,rfl,tV (congrArg _ (by simp [Bw])),trivial⟩
 by_cases h24 : op = 24
 ·subst h24
  refine kg [.a,.a,.a,.a,.a,.a,.a,.a,.a,.a,.a,.a,.a,.a,.a,.a,.a,.a,.a,.a] rfl (by simp) ?_
  refine Ac rfl (fun _ => A9 24 n x ks ps true false false) (by simp [Af]) ?_
  refine kg [] rfl (by simp) ?_
  refine Ac rfl (fun _ => IX n 0 3) (by simp [Af]) ?_
  refine kg [] rfl (by simp) ?_
  exact Ab ⟨_,rfl,tV (congrArg _ (by simp [Bw])),trivial⟩
 by_cases h6 : op = 6
 ·subst h6
  refine kg [.a,.a,.a,.a,.a,.a,.a,.a,.a,.a,.a,.a,.a,.a,.a,.a,.a,.a,.a,.a,.a,.a] rfl (by simp) ?_
  refine Ac rfl (fun _ => A9 6 n x ks ps false false false) (by simp [Af]) ?_
  refine kg [] rfl (by simp) ?_
  exact Ab ⟨_,rfl,tV (congrArg _ (by simp [Bw])),trivial⟩
 by_cases h9 : op = 9
 ·subst h9
  refine kg [.a,.a,.a,.a,.a,.a,.a,.a,.a,.a,.a,.a,.a,.a,.a,.a,.a,.a,.a,.a,.a,.a,.a] rfl (by simp) ?_
  refine Ac rfl (fun _ => A9 9 n x ks ps false false false) (by simp [Af]) ?_
  refine kg [] rfl (by simp) ?_
  exact Ab ⟨_,rfl,tV (congrArg _ (by simp [Bw])),trivial⟩
 by_cases h10 : op = 10
 ·subst h10
  refine kg [.a,.a,.a,.a,.a,.a,.a,.a,.a,.a,.a,.a,.a,.a,.a,.a,.a,.a,.a,.a,.a,.a,.a,.a] rfl (by simp) ?_
  refine Ac rfl (fun _ => A9 10 n x ks ps false false false) (by simp [Af]) ?_
  refine kg [] rfl (by simp) ?_
  exact Ab ⟨_,rfl,tV (congrArg _ (by simp [Bw])),trivial⟩
 by_cases h11 : op = 11
 ·subst h11
  refine kg [.a,.a,.a,.a,.a,.a,.a,.a,.a,.a,.a,.a,.a,.a,.a,.a,.a,.a,.a,.a,.a,.a,.a,.a,.a] rfl (by simp) ?_
  refine Ac rfl (fun _ => A9 11 n x ks ps false false false) (by simp [Af]) ?_
  refine kg [] rfl (by simp) ?_
  exact Ab ⟨_,rfl,tV (congrArg _ (by simp [Bw])),trivial⟩
 by_cases h12 : op = 12
 ·subst h12
  refine kg [.a,.a,.a,.a,.a,.a,.a,.a,.a,.a,.a,.a,.a,.a,.a,.a,.a,.a,.a,.a,.a,.a,.a,.a,.a,.a] rfl (by simp) ?_
  refine Ac rfl (fun _ => A9 12 n x ks ps false false false) (by simp [Af]) ?_
  refine kg [] rfl (by simp) ?_
  exact Ab ⟨_,rfl,tV (congrArg _ (by simp [Bw])),trivial⟩
 by_cases h13 : op = 13
 ·subst h13
  refine kg [.a,.a,.a,.a,.a,.a,.a,.a,.a,.a,.a,.a,.a,.a,.a,.a,.a,.a,.a,.a,.a,.a,.a,.a,.a,.a,.a] rfl (by simp) ?_
  refine Ac rfl (fun _ => A9 13 n x ks ps false false false) (by simp [Af]) ?_
  refine kg [] rfl (by simp) ?_
  exact Ab ⟨_,rfl,tV (congrArg _ (by simp [Bw])),trivial⟩
 by_cases h18 : op = 18
 ·subst h18
  refine kg [.a,.a,.a,.a,.a,.a,.a,.a,.a,.a,.a,.a,.a,.a,.a,.a,.a,.a,.a,.a,.a,.a,.a,.a,.a,.a,.a,.a] rfl (by simp) ?_
  refine Ac rfl (fun _ => A9 18 n x ks ps false false false) (by simp [Af]) ?_
  refine kg [] rfl (by simp) ?_
  exact Ab ⟨_,rfl,tV (congrArg _ (by simp [Bw])),trivial⟩
 by_cases h22 : op = 22
 ·subst h22
  refine kg [.a,.a,.a,.a,.a,.a,.a,.a,.a,.a,.a,.a,.a,.a,.a,.a,.a,.a,.a,.a,.a,.a,.a,.a,.a,.a,.a,.a] rfl (by simp) ?_
  refine Ac rfl (fun _ => A9 22 n x ks ps false false false) (by simp [Af]) ?_
  refine kg [] rfl (by simp) ?_
  exact Ab ⟨_,rfl,tV (congrArg _ (by simp [Bw])),trivial⟩
 refine kg [.f,.f,.f,.f,.f,.f,.f,.f,.f,.f,.f,.f,.f,.f,.f,.f,.f,.f,.f,.f,.f,.f,.f,.f,.f,.f,.f,.f] rfl (by simp [h1,h2,h3,h21,h25,h28,h4,h5,h27,h7,h8,h14,h15,h16,h17,h19,h20,h23,h26,h24,h6,h9,h10,h11,h12,h13,h18,h22]) ?_
 exact Ab ⟨_,rfl,tV (congrArg _ (by simp [Bw,h1,h2,h3,h21,h25,h28,h4,h5,h27,h7,h8,h14,h15,h16,h17,h19,h20,h23,h26,h24,h6,h9,h10,h11,h12,h13,h18,h22])),trivial⟩
mutual
def FW : Tm → Bool
 | .mk op n x ks ps => Bw op n x ks.length ps.length && ps.all CX && Da ks
def Da : List Tm → Bool
 | [] => true
 | t :: r => FW t && Da r
end
theorem Qi : ∀ (t : Tm),PureC Tryz.prog 145 [.agg (Bz t)] (.bool (FW t))
 | .mk op n x ks ps => by
  refine Az fun hv => ?_
  simp [Bh,CP,Bz,maxLen] at hv
  refine Ae AI Tryz.func145 (by decide +kernel) rfl [1,2,3] rfl rfl ?_
  refine kg [] rfl (by simp) ?_
  refine Ac rfl (fun _ => XS op n x ks ps) (by simp) ?_
  refine kg [] rfl (by simp) ?_
  refine Aa rfl (fun h => ?_) (fun h => ?_)
  ·refine kd [] rfl (by simp) ?_
   refine Ab ⟨_,rfl,tV (congrArg _ ?_),trivial⟩
   simp at h
   simp [FW,h]
  simp at h
  have hx : Bw op n x ks.length ps.length = true := h
  clear h
  refine kd [] rfl (by simp) ?_
  refine Ah (fun i : Nat => [(3,.imm (.int .i64 i)),(1,.ref 1 0)]) (fun _ => [(1,some (.immb 141 5 (Bz (.mk op n x ks ps))))]) [2,3] (fun i => ps.length - i)
   (fun i => i ≤ ps.length ∧ (List.all · CX) ps = (List.all · CX) (ps.drop i)) 0 ⟨Nat.zero_le _,rfl⟩ ⟨rfl,rfl,trivial⟩ ⟨rfl,trivial⟩ rfl fun i hi ih => ?_
  refine kd [] rfl (by simp) ?_
  refine Aa rfl (fun h => ?_) (fun h => ?_)
  ·simp at h
   obtain ⟨t,ht⟩ := Ai h
   have e := hi.2
   rw [Aj ht] at e
   refine kd [] rfl (by simp) ?_
   refine ki rfl (c := dTyc t) (fun _ => ⟨by simp,by simpa using Ao ht,by simp⟩) (by simp) ?_
   refine kg [] rfl (by simp) ?_
   refine Ac rfl (fun _ => X6 t) (by simp) ?_
   refine kg [] rfl (by simp) ?_
   refine Aa rfl (fun h => ?_) (fun h => ?_)
   ·refine kd [] rfl (by simp) ?_
    refine Ab ⟨_,rfl,tV (congrArg _ ?_),trivial⟩
    simp at h
    simp [FW,hx,e,Da,List.all_cons,h]
   ·refine kd [] rfl (by simp) ?_
    simp at h
    exact Ad (ih (i + 1) (by omega) ⟨by omega,by rw [e];simp [Da,List.all_cons,h]⟩) ⟨Aq (Bq (by omega) (by omega)),rfl,trivial⟩ ⟨rfl,trivial⟩ rfl
  simp at h
  have hps : (List.all · CX) ps = true := by rw [hi.2,List.drop_eq_nil_of_le (by omega)];rfl
  clear ih hi h
  refine kd [] rfl (by simp) ?_
  refine Ah (fun i : Nat => [(4,.imm (.int .i64 i)),(1,.ref 1 0)]) (fun _ => [(1,some (.immb 141 5 (Bz (.mk op n x ks ps))))]) [2,3] (fun i => ks.length - i)
   (fun i => i ≤ ks.length ∧ Da ks = Da (ks.drop i)) 0 ⟨Nat.zero_le _,rfl⟩ ⟨rfl,rfl,trivial⟩ ⟨rfl,trivial⟩ rfl fun i hi ih => ?_
  refine kd [] rfl (by simp) ?_
  refine Aa rfl (fun h => ?_) (fun h => ?_)
  ·simp at h
   obtain ⟨t,ht⟩ := Ai h
   have e := hi.2
   rw [Aj ht] at e
   refine kd [] rfl (by simp) ?_
   refine ki rfl (c := Bz t) (fun _ => ⟨by simp,by simpa using FD ht,by simp⟩) (by simp) ?_
   refine kg [] rfl (by simp) ?_
   refine Ac rfl (fun _ => Qi t) (by simp) ?_
   refine kg [] rfl (by simp) ?_
   refine Aa rfl (fun h => ?_) (fun h => ?_)
   ·refine kd [] rfl (by simp) ?_
    refine Ab ⟨_,rfl,tV (congrArg _ ?_),trivial⟩
    simp at h
    simp [FW,hx,e,Da,List.all_cons,h]
   ·refine kd [] rfl (by simp) ?_
    simp at h
    exact Ad (ih (i + 1) (by omega) ⟨by omega,by rw [e];simp [Da,List.all_cons,h]⟩) ⟨Aq (Bq (by omega) (by omega)),rfl,trivial⟩ ⟨rfl,trivial⟩ rfl
  simp at h
  have hks : Da ks = true := by rw [hi.2,List.drop_eq_nil_of_le (by omega)];rfl
  clear ih hi h
  refine kd [] rfl (by simp) ?_
  refine Ab ⟨_,rfl,tV (congrArg _ ?_),trivial⟩
  simp only [FW]
  have hps : ps.all CX = true := hps
  rw [hps,hks]
  simp [hx]
termination_by t => SizeOf.sizeOf t
decreasing_by
 have := List.sizeOf_lt_of_mem (List.mem_of_getElem? ht)
 simp_wf
 omega
def VR (t : Tm) : Bool := decide (0 ≤ AH t 60 14) && FW t
theorem Y4 (t : Tm) : PureC Tryz.prog 114 [.agg (Bz t)] (.bool (VR t)) := by
 refine Ae AI Tryz.func114 (by decide +kernel) rfl [1,2,3] rfl rfl ?_
 refine kg [] rfl (by simp) ?_
 refine Ac rfl (fun _ => R8 t 60 14 (by decide) (by decide) (by decide) (by decide)) (by simp) ?_
 refine kg [] rfl (by simp) ?_
 refine Ac rfl (fun _ => Qi t) (by simp [Af]) ?_
 refine kg [] rfl (by simp) ?_
 refine Ab ⟨_,rfl,tV (congrArg _ ?_),trivial⟩
 simp [VR]
def ZC : TT := VI ++ [
 (33,⟨.struct [(0,30),(1,3),(2,9),(3,31)],true,4,56,[.imm (.int .i64 0),.imm (.int .i64 0),.imm (.str []),.nils]⟩),
 (30,⟨.int .i64,false,1,8,[.imm (.int .i64 0)]⟩),
 (31,⟨.sl 33,false,1,24,[.nils]⟩)]
theorem CR : TTok Tryz.prog ZC := .of_eq (l := [4,3,9,141,26,50,138,27,5,24,23,57,139,48,143,147,75,22,145,72,70,38,33,30,31]) (by kernel_rfl)
section
variable {n : Nat} {F : List Nat} {Q : DQ} {env env' : Env} {st st' : St} {ids ids' : List Nat} {k todo : List DI} {ob : List Prop}
theorem vd (path : List Pt) (h : run ZC n 300 path todo env st ids [] = .at k env' st' ids' ob) (hob : Ay ob) (hd : G Tryz.prog n F Q k env' st' ids') : DGo Tryz.prog n F Q todo env st ids := KU CR mixed 300 path h hob hd
theorem vg (path : List Pt) (h : run ZC n 300 path todo env st ids [] = .at k env' st' ids' ob) (hob : Ay ob) (hd : G Tryz.prog n F Q k env' st' ids') : G Tryz.prog n F Q todo env st ids := Ja CR mixed 300 path h hob hd
theorem vi {es : List (List V)} {m : Int} {sz : Nat} {e : TypeId} {g : Option (Bool × Bool)} {ob : List Prop} {t : Nat} {todo' : List DI} {c : List V} (h : Nf ZC n env todo = some ⟨es,m,sz,e,g,ob,some t,todo'⟩)
  (hc : Af g → 0 ≤ m ∧ es[m.toNat]? = some c ∧ c.length = sz) (hob : Ay ob) (hk : G Tryz.prog n F Q todo' ((t,gD g (.ip e c 0)) :: env) st ids) : G Tryz.prog n F Q todo env st ids := Ff CR h hc hob hk
end
mutual
def Bd : Ty → Int → Int → Int
 | .mk _ _ _ ps,l,d => if l < 1 ∨ d < 1 then -1 else B4 ps (l - 1) (d - 1)
def B4 : List Ty → Int → Int → Int
 | [],l,_ => l
 | t :: r,l,d => if 0 ≤ l then B4 r (Bd t l d) d else l
end
mutual
theorem Hh : ∀ (t : Ty) (l d : Int),-1 ≤ Bd t l d ∧ (0 ≤ l → Bd t l d < l)
 | .mk _ _ _ ps,l,d => by
  simp only [Bd]
  split
  ·omega
  ·have := HV ps (l - 1) (d - 1) (by omega)
   omega
theorem HV : ∀ (ps : List Ty) (l d : Int),-1 ≤ l → -1 ≤ B4 ps l d ∧ B4 ps l d ≤ l
 | [],l,d,h => by simp [B4,h]
 | t :: r,l,d,h => by
  simp only [B4]
  by_cases h0 : 0 ≤ l
  ·rw [if_pos h0]
   have h1 := Hh t l d
   have h2 := HV r (Bd t l d) d h1.1
   omega
  ·rw [if_neg h0];omega
end
theorem Km : ∀ (t : Ty) (l d : Int),-9223372036854775808 ≤ l → l ≤ 9223372036854775807 → -9223372036854775807 ≤ d → d ≤ 9223372036854775807 → PureC Tryz.prog 32 [.agg (dTyc t),.int .i64 l,.int .i64 d] (.int .i64 (Bd t l d))
 | .mk op n x ks,l,d,hl0,hl1,hd0,hd1 => by
  refine Az fun hv => ?_
  simp [Bh,CP,dTyc,maxLen] at hv
  refine Ae CR Tryz.func32 (by decide +kernel) rfl [1,2,3] rfl rfl ?_
  refine vg [] rfl (by simp) ?_
  refine Aa rfl (fun h => ?_) (fun h => ?_)
  ·refine vd [] rfl (by simp) ?_
   refine Ab ⟨_,rfl,tV (congrArg _ ?_),trivial⟩
   simp at h
   simp only [Bd];rw [if_pos (by omega)]
  simp at h
  refine vd [] rfl (by simp) ?_
  refine Ah (fun x : Nat × Int => [(7,.imm (.int .i64 x.1)),(1,.imm (.int .i64 x.2)),(2,.imm (.int .i64 d)),(3,.ref 1 0)]) (fun _ => [(1,some (.immb 33 4 (dTyc (.mk op n x ks))))]) [2,3] (fun x => ks.length - x.1)
   (fun y => y.1 ≤ ks.length ∧ Bd (.mk op n x ks) l d = B4 (ks.drop y.1) y.2 (d - 1) ∧ -1 ≤ y.2 ∧ y.2 < l) (0,l - 1)
   ⟨Nat.zero_le _,by simp only [Bd,List.drop_zero];rw [if_neg (by omega)],by simp only;omega,by simp only;omega⟩ ⟨rfl,Aq (Bq (by omega) (by omega)),rfl,rfl,trivial⟩ ⟨rfl,trivial⟩ rfl fun y hi ih => ?_
  obtain ⟨i,m⟩ := y
  obtain ⟨hi1,hi2,hi3,hi4⟩ := hi
  simp only at hi1 hi2 hi3 hi4
  refine vd [] rfl (by simp) ?_
  refine Aa rfl (fun h => ?_) (fun h => ?_)
  ·simp at h
   obtain ⟨t,ht⟩ := Ai (l := ks) (i := i) (by omega)
   rw [Aj ht] at hi2
   refine vd [] rfl (by simp) ?_
   refine vi rfl (c := dTyc t) (fun _ => ⟨by simp,by simpa using Ao ht,by simp⟩) (by simp) ?_
   refine vg [] rfl (by simp) ?_
   have hw : IntKind.i64.wrap (d - 1) = d - 1 := Bq (by omega) (by omega)
   refine Ac rfl (v := .int .i64 (Bd t m (d - 1))) (fun _ => by rw [hw];exact Km t m (d - 1) (by omega) (by omega) (by omega) (by omega)) (by simp) ?_
   refine vg [] rfl (by simp) ?_
   have hb := Hh t m (d - 1)
   exact Ad (ih (i + 1,Bd t m (d - 1)) (by simp only;omega) ⟨by simp only;omega,by simp only;rw [hi2];simp only [B4];rw [if_pos h.2],by simp only;omega,by simp only;omega⟩) ⟨Aq (Bq (by omega) (by omega)),rfl,rfl,rfl,trivial⟩ ⟨rfl,trivial⟩ rfl
  ·refine vd [] rfl (by simp) ?_
   refine Ab ⟨_,rfl,tV (congrArg _ ?_),trivial⟩
   rw [hi2]
   simp at h
   by_cases hlt : i < ks.length
   ·obtain ⟨t,ht⟩ := Ai hlt
    rw [Aj ht];simp only [B4];rw [if_neg (by omega)]
   ·rw [List.drop_eq_nil_of_le (by omega)];simp [B4]
termination_by t => SizeOf.sizeOf t
decreasing_by
 have := List.sizeOf_lt_of_mem (List.mem_of_getElem? ht)
 simp_wf
 omega
def Qj (s n : Int) (x : Str) (k : Nat) : Bool :=
 if s = 1 then Dk n (-1000000000) 1000000000 && x == [] && ((k : Int) == 0)
 else if s = 2 then Dk n 0 1 && x == [] && ((k : Int) == 0)
 else if s = 3 ∨ s = 5 then n == 0 && x == [] && ((k : Int) == 0)
 else if s = 4 then n == 0 && BZ x && decide ((k : Int) ≤ 3)
 else false
mutual
def Id : Ty → Bool
 | .mk s n x ps => Ea ps && Qj s n x ps.length
def Ea : List Ty → Bool
 | [] => true
 | t :: r => Id t && Ea r
end
def Uj (t : Ty) : Bool := decide (0 ≤ Bd t 20000 100) && Id t
end Go.Hk
namespace Go.Hk
open Go.Proofs
theorem S3 (x lo hi : Int) : PureC Tryz.prog 53 [.int .i64 x,.int .i64 lo,.int .i64 hi] (.bool (Dk x lo hi)) := by
 refine Ae CR Tryz.func53 (by decide +kernel) rfl [1,2] rfl rfl ?_
 refine vg [] rfl (by simp) ?_
 refine Ab ⟨_,rfl,tV (congrArg _ ?_),trivial⟩
 simp [Dk]
def BV : Ty → Ty → Bool
 | .mk s n x _,.mk s' n' x' _ => (s == s') && (n == n') && (x == x')
theorem K7 : ∀ a b : Ty,PureC Tryz.prog 54 [.agg (dTyc a),.agg (dTyc b)] (.bool (BV a b))
 | .mk s n x ks,.mk s' n' x' js => by
  refine Ae CR Tryz.func54 (by decide +kernel) rfl [1,2,3] rfl rfl ?_
  refine vg [] rfl (by simp) ?_
  refine Ab ⟨_,rfl,tV (congrArg _ ?_),trivial⟩
  simp [BV,Bool.and_assoc]
def B6 : Ty → Ty
 | .mk s n x _ => if s = 3 then .mk 1 n [] [] else if s = 4 then .mk 2 n [] [] else if s = 5 then .mk 3 0 [] [] else .mk 4 0 x []
theorem UZ : ∀ p : Ty,PureC Tryz.prog 55 [.agg (dTyc p)] (.agg (dTyc (B6 p)))
 | .mk s n x ks => by
  refine Ae CR Tryz.func55 (by decide +kernel) rfl [1,2,3] rfl rfl ?_
  simp only [B6]
  by_cases h3 : s = 3
  ·subst h3
   refine vg [] rfl (by simp) ?_
   refine Aa rfl (fun h => ?_) (fun h => by simp at h)
   refine vd [] rfl (by simp) ?_
   exact Ab ⟨_,rfl,tV rfl,trivial⟩
  rw [if_neg h3]
  refine vg [] rfl (by simp) ?_
  refine Aa rfl (fun h => absurd (by simpa using h) h3) (fun h => ?_)
  clear h
  refine vd [] rfl (by simp) ?_
  by_cases h4 : s = 4
  ·subst h4
   refine Aa rfl (fun h => ?_) (fun h => by simp at h)
   refine vd [] rfl (by simp) ?_
   exact Ab ⟨_,rfl,tV rfl,trivial⟩
  rw [if_neg h4]
  refine Aa rfl (fun h => absurd (by simpa using h) h4) (fun h => ?_)
  clear h
  refine vd [] rfl (by simp) ?_
  by_cases h5 : s = 5
  ·subst h5
   refine Aa rfl (fun h => ?_) (fun h => by simp at h)
   refine vd [] rfl (by simp) ?_
   exact Ab ⟨_,rfl,tV rfl,trivial⟩
  rw [if_neg h5]
  refine Aa rfl (fun h => absurd (by simpa using h) h5) (fun h => ?_)
  clear h
  refine vd [] rfl (by simp) ?_
  exact Ab ⟨_,rfl,tV rfl,trivial⟩
set_option maxHeartbeats 1000000 in
theorem W3 : ∀ v : Ty,PureC Tryz.prog 81 [.agg (dTyc v)] (.bool (match v with | .mk s n x ps => Qj s n x ps.length))
 | .mk s n x ks => by
  refine Ae CR Tryz.func81 (by decide +kernel) rfl [1,2,3] rfl rfl ?_
  simp only [Qj]
  refine vg [] rfl (by simp) ?_
  by_cases h1 : s = 1
  ·subst h1
   refine Aa rfl (fun h => ?_) (fun h => by simp at h)
   refine vd [] rfl (by simp) ?_
   refine Ac rfl (fun _ => S3 n (-1000000000) 1000000000) (by simp) ?_
   refine vg [] rfl (by simp) ?_
   refine Ab ⟨_,rfl,tV (congrArg _ ?_),trivial⟩
   simp [Bool.and_assoc]
  rw [if_neg h1]
  refine Aa rfl (fun h => absurd (by simpa using h) h1) (fun h => ?_)
  clear h
  refine vd [] rfl (by simp) ?_
  by_cases h2 : s = 2
  ·subst h2
   refine Aa rfl (fun h => ?_) (fun h => by simp at h)
   refine vd [] rfl (by simp) ?_
   refine Ac rfl (fun _ => S3 n 0 1) (by simp) ?_
   refine vg [] rfl (by simp) ?_
   refine Ab ⟨_,rfl,tV (congrArg _ ?_),trivial⟩
   simp [Bool.and_assoc]
  rw [if_neg h2]
  refine Aa rfl (fun h => absurd (by simpa using h) h2) (fun h => ?_)
  clear h
  refine vd [] rfl (by simp) ?_
  by_cases h3 : s = 3
  ·subst h3
   refine Aa rfl (fun h => ?_) (fun h => by simp at h)
   refine vd [] rfl (by simp) ?_
   refine Aa rfl (fun h => ?_) (fun h => by simp at h)
   refine vd [] rfl (by simp) ?_
   refine Ab ⟨_,rfl,tV (congrArg _ ?_),trivial⟩
   simp [Bool.and_assoc]
  refine Aa rfl (fun h => absurd (by simpa using h) h3) (fun h => ?_)
  clear h
  refine vd [] rfl (by simp) ?_
  by_cases h5 : s = 5
  ·subst h5
   refine Aa rfl (fun h => ?_) (fun h => by simp at h)
   refine vd [] rfl (by simp) ?_
   refine Ab ⟨_,rfl,tV (congrArg _ ?_),trivial⟩
   simp [Bool.and_assoc]
  rw [if_neg (by simp [h3,h5])]
  refine Aa rfl (fun h => absurd (by simpa using h) h5) (fun h => ?_)
  clear h
  refine vd [] rfl (by simp) ?_
  by_cases h4 : s = 4
  ·subst h4
   refine Aa rfl (fun h => ?_) (fun h => by simp at h)
   refine vd [] rfl (by simp) ?_
   refine Ac rfl (fun _ => FG x) (by simp [Af]) ?_
   refine vg [] rfl (by simp [Af]) ?_
   refine Ab ⟨_,rfl,tV (congrArg _ ?_),trivial⟩
   simp [Bool.and_assoc]
  rw [if_neg h4]
  refine Aa rfl (fun h => absurd (by simpa using h) h4) (fun h => ?_)
  clear h
  refine vd [] rfl (by simp) ?_
  exact Ab ⟨_,rfl,tV rfl,trivial⟩
theorem NP : ∀ v : Ty,PureC Tryz.prog 56 [.agg (dTyc v)] (.bool (Id v))
 | .mk s n x ks => by
  have hN := W3 (.mk s n x ks)
  simp only at hN
  refine Az fun hv => ?_
  simp [Bh,CP,dTyc,maxLen] at hv
  refine Ae CR Tryz.func56 (by decide +kernel) rfl [1,2,3] rfl rfl ?_
  refine vg [] rfl (by simp) ?_
  refine Ah (fun i : Nat => [(3,.imm (.int .i64 i)),(1,.ref 1 0)]) (fun _ => [(1,some (.immb 33 4 (dTyc (.mk s n x ks))))]) [2,3] (fun i => ks.length - i)
   (fun i => i ≤ ks.length ∧ Ea ks = Ea (ks.drop i)) 0 ⟨Nat.zero_le _,rfl⟩ ⟨rfl,rfl,trivial⟩ ⟨rfl,trivial⟩ rfl fun i hi ih => ?_
  refine vd [] rfl (by simp) ?_
  refine Aa rfl (fun h => ?_) (fun h => ?_)
  ·simp at h
   obtain ⟨t,ht⟩ := Ai h
   have e := hi.2
   rw [Aj ht] at e
   refine vd [] rfl (by simp) ?_
   refine vi rfl (c := dTyc t) (fun _ => ⟨by simp,by simpa using Ao ht,by simp⟩) (by simp) ?_
   refine vg [] rfl (by simp) ?_
   refine Ac rfl (fun _ => NP t) (by simp) ?_
   refine vg [] rfl (by simp) ?_
   refine Aa rfl (fun h => ?_) (fun h => ?_)
   ·refine vd [] rfl (by simp) ?_
    refine Ab ⟨_,rfl,tV (congrArg _ ?_),trivial⟩
    simp at h
    simp [Id,e,Ea,h]
   ·refine vd [] rfl (by simp) ?_
    simp at h
    exact Ad (ih (i + 1) (by omega) ⟨by omega,by rw [e];simp [Ea,h]⟩) ⟨Aq (Bq (by omega) (by omega)),rfl,trivial⟩ ⟨rfl,trivial⟩ rfl
  ·simp at h
   refine Ar rfl ?_
   refine vd [] rfl (by simp) ?_
   refine Ac rfl (fun _ => hN) (by simp) ?_
   refine vg [] rfl (by simp) ?_
   refine Ab ⟨_,rfl,tV (congrArg _ ?_),trivial⟩
   simp only [Id]
   rw [hi.2,List.drop_eq_nil_of_le (by omega)]
   simp [Ea]
termination_by t => SizeOf.sizeOf t
decreasing_by
 have := List.sizeOf_lt_of_mem (List.mem_of_getElem? ht)
 simp_wf
 omega
theorem Z3 (v : Ty) : PureC Tryz.prog 21 [.agg (dTyc v)] (.bool (Uj v)) := by
 refine Ae CR Tryz.func21 (by decide +kernel) rfl [1,2,3] rfl rfl ?_
 refine vg [] rfl (by simp) ?_
 refine Ac rfl (fun _ => Km v 20000 100 (by decide) (by decide) (by decide) (by decide)) (by simp) ?_
 refine vg [] rfl (by simp) ?_
 refine Ac rfl (fun _ => NP v) (by simp [Af]) ?_
 refine vg [] rfl (by simp) ?_
 refine Ab ⟨_,rfl,tV (congrArg _ ?_),trivial⟩
 simp [Uj]
mutual
def LK : Ty → Ty → Bool
 | .mk s n x ps,.mk s' n' x' qs => BV (.mk s n x ps) (.mk s' n' x' qs) && Dq ps qs
def Dq : List Ty → List Ty → Bool
 | [],[] => true
 | a :: r,b :: q => LK a b && Dq r q
 | _,_ => false
end
theorem LI : ∀ (ps qs : List Ty),Dq ps qs = true → ps.length = qs.length
 | [],[],_ => rfl
 | a :: r,b :: q,h => by
  simp only [Dq,Bool.and_eq_true] at h
  simp [LI r q h.2]
 | [],_ :: _,h => by simp [Dq] at h
 | _ :: _,[],h => by simp [Dq] at h
theorem R9 : ∀ a b : Ty,PureC Tryz.prog 46 [.agg (dTyc a),.agg (dTyc b)] (.bool (LK a b))
 | .mk s n x ps,.mk s' n' x' qs => by
  have hH := K7 (.mk s n x ps) (.mk s' n' x' qs)
  refine Az fun hv => ?_
  simp [Bh,CP,dTyc,maxLen] at hv
  simp only [LK]
  generalize BV (.mk s n x ps) (.mk s' n' x' qs) = hb at hH ⊢
  refine Ae CR Tryz.func46 (by decide +kernel) rfl [1,2,3] rfl rfl ?_
  refine vg [] rfl (by simp) ?_
  refine Ac rfl (fun _ => hH) (by simp) ?_
  refine vg [] rfl (by simp) ?_
  by_cases hg : hb = true ∧ ps.length = qs.length
  case neg =>
   refine Aa rfl (fun h => ?_) (fun h => ?_)
   ·refine vd [] rfl (by simp) ?_
    refine Ab ⟨_,rfl,tV (congrArg _ ?_),trivial⟩
    cases hb with
    | false => simp
    | true =>
     cases hs : Dq ps qs with
     | false => simp
     | true => exact absurd ⟨rfl,LI _ _ hs⟩ hg
   ·exfalso
    simp at h
    apply hg
    refine ⟨h.1,?_⟩
    have := h.2
    omega
  obtain ⟨rfl,hlen⟩ := hg
  refine Aa rfl (fun h => by simp [hlen] at h) (fun h => ?_)
  clear h
  refine vd [] rfl (by simp) ?_
  refine Ah (fun i : Nat => [(5,.imm (.int .i64 i)),(2,.ref 1 0),(3,.ref 2 0)]) (fun _ => [(1,some (.immb 33 4 (dTyc (.mk s n x ps)))),(2,some (.immb 33 4 (dTyc (.mk s' n' x' qs))))]) [3] (fun i => ps.length - i)
   (fun i => i ≤ ps.length ∧ Dq ps qs = Dq (ps.drop i) (qs.drop i)) 0 ⟨Nat.zero_le _,rfl⟩ ⟨rfl,rfl,rfl,trivial⟩ ⟨rfl,rfl,trivial⟩ rfl fun i hi ih => ?_
  refine vd [] rfl (by simp) ?_
  refine Aa rfl (fun h => ?_) (fun h => ?_)
  ·simp at h
   obtain ⟨t,ht⟩ := Ai h
   obtain ⟨u,hu⟩ := Ai (l := qs) (i := i) (by omega)
   have e := hi.2
   rw [Aj ht,Aj hu] at e
   simp only [Dq] at e
   refine vd [] rfl (by simp) ?_
   refine vi rfl (c := dTyc t) (fun _ => ⟨by simp,by simpa using Ao ht,by simp⟩) (by simp) ?_
   refine vg [] rfl (by simp) ?_
   refine vi rfl (c := dTyc u) (fun _ => ⟨by simp,by simpa using Ao hu,by simp⟩) (by simp) ?_
   refine vg [] rfl (by simp) ?_
   refine Ac rfl (fun _ => R9 t u) (by simp) ?_
   refine vg [] rfl (by simp;rfl) ?_
   refine Aa rfl (fun h => ?_) (fun h => ?_)
   ·refine vd [] rfl (by simp) ?_
    refine Ab ⟨_,rfl,tV (congrArg _ ?_),trivial⟩
    simp at h
    simp [e,h]
   ·refine vd [] rfl (by simp) ?_
    simp at h
    exact Ad (ih (i + 1) (by omega) ⟨by omega,by rw [e];simp [h]⟩) ⟨Aq (Bq (by omega) (by omega)),rfl,rfl,trivial⟩ ⟨rfl,rfl,trivial⟩ rfl
  ·simp at h
   refine Ar rfl ?_
   refine vd [] rfl (by simp) ?_
   refine Ab ⟨_,rfl,tV (congrArg _ ?_),trivial⟩
   rw [hi.2,List.drop_eq_nil_of_le (by omega),List.drop_eq_nil_of_le (by omega)]
   simp [Dq]
termination_by a => SizeOf.sizeOf a
decreasing_by
 have := List.sizeOf_lt_of_mem (List.mem_of_getElem? ht)
 simp_wf
 omega
theorem AC {α β : Type} {f : α → β} {l : List α} {i : Nat} {t : α} (h : l[i]? = some t) : (l.map f)[i]? = some (f t) := by simp [h]
@[simp] theorem dCdc_length (c : Cd) : (Cx c).length = 2 := rfl
@[simp] theorem dDtc_length (c : Dt) : (B5 c).length = 2 := rfl
@[simp] theorem dMdc_length (m : Md) : (Pz m).length = 3 := rfl
@[simp] theorem dFdc_length (c : Fd) : (Lg c).length = 15 := by simp [Lg]
def Kc (c : Cd) : Bool := BZ c.name && decide ((c.args.length : Int) ≤ 3) && c.args.all Dp
def FC (d : Dt) : Bool := BZ d.name && Dk d.cons.length 1 5 && d.cons.all Kc
def QK (f : Fd) : Bool := CG f.name && CG f.param && Dp f.from_ && Dp f.to_ && VR f.body
def C6 (m : Md) : Bool := CG m.name && decide ((m.datas.length : Int) ≤ 4) && Dk m.funs.length 1 5 && m.datas.all FC && m.funs.all QK
theorem Yv (d : Dt) : PureC Tryz.prog 113 [.agg (B5 d)] (.bool (FC d)) := by
 obtain ⟨nm,cs⟩ := d
 refine Az fun hv => ?_
 simp [Bh,CP,B5,maxLen] at hv
 refine Ae AI Tryz.func113 (by decide +kernel) rfl [1,2,3] rfl rfl ?_
 refine kg [] rfl (by simp) ?_
 refine Ac rfl (fun _ => FG nm) (by simp) ?_
 refine kg [] rfl (by simp) ?_
 refine Ac rfl (v := .bool (Dk cs.length 1 5)) (fun _ => by have := IX cs.length 1 5;simpa using this) (by simp [Af]) ?_
 refine kg [] rfl (by simp) ?_
 refine Aa rfl (fun h => ?_) (fun h => ?_)
 ·refine kd [] rfl (by simp) ?_
  refine Ab ⟨_,rfl,tV (congrArg _ ?_),trivial⟩
  simp at h
  simp [FC]
  grind
 have hx : (BZ nm && Dk cs.length 1 5) = true := by simp at h ⊢;grind
 clear h
 refine kd [] rfl (by simp) ?_
 refine Ah (fun i : Nat => [(3,.imm (.int .i64 i)),(1,.ref 1 0)]) (fun _ => [(1,some (.immb 72 2 (B5 ⟨nm,cs⟩)))]) [2,3] (fun i => cs.length - i)
  (fun i => i ≤ cs.length ∧ cs.all Kc = (cs.drop i).all Kc) 0 ⟨Nat.zero_le _,rfl⟩ ⟨rfl,rfl,trivial⟩ ⟨rfl,trivial⟩ rfl fun i hi ih => ?_
 refine kd [] rfl (by simp) ?_
 refine Aa rfl (fun h => ?_) (fun h => ?_)
 ·simp at h
  obtain ⟨c,hc⟩ := Ai h
  have e := hi.2
  rw [Aj hc] at e
  refine kd [] rfl (by simp) ?_
  refine ki rfl (c := Cx c) (fun _ => ⟨by simp,by simpa using AC hc,by simp⟩) (by simp) ?_
  obtain ⟨cn,ag⟩ := c
  refine kg [] rfl (by simp) ?_
  refine Ac rfl (fun _ => FG cn) (by simp) ?_
  refine kg [] rfl (by simp) ?_
  refine Aa rfl (fun h => ?_) (fun h => ?_)
  ·refine kd [] rfl (by simp) ?_
   refine Ab ⟨_,rfl,tV (congrArg _ ?_),trivial⟩
   simp at h
   have : Kc ⟨cn,ag⟩ = false := by simp [Kc];grind
   simp [FC,e,this]
  have hy : (BZ cn && decide ((ag.length : Int) ≤ 3)) = true := by simp at h ⊢;grind
  have hal : ag.length ≤ 6 := by simp at hy;omega
  clear h
  refine kd [] rfl (by simp) ?_
  refine Ah (fun j : Nat => [(5,.imm (.int .i64 j)),(4,.ref 2 0),(3,.imm (.int .i64 i)),(1,.ref 1 0)]) (fun _ => [(2,some (.immb 75 2 (Cx ⟨cn,ag⟩))),(1,some (.immb 72 2 (B5 ⟨nm,cs⟩)))]) [3] (fun j => ag.length - j)
   (fun j => j ≤ ag.length ∧ ag.all Dp = (ag.drop j).all Dp) 0 ⟨Nat.zero_le _,rfl⟩ ⟨rfl,rfl,rfl,rfl,trivial⟩ ⟨rfl,rfl,trivial⟩ rfl fun j hj ihj => ?_
  refine kd [] rfl (by simp) ?_
  refine Aa rfl (fun h => ?_) (fun h => ?_)
  ·simp at h
   obtain ⟨t,ht⟩ := Ai h
   have ej := hj.2
   rw [Aj ht] at ej
   refine kd [] rfl (by simp) ?_
   refine ki rfl (c := dTyc t) (fun _ => ⟨by simp,by simpa using Ao ht,by simp⟩) (by simp) ?_
   refine kg [] rfl (by simp) ?_
   refine Ac rfl (fun _ => J0 t) (by simp) ?_
   refine kg [] rfl (by simp) ?_
   refine Aa rfl (fun h => ?_) (fun h => ?_)
   ·refine kd [] rfl (by simp) ?_
    refine Ab ⟨_,rfl,tV (congrArg _ ?_),trivial⟩
    simp at h
    have : Kc ⟨cn,ag⟩ = false := by simp only [Kc];rw [ej];simp [h]
    simp [FC,e,this]
   ·refine kd [] rfl (by simp) ?_
    simp at h
    exact Ad (ihj (j + 1) (by omega) ⟨by omega,by rw [ej];simp [h]⟩) ⟨Aq (Bq (by omega) (by omega)),rfl,rfl,rfl,trivial⟩ ⟨rfl,rfl,trivial⟩ rfl
  ·simp at h
   refine kd [] rfl (by simp) ?_
   have : Kc ⟨cn,ag⟩ = true := by
    simp only [Kc]
    rw [hj.2,List.drop_eq_nil_of_le (by omega)]
    simpa using hy
   exact Ad (ih (i + 1) (by omega) ⟨by omega,by rw [e];simp [this]⟩) ⟨Aq (Bq (by omega) (by omega)),rfl,trivial⟩ ⟨rfl,trivial⟩ rfl
 ·refine kd [] rfl (by simp) ?_
  refine Ab ⟨_,rfl,tV (congrArg _ ?_),trivial⟩
  simp at h
  simp only [FC]
  rw [hi.2,List.drop_eq_nil_of_le (by omega)]
  simpa using hx.symm
theorem V1 (m : Md) : PureC Tryz.prog 82 [.agg (Pz m)] (.bool (C6 m)) := by
 obtain ⟨nm,ds,fs⟩ := m
 refine Az fun hv => ?_
 simp [Bh,CP,Pz,maxLen] at hv
 refine Ae AI Tryz.func82 (by decide +kernel) rfl [1,2,3] rfl rfl ?_
 refine kg [] rfl (by simp) ?_
 refine Ac rfl (fun _ => Fk nm) (by simp) ?_
 refine kg [] rfl (by simp) ?_
 refine Ac rfl (v := .bool (Dk fs.length 1 5)) (fun _ => by have := IX fs.length 1 5;simpa using this) (by simp [Af]) ?_
 refine kg [] rfl (by simp) ?_
 refine Aa rfl (fun h => ?_) (fun h => ?_)
 ·refine kd [] rfl (by simp) ?_
  refine Ab ⟨_,rfl,tV (congrArg _ ?_),trivial⟩
  simp at h
  simp [C6]
  grind
 have hx : (CG nm && decide ((ds.length : Int) ≤ 4) && Dk fs.length 1 5) = true := by simp at h ⊢;grind
 clear h
 refine kd [] rfl (by simp) ?_
 refine Ah (fun i : Nat => [(3,.imm (.int .i64 i)),(1,.ref 1 0)]) (fun _ => [(1,some (.immb 147 3 (Pz ⟨nm,ds,fs⟩)))]) [2,3] (fun i => ds.length - i)
  (fun i => i ≤ ds.length ∧ ds.all FC = (ds.drop i).all FC) 0 ⟨Nat.zero_le _,rfl⟩ ⟨rfl,rfl,trivial⟩ ⟨rfl,trivial⟩ rfl fun i hi ih => ?_
 refine kd [] rfl (by simp) ?_
 refine Aa rfl (fun h => ?_) (fun h => ?_)
 ·simp at h
  obtain ⟨c,hc⟩ := Ai h
  have e := hi.2
  rw [Aj hc] at e
  refine kd [] rfl (by simp) ?_
  refine ki rfl (c := B5 c) (fun _ => ⟨by simp,by simpa using AC hc,by simp⟩) (by simp) ?_
  refine kg [] rfl (by simp) ?_
  refine Ac rfl (fun _ => Yv c) (by simp) ?_
  refine kg [] rfl (by simp) ?_
  refine Aa rfl (fun h => ?_) (fun h => ?_)
  ·refine kd [] rfl (by simp) ?_
   refine Ab ⟨_,rfl,tV (congrArg _ ?_),trivial⟩
   simp at h
   simp [C6,e,h]
  ·refine kd [] rfl (by simp) ?_
   simp at h
   exact Ad (ih (i + 1) (by omega) ⟨by omega,by rw [e];simp [h]⟩) ⟨Aq (Bq (by omega) (by omega)),rfl,trivial⟩ ⟨rfl,trivial⟩ rfl
 simp at h
 have hds : ds.all FC = true := by rw [hi.2,List.drop_eq_nil_of_le (by omega)];rfl
 clear ih hi h
 refine kd [] rfl (by simp) ?_
 refine Ah (fun i : Nat => [(4,.imm (.int .i64 i)),(1,.ref 1 0)]) (fun _ => [(1,some (.immb 147 3 (Pz ⟨nm,ds,fs⟩)))]) [2,3] (fun i => fs.length - i)
  (fun i => i ≤ fs.length ∧ fs.all QK = (fs.drop i).all QK) 0 ⟨Nat.zero_le _,rfl⟩ ⟨rfl,rfl,trivial⟩ ⟨rfl,trivial⟩ rfl fun i hi ih => ?_
 refine kd [] rfl (by simp) ?_
 refine Aa rfl (fun h => ?_) (fun h => ?_)
 ·simp at h
  obtain ⟨c,hc⟩ := Ai h
  have e := hi.2
  rw [Aj hc] at e
  refine kd [] rfl (by simp) ?_
  refine ki rfl (c := Lg c) (fun _ => ⟨by simp,by simpa using AC hc,by simp⟩) (by simp) ?_
  obtain ⟨fnm,fpa,⟨s1,n1,x1,p1⟩,⟨s2,n2,x2,p2⟩,⟨op,n3,x3,ks,p3⟩⟩ := c
  refine kg [] rfl (by simp) ?_
  refine Ac rfl (fun _ => Fk fnm) (by simp [Af]) ?_
  refine kg [] rfl (by simp) ?_
  refine Ac rfl (fun _ => Fk fpa) (by simp [Af]) ?_
  refine kg [] rfl (by simp) ?_
  refine Ac rfl (fun _ => J0 (.mk s1 n1 x1 p1)) (by simp [Af]) ?_
  refine kg [] rfl (by simp) ?_
  refine Ac rfl (fun _ => J0 (.mk s2 n2 x2 p2)) (by simp [Af]) ?_
  refine kg [] rfl (by simp) ?_
  refine Ac rfl (fun _ => Y4 (.mk op n3 x3 ks p3)) (by simp [Af]) ?_
  refine kg [] rfl (by simp) ?_
  refine Aa rfl (fun h => ?_) (fun h => ?_)
  ·refine kd [] rfl (by simp) ?_
   refine Ab ⟨_,rfl,tV (congrArg _ ?_),trivial⟩
   simp at h
   have : QK ⟨fnm,fpa,.mk s1 n1 x1 p1,.mk s2 n2 x2 p2,.mk op n3 x3 ks p3⟩ = false := by simp [QK];grind
   simp [C6,e,this]
  ·refine kd [] rfl (by simp) ?_
   simp at h
   have : QK ⟨fnm,fpa,.mk s1 n1 x1 p1,.mk s2 n2 x2 p2,.mk op n3 x3 ks p3⟩ = true := by simp [QK];grind
   exact Ad (ih (i + 1) (by omega) ⟨by omega,by rw [e];simp [this]⟩) ⟨Aq (Bq (by omega) (by omega)),rfl,trivial⟩ ⟨rfl,trivial⟩ rfl
 ·refine kd [] rfl (by simp) ?_
  refine Ab ⟨_,rfl,tV (congrArg _ ?_),trivial⟩
  simp at h
  simp only [C6]
  rw [hds,hi.2,List.drop_eq_nil_of_le (by omega)]
  simpa using hx.symm
def AF (s : Str) : Nat → List Dt → Int
 | _,[] => -1
 | i,d :: r => if d.name = s then (i : Int) else AF s (i + 1) r
theorem PX (ds : List Dt) (s : Str) : PureC Tryz.prog 85 [.sl (ds.map B5),.str s] (.int .i64 (AF s 0 ds)) := by
 refine Az fun hv => ?_
 simp [Bh,CP,maxLen] at hv
 refine Ae CR Tryz.func85 (by decide +kernel) rfl [1,2,3] rfl rfl ?_
 refine vg [] rfl (by simp) ?_
 refine Ah (fun i : Nat => [(5,.imm (.int .i64 i)),(0,.imm (.sl (ds.map B5))),(1,.imm (.str s))]) (fun _ => []) [1,2,3] (fun i => ds.length - i)
  (fun i => i ≤ ds.length ∧ AF s 0 ds = AF s i (ds.drop i)) 0 ⟨Nat.zero_le _,rfl⟩ ⟨rfl,rfl,rfl,trivial⟩ trivial rfl fun i hi ih => ?_
 refine vd [] rfl (by simp) ?_
 refine Aa rfl (fun h => ?_) (fun h => ?_)
 ·simp at h
  obtain ⟨d,hd⟩ := Ai h
  have e := hi.2
  rw [Aj hd] at e
  simp only [AF] at e
  refine vd [] rfl (by simp) ?_
  refine vi rfl (c := B5 d) (fun _ => ⟨by simp,by simpa using AC hd,by simp⟩) (by simp) ?_
  obtain ⟨dn,dc⟩ := d
  refine vg [] rfl (by simp) ?_
  refine Aa rfl (fun h => ?_) (fun h => ?_)
  ·have hs : dn = s := by simpa using h
   rw [e,if_pos hs]
   refine vd [] rfl (by simp) ?_
   exact Ab ⟨_,rfl,tV rfl,trivial⟩
  ·have hs : ¬ dn = s := by simpa using h
   rw [if_neg hs] at e
   refine vd [] rfl (by simp) ?_
   exact Ad (ih (i + 1) (by omega) ⟨by omega,e⟩) ⟨Aq (Bq (by omega) (by omega)),rfl,rfl,trivial⟩ trivial rfl
 ·simp at h
  refine Ar rfl ?_
  refine vd [] rfl (by simp) ?_
  rw [hi.2,List.drop_eq_nil_of_le (by omega)]
  exact Ab ⟨_,rfl,tV rfl,trivial⟩
mutual
def Bf : List Dt → Ty → Bool
 | ds,.mk s _ x ps => !(s == 8 && decide (AF x 0 ds < 0)) && AB ds ps
def AB : List Dt → List Ty → Bool
 | _,[] => true
 | ds,t :: r => Bf ds t && AB ds r
end
theorem JN (ds : List Dt) : ∀ t : Ty,PureC Tryz.prog 59 [.agg (dTyc t),.sl (ds.map B5)] (.bool (Bf ds t))
 | .mk s n x ps => by
  refine Az fun hv => ?_
  simp [Bh,CP,dTyc,maxLen] at hv
  simp only [Bf]
  refine Ae CR Tryz.func59 (by decide +kernel) rfl [1,2,3] rfl rfl ?_
  refine vg [] rfl (by simp) ?_
  refine Ac rfl (fun _ => PX ds x) (by simp [Af]) ?_
  refine vg [] rfl (by simp [Af]) ?_
  by_cases hg : s = 8 ∧ AF x 0 ds < 0
  ·refine Aa rfl (fun h => ?_) (fun h => by simp [hg] at h)
   refine vd [] rfl (by simp) ?_
   refine Ab ⟨_,rfl,tV (congrArg _ ?_),trivial⟩
   simp [hg]
  refine Aa rfl (fun h => absurd (by simpa using h) hg) (fun h => ?_)
  clear h
  rw [show (!(s == 8 && decide (AF x 0 ds < 0))) = true by simp;omega,Bool.true_and]
  refine vd [] rfl (by simp) ?_
  refine Ah (fun i : Nat => [(5,.imm (.int .i64 i)),(1,.imm (.sl (ds.map B5))),(2,.ref 1 0)]) (fun _ => [(1,some (.immb 26 4 (dTyc (.mk s n x ps))))]) [2,3] (fun i => ps.length - i)
   (fun i => i ≤ ps.length ∧ AB ds ps = AB ds (ps.drop i)) 0 ⟨Nat.zero_le _,rfl⟩ ⟨rfl,rfl,rfl,trivial⟩ ⟨rfl,trivial⟩ rfl fun i hi ih => ?_
  refine vd [] rfl (by simp) ?_
  refine Aa rfl (fun h => ?_) (fun h => ?_)
  ·simp at h
   obtain ⟨t,ht⟩ := Ai h
   have e := hi.2
   rw [Aj ht] at e
   refine vd [] rfl (by simp) ?_
   refine vi rfl (c := dTyc t) (fun _ => ⟨by simp,by simpa using Ao ht,by simp⟩) (by simp) ?_
   refine vg [] rfl (by simp) ?_
   refine Ac rfl (fun _ => JN ds t) (by simp) ?_
   refine vg [] rfl (by simp) ?_
   refine Aa rfl (fun h => ?_) (fun h => ?_)
   ·refine vd [] rfl (by simp) ?_
    refine Ab ⟨_,rfl,tV (congrArg _ ?_),trivial⟩
    simp at h
    simp [e,AB,h]
   ·refine vd [] rfl (by simp) ?_
    simp at h
    exact Ad (ih (i + 1) (by omega) ⟨by omega,by rw [e];simp [AB,h]⟩) ⟨Aq (Bq (by omega) (by omega)),rfl,rfl,trivial⟩ ⟨rfl,trivial⟩ rfl
  ·simp at h
   refine Ar rfl ?_
   refine vd [] rfl (by simp) ?_
   refine Ab ⟨_,rfl,tV (congrArg _ ?_),trivial⟩
   rw [hi.2,List.drop_eq_nil_of_le (by omega)]
   simp [AB]
termination_by t => SizeOf.sizeOf t
decreasing_by
 have := List.sizeOf_lt_of_mem (List.mem_of_getElem? ht)
 simp_wf
 omega
theorem Rp : ∀ p : Ty,Ak p ≤ 1000000 → PureC Tryz.prog 62 [.agg (dTyc p)] (.int .i64 (Ak p : Int))
 | .mk s n x ps,hN => by
  simp only [Ak] at hN
  refine Az fun hv => ?_
  simp [Bh,CP,dTyc,maxLen] at hv
  refine Ae CR Tryz.func62 (by decide +kernel) rfl [1,2,3] rfl rfl ?_
  refine vg [] rfl (by simp) ?_
  refine Ah (fun i : Nat => [(4,.imm (.int .i64 i)),(3,.imm (.int .i64 ((1 + Ag (ps.take i) : Nat) : Int))),(1,.ref 1 0)]) (fun _ => [(1,some (.immb 50 4 (dTyc (.mk s n x ps))))]) [2,3] (fun i => ps.length - i)
   (fun i => i ≤ ps.length) 0 (Nat.zero_le _) ⟨rfl,rfl,rfl,trivial⟩ ⟨rfl,trivial⟩ rfl fun i hi ih => ?_
  refine vd [] rfl (by simp) ?_
  refine Aa rfl (fun h => ?_) (fun h => ?_)
  ·simp at h
   obtain ⟨t,ht⟩ := Ai h
   have e : Ag (ps.take (i + 1)) = Ag (ps.take i) + Ak t := by rw [AM ht,AO];simp [Ag]
   have hb := Bk ht
   refine vd [] rfl (by simp) ?_
   refine vi rfl (c := dTyc t) (fun _ => ⟨by simp,by simpa using Ao ht,by simp⟩) (by simp) ?_
   refine vg [] rfl (by simp) ?_
   refine Ac rfl (fun _ => Rp t (by omega)) (by simp) ?_
   refine vg [] rfl (by simp) ?_
   exact Ad (ih (i + 1) (by omega) (by omega)) ⟨Aq (Bq (by omega) (by omega)),Aq (by rw [e,Bq (by omega) (by omega)];omega),rfl,trivial⟩ ⟨rfl,trivial⟩ rfl
  ·simp at h
   refine Ar rfl ?_
   refine vd [] rfl (by simp) ?_
   rw [List.take_of_length_le (by omega)]
   refine Ab ⟨_,rfl,tV ?_,trivial⟩
   simp [Ak]
termination_by p => SizeOf.sizeOf p
decreasing_by
 have := List.sizeOf_lt_of_mem (List.mem_of_getElem? ht)
 simp_wf
 omega
structure Cse where
 datas : List Dt
 type : Ty
 rows : List Ty
def dCse (c : Cse) : List V := [.sl (c.datas.map B5)] ++ dTyc c.type ++ [.sl (Bg c.rows)]
@[simp] theorem dCse_length (c : Cse) : (dCse c).length = 6 := by obtain ⟨ds,⟨s,n,x,ps⟩,rows⟩ := c;rfl
def ZD : TT := ZC ++ [
 (29,⟨.struct [(0,22),(1,26),(5,27)],true,6,104,[.nils,.imm (.int .i64 0),.imm (.int .i64 0),.imm (.str []),.nils,.nils]⟩)]
theorem BY : TTok Tryz.prog ZD := .of_eq (l := [4,3,9,141,26,50,138,27,5,24,23,57,139,48,143,147,75,22,145,72,70,38,33,30,31,29]) (by kernel_rfl)
section
variable {n : Nat} {F : List Nat} {Q : DQ} {env env' : Env} {st st' : St} {ids ids' : List Nat} {k todo : List DI} {ob : List Prop}
theorem cd (path : List Pt) (h : run ZD n 300 path todo env st ids [] = .at k env' st' ids' ob) (hob : Ay ob) (hd : G Tryz.prog n F Q k env' st' ids') : DGo Tryz.prog n F Q todo env st ids := KU BY mixed 300 path h hob hd
theorem cg (path : List Pt) (h : run ZD n 300 path todo env st ids [] = .at k env' st' ids' ob) (hob : Ay ob) (hd : G Tryz.prog n F Q k env' st' ids') : G Tryz.prog n F Q todo env st ids := Ja BY mixed 300 path h hob hd
theorem ci {es : List (List V)} {m : Int} {sz : Nat} {e : TypeId} {g : Option (Bool × Bool)} {ob : List Prop} {t : Nat} {todo' : List DI} {c : List V} (h : Nf ZD n env todo = some ⟨es,m,sz,e,g,ob,some t,todo'⟩)
  (hc : Af g → 0 ≤ m ∧ es[m.toNat]? = some c ∧ c.length = sz) (hob : Ay ob) (hk : G Tryz.prog n F Q todo' ((t,gD g (.ip e c 0)) :: env) st ids) : G Tryz.prog n F Q todo env st ids := Ff BY h hc hob hk
end
theorem Z5 (c : Cse) (r : Int) (hl : c.rows.length ≤ 1000000) : PureC Tryz.prog 13 [.agg (dCse c),.int .i64 r] (.bool (Dk r 0 ((c.rows.length : Int) - 1))) := by
 obtain ⟨ds,⟨s,n,x,ps⟩,rows⟩ := c
 simp only at hl
 have hI := S3 r 0 ((rows.length : Int) - 1)
 have hw : IntKind.i64.wrap (((Bg rows).length : Int) - 1) = (rows.length : Int) - 1 := by rw [dTys_length];exact Bq (by omega) (by omega)
 refine Ae BY Tryz.func13 (by decide +kernel) rfl [1,2,3] rfl rfl ?_
 refine cg [] rfl (by simp) ?_
 refine Ac rfl (v := .bool (Dk r 0 ((rows.length : Int) - 1))) (fun _ => by rw [hw];exact hI) (by simp) ?_
 refine cg [] rfl (by simp) ?_
 exact Ab ⟨_,rfl,tV rfl,trivial⟩
end Go.Hk
namespace Go.Hk
open Go.Proofs
def aH : Cd := ⟨[],[]⟩
def CO (s : Str) : Nat → List Cd → Cd × Int
 | _,[] => (aH,-1)
 | i,c :: r => if c.name = s then (c,(i : Int)) else CO s (i + 1) r
def BT (ds : List Dt) (t : Ty) (s : Str) : Cd × Int := match t with
 | .mk so _ x _ => if so = 8 then (match ds[(AF x 0 ds).toNat]? with
  | some d => CO s 0 d.cons
  | none => (aH,-1)) else (aH,-1)
theorem Xq (c : Cse) (t : Ty) (s : Str) (h : ∀ so n x ps,t = .mk so n x ps → so = 8 → 0 ≤ AF x 0 c.datas ∧ ∃ d,c.datas[(AF x 0 c.datas).toNat]? = some d) (hl : ∀ d ∈ c.datas,d.cons.length ≤ 1000000) :
  PureC Tryz.prog 66 [.agg (dCse c),.agg (dTyc t),.str s] (.tup [.agg (Cx (BT c.datas t s).1),.int .i64 (BT c.datas t s).2]) := by
 obtain ⟨ds,ct,rows⟩ := c
 obtain ⟨so,n,x,ps⟩ := t
 obtain ⟨cs,cn,cx,cps⟩ := ct
 have h := h so n x ps rfl
 simp only at h
 refine Az fun hv => ?_
 refine Ae BY Tryz.func66 (by decide +kernel) rfl [1,2,3,4,5] rfl rfl ?_
 refine cg [] rfl (by simp) ?_
 by_cases e : so = 8
 case neg =>
  refine Aa rfl (fun h => ?_) (fun h => absurd (by simpa using h) e)
  refine cd [] rfl (by simp) ?_
  rw [show BT ds (.mk so n x ps) s = (aH,-1) by simp [BT,e]]
  exact Ab ⟨_,rfl,tV rfl,trivial⟩
 obtain ⟨hp,d,hd⟩ := h e
 have hlen : d.cons.length ≤ 1000000 := hl d (List.mem_of_getElem? hd)
 rw [show BT ds (.mk so n x ps) s = CO s 0 d.cons by simp [BT,e,hd]]
 refine Aa rfl (fun h => by simp [e] at h) (fun h => ?_)
 clear h
 refine cd [] rfl (by simp) ?_
 refine Ac rfl (fun _ => PX ds x) (by simp) ?_
 refine cg [] rfl (by simp) ?_
 refine ci rfl (c := B5 d) (fun _ => ⟨hp,by simpa using AC hd,by simp⟩) (by simp) ?_
 obtain ⟨dn,dc⟩ := d
 refine cg [] rfl (by simp;rfl) ?_
 simp only at hlen ⊢
 refine Ah (fun i : Nat => [(9,.imm (.int .i64 i)),(8,.ref 4 0),(6,.ref 3 0),(2,.imm (.str s))]) (fun _ => [(4,some (.immb 72 2 (B5 ⟨dn,dc⟩))),(3,some (.cells 75 2 [.imm (.str []),.nils]))]) [5] (fun i => dc.length - i)
  (fun i => i ≤ dc.length ∧ CO s 0 dc = CO s i (dc.drop i)) 0 ⟨Nat.zero_le _,rfl⟩ ⟨rfl,rfl,rfl,rfl,trivial⟩ ⟨rfl,rfl,trivial⟩ rfl fun i hi ih => ?_
 refine cd [] rfl (by simp) ?_
 refine Aa rfl (fun h => ?_) (fun h => ?_)
 ·simp at h
  obtain ⟨k,hk⟩ := Ai h
  have e := hi.2
  rw [Aj hk] at e
  simp only [CO] at e
  refine cd [] rfl (by simp) ?_
  refine ci rfl (c := Cx k) (fun _ => ⟨by simp,by simpa using AC hk,by simp⟩) (by simp) ?_
  obtain ⟨kn,ka⟩ := k
  refine cg [] rfl (by simp) ?_
  refine Aa rfl (fun h => ?_) (fun h => ?_)
  ·have hs : kn = s := by simpa using h
   rw [e,if_pos hs]
   refine cd [] rfl (by simp) ?_
   refine ci rfl (c := Cx ⟨kn,ka⟩) (fun _ => ⟨by simp,by simpa using AC hk,by simp⟩) (by simp) ?_
   refine cg [] rfl (by simp) ?_
   exact Ab ⟨_,rfl,tV rfl,trivial⟩
  ·have hs : ¬ kn = s := by simpa using h
   rw [if_neg hs] at e
   refine cd [] rfl (by simp) ?_
   exact Ad (ih (i + 1) (by omega) ⟨by omega,e⟩) ⟨Aq (Bq (by omega) (by omega)),rfl,rfl,rfl,trivial⟩ ⟨rfl,rfl,trivial⟩ rfl
 ·simp at h
  refine Ar rfl ?_
  refine cd [] rfl (by simp) ?_
  rw [hi.2,List.drop_eq_nil_of_le (by omega)]
  exact Ab ⟨_,rfl,tV rfl,trivial⟩
end Go.Hk
namespace Go.Hk
def HoldsSpec (P : Program) (f : FuncId) (t tb : TypeId) : Prop := ∀ (g : FuncId) (fi ca : Array Value) (w : World) (K Kp : World → Prop),
 (callFunc g (fi ++ ca)).run P (w.alloc (.cells #[.bool false] tb)) = .ok (.enter g (fi ++ ca)) (w.alloc (.cells #[.bool false] tb)) →
 Calls P g (fi ++ ca) (w.alloc (.cells #[.bool false] tb)) (fun e w' => match e with
  | .returned _ => K w'
  | .panicked chain => chain = [{ v := .iface t (.agg #[]),recovered := false }] ∧ Kp w'
  | .outgrown => False) →
 (∀ w',K w' → w'.heap[w.heap.size]? = some (.cells #[.bool false] tb (0,0))) → (∀ w',Kp w' → w'.heap[w.heap.size]? = some (.cells #[.bool false] tb (0,0))) →
 Calls P f #[.func (.func g) fi ca] w fun e w' => (e = .returned (.bool true) ∧ ∃ w1,K w1 ∧ w' = w1.setCell ⟨w.heap.size,0,none⟩ (.bool true)) ∨
  (e = .returned (.bool false) ∧ ∃ w1,Kp w1 ∧ w' = (w1.setCell ⟨w.heap.size,0,none⟩ (.bool false)).alloc (.cells #[] t))
theorem setCell_block {w : World} {b : Nat} {v x : Value} {t : TypeId} (h : w.heap[b]? = some (.cells #[x] t (0,0))) : w.setCell ⟨b,0,none⟩ v = { w with heap := w.heap.setIfInBounds b (.cells #[v] t (0,0)) } := by
 have : ∀ (A : Array Obj) (f : Obj → Obj),A[b]? = some (.cells #[x] t (0,0)) → A.modify b f = A.setIfInBounds b (f (.cells #[x] t (0,0))) := by
  intro A f hA
  apply Array.ext_getElem?
  intro i
  rw [Array.getElem?_modify,Array.getElem?_setIfInBounds]
  by_cases hi : b = i
  ·subst hi;rw [if_pos rfl,if_pos rfl,hA];simp [(Array.getElem?_eq_some_iff.1 hA).1]
  ·rw [if_neg hi,if_neg hi]
 unfold World.setCell
 rw [this _ _ h]
 rfl
theorem C0 {I : Imm} {μ : Mu} {st : St} {ids : List Nat} {w : World} (hst : StRep I μ st ids w) {b : Nat} (h : AG μ st b) : b < w.heap.size := by
 obtain ⟨id,blk,g,h1,h2,h3⟩ := h
 exact (hst.apart id blk g b h1 h2 h3).2
theorem StRep.other {I : Imm} {μ : Mu} {st : St} {ids : List Nat} {w w' : World} (hst : StRep I μ st ids w) (hs : w.heap.size ≤ w'.heap.size) (hi : ∀ b o,I b = some o → w'.heap[b]? = w.heap[b]?) (ho : ∀ b,AG μ st b → w'.heap[b]? = w.heap[b]?) : StRep I μ st ids w' :=
 {imm := fun b o h => (hi b o h).trans (hst.imm b o h),blk := fun id blk hl => let ⟨g,h1,h2⟩ := hst.blk id blk hl;⟨g,h1,h2.world fun b hb => ho b ⟨id,blk,g,hl,h1,hb⟩⟩,
  apart := fun id blk g b h1 h2 h3 => ⟨(hst.apart id blk g b h1 h2 h3).1,Nat.lt_of_lt_of_le (hst.apart id blk g b h1 h2 h3).2 hs⟩,inj := hst.inj,nodup := hst.nodup,idsFree := hst.idsFree }
theorem RepD.fnD {I : Imm} {μ : Mu} {v : Value} {f : Fn} {df dc : List D} (h : RepD I μ v (.fn f df dc)) : ∃ first cap : Array Value,v = .func f first cap ∧ RepL I μ (first ++ cap).toList (df ++ dc) := by
 cases h with
 | fn _ first cap _ _ hf hc h1 h2 =>
  refine ⟨first,cap,rfl,?_⟩
  rw [Array.toList_append]
  refine ⟨by simp [hf,hc],fun i v d p q => ?_⟩
  rw [List.getElem?_append] at p q
  have hl : first.toList.length = df.length := by simpa using hf
  rw [hl] at p
  split at p
  ·rename_i hlt
   rw [if_pos hlt] at q
   exact h1 i v d (by simpa using p) q
  ·rename_i hlt
   rw [if_neg hlt] at q
   exact h2 _ v d (by simpa using p) q
section
variable {P : Program} {f g : FuncId} {t tb : TypeId} {fn fg : Func} {cf cg : Code} {df dc : List D} {st0 st1 : St} {d : D}
theorem M2 {I : Imm} {μ : Mu} {xs : Array Value} (hxs : RepL I μ xs.toList [.fn (.func g) df dc]) : ∃ first cap : Array Value,xs = #[.func (.func g) first cap] ∧ RepL I μ (first ++ cap).toList (df ++ dc) := by
 obtain ⟨l,rfl⟩ : ∃ l : List Value,xs = l.toArray := ⟨xs.toList,by simp⟩
 rw [List.toList_toArray] at hxs
 match l,hxs with
 | [v],hxs =>
  obtain ⟨first,cap,rfl,h⟩ := (hxs.2 0 v _ rfl rfl).fnD
  exact ⟨first,cap,rfl,h⟩
 | [],hxs => exact absurd hxs.1 (by simp)
 | _ :: _ :: _,hxs => exact absurd hxs.1 (by simp)
theorem Of (hf : P.funcs[f]? = some fn) (hn : (fn.name == "runtime.NumGoroutine") = false) (hb : fn.body = some cf) (hs : HoldsSpec P f t tb)
  (hg : P.funcs[g]? = some fg) (hgn : (fg.name == "runtime.NumGoroutine") = false) (hgb : fg.body = some cg) (hE : AP P g (df ++ dc) st0 (.ret d st1)) : AP P f [.fn (.func g) df dc] st0 (.ret (.imm (.bool true)) st1) := by
 intro I μ w xs hst hxs
 obtain ⟨first,cap,rfl,hx⟩ := M2 hxs
 rw [run_callFunc_body hf hn hb]
 have hheap : (w.alloc (.cells #[.bool false] tb)).heap = w.heap.push (.cells #[.bool false] tb (0,0)) := rfl
 have hgrow : ∀ r,r < w.heap.size → (w.alloc (.cells #[.bool false] tb)).heap[r]? = w.heap[r]? := fun r hr => by rw [hheap];simp [Array.getElem?_push,Nat.ne_of_lt hr]
 have hself : (w.alloc (.cells #[.bool false] tb)).heap[w.heap.size]? = some (.cells #[.bool false] tb (0,0)) := by rw [hheap];simp
 have hsize : (w.alloc (.cells #[.bool false] tb)).heap.size = w.heap.size + 1 := by rw [hheap];simp
 have hlt : ∀ b o,I b = some o → b < w.heap.size := fun b o h => (Array.getElem?_eq_some_iff.1 (hst.imm b o h)).1
 have hst1 : StRep I μ st0 [] (w.alloc (.cells #[.bool false] tb)) := hst.other (by omega) (fun b o h => hgrow b (hlt b o h)) (fun b h => hgrow b (C0 hst h))
 have hno : ¬ AG μ st0 w.heap.size := fun h => absurd (C0 hst h) (Nat.lt_irrefl _)
 have hIn : I w.heap.size = none := by
  cases h : I w.heap.size with
  | none => rfl
  | some o => exact absurd (hlt _ o h) (Nat.lt_irrefl _)
 have hcall := hE I μ _ (first ++ cap) hst1 hx
 have hrun := run_callFunc_body (w := w.alloc (.cells #[.bool false] tb)) hg hgn hgb (first ++ cap)
 rw [hrun] at hcall
 have hcall : Calls P g (first ++ cap) (w.alloc (.cells #[.bool false] tb)) (fun e w' => match e with
  | .returned u => ∃ I' μ',RepD I' μ' u d ∧ StRep I' μ' st1 [] w' ∧ Pin (Db st0) μ μ' ∧ Ext I μ st0 (w.alloc (.cells #[.bool false] tb)) I' μ' st1 w'
  | .panicked _ => False
  | .outgrown => False) := hcall
 have keep : ∀ w' I' μ',Ext I μ st0 (w.alloc (.cells #[.bool false] tb)) I' μ' st1 w' → w'.heap[w.heap.size]? = some (.cells #[.bool false] tb (0,0)) := fun w' I' μ' he => (he.block _ (by omega) hno).trans hself
 show Calls P f _ w _
 refine Calls.mono (hs g first cap w (fun w' => ∃ I' μ',StRep I' μ' st1 [] w' ∧ Pin (Db st0) μ μ' ∧ Ext I μ st0 (w.alloc (.cells #[.bool false] tb)) I' μ' st1 w') (fun _ => False) hrun (Calls.mono hcall ?_) (fun w' ⟨I',μ',_,_,he⟩ => keep w' I' μ' he) (fun _ h => h.elim)) ?_
 ·intro e w' he
  cases e with
  | returned u => obtain ⟨I',μ',_,h2,h3,h4⟩ := he;exact ⟨I',μ',h2,h3,h4⟩
  | panicked => exact he.elim
  | outgrown => exact he.elim
 ·rintro e w2 (⟨rfl,w1,⟨I',μ',h2,h3,h4⟩,rfl⟩ | ⟨_,_,hx,_⟩)
  ·have hc := keep w1 I' μ' h4
   rw [setCell_block hc]
   have hI' : I' w.heap.size = none := (h4.old _ (by omega) hno).trans hIn
   have hno' : ¬ AG μ' st1 w.heap.size := fun h => hno (h4.fresh _ (by omega) h)
   have hsame : ∀ b,b ≠ w.heap.size → (w1.heap.setIfInBounds w.heap.size (.cells #[.bool true] tb (0,0)))[b]? = w1.heap[b]? := fun b hb => Array.getElem?_setIfInBounds_ne (Ne.symm hb)
   refine ⟨I',μ',.imm _ _ (.bool true),?_,h3,?_⟩
   ·exact h2.other (by simp) (fun b o h => hsame b fun e => by rw [e,hI'] at h;cases h) (fun b h => hsame b fun e => hno' (e ▸ h))
   ·have hsz := h4.size
    exact { imm := h4.imm,os := h4.os,tape := h4.tape,output := h4.output,size := by simp;omega,
            block := fun b hb ho => (hsame b (by omega)).trans ((h4.block b (by omega) ho).trans (hgrow b hb)),fresh := fun b hb ho => h4.fresh b (by omega) ho,old := fun b hb ho => h4.old b (by omega) ho }
  ·exact hx.elim
theorem Q3 (hf : P.funcs[f]? = some fn) (hn : (fn.name == "runtime.NumGoroutine") = false) (hb : fn.body = some cf) (hs : HoldsSpec P f t tb)
  (hg : P.funcs[g]? = some fg) (hgn : (fg.name == "runtime.NumGoroutine") = false) (hgb : fg.body = some cg) (hE : AP P g (df ++ dc) st0 (.pan (.iface t (.agg [])))) : AP P f [.fn (.func g) df dc] st0 (.ret (.imm (.bool false)) []) := by
 intro I μ w xs hst hxs
 obtain ⟨first,cap,rfl,hx⟩ := M2 hxs
 rw [run_callFunc_body hf hn hb]
 have hheap : (w.alloc (.cells #[.bool false] tb)).heap = w.heap.push (.cells #[.bool false] tb (0,0)) := rfl
 have hgrow : ∀ r,r < w.heap.size → (w.alloc (.cells #[.bool false] tb)).heap[r]? = w.heap[r]? := fun r hr => by rw [hheap];simp [Array.getElem?_push,Nat.ne_of_lt hr]
 have hself : (w.alloc (.cells #[.bool false] tb)).heap[w.heap.size]? = some (.cells #[.bool false] tb (0,0)) := by rw [hheap];simp
 have hsize : (w.alloc (.cells #[.bool false] tb)).heap.size = w.heap.size + 1 := by rw [hheap];simp
 have hlt : ∀ b o,I b = some o → b < w.heap.size := fun b o h => (Array.getElem?_eq_some_iff.1 (hst.imm b o h)).1
 have hst1 : StRep I μ st0 [] (w.alloc (.cells #[.bool false] tb)) := hst.other (by omega) (fun b o h => hgrow b (hlt b o h)) (fun b h => hgrow b (C0 hst h))
 have hno : ¬ AG μ st0 w.heap.size := fun h => absurd (C0 hst h) (Nat.lt_irrefl _)
 have hIn : I w.heap.size = none := by
  cases h : I w.heap.size with
  | none => rfl
  | some o => exact absurd (hlt _ o h) (Nat.lt_irrefl _)
 have hcall := hE I μ _ (first ++ cap) hst1 hx
 have hrun := run_callFunc_body (w := w.alloc (.cells #[.bool false] tb)) hg hgn hgb (first ++ cap)
 rw [hrun] at hcall
 have hcall : Calls P g (first ++ cap) (w.alloc (.cells #[.bool false] tb)) (fun e w' => match e with
  | .returned _ => False
  | .panicked chain => JJ (· = .iface t (.agg [])) I μ st0 (w.alloc (.cells #[.bool false] tb)) chain w'
  | .outgrown => False) := hcall
 have keep : ∀ w' I',Ext I μ st0 (w.alloc (.cells #[.bool false] tb)) I' μ [] w' → w'.heap[w.heap.size]? = some (.cells #[.bool false] tb (0,0)) := fun w' I' he => (he.block _ (by omega) hno).trans hself
 show Calls P f _ w _
 refine Calls.mono (hs g first cap w (fun _ => False) (fun w' => ∃ I',I'.ok w' ∧ Ext I μ st0 (w.alloc (.cells #[.bool false] tb)) I' μ [] w') hrun (Calls.mono hcall ?_) (fun _ h => h.elim) (fun w' ⟨I',_,he⟩ => keep w' I' he)) ?_
 ·intro e w' he
  cases e with
  | returned u => exact he.elim
  | panicked chain =>
   obtain ⟨v,x,I',h1,h2,h3,h4,h5⟩ := he
   subst h2
   cases h3 with
   | iface _ v' _ hv =>
    cases hv with
    | agg cs _ hl _ _ =>
     have : cs = #[] := Array.eq_empty_of_size_eq_zero (by simpa using hl)
     subst this
     exact ⟨h1,I',h4,h5⟩
  | outgrown => exact he.elim
 ·rintro e w2 (⟨_,_,hx,_⟩ | ⟨rfl,w1,⟨I',h2,h4⟩,rfl⟩)
  ·exact hx.elim
  ·have hc := keep w1 I' h4
   rw [setCell_block hc]
   have hI' : I' w.heap.size = none := (h4.old _ (by omega) hno).trans hIn
   have hsz := h4.size
   have hsame : ∀ b,b ≠ w.heap.size → b < w1.heap.size → (({ w1 with heap := w1.heap.setIfInBounds w.heap.size (.cells #[.bool false] tb (0,0)) } : World).alloc (.cells #[] t)).heap[b]? = w1.heap[b]? := fun b hb hlt => by
    show ((w1.heap.setIfInBounds w.heap.size _).push _)[b]? = _
    rw [Array.getElem?_push,if_neg (by simp;omega)]
    exact Array.getElem?_setIfInBounds_ne (Ne.symm hb)
   refine ⟨I',μ,.imm _ _ (.bool false),?_,Pin.refl _ _,?_⟩
   ·exact { imm := fun b o h => (hsame b (fun e => by rw [e,hI'] at h;cases h) (Array.getElem?_eq_some_iff.1 (h2 b o h)).1).trans (h2 b o h),blk := fun id blk hl => (by cases hl),apart := fun id blk g b hl => (by cases hl),inj := fun i j bi bj gi gj b hl => (by cases hl),nodup := .nil,idsFree := fun id hi => (by cases hi) }
   ·exact { imm := h4.imm,os := h4.os,tape := h4.tape,output := h4.output,size := by show w.heap.size ≤ ((w1.heap.setIfInBounds w.heap.size _).push _).size;simp;omega,
            block := fun b hb ho => (hsame b (by omega) (by omega)).trans ((h4.block b (by omega) ho).trans (hgrow b hb)),fresh := fun b hb ho => h4.fresh b (by omega) ho,old := fun b hb ho => h4.old b (by omega) ho }
end
end Go.Hk
