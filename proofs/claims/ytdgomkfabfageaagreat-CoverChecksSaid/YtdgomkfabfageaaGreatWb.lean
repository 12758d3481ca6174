/- Contracts of hearthref04: the constructor of a name, in the data type that a type names (con). (And what it stands on.) -/
import Derived.Test.YtdgomkfabfageaaGreatWa
import Derived.Test.YtdgomkfabfageaaGreatProg
import Derived.KernelRfl
set_option linter.unusedSimpArgs false
set_option linter.unusedVariables false

namespace Go.Hk
section
variable {P : Program} {n : Nat} {F : List Nat} {Q : DQ} {all : List Oper} {env env' : Env} {st st' : St} {ids ids' : List Nat} {k : List DI} {Pn : V → Prop}
theorem zd3 (h : ∀ i, lk st i = lk st' i) {id : Nat} {blk : Blk} : za3 st id blk ↔ za3 st' id blk := by unfold za3; rw [h]
theorem zef (h : ∀ i, lk st i = lk st' i) {μ : Mu} {b : Nat} : zds μ st b ↔ zds μ st' b := by
  unfold zds
  constructor <;> rintro ⟨id, blk, g, h1, h2⟩
  · exact ⟨id, blk, g, (zd3 h).1 h1, h2⟩
  · exact ⟨id, blk, g, (zd3 h).2 h1, h2⟩
theorem StRep.congr {I : Imm} {μ : Mu} {w : World} (hs : StRep I μ st ids w) (h : ∀ i, lk st i = lk st' i) : StRep I μ st' ids w :=
  { imm := hs.imm, blk := fun id blk hl => hs.blk id blk ((zd3 h).2 hl), apart := fun id blk g b hl => hs.apart id blk g b ((zd3 h).2 hl),
    inj := fun i j bi bj gi gj b hi hj => hs.inj i j bi bj gi gj b ((zd3 h).2 hi) ((zd3 h).2 hj), nodup := hs.nodup, idsFree := hs.idsFree }
theorem StRep.perm {I : Imm} {μ : Mu} {w : World} (hs : StRep I μ st ids w) (h : ids.Perm ids') : StRep I μ st ids' w :=
  { hs with nodup := h.nodup_iff.1 hs.nodup, idsFree := fun i hi => hs.idsFree i (h.mem_iff.2 hi) }
theorem Ext.congr {I J : Imm} {μ ν : Mu} {w w' : World} {st1 st1' : St} (h : Ext I μ st w J ν st' w') (h1 : ∀ i, lk st i = lk st1 i) (h2 : ∀ i, lk st' i = lk st1' i) : Ext I μ st1 w J ν st1' w' :=
  { h with block := fun b hb ho => h.block b hb (fun hx => ho ((zef h1).1 hx)), fresh := fun b hb ho => (zef h1).1 (h.fresh b hb ((zef h2).2 ho)), old := fun b hb ho => h.old b hb (fun hx => ho ((zef h1).1 hx)) }
theorem MarksOk.congr {I : Imm} {μ : Mu} {w : World} {ds : List Deferred} {st1 : St} (h : MarksOk I μ st w ds) (h1 : ∀ i, lk st i = lk st1 i) : MarksOk I μ st1 w ds := by
  obtain ⟨rs, q1, q2, q3⟩ := h
  exact ⟨rs, q1, q2, fun r hr => ⟨(q3 r hr).1, (q3 r hr).2.1, fun ho => (q3 r hr).2.2 ((zef h1).2 ho)⟩⟩
theorem zl4 {I : Imm} {μ : Mu} {a : Act} {w : World} (hI : I.ok w) (hs : a.tmps.size = n) (hd : MarksOk I μ [] w a.defers) : Conc n I μ [] [] [] a w where
  imm := hI
  blk := fun _ _ h => by simp [za3, lk] at h
  apart := fun _ _ _ _ h => by simp [za3, lk] at h
  inj := fun _ _ _ _ _ _ _ h => by simp [za3, lk] at h
  nodup := .nil
  idsFree := fun _ h => by simp at h
  size := hs
  env := fun _ _ h => by simp [lk] at h
  defers := hd
def zoj (P : Program) (Pn : V → Prop) (n : Nat) (all : List Oper) : List Oper → List Stp → Env → St → Prop
  | [], [], _, _ => True
  | o :: os, s :: ss, env, st => LD P Pn all o env st s.rd s.fr s.wr s.d ∧ (∀ t, o.dst = some t → t < n) ∧ (∀ c, o.op ≠ .defer c) ∧ zoj P Pn n all os ss (zee o.dst s.d env) (s.wr ++ st)
  | _, _, _, _ => False
def zcn (S : Nat → Bool) : List Oper → List Stp → Nat → Env → Env
  | o :: os, s :: ss, i, env => zcn S os ss (i + 1) (bif S i then zee o.dst s.d env else env)
  | _, _, _, env => env
def zh5 (S : Nat → Bool) : List Stp → Nat → St → St
  | s :: ss, i, st => zh5 S ss (i + 1) (bif S i then s.wr ++ st else st)
  | [], _, st => st
def zf5 (S : Nat → Bool) : List Stp → Nat → List Nat → List Nat
  | s :: ss, i, l => (bif S i then [] else s.fr) ++ zf5 S ss (i + 1) l
  | [], _, l => l
theorem zpf {dst : Option Nat} {d : D} {t : Nat} (h : dst ≠ some t) : lk (zee dst d env) t = lk env t := by
  cases dst with
  | none => rfl
  | some s => exact lk_cons_ne _ _ (fun e => h (by rw [e]))
theorem zg3 {dst : Option Nat} {d : D} {t : Nat} (h : dst = some t) : lk (zee dst d env) t = some d := by subst h; exact lk_cons_self _ _ _
theorem zng : ∀ {wr : St} {i : Nat}, i ∉ wr.map (·.1) → lk (wr ++ st) i = lk st i
  | [], _, _ => rfl
  | (k, x) :: r, i, h => by
    simp only [List.map_cons, List.mem_cons, not_or] at h
    rw [List.cons_append, lk_cons_ne _ _ (fun e => h.1 e.symm)]
    exact zng h.2
theorem zhs : ∀ {wr : St} {i : Nat}, i ∈ wr.map (·.1) → lk (wr ++ st) i = lk wr i
  | [], _, h => by simp at h
  | (k, x) :: r, i, h => by
    by_cases hk : k = i
    · subst hk; rw [List.cons_append, lk_cons_self, lk_cons_self]
    · rw [List.cons_append, lk_cons_ne _ _ hk, lk_cons_ne _ _ hk]
      simp only [List.map_cons, List.mem_cons] at h
      exact zhs (h.resolve_left fun e => hk e.symm)
theorem zej {S S' : Nat → Bool} {t : Nat} : ∀ (os : List Oper) (ss : List Stp) (i : Nat) (env env' : Env), lk env t = lk env' t →
    (∀ j o, os[j]? = some o → o.dst = some t → S (i + j) = S' (i + j)) → lk (zcn S os ss i env) t = lk (zcn S' os ss i env') t
  | [], ss, i, env, env', h, _ => by cases ss <;> simpa [zcn] using h
  | o :: os, [], i, env, env', h, _ => by simpa [zcn] using h
  | o :: os, s :: ss, i, env, env', h, hS => by
    simp only [zcn]
    refine zej os ss (i + 1) _ _ ?_ fun j o' hj hd => by
      have := hS (j + 1) o' (by simpa using hj) hd
      rwa [show i + 1 + j = i + (j + 1) by omega]
    by_cases hd : o.dst = some t
    · have := hS 0 o rfl hd
      simp only [Nat.add_zero] at this
      rw [this]
      cases S' i with
      | true => simp [zg3 hd]
      | false => simpa using h
    · have h1 : ∀ (c : Bool) (e : Env), lk (bif c then zee o.dst s.d e else e) t = lk e t := fun c e => by cases c <;> simp [zpf hd]
      rw [h1, h1, h]
theorem ze8 {S S' : Nat → Bool} {t : Nat} : ∀ (ss : List Stp) (i : Nat) (st st' : St), lk st t = lk st' t →
    (∀ j s, ss[j]? = some s → t ∈ s.wr.map (·.1) → S (i + j) = S' (i + j)) → lk (zh5 S ss i st) t = lk (zh5 S' ss i st') t
  | [], i, st, st', h, _ => by simpa [zh5] using h
  | s :: ss, i, st, st', h, hS => by
    simp only [zh5]
    refine ze8 ss (i + 1) _ _ ?_ fun j o' hj hd => by
      have := hS (j + 1) o' (by simpa using hj) hd
      rwa [show i + 1 + j = i + (j + 1) by omega]
    by_cases hd : t ∈ s.wr.map (·.1)
    · have := hS 0 s rfl hd
      simp only [Nat.add_zero] at this
      rw [this]
      cases S' i with
      | true => simp [zhs hd]
      | false => simpa using h
    · have h1 : ∀ (c : Bool) (e : St), lk (bif c then s.wr ++ e else e) t = lk e t := fun c e => by cases c <;> simp [zng hd]
      rw [h1, h1, h]
theorem zhx {S : Nat → Bool} : ∀ (os : List Oper) (ss : List Stp) (i : Nat) (env : Env), (∀ j, i ≤ j → S j = false) → zcn S os ss i env = env
  | [], ss, i, env, _ => by cases ss <;> rfl
  | o :: os, [], i, env, _ => rfl
  | o :: os, s :: ss, i, env, h => by
    simp only [zcn, h i (Nat.le_refl i), cond_false]
    exact zhx os ss (i + 1) env fun j hj => h j (by omega)
theorem zgu {S : Nat → Bool} : ∀ (ss : List Stp) (i : Nat) (st : St), (∀ j, i ≤ j → S j = false) → zh5 S ss i st = st
  | [], i, st, _ => rfl
  | s :: ss, i, st, h => by
    simp only [zh5, h i (Nat.le_refl i), cond_false]
    exact zgu ss (i + 1) st fun j hj => h j (by omega)
theorem ztl {S : Nat → Bool} {t : Nat} : ∀ (os : List Oper) (ss : List Stp) (k : Nat) (env : Env) (i : Nat) (o : Oper) (s : Stp), os[i]? = some o → ss[i]? = some s → o.dst = some t → S (k + i) = true →
    (∀ j o', i < j → os[j]? = some o' → o'.dst = some t → S (k + j) = false) → lk (zcn S os ss k env) t = some s.d
  | [], ss, k, env, i, o, s, h, _, _, _, _ => by simp at h
  | o1 :: os, [], k, env, i, o, s, _, h, _, _, _ => by simp at h
  | o1 :: os, s1 :: ss, k, env, 0, o, s, h1, h2, hd, hS, hno => by
    simp at h1 h2; subst h1; subst h2
    simp only [zcn]
    have := zej (S := S) (S' := fun _ => false) (t := t) os ss (k + 1) (bif S k then zee o1.dst s1.d env else env) (bif S k then zee o1.dst s1.d env else env) rfl fun j o' hj hd' => by
      have := hno (j + 1) o' (by omega) (by simpa using hj) hd'
      rwa [show k + 1 + j = k + (j + 1) by omega]
    rw [this, zhx _ _ _ _ fun _ _ => rfl]
    simp only [Nat.add_zero] at hS
    simp [hS, zg3 hd]
  | o1 :: os, s1 :: ss, k, env, i + 1, o, s, h1, h2, hd, hS, hno => by
    simp only [zcn]
    exact ztl os ss (k + 1) _ i o s (by simpa using h1) (by simpa using h2) hd (by rwa [show k + 1 + i = k + (i + 1) by omega]) fun j o' hj hj' hd' => by
      have := hno (j + 1) o' (by omega) (by simpa using hj') hd'
      rwa [show k + 1 + j = k + (j + 1) by omega]
theorem zwb {S : Nat → Bool} {t : Nat} : ∀ (ss : List Stp) (k : Nat) (st : St) (i : Nat) (s : Stp), ss[i]? = some s → t ∈ s.wr.map (·.1) → S (k + i) = true →
    (∀ j s', i < j → ss[j]? = some s' → t ∈ s'.wr.map (·.1) → S (k + j) = false) → lk (zh5 S ss k st) t = lk s.wr t
  | [], k, st, i, s, h, _, _, _ => by simp at h
  | s1 :: ss, k, st, 0, s, h2, hd, hS, hno => by
    simp at h2; subst h2
    simp only [zh5]
    have := ze8 (S := S) (S' := fun _ => false) (t := t) ss (k + 1) (bif S k then s1.wr ++ st else st) (bif S k then s1.wr ++ st else st) rfl fun j o' hj hd' => by
      have := hno (j + 1) o' (by omega) (by simpa using hj) hd'
      rwa [show k + 1 + j = k + (j + 1) by omega]
    rw [this, zgu _ _ _ fun _ _ => rfl]
    simp only [Nat.add_zero] at hS
    simp only [hS, cond_true]
    exact zhs hd
  | s1 :: ss, k, st, i + 1, s, h2, hd, hS, hno => by
    simp only [zh5]
    exact zwb ss (k + 1) _ i s (by simpa using h2) hd (by rwa [show k + 1 + i = k + (i + 1) by omega]) fun j o' hj hj' hd' => by
      have := hno (j + 1) o' (by omega) (by simpa using hj') hd'
      rwa [show k + 1 + j = k + (j + 1) by omega]
theorem zph {S S' : Nat → Bool} : ∀ (ss : List Stp) (k : Nat) (l : List Nat) (i : Nat) (s : Stp), ss[i]? = some s → S (k + i) = false → S' (k + i) = true → (∀ j, j ≠ k + i → S' j = S j) →
    (zf5 S ss k l).Perm (s.fr ++ zf5 S' ss k l)
  | [], k, l, i, s, h, _, _, _ => by simp at h
  | s1 :: ss, k, l, 0, s, h2, hS, hS', hno => by
    simp at h2; subst h2
    simp only [Nat.add_zero] at hS hS' hno
    simp only [zf5, hS, hS', cond_false, cond_true, List.nil_append]
    have : ∀ (ss : List Stp) (j : Nat), k < j → zf5 S ss j l = zf5 S' ss j l := by
      intro ss
      induction ss with
      | nil => intro j _; rfl
      | cons s ss ih => intro j hj; simp only [zf5, hno j (by omega), ih (j + 1) (by omega)]
    rw [this ss (k + 1) (by omega)]
  | s1 :: ss, k, l, i + 1, s, h2, hS, hS', hno => by
    simp only [zf5, hno k (by omega)]
    have := zph (S := S) (S' := S') ss (k + 1) l i s (by simpa using h2) (by rwa [show k + 1 + i = k + (i + 1) by omega]) (by rwa [show k + 1 + i = k + (i + 1) by omega]) (fun j hj => hno j (by omega))
    exact (List.Perm.append_left _ this).trans (by
      rw [← List.append_assoc, ← List.append_assoc]
      exact List.Perm.append_right _ List.perm_append_comm)
theorem zxy : ∀ (os : List Oper) (ss : List Stp) (k : Nat) (env : Env) (st : St), zoj P Pn n all os ss env st → ∀ (i : Nat) (o : Oper), os[i]? = some o →
    ∃ s, ss[i]? = some s ∧ LD P Pn all o (zcn (fun j => decide (j < k + i)) os ss k env) (zh5 (fun j => decide (j < k + i)) ss k st) s.rd s.fr s.wr s.d ∧ (∀ t, o.dst = some t → t < n) ∧ (∀ c, o.op ≠ .defer c)
  | [], _, _, _, _, _, i, o, h => by simp at h
  | o1 :: os, [], _, _, _, h, _, _, _ => by simp [zoj] at h
  | o1 :: os, s1 :: ss, k, env, st, h, 0, o, ho => by
    simp at ho; subst ho
    obtain ⟨h1, h2, h3, _⟩ := h
    refine ⟨s1, rfl, ?_, h2, h3⟩
    rw [zhx _ _ _ _ (fun j hj => by simp; omega), zgu _ _ _ (fun j hj => by simp; omega)]
    exact h1
  | o1 :: os, s1 :: ss, k, env, st, h, i + 1, o, ho => by
    obtain ⟨_, _, _, h4⟩ := h
    obtain ⟨s, q1, q2, q3⟩ := zxy os ss (k + 1) _ _ h4 i o (by simpa using ho)
    refine ⟨s, by simpa using q1, ?_, q3⟩
    have e : k + 1 + i = k + (i + 1) := by omega
    have hk : decide (k < k + (i + 1)) = true := by simp
    rw [e] at q2
    simp only [zcn, zh5, hk, cond_true]
    exact q2
theorem zlj : ∀ (os : List Oper) (ss : List Stp) (env : Env) (st : St), zoj P Pn n all os ss env st → ss.length = os.length
  | [], [], _, _, _ => rfl
  | [], _ :: _, _, _, h => by simp [zoj] at h
  | _ :: _, [], _, _, h => by simp [zoj] at h
  | _ :: os, _ :: ss, _, _, h => by simp [zlj os ss _ _ h.2.2.2]
theorem zl0 {A : Array Oper} : ∀ {os : List Oper} {fs : List (List Nat × List Nat)} {i : Nat} {o : Oper} {f : List Nat × List Nat}, os[i]? = some o → fs[i]? = some f → (zzd A os fs)[i]? = some (zni A o f)
  | [], _, i, o, f, h, _ => by simp at h
  | _ :: _, [], i, o, f, _, h => by simp at h
  | _ :: _, _ :: _, 0, o, f, h1, h2 => by simp at h1 h2; simp [zzd, h1, h2]
  | _ :: os, _ :: fs, i + 1, o, f, h1, h2 => by
    simp only [zzd, List.getElem?_cons_succ]
    exact zl0 (by simpa using h1) (by simpa using h2)
def cnt (S : Nat → Bool) : Nat → Nat
  | 0 => 0
  | m + 1 => cnt S m + (bif S m then 0 else 1)
theorem zj0 {S : Nat → Bool} : ∀ {m : Nat}, cnt S m = 0 → ∀ j, j < m → S j = true
  | 0, _, j, h => by omega
  | m + 1, h, j, hj => by
    simp only [cnt, Nat.add_eq_zero_iff] at h
    rcases Nat.lt_succ_iff_lt_or_eq.1 hj with h' | rfl
    · exact zj0 h.1 j h'
    · cases hS : S j with
      | true => rfl
      | false => simp [hS] at h
theorem zxv {S S' : Nat → Bool} : ∀ {m : Nat}, (∀ j, j < m → S' j = S j) → cnt S' m = cnt S m
  | 0, _ => rfl
  | m + 1, h => by
    have := zxv (S := S) (S' := S') (m := m) fun j hj => h j (by omega)
    simp only [cnt, h m (by omega), this]
theorem zn3 {S S' : Nat → Bool} {i : Nat} (h1 : S i = false) (h2 : S' i = true) (h3 : ∀ j, j ≠ i → S' j = S j) : ∀ {m : Nat}, i < m → cnt S' m + 1 = cnt S m
  | 0, h => by omega
  | m + 1, h => by
    rcases Nat.lt_succ_iff_lt_or_eq.1 h with h' | rfl
    · have := zn3 h1 h2 h3 h'
      simp only [cnt, h3 m (by omega)]
      omega
    · have := zxv (S := S) (S' := S') (m := i) fun j hj => h3 j (by omega)
      simp only [cnt, h1, h2, cond_false, cond_true]
      omega
def zib (s : Stp) : List Nat × List Nat := (s.rd, s.wr.map (·.1))
def tt1 : Nat → Bool := fun _ => true
def yd6 (Q : DQ) (x : V) : Prop := Q (.panic x) [] [] []
def DD (P : Program) (n : Nat) (F : List Nat) (Q : DQ) (all rest : List Oper) (fs : List (List Nat × List Nat)) (k : List DI) (env : Env) (st : St) (ids : List Nat) : Prop :=
  ∃ ss idsf, ids = zf5 (fun _ => false) ss 0 idsf ∧ zoj P (yd6 Q) n all rest ss env st ∧ zl6 all (fs ++ ss.map zib) = true ∧ DGo P n F Q k (zcn tt1 rest ss 0 env) (zh5 tt1 ss 0 st) idsf
theorem zlv {S S' : Nat → Bool} : ∀ (os : List Oper) (ss : List Stp) (i j : Nat) (env : Env) (st : St) (l : List Nat), (∀ m, S (i + m) = S' (j + m)) → zcn S os ss i env = zcn S' os ss j env ∧ zh5 S ss i st = zh5 S' ss j st ∧ zf5 S ss i l = zf5 S' ss j l
  | os, [], i, j, env, st, l, _ => by cases os <;> exact ⟨rfl, rfl, rfl⟩
  | os, s :: ss, i, j, env, st, l, h => by
    have h0 := h 0
    simp only [Nat.add_zero] at h0
    have hs : ∀ m, S (i + 1 + m) = S' (j + 1 + m) := fun m => by
      have := h (m + 1)
      rwa [show i + (m + 1) = i + 1 + m by omega, show j + (m + 1) = j + 1 + m by omega] at this
    cases os with
    | nil =>
      obtain ⟨_, h2, h3⟩ := zlv [] ss (i + 1) (j + 1) env (bif S' j then s.wr ++ st else st) l hs
      exact ⟨rfl, by simp only [zh5, h0, h2], by simp only [zf5, h0, h3]⟩
    | cons o os =>
      obtain ⟨h1, h2, h3⟩ := zlv os ss (i + 1) (j + 1) (bif S' j then zee o.dst s.d env else env) (bif S' j then s.wr ++ st else st) l hs
      exact ⟨by simp only [zcn, h0, h1], by simp only [zh5, h0, h2], by simp only [zf5, h0, h3]⟩
theorem zvr {o : Oper} {rest : List Oper} {fs : List (List Nat × List Nat)} {rd fr : List Nat} {wr : St} {d : D} (hl : LD P (yd6 Q) all o env st rd fr wr d) (hn : ∀ t, o.dst = some t → t < n) (hnd : ∀ c, o.op ≠ .defer c)
    (h : DD P n F Q all rest (fs ++ [(rd, wr.map (·.1))]) k (zee o.dst d env) (wr ++ st) ids') : DD P n F Q all (o :: rest) fs k env st (fr ++ ids') := by
  obtain ⟨ss, idsf, h1, h2, h3, h4⟩ := h
  refine ⟨⟨rd, fr, wr, d⟩ :: ss, idsf, ?_, ⟨hl, hn, hnd, h2⟩, ?_, ?_⟩
  · simp only [zf5, cond_false, h1]
    rw [(zlv (S := fun _ => false) (S' := fun _ => false) [] ss 0 1 env st idsf fun _ => rfl).2.2]
  · simpa [zib] using h3
  · have := zlv (S := tt1) (S' := tt1) rest ss 0 1 (zee o.dst d env) (wr ++ st) idsf fun _ => rfl
    simp only [zcn, zh5, tt1, cond_true] at this ⊢
    rw [← this.1, ← this.2.1]
    exact h4
theorem dd_nil {fs : List (List Nat × List Nat)} (hc : zl6 all fs = true) (h : DGo P n F Q k env st ids) : DD P n F Q all [] fs k env st ids :=
  ⟨[], ids, rfl, trivial, by simpa using hc, h⟩
theorem ygo {id : Nat} (hm : P.follows .mixedOrders = true) (h : DD P n F Q all all [] k env st ids) : DGo P n F Q (.code (.region id ⟨all⟩ true) :: k) env st ids := by
  obtain ⟨ss, idsf, hids, hch, hck, hfin⟩ := h
  intro b cs I μ a w items hd hc
  obtain ⟨is, rfl, hk⟩ := zjx hd
  refine zhm fun t => ?_
  simp only [Region.schedule, hm, Bool.true_or, if_true]
  simp only [zl6, Bool.and_eq_true, List.nil_append] at hck
  obtain ⟨hck, _⟩ := hck
  have hlen := zlj _ _ _ _ hch
  have hsp := fun (S : Nat → Bool) (hS : DownClosed all S) => zhb hS all _ 0 [] [] hck rfl rfl rfl (by simp [nth])
  -- no edge that binds leads upwards
  have hedge : ∀ j o, all[j]? = some o → ∀ e ∈ o.after.toList, zgn e = true → e.on < j := by
    intro j o hj e he hb
    have := (hsp (fun _ => false) (fun _ _ _ h => by cases h)).1 j o hj e he hb
    omega
  have hap : ∀ (S : Nat → Bool), DownClosed all S → ∀ i j oi oj si sj, all[i]? = some oi → all[j]? = some oj → ss[i]? = some si → ss[j]? = some sj → i < j → S i = false → S j = true →
      ApartOI (zni all.toArray oi (zib si)) (zni all.toArray oj (zib sj)) := by
    intro S hS i j oi oj si sj h1 h2 h3 h4 hij hSi hSj
    have hx := zl0 (A := all.toArray) h2 (f := zib sj) (fs := ss.map zib) (by simp [h4])
    have hy := zl0 (A := all.toArray) h1 (f := zib si) (fs := ss.map zib) (by simp [h3])
    exact ((hsp S hS).2 j _ hx (by simpa using hSj)).2 i _ hij hy (by simpa using hSi)
  -- the walk through any order
  suffices H : ∀ (fuel t : Nat) (listed : Array Bool) (a' : Act) (w' : World) (I' : Imm) (μ' : Mu), listed.size = all.length → DownClosed all (fun j => listed.getD j false) → cnt (fun j => listed.getD j false) all.length ≤ fuel →
      Conc n I' μ' (zcn (fun j => listed.getD j false) all ss 0 env) (zh5 (fun j => listed.getD j false) ss 0 st) (zf5 (fun j => listed.getD j false) ss 0 idsf) a' w' → Pin F μ μ' → a'.defers = a.defers →
      Ext I μ st w I' μ' (zh5 (fun j => listed.getD j false) ss 0 st) w' →
      Reach P b.1 cs (Post n F Q a.defers I μ st w) (.inRegion all.toArray (Region.linearise.go .any all.toArray fuel t listed []) :: is) a' w' by
    have hf : (fun j => (Array.replicate all.length false).getD j false) = fun _ => false := by
      funext j
      by_cases hj : j < all.length <;> simp [hj]
    refine H all.length t (Array.replicate all.length false) a { w with drawn := w.drawn + 1 } I μ (by simp) ?_ ?_ ?_ (.refl _ _) rfl ?_
    · rw [hf]; intro j o _ h; cases h
    · rw [hf]
      have : ∀ m, cnt (fun _ => false) m ≤ m := fun m => by induction m with
        | zero => simp [cnt]
        | succ m ih => simp only [cnt, cond_false]; omega
      exact this _
    · rw [hf, zhx _ _ _ _ fun _ _ => rfl, zgu _ _ _ fun _ _ => rfl, ← hids]
      exact hc.drew
    · rw [hf, zgu _ _ _ fun _ _ => rfl]
      exact .drew I μ st w
  -- at the end
  have hdone : ∀ (S : Nat → Bool) (a' : Act) (w' : World) (I' : Imm) (μ' : Mu), (∀ j, j < all.length → S j = true) → Conc n I' μ' (zcn S all ss 0 env) (zh5 S ss 0 st) (zf5 S ss 0 idsf) a' w' → Pin F μ μ' → a'.defers = a.defers →
      Ext I μ st w I' μ' (zh5 S ss 0 st) w' → Reach P b.1 cs (Post n F Q a.defers I μ st w) (.inRegion all.toArray [] :: is) a' w' := by
    intro S a' w' I' μ' hall hC hp hdf hE
    have he : ∀ t, lk (zcn S all ss 0 env) t = lk (zcn tt1 all ss 0 env) t := fun t => zej _ _ _ _ _ rfl fun j o hj _ => by
      have := hall j (List.getElem?_eq_some_iff.1 hj).1
      simpa [tt1] using this
    have hs : ∀ t, lk (zh5 S ss 0 st) t = lk (zh5 tt1 ss 0 st) t := fun t => ze8 _ _ _ _ rfl fun j s hj _ => by
      have := hall j (by rw [← hlen]; exact (List.getElem?_eq_some_iff.1 hj).1)
      simpa [tt1] using this
    have hi : ∀ (ss : List Stp) (k : Nat), (∀ j, j < k + ss.length → S j = true) → zf5 S ss k idsf = idsf := by
      intro ss
      induction ss with
      | nil => intro k _; rfl
      | cons s ss ih =>
        intro k hk
        simp only [zf5, hk k (by simp), cond_true, List.nil_append]
        exact ih (k + 1) fun j hj => hk j (by simp at hj ⊢; omega)
    rw [hi ss 0 (fun j hj => hall j (by omega))] at hC
    refine zbj ?_
    have hC' : Conc n I' μ' (zcn tt1 all ss 0 env) (zh5 tt1 ss 0 st) idsf a' w' := { hC.toStRep.congr hs with size := hC.size, env := fun t d hl => hC.env t d (by rw [he]; exact hl), defers := hC.defers.congr hs }
    have := hfin b cs I' μ' a' w' is hk hC'
    rw [hdf] at this
    exact this.mono fun e a2 w2 hq => hq.back hp (hE.congr (fun _ => rfl) hs)
  intro fuel
  induction fuel with
  | zero =>
    intro t listed a' w' I' μ' hsz hdc hcnt hC hp hdf hE
    simp only [Region.linearise.go, List.reverse_nil]
    exact hdone _ a' w' I' μ' (fun j hj => zj0 (Nat.le_zero.1 hcnt) j hj) hC hp hdf hE
  | succ fuel ih =>
    intro t listed a' w' I' μ' hsz hdc hcnt hC hp hdf hE
    simp only [Region.linearise.go]
    change Reach P b.1 cs (Post n F Q a.defers I μ st w) (.inRegion all.toArray (match (Region.ready .any all.toArray listed)[t % (Region.ready .any all.toArray listed).length]? with
      | some i => Region.linearise.go .any all.toArray fuel (t / (Region.ready .any all.toArray listed).length) (listed.setIfInBounds i true) [i]
      | none => [].reverse) :: is) a' w'
    have hgd : ∀ j, j < all.length → listed.getD j true = listed.getD j false := fun j hj => by simp [hsz, hj]
    cases hi : (Region.ready .any all.toArray listed)[t % (Region.ready .any all.toArray listed).length]? with
    | none =>
      have hnil : Region.ready .any all.toArray listed = [] := by
        cases hr : Region.ready .any all.toArray listed with
        | nil => rfl
        | cons x xs =>
          rw [hr] at hi
          have hlt : t % (x :: xs).length < (x :: xs).length := Nat.mod_lt _ (by simp)
          simp at hi
          simp at hlt
          omega
      have hall : ∀ m j, j < m → j < all.length → listed.getD j false = true := by
        intro m
        induction m with
        | zero => intro j hj; omega
        | succ m ihm =>
          intro j hj hja
          cases hS : listed.getD j false with
          | true => rfl
          | false =>
            have hmem : j ∈ Region.ready .any all.toArray listed := by
              refine mem_ready.2 ⟨by rw [hgd j hja, hS], all[j], by simp [hja], fun e he hb => ?_⟩
              have hlt := hedge j all[j] (by simp [hja]) e (by simpa using he) (by rw [zek]; exact hb)
              exact ihm e.on (by omega) (by omega)
            rw [hnil] at hmem; cases hmem
      exact hdone _ a' w' I' μ' (fun j hj => hall (j + 1) j (by omega) hj) hC hp hdf hE
    | some i =>
      simp only []
      rw [linearise_go_acc, List.reverse_singleton, List.singleton_append]
      have hmem := List.mem_of_getElem? hi
      obtain ⟨hun, o, ho, hbef⟩ := mem_ready.1 hmem
      have hil : i < all.length := by
        have := (Array.getElem?_eq_some_iff.1 ho).1
        simpa using this
      have hSi : listed.getD i false = false := by rw [← hgd i hil]; exact hun
      have ho' : all[i]? = some o := by simpa using ho
      obtain ⟨s, hs, hLD, hn, hnd⟩ := zxy all ss 0 env st hch i o ho'
      simp only [Nat.zero_add] at hLD
      -- the set with i
      have hS' : ∀ j, (listed.setIfInBounds i true).getD j false = (bif Nat.beq j i then true else listed.getD j false) := by
        intro j
        by_cases hj : j = i
        · subst hj; simp [hsz, hil]
        · have : Nat.beq j i = false := by
            cases hb : Nat.beq j i with
            | false => rfl
            | true => exact absurd (Nat.eq_of_beq_eq_true hb) hj
          simp [this, Array.getElem?_setIfInBounds_ne (Ne.symm hj)]
      have hS'i : (listed.setIfInBounds i true).getD i false = true := by rw [hS']; simp
      have hS'n : ∀ j, j ≠ i → (listed.setIfInBounds i true).getD j false = listed.getD j false := by
        intro j hj
        rw [hS']
        have : Nat.beq j i = false := by
          cases hb : Nat.beq j i with
          | false => rfl
          | true => exact absurd (Nat.eq_of_beq_eq_true hb) hj
        simp [this]
      have hdc' : DownClosed all (fun j => (listed.setIfInBounds i true).getD j false) := by
        intro j oj hj hSj e he hb
        by_cases hji : j = i
        · subst hji
          rw [ho'] at hj; cases hj
          have := hbef e (by simpa using he) (by rw [← zek]; exact hb)
          by_cases hei : e.on = j
          · rw [hei]; exact hS'i
          · exact (hS'n _ hei).trans this
        · have hSj' : listed.getD j false = true := by have := hS'n j hji; simp only at hSj; rw [this] at hSj; exact hSj
          have := hdc j oj hj hSj' e he hb
          by_cases hei : e.on = i
          · rw [hei]; exact hS'i
          · exact (hS'n _ hei).trans this
      -- what is apart from i
      have hA : ∀ j oj sj, all[j]? = some oj → ss[j]? = some sj → j ≠ i → listed.getD j false ≠ decide (j < i) → ApartOI (zni all.toArray o (zib s)) (zni all.toArray oj (zib sj)) := by
        intro j oj sj h1 h2 hji hne
        by_cases hlt : j < i
        · have hf : listed.getD j false = false := by
            cases h : listed.getD j false with
            | false => rfl
            | true => exact absurd (by rw [h]; simp [hlt]) hne
          exact (hap _ hdc' j i oj o sj s h1 ho' h2 hs hlt ((hS'n j hji).trans hf) hS'i).symm
        · have hf : listed.getD j false = true := by
            cases h : listed.getD j false with
            | true => rfl
            | false => exact absurd (by rw [h]; simp [hlt]) hne
          exact hap _ hdc i j o oj s sj ho' h1 hs h2 (by omega) hSi hf
      have hss : ∀ j oj, all[j]? = some oj → ∃ sj, ss[j]? = some sj := fun j oj h => by
        have : j < ss.length := by rw [hlen]; exact (List.getElem?_eq_some_iff.1 h).1
        exact ⟨_, List.getElem?_eq_getElem this⟩
      have hoo : ∀ j sj, ss[j]? = some sj → ∃ oj, all[j]? = some oj := fun j oj h => by
        have : j < all.length := by rw [← hlen]; exact (List.getElem?_eq_some_iff.1 h).1
        exact ⟨_, List.getElem?_eq_getElem this⟩
      have hag : Agree s.rd (zh5 (fun j => decide (j < i)) ss 0 st) (zh5 (fun j => listed.getD j false) ss 0 st) := by
        intro id hid
        refine ze8 _ _ _ _ rfl fun j sj hj hw => ?_
        rw [Nat.zero_add]
        by_cases hji : j = i
        · subst hji; rw [hSi]; simp
        · obtain ⟨oj, hoj⟩ := hoo j sj hj
          cases hq : decide (listed.getD j false = decide (j < i)) with
          | true => exact of_decide_eq_true hq
          | false => exact absurd hid ((hA j oj sj hoj hj hji (of_decide_eq_false hq)).e id hw)
      have hel : ∀ t ∈ o.looksAt all.toArray, lk (zcn (fun j => listed.getD j false) all ss 0 env) t = lk (zcn (fun j => decide (j < i)) all ss 0 env) t := by
        intro t ht
        refine zej _ _ _ _ _ rfl fun j oj hj hd => ?_
        rw [Nat.zero_add]
        by_cases hji : j = i
        · subst hji; rw [hSi]; simp
        · obtain ⟨sj, hsj⟩ := hss j oj hj
          cases hq : decide (listed.getD j false = decide (j < i)) with
          | true => exact of_decide_eq_true hq
          | false => exact absurd ht ((hA j oj sj hj hsj hji (of_decide_eq_false hq)).b t hd)
      have hperm := zph (S := fun j => listed.getD j false) (S' := fun j => (listed.setIfInBounds i true).getD j false) ss 0 idsf i s hs (by simpa using hSi) (by simpa using hS'i) (fun j hj => hS'n j (by omega))
      have hEnv : ∀ t, lk (zee o.dst s.d (zcn (fun j => listed.getD j false) all ss 0 env)) t = lk (zcn (fun j => (listed.setIfInBounds i true).getD j false) all ss 0 env) t := by
        intro t
        by_cases hd : o.dst = some t
        · rw [zg3 hd]
          refine (ztl all ss 0 env i o s ho' hs hd (by simpa using hS'i) fun j o' hij hj hd' => ?_).symm
          obtain ⟨sj, hsj⟩ := hss j o' hj
          simp only [Nat.zero_add]
          rw [hS'n j (by omega)]
          cases hq : listed.getD j false with
          | false => rfl
          | true => exact absurd hd' ((hA j o' sj hj hsj (by omega) (by rw [hq]; simp; omega)).c t hd)
        · rw [zpf hd]
          refine zej _ _ _ _ _ rfl fun j oj hj hd' => ?_
          simp only [Nat.zero_add]
          have hji : j ≠ i := fun e => by subst e; rw [ho'] at hj; cases hj; exact hd hd'
          rw [hS'n j hji]
      have hSt : ∀ t, lk (s.wr ++ zh5 (fun j => listed.getD j false) ss 0 st) t = lk (zh5 (fun j => (listed.setIfInBounds i true).getD j false) ss 0 st) t := by
        intro t
        by_cases hd : t ∈ s.wr.map (·.1)
        · rw [zhs hd]
          refine (zwb ss 0 st i s hs hd (by simpa using hS'i) fun j s' hij hj hd' => ?_).symm
          obtain ⟨oj, hoj⟩ := hoo j s' hj
          simp only [Nat.zero_add]
          rw [hS'n j (by omega)]
          cases hq : listed.getD j false with
          | false => rfl
          | true => exact absurd hd' ((hA j oj s' hoj hj (by omega) (by rw [hq]; simp; omega)).f t hd)
        · rw [zng hd]
          refine ze8 _ _ _ _ rfl fun j sj hj hd' => ?_
          simp only [Nat.zero_add]
          have hji : j ≠ i := fun e => by subst e; rw [hs] at hj; cases hj; exact hd hd'
          rw [hS'n j hji]
      obtain ⟨hl1, hl2⟩ := hLD I' μ' _ _ a' w' hag (hC.toStRep.perm hperm) (fun t ht d hl => hC.env t d (by rw [hel t ht]; exact hl))
      -- after the operation
      have cont : ∀ v w2 I2 μ2, StRep I2 μ2 (s.wr ++ zh5 (fun j => listed.getD j false) ss 0 st) (zf5 (fun j => (listed.setIfInBounds i true).getD j false) ss 0 idsf) w2 → RepD I2 μ2 v s.d → μ'.le μ2 →
          Ext I' μ' (zh5 (fun j => listed.getD j false) ss 0 st) w' I2 μ2 (s.wr ++ zh5 (fun j => listed.getD j false) ss 0 st) w2 →
          Reach P b.1 cs (Post n F Q a.defers I μ st w) (.inRegion all.toArray (Region.linearise.go .any all.toArray fuel (t / (Region.ready .any all.toArray listed).length) (listed.setIfInBounds i true) []) :: is) (a'.put o.dst v) w2 := by
        intro v w2 I2 μ2 q1 q2 q3 q4
        obtain ⟨p1, p2, p3⟩ := zql (n := n) (w := w2) (dst := o.dst) (fun t d hl => (hC.env t d hl).mono q4.imm q3) hC.size hn q2
        refine ih _ (listed.setIfInBounds i true) _ w2 I2 μ2 (by simp [hsz]) hdc' ?_ ?_ (hp.trans (.of_le q3)) (p3.trans hdf) (hE.trans (q4.congr (fun _ => rfl) hSt))
        · have := zn3 (S := fun j => listed.getD j false) (S' := fun j => (listed.setIfInBounds i true).getD j false) hSi hS'i hS'n hil
          omega
        · refine { q1.congr hSt with size := p2, env := fun t d hl => ?_, defers := by rw [p3]; exact (hC.defers.ext q4).congr hSt }
          rw [← hEnv t] at hl
          have : zee o.dst s.d (zcn (fun j => listed.getD j false) all ss 0 env) = (match o.dst with | some t => (t, s.d) :: zcn (fun j => listed.getD j false) all ss 0 env | none => zcn (fun j => listed.getD j false) all ss 0 env) := by
            cases o.dst <;> rfl
          rw [this] at hl
          exact p1 t d hl
      by_cases hw : Region.wanted o (yielded all.toArray a'.tmps) = true
      · refine zce ho hw hnd (valX.upon ((hl1 hw).mono (fun v w2 ⟨I2, μ2, q1, q2, q3, q4⟩ => cont v w2 I2 μ2 q1 q2 q3 q4) fun chain w2 hx => ?_))
        obtain ⟨v, x, I2, q1, q2, q3, q4, q5⟩ := hx
        refine ⟨.panic x, [], [], [], I2, μ', ⟨v, q1, q3⟩, q2, ?_, hp, hE.trans q5, by rw [hdf]; exact .refl _ _⟩
        exact zl4 q4 hC.size (hC.defers.ext q5)
      · have hw' : Region.wanted o (yielded all.toArray a'.tmps) = false := by simpa using hw
        obtain ⟨e1, e2, e3⟩ := hl2 hw'
        refine zbs ho hw' ?_
        refine cont undef w' I' μ' ?_ e3 (Mu.le_refl μ') ?_
        · rw [e1]
          have := hC.toStRep.perm hperm
          rw [e2] at this
          exact this
        · rw [e1]; exact Ext.refl _ _ _ _
theorem dgo_l {all rest : List Oper} {o : Oper} {d : D} {rd fr : List Nat} {wr : St} (hl : LD P (yd6 Q) all o env st rd fr wr d) (hn : ∀ t, o.dst = some t → t < n) (hnd : ∀ c, o.op ≠ .defer c)
    (h : DGo P n F Q (.ops all rest :: k) (zee o.dst d env) (wr ++ st) ids') : DGo P n F Q (.ops all (o :: rest) :: k) env st (fr ++ ids') := by
  intro b cs I μ a w items hd hc
  obtain ⟨j, is, rfl, hr, hk⟩ := zkq hd
  obtain ⟨hj, hr'⟩ := zb2 hr
  have hon : zrs (o.looksAt all.toArray) I μ env a := fun t _ d hl => hc.env t d hl
  obtain ⟨hl1, hl2⟩ := hl I μ st ids' a w (fun _ _ => rfl) hc.toStRep hon
  have cont : ∀ v w' I' μ', StRep I' μ' (wr ++ st) ids' w' → RepD I' μ' v d → μ.le μ' → Ext I μ st w I' μ' (wr ++ st) w' → Reach P b.1 cs (Post n F Q a.defers I μ st w) (.inRegion all.toArray (List.range' (j + 1) rest.length) :: is) (a.put o.dst v) w' := by
    intro v w' I' μ' q1 q2 q4 q3
    obtain ⟨p1, p2, p3⟩ := zql (n := n) (w := w') (dst := o.dst) (fun t d hl => (hc.env t d hl).mono q3.imm q4) hc.size hn q2
    have := h b cs I' μ' (a.put o.dst v) w' (.inRegion all.toArray (List.range' (j + 1) rest.length) :: is) ⟨⟨rfl, j + 1, hr', rfl⟩, hk⟩
      { q1 with size := p2, env := by cases hdst : o.dst <;> simpa [zee, hdst] using p1, defers := by rw [p3]; exact hc.defers.ext q3 }
    rw [p3] at this
    exact this.mono fun e a' w'' hp => hp.back (.of_le q4) q3
  have hlen : (o :: rest).length = rest.length + 1 := rfl
  rw [hlen, List.range'_succ]
  by_cases hw : Region.wanted o (yielded all.toArray a.tmps) = true
  · refine zce hj hw hnd (valX.upon ((hl1 hw).mono (fun v w2 ⟨I2, μ2, q1, q2, q3, q4⟩ => cont v w2 I2 μ2 q1 q2 q3 q4) fun chain w2 hx => ?_))
    obtain ⟨v, x, I2, q1, q2, q3, q4, q5⟩ := hx
    refine ⟨.panic x, [], [], [], I2, μ, ⟨v, q1, q3⟩, q2, ?_, .refl _ _, q5, .refl _ _⟩
    exact zl4 q4 hc.size (hc.defers.ext q5)
  · have hw' : Region.wanted o (yielded all.toArray a.tmps) = false := by simpa using hw
    obtain ⟨e1, e2, e3⟩ := hl2 hw'
    refine zbs hj hw' ?_
    refine cont undef w I μ ?_ e3 (Mu.le_refl μ) ?_
    · rw [e1]
      have := hc.toStRep
      rw [e2] at this
      exact this
    · rw [e1]; exact Ext.refl _ _ _ _
end
end Go.Hk
namespace Go.Hk
inductive Res where
  | at (todo : List DI) (env : Env) (st : St) (ids : List Nat) (ob : List Prop)
  | bad
inductive Pt where
  | t
  | f
  | a
  | s
def run (tt : TT) (n : Nat) : Nat → List Pt → List DI → Env → St → List Nat → List Prop → Res
  | 0, _, k, env, st, ids, ob => .at k env st ids ob
  | f + 1, path, todo, env, st, ids, ob => match todo with
    | .code (.seq a b) :: k => run tt n f path (.code a :: .code b :: k) env st ids ob
    | .code .skip :: k => run tt n f path k env st ids ob
    | .code (.label _) :: k => run tt n f path k env st ids ob
    | .inBlock _ :: k => match path with
      | .s :: _ => .at k env st ids ob
      | _ => run tt n f path k env st ids ob
    | .inScope _ :: k => run tt n f path k env st ids ob
    | .code (.block id c) :: k => run tt n f path (.code c :: .inBlock id :: k) env st ids ob
    | .code (.scope c) :: k => run tt n f path (.code c :: .inScope c :: k) env st ids ob
    | .code (.exit id) :: k => match zls id k with
      | some k' => run tt n f path k' env st ids ob
      | none => .at (.code (.exit id) :: k) env st ids ob
    | .code (.region _ ⟨ops⟩ false) :: k => run tt n f path (.ops ops ops :: k) env st ids ob
    | .code (.region _ ⟨ops⟩ true) :: k => run tt n f path (.dops ops ops [] :: k) env st ids ob
    | .ops _ [] :: k => run tt n f path k env st ids ob
    | .ops all (o :: r) :: k => match zh1 tt n all o env st ids with
      | .y _ env' [] => run tt n f path (.ops all r :: k) env' st ids ob
      | .y _ env' [p] => run tt n f path (.ops all r :: k) env' st ids (p :: ob)
      | .y _ env' [p, q] => run tt n f path (.ops all r :: k) env' st ids (p :: q :: ob)
      | .y _ env' (p :: q :: l) => run tt n f path (.ops all r :: k) env' st ids (p :: q :: cat l ob)
      | .e env' st' ids' [] => run tt n f path (.ops all r :: k) env' st' ids' ob
      | .e env' st' ids' [p] => run tt n f path (.ops all r :: k) env' st' ids' (p :: ob)
      | .e env' st' ids' (p :: l) => run tt n f path (.ops all r :: k) env' st' ids' (p :: cat l ob)
      | .no => .at (.ops all (o :: r) :: k) env st ids ob
    | .dops all [] fs :: k => run tt n f path k env st ids ((zl6 all fs.reverse = true) :: ob)
    | .dops all (o :: r) fs :: k => match zh1 tt n all o env st ids, ya0 env o.op with
      | .y _ env' [], [] => run tt n f path (.dops all r (([], []) :: fs) :: k) env' st ids ob
      | .y _ env' [], [i] => run tt n f path (.dops all r (([i], []) :: fs) :: k) env' st ids ob
      | .y _ env' [p], [] => run tt n f path (.dops all r (([], []) :: fs) :: k) env' st ids (p :: ob)
      | .y _ env' [p], [i] => run tt n f path (.dops all r (([i], []) :: fs) :: k) env' st ids (p :: ob)
      | .y _ env' (p :: l), rd => run tt n f path (.dops all r ((rd, []) :: fs) :: k) env' st ids (p :: cat l ob)
      | .e env' ((i, x) :: st') ids' ob', [] => run tt n f path (.dops all r (([], [i]) :: fs) :: k) env' ((i, x) :: st') ids' (cat ob' ob)
      | .e env' ((i, x) :: st') ids' ob', [j] => run tt n f path (.dops all r (([j], [i]) :: fs) :: k) env' ((i, x) :: st') ids' (cat ob' ob)
      | _, _ => .at (.dops all (o :: r) fs :: k) env st ids ob
    | .code (.cond c x y) :: k => match path, evO env c with
      | .t :: path', some (.imm (.bool t)) => run tt n f path' (.code x :: k) env st ids ((t = true) :: ob)
      | .f :: path', some (.imm (.bool t)) => run tt n f path' (.code y :: k) env st ids ((t = false) :: ob)
      | .a :: path', some (.imm (.bool t)) => run tt n f path' (.code (bif t then x else y) :: k) env st ids ob
      | _, _ => .at (.code (.cond c x y) :: k) env st ids ob
    | k => .at k env st ids ob
def G (P : Program) (n : Nat) (F : List Nat) (Q : DQ) (todo : List DI) (env : Env) (st : St) (ids : List Nat) : Prop :=
  match todo with
  | .dops all rest fs :: k => DD P n F Q all rest fs.reverse k env st ids
  | todo => DGo P n F Q todo env st ids
section
variable {P : Program} {n : Nat} {F : List Nat} {Q : DQ} {tt : TT} {env env' : Env} {st st' : St} {ids ids' : List Nat} {k : List DI} {cx : Prop} {d : D} {ob ob' : List Prop} {todo : List DI} {Pn : V → Prop}
theorem G.go (h : G P n F Q todo env st ids) : DGo P n F Q todo env st ids := by
  unfold G at h
  split at h
  · intro b cs I μ a w items hd hc
    obtain ⟨i, is, rfl, h1, _⟩ := zf9 hd
    cases i <;> exact h1.elim
  · exact h
theorem LD.ld_y {all : List Oper} {o : Oper} {rd : List Nat} (h : ∀ st', Agree rd st st' → YD P all o env st' d) : LD P Pn all o env st rd [] [] d := by
  intro I μ st1 ids1 a w hag hst hon
  obtain ⟨h1, h2⟩ := h st1 hag I μ _ a w hst hon
  exact ⟨fun hw => ((h1 hw).mono fun v w' ⟨I', q1, q2, q3⟩ => ⟨I', μ, q1, q2, Mu.le_refl μ, q3⟩).x, fun hw => ⟨rfl, rfl, h2 hw⟩⟩
theorem zmm {all : List Oper} {o : Oper} {rd : Bool} (h : zh1 tt n all o env st ids = .y rd env' ob) (hag : Agree (ya0 env o.op) st st') : zh1 tt n all o env st' ids = .y rd env' ob := by
  unfold zh1 at h ⊢
  split at h
  · rename_i hg
    simp only [zte hag]
    split at h
    · exact h
    · exact h
    · split at h
      · exact absurd h zwo
      · cases h
  · rename_i j w0 hg
    simp only [zte hag]
    exact h
theorem ye6 {dst : Option Nat} {d d' : D} (h : zee dst d env = zee dst d' env) : dst = none ∨ d = d' := by
  cases dst with
  | none => exact .inl rfl
  | some t => simp only [zee, List.cons.injEq, Prod.mk.injEq, true_and, and_true] at h; exact .inr h
theorem ybx (htt : TTok P tt) {all : List Oper} {o : Oper} {rd : Bool} (h : zh1 tt n all o env st ids = .y rd env' ob) (hob : zbh ob) :
    ∃ d, env' = zee o.dst d env ∧ (∀ t, o.dst = some t → t < n) ∧ (∀ c, o.op ≠ .defer c) ∧ YD P all o env st d ∧ LD P Pn all o env st (ya0 env o.op) [] [] d := by
  obtain ⟨d, e1, e2, e3, e4, _⟩ := zqb htt h hob
  cases hdst : o.dst with
  | some t =>
    refine ⟨d, by rw [e1, hdst], fun t' ht => e2 t' (by rw [hdst]; exact ht), e3, e4, LD.ld_y fun st' hag => ?_⟩
    obtain ⟨d', e1', _, _, e4', _⟩ := zqb htt (zmm h hag) hob
    rw [e1] at e1'
    rcases ye6 e1' with h | h
    · rw [hdst] at h; cases h
    · rw [h]; exact e4'
  | none =>
    refine ⟨.undef, (by rw [e1, hdst]; rfl), (fun t' ht => by cases ht), e3, ?_, LD.ld_y fun st' hag => ?_⟩
    · intro I μ ids a w hst hon
      obtain ⟨h1, _⟩ := e4 I μ ids a w hst hon
      exact ⟨fun hw => (h1 hw).mono fun v w' ⟨I', q1, _, q3⟩ => ⟨I', q1, .undef _, q3⟩, fun _ => .undef _⟩
    · obtain ⟨d', _, _, _, e4', _⟩ := zqb htt (zmm h hag) hob
      intro I μ ids a w hst hon
      obtain ⟨h1, _⟩ := e4' I μ ids a w hst hon
      exact ⟨fun hw => (h1 hw).mono fun v w' ⟨I', q1, _, q3⟩ => ⟨I', q1, .undef _, q3⟩, fun _ => .undef _⟩
theorem yby (htt : TTok P tt) {all : List Oper} {o : Oper} {i : Nat} {x : Option Blk} (h : zh1 tt n all o env st ids = .e env' ((i, x) :: st') ids' ob) (hob : zbh ob) :
    ∃ d fr, st' = st ∧ ids = fr ++ ids' ∧ env' = zee o.dst d env ∧ (∀ t, o.dst = some t → t < n) ∧ (∀ c, o.op ≠ .defer c) ∧ ED P all o env st ids d ((i, x) :: st') ids' ∧ LD P Pn all o env st (ya0 env o.op) fr [(i, x)] d := by
  have h0 := h
  unfold zh1 at h
  split at h
  · rename_i hg
    split at h
    · exact absurd h zgx
    · exact absurd h zgx
    · split at h
      · rename_i d s i2 ob2 he
        obtain ⟨rfl, rfl, rfl, e1, e2⟩ := yhe h
        obtain ⟨fr, wr, q1, q2, _, q4⟩ := ztf he
        have hwr : wr = [(i, x)] ∧ st' = st := by
          have hcons : ∀ (op : Op) (env : Env) {d : D} {s : St} {i : List Nat} {ob : List Prop}, evE tt env st ids op = .e d s i ob → ∃ p, s = p :: st := by
            intro op env d s i ob h
            obtain ⟨fr, wr, a1, a2, a3, a4⟩ := ztf h
            cases op <;> simp only [evE, zr6, reduceCtorEq] at h
            all_goals (repeat' split at h) <;> first | (cases h; done) | (cases h; exact ⟨_, rfl⟩)
          obtain ⟨p, hp⟩ := hcons _ _ he
          cases hp
          have : wr.length = 1 := by have := congrArg List.length q2; simp at this; omega
          match wr, this with
          | [y], _ => simp at q2; exact ⟨by rw [q2], rfl⟩
        obtain ⟨rfl, rfl⟩ := hwr
        have hnd : ∀ c, o.op ≠ .defer c := fun c hc => by rw [hc, ztg] at he; cases he
        refine ⟨d, fr, rfl, q1, e1, e2, hnd, fun I μ a w hst hon => ⟨wanted_none hg, ycz htt hst (zbr hon) he hob⟩, fun I μ st1 ids1 a w hag hst hon => ⟨fun _ => ?_, fun hw => ?_⟩⟩
        · exact (ycz htt hst (zbr hon) (q4 st1 ids1 hag) hob).x
        · rw [wanted_none hg] at hw; cases hw
      · cases h
  · split at h
    · split at h
      · split at h
        · exact absurd h zgx
        · exact absurd h zgx
        · cases h
      · cases h
    · cases h
theorem run_ok (htt : TTok P tt) (hm : P.follows .mixedOrders = true) : ∀ (f : Nat) (path : List Pt) (todo : List DI) (env : Env) (st : St) (ids : List Nat) (ob0 : List Prop) {todo' : List DI} {env' : Env} {st' : St} {ids' : List Nat} {ob : List Prop},
    run tt n f path todo env st ids ob0 = .at todo' env' st' ids' ob → zbh ob → zbh ob0 ∧ (G P n F Q todo' env' st' ids' → G P n F Q todo env st ids)
  | 0, path, todo, env, st, ids, ob0, todo', env', st', ids', ob, h, hob => by
    simp only [run, Res.at.injEq] at h
    obtain ⟨rfl, rfl, rfl, rfl, rfl⟩ := h
    exact ⟨hob, id⟩
  | f + 1, path, todo, env, st, ids, ob0, todo', env', st', ids', ob, h, hob => by
    simp only [run] at h
    have stop : ∀ {t : List DI}, Res.at t env st ids ob0 = .at todo' env' st' ids' ob → zbh ob0 ∧ (G P n F Q todo' env' st' ids' → G P n F Q t env st ids) := by
      intro t h
      simp only [Res.at.injEq] at h
      obtain ⟨rfl, rfl, rfl, rfl, rfl⟩ := h
      exact ⟨hob, id⟩
    split at h
    · obtain ⟨h1, h2⟩ := run_ok htt hm f _ _ _ _ _ _ h hob; exact ⟨h1, fun hd => yjb (h2 hd)⟩
    · obtain ⟨h1, h2⟩ := run_ok htt hm f _ _ _ _ _ _ h hob; exact ⟨h1, fun hd => ygn (h2 hd).go⟩
    · obtain ⟨h1, h2⟩ := run_ok htt hm f _ _ _ _ _ _ h hob; exact ⟨h1, fun hd => yda (h2 hd).go⟩
    · split at h
      · simp only [Res.at.injEq] at h
        obtain ⟨rfl, rfl, rfl, rfl, rfl⟩ := h
        exact ⟨hob, fun hd => zn0 hd.go⟩
      · obtain ⟨h1, h2⟩ := run_ok htt hm f _ _ _ _ _ _ h hob; exact ⟨h1, fun hd => zn0 (h2 hd).go⟩
    · obtain ⟨h1, h2⟩ := run_ok htt hm f _ _ _ _ _ _ h hob; exact ⟨h1, fun hd => zvm (h2 hd).go⟩
    · obtain ⟨h1, h2⟩ := run_ok htt hm f _ _ _ _ _ _ h hob; exact ⟨h1, fun hd => ydb (h2 hd)⟩
    · obtain ⟨h1, h2⟩ := run_ok htt hm f _ _ _ _ _ _ h hob; exact ⟨h1, fun hd => yc8 (h2 hd)⟩
    · split at h
      · rename_i he
        obtain ⟨h1, h2⟩ := run_ok htt hm f _ _ _ _ _ _ h hob; exact ⟨h1, fun hd => zar he (h2 hd).go⟩
      · exact stop h
    · obtain ⟨h1, h2⟩ := run_ok htt hm f _ _ _ _ _ _ h hob; exact ⟨h1, fun hd => zzo (h2 hd)⟩
    · obtain ⟨h1, h2⟩ := run_ok htt hm f _ _ _ _ _ _ h hob; exact ⟨h1, fun hd => ygo hm (h2 hd)⟩
    · obtain ⟨h1, h2⟩ := run_ok htt hm f _ _ _ _ _ _ h hob; exact ⟨h1, fun hd => zzp (h2 hd).go⟩
    · rename_i all o r k
      have hY : ∀ {rd : Bool} {env1 : Env} {ob1 ob2 : List Prop}, zh1 tt n all o env st ids = .y rd env1 ob1 → (zbh ob2 → zbh ob1 ∧ zbh ob0) →
          (run tt n f path (.ops all r :: k) env1 st ids ob2 = .at todo' env' st' ids' ob) → zbh ob0 ∧ (G P n F Q todo' env' st' ids' → G P n F Q (.ops all (o :: r) :: k) env st ids) := by
        intro rd env1 ob1 ob2 hs hobs hrun
        obtain ⟨h1, h2⟩ := run_ok htt hm f _ _ _ _ _ _ hrun hob
        obtain ⟨h3, h4⟩ := hobs h1
        obtain ⟨d, e1, e2, e3, e4, _⟩ := zqb htt hs h3
        subst e1
        exact ⟨h4, fun hd => dgo_y e3 e4 e2 (h2 hd)⟩
      have hE : ∀ {env1 : Env} {st1 : St} {ids1 : List Nat} {ob1 ob2 : List Prop}, zh1 tt n all o env st ids = .e env1 st1 ids1 ob1 → (zbh ob2 → zbh ob1 ∧ zbh ob0) →
          (run tt n f path (.ops all r :: k) env1 st1 ids1 ob2 = .at todo' env' st' ids' ob) → zbh ob0 ∧ (G P n F Q todo' env' st' ids' → G P n F Q (.ops all (o :: r) :: k) env st ids) := by
        intro env1 st1 ids1 ob1 ob2 hs hobs hrun
        obtain ⟨h1, h2⟩ := run_ok htt hm f _ _ _ _ _ _ hrun hob
        obtain ⟨h3, h4⟩ := hobs h1
        obtain ⟨d, e1, e2, e3, e4⟩ := yh9 htt hs h3
        subst e1
        exact ⟨h4, fun hd => dgo_e e3 e4 e2 (h2 hd)⟩
      split at h
      · rename_i hs; refine hY hs ?_ h; intro q; exact ⟨trivial, q⟩
      · rename_i hs; refine hY hs ?_ h; intro q; exact ⟨⟨q.1, trivial⟩, q.2⟩
      · rename_i hs; refine hY hs ?_ h; intro q; exact ⟨⟨q.1, q.2.1, trivial⟩, q.2.2⟩
      · rename_i hs; refine hY hs ?_ h; intro q; exact ⟨⟨q.1, q.2.1, (zay q.2.2).1⟩, (zay q.2.2).2⟩
      · rename_i hs; refine hE hs ?_ h; intro q; exact ⟨trivial, q⟩
      · rename_i hs; refine hE hs ?_ h; intro q; exact ⟨⟨q.1, trivial⟩, q.2⟩
      · rename_i hs; refine hE hs ?_ h; intro q; exact ⟨⟨q.1, (zay q.2).1⟩, (zay q.2).2⟩
      · exact stop h
    · obtain ⟨h1, h2⟩ := run_ok htt hm f _ _ _ _ _ _ h hob; exact ⟨h1.2, fun hd => dd_nil h1.1 (h2 hd).go⟩
    · rename_i all o r fs k
      have hY : ∀ {rd : Bool} {env1 : Env} {ob1 ob2 : List Prop} {rds : List Nat}, zh1 tt n all o env st ids = .y rd env1 ob1 → ya0 env o.op = rds → (zbh ob2 → zbh ob1 ∧ zbh ob0) →
          (run tt n f path (.dops all r ((rds, []) :: fs) :: k) env1 st ids ob2 = .at todo' env' st' ids' ob) → zbh ob0 ∧ (G P n F Q todo' env' st' ids' → G P n F Q (.dops all (o :: r) fs :: k) env st ids) := by
        intro rd env1 ob1 ob2 rds hs hrd hobs hrun
        obtain ⟨h1, h2⟩ := run_ok htt hm f _ _ _ _ _ _ hrun hob
        obtain ⟨h3, h4⟩ := hobs h1
        obtain ⟨d, e1, e2, e3, _, e5⟩ := ybx htt hs h3
        subst e1
        rw [hrd] at e5
        refine ⟨h4, fun hd => ?_⟩
        have := h2 hd
        simp only [G, List.reverse_cons] at this ⊢
        exact zvr (ids' := ids) e5 e2 e3 this
      have hE : ∀ {env1 : Env} {st1 : St} {ids1 : List Nat} {ob1 : List Prop} {rds : List Nat} {i : Nat} {x : Option Blk}, zh1 tt n all o env st ids = .e env1 ((i, x) :: st1) ids1 ob1 → ya0 env o.op = rds →
          (run tt n f path (.dops all r ((rds, [i]) :: fs) :: k) env1 ((i, x) :: st1) ids1 (cat ob1 ob0) = .at todo' env' st' ids' ob) → zbh ob0 ∧ (G P n F Q todo' env' st' ids' → G P n F Q (.dops all (o :: r) fs :: k) env st ids) := by
        intro env1 st1 ids1 ob1 rds i x hs hrd hrun
        obtain ⟨h1, h2⟩ := run_ok htt hm f _ _ _ _ _ _ hrun hob
        obtain ⟨h3, h4⟩ := (zrp _ _).1 h1
        obtain ⟨d, fr, rfl, rfl, e1, e2, e3, _, e5⟩ := yby htt hs h3
        subst e1
        rw [hrd] at e5
        refine ⟨h4, fun hd => ?_⟩
        have := h2 hd
        simp only [G, List.reverse_cons] at this ⊢
        exact zvr e5 e2 e3 this
      split at h
      · rename_i hs hr; refine hY hs hr ?_ h; intro q; exact ⟨trivial, q⟩
      · rename_i hs hr; refine hY hs hr ?_ h; intro q; exact ⟨trivial, q⟩
      · rename_i hs hr; refine hY hs hr ?_ h; intro q; exact ⟨⟨q.1, trivial⟩, q.2⟩
      · rename_i hs hr; refine hY hs hr ?_ h; intro q; exact ⟨⟨q.1, trivial⟩, q.2⟩
      · rename_i hs _ _; refine hY hs rfl ?_ h; intro q; exact ⟨⟨q.1, (zay q.2).1⟩, (zay q.2).2⟩
      · rename_i hs hr; exact hE hs hr h
      · rename_i hs hr; exact hE hs hr h
      · exact stop h
    · split at h
      · rename_i t hc
        obtain ⟨h1, h2⟩ := run_ok htt hm f _ _ _ _ _ _ h hob
        exact ⟨h1.2, fun hd => zaa hc (fun _ => (h2 hd).go) (fun hf => by rw [h1.1] at hf; cases hf)⟩
      · rename_i t hc
        obtain ⟨h1, h2⟩ := run_ok htt hm f _ _ _ _ _ _ h hob
        exact ⟨h1.2, fun hd => zaa hc (fun ht => by rw [h1.1] at ht; cases ht) (fun _ => (h2 hd).go)⟩
      · rename_i t hc
        obtain ⟨h1, h2⟩ := run_ok htt hm f _ _ _ _ _ _ h hob
        refine ⟨h1, fun hd => zaa hc (fun ht => ?_) (fun ht => ?_)⟩
        · subst ht; exact (h2 hd).go
        · subst ht; exact (h2 hd).go
      · exact stop h
    · exact stop h
theorem zq2 (htt : TTok P tt) (hm : P.follows .mixedOrders = true) (f : Nat) (path : List Pt) (h : run tt n f path todo env st ids [] = .at k env' st' ids' ob) (hob : zbh ob) (hd : G P n F Q k env' st' ids') : G P n F Q todo env st ids :=
  (run_ok htt hm f path todo env st ids [] h hob).2 hd
end
end Go.Hk
namespace Go.Hk
mutual
def nmD : D → List Nat
  | .ref id _ => [id]
  | .own id _ => [id]
  | .elp id _ _ _ => [id]
  | .hv id _ => [id]
  | .mapr id => [id]
  | .iter id => [id]
  | .slc id _ _ _ => [id]
  | .yld id => [id]
  | .agg cs => nmL cs
  | .tup cs => nmL cs
  | .fn _ a b => nmL a ++ nmL b
  | .iface _ d => nmD d
  | .guard _ _ d => nmD d
  | _ => []
def nmL : List D → List Nat
  | [] => []
  | d :: r => nmD d ++ nmL r
end
mutual
def zui (ρ : Nat → Nat) : D → D
  | .ref id off => .ref (ρ id) off
  | .own id n => .own (ρ id) n
  | .elp id k sz f => .elp (ρ id) k sz f
  | .mapr id => .mapr (ρ id)
  | .iter id => .iter (ρ id)
  | .agg cs => .agg (zsj ρ cs)
  | .tup cs => .tup (zsj ρ cs)
  | .fn f a b => .fn f (zsj ρ a) (zsj ρ b)
  | .iface t d => .iface t (zui ρ d)
  | .guard c w d => .guard c w (zui ρ d)
  | .undef => .undef
  | .imm x => .imm x
  | .nils => .nils
  | .ip t cs off => .ip t cs off
  | .clip es => .clip es
  | .slc id off n c => .slc (ρ id) off n c
  | .yld id => .yld (ρ id)
  | .raw v => .raw v
  | .hv id i => .hv (ρ id) i
def zsj (ρ : Nat → Nat) : List D → List D
  | [] => []
  | d :: r => zui ρ d :: zsj ρ r
end
def nmE : Env → List Nat
  | [] => []
  | (_, d) :: r => nmD d ++ nmE r
def yjt (ρ : Nat → Nat) : Env → Env
  | [] => []
  | (t, d) :: r => (t, zui ρ d) :: yjt ρ r
theorem yav {ρ : Nat → Nat} : ∀ {env : Env} {t : Nat} {d : D}, lk (yjt ρ env) t = some d → ∃ d0, lk env t = some d0 ∧ d = zui ρ d0
  | [], t, d, h => by simp [yjt, lk] at h
  | (s, x) :: r, t, d, h => by
    simp only [yjt] at h
    by_cases hs : s = t
    · subst hs; rw [lk_cons_self] at h ⊢; cases h; exact ⟨x, rfl, rfl⟩
    · rw [lk_cons_ne _ _ hs] at h ⊢; exact yav h
theorem ze2 (ρ : Nat → Nat) : ∀ l : List D, zsj ρ l = l.map (zui ρ)
  | [] => rfl
  | d :: r => by simp [zsj, ze2 ρ r]
theorem ziq {d : D} {i : Nat} : ∀ {l : List D}, d ∈ l → i ∈ nmD d → i ∈ nmL l
  | [], h, _ => by simp at h
  | x :: r, h, hi => by
    simp only [nmL, List.mem_append]
    rcases List.mem_cons.1 h with rfl | h
    · exact .inl hi
    · exact .inr (ziq h hi)
section
variable {I : Imm} {μ ν : Mu} {ρ : Nat → Nat}
theorem RepD.ren {v : Value} {d : D} (h : RepD I μ v d) : (∀ i ∈ nmD d, ∀ g, μ i = some g → ν (ρ i) = some g) → RepD I ν v (zui ρ d) := by
  have at_ : ∀ {l : List D} {i : Nat} {x : D}, (zsj ρ l)[i]? = some x → ∃ y, l[i]? = some y ∧ x = zui ρ y := by
    intro l i x hx
    rw [ze2, List.getElem?_map] at hx
    cases hl : l[i]? with
    | none => rw [hl] at hx; cases hx
    | some y => rw [hl] at hx; cases hx; exact ⟨y, rfl, rfl⟩
  induction h with
  | undef v => intro _; exact .undef v
  | imm v x hx => intro _; exact .imm v x hx
  | nils => intro _; exact .nils
  | ref b id off hm => intro hn; exact .ref b _ off (hn id (by simp [nmD]) _ hm)
  | ip b o t cs off vs hcell hrep => intro _; exact .ip b o t cs off vs hcell hrep
  | agg cs ds hl h1 _ ih =>
    intro hn
    refine .agg cs _ (by rw [ze2, List.length_map, hl]) h1 fun i c x hc hx => ?_
    obtain ⟨y, hy, rfl⟩ := at_ hx
    exact ih i c y hc hy fun j hj => hn j (by simp only [nmD]; exact ziq (List.mem_of_getElem? hy) hj)
  | tup cs ds hl _ ih =>
    intro hn
    refine .tup cs _ (by rw [ze2, List.length_map, hl]) fun i c x hc hx => ?_
    obtain ⟨y, hy, rfl⟩ := at_ hx
    exact ih i c y hc hy fun j hj => hn j (by simp only [nmD]; exact ziq (List.mem_of_getElem? hy) hj)
  | own id len a cap hm => intro hn; exact .own _ len a cap (hn id (by simp [nmD]) _ hm)
  | elp b id len cap k sz f hm => intro hn; exact .elp b _ len cap k sz f (hn id (by simp [nmD]) _ hm)
  | mapr id b hm => intro hn; exact .mapr _ b (hn id (by simp [nmD]) _ hm)
  | iter id b hm => intro hn; exact .iter _ b (hn id (by simp [nmD]) _ hm)
  | fn f first cap df dc hf hc _ _ ih1 ih2 =>
    intro hn
    refine .fn f first cap _ _ (by rw [ze2, List.length_map, hf]) (by rw [ze2, List.length_map, hc]) (fun i c x h1 h2 => ?_) (fun i c x h1 h2 => ?_)
    · obtain ⟨y, hy, rfl⟩ := at_ h2
      exact ih1 i c y h1 hy fun j hj => hn j (by simp only [nmD]; exact List.mem_append_left _ (ziq (List.mem_of_getElem? hy) hj))
    · obtain ⟨y, hy, rfl⟩ := at_ h2
      exact ih2 i c y h1 hy fun j hj => hn j (by simp only [nmD]; exact List.mem_append_right _ (ziq (List.mem_of_getElem? hy) hj))
  | iface t v d _ ih => intro hn; exact .iface t v _ (ih hn)
  | guard c want v d _ hu ih => intro hn; exact .guard c want v _ (fun hc => ih hc hn) hu
  | clip a len es hr => intro _; exact .clip a len es hr
  | slc b id off len cap hm hl hx => intro hn; exact .slc b _ off len cap (hn id (by simp [nmD]) _ hm) hl hx
  | yld b id hm => intro hn; exact .yld b _ (hn id (by simp [nmD]) _ hm)
  | raw v h => intro _; exact .raw v h
  | hv v id i vs bs hm hi h1 => intro hn; exact .hv v _ i vs bs (hn id (by simp [nmD]) _ hm) hi h1
theorem RepL.ren {vs : List Value} {ds : List D} (h : RepL I μ vs ds) (hn : ∀ i ∈ nmL ds, ∀ g, μ i = some g → ν (ρ i) = some g) : RepL I ν vs (zsj ρ ds) := by
  refine ⟨by rw [ze2, List.length_map, h.1], fun i v x hv hx => ?_⟩
  rw [ze2, List.getElem?_map] at hx
  cases hl : ds[i]? with
  | none => rw [hl] at hx; cases hx
  | some y =>
    rw [hl] at hx; cases hx
    exact (h.2 i v y hv hl).ren fun j hj => hn j (ziq (List.mem_of_getElem? hl) hj)
def nmB : Blk → List Nat
  | .cells _ _ cs => nmL cs
  | .bun id _ => [id]
  | .adr id _ => [id]
  | _ => []
def yhd (ρ : Nat → Nat) : Blk → Blk
  | .cells t sz cs => .cells t sz (zsj ρ cs)
  | .map kv => .map kv
  | .immb t sz xs => .immb t sz xs
  | .row t sz es => .row t sz es
  | .siter s pos => .siter s pos
  | .pin => .pin
  | .bun id S => .bun (ρ id) S
  | .hp A => .hp A
  | .adr id b => .adr (ρ id) b
  | .mapx kv b es c => .mapx kv b es c
  | .miter b s z c => .miter b s z c
theorem BlkRep.ren {w : World} {g : Value} {blk : Blk} (h : BlkRep I μ w g blk) (hn : ∀ i ∈ nmB blk, ∀ g, μ i = some g → ν (ρ i) = some g) : BlkRep I ν w g (yhd ρ blk) := by
  cases blk with
  | immb t sz xs => exact h
  | cells t sz cs =>
    obtain ⟨hs, b, vs, h1, h2, h3, h4⟩ := h
    exact ⟨by rw [ze2, List.length_map, hs], b, vs, h1, h2, h3.ren hn, h4⟩
  | row t sz es => exact h
  | map kv => exact h
  | siter s pos => exact h
  | pin => exact h
  | bun id S =>
    obtain ⟨b, bs, h1, h2, h3⟩ := h
    exact ⟨b, bs, hn id (by simp [nmB]) _ h1, h2, h3⟩
  | hp A => exact h
  | adr id b => exact ⟨h.1, hn id (by simp [nmB]) _ h.2⟩
  | mapx kv b es c => exact h
  | miter b s z c => exact h
theorem RepD.sub {v : Value} {d : D} (h : RepD I μ v d) (hn : ∀ i ∈ nmD d, ∀ g, μ i = some g → ν i = some g) : RepD I ν v d := by
  have := h.ren (ν := ν) (ρ := fun i => i) hn
  have hid : ∀ d, zui (fun i => i) d = d := by
    intro d
    refine D.rec (motive_1 := fun d => zui (fun i => i) d = d) (motive_2 := fun l => zsj (fun i => i) l = l) ?_ ?_ ?_ ?_ ?_ ?_ ?_ ?_ ?_ ?_ ?_ ?_ ?_ ?_ ?_ ?_ ?_ ?_ ?_ ?_ ?_ d <;> intros <;> simp_all [zui, zsj]
  rwa [hid] at this
end
end Go.Hk
namespace Go.Hk
inductive Out where
  | ret (d : D) (st : St)
  | pan (x : V)
def nms (st : St) : List Nat := st.map (·.1)
def zcm (P : Program) (f : FuncId) (ds : List D) (st : St) (out : Out) : Prop :=
  ∀ I μ w (xs : Array Value), StRep I μ st [] w → RepL I μ xs.toList ds → valX P ((callFunc f xs).run P w)
    (fun u w' => match out with
      | .ret d st' => ∃ I' μ', RepD I' μ' u d ∧ StRep I' μ' st' [] w' ∧ Pin (nms st) μ μ' ∧ Ext I μ st w I' μ' st' w'
      | .pan _ => False)
    (fun chain w' => match out with
      | .ret _ _ => False
      | .pan x => zyi (· = x) I μ st w chain w')
def PureC (P : Program) (f : FuncId) (vs : List V) (v : V) : Prop := zcm P f (vs.map .imm) [] (.ret (.imm v) [])
def zoo (l : List (Nat × Nat)) (i : Nat) : Nat := match lk l i with
  | some j => j
  | none => i
def zbo : List (Nat × Nat) → List (Nat × Nat)
  | [] => []
  | (a, b) :: r => (b, a) :: zbo r
def zc2 (σ τ : List (Nat × Nat)) : List Nat → Bool
  | [] => true
  | i :: r => (match lk σ i with
    | some j => (match lk τ j with
      | some k => Nat.beq k i
      | none => false)
    | none => false) && zc2 σ τ r
theorem zi1 {σ τ : List (Nat × Nat)} : ∀ {l : List Nat}, zc2 σ τ l = true → ∀ i ∈ l, ∃ j, lk σ i = some j ∧ lk τ j = some i
  | [], _, i, hi => by simp at hi
  | x :: r, h, i, hi => by
    simp only [zc2, Bool.and_eq_true] at h
    rcases List.mem_cons.1 hi with rfl | hi
    · cases h1 : lk σ i with
      | none => simp [h1] at h
      | some j =>
        cases h2 : lk τ j with
        | none => simp [h1, h2] at h
        | some k =>
          simp only [h1, h2] at h
          rw [Nat.eq_of_beq_eq_true h.1] at h2
          exact ⟨j, rfl, h2⟩
    · exact zi1 h.2 i hi
def zup : St → List Nat
  | [] => []
  | (i, some b) :: r => i :: (nmB b ++ zup r)
  | (i, none) :: r => i :: zup r
def zln (τ : List (Nat × Nat)) : St → St
  | [] => []
  | (i, some b) :: r => (zoo τ i, some (yhd (zoo τ) b)) :: zln τ r
  | (i, none) :: r => (zoo τ i, none) :: zln τ r
def zid (σ : List (Nat × Nat)) (st : St) : St → Prop
  | [] => True
  | (i, some b) :: r => (match lk (zbo σ) i with
    | some a => (match lk σ a with
      | some j => Nat.beq j i = true
      | none => False) ∧ (match lk st a with
      | some (some ba) => yhd (zoo σ) ba = b ∧ zc2 σ (zbo σ) (nmB ba) = true
      | _ => False)
    | none => False) ∧ zid σ st r
  | (_, none) :: _ => False
theorem zgd {σ : List (Nat × Nat)} {st : St} : ∀ {st0 : St}, zid σ st st0 → ∀ i b, za3 st0 i b →
    ∃ a ba, lk (zbo σ) i = some a ∧ lk σ a = some i ∧ za3 st a ba ∧ yhd (zoo σ) ba = b ∧ zc2 σ (zbo σ) (nmB ba) = true
  | [], _, i, b, h => by simp [za3, lk] at h
  | (k, none) :: r, h, _, _, _ => h.elim
  | (k, some x) :: r, h, i, b, hl => by
    obtain ⟨h1, h2⟩ := h
    by_cases hk : k = i
    · subst hk
      have : x = b := by unfold za3 at hl; rw [lk_cons_self] at hl; cases hl; rfl
      subst this
      cases ha : lk (zbo σ) k with
      | none => simp [ha] at h1
      | some a =>
        simp only [ha] at h1
        obtain ⟨h3, h4⟩ := h1
        cases hj : lk σ a with
        | none => simp [hj] at h3
        | some j =>
          simp only [hj] at h3
          cases hb : lk st a with
          | none => simp [hb] at h4
          | some ob =>
            cases ob with
            | none => simp [hb] at h4
            | some ba =>
              simp only [hb] at h4
              exact ⟨a, ba, rfl, by rw [hj, Nat.eq_of_beq_eq_true h3], hb, h4.1, h4.2⟩
    · refine zgd h2 i b ?_
      unfold za3 at hl ⊢
      rwa [lk_cons_ne _ _ hk] at hl
def zcy : List Nat → St
  | [] => []
  | a :: r => (a, none) :: zcy r
theorem zkr {l : List Nat} {st : St} {i : Nat} {b : Blk} (h : za3 (zcy l ++ st) i b) : i ∉ l ∧ za3 st i b := by
  induction l with
  | nil => exact ⟨by simp, h⟩
  | cons a r ih =>
    simp only [zcy, List.cons_append] at h
    obtain ⟨h1, h2⟩ := zcg.1 h
    obtain ⟨h3, h4⟩ := ih h2
    exact ⟨by simp [h1, h3], h4⟩
theorem zkc {τ : List (Nat × Nat)} {st : St} {i : Nat} {b : Blk} : ∀ {st1 : St}, za3 (zln τ st1 ++ st) i b →
    (∃ j b1, za3 st1 j b1 ∧ i = zoo τ j ∧ b = yhd (zoo τ) b1) ∨ za3 st i b
  | [], h => .inr h
  | (k, some x) :: r, h => by
    simp only [zln, List.cons_append] at h
    rcases zbu.1 h with ⟨h1, h2⟩ | ⟨h1, h2⟩
    · exact .inl ⟨k, x, by unfold za3; rw [lk_cons_self], h1, h2⟩
    · rcases zkc h2 with ⟨j, b1, q1, q2, q3⟩ | q
      · refine .inl ⟨j, b1, ?_, q2, q3⟩
        unfold za3 at q1 ⊢
        rw [lk_cons_ne _ _ (fun e => by subst e; exact h1 q2)]
        exact q1
      · exact .inr q
  | (k, none) :: r, h => by
    simp only [zln, List.cons_append] at h
    obtain ⟨h1, h2⟩ := zcg.1 h
    rcases zkc h2 with ⟨j, b1, q1, q2, q3⟩ | q
    · refine .inl ⟨j, b1, ?_, q2, q3⟩
      unfold za3 at q1 ⊢
      rw [lk_cons_ne _ _ (fun e => by subst e; exact h1 q2)]
      exact q1
    · exact .inr q
theorem zit : ∀ {σ : List (Nat × Nat)} {i a : Nat}, lk (zbo σ) i = some a → (a, i) ∈ σ
  | [], i, a, h => by simp [zbo, lk] at h
  | (x, y) :: r, i, a, h => by
    simp only [zbo] at h
    by_cases hy : y = i
    · subst hy; rw [lk_cons_self] at h; cases h; simp
    · rw [lk_cons_ne _ _ hy] at h; exact List.mem_cons_of_mem _ (zit h)
theorem zs1 : ∀ {σ : List (Nat × Nat)} {i a : Nat}, lk σ i = some a → (i, a) ∈ σ
  | [], i, a, h => by simp [lk] at h
  | (x, y) :: r, i, a, h => by
    by_cases hy : x = i
    · subst hy; rw [lk_cons_self] at h; cases h; simp
    · rw [lk_cons_ne _ _ hy] at h; exact List.mem_cons_of_mem _ (zs1 h)
theorem zk8 {l m : List (Nat × Nat)} {i : Nat} : (∃ a, lk l i = some a ∧ lk (l ++ m) i = some a) ∨ (lk l i = none ∧ lk (l ++ m) i = lk m i) := by
  induction l with
  | nil => exact .inr ⟨rfl, rfl⟩
  | cons p r ih =>
    obtain ⟨x, y⟩ := p
    by_cases hx : x = i
    · subst hx; exact .inl ⟨y, lk_cons_self _ _ _, lk_cons_self _ _ _⟩
    · rw [lk_cons_ne _ _ hx, List.cons_append, lk_cons_ne _ _ hx]; exact ih
structure ydy (σ τ1 : List (Nat × Nat)) (das : List D) (st0 : St) (d : D) (st1 : St) (fr : List Nat) : Prop where
  args : zc2 σ (zbo σ) (nmL das) = true
  inv : zc2 σ (zbo σ) (σ.map (·.1)) = true
  given : ∀ p ∈ σ, p.2 ∈ nms st0
  res : zc2 (zbo σ ++ τ1) (σ ++ zbo τ1) (nmD d) = true
  now : zc2 (zbo σ ++ τ1) (σ ++ zbo τ1) (zup st1) = true
  new : ∀ p ∈ τ1, p.2 ∈ fr
theorem zg0 : ∀ {st : St} {i : Nat} {b : Blk}, za3 st i b → i ∈ zup st ∧ ∀ j ∈ nmB b, j ∈ zup st
  | [], i, b, h => by simp [za3, lk] at h
  | (k, x) :: r, i, b, h => by
    by_cases hk : k = i
    · subst hk
      unfold za3 at h; rw [lk_cons_self] at h; cases h
      simp only [zup]
      exact ⟨by simp, fun j hj => by simp [hj]⟩
    · have h' : za3 r i b := by unfold za3 at h ⊢; rwa [lk_cons_ne _ _ hk] at h
      obtain ⟨h1, h2⟩ := zg0 h'
      cases x with
      | none => simp only [zup, List.mem_cons]; exact ⟨.inr h1, fun j hj => .inr (h2 j hj)⟩
      | some y => simp only [zup, List.mem_cons, List.mem_append]; exact ⟨.inr (.inr h1), fun j hj => .inr (.inr (h2 j hj))⟩
section
variable {P : Program} {I : Imm} {μ : Mu} {st st0 st1 : St} {ids ids' fr : List Nat} {w : World} {σ τ1 : List (Nat × Nat)} {das : List D} {d : D} {f : FuncId} {x : V} {Pn : V → Prop}
def zjc (σ : List (Nat × Nat)) (μ : Mu) : Mu := fun j => match lk (zbo σ) j with
  | some a => μ a
  | none => none
theorem zrn {σ τ : List (Nat × Nat)} {l : List Nat} (h : zc2 σ τ l = true) {i : Nat} (hi : i ∈ l) : lk τ (zoo σ i) = some i := by
  obtain ⟨j, h1, h2⟩ := zi1 h i hi
  simp [zoo, h1, h2]
theorem zkw (hst : StRep I μ st ids w) (hb : zid σ st st0) (hd : zc2 σ (zbo σ) (nmL das) = true) {xs : List Value} (hx : RepL I μ xs das) :
    StRep I (zjc σ μ) st0 [] w ∧ RepL I (zjc σ μ) xs (zsj (zoo σ) das) ∧ ∀ b, zds (zjc σ μ) st0 b → zds μ st b := by
  have hn : ∀ {l : List Nat}, zc2 σ (zbo σ) l = true → ∀ i ∈ l, ∀ g, μ i = some g → zjc σ μ (zoo σ i) = some g := by
    intro l hl i hi g hg
    unfold zjc
    rw [zrn hl hi]
    exact hg
  have hl : ∀ i b g, za3 st0 i b → zjc σ μ i = some g → ∃ a ba, za3 st a ba ∧ μ a = some g ∧ lk σ a = some i := by
    intro i b g hi hg
    obtain ⟨a, ba, h1, h2, h3, _⟩ := zgd hb i b hi
    exact ⟨a, ba, h3, by simpa [zjc, h1] using hg, h2⟩
  refine ⟨{ imm := hst.imm, blk := fun i b h => ?_, apart := fun i b g k h hg hk => ?_, inj := fun i j bi bj gi gj k hi hj hgi hgj hki hkj => ?_, nodup := .nil, idsFree := fun _ h => by simp at h }, hx.ren (hn hd), ?_⟩
  · obtain ⟨a, ba, h1, h2, h3, h4, h5⟩ := zgd hb i b h
    obtain ⟨g, hg, hr⟩ := hst.blk a ba h3
    refine ⟨g, by simp [zjc, h1, hg], ?_⟩
    rw [← h4]
    exact hr.ren (hn h5)
  · obtain ⟨a, ba, h1, h2, _⟩ := hl i b g h hg
    exact hst.apart a ba g k h1 h2 hk
  · obtain ⟨a, ba, h1, h2, h3⟩ := hl i bi gi hi hgi
    obtain ⟨a', ba', h1', h2', h3'⟩ := hl j bj gj hj hgj
    have := hst.inj a a' ba ba' gi gj k h1 h1' h2 h2' hki hkj
    subst this
    rw [h3] at h3'; cases h3'; rfl
  · rintro b ⟨i, bi, g, h1, h2, h3⟩
    obtain ⟨a, ba, q1, q2, _⟩ := hl i bi g h1 h2
    exact ⟨a, ba, g, q1, q2, h3⟩
theorem ztw (hst : StRep I μ st (fr ++ ids') w) (hb : zid σ st st0) (hn : ydy σ τ1 das st0 d st1 fr) {I' : Imm} {μ' : Mu} {w' : World} {u : Value} (hu : RepD I' μ' u d) (hst' : StRep I' μ' st1 [] w')
    (hp : Pin (nms st0) (zjc σ μ) μ') (he : Ext I (zjc σ μ) st0 w I' μ' st1 w') (hsub : ∀ b, zds (zjc σ μ) st0 b → zds μ st b) :
    ∃ ν, StRep I' ν (zln (zbo σ ++ τ1) st1 ++ zcy (σ.map (·.1)) ++ st) ids' w' ∧ RepD I' ν u (zui (zoo (zbo σ ++ τ1)) d) ∧ μ.le ν ∧
      Ext I μ st w I' ν (zln (zbo σ ++ τ1) st1 ++ zcy (σ.map (·.1)) ++ st) w' := by
  have hfree : ∀ i ∈ fr, μ i = none := fun i hi => hst.idsFree i (by simp [hi])
  -- the caller's names that the contract is given are za3
  have hgiven : ∀ i j, lk σ i = some j → lk (zbo σ) j = some i ∧ ∃ g, μ i = some g := by
    intro i j hij
    have hinv : lk (zbo σ) j = some i := by
      obtain ⟨j', h1, h2⟩ := zi1 hn.inv i (List.mem_map.2 ⟨(i, j), zs1 hij, rfl⟩)
      rw [hij] at h1; cases h1; exact h2
    refine ⟨hinv, ?_⟩
    have h1 := hn.given _ (zs1 hij)
    obtain ⟨⟨j', x⟩, h2, h3⟩ := List.mem_map.1 h1
    have h3 : j' = j := h3
    subst h3
    have : ∀ {st0 : St}, zid σ st st0 → (j', x) ∈ st0 → ∃ g, μ i = some g := by
      intro st0
      induction st0 with
      | nil => intro _ h; simp at h
      | cons p r ih =>
        obtain ⟨k, y⟩ := p
        intro h hm
        cases y with
        | none => exact h.elim
        | some y =>
          rcases List.mem_cons.1 hm with e | e
          · cases e
            have h1 := h.1
            simp only [hinv] at h1
            have h4 := h1.2
            cases hb : lk st i with
            | none => simp [hb] at h4
            | some ob =>
              cases ob with
              | none => simp [hb] at h4
              | some ba =>
                obtain ⟨g, hg, _⟩ := hst.blk i ba hb
                exact ⟨g, hg⟩
          · exact ih h.2 e
    exact this hb h2
  obtain ⟨ν, hν⟩ : ∃ ν : Mu, ν = fun i => match lk (σ ++ zbo τ1) i with | some j => μ' j | none => μ i := ⟨_, rfl⟩
  have hν1 : ∀ {l : List Nat}, zc2 (zbo σ ++ τ1) (σ ++ zbo τ1) l = true → ∀ i ∈ l, ∀ g, μ' i = some g → ν (zoo (zbo σ ++ τ1) i) = some g := by
    intro l hl i hi g hg
    rw [hν]
    simp only [zrn hl hi]
    exact hg
  have hσ : ∀ i j, lk σ i = some j → ∀ g, μ i = some g → ν i = some g := by
    intro i j hij g hg
    have h2 := (hgiven i j hij).1
    rw [hν]
    rcases zk8 (l := σ) (m := zbo τ1) (i := i) with ⟨a, h3, h4⟩ | ⟨h3, _⟩
    · rw [hij] at h3; cases h3
      simp only [h4]
      exact hp j (hn.given _ (zs1 hij)) g (by simp [zjc, h2, hg])
    · rw [hij] at h3; cases h3
  have hin : ∀ i, (∃ j, lk σ i = some j) ∨ i ∈ fr ∨ ν i = μ i := by
    intro i
    rcases zk8 (l := σ) (m := zbo τ1) (i := i) with ⟨a, h1, _⟩ | ⟨h1, h2⟩
    · exact .inl ⟨a, h1⟩
    · cases h : lk (zbo τ1) i with
      | none => refine .inr (.inr ?_); rw [hν]; simp [h2, h]
      | some j => exact .inr (.inl (hn.new _ (zit h)))
  have hle : μ.le ν := by
    intro i g hg
    rcases hin i with ⟨j, h⟩ | h | h
    · exact hσ i j h g hg
    · rw [hfree i h] at hg; cases hg
    · rw [h]; exact hg
  -- what is za3 afterwards
  have hlive : ∀ i b, za3 (zln (zbo σ ++ τ1) st1 ++ zcy (σ.map (·.1)) ++ st) i b →
      (∃ j b1, za3 st1 j b1 ∧ (b = yhd (zoo (zbo σ ++ τ1)) b1 ∧ i = zoo (zbo σ ++ τ1) j) ∧ ∀ g, ν i = some g ↔ μ' j = some g) ∨ ((∀ j, lk σ i ≠ some j) ∧ za3 st i b ∧ ν i = μ i) := by
    intro i b hl
    rw [List.append_assoc] at hl
    rcases zkc hl with ⟨j, b1, h1, h2, h3⟩ | h
    · refine .inl ⟨j, b1, h1, ⟨h3, h2⟩, fun g => ?_⟩
      rw [h2, hν]
      simp only [zrn hn.now (zg0 h1).1]
    · obtain ⟨h1, h2⟩ := zkr h
      have h3 : ∀ j, lk σ i ≠ some j := fun j hj => h1 (List.mem_map.2 ⟨(i, j), zs1 hj, rfl⟩)
      refine .inr ⟨h3, h2, ?_⟩
      rcases hin i with ⟨j, h⟩ | h | h
      · exact absurd h (h3 j)
      · obtain ⟨g, hg, _⟩ := hst.blk i b h2
        rw [hfree i h] at hg; cases hg
      · exact h
  have hframe : ∀ i b g k, (∀ j, lk σ i ≠ some j) → za3 st i b → μ i = some g → zil g k → ¬ zds (zjc σ μ) st0 k := by
    rintro i b g k h1 h2 h3 h4 ⟨j, bj, gj, h5, h6, h7⟩
    obtain ⟨a, ba, q1, q2, q3, _⟩ := zgd hb j bj h5
    simp only [zjc, q1] at h6
    have := hst.inj i a b ba g gj k h2 q3 h3 h6 h4 h7
    subst this
    exact h1 j q2
  have hext : Ext I μ st w I' ν (zln (zbo σ ++ τ1) st1 ++ zcy (σ.map (·.1)) ++ st) w' := by
    refine { imm := he.imm, os := he.os, tape := he.tape, output := he.output, size := he.size, block := fun b hb' ho => he.block b hb' (fun h => ho (hsub b h)), fresh := fun b hb' ho => ?_, old := fun b hb' ho => he.old b hb' (fun h => ho (hsub b h)) }
    obtain ⟨i, bi, g, h1, h2, h3⟩ := ho
    rcases hlive i bi h1 with ⟨j, b1, q1, _, q3⟩ | ⟨_, q2, q3⟩
    · exact hsub b (he.fresh b hb' ⟨j, b1, g, q1, (q3 g).1 h2, h3⟩)
    · exact ⟨i, bi, g, q2, by rw [← q3]; exact h2, h3⟩
  refine ⟨ν, ?_, hu.ren (hν1 hn.res), hle, hext⟩
  refine { imm := hst'.imm, blk := fun i b h => ?_, apart := fun i b g k h hg hk => ?_, inj := fun i j bi bj gi gj k hi hj hgi hgj hki hkj => ?_, nodup := (List.nodup_append.1 hst.nodup).2.1, idsFree := fun i hi => ?_ }
  · rcases hlive i b h with ⟨j, b1, q1, q2, q3⟩ | ⟨q1, q2, q3⟩
    · obtain ⟨g, hg, hr⟩ := hst'.blk j b1 q1
      exact ⟨g, (q3 g).2 hg, by rw [q2.1]; exact hr.ren fun k hk => hν1 hn.now k ((zg0 q1).2 k hk)⟩
    · obtain ⟨g, hg, hr⟩ := hst.blk i b q2
      refine ⟨g, by rw [q3]; exact hg, (hr.mono he.imm hle).world fun k hk => ?_⟩
      exact he.block k (hst.apart i b g k q2 hg hk).2 (hframe i b g k q1 q2 hg hk)
  · rcases hlive i b h with ⟨j, b1, q1, q2, q3⟩ | ⟨q1, q2, q3⟩
    · exact hst'.apart j b1 g k q1 ((q3 g).1 hg) hk
    · rw [q3] at hg
      obtain ⟨h1, h2⟩ := hst.apart i b g k q2 hg hk
      exact ⟨by rw [he.old k h2 (hframe i b g k q1 q2 hg hk)]; exact h1, Nat.lt_of_lt_of_le h2 he.size⟩
  · rcases hlive i bi hi with ⟨i1, b1, q1, q2, q3⟩ | ⟨q1, q2, q3⟩ <;> rcases hlive j bj hj with ⟨j1, b2, p1, p2, p3⟩ | ⟨p1, p2, p3⟩
    · have := hst'.inj i1 j1 b1 b2 gi gj k q1 p1 ((q3 gi).1 hgi) ((p3 gj).1 hgj) hki hkj
      subst this
      rw [q2.2, p2.2]
    · rw [p3] at hgj
      have hk := (hst.apart j bj gj k p2 hgj hkj).2
      exact absurd (he.fresh k hk ⟨i1, b1, gi, q1, (q3 gi).1 hgi, hki⟩) (hframe j bj gj k p1 p2 hgj hkj)
    · rw [q3] at hgi
      have hk := (hst.apart i bi gi k q2 hgi hki).2
      exact absurd (he.fresh k hk ⟨j1, b2, gj, p1, (p3 gj).1 hgj, hkj⟩) (hframe i bi gi k q1 q2 hgi hki)
    · rw [q3] at hgi
      rw [p3] at hgj
      exact hst.inj i j bi bj gi gj k q2 p2 hgi hgj hki hkj
  · rcases hin i with ⟨j, h⟩ | h | h
    · obtain ⟨_, g, hg⟩ := hgiven i j h
      rw [hst.idsFree i (by simp [hi])] at hg; cases hg
    · exact absurd rfl ((List.nodup_append.1 hst.nodup).2.2 i h i hi)
    · rw [h]; exact hst.idsFree i (by simp [hi])
end
end Go.Hk
namespace Go.Hk
def zve (cx : Prop) (env : Env) : List Operand → Option (List D × List Prop)
  | [] => some ([], [])
  | x :: r => match evO env x, zve cx env r with
    | some (.guard c w d), some (ds, o) => some (d :: ds, (cx → c = w) :: o)
    | some d, some (ds, o) => some (d :: ds, o)
    | _, _ => none
def zb3 : List DI → List Nat × List Nat → Option (List Oper × Oper × List DI)
  | .ops all (o :: r) :: k, _ => some (all, o, .ops all r :: k)
  | .dops all (o :: r) fs :: k, f => some (all, o, .dops all r (f :: fs) :: k)
  | _, _ => none
def zel (n : Nat) : Option Nat → Bool
  | some t => Nat.blt t n
  | none => true
def zal : Option (Bool × Bool) → Prop
  | none => True
  | some (c, w) => c = w
def gD : Option (Bool × Bool) → D → D
  | none, d => d
  | some (c, w), d => .guard c w d
def zcs (all : List Oper) (env : Env) (o : Oper) : Option (Option (Bool × Bool)) :=
  match o.guard with
  | none => some none
  | some (j, w) => match nth all j with
    | some { dst := some g, .. } => match ctl (lk env g) w with
      | some c => some (some (c, w))
      | none => none
    | _ => none
structure yg4 where
  f : FuncId
  vs : List V
  g : Option (Bool × Bool)
  ob : List Prop
  dst : Option Nat
  todo : List DI
def pcall (n : Nat) (env : Env) (todo : List DI) : Option yg4 :=
  match zb3 todo ([], []) with
  | some (all, o, todo') => match o.op, zcs all env o with
    | .call { callee := .value (.func f), args := ⟨args⟩, .. }, some g => match zve (zal g) env args with
      | some (ds, ob) => match zv9 ds, zel n o.dst with
        | some vs, true => match o.dst with
          | some t => some ⟨f, vs, g, ob, some t, todo'⟩
          | none => some ⟨f, vs, g, ob, none, todo'⟩
        | _, _ => none
      | none => none
    | .call { callee := .value (.tmp t), args := ⟨args⟩, .. }, some g => match lk env t, zve (zal g) env args with
      | some (.imm (.fn (.func f))), some (ds, ob) => match zv9 ds, zel n o.dst with
        | some vs, true => match o.dst with
          | some t => some ⟨f, vs, g, ob, some t, todo'⟩
          | none => some ⟨f, vs, g, ob, none, todo'⟩
        | _, _ => none
      | _, _ => none
    | _, _ => none
  | none => none
section
variable {P : Program} {n : Nat} {F : List Nat} {Q : DQ} {tt : TT} {env env' : Env} {st st' : St} {ids ids' : List Nat} {k todo todo' : List DI} {cx : Prop} {d : D} {ob ob' : List Prop} {Pn : V → Prop}
  {I : Imm} {μ : Mu} {w : World} {a : Act}
theorem RepV.fnInv {v : Value} {f : Fn} (h : RepV I v (.fn f)) : v = .func f #[] #[] := by cases h; rfl
theorem evAs_rep (hc : cx) : ∀ {args : List Operand} {ds : List D} {ob : List Prop}, zve cx env args = some (ds, ob) → zbh ob → (∀ x ∈ args, ∀ d, evO env x = some d → RepD I μ (a.eval x) d) →
    RepL I μ (args.map a.eval) ds
  | [], ds, ob, h, _, _ => by cases h; exact .nil
  | x :: r, ds, ob, h, hob, hx => by
    have hr : ∀ y ∈ r, ∀ d, evO env y = some d → RepD I μ (a.eval y) d := fun y hy => hx y (by simp [hy])
    simp only [zve] at h
    split at h
    · rename_i c w0 d ds' o' h1 h2
      cases h
      exact .mk ((hx x (by simp) _ h1).guardInv (hob.1 hc)) (evAs_rep hc h2 hob.2 hr)
    · rename_i d ds' o' _ h1 h2
      cases h
      exact .mk (hx x (by simp) _ h1) (evAs_rep hc h2 hob hr)
    · cases h
theorem ze7 : ∀ {vs : List Value} {ds : List D} {xs : List V}, zh4 ds = some xs → RepL I μ vs ds → RepVL I vs xs
  | [], ds, xs, h, hr => by
    cases ds with
    | nil => cases h; exact .nil
    | cons d ds => simp [RepL] at hr
  | v :: vs, ds, xs, h, hr => by
    cases ds with
    | nil => simp [RepL] at hr
    | cons d ds =>
      obtain ⟨h1, h2⟩ := hr.cons
      cases d <;> simp only [zh4, reduceCtorEq] at h
      · split at h
        · cases h; exact .mk h1.immInv (ze7 (by assumption) h2)
        · cases h
      · split at h
        · cases h
          cases h1
          exact .mk .slnil (ze7 (by assumption) h2)
        · cases h
theorem RepD.ipV {v : Value} {t : TypeId} {cs : List V} {off : Nat} (h : RepD I μ v (.ip t cs off)) : RepV I v (.ip t cs off) := by
  cases h with
  | ip b o _ _ _ vs h1 h2 => exact .ip b o t cs off vs h1 h2
theorem RepV.ipD {v : Value} {t : TypeId} {cs : List V} {off : Nat} (h : RepV I v (.ip t cs off)) : RepD I μ v (.ip t cs off) := by
  cases h with
  | ip b o _ _ _ vs h1 h2 => exact .ip b o t cs off vs h1 h2
theorem yen {v : Value} {x : V} (h : toV1 d = some x) (hr : RepD I μ v d) : RepV I v x := by
  unfold toV1 at h
  split at h
  · cases h; exact hr.immInv
  · cases h; cases hr; exact .slnil
  · split at h
    · rename_i xs hx
      cases h
      obtain ⟨cs, rfl, h1, h2⟩ := hr.aggDInv
      have := ze7 hx h1
      exact .agg cs xs (by have := this.1; simpa using this) h2 fun i c x hc hx => this.2 i c x (by simpa using hc) hx
    · cases h
  · cases h; exact hr.ipV
  · cases h
theorem zhi : ∀ {vs : List Value} {ds : List D} {xs : List V}, zmh ds = some xs → RepL I μ vs ds → RepVL I vs xs
  | [], [], xs, h, hr => by
    simp only [zmh, Option.some.injEq] at h
    subst h
    exact ⟨rfl, fun i v x h => by simp at h⟩
  | v :: vs, d :: ds, xs, h, hr => by
    simp only [zmh] at h
    split at h
    · rename_i x xs' h1 h2
      cases h
      have ih := zhi (vs := vs) h2 ⟨by simpa using hr.1, fun i v d p q => hr.2 (i + 1) v d (by simpa using p) (by simpa using q)⟩
      refine ⟨by simp [ih.1], fun i u y p q => ?_⟩
      cases i with
      | zero => simp at p q; rw [← p, ← q]; exact yen h1 (hr.2 0 v d rfl rfl)
      | succ i => exact ih.2 i u y (by simpa using p) (by simpa using q)
    · cases h
  | [], _ :: _, _, _, hr => by have := hr.1; simp at this
  | _ :: _, [], _, _, hr => by have := hr.1; simp at this
theorem zub {v : Value} {x : V} (h : toV d = some x) (hr : RepD I μ v d) : RepV I v x := by
  unfold toV at h
  split at h
  · cases h; exact hr.immInv
  · cases h; cases hr; exact .slnil
  · split at h
    · rename_i xs hx
      cases h
      obtain ⟨cs, rfl, h1, h2⟩ := hr.aggDInv
      have := ze7 hx h1
      exact .agg cs xs (by have := this.1; simpa using this) h2 fun i c x hc hx => this.2 i c x (by simpa using hc) hx
    · cases h
  · split at h
    · rename_i ds _ xs hx
      cases h
      generalize hd : D.tup ds = d' at hr
      cases hr <;> cases hd
      rename_i cs hl h
      have := zhi (vs := cs.toList) hx ⟨by simpa using hl, fun i c x hc hx => h i c x (by simpa using hc) hx⟩
      exact .tup cs xs (by have := this.1; simpa using this) fun i c x hc hx => this.2 i c x (by simpa using hc) hx
    · cases h
  · cases h; exact hr.ipV
  · cases h; cases hr; assumption
  · split at h
    · rename_i xs ys hx hy
      cases h
      cases hr with
      | fn g first cap df dc hf hc h1 h2 =>
        have q1 := zhi (vs := first.toList) hx ⟨by simpa using hf, fun i v d e1 e2 => h1 i v d (by simpa using e1) e2⟩
        have q2 := zhi (vs := cap.toList) hy ⟨by simpa using hc, fun i v d e1 e2 => h2 i v d (by simpa using e1) e2⟩
        exact .clo _ first cap xs ys (by simpa using q1.1) (by simpa using q2.1) (fun i c x h1 h2 => q1.2 i c x (by simpa using h1) h2) (fun i c x h1 h2 => q2.2 i c x (by simpa using h1) h2)
    · cases h
  · cases h
theorem zv8 : ∀ {vs : List Value} {ds : List D} {xs : List V}, zv9 ds = some xs → RepL I μ vs ds → RepVL I vs xs
  | [], ds, xs, h, hr => by
    cases ds with
    | nil => cases h; exact .nil
    | cons d ds => simp [RepL] at hr
  | v :: vs, ds, xs, h, hr => by
    cases ds with
    | nil => simp [RepL] at hr
    | cons d ds =>
      obtain ⟨h1, h2⟩ := hr.cons
      simp only [zv9] at h
      split at h
      · cases h; exact .mk (zub (by assumption) h1) (zv8 (by assumption) h2)
      · cases h
theorem zm5 {f : List Nat × List Nat} {all : List Oper} {o : Oper} (h : zb3 todo f = some (all, o, todo')) :
    (∃ r k, todo = .ops all (o :: r) :: k ∧ todo' = .ops all r :: k) ∨ ∃ r fs k, todo = .dops all (o :: r) fs :: k ∧ todo' = .dops all r (f :: fs) :: k := by
  unfold zb3 at h
  split at h
  · cases h; exact .inl ⟨_, _, rfl, rfl⟩
  · cases h; exact .inr ⟨_, _, _, rfl, rfl⟩
  · cases h
theorem zcv {rd fr : List Nat} {wr : St} {all : List Oper} {o : Oper} (h1 : zb3 todo (rd, wr.map (·.1)) = some (all, o, todo')) (hl : LD P (yd6 Q) all o env st rd fr wr d) (hn : zel n o.dst = true)
    (hnd : ∀ c, o.op ≠ .defer c) (h : G P n F Q todo' (zee o.dst d env) (wr ++ st) ids') : G P n F Q todo env st (fr ++ ids') := by
  have hn' : ∀ t, o.dst = some t → t < n := fun t ht => by
    unfold zel at hn
    rw [ht] at hn
    simpa [Nat.blt_eq] using hn
  rcases zm5 h1 with ⟨r, k, rfl, rfl⟩ | ⟨r, fs, k, rfl, rfl⟩
  · exact dgo_l hl hn' hnd h
  · simp only [G, List.reverse_cons] at h ⊢
    exact zvr hl hn' hnd h
def zge (P : Program) (o : Oper) (env : Env) (f : FuncId) (das : List D) (cx : Prop) : Prop :=
  ∀ I μ a w, zes I μ env a o.op → cx → ∃ xs : Array Value, RepL I μ xs.toList das ∧ (execOp a.eval o).run P w = (callFunc f xs).run P w
theorem ze5 {o : Oper} {f : FuncId} {args : List Operand} {ts : Array TypeId} {ds : List D} (ho : o.op = .call { callee := .value (.func f), args := ⟨args⟩, argTypes := ts }) (ha : zve cx env args = some (ds, ob)) (hob : zbh ob) :
    zge P o env f ds cx := by
  intro I μ a w hop hc
  rw [ho] at hop
  refine ⟨(args.map a.eval).toArray, by simpa using evAs_rep hc ha hob fun x hx => hop x (by simp [Op.operands, Call.operands, hx]), ?_⟩
  simp only [execOp, ho, resolve, Act.eval, Deferred.ofValue, Sem.run_bind, Sem.run_pure, Result.andThen_ok, invoke]
  congr 2
  simp
theorem zeo {o : Oper} {t : Nat} {f : FuncId} {args : List Operand} {ts : Array TypeId} {ds : List D} (ho : o.op = .call { callee := .value (.tmp t), args := ⟨args⟩, argTypes := ts }) (ht : lk env t = some (.imm (.fn (.func f))))
    (ha : zve cx env args = some (ds, ob)) (hob : zbh ob) : zge P o env f ds cx := by
  intro I μ a w hop hc
  rw [ho] at hop
  refine ⟨(args.map a.eval).toArray, by simpa using evAs_rep hc ha hob fun x hx => hop x (by simp [Op.operands, Call.operands, hx]), ?_⟩
  have hv : a.eval (.tmp t) = .func (.func f) #[] #[] := (hop (.tmp t) (by simp [Op.operands, Call.operands]) _ ht).immInv.fnInv
  simp only [execOp, ho, resolve, hv, Deferred.ofValue, Sem.run_bind, Sem.run_pure, Result.andThen_ok, invoke]
  congr 2
  simp
theorem zj2 {o : Oper} {t : Nat} {f : FuncId} {args : List Operand} {ts : Array TypeId} {ds df dc : List D} (ho : o.op = .call { callee := .value (.tmp t), args := ⟨args⟩, argTypes := ts }) (ht : lk env t = some (.fn (.func f) df dc))
    (ha : zve cx env args = some (ds, ob)) (hob : zbh ob) : zge P o env f (df ++ ds ++ dc) cx := by
  intro I μ a w hop hc
  rw [ho] at hop
  have hd := evAs_rep (I := I) (μ := μ) (a := a) hc ha hob fun x hx => hop x (by simp [Op.operands, Call.operands, hx])
  have hf := hop (.tmp t) (by simp [Op.operands, Call.operands]) _ ht
  generalize hv : a.eval (.tmp t) = v at hf
  cases hf with
  | fn _ first cap _ _ h1 h2 h3 h4 =>
    refine ⟨first ++ (args.map a.eval).toArray ++ cap, ?_, ?_⟩
    · simp only [Array.toList_append]
      refine RepL.append (RepL.append ⟨by simpa using h1, fun i v d hv hd => h3 i v d (by simpa using hv) hd⟩ hd) ⟨by simpa using h2, fun i v d hv hd => h4 i v d (by simpa using hv) hd⟩
    · simp only [execOp, ho, resolve, hv, Deferred.ofValue, Sem.run_bind, Sem.run_pure, Result.andThen_ok, invoke]
      congr 3
      simp
theorem zlb {all : List Oper} {o : Oper} {g : Option (Bool × Bool)} (hg : zcs all env o = some g) (hon : ∀ t ∈ o.looksAt all.toArray, ∀ d, lk env t = some d → RepD I μ (a.tmps.getD t undef) d) :
    Region.wanted o (yielded all.toArray a.tmps) = true ↔ zal g := by
  unfold zcs at hg
  split at hg
  · rename_i hgd
    cases hg
    simp [zal, wanted_none hgd]
  · rename_i j w0 hgd
    split at hg
    · rename_i gs _ _ _ _ _ hj
      split at hg
      · rename_i c hl
        cases hg
        rw [za7] at hj
        exact zpr hgd hj rfl hl hon
      · cases hg
    · cases hg
theorem zuy {all : List Oper} {o : Oper} {f : FuncId} {das : List D} {vs : List V} {v : V} {g : Option (Bool × Bool)} (hg : zcs all env o = some g) (hc : zge P o env f das (zal g)) (hv : zv9 das = some vs)
    (hE : zal g → PureC P f vs v) : LD P Pn all o env st [] [] [] (gD g (.imm v)) := by
  have key : ∀ I μ st1 ids1 a w, StRep I μ st1 ids1 w → zes I μ env a o.op → zal g → valX P ((execOp a.eval o).run P w) (fun u w' => ∃ I' μ', StRep I' μ' st1 ids1 w' ∧ RepD I' μ' u (gD g (.imm v)) ∧ μ.le μ' ∧ Ext I μ st1 w I' μ' st1 w') (zyi Pn I μ st1 w) := by
    intro I μ st1 ids1 a w hst hop hcx
    obtain ⟨xs, h1, h2⟩ := hc I μ a w hop hcx
    have hx := zv8 hv h1
    obtain ⟨q1, q2, q3⟩ := zkw (σ := []) (st0 := []) hst trivial (das := vs.map .imm) (by
      have : ∀ vs : List V, nmL (vs.map .imm) = [] := fun vs => by induction vs with
        | nil => rfl
        | cons x r ih => simp [nmL, nmD, ih]
      rw [this]; rfl) hx.imm
    have hren : zsj (zoo []) (vs.map .imm) = vs.map .imm := by
      rw [ze2]; simp [zui]
    rw [hren] at q2
    rw [h2]
    refine (hE hcx I _ w xs q1 q2).mono (fun u w' hu => ?_) (fun _ _ h => h.elim)
    obtain ⟨I', μ', r1, r2, r3, r4⟩ := hu
    obtain ⟨ν, s1, s2, s3, s4⟩ := ztw (fr := []) (ids' := ids1) (σ := []) (τ1 := []) (das := []) (st0 := []) hst trivial ⟨rfl, rfl, fun _ h => by simp at h, rfl, rfl, fun _ h => by simp at h⟩ r1 r2 r3 r4 q3
    refine ⟨I', ν, s1, ?_, s3, s4⟩
    cases g with
    | none => exact s2
    | some p => exact .guard _ _ _ _ (fun _ => s2) (fun hn => absurd hcx hn)
  intro I μ st1 ids1 a w _ hst hon
  have hwant := zlb hg hon
  refine ⟨fun hw => key I μ st1 ids1 a w hst (zbr hon) (hwant.1 hw), fun hw => ⟨rfl, rfl, ?_⟩⟩
  cases g with
  | none => rw [hwant.2 trivial] at hw; cases hw
  | some p => exact .guard _ _ _ _ (fun hc => by rw [hwant.2 hc] at hw; cases hw) (fun _ => rfl)
theorem zac {f : FuncId} {vs : List V} {g : Option (Bool × Bool)} {ob : List Prop} {dst : Option Nat} {todo' : List DI} {v : V} (h : pcall n env todo = some ⟨f, vs, g, ob, dst, todo'⟩) (hE : zal g → PureC P f vs v) (hob : zbh ob)
    (hk : G P n F Q todo' (zee dst (gD g (.imm v)) env) st ids) : G P n F Q todo env st ids := by
  unfold pcall at h
  have fin : ∀ {all : List Oper} {o : Oper} {todo1 : List DI} {x : yg4}, (match o.dst with
      | some t => some (⟨x.f, x.vs, x.g, x.ob, some t, todo1⟩ : yg4)
      | none => some ⟨x.f, x.vs, x.g, x.ob, none, todo1⟩) = some ⟨f, vs, g, ob, dst, todo'⟩ → x.f = f ∧ x.vs = vs ∧ x.g = g ∧ x.ob = ob ∧ o.dst = dst ∧ todo1 = todo' := by
    intro all o todo1 x hx
    split at hx <;> (rename_i hd; cases hx; exact ⟨rfl, rfl, rfl, rfl, hd, rfl⟩)
  split at h
  · rename_i all o todo1 h1
    have hnd : ∀ cc, o.op = .call cc → ∀ c, o.op ≠ .defer c := fun cc h c h' => by rw [h] at h'; cases h'
    split at h
    · rename_i f args ts g ho hg
      split at h
      · rename_i ds ob ha
        split at h
        · rename_i vs hv hd
          obtain ⟨e1, e2, e3, e4, e5, e6⟩ := fin (all := all) (x := ⟨f, vs, g, ob, none, todo1⟩) h
          dsimp only at e1 e2 e3 e4
          subst e1; subst e2; subst e3; subst e4; subst e5; subst e6
          exact zcv (fr := []) (wr := []) h1 (zuy hg (ze5 ho ha hob) hv hE) hd (hnd _ ho) hk
        · cases h
      · cases h
    · rename_i t args ts g ho hg
      split at h
      · rename_i f ds ob ht ha
        split at h
        · rename_i vs hv hd
          obtain ⟨e1, e2, e3, e4, e5, e6⟩ := fin (all := all) (x := ⟨f, vs, g, ob, none, todo1⟩) h
          dsimp only at e1 e2 e3 e4
          subst e1; subst e2; subst e3; subst e4; subst e5; subst e6
          exact zcv (fr := []) (wr := []) h1 (zuy hg (zeo ho ht ha hob) hv hE) hd (hnd _ ho) hk
        · cases h
      · cases h
    · cases h
  · cases h
end
end Go.Hk
namespace Go.Hk
def zuw (tt : TT) (st : St) (ty : TypeId) : D → Option D
  | .ref id off => match lk tt ty, lk st id with
    | some i, some (some (.immb _ sz xs)) => zqq i (Nat.beq sz i.size) xs off
    | some i, some (some (.cells _ sz cs)) => znf i (Nat.beq sz i.size) cs off
    | _, _ => none
  | _ => none
def yfh : D → Bool
  | .guard .. => false
  | _ => true
def yau (tt : TT) (env : Env) (st : St) : List ResultVar → Option (List D)
  | [] => some []
  | .tmp t :: r => match lk env t, yau tt env st r with
    | some d, some ds => match yfh d with
      | true => some (d :: ds)
      | false => none
    | _, _ => none
  | .cell t ty :: r => match lk env t, yau tt env st r with
    | some a, some ds => match zuw tt st ty a with
      | some d => some (d :: ds)
      | none => none
    | _, _ => none
def zqh : List D → D
  | [d] => d
  | ds => .tup ds
def yd3 (d : D) : D → Prop
  | .imm v => toV d = some v
  | d' => d = d'
def yep (st : St) : St → Prop
  | [] => True
  | (i, some b) :: r => lk st i = some (some b) ∧ yep st r
  | (_, none) :: _ => False
def yed (tt : TT) (rs : List ResultVar) (out : Out) : DQ := fun x env st _ => match x, out with
  | .ret, .ret d st' => ∃ ds, yau tt env st rs = some ds ∧ yd3 (zqh ds) d ∧ yep st st'
  | .norm, .ret d st' => ∃ ds, yau tt env st rs = some ds ∧ yd3 (zqh ds) d ∧ yep st st'
  | .panic x, .pan y => x = y
  | _, _ => False
def zof : Nat → List D → Env
  | _, [] => []
  | i, d :: r => (i, d) :: zof (i + 1) r
section
variable {P : Program} {tt : TT} {env : Env} {st st' : St} {ids : List Nat} {I : Imm} {μ : Mu} {w : World} {d : D}
theorem zoy : ∀ {st' : St}, yep st st' → ∀ i b, za3 st' i b → za3 st i b
  | [], _, i, b, h => by simp [za3, lk] at h
  | (k, none) :: r, h, _, _, _ => h.elim
  | (k, some x) :: r, h, i, b, hl => by
    by_cases hk : k = i
    · subst hk
      unfold za3 at hl; rw [lk_cons_self] at hl; cases hl
      exact h.1
    · refine zoy h.2 i b ?_
      unfold za3 at hl ⊢; rwa [lk_cons_ne _ _ hk] at hl
theorem StRep.less (hs : StRep I μ st ids w) (h : ∀ i b, za3 st' i b → za3 st i b) {ids' : List Nat} (hn : ids'.Nodup) (hi : ∀ i ∈ ids', μ i = none) : StRep I μ st' ids' w :=
  { imm := hs.imm, blk := fun id blk hl => hs.blk id blk (h _ _ hl), apart := fun id blk g b hl => hs.apart id blk g b (h _ _ hl),
    inj := fun i j bi bj gi gj b hi hj => hs.inj i j bi bj gi gj b (h _ _ hi) (h _ _ hj), nodup := hn, idsFree := hi }
theorem zyq (htt : TTok P tt) (hst : StRep I μ st ids w) {ty : TypeId} {v : Value} {da : D} (hv : RepD I μ v da) (h : zuw tt st ty da = some d) :
    ∃ b u, v = .pointer (some b) ∧ (loadVar ty b).run P w = .ok u w ∧ RepD I μ u d := by
  unfold zuw at h
  split at h
  · rename_i id off
    obtain ⟨b, e1, e2⟩ := hv.refInv
    have conv : ∀ {u : Value}, (Instr.loadAt ty (.pointer (some ⟨b, off, none⟩))).run P w = .ok u w → (loadVar ty ⟨b, off, none⟩).run P w = .ok u w := fun h => by
      simpa [Instr.loadAt, Instr.sureAddr] using h
    split at h
    · rename_i i bt sz xs hi hl
      obtain ⟨g, hg, hlen, b', vs, hg2, hheap, hrep, hone⟩ := hst.blk id _ hl
      rw [e2] at hg; cases hg; cases hg2
      obtain ⟨u, h1, h2⟩ := zlz (P := P) (w := w) (I := I) (μ := μ) (htt ty i hi) (b := b) (o := 0) (off := off) (xs := xs) (vs := fun j => vs.toList.getD j undef) (same := Nat.beq sz i.size)
        (fun j x hj => by
          have hlt : j < xs.length := (List.getElem?_eq_some_iff.1 hj).1
          have hv : vs.toList[j]? = some (vs.toList[j]'(by rw [hrep.1]; exact hlt)) := List.getElem?_eq_getElem _
          rw [Nat.zero_add]
          have e : vs.toList.getD j undef = vs.toList[j]'(by rw [hrep.1]; exact hlt) := by simp [List.getD, hv]
          rw [e]
          exact ⟨cell_of_heap hheap j _ hv, hone _ (List.getElem_mem _)⟩)
        (fun j x hj => by
          have hlt : j < xs.length := (List.getElem?_eq_some_iff.1 hj).1
          have hv : vs.toList[j]? = some (vs.toList[j]'(by rw [hrep.1]; exact hlt)) := List.getElem?_eq_getElem _
          have e : vs.toList.getD j undef = vs.toList[j]'(by rw [hrep.1]; exact hlt) := by simp [List.getD, hv]
          rw [e]
          exact hrep.2 j _ _ hv hj)
        (fun _ hs _ => by rw [hlen]; exact Nat.eq_of_beq_eq_true hs) h
      rw [Nat.zero_add] at h1
      exact ⟨_, u, e1, conv h1, h2⟩
    · rename_i i bt sz cs hi hl
      obtain ⟨g, hg, hlen, b', vs, hg2, hheap, hrep, hone⟩ := hst.blk id _ hl
      rw [e2] at hg; cases hg; cases hg2
      obtain ⟨u, h1, h2⟩ := zw9 (P := P) (w := w) (I := I) (μ := μ) (htt ty i hi) (b := b) (off := off) (cs := cs) (vs := vs.toList) (same := Nat.beq sz i.size)
        (fun j v hj => cell_of_heap hheap j v hj) hone hrep (fun _ hs _ => by rw [hlen]; exact Nat.eq_of_beq_eq_true hs) h
      exact ⟨_, u, e1, conv h1, h2⟩
    · cases h
  · cases h
theorem run_asAddr (b : Addr) : (asAddr (.pointer (some b))).run P w = .ok b w := by simp [asAddr]
theorem zug (htt : TTok P tt) (hst : StRep I μ st ids w) {tmps : Array Value} (he : ∀ t d, lk env t = some d → RepD I μ (tmps.getD t undef) d) {g : ResultVar → Sem Value} (g1 : ∀ t, g (.tmp t) = pure (tmps.getD t undef))
    (g2 : ∀ a t, g (.cell a t) = do loadVar t (← asAddr (tmps.getD a undef))) : ∀ {rs : List ResultVar} {ds : List D}, yau tt env st rs = some ds → ∃ vs, (rs.mapM g).run P w = .ok vs w ∧ RepL I μ vs ds
  | [], ds, h => by cases h; exact ⟨[], by simp, .nil⟩
  | .tmp t :: r, ds, h => by
    simp only [yau] at h
    split at h
    · rename_i d ds' h1 h2
      split at h
      · cases h
        obtain ⟨vs, h3, h4⟩ := zug htt hst he g1 g2 h2
        exact ⟨_, by simp only [List.mapM_cons, g1, Sem.run_bind, Sem.run_pure, Result.andThen_ok, h3], .mk (he t d h1) h4⟩
      · cases h
    · cases h
  | .cell t ty :: r, ds, h => by
    simp only [yau] at h
    split at h
    · rename_i a ds' h1 h2
      split at h
      · rename_i d hd
        cases h
        obtain ⟨vs, h3, h4⟩ := zug htt hst he g1 g2 h2
        obtain ⟨b, u, e1, e2, e3⟩ := zyq htt hst (he t a h1) hd
        exact ⟨_, by simp only [List.mapM_cons, g2, Sem.run_bind, Sem.run_pure, Result.andThen_ok, h3, e1, run_asAddr, e2], .mk e3 h4⟩
      · cases h
    · cases h
theorem zyf (htt : TTok P tt) (hst : StRep I μ st ids w) {tmps : Array Value} (he : ∀ t d, lk env t = some d → RepD I μ (tmps.getD t undef) d) {fn : Func} {ds : List D} (h : yau tt env st fn.results.toList = some ds) :
    ∃ vs : List Value, (results fn tmps).run P w = .ok (if h : vs.toArray.size = 1 then vs.toArray[0] else .tuple vs.toArray) w ∧ RepL I μ vs ds := by
  have hm : ∀ (f : ResultVar → Sem Value) (vs : List Value), (fn.results.toList.mapM f).run P w = .ok vs w → (fn.results.mapM f).run P w = .ok vs.toArray w := fun f vs hf => by
    rw [Array.mapM_eq_mapM_toList]
    change Sem.run P (List.mapM f fn.results.toList >>= fun l => pure l.toArray) w = _
    simp only [Sem.run_bind, hf, Sem.run_pure, Result.andThen_ok]
  refine Exists.imp (fun vs hv => ⟨?_, hv.2⟩) (zug (g := fun | .tmp t => pure (tmps.getD t undef) | .cell a t => do loadVar t (← asAddr (tmps.getD a undef))) htt hst he (fun _ => rfl) (fun _ _ => rfl) h)
  have q := hm _ vs hv.1
  unfold results
  simp only [Sem.run_bind]
  exact Eq.trans (congrArg (Result.andThen · (fun vs w => Sem.run P (pure (if h : vs.size = 1 then vs[0] else .tuple vs)) w)) q) (by simp)
theorem yat {vs : List Value} {ds : List D} (h : RepL I μ vs ds) : RepD I μ (if h : vs.toArray.size = 1 then vs.toArray[0] else .tuple vs.toArray) (zqh ds) := by
  have tup : RepD I μ (.tuple vs.toArray) (.tup ds) := .tup _ _ (by simpa using h.1) fun i c x hc hx => h.2 i c x (by simpa using hc) hx
  match vs, ds, h, tup with
  | [], [], _, tup => simpa [zqh] using tup
  | [v], [d], h, _ => simpa [zqh] using h.2 0 v d rfl rfl
  | v :: v' :: r, d :: d' :: s, _, tup => simpa [zqh] using tup
  | [], _ :: _, h, _ => simp [RepL] at h
  | _ :: _, [], h, _ => simp [RepL] at h
  | [_], _ :: _ :: _, h, _ => simp [RepL] at h
  | _ :: _ :: _, [_], h, _ => simp [RepL] at h
theorem zv7 {v : Value} {d' : D} (h : yd3 d d') (hr : RepD I μ v d) : RepD I μ v d' := by
  cases d' with
  | imm x => exact .imm _ _ (zub h hr)
  | _ => (have h : d = _ := h); rw [← h]; exact hr
theorem run_callFunc_body {f : FuncId} {fn : Func} {c : Code} (hf : P.funcs[f]? = some fn) (hname : (fn.name == "runtime.NumGoroutine") = false) (hb : fn.body = some c) (xs : Array Value) :
    (callFunc f xs).run P w = .ok (.enter f xs) w := by
  have hn : ¬ fn.name = "runtime.NumGoroutine" := by simpa using hname
  simp [callFunc, hf, hn, hb]
theorem zs2 : ∀ {ds : List D} {i t : Nat} {d : D}, lk (zof i ds) t = some d → ∃ j, t = i + j ∧ ds[j]? = some d
  | [], i, t, d, h => by simp [zof, lk] at h
  | x :: r, i, t, d, h => by
    simp only [zof] at h
    by_cases hi : i = t
    · subst hi; rw [lk_cons_self] at h; cases h; exact ⟨0, rfl, rfl⟩
    · rw [lk_cons_ne _ _ hi] at h
      obtain ⟨j, h1, h2⟩ := zs2 h
      exact ⟨j + 1, by omega, by simpa using h2⟩
def zv2 : List Nat → List Nat → Bool
  | [], _ => true
  | x :: r, l => memN l x && zv2 r l
theorem zfl : ∀ {a b : List Nat}, zv2 a b = true → ∀ i ∈ a, i ∈ b
  | [], _, _, i, h => by simp at h
  | x :: r, b, h, i, hi => by
    simp only [zv2, Bool.and_eq_true] at h
    rcases List.mem_cons.1 hi with rfl | hi
    · exact memN_iff.1 h.1
    · exact zfl h.2 i hi
def nodupB : List Nat → Bool
  | [] => true
  | x :: r => !memN r x && nodupB r
theorem nodupB_spec : ∀ {a : List Nat}, nodupB a = true → a.Nodup
  | [], _ => .nil
  | x :: r, h => by
    simp only [nodupB, Bool.and_eq_true, Bool.not_eq_true'] at h
    exact List.nodup_cons.2 ⟨fun hm => (by rw [memN_iff.2 hm] at h; cases h.1), nodupB_spec h.2⟩
theorem RepL.sub {ν : Mu} {vs : List Value} {ds : List D} (h : RepL I μ vs ds) (hn : ∀ i ∈ nmL ds, ∀ g, μ i = some g → ν i = some g) : RepL I ν vs ds :=
  ⟨h.1, fun i v d hv hd => (h.2 i v d hv hd).sub fun j hj => hn j (ziq (List.mem_of_getElem? hd) hj)⟩
theorem BlkRep.sub {ν : Mu} {g : Value} {blk : Blk} (h : BlkRep I μ w g blk) (hn : ∀ i ∈ nmB blk, ∀ g, μ i = some g → ν i = some g) : BlkRep I ν w g blk := by
  cases blk with
  | immb t sz xs => exact h
  | cells t sz cs =>
    obtain ⟨hs, b, vs, h1, h2, h3, h4⟩ := h
    exact ⟨hs, b, vs, h1, h2, h3.sub hn, h4⟩
  | row t sz es => exact h
  | map kv => exact h
  | siter s pos => exact h
  | pin => exact h
  | bun id S =>
    obtain ⟨b, bs, h1, h2, h3⟩ := h
    exact ⟨b, bs, hn id (by simp [nmB]) _ h1, h2, h3⟩
  | hp A => exact h
  | adr id b => exact ⟨h.1, hn id (by simp [nmB]) _ h.2⟩
  | mapx kv b es c => exact h
  | miter b s z c => exact h
def RetL (tt : TT) (rs : List ResultVar) (out : Out) : DQ := fun x env st _ => match x, out with
  | .ret, .ret d st' => ∃ ds, yau tt env st rs = some ds ∧ yd3 (zqh ds) d ∧ ∀ i b, za3 st' i b → za3 st i b
  | .norm, .ret d st' => ∃ ds, yau tt env st rs = some ds ∧ yd3 (zqh ds) d ∧ ∀ i b, za3 st' i b → za3 st i b
  | .panic x, .pan y => x = y
  | _, _ => False
theorem ygk {f : FuncId} {fn : Func} {c : Code} {ds : List D} {st0 : St} {out : Out} (htt : TTok P tt) (hf : P.funcs[f]? = some fn) (hname : (fn.name == "runtime.NumGoroutine") = false) (hb : fn.body = some c)
    (ids : List Nat) (hsz : Nat.ble ds.length fn.ntmps = true) (hn1 : ids.Nodup) (hn2 : ∀ i ∈ ids, i ∉ nms st0) (hn3 : ∀ i ∈ nmL ds, i ∈ nms st0) (hn4 : ∀ i ∈ zup st0, i ∈ nms st0)
    (h : DGo P fn.ntmps (nms st0) (RetL tt fn.results.toList out) [.code c] (zof 0 ds) st0 ids) : zcm P f ds st0 out := by
  intro I μ w xs hst hx
  rw [run_callFunc_body hf hname hb]
  refine calls_of_reachM hf hb fun b cs hbf _ hbr => ?_
  -- other names than those of the contract are none
  obtain ⟨ν, hν⟩ : ∃ ν : Mu, ν = fun i => if memN (nms st0) i = true then μ i else none := ⟨_, rfl⟩
  have hν1 : ∀ i ∈ nms st0, ν i = μ i := fun i hi => by rw [hν]; simp [memN_iff.2 hi]
  have hlive : ∀ i b, za3 st0 i b → i ∈ nms st0 := by
    intro i b hl
    have : ∀ {st0 : St}, za3 st0 i b → i ∈ nms st0 := by
      intro st0
      induction st0 with
      | nil => intro h; simp [za3, lk] at h
      | cons p r ih =>
        obtain ⟨k, y⟩ := p
        intro h
        by_cases hk : k = i
        · subst hk; simp [nms]
        · have : za3 r i b := by unfold za3 at h ⊢; rwa [lk_cons_ne _ _ hk] at h
          simp only [nms, List.map_cons, List.mem_cons]; exact .inr (ih this)
    exact this hl
  have hst1 : StRep I ν st0 ids w := by
    refine { imm := hst.imm, blk := fun i b hl => ?_, apart := fun i bb g k hl hg hk => hst.apart i bb g k hl (by rw [← hν1 i (hlive i bb hl)]; exact hg) hk, inj := fun i j bi bj gi gj k hi hj hgi hgj => hst.inj i j bi bj gi gj k hi hj (by rw [← hν1 i (hlive i bi hi)]; exact hgi) (by rw [← hν1 j (hlive j bj hj)]; exact hgj), nodup := hn1, idsFree := fun i hi => ?_ }
    · obtain ⟨g, hg, hr⟩ := hst.blk i b hl
      refine ⟨g, by rw [hν1 i (hlive i b hl)]; exact hg, hr.sub fun j hj g hgj => ?_⟩
      rw [hν1 j (hn4 j ((zg0 hl).2 j hj))]; exact hgj
    · rw [hν]
      have := hn2 i hi
      have hm : memN (nms st0) i = false := by
        cases h : memN (nms st0) i with
        | false => rfl
        | true => exact absurd (memN_iff.1 h) this
      simp [hm]
  have hx1 : RepL I ν xs.toList ds := hx.sub fun j hj g hg => by rw [hν1 j (hn3 j hj)]; exact hg
  have hlen : xs.size = ds.length := by have := hx.1; simpa using this
  have hsz' : ds.length ≤ fn.ntmps := by simpa [Nat.ble_eq] using hsz
  have hc : Conc fn.ntmps I ν (zof 0 ds) st0 ids { tmps := xs ++ Array.replicate (fn.ntmps - xs.size) undef, defers := [] } w :=
    { hst1 with
      size := (by simp; omega)
      env := fun t d hl => by
        obtain ⟨j, rfl, hd⟩ := zs2 hl
        have hj : j < ds.length := (List.getElem?_eq_some_iff.1 hd).1
        have hjx : j < xs.size := by omega
        have e : (xs ++ Array.replicate (fn.ntmps - xs.size) undef).getD (0 + j) undef = xs[j] := by
          rw [Nat.zero_add]
          simp [Array.getD, Array.getElem_append_left hjx]
          omega
        rw [e]
        exact hx1.2 j _ d (by simp [hjx]) hd
      defers := MarksOk.nil _ _ _ _ }
  have hown : ∀ b, zds ν st0 b ↔ zds μ st0 b := fun b => by
    constructor <;> rintro ⟨i, bi, g, h1, h2, h3⟩
    · exact ⟨i, bi, g, h1, by rw [← hν1 i (hlive i bi h1)]; exact h2, h3⟩
    · exact ⟨i, bi, g, h1, by rw [hν1 i (hlive i bi h1)]; exact h2, h3⟩
  have hrun := h ⟨b, .inr ⟨hbr, fn, by rw [hbf]; exact hf⟩⟩ cs I ν { tmps := xs ++ Array.replicate (fn.ntmps - xs.size) undef, defers := [] } w [.code c] ⟨rfl, trivial⟩ hc
  refine hrun.mono fun e a' w' hp => ?_
  obtain ⟨x, env', st', ids', I', μ', p1, p2, p3, p4, p5', p6⟩ := hp
  obtain ⟨rs, m1, m2, m3⟩ := p3.defers
  have hrs : ∀ r ∈ rs, w.heap.size ≤ r := fun r hr => by
    rcases p6 r (by rw [m1]; exact List.mem_map.2 ⟨r, hr, rfl⟩) with h | h
    · simp at h
    · exact h
  obtain ⟨w2, k1, k2, k3, k4, k5, k6⟩ := zs0 (P := P) rs w' m2 (fun r hr => (m3 r hr).1)
  have hS2 : StRep I' μ' st' ids' w2 :=
    { imm := fun b o h => by rw [k6 b (fun hm => by rw [(m3 b hm).2.1] at h; cases h)]; exact p3.imm b o h
      blk := fun i b hl => by
        obtain ⟨g, hg, hr⟩ := p3.blk i b hl
        exact ⟨g, hg, hr.world fun bb hbb => k6 bb fun hm => (m3 bb hm).2.2 ⟨i, b, g, hl, hg, hbb⟩⟩
      apart := fun i b g bb hl hg hbb => by rw [k5]; exact p3.apart i b g bb hl hg hbb
      inj := p3.inj
      nodup := p3.nodup
      idsFree := p3.idsFree }
  have p5 : Ext I ν st0 w I' μ' st' w2 :=
    { imm := p5'.imm, os := k2.trans p5'.os, tape := k3.trans p5'.tape, output := k4.trans p5'.output, size := by rw [k5]; exact p5'.size
      block := fun b hb ho => (k6 b fun hm => by have := hrs b hm; omega).trans (p5'.block b hb ho), fresh := p5'.fresh, old := p5'.old }
  -- a plain end
  have fin : ∀ d st1, out = .ret d st1 → (∃ ds, yau tt env' st' fn.results.toList = some ds ∧ yd3 (zqh ds) d ∧ ∀ i b, za3 st1 i b → za3 st' i b) → ∃ w'' v, Marks P a'.defers w' w'' ∧ (results fn a'.tmps).run P w'' = .ok v w'' ∧
      (match (Ending.returned v) with
        | .returned v => (match out with
          | .ret d st' => ∃ I' μ', RepD I' μ' v d ∧ StRep I' μ' st' [] w'' ∧ Pin (nms st0) μ μ' ∧ Ext I μ st0 w I' μ' st' w''
          | .pan _ => False)
        | .panicked chain => (match out with
          | .ret _ _ => False
          | .pan x => zyi (· = x) I μ st0 w chain w'')
        | .outgrown => False) := by
    rintro d st1 rfl ⟨ds', r1, r2, r3⟩
    obtain ⟨vs, q1, q2⟩ := zyf htt hS2 p3.env r1
    refine ⟨w2, _, by rw [m1]; exact k1, q1, I', μ', zv7 r2 (yat q2), hS2.less (r3) .nil (fun _ h => by simp at h), fun i hi g hg => p4 i hi g (by rw [hν1 i hi]; exact hg), ?_⟩
    exact { imm := p5.imm, os := p5.os, tape := p5.tape, output := p5.output, size := p5.size, block := fun b hb ho => p5.block b hb (fun h => ho ((hown b).1 h)), fresh := fun b hb ⟨i, bi, g, h1, h2⟩ => (hown b).1 (p5.fresh b hb ⟨i, bi, g, r3 i bi h1, h2⟩), old := fun b hb ho => p5.old b hb (fun h => ho ((hown b).1 h)) }
  cases e with
  | normal =>
    cases x <;> simp only [yjm] at p1
    cases hout : out with
    | ret d st1 => subst hout; exact fin d st1 rfl p2
    | pan y => subst hout; exact p2.elim
  | ret =>
    cases x <;> simp only [yjm] at p1
    cases hout : out with
    | ret d st1 => subst hout; exact fin d st1 rfl p2
    | pan y => subst hout; exact p2.elim
  | panic chain =>
    cases x <;> simp only [yjm] at p1
    rename_i x
    obtain ⟨v, rfl, hv⟩ := p1
    cases hout : out with
    | ret d st1 => subst hout; exact p2.elim
    | pan y =>
      subst hout
      have p2 : x = y := p2
      subst p2
      refine ⟨w2, by rw [m1]; exact k1, v, x, I', rfl, rfl, hv, hS2.imm, ?_⟩
      exact { imm := p5.imm, os := p5.os, tape := p5.tape, output := p5.output, size := p5.size, block := fun b hb ho => p5.block b hb (fun h => ho ((hown b).1 h)), fresh := fun b hb ⟨i, bi, g, h1, h2⟩ => by simp [za3, lk] at h1, old := fun b hb ho => p5.old b hb (fun h => ho ((hown b).1 h)) }
  | exit id =>
    cases x <;> simp only [yjm] at p1
    exact p2.elim
  | goto l =>
    cases x <;> simp only [yjm] at p1
    exact p2.elim
  | outgrown => cases x <;> simp only [yjm] at p1
theorem zae {f : FuncId} {fn : Func} {c : Code} {ds : List D} {st0 : St} {out : Out} (htt : TTok P tt) (hf : P.funcs[f]? = some fn) (hname : (fn.name == "runtime.NumGoroutine") = false) (hb : fn.body = some c)
    (ids : List Nat) (hsz : Nat.ble ds.length fn.ntmps = true) (hn : (nodupB ids && zq9 ids (nms st0) && zv2 (nmL ds) (nms st0) && zv2 (zup st0) (nms st0)) = true)
    (h : G P fn.ntmps (nms st0) (yed tt fn.results.toList out) [.code c] (zof 0 ds) st0 ids) : zcm P f ds st0 out := by
  simp only [Bool.and_eq_true] at hn
  obtain ⟨⟨⟨hn1, hn2⟩, hn3⟩, hn4⟩ := hn
  refine ygk htt hf hname hb ids hsz (nodupB_spec hn1) (zjw.1 hn2) (zfl hn3) (zfl hn4) (h.go.mono fun x env st ids hq => ?_)
  cases x <;> cases out <;> first
    | exact hq
    | exact hq.elim
    | exact ⟨hq.choose, hq.choose_spec.1, hq.choose_spec.2.1, fun i b hl => zoy hq.choose_spec.2.2 i b hl⟩
end
end Go.Hk
namespace Go.Hk
mutual
def vOk : V → Prop
  | .sl es => es.length ≤ maxLen ∧ zt9 es
  | .agg cs => zdi cs
  | .tup cs => zdi cs
  | .iface _ x => vOk x
  | _ => True
def zdi : List V → Prop
  | [] => True
  | x :: r => vOk x ∧ zdi r
def zt9 : List (List V) → Prop
  | [] => True
  | e :: r => zdi e ∧ zt9 r
end
theorem zi9 : ∀ {l : List V}, zdi l ↔ ∀ x ∈ l, vOk x
  | [] => by simp [zdi]
  | x :: r => by simp [zdi, zi9 (l := r)]
theorem zr4 : ∀ {l : List (List V)}, zt9 l ↔ ∀ e ∈ l, zdi e
  | [] => by simp [zt9]
  | x :: r => by simp [zt9, zr4 (l := r)]
def subE (env : Env) : Env → Prop
  | [] => True
  | (t, d') :: r => (match lk env t with
    | some d => yd3 d d'
    | none => False) ∧ subE env r
def yem : Blk → Blk → Prop
  | .cells t sz cs, .immb t' sz' xs => t = t' ∧ sz = sz' ∧ zh4 cs = some xs
  | .immb t sz xs, .cells t' sz' cs => t = t' ∧ sz = sz' ∧ xs.map .imm = cs
  | b, b' => b = b'
def subB (st : St) : St → Prop
  | [] => True
  | (i, some b') :: r => (match lk st i with
    | some (some b) => yem b b'
    | _ => False) ∧ subB st r
  | (_, none) :: _ => False
def zzf (ids l : List Nat) : List Nat → Bool
  | [] => true
  | i :: r => (memN ids i || !memN l i) && zzf ids l r
theorem zpi {ids l : List Nat} : ∀ {m : List Nat}, zzf ids l m = true → ∀ i ∈ m, i ∈ ids ∨ i ∉ l
  | [], _, i, h => by simp at h
  | x :: r, h, i, hi => by
    simp only [zzf, Bool.and_eq_true, Bool.or_eq_true, Bool.not_eq_true'] at h
    rcases List.mem_cons.1 hi with rfl | hi
    · exact h.1.imp (fun h => memN_iff.1 h) fun h hm => by rw [memN_iff.2 hm] at h; cases h
    · exact zpi h.2 i hi
section
variable {P : Program} {n : Nat} {F : List Nat} {Q : DQ} {tt : TT} {env env' : Env} {st st' : St} {ids ids' : List Nat} {k todo : List DI} {I : Imm} {μ : Mu} {w : World}
theorem RepV.ok {v : Value} {x : V} (h : RepV I v x) : vOk x := by
  induction h with
  | agg cs xs hl _ _ ih =>
    simp only [vOk, zi9]
    intro x hx
    obtain ⟨i, hi⟩ := List.mem_iff_getElem?.1 hx
    have hlt : i < cs.size := by rw [hl]; exact (List.getElem?_eq_some_iff.1 hi).1
    exact ih i cs[i] x (by simp [hlt]) hi
  | tup cs xs hl _ ih =>
    simp only [vOk, zi9]
    intro x hx
    obtain ⟨i, hi⟩ := List.mem_iff_getElem?.1 hx
    have hlt : i < cs.size := by rw [hl]; exact (List.getElem?_eq_some_iff.1 hi).1
    exact ih i cs[i] x (by simp [hlt]) hi
  | slnil => simp [vOk, zt9]
  | sl0 => simp [vOk, zt9]
  | sl b o len cap sz es vs hl hc hm hsz hcell _ ih =>
    simp only [vOk, zr4, zi9]
    refine ⟨by omega, fun e he x hx => ?_⟩
    obtain ⟨i, hi⟩ := List.mem_iff_getElem?.1 he
    obtain ⟨j, hj⟩ := List.mem_iff_getElem?.1 hx
    exact ih i e j x hi hj
  | iface t v x _ ih => exact ih
  | _ => trivial
theorem zsc : ∀ {env' : Env}, subE env env' → ∀ t d', lk env' t = some d' → ∃ d, lk env t = some d ∧ yd3 d d'
  | [], _, t, d', h => by simp [lk] at h
  | (s, x) :: r, h, t, d', hl => by
    by_cases hs : s = t
    · subst hs
      rw [lk_cons_self] at hl; cases hl
      have h1 := h.1
      split at h1
      · exact ⟨_, by assumption, h1⟩
      · exact h1.elim
    · rw [lk_cons_ne _ _ hs] at hl
      exact zsc h.2 t d' hl
theorem zml : ∀ {st' : St}, subB st st' → ∀ i b', za3 st' i b' → ∃ b, za3 st i b ∧ yem b b'
  | [], _, i, b, h => by simp [za3, lk] at h
  | (s, none) :: r, h, _, _, _ => h.elim
  | (s, some x) :: r, h, i, b', hl => by
    by_cases hs : s = i
    · subst hs
      unfold za3 at hl
      rw [lk_cons_self] at hl; cases hl
      have h1 := h.1
      split at h1
      · exact ⟨_, by assumption, h1⟩
      · exact h1.elim
    · refine zml h.2 i b' ?_
      unfold za3 at hl ⊢; rwa [lk_cons_ne _ _ hs] at hl
theorem zz9 {g : Value} {b b' : Blk} (h : yem b b') (hr : BlkRep I μ w g b) : BlkRep I μ w g b' := by
  unfold yem at h
  split at h
  · obtain ⟨rfl, rfl, h⟩ := h
    obtain ⟨hs, bb, vs, h1, h2, h3, h4⟩ := hr
    have := ze7 h h3
    exact ⟨by rw [← hs, ← h3.1, this.1], bb, vs, h1, h2, this, h4⟩
  · obtain ⟨rfl, rfl, rfl⟩ := h
    obtain ⟨hs, bb, vs, h1, h2, h3, h4⟩ := hr
    exact ⟨by simpa using hs, bb, vs, h1, h2, h3.imm, h4⟩
  · subst h; exact hr
theorem zpp (hE : subE env env') (hS : subB st st') (hI : (nodupB ids' && zzf ids (nmE env' ++ zup st' ++ F) ids') = true) (h : DGo P n F Q todo env' st' ids') : DGo P n F Q todo env st ids := by
  intro b cs I μ a w items hd hc
  simp only [Bool.and_eq_true] at hI
  obtain ⟨hI1, hI2⟩ := hI
  obtain ⟨ν, hν⟩ : ∃ ν : Mu, ν = fun i => if memN ids' i = true then none else μ i := ⟨_, rfl⟩
  have hno : ∀ i ∈ nmE env' ++ zup st' ++ F, ∀ g, μ i = some g → ν i = some g := by
    intro i hi g hg
    rw [hν]
    have : memN ids' i = false := by
      cases hm : memN ids' i with
      | false => rfl
      | true =>
        rcases zpi hI2 i (memN_iff.1 hm) with h | h
        · rw [hc.idsFree i h] at hg; cases hg
        · exact absurd hi h
    simp [this, hg]
  have hback : ∀ i g, ν i = some g → μ i = some g := by
    intro i g hg
    rw [hν] at hg
    by_cases hm : memN ids' i = true
    · simp [hm] at hg
    · simpa [hm] using hg
  have hlive : ∀ i b', za3 st' i b' → ∃ b, za3 st i b := fun i b' hl => let ⟨b, h1, _⟩ := zml hS i b' hl; ⟨b, h1⟩
  have nmE_mem : ∀ {env : Env} {t : Nat} {d : D}, lk env t = some d → ∀ i ∈ nmD d, i ∈ nmE env := by
    intro env
    induction env with
    | nil => intro t d h; simp [lk] at h
    | cons p r ih =>
      obtain ⟨s, x⟩ := p
      intro t d h i hi
      simp only [nmE, List.mem_append]
      by_cases hs : s = t
      · subst hs; rw [lk_cons_self] at h; cases h; exact .inl hi
      · rw [lk_cons_ne _ _ hs] at h; exact .inr (ih h i hi)
  have hEx : Ext I μ st w I ν st' w :=
    { imm := Imm.le_refl I, os := rfl, tape := rfl, output := rfl, size := Nat.le_refl _, block := fun _ _ _ => rfl,
          fresh := fun b _ ⟨i, b', g, h1, h2, h3⟩ => let ⟨bb, q⟩ := hlive i b' h1; ⟨i, bb, g, q, hback i g h2, h3⟩, old := fun _ _ _ => rfl }
  have hc' : Conc n I ν env' st' ids' a w :=
    { imm := hc.imm
      blk := fun i b' hl => by
        obtain ⟨b, h1, h2⟩ := zml hS i b' hl
        obtain ⟨g, hg, hr⟩ := hc.blk i b h1
        obtain ⟨q1, q2⟩ := zg0 hl
        exact ⟨g, hno i (by simp [q1]) g hg, (zz9 h2 hr).sub fun j hj g hg => hno j (by simp [q2 j hj]) g hg⟩
      apart := fun i b' g k hl hg hk => by
        obtain ⟨b, h1⟩ := hlive i b' hl
        exact hc.apart i b g k h1 (hback i g hg) hk
      inj := fun i j bi bj gi gj k hi hj hgi hgj hki hkj => by
        obtain ⟨b1, h1⟩ := hlive i bi hi
        obtain ⟨b2, h2⟩ := hlive j bj hj
        exact hc.inj i j b1 b2 gi gj k h1 h2 (hback i gi hgi) (hback j gj hgj) hki hkj
      nodup := nodupB_spec hI1
      idsFree := fun i hi => by rw [hν]; simp [memN_iff.2 hi]
      size := hc.size
      env := fun t d' hl => by
        obtain ⟨d, h1, h2⟩ := zsc hE t d' hl
        exact (zv7 h2 (hc.env t d h1)).sub fun j hj g hg => hno j (by simp [nmE_mem hl j hj]) g hg
      defers := hc.defers.ext hEx }
  refine (h b cs I ν a w items hd hc').mono fun e a' w' hp => ?_
  refine hp.back (fun i hi g hg => hno i (by simp [hi]) g hg) ?_
  exact hEx
theorem zad (h : DGo P n F Q todo env' st' ids') (hE : subE env env') (hS : subB st st') (hI : (nodupB ids' && zzf ids (nmE env' ++ zup st' ++ F) ids') = true) : DGo P n F Q todo env st ids := zpp hE hS hI h
theorem zvl {α : Type} {c : Code} (E : α → Env) (S : α → St) (ids' : List Nat) (m : α → Nat) (Inv : α → Prop)
    (step : ∀ x, Inv x → (∀ x', m x' < m x → Inv x' → DGo P n F Q (.inLoop c :: k) (E x') (S x') ids') → DGo P n F Q (.code c :: .inLoop c :: k) (E x) (S x) ids') :
    ∀ x, Inv x → DGo P n F Q (.inLoop c :: k) (E x) (S x) ids' := by
  have : ∀ b x, m x < b → Inv x → DGo P n F Q (.inLoop c :: k) (E x) (S x) ids' := by
    intro b
    induction b with
    | zero => intro x h; omega
    | succ b ih => intro x hm hx; exact zzq (step x hx fun x' hm' hx' => ih x' (by omega) hx')
  intro x hx
  exact this (m x + 1) x (by omega) hx
theorem zag {α : Type} {c : Code} (E : α → Env) (S : α → St) (ids' : List Nat) (m : α → Nat) (Inv : α → Prop) (x0 : α) (h0 : Inv x0) (hE : subE env (E x0)) (hS : subB st (S x0))
    (hI : (nodupB ids' && zzf ids (nmE (E x0) ++ zup (S x0) ++ F) ids') = true)
    (step : ∀ x, Inv x → (∀ x', m x' < m x → Inv x' → DGo P n F Q (.inLoop c :: k) (E x') (S x') ids') → DGo P n F Q (.code c :: .inLoop c :: k) (E x) (S x) ids') :
    DGo P n F Q (.code (.loop c) :: k) env st ids :=
  zra (zpp hE hS hI (zvl E S ids' m Inv step x0 h0))
theorem zav {f : FuncId} {vs : List V} {v : V} (h : zdi vs → PureC P f vs v) : PureC P f vs v := by
  intro I μ w xs hst hx
  refine h (zi9.2 fun x hxm => ?_) I μ w xs hst hx
  obtain ⟨j, hj⟩ := List.mem_iff_getElem?.1 hxm
  have hlt : j < xs.toList.length := by rw [hx.1]; simpa using (List.getElem?_eq_some_iff.1 hj).1
  exact (hx.2 j _ (.imm x) (List.getElem?_eq_getElem hlt) (by simp [hj])).immInv.ok
end
end Go.Hk
namespace Go.Hk
def yfe : List DI → Option Oper
  | .ops _ (o :: _) :: _ => some o
  | .dops _ (o :: _) _ :: _ => some o
  | _ => none
def zie (st : St) : D → Option (List Nat × List (List V))
  | .nils => some ([], [])
  | .own id _ => match lk st id with
    | some (some (.row _ _ es)) => some ([id], es)
    | _ => none
  | .clip es => some ([], es)
  | _ => none
def zlw : D → Option (List (List V))
  | .imm (.sl es) => some es
  | .nils => some []
  | _ => none
def appOk (sz bytes : Nat) (base : D) (es es2 : List (List V)) : Prop :=
  (∀ c ∈ es2, c.length = sz) ∧ es.length + es2.length ≤ maxLen ∧ (es.length + es2.length) * bytes ≤ 140737488355328 ∧
  match base with
  | .clip _ => (∀ c ∈ es, c.length = sz) ∧ es2 ≠ []
  | .own _ _ => True
  | _ => True
section
variable {P : Program} {n : Nat} {F : List Nat} {Q : DQ} {tt : TT} {env env' : Env} {st st' : St} {ids ids' : List Nat} {k todo todo' : List DI} {I : Imm} {μ : Mu} {w : World} {Pn : V → Prop}
theorem RepV.oneV {v : Value} {x : V} (h : RepV I v x) (h1 : v.oneCell' = true) : V.one x = true := by
  cases h <;> first | rfl | simp [Value.oneCell'] at h1
theorem yah {v : Value} {es : List (List V)} {sz : Nat} (hI : I.ok w) (h : RepV I v (.sl es)) (hs : ∀ c ∈ es, c.length = sz) (hp : 0 < sz) :
    ((∃ ad, v = .slice ad 0 0) ∧ es = []) ∨ ∃ b o c news, v = .slice (some ⟨b, o, none⟩) es.length c ∧ es.length ≤ c ∧ c ≤ maxLen ∧ news.length = es.length * sz ∧ (∀ j u, news[j]? = some u → w.cell? ((⟨b, o, none⟩ : Addr).add j) = some u) ∧
      (∀ u ∈ news, u.oneCell' = true) ∧ RepVL I news es.flatten ∧ (∀ e ∈ es, ∀ x ∈ e, V.one x = true) := by
  cases h with
  | slnil => exact .inl ⟨⟨_, rfl⟩, rfl⟩
  | sl0 ad => exact .inl ⟨⟨_, rfl⟩, rfl⟩
  | sl b o len cap sz' _ vs hl hc hm hsz hcell hrep =>
    subst hl
    refine .inr ⟨b, o, cap, (List.range (es.length * sz)).map fun q => vs (q / sz) (q % sz), rfl, hc, hm, by simp, ?_, ?_, ?_, ?_⟩
    all_goals
      have hget : ∀ j, j < es.length * sz → ∃ e x, es[j / sz]? = some e ∧ e[j % sz]? = some x ∧ e.length = sz ∧ sz' = sz := by
        intro j hj
        have h1 : j / sz < es.length := Nat.div_lt_of_lt_mul (by rw [Nat.mul_comm]; exact hj)
        have h2 : j % sz < sz := Nat.mod_lt _ hp
        have h3 := hs es[j / sz] (List.getElem_mem _)
        have h4 := hsz es[j / sz] (List.getElem_mem _)
        exact ⟨es[j / sz], (es[j / sz])[j % sz], List.getElem?_eq_getElem h1, List.getElem?_eq_getElem (by omega), h3, by omega⟩
    · intro j u hu
      obtain ⟨hlt, rfl⟩ := zdw hu
      obtain ⟨e, x, h1, h2, _, rfl⟩ := hget j hlt
      have := Imm.cell_world hI (hcell _ _ _ _ h1 h2).1
      rw [addr_add]
      rw [show o + j = o + j / sz' * sz' + j % sz' by rw [Nat.add_assoc, Nat.mul_comm, Nat.div_add_mod]]
      exact this
    · intro u hu
      obtain ⟨j, hj⟩ := List.mem_iff_getElem?.1 hu
      obtain ⟨hlt, rfl⟩ := zdw hj
      obtain ⟨e, x, h1, h2, _, rfl⟩ := hget j hlt
      exact (hcell _ _ _ _ h1 h2).2
    · refine ⟨by rw [flatten_length_const hs]; simp, fun j u x hu hx => ?_⟩
      obtain ⟨hlt, rfl⟩ := zdw hu
      obtain ⟨e, y, h1, h2, _, rfl⟩ := hget j hlt
      have h3 := flatten_get hs _ _ _ _ h1 h2
      rw [Nat.mul_comm, Nat.div_add_mod, hx] at h3
      cases h3
      exact hrep _ _ _ _ h1 h2
    · intro e he x hx
      obtain ⟨i, hi⟩ := List.mem_iff_getElem?.1 he
      obtain ⟨j, hj⟩ := List.mem_iff_getElem?.1 hx
      exact (hrep _ _ _ _ hi hj).oneV (hcell _ _ _ _ hi hj).2
theorem StRep.renew {id' : Nat} (hst : StRep I μ st (id' :: ids) w) {rd : List Nat} {v' : Value} {blk' : Blk} {w' : World} {row : Option Nat} (hg : w.grownBy w' row)
    (hrow : ∀ b, row = some b → ∃ id blk g, id ∈ rd ∧ za3 st id blk ∧ μ id = some g ∧ zil g b) (hnew : ∀ b, zil v' b → b < w'.heap.size ∧ (w.heap.size ≤ b ∨ ∃ id blk g, id ∈ rd ∧ za3 st id blk ∧ μ id = some g ∧ zil g b))
    (hb : ∀ μ', BlkRep I μ' w' v' blk') :
    ∃ μ', μ' id' = some v' ∧ μ.le μ' ∧ StRep I μ' ((id', some blk') :: zcy rd ++ st) ids w' ∧ Ext I μ st w I μ' ((id', some blk') :: zcy rd ++ st) w' := by
  have hid : μ id' = none := hst.idsFree id' (by simp)
  have hle : μ.le (fun i => if i = id' then some v' else μ i) := fun i v h => by
    have : i ≠ id' := fun e => by rw [e, hid] at h; cases h
    simp [this, h]
  have hrowI : ∀ b, row = some b → I b = none := fun b hr => by
    obtain ⟨id, blk, g, _, h2, h3, h4⟩ := hrow b hr
    exact (hst.apart id blk g b h2 h3 h4).1
  have hlive : ∀ i b, za3 ((id', some blk') :: zcy rd ++ st) i b → (i = id' ∧ b = blk') ∨ (i ≠ id' ∧ i ∉ rd ∧ za3 st i b) := by
    intro i b h
    rcases zbu.1 h with h | ⟨h1, h2⟩
    · exact .inl h
    · obtain ⟨h3, h4⟩ := zkr h2
      exact .inr ⟨h1, h3, h4⟩
  have hother : ∀ i g, i ≠ id' → (if i = id' then some v' else μ i) = some g → μ i = some g := fun i g hne h => by rwa [if_neg hne] at h
  have hkeep : ∀ i b g k, i ∉ rd → za3 st i b → μ i = some g → zil g k → w'.heap[k]? = w.heap[k]? := by
    intro i b g k h1 h2 h3 h4
    refine hg.block k (hst.apart i b g k h2 h3 h4).2 fun hk => ?_
    obtain ⟨id, blk, g', q1, q2, q3, q4⟩ := hrow k hk.symm
    have := hst.inj i id b blk g g' k h2 q2 h3 q3 h4 q4
    subst this
    exact h1 q1
  have hclash : ∀ i b g k, i ∉ rd → za3 st i b → μ i = some g → zil g k → ¬ zil v' k := by
    intro i b g k h1 h2 h3 h4 h5
    rcases (hnew k h5).2 with h | ⟨id, blk, g', q1, q2, q3, q4⟩
    · have := (hst.apart i b g k h2 h3 h4).2; omega
    · have := hst.inj i id b blk g g' k h2 q2 h3 q3 h4 q4
      subst this
      exact h1 q1
  refine ⟨fun i => if i = id' then some v' else μ i, by simp, hle, ?_, ?_⟩
  · refine { imm := fun b o h => ?_, blk := fun i b hl => ?_, apart := fun i b g k hl hgi hk => ?_, inj := fun i j bi bj gi gj k hi hj hgi hgj hki hkj => ?_, nodup := (List.nodup_cons.1 hst.nodup).2, idsFree := fun i hi => ?_ }
    · have h1 := hst.imm b o h
      rw [hg.block b (zd1 h1) (fun hk => by rw [hrowI b hk.symm] at h; cases h)]
      exact h1
    · rcases hlive i b hl with ⟨rfl, rfl⟩ | ⟨h1, h2, h3⟩
      · exact ⟨v', by simp, hb _⟩
      · obtain ⟨g, hgi, hr⟩ := hst.blk i b h3
        exact ⟨g, by simp [h1, hgi], (hr.mono (Imm.le_refl I) hle).world fun k hk => hkeep i b g k h2 h3 hgi hk⟩
    · rcases hlive i b hl with ⟨rfl, rfl⟩ | ⟨h1, h2, h3⟩
      · simp at hgi; subst hgi
        obtain ⟨h1, h2⟩ := hnew k hk
        refine ⟨?_, h1⟩
        rcases h2 with h2 | ⟨id, blk, g', q1, q2, q3, q4⟩
        · cases h : I k with
          | none => rfl
          | some o => have := zd1 (hst.imm _ _ h); omega
        · exact (hst.apart id blk g' k q2 q3 q4).1
      · obtain ⟨q1, q2⟩ := hst.apart i b g k h3 (hother i g h1 hgi) hk
        exact ⟨q1, Nat.lt_of_lt_of_le q2 hg.size⟩
    · rcases hlive i bi hi with ⟨rfl, rfl⟩ | ⟨h1, h2, h3⟩ <;> rcases hlive j bj hj with ⟨rfl, rfl⟩ | ⟨p1, p2, p3⟩
      · rfl
      · simp at hgi; subst hgi
        exact absurd hki (hclash j bj gj k p2 p3 (hother j gj p1 hgj) hkj)
      · simp at hgj; subst hgj
        exact absurd hkj (hclash i bi gi k h2 h3 (hother i gi h1 hgi) hki)
      · exact hst.inj i j bi bj gi gj k h3 p3 (hother i gi h1 hgi) (hother j gj p1 hgj) hki hkj
    · have hne : i ≠ id' := fun e => (List.nodup_cons.1 hst.nodup).1 (e ▸ hi)
      simp [hne, hst.idsFree i (by simp [hi])]
  · refine { imm := Imm.le_refl I, os := hg.os, tape := hg.tape, output := hg.output, size := hg.size, block := fun b hb ho => hg.block b hb (fun hk => ?_), fresh := fun b hb ho => ?_, old := fun _ _ _ => rfl }
    · obtain ⟨id, blk, g', _, q2, q3, q4⟩ := hrow b hk.symm
      exact ho ⟨id, blk, g', q2, q3, q4⟩
    · obtain ⟨i, bi, g, hl, hgi, hk⟩ := ho
      rcases hlive i bi hl with ⟨rfl, rfl⟩ | ⟨h1, h2, h3⟩
      · simp at hgi; subst hgi
        rcases (hnew b hk).2 with h | ⟨id, blk, g', _, q2, q3, q4⟩
        · omega
        · exact ⟨id, blk, g', q2, q3, q4⟩
      · exact ⟨i, bi, g, h3, hother i g h1 hgi, hk⟩
theorem yfd {v : Value} {b : Nat} {t : TypeId} {sz k : Nat} {xs : List Value} (h : w.ownsRow 0 t sz v k xs) (hb : zil v b) : v.ownBlock = some b := by
  rcases h.2 with ⟨rfl, _⟩ | ⟨g, cap, cur, rfl, _⟩
  · simp [zil] at hb
  · simpa [zil, Value.ownBlock] using hb
theorem yfc {v : Value} {b : Nat} (hb : v.ownBlock = some b) : zil v b := by
  unfold Value.ownBlock at hb
  split at hb
  · cases hb; rfl
  · cases hb
theorem zun {v : Value} {t : TypeId} {sz k : Nat} {xs : List Value} (h : w.ownsRow 0 t sz v k xs) : ∃ a cap, v = .slice a k cap := by
  rcases h.2 with ⟨rfl, rfl⟩ | ⟨g, cap, cur, rfl, _⟩
  · exact ⟨none, 0, rfl⟩
  · exact ⟨_, cap, rfl⟩
theorem ybz (htt : TTok P tt) {all : List Oper} {o : Oper} {x y : Operand} {t e : TypeId} {ti i : TyI} {dx dy : D} {rd : List Nat} {id' : Nat} {es es2 : List (List V)} (hg : o.guard = none)
    (ho : o.op = .call { callee := .builtin .append, args := ⟨[x, y]⟩, argTypes := ⟨[t, t]⟩ }) (ht : lk tt t = some ti) (hsh : ti.sh = .sl e) (hi : lk tt e = some i) (hz : (Nat.beq i.zero.length i.size && Nat.blt 0 i.size) = true)
    (hx : evO env x = some dx) (hb : zie st dx = some (rd, es)) (hrow : ∀ id, rd = [id] → lk st id = some (some (.row e i.size es))) (hy : evO env y = some dy) (hs : zlw dy = some es2) (hok : appOk i.size i.bytes dx es es2) :
    LD P Pn all o env st rd [id'] ((id', some (.row e i.size (es ++ es2))) :: zcy rd) (.own id' (es ++ es2).length) := by
  intro I μ st1 ids1 a w hag hst hon
  refine ⟨fun _ => ?_, fun hw => by rw [wanted_none hg] at hw; cases hw⟩
  have hop := zbr hon
  rw [ho] at hop
  have rx := hop x (by simp [Op.operands, Call.operands]) _ hx
  have ry := hop y (by simp [Op.operands, Call.operands]) _ hy
  obtain ⟨inf, z, z1, z2, z3, z4, z5, z6⟩ := (htt e i hi).info
  have hu : P.underlying t = some (.slice e) := by have := htt.sh ht; rwa [hsh] at this
  simp only [Bool.and_eq_true, Nat.blt_eq] at hz
  have hzl : z.cells.size = i.size := by
    have := (z5 I μ).1
    rw [Nat.eq_of_beq_eq_true hz.1] at this
    simpa using this
  obtain ⟨k1, k2, k3, k4⟩ := hok
  have hyv : RepV I (a.eval y) (.sl es2) := by
    cases dy <;> simp only [zlw, reduceCtorEq, Option.some.injEq] at hs
    · rename_i vx
      cases vx <;> simp only [zlw, reduceCtorEq, Option.some.injEq] at hs
      subst hs; exact ry.immInv
    · subst hs
      have := ry
      generalize a.eval y = v at this
      cases this; exact .slnil
  have hrun : ∀ {u w'}, (Builtin.append_ #[t, t] o.type #[a.eval x, a.eval y]).run P w = .ok u w' → (execOp a.eval o).run P w = .ok (.value u) w' := by
    intro u w' h
    simp only [execOp, ho, resolve, invoke, builtin, Sem.run_bind, Sem.run_pure, Result.andThen_ok, List.map_toArray, List.map_cons, List.map_nil, h]
  -- a new row, in whatever block
  have fin : ∀ {u : Value} {w' : World} {xs : List Value} {row : Option Nat}, (Builtin.append_ #[t, t] o.type #[a.eval x, a.eval y]).run P w = .ok u w' → w'.ownsRow 0 e i.size u (es.length + es2.length) xs → w.grownBy w' row →
      (∀ b, row = some b → ∃ id blk g, id ∈ rd ∧ za3 st1 id blk ∧ μ id = some g ∧ zil g b) → (∀ b, u.ownBlock = some b → row = some b ∨ w.heap.size ≤ b) → RepVL I xs (es ++ es2).flatten → (∀ c ∈ es ++ es2, c.length = i.size) →
      (∀ c ∈ es ++ es2, ∀ x ∈ c, V.one x = true) →
      valX P ((execOp a.eval o).run P w) (fun v w' => ∃ I' μ', StRep I' μ' ((id', some (.row e i.size (es ++ es2))) :: zcy rd ++ st1) ids1 w' ∧ RepD I' μ' v (.own id' (es ++ es2).length) ∧ μ.le μ' ∧ Ext I μ st1 w I' μ' ((id', some (.row e i.size (es ++ es2))) :: zcy rd ++ st1) w') (zyi Pn I μ st1 w) := by
    intro u w' xs row h1 h2 h3 h4 h5 h6 h7 h8
    rw [hrun h1]
    obtain ⟨μ', q1, q2, q3, q4⟩ := StRep.renew (id' := id') (ids := ids1) (rd := rd) (v' := u) (blk' := .row e i.size (es ++ es2)) hst h3 h4 (fun b hb => by
      have hb' := yfd h2 hb
      refine ⟨(h2.lt b hb').2, ?_⟩
      rcases h5 b hb' with h | h
      · exact .inr (h4 b h)
      · exact .inl h) (fun μ' => ⟨xs, by rw [List.length_append]; exact h2, h6, h7, h8, hz.2⟩)
    refine ⟨I, μ', q3, ?_, q2, q4⟩
    obtain ⟨ad, cap, rfl⟩ := zun h2
    rw [List.length_append]
    exact .own _ _ _ _ q1
  -- what is appended
  rcases yah hst.imm hyv k1 hz.2 with ⟨⟨ady, ey⟩, rfl⟩ | ⟨yb, yo, yc, news, ey, _, _, n1, n2, n3, n4, n5⟩
  · -- nothing
    have hsame : ∀ (v : Value), a.eval x = v → (∃ ad len cap, v = .slice ad len cap ∧ len ≤ cap) → (Builtin.append_ #[t, t] o.type #[a.eval x, a.eval y]).run P w = .ok v w := by
      rintro v hv ⟨ad, len, cap, rfl, hle⟩
      rw [hv, ey]
      cases ad <;> cases ady <;> simp [Builtin.append_, run_underlying hu, sizeOf, typeInfo, z1, Builtin.lenOf, hle, Builtin.firstCells, loadCells, loadCellsFrom, storeCells]
    have hgrow : w.grownBy w none := ⟨rfl, rfl, rfl, Nat.le_refl _, fun _ _ _ => rfl⟩
    cases dx with
    | nils =>
      simp only [zie, Option.some.injEq, Prod.mk.injEq] at hb
      obtain ⟨rfl, rfl⟩ := hb
      have hv : a.eval x = .slice none 0 0 := by
        generalize a.eval x = v at rx
        cases rx; rfl
      exact fin (hsame _ hv ⟨_, _, _, rfl, Nat.le_refl _⟩) (World.ownsRow_nil w 0 e i.size) hgrow (fun b h => by cases h) (fun b h => by simp [Value.ownBlock] at h) (xs := []) .nil (by simp) (by simp)
    | own id nn =>
      simp only [zie] at hb
      split at hb
      · rename_i bt sz es0 hl
        cases hb
        have hl' := hrow id rfl
        have hl1 : za3 st1 id (.row e i.size es) := by unfold za3; rw [hag id (by simp)]; exact hl'
        obtain ⟨g, hg1, xs, r1, r2, r3, r4, _⟩ := hst.blk id _ hl1
        have hv : a.eval x = g := by
          generalize a.eval x = v at rx
          cases rx with
          | own _ _ ad cap hm => rw [hm] at hg1; cases hg1; rfl
        have hr0 : ∃ ad len cap, g = .slice ad len cap ∧ len ≤ cap := by
          rcases r1.2 with ⟨rfl, h⟩ | ⟨gb, cap, cur, rfl, _, _, h, _⟩
          · exact ⟨_, _, _, rfl, Nat.le_refl _⟩
          · exact ⟨_, _, _, rfl, h⟩
        exact fin (row := g.ownBlock) (hsame g hv hr0) (by simpa using r1) ⟨rfl, rfl, rfl, Nat.le_refl _, fun _ _ _ => rfl⟩ (fun b h => ⟨id, _, g, by simp, hl1, hg1, yfc h⟩) (fun b h => .inl h) (xs := xs) (by simpa using r2) (by simpa using r3) (by simpa using r4)
      · cases hb
    | clip es' => exact absurd rfl k4.2
    | _ => simp [zie] at hb
  · have hfl : ∀ {xs : List Value}, RepVL I xs es.flatten → RepVL I (xs ++ news) (es ++ es2).flatten := fun h => by rw [List.flatten_append]; exact h.append n4
    have hnil : a.eval x = .slice none 0 0 → es = [] →
        valX P ((execOp a.eval o).run P w) (fun v w' => ∃ I' μ', StRep I' μ' ((id', some (.row e i.size (es ++ es2))) :: zcy rd ++ st1) ids1 w' ∧ RepD I' μ' v (.own id' (es ++ es2).length) ∧ μ.le μ' ∧ Ext I μ st1 w I' μ' ((id', some (.row e i.size (es ++ es2))) :: zcy rd ++ st1) w') (zyi Pn I μ st1 w) := fun hv he => by
      subst he
      obtain ⟨v', w', q1, q2, q3, _⟩ := run_append_own (P := P) w w.heap.size t o.type e inf z i.size i.bytes hu z1 z4 z2 z3 hzl hz.2 (.slice none 0 0) 0 [] (World.ownsRow_nil w _ e i.size) ⟨yb, yo, none⟩ es2.length yc news n1 n2 n3
        (by simpa using k2) (by simpa using k3) (Nat.le_refl _)
      have q2' : w'.ownsRow 0 e i.size v' (0 + es2.length) news := ⟨q2.1, q2.2.imp id fun ⟨g, cap, cur, a1, _, a2⟩ => ⟨g, cap, cur, a1, Nat.zero_le _, a2⟩⟩
      exact fin (row := none) (by rw [hv, ey]; exact q1) q2' ⟨q3.os, q3.tape, q3.output, q3.size, fun b hb _ => q3.block b hb (by simp [Value.ownBlock])⟩ (fun b h => by cases h) (fun b h => .inr (q2.lt b h).1) (hfl .nil) (by simpa using k1) (by simpa using n5)
    have hgrow : ∀ (ad : Addr) (cap : Nat) (xs : List Value), a.eval x = .slice (some ad) es.length cap → xs.length = es.length * i.size → (∀ j u, xs[j]? = some u → w.cell? (ad.add j) = some u) → cap < es.length + es2.length → RepVL I xs es.flatten → (∀ c ∈ es, c.length = i.size) → (∀ c ∈ es, ∀ x ∈ c, V.one x = true) →
        valX P ((execOp a.eval o).run P w) (fun v w' => ∃ I' μ', StRep I' μ' ((id', some (.row e i.size (es ++ es2))) :: zcy rd ++ st1) ids1 w' ∧ RepD I' μ' v (.own id' (es ++ es2).length) ∧ μ.le μ' ∧ Ext I μ st1 w I' μ' ((id', some (.row e i.size (es ++ es2))) :: zcy rd ++ st1) w') (zyi Pn I μ st1 w) := fun ad cap xs hv hl hcell hlt hr hsz h1 => by
      have hsmall : es.length + es2.length ≤ 9223372036854775807 := by simp only [maxLen] at k2; omega
      have hr' := run_append_grow (P := P) w t o.type e inf z hu z1 z4 ad es.length cap xs (by rw [z2]; exact hl) hcell ⟨yb, yo, none⟩ es2.length yc news (by rw [z2]; exact n1) n2 hlt (by omega) (by rw [z3]; exact growslice_fits hlt k3)
      have hge := grownCap_ge w (es.length + es2.length) cap e
      have hcm : grownCap w (es.length + es2.length) cap e ≤ maxLen := grownCap_le_maxLen w _ cap e k2
      have hlen : (xs ++ news).length = (es.length + es2.length) * i.size := by rw [List.length_append, hl, n1, Nat.add_mul]
      refine fin (row := none) (by rw [hv, ey]; exact hr') (xs := xs ++ news) ⟨hlen, .inr ⟨w.heap.size, _, _, rfl, Nat.zero_le _, ziw w.drew _, hge, hcm, ?_, ?_⟩⟩ ⟨rfl, rfl, rfl, by simp, fun k hk _ => zu2 w.drew _ hk⟩ (fun b h => by cases h)
        (fun b h => by simp [Value.ownBlock] at h; exact .inr (by omega)) (hfl hr) (fun c hc => (List.mem_append.1 hc).elim (hsz c) (k1 c)) (fun c hc => (List.mem_append.1 hc).elim (h1 c) (n5 c))
      · simp only [Array.size_append, List.size_toArray, size_zeroCells, hzl, hl, n1, ← Nat.add_mul]
        congr 1
        omega
      · simp only [Array.toList_append, List.append_assoc]
        rw [← List.append_assoc, ← hlen]
        exact List.take_left
    cases dx with
    | nils =>
      simp only [zie, Option.some.injEq, Prod.mk.injEq] at hb
      obtain ⟨rfl, rfl⟩ := hb
      have hv : a.eval x = .slice none 0 0 := by
        generalize a.eval x = v at rx
        cases rx; rfl
      exact hnil hv rfl
    | own id nn =>
      simp only [zie] at hb
      split at hb
      · rename_i bt sz es0 hl
        cases hb
        have hl' := hrow id rfl
        have hl1 : za3 st1 id (.row e i.size es) := by unfold za3; rw [hag id (by simp)]; exact hl'
        obtain ⟨g, hg1, xs, r1, r2, r3, r4, _⟩ := hst.blk id _ hl1
        have hv : a.eval x = g := by
          generalize a.eval x = v at rx
          cases rx with
          | own _ _ ad cap hm => rw [hm] at hg1; cases hg1; rfl
        rcases r1.2 with ⟨eg, h⟩ | ⟨gb, cap, cur, eg, _, hheap, hle, hcm, hcs, htake⟩
        · exact hnil (hv.trans eg) (List.eq_nil_of_length_eq_zero h)
        · by_cases hroom : es.length + es2.length ≤ cap
          · have hfit : es.length * i.size + news.length ≤ cur.size := by rw [n1, hcs, ← Nat.add_mul]; exact Nat.mul_le_mul_right _ hroom
            have hr := run_append_room (P := P) w t o.type e inf hu z1 gb es.length cap cur hheap ⟨yb, yo, none⟩ es2.length yc news (by rw [z2]; exact n1) n2 n3 hroom (by rw [z2]; exact hfit)
            rw [z2] at hr
            have hlen : (xs ++ news).length = (es.length + es2.length) * i.size := by rw [List.length_append, r1.1, n1, Nat.add_mul]
            refine fin (row := some gb) (by rw [hv, eg, ey]; exact hr) (xs := xs ++ news) ⟨hlen, .inr ⟨gb, cap, _, rfl, Nat.zero_le _, setRow_heap w gb cur _ e _ hheap, hroom, hcm, ?_, ?_⟩⟩ ⟨rfl, rfl, rfl, by simp, fun k _ hk => setRow_other w gb k _ (fun e => hk (by simp [e]))⟩
              (fun b h => by cases h; exact ⟨id, _, g, by simp, hl1, hg1, by rw [eg]; rfl⟩) (fun b h => by simp [Value.ownBlock] at h; exact .inl (by rw [h])) (hfl r2) (fun c hc => (List.mem_append.1 hc).elim (r3 c) (k1 c)) (fun c hc => (List.mem_append.1 hc).elim (r4 c) (n5 c))
            · simp only [List.size_toArray, List.length_append, List.length_take, List.length_drop, Array.length_toList]
              omega
            · rw [htake, ← hlen]
              exact List.take_left
          · exact hgrow ⟨gb, 0, none⟩ cap xs (hv.trans eg) r1.1 (by rw [eg] at r1; exact r1.cells (g := gb) rfl) (by omega) r2 r3 r4
      · cases hb
    | clip es' =>
      simp only [zie, Option.some.injEq, Prod.mk.injEq] at hb
      obtain ⟨rfl, rfl⟩ := hb
      have rx' : ∃ ad len, a.eval x = .slice ad len len ∧ RepV I (.slice ad len len) (.sl es') := by
        generalize a.eval x = v at rx
        cases rx with
        | clip ad len _ h => exact ⟨ad, len, rfl, h⟩
      obtain ⟨ad, len, hv, hr⟩ := rx'
      rcases yah hst.imm hr k4.1 hz.2 with ⟨⟨adx, ex⟩, e0⟩ | ⟨xb, xo, xc, xs, ex, _, _, p1, p2, p3, p4, p5⟩
      · cases adx with
        | none => exact hnil (hv.trans ex) e0
        | some adx =>
          have hpos : 0 < es2.length := List.length_pos_iff.2 k4.2
          subst e0
          exact hgrow adx 0 [] (hv.trans ex) (by simp) (fun j u h => by simp at h) (by simp; omega) .nil (by simp) (by simp)
      · cases ex
        have hpos : 0 < es2.length := List.length_pos_iff.2 k4.2
        exact hgrow ⟨xb, xo, none⟩ _ xs hv p1 p2 (by omega) p4 k4.1 p5
    | _ => simp [zie] at hb
end
end Go.Hk
namespace Go.Hk
def zz8 (cx : Prop) (env : Env) (x : Operand) : Option (D × List Prop) := match evO env x with
  | some (.guard c w d) => some (d, [cx → c = w])
  | some d => some (d, [])
  | none => none
structure PApp where
  dx : D
  es : List (List V)
  es2 : List (List V)
  sz : Nat
  bytes : Nat
  e : TypeId
  rd : List Nat
  id' : Nat
  ids' : List Nat
  dst : Option Nat
  todo : List DI
def rowIs (st : St) (e : TypeId) (sz : Nat) : List Nat → Bool
  | [] => true
  | [id] => match lk st id with
    | some (some (.row e' sz' _)) => Nat.beq e e' && Nat.beq sz sz'
    | _ => false
  | _ => false
def papp (tt : TT) (n : Nat) (env : Env) (st : St) (ids : List Nat) (todo : List DI) : Option PApp :=
  match yfe todo, ids with
  | some o, id' :: ids' => match o.guard, o.op with
    | none, .call { callee := .builtin .append, args := ⟨[x, y]⟩, argTypes := ⟨[t, t']⟩ } => match Nat.beq t t', lk tt t, evO env x, evO env y with
      | true, some { sh := .sl e, .. }, some dx, some dy => match lk tt e, zie st dx, zlw dy with
        | some i, some (rd, es), some es2 => match Nat.beq i.zero.length i.size && Nat.blt 0 i.size, rowIs st e i.size rd, zel n o.dst, zb3 todo (rd, id' :: rd) with
          | true, true, true, some (_, _, todo') => some ⟨dx, es, es2, i.size, i.bytes, e, rd, id', ids', o.dst, todo'⟩
          | _, _, _, _ => none
        | _, _, _ => none
      | _, _, _, _ => none
    | _, _ => none
  | _, _ => none
section
variable {P : Program} {n : Nat} {F : List Nat} {Q : DQ} {tt : TT} {env env' : Env} {st st' : St} {ids ids' : List Nat} {k todo todo' : List DI} {I : Imm} {μ : Mu} {w : World} {a : Act} {Pn : V → Prop} {d : D} {cx : Prop} {ob : List Prop}
theorem zdp {x : Operand} {v : Value} (h : zz8 cx env x = some (d, ob)) (hob : zbh ob) (hc : cx) (hv : ∀ d, evO env x = some d → RepD I μ v d) : RepD I μ v d := by
  unfold zz8 at h
  split at h
  · cases h; rename_i hx; exact (hv _ hx).guardInv (hob.1 hc)
  · cases h; rename_i hx; exact hv _ hx
  · cases h
theorem zn2 : ∀ l : List Nat, (zcy l).map (·.1) = l
  | [] => rfl
  | x :: r => by simp [zcy, zn2 r]
theorem zdc {f : List Nat × List Nat} {o o' : Oper} {all : List Oper} (h : yfe todo = some o) (h' : zb3 todo f = some (all, o', todo')) : o' = o := by
  unfold yfe at h
  split at h
  · simp [zb3] at h'; cases h; exact h'.2.1.symm
  · simp [zb3] at h'; cases h; exact h'.2.1.symm
  · cases h
theorem zc7 (htt : TTok P tt) {c : PApp} (h : papp tt n env st ids todo = some c) (hok : appOk c.sz c.bytes c.dx c.es c.es2)
    (hk : G P n F Q c.todo (zee c.dst (.own c.id' (c.es ++ c.es2).length) env) ((c.id', some (.row c.e c.sz (c.es ++ c.es2))) :: zcy c.rd ++ st) c.ids') : G P n F Q todo env st ids := by
  unfold papp at h
  split at h
  · rename_i o id' ids' ho
    split at h
    · rename_i x y t t' hg hop
      split at h
      · rename_i e _ _ _ _ dx dy htt' ht hx hy
        have := Nat.eq_of_beq_eq_true htt'
        subst this
        split at h
        · rename_i i rd es es2 hi hb hs
          split at h
          · rename_i all o' todo' hz hr hd h1
            cases h
            have ho' : o' = o := zdc ho h1
            subst ho'
            refine zcv (fr := [id']) (wr := (id', some (.row e i.size (es ++ es2))) :: zcy rd) (rd := rd) (by rw [List.map_cons, zn2]; exact h1) ?_ hd (fun c hc => by rw [hop] at hc; cases hc) hk
            refine ybz htt hg hop ht rfl hi hz hx hb (fun id hid => ?_) hy hs hok
            subst hid
            simp only [rowIs] at hr
            split at hr
            · rename_i e' sz' es' hl
              simp only [Bool.and_eq_true] at hr
              rw [Nat.eq_of_beq_eq_true hr.1, Nat.eq_of_beq_eq_true hr.2, hl]
              have : es' = es := by
                cases dx <;> simp only [zie, reduceCtorEq, Option.some.injEq, Prod.mk.injEq] at hb
                · cases hb.1
                · split at hb
                  · rename_i hl2
                    simp only [Option.some.injEq, Prod.mk.injEq, List.cons.injEq, and_true] at hb
                    obtain ⟨e1, e2⟩ := hb
                    subst e1
                    rw [hl2] at hl; cases hl
                    exact e2
                  · cases hb
                · cases hb.1
              rw [this]
            · cases hr
          · cases h
        · cases h
      · cases h
    · cases h
  · cases h
theorem zd4 {all : List Oper} {o : Oper} {rd : List Nat} {g : Option (Bool × Bool)} (hg : zcs all env o = some g)
    (key : ∀ I μ st1 ids1 a w, Agree rd st st1 → StRep I μ st1 ids1 w → zes I μ env a o.op → zal g →
      valX P ((execOp a.eval o).run P w) (fun u w' => ∃ I' μ', StRep I' μ' st1 ids1 w' ∧ RepD I' μ' u d ∧ μ.le μ' ∧ Ext I μ st1 w I' μ' st1 w') (zyi Pn I μ st1 w)) :
    LD P Pn all o env st rd [] [] (gD g d) := by
  intro I μ st1 ids1 a w hag hst hon
  have hwant := zlb hg hon
  refine ⟨fun hw => ?_, fun hw => ⟨rfl, rfl, ?_⟩⟩
  · have hcx := hwant.1 hw
    refine (key I μ st1 ids1 a w hag hst (zbr hon) hcx).mono (fun v w' ⟨I', μ', q1, q2, q3, q4⟩ => ⟨I', μ', q1, ?_, q3, q4⟩) (fun _ _ h => h)
    cases g with
    | none => exact q2
    | some p => exact .guard _ _ _ _ (fun _ => q2) (fun hn => absurd hcx hn)
  · cases g with
    | none => rw [hwant.2 trivial] at hw; cases hw
    | some p => exact .guard _ _ _ _ (fun hc => by rw [hwant.2 hc] at hw; cases hw) (fun _ => rfl)
structure PIdx where
  es : List (List V)
  i : Int
  sz : Nat
  e : TypeId
  g : Option (Bool × Bool)
  ob : List Prop
  dst : Option Nat
  todo : List DI
def yd5 (tt : TT) (n : Nat) (env : Env) (todo : List DI) : Option PIdx :=
  match zb3 todo ([], []) with
  | some (all, o, todo') => match o.op, zcs all env o with
    | .indexAddr t x i, some g => match lk tt t, zz8 (zal g) env x, zz8 (zal g) env i with
      | some { sh := .sl e, .. }, some (.imm (.sl es), o1), some (.imm (.int _ i), o2) => match lk tt e, zel n o.dst with
        | some ti, true => match o.dst with
          | some t => some ⟨es, i, ti.size, e, g, cat o1 o2, some t, todo'⟩
          | none => none
        | _, _ => none
      | _, _, _ => none
    | _, _ => none
  | none => none
theorem zs6 {t e : TypeId} {i : TyI} (hu : P.underlying t = some (.slice e)) (hi : TyOk P e i) {b off len cap : Nat} {kk : IntKind} {m : Int} (h0 : 0 ≤ m) (hm : m < len) :
    (Instr.indexAt t (.slice (some ⟨b, off, none⟩) len cap) (.int kk m)).run P w = .ok (.pointer (some ⟨b, off + m.toNat * i.size, none⟩)) w := by
  simp only [Instr.indexAt, Sem.run_bind, asIntOf, Sem.run_pure, Result.andThen_ok, run_underlying hu]
  simp [h0, hm, hi.sizeOf w, addr_add]
theorem zg9 (htt : TTok P tt) {es : List (List V)} {m : Int} {sz : Nat} {e : TypeId} {g : Option (Bool × Bool)} {ob : List Prop} {t : Nat} {todo' : List DI} {c : List V} (h : yd5 tt n env todo = some ⟨es, m, sz, e, g, ob, some t, todo'⟩)
    (hc : zal g → 0 ≤ m ∧ es[m.toNat]? = some c ∧ c.length = sz) (hob : zbh ob) (hk : G P n F Q todo' ((t, gD g (.ip e c 0)) :: env) st ids) : G P n F Q todo env st ids := by
  unfold yd5 at h
  split at h
  · rename_i all o todo' h1
    split at h
    · rename_i t x i g hop hg
      split at h
      · rename_i e _ _ _ _ es o1 kk m o2 ht hx hi
        split at h
        · rename_i ti hti hd
          split at h
          · rename_i t' hdst
            cases h
            have hk : G P n F Q todo' (zee o.dst (gD g (.ip e c 0)) env) st ids := by rw [hdst]; exact hk
            refine zcv (fr := []) (wr := []) (rd := []) h1 (zd4 hg fun I μ st1 ids1 a w _ hst hops hcx => ?_) hd (fun c hc => by rw [hop] at hc; cases hc) hk
            rw [hop] at hops
            obtain ⟨ho1, ho2⟩ := zay hob
            have rx := (zdp hx ho1 hcx (hops x (by simp [Op.operands]))).immInv
            have ri := (zdp hi ho2 hcx (hops i (by simp [Op.operands]))).immInv.intInv
            obtain ⟨c0, c1, c2⟩ := hc hcx
            have hu : P.underlying t = some (.slice e) := htt.sh ht
            have hlt := (List.getElem?_eq_some_iff.1 c1).1
            simp only [execOp, hop, ri]
            generalize hv : a.eval x = v at rx
            cases rx with
            | slnil => simp at hlt
            | sl0 => simp at hlt
            | sl b off len cap sz _ vs hl hcap hm hsz hcell hrep =>
              have hs : sz = ti.size := by rw [← hsz c (List.mem_of_getElem? c1), c2]
              subst hs
              have hr := zs6 (w := w) hu (htt e ti hti) (b := b) (off := off) (len := len) (cap := cap) (kk := kk) c0 (by omega)
              have hrun : (do pure (.value (← Instr.indexAt t (.slice (some ⟨b, off, none⟩) len cap) (.int kk m))) : Sem Next).run P w = .ok (.value (.pointer (some ⟨b, off + m.toNat * ti.size, none⟩))) w := zak hr
              rw [hrun]
              refine ⟨I, μ, hst, ?_, Mu.le_refl μ, Ext.refl _ _ _ _⟩
              have := RepD.ip (I := I) (μ := μ) b (off + m.toNat * ti.size) e c 0 (vs m.toNat) (fun j x hj => hcell m.toNat c j x c1 hj) (fun j x hj => hrep m.toNat c j x c1 hj)
              simpa using this
          · cases h
        · cases h
      · cases h
    · cases h
  · cases h
end
end Go.Hk
namespace Go.Hk
def zp6 : List Value → Option (List D)
  | [] => some []
  | v :: r => match yff v, v.oneCell', zp6 r with
    | some d, true, some ds => some (d :: ds)
    | _, _, _ => none
def shOf (P : Program) : TypeDesc → Option Sh
  | .bool => some .bool
  | .int k => some (.int k)
  | .string => some .str
  | .pointer e => some (.ptr e)
  | .slice e => some (.sl e)
  | .map k e => some (.map k e)
  | .array n e => some (.arr n e)
  | .func _ _ _ => some .func
  | .interface _ => some .iface
  | .struct fs => match fs.toList.all fun f => Nat.blt 0 (P.cellsOf f.type) with
    | true => some (.struct (fs.toList.map fun f => (f.offset, f.type)))
    | false => none
  | _ => none
def aggOf : TypeDesc → Bool
  | .struct _ => true
  | .array _ _ => true
  | _ => false
def tyOf (P : Program) (t : TypeId) : Option TyI := match P.info? t, P.underlying t with
  | some inf, some u => match inf.zero, shOf P u with
    | some z, some sh => match zp6 z.cells.toList with
      | some ds => some { sh, agg := aggOf u, size := inf.size, bytes := inf.bytes, zero := ds }
      | none => none
    | _, _ => none
  | _, _ => none
def yjs (P : Program) : List TypeId → TT
  | [] => []
  | t :: r => match tyOf P t with
    | some i => (t, i) :: yjs P r
    | none => yjs P r
theorem zos : ∀ {vs : List Value} {ds : List D}, zp6 vs = some ds → (∀ I μ, RepL I μ vs ds) ∧ ∀ v ∈ vs, v.oneCell' = true
  | [], ds, h => by cases h; exact ⟨fun _ _ => .nil, fun _ h => by simp at h⟩
  | v :: r, ds, h => by
    simp only [zp6] at h
    split at h
    · rename_i d ds' h1 h2 h3
      cases h
      obtain ⟨q1, q2⟩ := zos h3
      exact ⟨fun I μ => .mk (zsr h1 I μ) (q1 I μ), fun u hu => (List.mem_cons.1 hu).elim (fun e => e ▸ h2) (q2 u)⟩
    · cases h
theorem yh6 {P : Program} {t : TypeId} {i : TyI} (h : tyOf P t = some i) : TyOk P t i := by
  unfold tyOf at h
  split at h
  · rename_i inf u h1 h2
    split at h
    · rename_i z sh h3 h4
      split at h
      · rename_i ds h5
        cases h
        obtain ⟨q1, q2⟩ := zos h5
        refine ⟨⟨inf, z, h1, rfl, rfl, h3, q1, q2⟩, ?_, ?_⟩
        · funext w
          simp only [isAgg, Sem.run_bind, run_underlying h2, Result.andThen_ok]
          cases u <;> rfl
        · unfold shOf at h4
          split at h4 <;> first | (cases h4; exact h2) | (cases h4; exact ⟨_, _, _, h2⟩) | (cases h4; exact ⟨_, h2⟩) | skip
          · split at h4
            · rename_i hall
              cases h4
              refine ⟨_, h2, rfl, fun f hf => ?_⟩
              have := List.all_eq_true.1 hall f hf
              simpa [Nat.blt_eq] using this
            · cases h4
          · cases h4
      · cases h
    · cases h
  · cases h
theorem zua {P : Program} : ∀ {l : List TypeId}, TTok P (yjs P l)
  | [], t, i, h => by simp [yjs, lk] at h
  | x :: r, t, i, h => by
    simp only [yjs] at h
    split at h
    · rename_i j hj
      by_cases hx : x = t
      · subst hx; rw [lk_cons_self] at h; cases h; exact yh6 hj
      · rw [lk_cons_ne _ _ hx] at h; exact zua t i h
    · exact zua t i h
theorem TTok.of_eq {P : Program} {tt : TT} {l : List TypeId} (h : tt = yjs P l) : TTok P tt := h ▸ zua
attribute [simp] zbh cat
theorem w64 {x : Int} (h0 : -9223372036854775808 ≤ x) (h1 : x ≤ 9223372036854775807) : IntKind.i64.wrap x = x := by
  simp only [IntKind.wrap, IntKind.bits, IntKind.signed]
  simp
  omega
theorem za2 {k : IntKind} {a b : Int} (h : a = b) : yd3 (.imm (.int k a)) (.imm (.int k b)) := by rw [h]; rfl
theorem tV {a b : V} (h : a = b) : yd3 (.imm a) (.imm b) := by rw [h]; rfl
section
variable {P : Program} {n : Nat} {F : List Nat} {Q : DQ} {tt : TT} {env env' : Env} {st st' : St} {ids ids' : List Nat} {k todo todo' : List DI} {I : Imm} {μ : Mu} {w : World} {a : Act} {Pn : V → Prop} {d : D} {cx : Prop} {ob : List Prop}
theorem ztn (htt : TTok P tt) (hm : P.follows .mixedOrders = true) (f : Nat) (path : List Pt)
    (h : run tt n f path todo env st ids [] = .at k env' st' ids' ob) (hob : zbh ob) (hd : G P n F Q k env' st' ids') : DGo P n F Q todo env st ids := (zq2 htt hm f path h hob hd).go
end
end Go.Hk
namespace Go.Hk
mutual
def yct (id : Nat) (es : List (List V)) : D → D
  | .own i n => bif Nat.beq i id then .imm (.sl es) else .own i n
  | .agg cs => zkg (yeb id es cs)
  | .tup cs => .tup (yeb id es cs)
  | .fn f a b => .fn f (yeb id es a) (yeb id es b)
  | .iface t d => match yct id es d with
    | .imm x => .imm (.iface t x)
    | d' => .iface t d'
  | .guard c w d => .guard c w (yct id es d)
  | d => d
def yeb (id : Nat) (es : List (List V)) : List D → List D
  | [] => []
  | d :: r => yct id es d :: yeb id es r
end
def yjw (id : Nat) (es : List (List V)) : Env → Env
  | [] => []
  | (t, d) :: r => (t, yct id es d) :: yjw id es r
def frzB (id : Nat) (es : List (List V)) : Blk → Blk
  | .cells t sz cs => zsx t sz (yeb id es cs)
  | b => b
def yea (id : Nat) (es : List (List V)) : St → St
  | [] => []
  | (i, some b) :: r => (i, some (frzB id es b)) :: yea id es r
  | (i, none) :: r => (i, none) :: yea id es r
theorem zf7 (id : Nat) (es : List (List V)) : ∀ l : List D, yeb id es l = l.map (yct id es)
  | [] => rfl
  | d :: r => by simp [yeb, zf7 id es r]
section
variable {P : Program} {n : Nat} {F : List Nat} {Q : DQ} {tt : TT} {env : Env} {st : St} {ids : List Nat} {todo : List DI} {I J : Imm} {μ : Mu} {w : World} {id : Nat} {es : List (List V)} {g : Value}
theorem RepD.frz {v : Value} {d : D} (h : RepD I μ v d) (hIJ : I.le J) (hg : μ id = some g) (hr : RepV J g (.sl es)) : RepD J μ v (yct id es d) := by
  have at_ : ∀ {l : List D} {i : Nat} {x : D}, (yeb id es l)[i]? = some x → ∃ y, l[i]? = some y ∧ x = yct id es y := by
    intro l i x hx
    rw [zf7, List.getElem?_map] at hx
    cases hl : l[i]? with
    | none => rw [hl] at hx; cases hx
    | some y => rw [hl] at hx; cases hx; exact ⟨y, rfl, rfl⟩
  induction h with
  | undef v => exact .undef v
  | imm v x hx => exact .imm v x (hx.mono hIJ)
  | nils => exact .nils
  | ref b id off hm => exact .ref b id off hm
  | ip b o t cs off vs hcell hrep => exact (RepD.ip b o t cs off vs hcell hrep).mono hIJ (Mu.le_refl μ)
  | agg cs ds hl h1 _ ih =>
    have : RepD J μ (.agg cs.toList.toArray) (zkg (yeb id es ds)) := zjl ⟨by rw [zf7, List.length_map, ← hl]; simp, fun i c x hc hx => by
      obtain ⟨y, hy, rfl⟩ := at_ hx
      exact ih i c y (by simpa using hc) hy⟩ h1
    simpa [yct] using this
  | tup cs ds hl _ ih =>
    refine .tup cs _ (by rw [zf7, List.length_map, hl]) fun i c x hc hx => ?_
    obtain ⟨y, hy, rfl⟩ := at_ hx
    exact ih i c y hc hy
  | own i len a cap hm =>
    simp only [yct]
    cases hb : Nat.beq i id with
    | false => exact .own i len a cap hm
    | true =>
      rw [Nat.eq_of_beq_eq_true hb, hg] at hm
      cases hm
      exact .imm _ _ hr
  | elp b id len cap k sz f hm => exact .elp b id len cap k sz f hm
  | mapr id b hm => exact .mapr id b hm
  | iter id b hm => exact .iter id b hm
  | fn f first cap df dc hf hc _ _ ih1 ih2 =>
    refine .fn f first cap _ _ (by rw [zf7, List.length_map, hf]) (by rw [zf7, List.length_map, hc]) (fun i c x h1 h2 => ?_) (fun i c x h1 h2 => ?_)
    · obtain ⟨y, hy, rfl⟩ := at_ h2
      exact ih1 i c y h1 hy
    · obtain ⟨y, hy, rfl⟩ := at_ h2
      exact ih2 i c y h1 hy
  | iface t v d _ ih =>
    simp only [yct]
    split
    · rename_i x hx
      rw [hx] at ih
      exact .imm _ _ (.iface t v x ih.immInv)
    · exact .iface t v _ ih
  | guard c want v d _ hu ih => exact .guard c want v _ ih hu
  | clip a len es hr => exact .clip a len es (hr.mono hIJ)
  | slc b id off len cap hm hl hx => exact .slc b id off len cap hm hl hx
  | yld b id hm => exact .yld b id hm
  | raw v h => exact .raw v h
  | hv v id i vs bs hm hi h1 => exact .hv v id i vs bs hm hi h1
theorem BlkRep.frz {gb : Value} {blk : Blk} (h : BlkRep I μ w gb blk) (hIJ : I.le J) (hg : μ id = some g) (hr : RepV J g (.sl es)) : BlkRep J μ w gb (frzB id es blk) := by
  cases blk with
  | cells t sz cs =>
    obtain ⟨hs, b, vs, rfl, h2, h3, h4⟩ := h
    refine zfh h2 ⟨by rw [zf7, List.length_map, h3.1], fun i v x hv hx => ?_⟩ h4 (by rw [zf7, List.length_map, hs])
    rw [zf7, List.getElem?_map] at hx
    cases hl : cs[i]? with
    | none => rw [hl] at hx; cases hx
    | some y => rw [hl] at hx; cases hx; exact (h3.2 i v y hv hl).frz hIJ hg hr
  | _ => exact h.mono hIJ (Mu.le_refl μ)
theorem znm {i : Nat} {b : Blk} : ∀ {st : St}, za3 (yea id es st) i b → ∃ b0, za3 st i b0 ∧ b = frzB id es b0
  | [], h => by simp [yea, za3, lk] at h
  | (k, some x) :: r, h => by
    simp only [yea] at h
    rcases zbu.1 h with ⟨h1, h2⟩ | ⟨h1, h2⟩
    · exact ⟨x, by unfold za3; rw [h1, lk_cons_self], h2⟩
    · obtain ⟨b0, q1, q2⟩ := znm h2
      exact ⟨b0, zbu.2 (.inr ⟨h1, q1⟩), q2⟩
  | (k, none) :: r, h => by
    simp only [yea] at h
    obtain ⟨h1, h2⟩ := zcg.1 h
    obtain ⟨b0, q1, q2⟩ := znm h2
    exact ⟨b0, zcg.2 ⟨h1, q1⟩, q2⟩
theorem zd7 (id : Nat) {e : TypeId} {sz : Nat} (hl : lk st id = some (some (.row e sz es))) (h : DGo P n F Q todo (yjw id es env) ((id, none) :: yea id es st) ids) : DGo P n F Q todo env st ids := by
  intro b cs I μ a w items hd hc
  have hlive : za3 st id (.row e sz es) := hl
  obtain ⟨g, hg, xs, hown, hrep, hsz, hone, hp⟩ := hc.blk id _ hlive
  -- the immutable part with the row
  obtain ⟨J, hJ, hJr, hJo⟩ : ∃ J : Imm, I.le J ∧ RepV J g (.sl es) ∧ (∀ k o, J k = some o → (I k = some o ∨ (zil g k ∧ w.heap[k]? = some o))) := by
    rcases hown.2 with ⟨rfl, h0⟩ | ⟨gb, cap, cur, rfl, _, hheap, hle, hcm, hcs, htake⟩
    · have : es = [] := List.eq_nil_of_length_eq_zero h0
      subst this
      exact ⟨I, Imm.le_refl I, .slnil, fun k o h => .inl h⟩
    · have hno := (hc.apart id _ _ gb hlive hg rfl).1
      have hle' : I.le (fun k => if k = gb then some (.cells cur e (0, 0)) else I k) := fun k o h => by
        have : k ≠ gb := fun e => by rw [e, hno] at h; cases h
        simp [this, h]
      refine ⟨_, hle', ?_, fun k o h => ?_⟩
      · have hcell : ∀ (i : Nat) (c : List V) (j : Nat) (x : V), es[i]? = some c → c[j]? = some x → ∃ v, xs[i * sz + j]? = some v ∧ cur[i * sz + j]? = some v ∧ RepV I v x ∧ v.oneCell' = true := by
          intro i c j x hi hj
          have h1 := flatten_get hsz i c j x hi hj
          have hlt : i * sz + j < xs.length := by rw [hrep.1]; exact (List.getElem?_eq_some_iff.1 h1).1
          obtain ⟨v, hv⟩ : ∃ v, xs[i * sz + j]? = some v := ⟨_, List.getElem?_eq_getElem hlt⟩
          have hr := hrep.2 _ _ _ hv h1
          refine ⟨v, hv, ?_, hr, ?_⟩
          · rw [← htake, List.getElem?_take] at hv
            split at hv
            · simpa using hv
            · cases hv
          · have := hone c (List.mem_of_getElem? hi) x (List.mem_of_getElem? hj)
            exact hr.one this
        refine .sl gb 0 _ cap sz es (fun i j => (cur[i * sz + j]?).getD undef) rfl hle hcm hsz (fun i c j x hi hj => ?_) (fun i c j x hi hj => ?_)
        · obtain ⟨v, _, h2, _, h4⟩ := hcell i c j x hi hj
          simp [Imm.cell, h2, h4]
        · obtain ⟨v, _, h2, h3, _⟩ := hcell i c j x hi hj
          simp only [h2, Option.getD_some]
          exact h3.mono hle'
      · by_cases hk : k = gb
        · subst hk; simp at h; subst h; exact .inr ⟨rfl, hheap⟩
        · simp [hk] at h; exact .inl h
  have hst : ∀ i bi, za3 ((id, none) :: yea id es st) i bi → i ≠ id ∧ ∃ b0, za3 st i b0 ∧ bi = frzB id es b0 := fun i bi h => by
    obtain ⟨h1, h2⟩ := zcg.1 h
    exact ⟨h1, znm h2⟩
  have hE : Ext I μ st w J μ ((id, none) :: yea id es st) w :=
    { imm := hJ, os := rfl, tape := rfl, output := rfl, size := Nat.le_refl _
      block := fun _ _ _ => rfl
      fresh := fun k _ ⟨i, bi, gi, h1, h2, h3⟩ => let ⟨_, b0, q, _⟩ := hst i bi h1; ⟨i, b0, gi, q, h2, h3⟩
      old := fun k _ ho => by
            cases hJk : J k with
            | none =>
              cases hIk : I k with
              | none => rfl
              | some o => rw [hJ k o hIk] at hJk; cases hJk
            | some o =>
              rcases hJo k o hJk with h | ⟨h, _⟩
              · exact h.symm
              · exact absurd ⟨id, _, g, hlive, hg, h⟩ ho }
  have hc' : Conc n J μ (yjw id es env) ((id, none) :: yea id es st) ids a w :=
    { imm := fun k o h => (hJo k o h).elim (fun h => hc.imm k o h) fun h => h.2
      blk := fun i bi hli => by
        obtain ⟨_, b0, h2, rfl⟩ := hst i bi hli
        obtain ⟨gi, hgi, hr⟩ := hc.blk i b0 h2
        exact ⟨gi, hgi, hr.frz hJ hg hJr⟩
      apart := fun i bi gi k hli hgi hk => by
        obtain ⟨h1, b0, h2, rfl⟩ := hst i bi hli
        obtain ⟨q1, q2⟩ := hc.apart i b0 gi k h2 hgi hk
        refine ⟨?_, q2⟩
        cases hJk : J k with
        | none => rfl
        | some o =>
          rcases hJo k o hJk with h | ⟨h, _⟩
          · rw [q1] at h; cases h
          · exact absurd (hc.inj i id b0 _ gi g k h2 hlive hgi hg hk h) h1
      inj := fun i j bi bj gi gj k hi hj hgi hgj hki hkj => by
        obtain ⟨_, b1, h1, rfl⟩ := hst i bi hi
        obtain ⟨_, b2, h2, rfl⟩ := hst j bj hj
        exact hc.inj i j b1 b2 gi gj k h1 h2 hgi hgj hki hkj
      nodup := hc.nodup
      idsFree := hc.idsFree
      size := hc.size
      env := fun t d hlt => by
        have : ∀ {env : Env}, lk (yjw id es env) t = some d → ∃ d0, lk env t = some d0 ∧ d = yct id es d0 := by
          intro env
          induction env with
          | nil => intro h; simp [yjw, lk] at h
          | cons p r ih =>
            obtain ⟨s, x⟩ := p
            intro h
            simp only [yjw] at h
            by_cases hs : s = t
            · subst hs; rw [lk_cons_self] at h; cases h; exact ⟨x, lk_cons_self _ _ _, rfl⟩
            · rw [lk_cons_ne _ _ hs] at h; rw [lk_cons_ne _ _ hs]; exact ih h
        obtain ⟨d0, h1, rfl⟩ := this hlt
        exact (hc.env t d0 h1).frz hJ hg hJr
      defers := hc.defers.ext hE }
  refine (h b cs J μ a w items hd hc').mono fun e' a' w' hp => hp.back (.refl _ _) ?_
  exact hE
end
end Go.Hk
namespace Go.Hk
structure yg6 where
  f : FuncId
  das : List D
  ob : List Prop
  dst : Option Nat
  o : Oper
  all : List Oper
def ygl (n : Nat) (env : Env) (todo : List DI) : Option yg6 :=
  match zb3 todo ([], []) with
  | some (all, o, _) => match o.guard, o.op with
    | none, .call { callee := .value (.func f), args := ⟨args⟩, .. } => match zve True env args, zel n o.dst with
      | some (ds, ob), true => some ⟨f, ds, ob, o.dst, o, all⟩
      | _, _ => none
    | none, .call { callee := .value (.tmp t), args := ⟨args⟩, .. } => match lk env t, zve True env args, zel n o.dst with
      | some (.imm (.fn (.func f))), some (ds, ob), true => some ⟨f, ds, ob, o.dst, o, all⟩
      | some (.fn (.func f) df dc), some (ds, ob), true => some ⟨f, df ++ ds ++ dc, ob, o.dst, o, all⟩
      | _, _, _ => none
    | _, _ => none
  | none => none
def sndL : List (Nat × Nat) → List Nat
  | [] => []
  | (_, b) :: r => b :: sndL r
def ycs : List (Nat × Nat) → List Nat
  | [] => []
  | (a, _) :: r => a :: ycs r
def zw3 (σ τ1 : List (Nat × Nat)) (das : List D) (st0 : St) (d : D) (st1 : St) (fr : List Nat) : Bool :=
  zc2 σ (zbo σ) (nmL das) && zc2 σ (zbo σ) (ycs σ) && zv2 (sndL σ) (nms st0) && zc2 (zbo σ ++ τ1) (σ ++ zbo τ1) (nmD d) && zc2 (zbo σ ++ τ1) (σ ++ zbo τ1) (zup st1) && zv2 (sndL τ1) fr
theorem zud : ∀ l : List (Nat × Nat), sndL l = l.map (·.2)
  | [] => rfl
  | (a, b) :: r => by simp [sndL, zud r]
theorem zq6 : ∀ l : List (Nat × Nat), ycs l = l.map (·.1)
  | [] => rfl
  | (a, b) :: r => by simp [ycs, zq6 r]
section
variable {P : Program} {n : Nat} {F : List Nat} {Q : DQ} {tt : TT} {env : Env} {st st0 st1 : St} {ids ids' fr : List Nat} {k todo todo' : List DI} {I : Imm} {μ : Mu} {w : World} {Pn : V → Prop} {d : D} {σ τ1 : List (Nat × Nat)} {das : List D}
theorem ybl (h : zw3 σ τ1 das st0 d st1 fr = true) : ydy σ τ1 das st0 d st1 fr := by
  simp only [zw3, Bool.and_eq_true] at h
  obtain ⟨⟨⟨⟨⟨h1, h2⟩, h3⟩, h4⟩, h5⟩, h6⟩ := h
  exact ⟨h1, by rw [← zq6]; exact h2, fun p hp => zfl h3 _ (by rw [zud]; exact List.mem_map_of_mem hp), h4, h5, fun p hp => zfl h6 _ (by rw [zud]; exact List.mem_map_of_mem hp)⟩
theorem zlk (hag : Agree (ycs σ) st st1) : ∀ {st0 : St}, zid σ st st0 → zid σ st1 st0
  | [], _ => trivial
  | (i, none) :: _, h => h.elim
  | (i, some b) :: r, h => by
    refine ⟨?_, zlk hag h.2⟩
    have h1 := h.1
    cases ha : lk (zbo σ) i with
    | none => simp [ha] at h1
    | some a =>
      simp only [ha] at h1 ⊢
      refine ⟨h1.1, ?_⟩
      have hm : a ∈ ycs σ := by rw [zq6]; exact List.mem_map.2 ⟨(a, i), zit ha, rfl⟩
      rw [hag a hm]
      exact h1.2
theorem yis {all : List Oper} {o : Oper} {f : FuncId} (hg : o.guard = none) (hc : zge P o env f das True) (hE : zcm P f (zsj (zoo σ) das) st0 (.ret d st1)) (hb : zid σ st st0) (hn : zw3 σ τ1 das st0 d st1 fr = true) :
    LD P Pn all o env st (ycs σ) fr (zln (zbo σ ++ τ1) st1 ++ zcy (ycs σ)) (zui (zoo (zbo σ ++ τ1)) d) := by
  intro I μ st2 ids1 a w hag hst hon
  refine ⟨fun _ => ?_, fun hw => by rw [wanted_none hg] at hw; cases hw⟩
  obtain ⟨xs, h1, h2⟩ := hc I μ a w (zbr hon) trivial
  have hb' := zlk hag hb
  have hN := ybl hn
  obtain ⟨q1, q2, q3⟩ := zkw hst hb' hN.args h1
  rw [h2]
  refine (hE I _ w xs q1 q2).mono (fun u w' hu => ?_) (fun _ _ h => h.elim)
  obtain ⟨I', μ', r1, r2, r3, r4⟩ := hu
  obtain ⟨ν, s1, s2, s3, s4⟩ := ztw hst hb' hN r1 r2 r3 r4 q3
  rw [← zq6] at s1 s4
  exact ⟨I', ν, s1, s2, s3, s4⟩
theorem zxq {c : yg6} (h : ygl n env todo = some c) (hob : zbh c.ob) : (∀ f, ∃ todo', zb3 todo f = some (c.all, c.o, todo')) ∧ c.o.guard = none ∧ zge P c.o env c.f c.das True ∧ zel n c.dst = true ∧ (∀ x, c.o.op ≠ .defer x) ∧ c.dst = c.o.dst := by
  unfold ygl at h
  have hnext : ∀ {all : List Oper} {o : Oper} {t : List DI}, zb3 todo ([], []) = some (all, o, t) → ∀ f, ∃ todo', zb3 todo f = some (all, o, todo') := by
    intro all o t h f
    rcases zm5 h with ⟨r, k, rfl, _⟩ | ⟨r, fs, k, rfl, _⟩
    · exact ⟨_, rfl⟩
    · exact ⟨_, rfl⟩
  split at h
  · rename_i all o t h1
    split at h
    · rename_i f args ts hg ho
      split at h
      · rename_i ds ob ha hd
        cases h
        exact ⟨hnext h1, hg, ze5 ho ha hob, hd, (fun x hx => by rw [ho] at hx; cases hx), rfl⟩
      · cases h
    · rename_i t' args ts hg ho
      split at h
      · rename_i f ds ob ht ha hd
        cases h
        exact ⟨hnext h1, hg, zeo ho ht ha hob, hd, (fun x hx => by rw [ho] at hx; cases hx), rfl⟩
      · rename_i f df dc ds ob ht ha hd
        cases h
        exact ⟨hnext h1, hg, zj2 ho ht ha hob, hd, (fun x hx => by rw [ho] at hx; cases hx), rfl⟩
      · cases h
    · cases h
  · cases h
theorem zaw {c : yg6} (σ τ1 : List (Nat × Nat)) {fr : List Nat} {nm : List Nat} (h : ygl n env todo = some c) (hob : zbh c.ob) (hE : zcm P c.f (zsj (zoo σ) c.das) st0 (.ret d st1)) (hb : zid σ st st0)
    (hn : zw3 σ τ1 c.das st0 d st1 fr = true) (hnm : (zln (zbo σ ++ τ1) st1 ++ zcy (ycs σ)).map (·.1) = nm) (h1 : zb3 todo (ycs σ, nm) = some (c.all, c.o, todo')) (hids : ids = fr ++ ids')
    (hk : G P n F Q todo' (zee c.dst (zui (zoo (zbo σ ++ τ1)) d) env) (zln (zbo σ ++ τ1) st1 ++ zcy (ycs σ) ++ st) ids') : G P n F Q todo env st ids := by
  obtain ⟨_, q2, q3, q4, q5, q6⟩ := zxq (P := P) h hob
  subst hids
  rw [q6] at q4 hk
  subst hnm
  exact zcv h1 (yis q2 q3 hE hb hn) q4 q5 hk
theorem zai {c : yg6} {x : V} {all rest : List Oper} {o : Oper} (σ : List (Nat × Nat)) (h : ygl n env (.ops all (o :: rest) :: k) = some c) (hob : zbh c.ob) (hE : zcm P c.f (zsj (zoo σ) c.das) st0 (.pan x)) (hb : zid σ st st0)
    (hn : zc2 σ (zbo σ) (nmL c.das) = true) (hq : yd6 Q x) : DGo P n F Q (.ops all (o :: rest) :: k) env st ids := by
  obtain ⟨q1, q2, q3, q4, q5, _⟩ := zxq (P := P) h hob
  obtain ⟨t, ht⟩ := q1 ([], [])
  simp only [zb3, Option.some.injEq, Prod.mk.injEq] at ht
  obtain ⟨_, ho, _⟩ := ht
  subst ho
  intro b cs I μ a w items hd hc
  obtain ⟨j, is, rfl, hr, hk⟩ := zkq hd
  obtain ⟨hj, _⟩ := zb2 hr
  have hon : zrs (c.o.looksAt all.toArray) I μ env a := fun t _ d hl => hc.env t d hl
  have hlen : (c.o :: rest).length = rest.length + 1 := rfl
  rw [hlen, List.range'_succ]
  refine zce hj (wanted_none q2) q5 ?_
  obtain ⟨xs, h1, h2⟩ := q3 I μ a w (zbr hon) trivial
  obtain ⟨p1, p2, p3⟩ := zkw hc.toStRep hb hn h1
  rw [h2]
  refine valX.upon ((hE I _ w xs p1 p2).mono (fun _ _ h => h.elim) fun chain w' hp => ?_)
  obtain ⟨v, y, I', r1, r2, r3, r4, r5⟩ := hp
  subst r2
  have hE' : Ext I μ st w I' μ [] w' := { imm := r5.imm, os := r5.os, tape := r5.tape, output := r5.output, size := r5.size, block := fun b hb ho => r5.block b hb (fun h => ho (p3 b h)), fresh := fun b hb ⟨i, bi, g, h1, _⟩ => by simp [za3, lk] at h1, old := fun b hb ho => r5.old b hb (fun h => ho (p3 b h)) }
  exact ⟨.panic y, [], [], [], I', μ, ⟨v, r1, r3⟩, hq, zl4 r4 hc.size (hc.defers.ext hE'), .refl _ _, hE', .refl _ _⟩
end
end Go.Hk
namespace Go.Hk
open Go.Proofs
theorem mixed : Tryz.prog.follows .mixedOrders = true := by kernel_rfl
def ttK : TT := [
  (4, ⟨.bool, false, 1, 1, [.imm (.bool false)]⟩),
  (3, ⟨.int .i64, false, 1, 8, [.imm (.int .i64 0)]⟩),
  (9, ⟨.str, false, 1, 16, [.imm (.str [])]⟩),
  (141, ⟨.struct [(0, 138), (1, 3), (2, 9), (3, 139), (4, 27)], true, 5, 80, [.imm (.int .i64 0), .imm (.int .i64 0), .imm (.str []), .nils, .nils]⟩),
  (26, ⟨.struct [(0, 23), (1, 3), (2, 9), (3, 24)], true, 4, 56, [.imm (.int .i64 0), .imm (.int .i64 0), .imm (.str []), .nils]⟩),
  (50, ⟨.struct [(0, 48), (1, 3), (2, 9), (3, 27)], true, 4, 56, [.imm (.int .i64 0), .imm (.int .i64 0), .imm (.str []), .nils]⟩),
  (138, ⟨.int .i64, false, 1, 8, [.imm (.int .i64 0)]⟩),
  (27, ⟨.sl 50, false, 1, 24, [.nils]⟩),
  (5, ⟨.int .u8, false, 1, 1, [.imm (.int .u8 0)]⟩),
  (24, ⟨.sl 26, false, 1, 24, [.nils]⟩),
  (23, ⟨.int .i64, false, 1, 8, [.imm (.int .i64 0)]⟩),
  (57, ⟨.sl 9, false, 1, 24, [.nils]⟩),
  (139, ⟨.sl 141, false, 1, 24, [.nils]⟩),
  (48, ⟨.int .i64, false, 1, 8, [.imm (.int .i64 0)]⟩),
  (143, ⟨.struct [(0, 9), (1, 9), (2, 26), (6, 26), (10, 141)], true, 15, 224, [.imm (.str []), .imm (.str []), .imm (.int .i64 0), .imm (.int .i64 0), .imm (.str []), .nils, .imm (.int .i64 0), .imm (.int .i64 0), .imm (.str []), .nils, .imm (.int .i64 0), .imm (.int .i64 0), .imm (.str []), .nils, .nils]⟩),
  (147, ⟨.struct [(0, 9), (1, 22), (2, 145)], true, 3, 64, [.imm (.str []), .nils, .nils]⟩),
  (75, ⟨.struct [(0, 9), (1, 24)], true, 2, 40, [.imm (.str []), .nils]⟩),
  (22, ⟨.sl 72, false, 1, 24, [.nils]⟩),
  (145, ⟨.sl 143, false, 1, 24, [.nils]⟩),
  (72, ⟨.struct [(0, 9), (1, 70)], true, 2, 40, [.imm (.str []), .nils]⟩),
  (70, ⟨.sl 75, false, 1, 24, [.nils]⟩),
  (38, ⟨.int .i64, false, 1, 8, [.imm (.int .i64 0)]⟩)]
theorem zbd : TTok Tryz.prog ttK := .of_eq (l := [4, 3, 9, 141, 26, 50, 138, 27, 5, 24, 23, 57, 139, 48, 143, 147, 75, 22, 145, 72, 70, 38]) (by kernel_rfl)
def seqTl : Code → Code
  | .seq _ b => b
  | _ => .skip
def zol (f : Func) : Nat → Code
  | 0 => match f.body with
    | some c => c
    | none => .skip
  | k + 1 => seqTl (zol f k)
section
variable {n : Nat} {F : List Nat} {Q : DQ} {env env' : Env} {st st' : St} {ids ids' : List Nat} {k todo : List DI} {ob : List Prop}
theorem kd (path : List Pt) (h : run ttK n 300 path todo env st ids [] = .at k env' st' ids' ob) (hob : zbh ob) (hd : G Tryz.prog n F Q k env' st' ids') : DGo Tryz.prog n F Q todo env st ids := ztn zbd mixed 300 path h hob hd
theorem kg (path : List Pt) (h : run ttK n 300 path todo env st ids [] = .at k env' st' ids' ob) (hob : zbh ob) (hd : G Tryz.prog n F Q k env' st' ids') : G Tryz.prog n F Q todo env st ids := zq2 zbd mixed 300 path h hob hd
theorem ki {es : List (List V)} {m : Int} {sz : Nat} {e : TypeId} {g : Option (Bool × Bool)} {ob : List Prop} {t : Nat} {todo' : List DI} {c : List V} (h : yd5 ttK n env todo = some ⟨es, m, sz, e, g, ob, some t, todo'⟩)
    (hc : zal g → 0 ≤ m ∧ es[m.toNat]? = some c ∧ c.length = sz) (hob : zbh ob) (hk : G Tryz.prog n F Q todo' ((t, gD g (.ip e c 0)) :: env) st ids) : G Tryz.prog n F Q todo env st ids := zg9 zbd h hc hob hk
end
abbrev Str := List UInt8
inductive Ty where
  | mk (s n : Int) (x : Str) (ps : List Ty)
mutual
def dTyc : Ty → List V
  | .mk s n x ps => [.int .i64 s, .int .i64 n, .str x, .sl (zez ps)]
def zez : List Ty → List (List V)
  | [] => []
  | t :: r => dTyc t :: zez r
end
inductive Tm where
  | mk (op n : Int) (x : Str) (ks : List Tm) (ps : List Ty)
mutual
def zd8 : Tm → List V
  | .mk op n x ks ps => [.int .i64 op, .int .i64 n, .str x, .sl (zvu ks), .sl (zez ps)]
def zvu : List Tm → List (List V)
  | [] => []
  | t :: r => zd8 t :: zvu r
end
structure Cd where
  name : Str
  args : List Ty
structure Dt where
  name : Str
  cons : List Cd
structure Fd where
  name : Str
  param : Str
  from_ : Ty
  to_ : Ty
  body : Tm
structure Md where
  name : Str
  datas : List Dt
  funs : List Fd
def zh2 (c : Cd) : List V := [.str c.name, .sl (zez c.args)]
def zep (d : Dt) : List V := [.str d.name, .sl (d.cons.map zh2)]
def zz4 (f : Fd) : List V := [.str f.name, .str f.param] ++ dTyc f.from_ ++ dTyc f.to_ ++ zd8 f.body
def ygs (m : Md) : List V := [.str m.name, .sl (m.datas.map zep), .sl (m.funs.map zz4)]
def zgo (l : List Str) : List (List V) := l.map fun s => [.str s]
theorem zcl : ∀ l : List Ty, zez l = l.map dTyc
  | [] => rfl
  | t :: r => by simp [zez, zcl r]
theorem zvt : ∀ l : List Tm, zvu l = l.map zd8
  | [] => rfl
  | t :: r => by simp [zvu, zvt r]
@[simp] theorem dTys_length (l : List Ty) : (zez l).length = l.length := by rw [zcl]; simp
@[simp] theorem dTms_length (l : List Tm) : (zvu l).length = l.length := by rw [zvt]; simp
@[simp] theorem dTyc_length (t : Ty) : (dTyc t).length = 4 := by cases t; rfl
@[simp] theorem dTmc_length (t : Tm) : (zd8 t).length = 5 := by cases t; rfl
@[simp] theorem dStr_length (l : List Str) : (zgo l).length = l.length := by simp [zgo]
theorem zan {l : List Ty} {i : Nat} {t : Ty} (h : l[i]? = some t) : (zez l)[i]? = some (dTyc t) := by rw [zcl]; simp [h]
theorem zhz {l : List Tm} {i : Nat} {t : Tm} (h : l[i]? = some t) : (zvu l)[i]? = some (zd8 t) := by rw [zvt]; simp [h]
theorem zxs {l : List Str} {i : Nat} {t : Str} (h : l[i]? = some t) : (zgo l)[i]? = some [.str t] := by simp [zgo, h]
theorem zc4 (a b : List Str) : zgo (a ++ b) = zgo a ++ zgo b := by simp [zgo]
theorem zaj {α : Type} {l : List α} {i : Nat} {t : α} (h : l[i]? = some t) : l.drop i = t :: l.drop (i + 1) := by
  obtain ⟨h1, h2⟩ := List.getElem?_eq_some_iff.1 h
  rw [← h2]
  exact List.drop_eq_getElem_cons h1
theorem zbe {α : Type} {l : List α} {i : Nat} {t : α} (h : l[i]? = some t) : l.take (i + 1) = l.take i ++ [t] := by
  rw [List.take_add_one, h]; rfl
theorem zah {α : Type} {l : List α} {i : Nat} (h : i < l.length) : ∃ t, l[i]? = some t := ⟨_, List.getElem?_eq_getElem h⟩
end Go.Hk
namespace Go.Hk
open Go.Proofs
def zlp : List Str → Str → Bool
  | [], _ => false
  | x :: r, s => x == s || zlp r s
set_option maxRecDepth 100000 in
theorem yh3 (l : List Str) (s : Str) : PureC Tryz.prog 115 [.sl (zgo l), .str s] (.bool (zlp l s)) := by
  refine zav fun hv => ?_
  simp [zdi, vOk, maxLen] at hv
  refine zae zbd Tryz.func115 (by decide +kernel) rfl [1, 2] rfl rfl ?_
  refine kg [] rfl (by simp) ?_
  refine zag (fun i : Nat => [(5, .imm (.int .i64 i)), (0, .imm (.sl (zgo l))), (1, .imm (.str s))]) (fun _ => []) [1] (fun i => l.length - i) (fun i => i ≤ l.length ∧ zlp l s = zlp (l.drop i) s) 0
    ⟨Nat.zero_le _, rfl⟩ ⟨rfl, rfl, rfl, trivial⟩ trivial rfl fun i hi ih => ?_
  refine kd [] rfl (by simp) ?_
  refine zaa rfl (fun h => ?_) (fun h => ?_)
  · simp at h
    obtain ⟨t, ht⟩ := zah h
    refine kd [] rfl (by simp) ?_
    refine ki rfl (c := [.str t]) (fun _ => ⟨by simp, by simpa using zxs ht, rfl⟩) (by simp) ?_
    refine kg [] rfl (by simp) ?_
    have e := hi.2
    rw [zaj ht] at e
    refine zaa rfl (fun h => ?_) (fun h => ?_)
    · refine kd [] rfl (by simp) ?_
      refine zab ⟨_, rfl, tV (congrArg _ ?_), trivial⟩
      rw [e]; simp [zlp, h]
    · refine kd [] rfl (by simp) ?_
      refine zad (ih (i + 1) (by omega) ⟨by omega, by rw [e]; simp [zlp, h]⟩) ⟨za2 (w64 (by omega) (by omega)), rfl, rfl, trivial⟩ trivial rfl
  · refine kd [] rfl (by simp) ?_
    refine zab ⟨_, rfl, tV (congrArg _ ?_), trivial⟩
    simp at h
    rw [hi.2, List.drop_eq_nil_of_le (by omega)]; rfl
def zeb (s : Str) : Bool := s.all fun c => 97 ≤ c && c ≤ 122
theorem zmp {s : Str} {i : Nat} {c : UInt8} (h : s[i]? = some c) : zeb (s.drop i) = ((97 ≤ c && c ≤ 122) && zeb (s.drop (i + 1))) := by
  rw [zaj h]; simp [zeb]
set_option maxRecDepth 100000 in
theorem zwd (s : Str) (hs : s.length ≤ 9223372036854775806) : PureC Tryz.prog 142 [.str s] (.bool (zeb s)) := by
  refine zae zbd Tryz.func142 (by decide +kernel) rfl [1, 2] rfl rfl ?_
  refine kg [] rfl (by simp) ?_
  refine zag (fun i : Nat => [(3, .imm (.int .i64 i)), (0, .imm (.str s))]) (fun _ => []) [1] (fun i => s.length - i) (fun i => i ≤ s.length ∧ zeb s = zeb (s.drop i)) 0
    ⟨Nat.zero_le _, rfl⟩ ⟨rfl, rfl, trivial⟩ trivial rfl fun i hi ih => ?_
  refine kd [] rfl (by simp) ?_
  refine zaa rfl (fun h => ?_) (fun h => ?_)
  · simp at h
    obtain ⟨c, hc⟩ := zah h
    have e := hi.2
    rw [zmp hc] at e
    have hg : s[i]?.getD 0 = c := by rw [hc]; rfl
    refine kd [] rfl (by simp [h]) ?_
    refine zaa rfl (fun h => ?_) (fun h => ?_)
    · refine kd [] rfl (by simp) ?_
      refine zab ⟨_, rfl, tV (congrArg _ ?_), trivial⟩
      rw [e]; simp [hg] at h; simp [UInt8.le_iff_toNat_le]; omega
    · refine kd [] rfl (by simp) ?_
      refine zad (ih (i + 1) (by omega) ⟨by omega, ?_⟩) ⟨za2 (w64 (by omega) (by omega)), rfl, trivial⟩ trivial rfl
      rw [e]; simp [hg] at h; simp [UInt8.le_iff_toNat_le]; omega
  · refine kd [] rfl (by simp) ?_
    refine zab ⟨_, rfl, tV (congrArg _ ?_), trivial⟩
    simp at h
    rw [hi.2, List.drop_eq_nil_of_le (by omega)]; rfl
def zg6 : List Str := [[98, 111, 111, 108], [99, 101, 108, 108], [99, 104, 97, 110], [101, 108, 115, 101], [102, 97, 108, 115, 101], [102, 117, 110], [103, 101, 116], [105, 102], [105, 110], [105, 110, 112, 117, 116], [105, 110, 116], [106, 111, 105, 110], [108, 101, 116], [109, 97, 116, 99, 104], [109, 111, 100, 117, 108, 101], [111, 117, 116], [112, 97, 117, 115, 101], [112, 117, 116], [114, 101, 115, 101, 116], [115, 101, 110, 100], [115, 104, 105, 102, 116], [115, 112, 97, 119, 110], [116, 97, 107, 101], [116, 97, 115, 107], [116, 104, 101, 110], [116, 114, 117, 101], [116, 121, 112, 101], [117, 110, 105, 116]]
set_option maxRecDepth 100000 in
theorem zu0 : PureC Tryz.prog 164 [] (.sl (zgo zg6)) := by
  refine zae zbd Tryz.func164 (by decide +kernel) rfl [1, 2] rfl rfl ?_
  refine kg [] rfl (by simp) ?_
  refine zab ⟨_, rfl, ?_, trivial⟩
  rfl
def yfx (s : Str) : Bool := zlp zg6 s
set_option maxRecDepth 100000 in
theorem Key_ok (s : Str) : PureC Tryz.prog 143 [.str s] (.bool (yfx s)) := by
  refine zae zbd Tryz.func143 (by decide +kernel) rfl [1, 2] rfl rfl ?_
  refine kg [] rfl (by simp) ?_
  refine zac rfl (fun _ => zu0) (by simp) ?_
  refine kg [] rfl (by simp) ?_
  refine zac rfl (fun _ => yh3 zg6 s) (by simp) ?_
  refine kg [] rfl (by simp) ?_
  exact zab ⟨_, rfl, tV rfl, trivial⟩
def zfg (s : Str) : Bool := decide (1 ≤ s.length) && decide (s.length ≤ 8) && zeb s && !yfx s
def zct (s : Str) : Bool := decide (1 ≤ s.length) && decide (s.length ≤ 8) && (65 ≤ s.getD 0 0 && s.getD 0 0 ≤ 90) && zeb (s.drop 1)
def inI (x lo hi : Int) : Bool := decide (lo ≤ x) && decide (x ≤ hi)
set_option maxRecDepth 100000 in
theorem zhe (s : Str) : PureC Tryz.prog 111 [.str s] (.bool (zfg s)) := by
  refine zae zbd Tryz.func111 (by decide +kernel) rfl [1, 2] rfl rfl ?_
  refine kg [] rfl (by simp) ?_
  refine zac rfl (v := .bool (zeb s)) (fun h => zwd s ?_) (by simp [zal]) ?_
  · simp [zal] at h; omega
  refine kg [] rfl (by simp) ?_
  refine zac rfl (v := .bool (yfx s)) (fun h => Key_ok s) (by simp [zal]) ?_
  refine kg [] rfl (by simp) ?_
  refine zab ⟨_, rfl, tV (congrArg _ ?_), trivial⟩
  simp [zfg]
  norm_cast
set_option maxRecDepth 100000 in
theorem zqy (x lo hi : Int) : PureC Tryz.prog 112 [.int .i64 x, .int .i64 lo, .int .i64 hi] (.bool (inI x lo hi)) := by
  refine zae zbd Tryz.func112 (by decide +kernel) rfl [1, 2] rfl rfl ?_
  refine kg [] rfl (by simp) ?_
  refine zab ⟨_, rfl, tV (congrArg _ ?_), trivial⟩
  simp [inI]
set_option maxRecDepth 100000 in
theorem zh0 (s : Str) : PureC Tryz.prog 110 [.str s] (.bool (zct s)) := by
  refine zae zbd Tryz.func110 (by decide +kernel) rfl [1, 2] rfl rfl ?_
  refine kg [] rfl (by simp [zal]; omega) ?_
  refine zac rfl (v := .bool (zeb (s.drop 1))) (fun h => zwd _ ?_) (by simp [zal]) ?_
  · simp [zal] at h; simp; omega
  refine kg [] rfl (by simp) ?_
  refine zab ⟨_, rfl, tV (congrArg _ ?_), trivial⟩
  simp [zct, UInt8.le_iff_toNat_le, Bool.and_assoc]
  norm_cast
mutual
def zaz : Ty → Int → Int
  | .mk _ _ _ ps, l => if l < 1 then -1 else zbi ps (l - 1)
def zbi : List Ty → Int → Int
  | [], l => l
  | t :: r, l => if 0 ≤ l then zbi r (zaz t l) else l
end
mutual
theorem zhg : ∀ (t : Ty) (l : Int), -1 ≤ zaz t l ∧ (-1 ≤ l → zaz t l ≤ l)
  | .mk _ _ _ ps, l => by
    simp only [zaz]
    by_cases h : l < 1
    · rw [if_pos h]; omega
    · rw [if_neg h]
      have := zig ps (l - 1) (by omega)
      omega
theorem zig : ∀ (ts : List Ty) (l : Int), -1 ≤ l → -1 ≤ zbi ts l ∧ zbi ts l ≤ l
  | [], l, h => by simp [zbi, h]
  | t :: r, l, h => by
    simp only [zbi]
    by_cases h0 : 0 ≤ l
    · rw [if_pos h0]
      have h1 := zhg t l
      have h2 := zig r (zaz t l) h1.1
      omega
    · rw [if_neg h0]; omega
end
set_option maxRecDepth 100000 in
theorem ze0 : ∀ (t : Ty) (l : Int), -9223372036854775808 ≤ l → l ≤ 9223372036854775807 → PureC Tryz.prog 29 [.agg (dTyc t), .int .i64 l] (.int .i64 (zaz t l))
  | .mk s n x ps, l, hl0, hl1 => by
    refine zav fun hv => ?_
    simp [zdi, vOk, dTyc, maxLen] at hv
    refine zae zbd Tryz.func29 (by decide +kernel) rfl [1, 2, 3] rfl rfl ?_
    refine kg [] rfl (by simp) ?_
    refine zaa rfl (fun h => ?_) (fun h => ?_)
    · refine kd [] rfl (by simp) ?_
      refine zab ⟨_, rfl, tV (congrArg _ ?_), trivial⟩
      simp at h
      simp [zaz, h]
    simp at h
    refine kd [] rfl (by simp) ?_
    refine zag (fun x : Nat × Int => [(5, .imm (.int .i64 x.1)), (1, .imm (.int .i64 x.2)), (2, .ref 1 0)]) (fun _ => [(1, some (.immb 26 4 (dTyc (.mk s n x ps))))]) [2, 3] (fun x => ps.length - x.1)
      (fun y => y.1 ≤ ps.length ∧ zaz (.mk s n x ps) l = zbi (ps.drop y.1) y.2 ∧ -1 ≤ y.2 ∧ y.2 < l) (0, l - 1)
      ⟨Nat.zero_le _, by simp [zaz]; omega, by simp only; omega, by simp only; omega⟩ ⟨rfl, za2 (w64 (by omega) (by omega)), rfl, trivial⟩ ⟨rfl, trivial⟩ rfl fun y hi ih => ?_
    obtain ⟨i, m⟩ := y
    obtain ⟨hi1, hi2, hi3, hi4⟩ := hi
    simp only at hi1 hi2 hi3 hi4
    refine kd [] rfl (by simp) ?_
    refine zaa rfl (fun h => ?_) (fun h => ?_)
    · simp at h
      obtain ⟨t, ht⟩ := zah (l := ps) (i := i) (by omega)
      rw [zaj ht] at hi2
      refine kd [] rfl (by simp) ?_
      refine ki rfl (c := dTyc t) (fun _ => ⟨by simp, by simpa using zan ht, by simp⟩) (by simp) ?_
      refine kg [] rfl (by simp) ?_
      refine zac rfl (fun _ => ze0 t m (by omega) (by omega)) (by simp) ?_
      refine kg [] rfl (by simp) ?_
      have hb := zhg t m
      refine zad (ih (i + 1, zaz t m) (by simp only; omega) ⟨by simp only; omega, by simp only; rw [hi2]; simp [zbi]; omega, by simp only; omega, by simp only; omega⟩) ⟨za2 (w64 (by omega) (by omega)), rfl, rfl, trivial⟩ ⟨rfl, trivial⟩ rfl
    · refine kd [] rfl (by simp) ?_
      refine zab ⟨_, rfl, tV (congrArg _ ?_), trivial⟩
      rw [hi2]
      simp at h
      by_cases hlt : i < ps.length
      · obtain ⟨t, ht⟩ := zah hlt
        rw [zaj ht]; simp [zbi]; omega
      · rw [List.drop_eq_nil_of_le (by omega)]; simp [zbi]
termination_by t => SizeOf.sizeOf t
decreasing_by
  have := List.sizeOf_lt_of_mem (List.mem_of_getElem? ht)
  simp_wf
  omega
set_option maxRecDepth 100000 in
theorem zi2 : ∀ (t : Ty) (l : Int), -9223372036854775808 ≤ l → l ≤ 9223372036854775807 → PureC Tryz.prog 30 [.agg (dTyc t), .int .i64 l] (.int .i64 (zaz t l))
  | .mk s n x ps, l, hl0, hl1 => by
    refine zav fun hv => ?_
    simp [zdi, vOk, dTyc, maxLen] at hv
    refine zae zbd Tryz.func30 (by decide +kernel) rfl [1, 2, 3] rfl rfl ?_
    refine kg [] rfl (by simp) ?_
    refine zaa rfl (fun h => ?_) (fun h => ?_)
    · refine kd [] rfl (by simp) ?_
      refine zab ⟨_, rfl, tV (congrArg _ ?_), trivial⟩
      simp at h
      simp [zaz, h]
    simp at h
    refine kd [] rfl (by simp) ?_
    refine zag (fun x : Nat × Int => [(5, .imm (.int .i64 x.1)), (1, .imm (.int .i64 x.2)), (2, .ref 1 0)]) (fun _ => [(1, some (.immb 50 4 (dTyc (.mk s n x ps))))]) [2, 3] (fun x => ps.length - x.1)
      (fun y => y.1 ≤ ps.length ∧ zaz (.mk s n x ps) l = zbi (ps.drop y.1) y.2 ∧ -1 ≤ y.2 ∧ y.2 < l) (0, l - 1)
      ⟨Nat.zero_le _, by simp [zaz]; omega, by simp only; omega, by simp only; omega⟩ ⟨rfl, za2 (w64 (by omega) (by omega)), rfl, trivial⟩ ⟨rfl, trivial⟩ rfl fun y hi ih => ?_
    obtain ⟨i, m⟩ := y
    obtain ⟨hi1, hi2, hi3, hi4⟩ := hi
    simp only at hi1 hi2 hi3 hi4
    refine kd [] rfl (by simp) ?_
    refine zaa rfl (fun h => ?_) (fun h => ?_)
    · simp at h
      obtain ⟨t, ht⟩ := zah (l := ps) (i := i) (by omega)
      rw [zaj ht] at hi2
      refine kd [] rfl (by simp) ?_
      refine ki rfl (c := dTyc t) (fun _ => ⟨by simp, by simpa using zan ht, by simp⟩) (by simp) ?_
      refine kg [] rfl (by simp) ?_
      refine zac rfl (fun _ => zi2 t m (by omega) (by omega)) (by simp) ?_
      refine kg [] rfl (by simp) ?_
      have hb := zhg t m
      refine zad (ih (i + 1, zaz t m) (by simp only; omega) ⟨by simp only; omega, by simp only; rw [hi2]; simp [zbi]; omega, by simp only; omega, by simp only; omega⟩) ⟨za2 (w64 (by omega) (by omega)), rfl, rfl, trivial⟩ ⟨rfl, trivial⟩ rfl
    · refine kd [] rfl (by simp) ?_
      refine zab ⟨_, rfl, tV (congrArg _ ?_), trivial⟩
      rw [hi2]
      simp at h
      by_cases hlt : i < ps.length
      · obtain ⟨t, ht⟩ := zah hlt
        rw [zaj ht]; simp [zbi]; omega
      · rw [List.drop_eq_nil_of_le (by omega)]; simp [zbi]
termination_by t => SizeOf.sizeOf t
decreasing_by
  have := List.sizeOf_lt_of_mem (List.mem_of_getElem? ht)
  simp_wf
  omega
def zby (holes : Bool) (s n : Int) (x : Str) (k : Nat) : Bool :=
  if s = 1 ∨ s = 2 ∨ s = 3 then ((k : Int) == 0) && n == 0 && x == []
  else if s = 4 then ((k : Int) == 2) && n == 0 && x == []
  else if s = 5 ∨ s = 6 ∨ s = 7 then ((k : Int) == 1) && n == 0 && x == []
  else if s = 8 then ((k : Int) == 0) && n == 0 && zct x
  else if s = 9 then holes && ((k : Int) == 0) && x == [] && inI n 0 99
  else false
mutual
def zca (holes : Bool) : Ty → Bool
  | .mk s n x ps => zby holes s n x ps.length && zb6 holes ps
def zb6 (holes : Bool) : List Ty → Bool
  | [] => true
  | t :: r => zca holes t && zb6 holes r
end
set_option maxRecDepth 100000 in
theorem zwc (holes : Bool) : ∀ (t : Ty), PureC Tryz.prog 84 [.agg (dTyc t), .bool holes] (.bool (zca holes t))
  | .mk s n x ps => by
    refine zav fun hv => ?_
    simp [zdi, vOk, dTyc, maxLen] at hv
    refine zae zbd Tryz.func84 (by decide +kernel) rfl [1, 2, 3] rfl rfl ?_
    have J : ∀ is : Bool, is = zby holes s n x ps.length → DGo Tryz.prog Tryz.f84.ntmps (nms []) (yed ttK Tryz.f84.results.toList (.ret (.imm (.bool (zca holes (.mk s n x ps)))) []))
        [.code (zol Tryz.f84 4)] [(6, .imm (.bool is)), (5, .imm (.int .i64 ps.length)), (1, .imm (.bool holes)), (2, .ref 1 0)] [(1, some (.immb 26 4 (dTyc (.mk s n x ps))))] [2, 3] := by
      intro is his
      refine kd [] rfl (by simp) ?_
      refine zag (fun y : Nat × Bool => [(7, .imm (.int .i64 y.1)), (6, .imm (.bool y.2)), (5, .imm (.int .i64 ps.length)), (1, .imm (.bool holes)), (2, .ref 1 0)]) (fun _ => [(1, some (.immb 26 4 (dTyc (.mk s n x ps))))]) [2, 3] (fun y => ps.length - y.1)
        (fun y => y.1 ≤ ps.length ∧ zca holes (.mk s n x ps) = (y.2 && zb6 holes (ps.drop y.1))) (0, is) ⟨Nat.zero_le _, by simp [zca, his]⟩ ⟨rfl, rfl, rfl, rfl, rfl, trivial⟩ ⟨rfl, trivial⟩ rfl fun y hi ih => ?_
      obtain ⟨i, b⟩ := y
      obtain ⟨hi1, hi2⟩ := hi
      simp only at hi1 hi2
      refine kd [] rfl (by simp) ?_
      refine zaa rfl (fun h => ?_) (fun h => ?_)
      · simp at h
        obtain ⟨t, ht⟩ := zah (l := ps) (i := i) (by omega)
        rw [zaj ht] at hi2
        refine kd [] rfl (by simp) ?_
        refine ki rfl (c := dTyc t) (fun _ => ⟨by simp, by simpa using zan ht, by simp⟩) (by simp) ?_
        refine kg [] rfl (by simp) ?_
        refine zac rfl (fun _ => zwc holes t) (by simp) ?_
        refine kg [] rfl (by simp) ?_
        refine zad (ih (i + 1, zca holes t) (by simp only; omega) ⟨by simp only; omega, by simp only; rw [hi2, h.2]; simp [zb6]⟩) ⟨za2 (w64 (by omega) (by omega)), rfl, rfl, rfl, rfl, trivial⟩ ⟨rfl, trivial⟩ rfl
      · refine kd [] rfl (by simp) ?_
        refine zab ⟨_, rfl, tV (congrArg _ ?_), trivial⟩
        rw [hi2]
        simp at h
        by_cases hlt : i < ps.length
        · rw [h hlt]; rfl
        · rw [List.drop_eq_nil_of_le (by omega)]; simp [zb6]
    by_cases h1 : s = 1
    · subst h1
      refine kg [.a, .a, .s] rfl (by simp) ?_
      exact zad (J _ (by simp [zby])) ⟨rfl, za2 (by simp), rfl, rfl, trivial⟩ ⟨rfl, trivial⟩ rfl
    by_cases h2 : s = 2
    · subst h2
      refine kg [.a, .a, .a, .s] rfl (by simp) ?_
      exact zad (J _ (by simp [zby])) ⟨rfl, za2 (by simp), rfl, rfl, trivial⟩ ⟨rfl, trivial⟩ rfl
    by_cases h3 : s = 3
    · subst h3
      refine kg [.a, .a, .a, .s] rfl (by simp) ?_
      exact zad (J _ (by simp [zby])) ⟨rfl, za2 (by simp), rfl, rfl, trivial⟩ ⟨rfl, trivial⟩ rfl
    by_cases h4 : s = 4
    · subst h4
      refine kg [.a, .a, .a, .a, .s] rfl (by simp) ?_
      exact zad (J _ (by simp [zby])) ⟨rfl, za2 (by simp), rfl, rfl, trivial⟩ ⟨rfl, trivial⟩ rfl
    by_cases h5 : s = 5
    · subst h5
      refine kg [.a, .a, .a, .a, .a, .a, .s] rfl (by simp) ?_
      exact zad (J _ (by simp [zby])) ⟨rfl, za2 (by simp), rfl, rfl, trivial⟩ ⟨rfl, trivial⟩ rfl
    by_cases h6 : s = 6
    · subst h6
      refine kg [.a, .a, .a, .a, .a, .a, .a, .s] rfl (by simp) ?_
      exact zad (J _ (by simp [zby])) ⟨rfl, za2 (by simp), rfl, rfl, trivial⟩ ⟨rfl, trivial⟩ rfl
    by_cases h7 : s = 7
    · subst h7
      refine kg [.a, .a, .a, .a, .a, .a, .a, .s] rfl (by simp) ?_
      exact zad (J _ (by simp [zby])) ⟨rfl, za2 (by simp), rfl, rfl, trivial⟩ ⟨rfl, trivial⟩ rfl
    by_cases h8 : s = 8
    · subst h8
      refine kg [.a, .a, .a, .a, .a, .a, .a, .a] rfl (by simp) ?_
      refine zac rfl (fun _ => zh0 x) (by simp [zal]) ?_
      refine kg [.s] rfl (by simp) ?_
      exact zad (J _ (by simp [zby])) ⟨rfl, za2 (by simp), rfl, rfl, trivial⟩ ⟨rfl, trivial⟩ rfl
    by_cases h9 : s = 9
    · subst h9
      refine kg [.a, .a, .a, .a, .a, .a, .a, .a, .a] rfl (by simp) ?_
      refine zac rfl (fun _ => zqy n 0 99) (by simp [zal]) ?_
      refine kg [.s] rfl (by simp) ?_
      exact zad (J _ (by simp [zby])) ⟨rfl, za2 (by simp), rfl, rfl, trivial⟩ ⟨rfl, trivial⟩ rfl
    refine kg [.f, .f, .f, .f, .f, .f, .f, .f, .f, .s] rfl (by simp [h1, h2, h3, h4, h5, h6, h7, h8, h9]) ?_
    exact zad (J _ (by simp [zby, h1, h2, h3, h4, h5, h6, h7, h8, h9])) ⟨rfl, za2 (by simp), rfl, rfl, trivial⟩ ⟨rfl, trivial⟩ rfl
termination_by t => SizeOf.sizeOf t
decreasing_by
  have := List.sizeOf_lt_of_mem (List.mem_of_getElem? ht)
  simp_wf
  omega
def ze6 (t : Ty) : Bool := decide (0 ≤ zaz t 12) && zca false t
set_option maxRecDepth 100000 in
theorem zl7 (t : Ty) : PureC Tryz.prog 58 [.agg (dTyc t)] (.bool (ze6 t)) := by
  refine zae zbd Tryz.func58 (by decide +kernel) rfl [1, 2, 3] rfl rfl ?_
  refine kg [] rfl (by simp) ?_
  refine zac rfl (fun _ => ze0 t 12 (by decide) (by decide)) (by simp) ?_
  refine kg [] rfl (by simp) ?_
  refine zac rfl (fun _ => zwc false t) (by simp [zal]) ?_
  refine kg [] rfl (by simp) ?_
  refine zab ⟨_, rfl, tV (congrArg _ ?_), trivial⟩
  simp [ze6]
def zh6 (s n : Int) (x : Str) (k : Nat) : Bool :=
  if s = 1 ∨ s = 5 then ((k : Int) == 0) && n == 0 && x == []
  else if s = 2 then ((k : Int) == 0) && n == 0 && zfg x
  else if s = 3 then ((k : Int) == 0) && x == [] && inI n (-1000000000) 1000000000
  else if s = 4 then ((k : Int) == 0) && x == [] && inI n 0 1
  else if s = 6 then decide ((k : Int) ≤ 3) && n == 0 && zct x
  else false
mutual
def zc1 : Ty → Bool
  | .mk s n x ps => zh6 s n x ps.length && zb1 ps
def zb1 : List Ty → Bool
  | [] => true
  | t :: r => zc1 t && zb1 r
end
set_option maxRecDepth 100000 in
theorem ya9 : ∀ (t : Ty), PureC Tryz.prog 86 [.agg (dTyc t)] (.bool (zc1 t))
  | .mk s n x ps => by
    refine zav fun hv => ?_
    simp [zdi, vOk, dTyc, maxLen] at hv
    refine zae zbd Tryz.func86 (by decide +kernel) rfl [1, 2, 3] rfl rfl ?_
    have J : ∀ is : Bool, is = zh6 s n x ps.length → DGo Tryz.prog Tryz.f86.ntmps (nms []) (yed ttK Tryz.f86.results.toList (.ret (.imm (.bool (zc1 (.mk s n x ps)))) []))
        [.code (zol Tryz.f86 4)] [(4, .imm (.bool is)), (3, .imm (.int .i64 ps.length)), (1, .ref 1 0)] [(1, some (.immb 50 4 (dTyc (.mk s n x ps))))] [2, 3] := by
      intro is his
      refine kd [] rfl (by simp) ?_
      refine zag (fun y : Nat × Bool => [(5, .imm (.int .i64 y.1)), (4, .imm (.bool y.2)), (3, .imm (.int .i64 ps.length)), (1, .ref 1 0)]) (fun _ => [(1, some (.immb 50 4 (dTyc (.mk s n x ps))))]) [2, 3] (fun y => ps.length - y.1)
        (fun y => y.1 ≤ ps.length ∧ zc1 (.mk s n x ps) = (y.2 && zb1 (ps.drop y.1))) (0, is) ⟨Nat.zero_le _, by simp [zc1, his]⟩ ⟨rfl, rfl, rfl, rfl, trivial⟩ ⟨rfl, trivial⟩ rfl fun y hi ih => ?_
      obtain ⟨i, b⟩ := y
      obtain ⟨hi1, hi2⟩ := hi
      simp only at hi1 hi2
      refine kd [] rfl (by simp) ?_
      refine zaa rfl (fun h => ?_) (fun h => ?_)
      · simp at h
        obtain ⟨t, ht⟩ := zah (l := ps) (i := i) (by omega)
        rw [zaj ht] at hi2
        refine kd [] rfl (by simp) ?_
        refine ki rfl (c := dTyc t) (fun _ => ⟨by simp, by simpa using zan ht, by simp⟩) (by simp) ?_
        refine kg [] rfl (by simp) ?_
        refine zac rfl (fun _ => ya9 t) (by simp) ?_
        refine kg [] rfl (by simp) ?_
        exact zad (ih (i + 1, zc1 t) (by simp only; omega) ⟨by simp only; omega, by simp only; rw [hi2, h.2]; simp [zb1]⟩) ⟨za2 (w64 (by omega) (by omega)), rfl, rfl, rfl, trivial⟩ ⟨rfl, trivial⟩ rfl
      · refine kd [] rfl (by simp) ?_
        refine zab ⟨_, rfl, tV (congrArg _ ?_), trivial⟩
        rw [hi2]
        simp at h
        by_cases hlt : i < ps.length
        · rw [h hlt]; rfl
        · rw [List.drop_eq_nil_of_le (by omega)]; simp [zb1]
    by_cases h1 : s = 1
    · subst h1
      refine kg [.a, .a, .s] rfl (by simp) ?_
      exact zad (J _ (by simp [zh6])) ⟨rfl, za2 (by simp), rfl, trivial⟩ ⟨rfl, trivial⟩ rfl
    by_cases h2 : s = 2
    · subst h2
      refine kg [.a, .a, .a] rfl (by simp) ?_
      refine zac rfl (fun _ => zhe x) (by simp [zal]) ?_
      refine kg [.s] rfl (by simp) ?_
      exact zad (J _ (by simp [zh6])) ⟨rfl, za2 (by simp), rfl, trivial⟩ ⟨rfl, trivial⟩ rfl
    by_cases h3 : s = 3
    · subst h3
      refine kg [.a, .a, .a, .a] rfl (by simp) ?_
      refine zac rfl (fun _ => zqy n (-1000000000) 1000000000) (by simp [zal]) ?_
      refine kg [.s] rfl (by simp) ?_
      exact zad (J _ (by simp [zh6])) ⟨rfl, za2 (by simp), rfl, trivial⟩ ⟨rfl, trivial⟩ rfl
    by_cases h4 : s = 4
    · subst h4
      refine kg [.a, .a, .a, .a, .a] rfl (by simp) ?_
      refine zac rfl (fun _ => zqy n 0 1) (by simp [zal]) ?_
      refine kg [.s] rfl (by simp) ?_
      exact zad (J _ (by simp [zh6])) ⟨rfl, za2 (by simp), rfl, trivial⟩ ⟨rfl, trivial⟩ rfl
    by_cases h5 : s = 5
    · subst h5
      refine kg [.a, .a, .s] rfl (by simp) ?_
      exact zad (J _ (by simp [zh6])) ⟨rfl, za2 (by simp), rfl, trivial⟩ ⟨rfl, trivial⟩ rfl
    by_cases h6 : s = 6
    · subst h6
      refine kg [.a, .a, .a, .a, .a, .a] rfl (by simp) ?_
      refine zac rfl (fun _ => zh0 x) (by simp [zal]) ?_
      refine kg [.s] rfl (by simp) ?_
      exact zad (J _ (by simp [zh6])) ⟨rfl, za2 (by simp), rfl, trivial⟩ ⟨rfl, trivial⟩ rfl
    refine kg [.f, .f, .f, .f, .f, .f, .s] rfl (by simp [h1, h2, h3, h4, h5, h6]) ?_
    exact zad (J _ (by simp [zh6, h1, h2, h3, h4, h5, h6])) ⟨rfl, za2 (by simp), rfl, trivial⟩ ⟨rfl, trivial⟩ rfl
termination_by t => SizeOf.sizeOf t
decreasing_by
  have := List.sizeOf_lt_of_mem (List.mem_of_getElem? ht)
  simp_wf
  omega
mutual
def za9 : Tm → Int → Int → Int
  | .mk _ _ _ ks _, l, d => if l < 1 ∨ d < 1 then -1 else zbk ks (l - 1) (d - 1)
def zbk : List Tm → Int → Int → Int
  | [], l, _ => l
  | t :: r, l, d => if 0 ≤ l then zbk r (za9 t l d) d else l
end
mutual
theorem zhh : ∀ (t : Tm) (l d : Int), -1 ≤ za9 t l d ∧ (-1 ≤ l → za9 t l d ≤ l)
  | .mk _ _ _ ks _, l, d => by
    simp only [za9]
    by_cases h : l < 1 ∨ d < 1
    · rw [if_pos h]; omega
    · rw [if_neg h]
      have := zme ks (l - 1) (d - 1) (by omega)
      omega
theorem zme : ∀ (ts : List Tm) (l d : Int), -1 ≤ l → -1 ≤ zbk ts l d ∧ zbk ts l d ≤ l
  | [], l, d, h => by simp [zbk, h]
  | t :: r, l, d, h => by
    simp only [zbk]
    by_cases h0 : 0 ≤ l
    · rw [if_pos h0]
      have h1 := zhh t l d
      have h2 := zme r (za9 t l d) d h1.1
      omega
    · rw [if_neg h0]; omega
end
set_option maxRecDepth 100000 in
theorem zx6 : ∀ (t : Tm) (l d : Int), -9223372036854775808 ≤ l → l ≤ 9223372036854775807 → -9223372036854775807 ≤ d → d ≤ 9223372036854775807 → PureC Tryz.prog 144 [.agg (zd8 t), .int .i64 l, .int .i64 d] (.int .i64 (za9 t l d))
  | .mk op n x ks ps, l, d, hl0, hl1, hd0, hd1 => by
    refine zav fun hv => ?_
    simp [zdi, vOk, zd8, maxLen] at hv
    refine zae zbd Tryz.func144 (by decide +kernel) rfl [1, 2, 3] rfl rfl ?_
    refine kg [] rfl (by simp) ?_
    refine zaa rfl (fun h => ?_) (fun h => ?_)
    · refine kd [] rfl (by simp) ?_
      refine zab ⟨_, rfl, tV (congrArg _ ?_), trivial⟩
      simp at h
      simp only [za9]; rw [if_pos (by omega)]
    simp at h
    refine kd [] rfl (by simp) ?_
    refine zag (fun x : Nat × Int => [(7, .imm (.int .i64 x.1)), (1, .imm (.int .i64 x.2)), (2, .imm (.int .i64 d)), (3, .ref 1 0)]) (fun _ => [(1, some (.immb 141 5 (zd8 (.mk op n x ks ps))))]) [2, 3] (fun x => ks.length - x.1)
      (fun y => y.1 ≤ ks.length ∧ za9 (.mk op n x ks ps) l d = zbk (ks.drop y.1) y.2 (d - 1) ∧ -1 ≤ y.2 ∧ y.2 < l) (0, l - 1)
      ⟨Nat.zero_le _, by simp only [za9, List.drop_zero]; rw [if_neg (by omega)], by simp only; omega, by simp only; omega⟩ ⟨rfl, za2 (w64 (by omega) (by omega)), rfl, rfl, trivial⟩ ⟨rfl, trivial⟩ rfl fun y hi ih => ?_
    obtain ⟨i, m⟩ := y
    obtain ⟨hi1, hi2, hi3, hi4⟩ := hi
    simp only at hi1 hi2 hi3 hi4
    refine kd [] rfl (by simp) ?_
    refine zaa rfl (fun h => ?_) (fun h => ?_)
    · simp at h
      obtain ⟨t, ht⟩ := zah (l := ks) (i := i) (by omega)
      rw [zaj ht] at hi2
      refine kd [] rfl (by simp) ?_
      refine ki rfl (c := zd8 t) (fun _ => ⟨by simp, by simpa using zhz ht, by simp⟩) (by simp) ?_
      refine kg [] rfl (by simp) ?_
      have hw : IntKind.i64.wrap (d - 1) = d - 1 := w64 (by omega) (by omega)
      refine zac rfl (v := .int .i64 (za9 t m (d - 1))) (fun _ => by rw [hw]; exact zx6 t m (d - 1) (by omega) (by omega) (by omega) (by omega)) (by simp) ?_
      refine kg [] rfl (by simp) ?_
      have hb := zhh t m (d - 1)
      exact zad (ih (i + 1, za9 t m (d - 1)) (by simp only; omega) ⟨by simp only; omega, by simp only; rw [hi2]; simp only [zbk]; rw [if_pos h.2], by simp only; omega, by simp only; omega⟩) ⟨za2 (w64 (by omega) (by omega)), rfl, rfl, rfl, trivial⟩ ⟨rfl, trivial⟩ rfl
    · refine kd [] rfl (by simp) ?_
      refine zab ⟨_, rfl, tV (congrArg _ ?_), trivial⟩
      rw [hi2]
      simp at h
      by_cases hlt : i < ks.length
      · obtain ⟨t, ht⟩ := zah hlt
        rw [zaj ht]; simp only [zbk]; rw [if_neg (by omega)]
      · rw [List.drop_eq_nil_of_le (by omega)]; simp [zbk]
termination_by t => SizeOf.sizeOf t
decreasing_by
  have := List.sizeOf_lt_of_mem (List.mem_of_getElem? ht)
  simp_wf
  omega
def zeu (n : Int) (x : Str) (p : Nat) (fn ft fp : Bool) : Bool := (fn || n == 0) && (ft || x == []) && (fp || ((p : Int) == 0))
set_option maxRecDepth 100000 in
theorem za0 (op n : Int) (x : Str) (ks : List Tm) (ps : List Ty) (a b c : Bool) : PureC Tryz.prog 177 [.agg (zd8 (.mk op n x ks ps)), .bool a, .bool b, .bool c] (.bool (zeu n x ps.length a b c)) := by
  refine zae zbd Tryz.func177 (by decide +kernel) rfl [1, 2, 3] rfl rfl ?_
  refine kg [] rfl (by cases a <;> cases b <;> cases c <;> simp) ?_
  refine zab ⟨_, rfl, tV (congrArg _ ?_), trivial⟩
  cases a <;> cases b <;> cases c <;> simp [zeu]
end Go.Hk
namespace Go.Hk
def swp (i j k : Nat) : Nat := bif Nat.beq k i then j else bif Nat.beq k j then i else k
theorem zfq (i j k : Nat) : swp i j (swp i j k) = k := by
  have hb : ∀ a b : Nat, Nat.beq a b = decide (a = b) := fun a b => by
    cases h : Nat.beq a b with
    | true => simp [Nat.eq_of_beq_eq_true h]
    | false =>
      have : a ≠ b := fun e => by subst e; simp at h
      simp [this]
  unfold swp
  simp only [hb]
  by_cases h1 : k = i
  · subst h1
    simp only [decide_true, cond_true]
    by_cases h2 : j = k
    · subst h2; simp
    · simp [h2]
  · by_cases h2 : k = j
    · subst h2; simp [h1]
    · simp [h1, h2]
def ye1 (ρ : Nat → Nat) : St → St
  | [] => []
  | (i, some b) :: r => (ρ i, some (yhd ρ b)) :: ye1 ρ r
  | (i, none) :: r => (ρ i, none) :: ye1 ρ r
theorem zec {i j : Nat} {k : Nat} {b : Blk} : ∀ {st : St}, za3 (ye1 (swp i j) st) k b → ∃ b0, za3 st (swp i j k) b0 ∧ b = yhd (swp i j) b0
  | [], h => by simp [ye1, za3, lk] at h
  | (a, some x) :: r, h => by
    simp only [ye1] at h
    unfold za3 at h ⊢
    by_cases ha : swp i j a = k
    · subst ha
      rw [lk_cons_self] at h
      rw [zfq, lk_cons_self]
      cases h; exact ⟨x, rfl, rfl⟩
    · rw [lk_cons_ne _ _ ha] at h
      rw [lk_cons_ne _ _ (fun e => ha (by rw [e, zfq]))]
      exact zec h
  | (a, none) :: r, h => by
    simp only [ye1] at h
    unfold za3 at h ⊢
    by_cases ha : swp i j a = k
    · subst ha
      rw [lk_cons_self] at h
      cases h
    · rw [lk_cons_ne _ _ ha] at h
      rw [lk_cons_ne _ _ (fun e => ha (by rw [e, zfq]))]
      exact zec h
theorem zc9 {P : Program} {n : Nat} {F : List Nat} {Q : DQ} {env : Env} {st : St} {ids : List Nat} {todo : List DI} (i j : Nat) (hF : (memN F i || memN F j) = false)
    (h : DGo P n F Q todo (yjt (swp i j) env) (ye1 (swp i j) st) (ids.map (swp i j))) : DGo P n F Q todo env st ids := by
  intro b cs I μ a w items hd hc
  have hn : ∀ k g, μ k = some g → (fun k => μ (swp i j k)) (swp i j k) = some g := fun k g hg => by simp only [zfq]; exact hg
  have hE : Ext I μ st w I (fun k => μ (swp i j k)) (ye1 (swp i j) st) w :=
    { imm := Imm.le_refl I, os := rfl, tape := rfl, output := rfl, size := Nat.le_refl _, block := fun _ _ _ => rfl,
          fresh := fun b _ ⟨k, b', g, h1, h2, h3⟩ => let ⟨b0, q, _⟩ := zec h1; ⟨_, b0, g, q, h2, h3⟩, old := fun _ _ _ => rfl }
  have hc' : Conc n I (fun k => μ (swp i j k)) (yjt (swp i j) env) (ye1 (swp i j) st) (ids.map (swp i j)) a w :=
    { imm := hc.imm
      blk := fun k b' hl => by
        obtain ⟨b0, h1, rfl⟩ := zec hl
        obtain ⟨g, hg, hr⟩ := hc.blk _ b0 h1
        exact ⟨g, hg, hr.ren fun x _ g hg => hn x g hg⟩
      apart := fun k b' g m hl hg hk => by
        obtain ⟨b0, h1, rfl⟩ := zec hl
        exact hc.apart _ b0 g m h1 hg hk
      inj := fun k k' bi bj gi gj m hi hj hgi hgj hki hkj => by
        obtain ⟨b1, h1, _⟩ := zec hi
        obtain ⟨b2, h2, _⟩ := zec hj
        have := hc.inj _ _ b1 b2 gi gj m h1 h2 hgi hgj hki hkj
        have e := congrArg (swp i j) this
        rwa [zfq, zfq] at e
      nodup := by
        have := hc.nodup
        rw [List.nodup_iff_pairwise_ne] at this ⊢
        exact List.Pairwise.map _ (fun x y hxy e => hxy (by have e := congrArg (swp i j) e; rwa [zfq, zfq] at e)) this
      idsFree := fun k hk => by
        obtain ⟨x, hx, rfl⟩ := List.mem_map.1 hk
        show μ (swp i j (swp i j x)) = none
        rw [zfq]; exact hc.idsFree x hx
      size := hc.size
      env := fun t d hl => by
        obtain ⟨d0, h1, rfl⟩ := yav hl
        exact (hc.env t d0 h1).ren fun x _ g hg => hn x g hg
      defers := hc.defers.ext hE }
  simp only [Bool.or_eq_false_iff] at hF
  have hfix : ∀ k ∈ F, swp i j k = k := fun k hk => by
    have h1 : Nat.beq k i = false := by
      cases hb : Nat.beq k i with
      | false => rfl
      | true => rw [← Nat.eq_of_beq_eq_true hb, memN_iff.2 hk] at hF; cases hF.1
    have h2 : Nat.beq k j = false := by
      cases hb : Nat.beq k j with
      | false => rfl
      | true => rw [← Nat.eq_of_beq_eq_true hb, memN_iff.2 hk] at hF; cases hF.2
    simp [swp, h1, h2]
  refine (h b cs I _ a w items hd hc').mono fun e a' w' hp => ?_
  refine hp.back (fun k hk g hg => by show μ (swp i j k) = some g; rw [hfix k hk]; exact hg) ?_
  exact hE
end Go.Hk
namespace Go.Hk
open Go.Proofs
mutual
def zaq : Ty → Nat
  | .mk _ _ _ ps => 1 + zaf ps
def zaf : List Ty → Nat
  | [] => 0
  | t :: r => zaq t + zaf r
end
mutual
theorem zcp : ∀ (t : Ty) (l : Int), 0 ≤ zaz t l → zaz t l + zaq t = l
  | .mk _ _ _ ps, l, h => by
    simp only [zaz] at h ⊢
    by_cases h0 : l < 1
    · rw [if_pos h0] at h; omega
    · rw [if_neg h0] at h ⊢
      have := zh3 ps (l - 1) h
      simp only [zaq]; omega
theorem zh3 : ∀ (ts : List Ty) (l : Int), 0 ≤ zbi ts l → zbi ts l + zaf ts = l
  | [], l, h => by simp [zbi, zaf]
  | t :: r, l, h => by
    simp only [zbi] at h ⊢
    by_cases h0 : 0 ≤ l
    · rw [if_pos h0] at h ⊢
      have h1 := zh3 r (zaz t l) h
      have h2 := zig r (zaz t l) (zhg t l).1
      have h3 := zcp t l (by omega)
      simp only [zaf]; omega
    · rw [if_neg h0] at h; omega
end
mutual
def zax : Ty → List Str
  | .mk s _ x ps => if s = 2 then [x] else zam ps
def zam : List Ty → List Str
  | [] => []
  | t :: r => zax t ++ zam r
end
mutual
theorem zkf : ∀ t : Ty, (zax t).length ≤ zaq t
  | .mk s _ x ps => by
    simp only [zax, zaq]
    split
    · simp
    · have := zf2 ps; omega
theorem zf2 : ∀ ts : List Ty, (zam ts).length ≤ zaf ts
  | [] => by simp [zam]
  | t :: r => by
    have h1 := zkf t
    have h2 := zf2 r
    simp only [zam, zaf, List.length_append]; omega
end
theorem zcq (a b : List Ty) : zam (a ++ b) = zam a ++ zam b := by
  induction a with
  | nil => rfl
  | cons t r ih => simp [zam, ih]
theorem zbc (a b : List Ty) : zaf (a ++ b) = zaf a + zaf b := by
  induction a with
  | nil => simp [zaf]
  | cons t r ih => simp [zaf, ih]; omega
theorem zbz {ps : List Ty} {i : Nat} {t : Ty} (h : ps[i]? = some t) : zaf (ps.take i) + zaq t ≤ zaf ps := by
  have e : ps = ps.take i ++ t :: ps.drop (i + 1) := by rw [← zaj h, List.take_append_drop]
  have := congrArg zaf e
  rw [zbc] at this
  simp only [zaf] at this
  omega
theorem zrc (l : List Str) : ∀ c ∈ zgo l, c.length = 1 := by
  intro c hc
  simp only [zgo, List.mem_map] at hc
  obtain ⟨a, _, rfl⟩ := hc
  rfl
set_option maxRecDepth 100000 in
theorem zi3 : ∀ (t : Ty), zaq t ≤ 1000000 → PureC Tryz.prog 20 [.agg (dTyc t)] (.sl (zgo (zax t)))
  | .mk s n x ps, hN => by
    refine zav fun hv => ?_
    simp [zdi, vOk, dTyc, maxLen] at hv
    refine zae zbd Tryz.func20 (by decide +kernel) rfl [1, 2, 3, 4, 5] rfl rfl ?_
    refine kg [] rfl (by simp) ?_
    refine zaa rfl (fun h => ?_) (fun h => ?_)
    · refine kd [] rfl (by simp) ?_
      refine zab ⟨_, rfl, tV (congrArg _ ?_), trivial⟩
      simp at h
      simp [zax, h, zgo]
    simp at h
    have hNp : zaf ps ≤ 1000000 := by simp only [zaq] at hN; omega
    refine kd [] rfl (by simp) ?_
    refine zag (fun y : Nat × Bool × List (List V) => [(4, .imm (.int .i64 y.1)), (3, match y.2.1 with | false => .nils | true => .own 2 y.2.2.length), (1, .ref 1 0)])
      (fun y => match y.2.1 with | false => [(1, some (.immb 50 4 (dTyc (.mk s n x ps))))] | true => [(2, some (.row 9 1 y.2.2)), (1, some (.immb 50 4 (dTyc (.mk s n x ps))))]) [3, 4] (fun y => ps.length - y.1)
      (fun y => y.1 ≤ ps.length ∧ zgo (zam (ps.take y.1)) = y.2.2 ∧ (y.2.1 = false → y.2.2 = [])) (0, false, []) ⟨Nat.zero_le _, rfl, fun _ => rfl⟩ ⟨rfl, rfl, rfl, trivial⟩ ⟨rfl, trivial⟩ rfl fun y hi ih => ?_
    obtain ⟨i, b, es⟩ := y
    obtain ⟨hi1, hi2, hi3⟩ := hi
    simp only at hi1 hi2 hi3
    cases b with
    | false =>
      have hi3 := hi3 rfl
      subst hi3
      refine kd [] rfl (by simp) ?_
      refine zaa rfl (fun h => ?_) (fun h => ?_)
      · simp at h
        obtain ⟨t, ht⟩ := zah h
        have hnt := zbz ht
        have hlt := zkf t
        have hl2 := zf2 (ps.take i)
        have hlen := congrArg List.length hi2
        simp at hlen
        refine kd [] rfl (by simp) ?_
        refine ki rfl (c := dTyc t) (fun _ => ⟨by simp, by simpa using zan ht, by simp⟩) (by simp) ?_
        refine kg [] rfl (by simp) ?_
        refine zac rfl (fun _ => zi3 t (by omega)) (by simp) ?_
        refine kg [] rfl (by simp) ?_
        refine zc7 zbd rfl ⟨zrc _, by simp [maxLen]; omega, by simp; omega, trivial⟩ ?_
        refine kg [] rfl (by simp) ?_
        refine zc9 2 3 rfl ?_
        exact zad (ih (i + 1, true, [] ++ zgo (zax t)) (by simp only; omega) ⟨by simp only; omega, by simp only; rw [zbe ht, zcq, zc4, hi2]; simp [zam], fun h => by cases h⟩) ⟨za2 (w64 (by simp only; omega) (by simp only; omega)), rfl, rfl, trivial⟩ ⟨rfl, rfl, trivial⟩ rfl
      · refine kd [] rfl (by simp) ?_
        refine zab ⟨_, rfl, ?_, trivial⟩
        simp at h
        rw [List.take_of_length_le (by omega)] at hi2
        simp only [zax]
        rw [if_neg (by assumption), hi2]
        rfl
    | true =>
      refine kd [] rfl (by simp) ?_
      refine zaa rfl (fun h => ?_) (fun h => ?_)
      · simp at h
        obtain ⟨t, ht⟩ := zah h
        have hnt := zbz ht
        have hlt := zkf t
        have hl2 := zf2 (ps.take i)
        have hlen := congrArg List.length hi2
        simp at hlen
        refine kd [] rfl (by simp) ?_
        refine ki rfl (c := dTyc t) (fun _ => ⟨by simp, by simpa using zan ht, by simp⟩) (by simp) ?_
        refine kg [] rfl (by simp) ?_
        refine zac rfl (fun _ => zi3 t (by omega)) (by simp) ?_
        refine kg [] rfl (by simp) ?_
        refine zc7 zbd rfl ⟨zrc _, by simp [maxLen]; omega, by simp; omega, trivial⟩ ?_
        refine kg [] rfl (by simp) ?_
        refine zc9 2 3 rfl ?_
        exact zad (ih (i + 1, true, es ++ zgo (zax t)) (by simp only; omega) ⟨by simp only; omega, by simp only; rw [zbe ht, zcq, zc4, hi2]; simp [zam], fun h => by cases h⟩) ⟨za2 (w64 (by simp only; omega) (by simp only; omega)), rfl, rfl, trivial⟩ ⟨rfl, rfl, trivial⟩ rfl
      · refine zd7 2 rfl ?_
        refine kd [] rfl (by simp) ?_
        refine zab ⟨_, rfl, ?_, trivial⟩
        simp at h
        rw [List.take_of_length_le (by omega)] at hi2
        simp only [zax]
        rw [if_neg (by assumption), hi2]
        rfl
termination_by t => SizeOf.sizeOf t
decreasing_by
  all_goals
    have := List.sizeOf_lt_of_mem (List.mem_of_getElem? ht)
    simp_wf
    omega
def zas (pre : List Str) : List Str → Bool
  | [] => true
  | x :: r => !zlp pre x && zas (pre ++ [x]) r
def za8 (l : List Str) : Bool := zas [] l
theorem ydd (l : List Str) (n : Nat) : (zgo l).take n = zgo (l.take n) := by simp [zgo, List.map_take]
set_option maxRecDepth 100000 in
theorem zoi (l : List Str) : PureC Tryz.prog 83 [.sl (zgo l)] (.bool (za8 l)) := by
  refine zav fun hv => ?_
  simp [zdi, vOk, maxLen] at hv
  refine zae zbd Tryz.func83 (by decide +kernel) rfl [1, 2] rfl rfl ?_
  refine kg [] rfl (by simp) ?_
  refine zag (fun i : Nat => [(3, .imm (.int .i64 i)), (0, .imm (.sl (zgo l)))]) (fun _ => []) [1] (fun i => l.length - i) (fun i => i ≤ l.length ∧ za8 l = zas (l.take i) (l.drop i)) 0
    ⟨Nat.zero_le _, rfl⟩ ⟨rfl, rfl, trivial⟩ trivial rfl fun i hi ih => ?_
  refine kd [] rfl (by simp) ?_
  refine zaa rfl (fun h => ?_) (fun h => ?_)
  · simp at h
    obtain ⟨t, ht⟩ := zah h
    have e := hi.2
    rw [zaj ht] at e
    refine kd [] rfl (by simp; exact ⟨by omega, zrc l⟩) ?_
    refine ki rfl (c := [.str t]) (fun _ => ⟨by simp, by simpa using zxs ht, rfl⟩) (by simp) ?_
    refine kg [] rfl (by simp) ?_
    refine zac rfl (v := .bool (zlp (l.take i) t)) (fun _ => ?_) (by simp) ?_
    · have := yh3 (l.take i) t
      rw [← ydd] at this
      exact this
    refine kg [] rfl (by first | exact ⟨by kernel_rfl, trivial⟩ | simp) ?_
    refine zaa rfl (fun h => ?_) (fun h => ?_)
    · refine kd [] rfl (by simp) ?_
      refine zab ⟨_, rfl, tV (congrArg _ ?_), trivial⟩
      rw [e]; simp [zas, h]
    · refine kd [] rfl (by simp) ?_
      exact zad (ih (i + 1) (by omega) ⟨by omega, by rw [e, zbe ht]; simp [zas, h]⟩) ⟨za2 (w64 (by omega) (by omega)), rfl, trivial⟩ trivial rfl
  · refine kd [] rfl (by simp) ?_
    refine zab ⟨_, rfl, tV (congrArg _ ?_), trivial⟩
    simp at h
    rw [hi.2, List.drop_eq_nil_of_le (by omega)]; rfl
def zev (t : Ty) : Bool := decide (0 ≤ zaz t 12) && zc1 t && za8 (zax t)
set_option maxRecDepth 100000 in
theorem yh2 (t : Ty) : PureC Tryz.prog 60 [.agg (dTyc t)] (.bool (zev t)) := by
  refine zae zbd Tryz.func60 (by decide +kernel) rfl [1, 2, 3] rfl rfl ?_
  refine kg [] rfl (by simp) ?_
  refine zac rfl (fun _ => zi2 t 12 (by decide) (by decide)) (by simp) ?_
  refine kg [] rfl (by simp) ?_
  refine zac rfl (fun _ => ya9 t) (by simp [zal]) ?_
  refine kg [] rfl (by simp) ?_
  refine zac rfl (v := .sl (zgo (zax t))) (fun hc => zi3 t ?_) (by simp [zal]) ?_
  · simp [zal] at hc
    have := zcp t 12 hc.1
    omega
  refine kg [] rfl (by simp) ?_
  refine zac rfl (fun _ => zoi (zax t)) (by simp [zal]) ?_
  refine kg [] rfl (by simp) ?_
  refine zab ⟨_, rfl, tV (congrArg _ ?_), trivial⟩
  simp [zev]
def zcj (op n : Int) (x : Str) (k p : Nat) : Bool :=
  if op = 1 then ((k : Int) == 0) && zeu n x p true false false && inI n (-1000000000) 1000000000
  else if op = 2 then ((k : Int) == 0) && zeu n x p true false false && inI n 0 1
  else if op = 3 ∨ op = 21 ∨ op = 25 ∨ op = 28 then ((k : Int) == 0) && zeu n x p false false false
  else if op = 4 then ((k : Int) == 0) && zeu n x p false true false && zfg x
  else if op = 5 ∨ op = 27 then ((k : Int) == 1) && zeu n x p false true false && zfg x
  else if op = 7 then ((k : Int) == 2) && zeu n x p false true false && zfg x
  else if op = 8 then ((k : Int) == 3) && zeu n x p false false false
  else if op = 14 then decide ((k : Int) ≤ 3) && zeu n x p false true false && zct x
  else if op = 15 then inI p 1 5 && ((k : Int) == 1 + (p : Int)) && zeu n x p false false true
  else if op = 16 ∨ op = 17 ∨ op = 19 ∨ op = 20 ∨ op = 23 ∨ op = 26 then ((k : Int) == 1) && zeu n x p false false false
  else if op = 24 then ((k : Int) == 1) && zeu n x p true false false && inI n 0 3
  else if op = 6 ∨ op = 9 ∨ op = 10 ∨ op = 11 ∨ op = 12 ∨ op = 13 ∨ op = 18 ∨ op = 22 then ((k : Int) == 2) && zeu n x p false false false
  else false
set_option maxRecDepth 100000 in
set_option maxHeartbeats 1000000 in
theorem yik (op n : Int) (x : Str) (ks : List Tm) (ps : List Ty) : PureC Tryz.prog 165 [.agg (zd8 (.mk op n x ks ps))] (.bool (zcj op n x ks.length ps.length)) := by
  refine zav fun hv => ?_
  simp [zdi, vOk, zd8, maxLen] at hv
  refine zae zbd Tryz.func165 (by decide +kernel) rfl [1, 2, 3] rfl rfl ?_
  by_cases h1 : op = 1
  · subst h1
    refine kg [.a] rfl (by simp) ?_
    refine zac rfl (fun _ => za0 1 n x ks ps true false false) (by simp [zal]) ?_
    refine kg [] rfl (by simp) ?_
    refine zac rfl (fun _ => zqy n (-1000000000) 1000000000) (by simp [zal]) ?_
    refine kg [] rfl (by simp) ?_
    exact zab ⟨_, rfl, tV (congrArg _ (by simp [zcj])), trivial⟩
  by_cases h2 : op = 2
  · subst h2
    refine kg [.a, .a] rfl (by simp) ?_
    refine zac rfl (fun _ => za0 2 n x ks ps true false false) (by simp [zal]) ?_
    refine kg [] rfl (by simp) ?_
    refine zac rfl (fun _ => zqy n 0 1) (by simp [zal]) ?_
    refine kg [] rfl (by simp) ?_
    exact zab ⟨_, rfl, tV (congrArg _ (by simp [zcj])), trivial⟩
  by_cases h3 : op = 3
  · subst h3
    refine kg [.a, .a, .a, .a] rfl (by simp) ?_
    refine zac rfl (fun _ => za0 3 n x ks ps false false false) (by simp [zal]) ?_
    refine kg [] rfl (by simp) ?_
    exact zab ⟨_, rfl, tV (congrArg _ (by simp [zcj])), trivial⟩
  by_cases h21 : op = 21
  · subst h21
    refine kg [.a, .a, .a, .a, .a] rfl (by simp) ?_
    refine zac rfl (fun _ => za0 21 n x ks ps false false false) (by simp [zal]) ?_
    refine kg [] rfl (by simp) ?_
    exact zab ⟨_, rfl, tV (congrArg _ (by simp [zcj])), trivial⟩
  by_cases h25 : op = 25
  · subst h25
    refine kg [.a, .a, .a, .a, .a, .a] rfl (by simp) ?_
    refine zac rfl (fun _ => za0 25 n x ks ps false false false) (by simp [zal]) ?_
    refine kg [] rfl (by simp) ?_
    exact zab ⟨_, rfl, tV (congrArg _ (by simp [zcj])), trivial⟩
  by_cases h28 : op = 28
  · subst h28
    refine kg [.a, .a, .a, .a, .a, .a] rfl (by simp) ?_
    refine zac rfl (fun _ => za0 28 n x ks ps false false false) (by simp [zal]) ?_
    refine kg [] rfl (by simp) ?_
    exact zab ⟨_, rfl, tV (congrArg _ (by simp [zcj])), trivial⟩
  by_cases h4 : op = 4
  · subst h4
    refine kg [.a, .a, .a, .a, .a, .a, .a] rfl (by simp) ?_
    refine zac rfl (fun _ => za0 4 n x ks ps false true false) (by simp [zal]) ?_
    refine kg [] rfl (by simp) ?_
    refine zac rfl (fun _ => zhe x) (by simp [zal]) ?_
    refine kg [] rfl (by simp) ?_
    exact zab ⟨_, rfl, tV (congrArg _ (by simp [zcj])), trivial⟩
  by_cases h5 : op = 5
  · subst h5
    refine kg [.a, .a, .a, .a, .a, .a, .a, .a, .a] rfl (by simp) ?_
    refine zac rfl (fun _ => za0 5 n x ks ps false true false) (by simp [zal]) ?_
    refine kg [] rfl (by simp) ?_
    refine zac rfl (fun _ => zhe x) (by simp [zal]) ?_
    refine kg [] rfl (by simp) ?_
    exact zab ⟨_, rfl, tV (congrArg _ (by simp [zcj])), trivial⟩
  by_cases h27 : op = 27
  · subst h27
    refine kg [.a, .a, .a, .a, .a, .a, .a, .a, .a] rfl (by simp) ?_
    refine zac rfl (fun _ => za0 27 n x ks ps false true false) (by simp [zal]) ?_
    refine kg [] rfl (by simp) ?_
    refine zac rfl (fun _ => zhe x) (by simp [zal]) ?_
    refine kg [] rfl (by simp) ?_
    exact zab ⟨_, rfl, tV (congrArg _ (by simp [zcj])), trivial⟩
  by_cases h7 : op = 7
  · subst h7
    refine kg [.a, .a, .a, .a, .a, .a, .a, .a, .a, .a] rfl (by simp) ?_
    refine zac rfl (fun _ => za0 7 n x ks ps false true false) (by simp [zal]) ?_
    refine kg [] rfl (by simp) ?_
    refine zac rfl (fun _ => zhe x) (by simp [zal]) ?_
    refine kg [] rfl (by simp) ?_
    exact zab ⟨_, rfl, tV (congrArg _ (by simp [zcj])), trivial⟩
  by_cases h8 : op = 8
  · subst h8
    refine kg [.a, .a, .a, .a, .a, .a, .a, .a, .a, .a, .a] rfl (by simp) ?_
    refine zac rfl (fun _ => za0 8 n x ks ps false false false) (by simp [zal]) ?_
    refine kg [] rfl (by simp) ?_
    exact zab ⟨_, rfl, tV (congrArg _ (by simp [zcj])), trivial⟩
  by_cases h14 : op = 14
  · subst h14
    refine kg [.a, .a, .a, .a, .a, .a, .a, .a, .a, .a, .a, .a] rfl (by simp) ?_
    refine zac rfl (fun _ => za0 14 n x ks ps false true false) (by simp [zal]) ?_
    refine kg [] rfl (by simp) ?_
    refine zac rfl (fun _ => zh0 x) (by simp [zal]) ?_
    refine kg [] rfl (by simp) ?_
    exact zab ⟨_, rfl, tV (congrArg _ (by simp [zcj])), trivial⟩
  by_cases h15 : op = 15
  · subst h15
    refine kg [.a, .a, .a, .a, .a, .a, .a, .a, .a, .a, .a, .a, .a] rfl (by simp) ?_
    refine zac rfl (v := .bool (inI ps.length 1 5)) (fun _ => by have := zqy ps.length 1 5; simpa using this) (by simp [zal]) ?_
    refine kg [] rfl (by simp) ?_
    refine zac rfl (fun _ => za0 15 n x ks ps false false true) (by simp [zal]) ?_
    refine kg [] rfl (by simp) ?_
    have hw : IntKind.i64.wrap (1 + (ps.length : Int)) = 1 + ps.length ∨ inI ps.length 1 5 = false := by
      by_cases hp : ps.length ≤ 5
      · exact .inl (w64 (by omega) (by omega))
      · exact .inr (by simp [inI]; omega)
    refine zab ⟨_, rfl, tV (congrArg _ ?_), trivial⟩
    rcases hw with hw | hw <;> simp [zcj, hw]
  by_cases h16 : op = 16
  · subst h16
    refine kg [.a, .a, .a, .a, .a, .a, .a, .a, .a, .a, .a, .a, .a, .a, .a] rfl (by simp) ?_
    refine zac rfl (fun _ => za0 16 n x ks ps false false false) (by simp [zal]) ?_
    refine kg [] rfl (by simp) ?_
    exact zab ⟨_, rfl, tV (congrArg _ (by simp [zcj])), trivial⟩
  by_cases h17 : op = 17
  · subst h17
    refine kg [.a, .a, .a, .a, .a, .a, .a, .a, .a, .a, .a, .a, .a, .a, .a, .a] rfl (by simp) ?_
    refine zac rfl (fun _ => za0 17 n x ks ps false false false) (by simp [zal]) ?_
    refine kg [] rfl (by simp) ?_
    exact zab ⟨_, rfl, tV (congrArg _ (by simp [zcj])), trivial⟩
  by_cases h19 : op = 19
  · subst h19
    refine kg [.a, .a, .a, .a, .a, .a, .a, .a, .a, .a, .a, .a, .a, .a, .a, .a, .a] rfl (by simp) ?_
    refine zac rfl (fun _ => za0 19 n x ks ps false false false) (by simp [zal]) ?_
    refine kg [] rfl (by simp) ?_
    exact zab ⟨_, rfl, tV (congrArg _ (by simp [zcj])), trivial⟩
  by_cases h20 : op = 20
  · subst h20
    refine kg [.a, .a, .a, .a, .a, .a, .a, .a, .a, .a, .a, .a, .a, .a, .a, .a, .a, .a] rfl (by simp) ?_
    refine zac rfl (fun _ => za0 20 n x ks ps false false false) (by simp [zal]) ?_
    refine kg [] rfl (by simp) ?_
    exact zab ⟨_, rfl, tV (congrArg _ (by simp [zcj])), trivial⟩
  by_cases h23 : op = 23
  · subst h23
    refine kg [.a, .a, .a, .a, .a, .a, .a, .a, .a, .a, .a, .a, .a, .a, .a, .a, .a, .a, .a] rfl (by simp) ?_
    refine zac rfl (fun _ => za0 23 n x ks ps false false false) (by simp [zal]) ?_
    refine kg [] rfl (by simp) ?_
    exact zab ⟨_, rfl, tV (congrArg _ (by simp [zcj])), trivial⟩
  by_cases h26 : op = 26
  · subst h26
    refine kg [.a, .a, .a, .a, .a, .a, .a, .a, .a, .a, .a, .a, .a, .a, .a, .a, .a, .a, .a] rfl (by simp) ?_
    refine zac rfl (fun _ => za0 26 n x ks ps false false false) (by simp [zal]) ?_
    refine kg [] rfl (by simp) ?_
    exact zab ⟨_, rfl, tV (congrArg _ (by simp [zcj])), trivial⟩
  by_cases h24 : op = 24
  · subst h24
    refine kg [.a, .a, .a, .a, .a, .a, .a, .a, .a, .a, .a, .a, .a, .a, .a, .a, .a, .a, .a, .a] rfl (by simp) ?_
    refine zac rfl (fun _ => za0 24 n x ks ps true false false) (by simp [zal]) ?_
    refine kg [] rfl (by simp) ?_
    refine zac rfl (fun _ => zqy n 0 3) (by simp [zal]) ?_
    refine kg [] rfl (by simp) ?_
    exact zab ⟨_, rfl, tV (congrArg _ (by simp [zcj])), trivial⟩
  by_cases h6 : op = 6
  · subst h6
    refine kg [.a, .a, .a, .a, .a, .a, .a, .a, .a, .a, .a, .a, .a, .a, .a, .a, .a, .a, .a, .a, .a, .a] rfl (by simp) ?_
    refine zac rfl (fun _ => za0 6 n x ks ps false false false) (by simp [zal]) ?_
    refine kg [] rfl (by simp) ?_
    exact zab ⟨_, rfl, tV (congrArg _ (by simp [zcj])), trivial⟩
  by_cases h9 : op = 9
  · subst h9
    refine kg [.a, .a, .a, .a, .a, .a, .a, .a, .a, .a, .a, .a, .a, .a, .a, .a, .a, .a, .a, .a, .a, .a, .a] rfl (by simp) ?_
    refine zac rfl (fun _ => za0 9 n x ks ps false false false) (by simp [zal]) ?_
    refine kg [] rfl (by simp) ?_
    exact zab ⟨_, rfl, tV (congrArg _ (by simp [zcj])), trivial⟩
  by_cases h10 : op = 10
  · subst h10
    refine kg [.a, .a, .a, .a, .a, .a, .a, .a, .a, .a, .a, .a, .a, .a, .a, .a, .a, .a, .a, .a, .a, .a, .a, .a] rfl (by simp) ?_
    refine zac rfl (fun _ => za0 10 n x ks ps false false false) (by simp [zal]) ?_
    refine kg [] rfl (by simp) ?_
    exact zab ⟨_, rfl, tV (congrArg _ (by simp [zcj])), trivial⟩
  by_cases h11 : op = 11
  · subst h11
    refine kg [.a, .a, .a, .a, .a, .a, .a, .a, .a, .a, .a, .a, .a, .a, .a, .a, .a, .a, .a, .a, .a, .a, .a, .a, .a] rfl (by simp) ?_
    refine zac rfl (fun _ => za0 11 n x ks ps false false false) (by simp [zal]) ?_
    refine kg [] rfl (by simp) ?_
    exact zab ⟨_, rfl, tV (congrArg _ (by simp [zcj])), trivial⟩
  by_cases h12 : op = 12
  · subst h12
    refine kg [.a, .a, .a, .a, .a, .a, .a, .a, .a, .a, .a, .a, .a, .a, .a, .a, .a, .a, .a, .a, .a, .a, .a, .a, .a, .a] rfl (by simp) ?_
    refine zac rfl (fun _ => za0 12 n x ks ps false false false) (by simp [zal]) ?_
    refine kg [] rfl (by simp) ?_
    exact zab ⟨_, rfl, tV (congrArg _ (by simp [zcj])), trivial⟩
  by_cases h13 : op = 13
  · subst h13
    refine kg [.a, .a, .a, .a, .a, .a, .a, .a, .a, .a, .a, .a, .a, .a, .a, .a, .a, .a, .a, .a, .a, .a, .a, .a, .a, .a, .a] rfl (by simp) ?_
    refine zac rfl (fun _ => za0 13 n x ks ps false false false) (by simp [zal]) ?_
    refine kg [] rfl (by simp) ?_
    exact zab ⟨_, rfl, tV (congrArg _ (by simp [zcj])), trivial⟩
  by_cases h18 : op = 18
  · subst h18
    refine kg [.a, .a, .a, .a, .a, .a, .a, .a, .a, .a, .a, .a, .a, .a, .a, .a, .a, .a, .a, .a, .a, .a, .a, .a, .a, .a, .a, .a] rfl (by simp) ?_
    refine zac rfl (fun _ => za0 18 n x ks ps false false false) (by simp [zal]) ?_
    refine kg [] rfl (by simp) ?_
    exact zab ⟨_, rfl, tV (congrArg _ (by simp [zcj])), trivial⟩
  by_cases h22 : op = 22
  · subst h22
    refine kg [.a, .a, .a, .a, .a, .a, .a, .a, .a, .a, .a, .a, .a, .a, .a, .a, .a, .a, .a, .a, .a, .a, .a, .a, .a, .a, .a, .a] rfl (by simp) ?_
    refine zac rfl (fun _ => za0 22 n x ks ps false false false) (by simp [zal]) ?_
    refine kg [] rfl (by simp) ?_
    exact zab ⟨_, rfl, tV (congrArg _ (by simp [zcj])), trivial⟩
  refine kg [.f, .f, .f, .f, .f, .f, .f, .f, .f, .f, .f, .f, .f, .f, .f, .f, .f, .f, .f, .f, .f, .f, .f, .f, .f, .f, .f, .f] rfl (by simp [h1, h2, h3, h21, h25, h28, h4, h5, h27, h7, h8, h14, h15, h16, h17, h19, h20, h23, h26, h24, h6, h9, h10, h11, h12, h13, h18, h22]) ?_
  exact zab ⟨_, rfl, tV (congrArg _ (by simp [zcj, h1, h2, h3, h21, h25, h28, h4, h5, h27, h7, h8, h14, h15, h16, h17, h19, h20, h23, h26, h24, h6, h9, h10, h11, h12, h13, h18, h22])), trivial⟩
mutual
def zin : Tm → Bool
  | .mk op n x ks ps => zcj op n x ks.length ps.length && ps.all zev && zdu ks
def zdu : List Tm → Bool
  | [] => true
  | t :: r => zin t && zdu r
end
set_option maxRecDepth 100000 in
theorem zww : ∀ (t : Tm), PureC Tryz.prog 145 [.agg (zd8 t)] (.bool (zin t))
  | .mk op n x ks ps => by
    refine zav fun hv => ?_
    simp [zdi, vOk, zd8, maxLen] at hv
    refine zae zbd Tryz.func145 (by decide +kernel) rfl [1, 2, 3] rfl rfl ?_
    refine kg [] rfl (by simp) ?_
    refine zac rfl (fun _ => yik op n x ks ps) (by simp) ?_
    refine kg [] rfl (by simp) ?_
    refine zaa rfl (fun h => ?_) (fun h => ?_)
    · refine kd [] rfl (by simp) ?_
      refine zab ⟨_, rfl, tV (congrArg _ ?_), trivial⟩
      simp at h
      simp [zin, h]
    simp at h
    have hx : zcj op n x ks.length ps.length = true := h
    clear h
    refine kd [] rfl (by simp) ?_
    refine zag (fun i : Nat => [(3, .imm (.int .i64 i)), (1, .ref 1 0)]) (fun _ => [(1, some (.immb 141 5 (zd8 (.mk op n x ks ps))))]) [2, 3] (fun i => ps.length - i)
      (fun i => i ≤ ps.length ∧ (List.all · zev) ps = (List.all · zev) (ps.drop i)) 0 ⟨Nat.zero_le _, rfl⟩ ⟨rfl, rfl, trivial⟩ ⟨rfl, trivial⟩ rfl fun i hi ih => ?_
    refine kd [] rfl (by simp) ?_
    refine zaa rfl (fun h => ?_) (fun h => ?_)
    · simp at h
      obtain ⟨t, ht⟩ := zah h
      have e := hi.2
      rw [zaj ht] at e
      refine kd [] rfl (by simp) ?_
      refine ki rfl (c := dTyc t) (fun _ => ⟨by simp, by simpa using zan ht, by simp⟩) (by simp) ?_
      refine kg [] rfl (by simp) ?_
      refine zac rfl (fun _ => yh2 t) (by simp) ?_
      refine kg [] rfl (by simp) ?_
      refine zaa rfl (fun h => ?_) (fun h => ?_)
      · refine kd [] rfl (by simp) ?_
        refine zab ⟨_, rfl, tV (congrArg _ ?_), trivial⟩
        simp at h
        simp [zin, hx, e, zdu, List.all_cons, h]
      · refine kd [] rfl (by simp) ?_
        simp at h
        exact zad (ih (i + 1) (by omega) ⟨by omega, by rw [e]; simp [zdu, List.all_cons, h]⟩) ⟨za2 (w64 (by omega) (by omega)), rfl, trivial⟩ ⟨rfl, trivial⟩ rfl
    simp at h
    have hps : (List.all · zev) ps = true := by rw [hi.2, List.drop_eq_nil_of_le (by omega)]; rfl
    clear ih hi h
    refine kd [] rfl (by simp) ?_
    refine zag (fun i : Nat => [(4, .imm (.int .i64 i)), (1, .ref 1 0)]) (fun _ => [(1, some (.immb 141 5 (zd8 (.mk op n x ks ps))))]) [2, 3] (fun i => ks.length - i)
      (fun i => i ≤ ks.length ∧ zdu ks = zdu (ks.drop i)) 0 ⟨Nat.zero_le _, rfl⟩ ⟨rfl, rfl, trivial⟩ ⟨rfl, trivial⟩ rfl fun i hi ih => ?_
    refine kd [] rfl (by simp) ?_
    refine zaa rfl (fun h => ?_) (fun h => ?_)
    · simp at h
      obtain ⟨t, ht⟩ := zah h
      have e := hi.2
      rw [zaj ht] at e
      refine kd [] rfl (by simp) ?_
      refine ki rfl (c := zd8 t) (fun _ => ⟨by simp, by simpa using zhz ht, by simp⟩) (by simp) ?_
      refine kg [] rfl (by simp) ?_
      refine zac rfl (fun _ => zww t) (by simp) ?_
      refine kg [] rfl (by simp) ?_
      refine zaa rfl (fun h => ?_) (fun h => ?_)
      · refine kd [] rfl (by simp) ?_
        refine zab ⟨_, rfl, tV (congrArg _ ?_), trivial⟩
        simp at h
        simp [zin, hx, e, zdu, List.all_cons, h]
      · refine kd [] rfl (by simp) ?_
        simp at h
        exact zad (ih (i + 1) (by omega) ⟨by omega, by rw [e]; simp [zdu, List.all_cons, h]⟩) ⟨za2 (w64 (by omega) (by omega)), rfl, trivial⟩ ⟨rfl, trivial⟩ rfl
    simp at h
    have hks : zdu ks = true := by rw [hi.2, List.drop_eq_nil_of_le (by omega)]; rfl
    clear ih hi h
    refine kd [] rfl (by simp) ?_
    refine zab ⟨_, rfl, tV (congrArg _ ?_), trivial⟩
    simp only [zin]
    have hps : ps.all zev = true := hps
    rw [hps, hks]
    simp [hx]
termination_by t => SizeOf.sizeOf t
decreasing_by
  have := List.sizeOf_lt_of_mem (List.mem_of_getElem? ht)
  simp_wf
  omega
def yh8 (t : Tm) : Bool := decide (0 ≤ za9 t 60 14) && zin t
set_option maxRecDepth 100000 in
theorem yjn (t : Tm) : PureC Tryz.prog 114 [.agg (zd8 t)] (.bool (yh8 t)) := by
  refine zae zbd Tryz.func114 (by decide +kernel) rfl [1, 2, 3] rfl rfl ?_
  refine kg [] rfl (by simp) ?_
  refine zac rfl (fun _ => zx6 t 60 14 (by decide) (by decide) (by decide) (by decide)) (by simp) ?_
  refine kg [] rfl (by simp) ?_
  refine zac rfl (fun _ => zww t) (by simp [zal]) ?_
  refine kg [] rfl (by simp) ?_
  refine zab ⟨_, rfl, tV (congrArg _ ?_), trivial⟩
  simp [yh8]
def ttV : TT := ttK ++ [
  (33, ⟨.struct [(0, 30), (1, 3), (2, 9), (3, 31)], true, 4, 56, [.imm (.int .i64 0), .imm (.int .i64 0), .imm (.str []), .nils]⟩),
  (30, ⟨.int .i64, false, 1, 8, [.imm (.int .i64 0)]⟩),
  (31, ⟨.sl 33, false, 1, 24, [.nils]⟩)]
theorem zgq : TTok Tryz.prog ttV := .of_eq (l := [4, 3, 9, 141, 26, 50, 138, 27, 5, 24, 23, 57, 139, 48, 143, 147, 75, 22, 145, 72, 70, 38, 33, 30, 31]) (by kernel_rfl)
section
variable {n : Nat} {F : List Nat} {Q : DQ} {env env' : Env} {st st' : St} {ids ids' : List Nat} {k todo : List DI} {ob : List Prop}
theorem vd (path : List Pt) (h : run ttV n 300 path todo env st ids [] = .at k env' st' ids' ob) (hob : zbh ob) (hd : G Tryz.prog n F Q k env' st' ids') : DGo Tryz.prog n F Q todo env st ids := ztn zgq mixed 300 path h hob hd
theorem vg (path : List Pt) (h : run ttV n 300 path todo env st ids [] = .at k env' st' ids' ob) (hob : zbh ob) (hd : G Tryz.prog n F Q k env' st' ids') : G Tryz.prog n F Q todo env st ids := zq2 zgq mixed 300 path h hob hd
theorem vi {es : List (List V)} {m : Int} {sz : Nat} {e : TypeId} {g : Option (Bool × Bool)} {ob : List Prop} {t : Nat} {todo' : List DI} {c : List V} (h : yd5 ttV n env todo = some ⟨es, m, sz, e, g, ob, some t, todo'⟩)
    (hc : zal g → 0 ≤ m ∧ es[m.toNat]? = some c ∧ c.length = sz) (hob : zbh ob) (hk : G Tryz.prog n F Q todo' ((t, gD g (.ip e c 0)) :: env) st ids) : G Tryz.prog n F Q todo env st ids := zg9 zgq h hc hob hk
end
mutual
def zb9 : Ty → Int → Int → Int
  | .mk _ _ _ ps, l, d => if l < 1 ∨ d < 1 then -1 else zco ps (l - 1) (d - 1)
def zco : List Ty → Int → Int → Int
  | [], l, _ => l
  | t :: r, l, d => if 0 ≤ l then zco r (zb9 t l d) d else l
end
mutual
theorem zmc : ∀ (t : Ty) (l d : Int), -1 ≤ zb9 t l d ∧ (0 ≤ l → zb9 t l d < l)
  | .mk _ _ _ ps, l, d => by
    simp only [zb9]
    split
    · omega
    · have := zow ps (l - 1) (d - 1) (by omega)
      omega
theorem zow : ∀ (ps : List Ty) (l d : Int), -1 ≤ l → -1 ≤ zco ps l d ∧ zco ps l d ≤ l
  | [], l, d, h => by simp [zco, h]
  | t :: r, l, d, h => by
    simp only [zco]
    by_cases h0 : 0 ≤ l
    · rw [if_pos h0]
      have h1 := zmc t l d
      have h2 := zow r (zb9 t l d) d h1.1
      omega
    · rw [if_neg h0]; omega
end
set_option maxRecDepth 100000 in
theorem zoh : ∀ (t : Ty) (l d : Int), -9223372036854775808 ≤ l → l ≤ 9223372036854775807 → -9223372036854775807 ≤ d → d ≤ 9223372036854775807 → PureC Tryz.prog 32 [.agg (dTyc t), .int .i64 l, .int .i64 d] (.int .i64 (zb9 t l d))
  | .mk op n x ks, l, d, hl0, hl1, hd0, hd1 => by
    refine zav fun hv => ?_
    simp [zdi, vOk, dTyc, maxLen] at hv
    refine zae zgq Tryz.func32 (by decide +kernel) rfl [1, 2, 3] rfl rfl ?_
    refine vg [] rfl (by simp) ?_
    refine zaa rfl (fun h => ?_) (fun h => ?_)
    · refine vd [] rfl (by simp) ?_
      refine zab ⟨_, rfl, tV (congrArg _ ?_), trivial⟩
      simp at h
      simp only [zb9]; rw [if_pos (by omega)]
    simp at h
    refine vd [] rfl (by simp) ?_
    refine zag (fun x : Nat × Int => [(7, .imm (.int .i64 x.1)), (1, .imm (.int .i64 x.2)), (2, .imm (.int .i64 d)), (3, .ref 1 0)]) (fun _ => [(1, some (.immb 33 4 (dTyc (.mk op n x ks))))]) [2, 3] (fun x => ks.length - x.1)
      (fun y => y.1 ≤ ks.length ∧ zb9 (.mk op n x ks) l d = zco (ks.drop y.1) y.2 (d - 1) ∧ -1 ≤ y.2 ∧ y.2 < l) (0, l - 1)
      ⟨Nat.zero_le _, by simp only [zb9, List.drop_zero]; rw [if_neg (by omega)], by simp only; omega, by simp only; omega⟩ ⟨rfl, za2 (w64 (by omega) (by omega)), rfl, rfl, trivial⟩ ⟨rfl, trivial⟩ rfl fun y hi ih => ?_
    obtain ⟨i, m⟩ := y
    obtain ⟨hi1, hi2, hi3, hi4⟩ := hi
    simp only at hi1 hi2 hi3 hi4
    refine vd [] rfl (by simp) ?_
    refine zaa rfl (fun h => ?_) (fun h => ?_)
    · simp at h
      obtain ⟨t, ht⟩ := zah (l := ks) (i := i) (by omega)
      rw [zaj ht] at hi2
      refine vd [] rfl (by simp) ?_
      refine vi rfl (c := dTyc t) (fun _ => ⟨by simp, by simpa using zan ht, by simp⟩) (by simp) ?_
      refine vg [] rfl (by simp) ?_
      have hw : IntKind.i64.wrap (d - 1) = d - 1 := w64 (by omega) (by omega)
      refine zac rfl (v := .int .i64 (zb9 t m (d - 1))) (fun _ => by rw [hw]; exact zoh t m (d - 1) (by omega) (by omega) (by omega) (by omega)) (by simp) ?_
      refine vg [] rfl (by simp) ?_
      have hb := zmc t m (d - 1)
      exact zad (ih (i + 1, zb9 t m (d - 1)) (by simp only; omega) ⟨by simp only; omega, by simp only; rw [hi2]; simp only [zco]; rw [if_pos h.2], by simp only; omega, by simp only; omega⟩) ⟨za2 (w64 (by omega) (by omega)), rfl, rfl, rfl, trivial⟩ ⟨rfl, trivial⟩ rfl
    · refine vd [] rfl (by simp) ?_
      refine zab ⟨_, rfl, tV (congrArg _ ?_), trivial⟩
      rw [hi2]
      simp at h
      by_cases hlt : i < ks.length
      · obtain ⟨t, ht⟩ := zah hlt
        rw [zaj ht]; simp only [zco]; rw [if_neg (by omega)]
      · rw [List.drop_eq_nil_of_le (by omega)]; simp [zco]
termination_by t => SizeOf.sizeOf t
decreasing_by
  have := List.sizeOf_lt_of_mem (List.mem_of_getElem? ht)
  simp_wf
  omega
def ybi (s n : Int) (x : Str) (k : Nat) : Bool :=
  if s = 1 then inI n (-1000000000) 1000000000 && x == [] && ((k : Int) == 0)
  else if s = 2 then inI n 0 1 && x == [] && ((k : Int) == 0)
  else if s = 3 ∨ s = 5 then n == 0 && x == [] && ((k : Int) == 0)
  else if s = 4 then n == 0 && zct x && decide ((k : Int) ≤ 3)
  else false
mutual
def zm4 : Ty → Bool
  | .mk s n x ps => zf0 ps && ybi s n x ps.length
def zf0 : List Ty → Bool
  | [] => true
  | t :: r => zm4 t && zf0 r
end
def valB (t : Ty) : Bool := decide (0 ≤ zb9 t 20000 100) && zm4 t
end Go.Hk
namespace Go.Hk
open Go.Proofs
set_option maxRecDepth 100000 in
theorem yhq (x lo hi : Int) : PureC Tryz.prog 53 [.int .i64 x, .int .i64 lo, .int .i64 hi] (.bool (inI x lo hi)) := by
  refine zae zgq Tryz.func53 (by decide +kernel) rfl [1, 2] rfl rfl ?_
  refine vg [] rfl (by simp) ?_
  refine zab ⟨_, rfl, tV (congrArg _ ?_), trivial⟩
  simp [inI]
set_option maxRecDepth 100000 in
set_option maxHeartbeats 1000000 in
theorem yfi : ∀ v : Ty, PureC Tryz.prog 81 [.agg (dTyc v)] (.bool (match v with | .mk s n x ps => ybi s n x ps.length))
  | .mk s n x ks => by
    refine zae zgq Tryz.func81 (by decide +kernel) rfl [1, 2, 3] rfl rfl ?_
    simp only [ybi]
    refine vg [] rfl (by simp) ?_
    by_cases h1 : s = 1
    · subst h1
      refine zaa rfl (fun h => ?_) (fun h => by simp at h)
      refine vd [] rfl (by simp) ?_
      refine zac rfl (fun _ => yhq n (-1000000000) 1000000000) (by simp) ?_
      refine vg [] rfl (by simp) ?_
      refine zab ⟨_, rfl, tV (congrArg _ ?_), trivial⟩
      simp [Bool.and_assoc]
    rw [if_neg h1]
    refine zaa rfl (fun h => absurd (by simpa using h) h1) (fun h => ?_)
    clear h
    refine vd [] rfl (by simp) ?_
    by_cases h2 : s = 2
    · subst h2
      refine zaa rfl (fun h => ?_) (fun h => by simp at h)
      refine vd [] rfl (by simp) ?_
      refine zac rfl (fun _ => yhq n 0 1) (by simp) ?_
      refine vg [] rfl (by simp) ?_
      refine zab ⟨_, rfl, tV (congrArg _ ?_), trivial⟩
      simp [Bool.and_assoc]
    rw [if_neg h2]
    refine zaa rfl (fun h => absurd (by simpa using h) h2) (fun h => ?_)
    clear h
    refine vd [] rfl (by simp) ?_
    by_cases h3 : s = 3
    · subst h3
      refine zaa rfl (fun h => ?_) (fun h => by simp at h)
      refine vd [] rfl (by simp) ?_
      refine zaa rfl (fun h => ?_) (fun h => by simp at h)
      refine vd [] rfl (by simp) ?_
      refine zab ⟨_, rfl, tV (congrArg _ ?_), trivial⟩
      simp [Bool.and_assoc]
    refine zaa rfl (fun h => absurd (by simpa using h) h3) (fun h => ?_)
    clear h
    refine vd [] rfl (by simp) ?_
    by_cases h5 : s = 5
    · subst h5
      refine zaa rfl (fun h => ?_) (fun h => by simp at h)
      refine vd [] rfl (by simp) ?_
      refine zab ⟨_, rfl, tV (congrArg _ ?_), trivial⟩
      simp [Bool.and_assoc]
    rw [if_neg (by simp [h3, h5])]
    refine zaa rfl (fun h => absurd (by simpa using h) h5) (fun h => ?_)
    clear h
    refine vd [] rfl (by simp) ?_
    by_cases h4 : s = 4
    · subst h4
      refine zaa rfl (fun h => ?_) (fun h => by simp at h)
      refine vd [] rfl (by simp) ?_
      refine zac rfl (fun _ => zh0 x) (by simp [zal]) ?_
      refine vg [] rfl (by simp [zal]) ?_
      refine zab ⟨_, rfl, tV (congrArg _ ?_), trivial⟩
      simp [Bool.and_assoc]
    rw [if_neg h4]
    refine zaa rfl (fun h => absurd (by simpa using h) h4) (fun h => ?_)
    clear h
    refine vd [] rfl (by simp) ?_
    exact zab ⟨_, rfl, tV rfl, trivial⟩
set_option maxRecDepth 100000 in
theorem zsu : ∀ v : Ty, PureC Tryz.prog 56 [.agg (dTyc v)] (.bool (zm4 v))
  | .mk s n x ks => by
    have hN := yfi (.mk s n x ks)
    simp only at hN
    refine zav fun hv => ?_
    simp [zdi, vOk, dTyc, maxLen] at hv
    refine zae zgq Tryz.func56 (by decide +kernel) rfl [1, 2, 3] rfl rfl ?_
    refine vg [] rfl (by simp) ?_
    refine zag (fun i : Nat => [(3, .imm (.int .i64 i)), (1, .ref 1 0)]) (fun _ => [(1, some (.immb 33 4 (dTyc (.mk s n x ks))))]) [2, 3] (fun i => ks.length - i)
      (fun i => i ≤ ks.length ∧ zf0 ks = zf0 (ks.drop i)) 0 ⟨Nat.zero_le _, rfl⟩ ⟨rfl, rfl, trivial⟩ ⟨rfl, trivial⟩ rfl fun i hi ih => ?_
    refine vd [] rfl (by simp) ?_
    refine zaa rfl (fun h => ?_) (fun h => ?_)
    · simp at h
      obtain ⟨t, ht⟩ := zah h
      have e := hi.2
      rw [zaj ht] at e
      refine vd [] rfl (by simp) ?_
      refine vi rfl (c := dTyc t) (fun _ => ⟨by simp, by simpa using zan ht, by simp⟩) (by simp) ?_
      refine vg [] rfl (by simp) ?_
      refine zac rfl (fun _ => zsu t) (by simp) ?_
      refine vg [] rfl (by simp) ?_
      refine zaa rfl (fun h => ?_) (fun h => ?_)
      · refine vd [] rfl (by simp) ?_
        refine zab ⟨_, rfl, tV (congrArg _ ?_), trivial⟩
        simp at h
        simp [zm4, e, zf0, h]
      · refine vd [] rfl (by simp) ?_
        simp at h
        exact zad (ih (i + 1) (by omega) ⟨by omega, by rw [e]; simp [zf0, h]⟩) ⟨za2 (w64 (by omega) (by omega)), rfl, trivial⟩ ⟨rfl, trivial⟩ rfl
    · simp at h
      refine zar rfl ?_
      refine vd [] rfl (by simp) ?_
      refine zac rfl (fun _ => hN) (by simp) ?_
      refine vg [] rfl (by simp) ?_
      refine zab ⟨_, rfl, tV (congrArg _ ?_), trivial⟩
      simp only [zm4]
      rw [hi.2, List.drop_eq_nil_of_le (by omega)]
      simp [zf0]
termination_by t => SizeOf.sizeOf t
decreasing_by
  have := List.sizeOf_lt_of_mem (List.mem_of_getElem? ht)
  simp_wf
  omega
set_option maxRecDepth 100000 in
theorem Val_ok (v : Ty) : PureC Tryz.prog 21 [.agg (dTyc v)] (.bool (valB v)) := by
  refine zae zgq Tryz.func21 (by decide +kernel) rfl [1, 2, 3] rfl rfl ?_
  refine vg [] rfl (by simp) ?_
  refine zac rfl (fun _ => zoh v 20000 100 (by decide) (by decide) (by decide) (by decide)) (by simp) ?_
  refine vg [] rfl (by simp) ?_
  refine zac rfl (fun _ => zsu v) (by simp [zal]) ?_
  refine vg [] rfl (by simp) ?_
  refine zab ⟨_, rfl, tV (congrArg _ ?_), trivial⟩
  simp [valB]
theorem za6 {α β : Type} {f : α → β} {l : List α} {i : Nat} {t : α} (h : l[i]? = some t) : (l.map f)[i]? = some (f t) := by simp [h]
@[simp] theorem dCdc_length (c : Cd) : (zh2 c).length = 2 := rfl
@[simp] theorem dDtc_length (c : Dt) : (zep c).length = 2 := rfl
@[simp] theorem dMdc_length (m : Md) : (ygs m).length = 3 := rfl
@[simp] theorem dFdc_length (c : Fd) : (zz4 c).length = 15 := by simp [zz4]
def zzv (c : Cd) : Bool := zct c.name && decide ((c.args.length : Int) ≤ 3) && c.args.all ze6
def zkt (d : Dt) : Bool := zct d.name && inI d.cons.length 1 5 && d.cons.all zzv
def yhs (f : Fd) : Bool := zfg f.name && zfg f.param && ze6 f.from_ && ze6 f.to_ && yh8 f.body
def zdl (m : Md) : Bool := zfg m.name && decide ((m.datas.length : Int) ≤ 4) && inI m.funs.length 1 5 && m.datas.all zkt && m.funs.all yhs
set_option maxRecDepth 100000 in
theorem yjd (d : Dt) : PureC Tryz.prog 113 [.agg (zep d)] (.bool (zkt d)) := by
  obtain ⟨nm, cs⟩ := d
  refine zav fun hv => ?_
  simp [zdi, vOk, zep, maxLen] at hv
  refine zae zbd Tryz.func113 (by decide +kernel) rfl [1, 2, 3] rfl rfl ?_
  refine kg [] rfl (by simp) ?_
  refine zac rfl (fun _ => zh0 nm) (by simp) ?_
  refine kg [] rfl (by simp) ?_
  refine zac rfl (v := .bool (inI cs.length 1 5)) (fun _ => by have := zqy cs.length 1 5; simpa using this) (by simp [zal]) ?_
  refine kg [] rfl (by simp) ?_
  refine zaa rfl (fun h => ?_) (fun h => ?_)
  · refine kd [] rfl (by simp) ?_
    refine zab ⟨_, rfl, tV (congrArg _ ?_), trivial⟩
    simp at h
    simp [zkt]
    grind
  have hx : (zct nm && inI cs.length 1 5) = true := by simp at h ⊢; grind
  clear h
  refine kd [] rfl (by simp) ?_
  refine zag (fun i : Nat => [(3, .imm (.int .i64 i)), (1, .ref 1 0)]) (fun _ => [(1, some (.immb 72 2 (zep ⟨nm, cs⟩)))]) [2, 3] (fun i => cs.length - i)
    (fun i => i ≤ cs.length ∧ cs.all zzv = (cs.drop i).all zzv) 0 ⟨Nat.zero_le _, rfl⟩ ⟨rfl, rfl, trivial⟩ ⟨rfl, trivial⟩ rfl fun i hi ih => ?_
  refine kd [] rfl (by simp) ?_
  refine zaa rfl (fun h => ?_) (fun h => ?_)
  · simp at h
    obtain ⟨c, hc⟩ := zah h
    have e := hi.2
    rw [zaj hc] at e
    refine kd [] rfl (by simp) ?_
    refine ki rfl (c := zh2 c) (fun _ => ⟨by simp, by simpa using za6 hc, by simp⟩) (by simp) ?_
    obtain ⟨cn, ag⟩ := c
    refine kg [] rfl (by simp) ?_
    refine zac rfl (fun _ => zh0 cn) (by simp) ?_
    refine kg [] rfl (by simp) ?_
    refine zaa rfl (fun h => ?_) (fun h => ?_)
    · refine kd [] rfl (by simp) ?_
      refine zab ⟨_, rfl, tV (congrArg _ ?_), trivial⟩
      simp at h
      have : zzv ⟨cn, ag⟩ = false := by simp [zzv]; grind
      simp [zkt, e, this]
    have hy : (zct cn && decide ((ag.length : Int) ≤ 3)) = true := by simp at h ⊢; grind
    have hal : ag.length ≤ 6 := by simp at hy; omega
    clear h
    refine kd [] rfl (by simp) ?_
    refine zag (fun j : Nat => [(5, .imm (.int .i64 j)), (4, .ref 2 0), (3, .imm (.int .i64 i)), (1, .ref 1 0)]) (fun _ => [(2, some (.immb 75 2 (zh2 ⟨cn, ag⟩))), (1, some (.immb 72 2 (zep ⟨nm, cs⟩)))]) [3] (fun j => ag.length - j)
      (fun j => j ≤ ag.length ∧ ag.all ze6 = (ag.drop j).all ze6) 0 ⟨Nat.zero_le _, rfl⟩ ⟨rfl, rfl, rfl, rfl, trivial⟩ ⟨rfl, rfl, trivial⟩ rfl fun j hj ihj => ?_
    refine kd [] rfl (by simp) ?_
    refine zaa rfl (fun h => ?_) (fun h => ?_)
    · simp at h
      obtain ⟨t, ht⟩ := zah h
      have ej := hj.2
      rw [zaj ht] at ej
      refine kd [] rfl (by simp) ?_
      refine ki rfl (c := dTyc t) (fun _ => ⟨by simp, by simpa using zan ht, by simp⟩) (by simp) ?_
      refine kg [] rfl (by simp) ?_
      refine zac rfl (fun _ => zl7 t) (by simp) ?_
      refine kg [] rfl (by simp) ?_
      refine zaa rfl (fun h => ?_) (fun h => ?_)
      · refine kd [] rfl (by simp) ?_
        refine zab ⟨_, rfl, tV (congrArg _ ?_), trivial⟩
        simp at h
        have : zzv ⟨cn, ag⟩ = false := by simp only [zzv]; rw [ej]; simp [h]
        simp [zkt, e, this]
      · refine kd [] rfl (by simp) ?_
        simp at h
        exact zad (ihj (j + 1) (by omega) ⟨by omega, by rw [ej]; simp [h]⟩) ⟨za2 (w64 (by omega) (by omega)), rfl, rfl, rfl, trivial⟩ ⟨rfl, rfl, trivial⟩ rfl
    · simp at h
      refine kd [] rfl (by simp) ?_
      have : zzv ⟨cn, ag⟩ = true := by
        simp only [zzv]
        rw [hj.2, List.drop_eq_nil_of_le (by omega)]
        simpa using hy
      exact zad (ih (i + 1) (by omega) ⟨by omega, by rw [e]; simp [this]⟩) ⟨za2 (w64 (by omega) (by omega)), rfl, trivial⟩ ⟨rfl, trivial⟩ rfl
  · refine kd [] rfl (by simp) ?_
    refine zab ⟨_, rfl, tV (congrArg _ ?_), trivial⟩
    simp at h
    simp only [zkt]
    rw [hi.2, List.drop_eq_nil_of_le (by omega)]
    simpa using hx.symm
set_option maxRecDepth 100000 in
theorem ydz (m : Md) : PureC Tryz.prog 82 [.agg (ygs m)] (.bool (zdl m)) := by
  obtain ⟨nm, ds, fs⟩ := m
  refine zav fun hv => ?_
  simp [zdi, vOk, ygs, maxLen] at hv
  refine zae zbd Tryz.func82 (by decide +kernel) rfl [1, 2, 3] rfl rfl ?_
  refine kg [] rfl (by simp) ?_
  refine zac rfl (fun _ => zhe nm) (by simp) ?_
  refine kg [] rfl (by simp) ?_
  refine zac rfl (v := .bool (inI fs.length 1 5)) (fun _ => by have := zqy fs.length 1 5; simpa using this) (by simp [zal]) ?_
  refine kg [] rfl (by simp) ?_
  refine zaa rfl (fun h => ?_) (fun h => ?_)
  · refine kd [] rfl (by simp) ?_
    refine zab ⟨_, rfl, tV (congrArg _ ?_), trivial⟩
    simp at h
    simp [zdl]
    grind
  have hx : (zfg nm && decide ((ds.length : Int) ≤ 4) && inI fs.length 1 5) = true := by simp at h ⊢; grind
  clear h
  refine kd [] rfl (by simp) ?_
  refine zag (fun i : Nat => [(3, .imm (.int .i64 i)), (1, .ref 1 0)]) (fun _ => [(1, some (.immb 147 3 (ygs ⟨nm, ds, fs⟩)))]) [2, 3] (fun i => ds.length - i)
    (fun i => i ≤ ds.length ∧ ds.all zkt = (ds.drop i).all zkt) 0 ⟨Nat.zero_le _, rfl⟩ ⟨rfl, rfl, trivial⟩ ⟨rfl, trivial⟩ rfl fun i hi ih => ?_
  refine kd [] rfl (by simp) ?_
  refine zaa rfl (fun h => ?_) (fun h => ?_)
  · simp at h
    obtain ⟨c, hc⟩ := zah h
    have e := hi.2
    rw [zaj hc] at e
    refine kd [] rfl (by simp) ?_
    refine ki rfl (c := zep c) (fun _ => ⟨by simp, by simpa using za6 hc, by simp⟩) (by simp) ?_
    refine kg [] rfl (by simp) ?_
    refine zac rfl (fun _ => yjd c) (by simp) ?_
    refine kg [] rfl (by simp) ?_
    refine zaa rfl (fun h => ?_) (fun h => ?_)
    · refine kd [] rfl (by simp) ?_
      refine zab ⟨_, rfl, tV (congrArg _ ?_), trivial⟩
      simp at h
      simp [zdl, e, h]
    · refine kd [] rfl (by simp) ?_
      simp at h
      exact zad (ih (i + 1) (by omega) ⟨by omega, by rw [e]; simp [h]⟩) ⟨za2 (w64 (by omega) (by omega)), rfl, trivial⟩ ⟨rfl, trivial⟩ rfl
  simp at h
  have hds : ds.all zkt = true := by rw [hi.2, List.drop_eq_nil_of_le (by omega)]; rfl
  clear ih hi h
  refine kd [] rfl (by simp) ?_
  refine zag (fun i : Nat => [(4, .imm (.int .i64 i)), (1, .ref 1 0)]) (fun _ => [(1, some (.immb 147 3 (ygs ⟨nm, ds, fs⟩)))]) [2, 3] (fun i => fs.length - i)
    (fun i => i ≤ fs.length ∧ fs.all yhs = (fs.drop i).all yhs) 0 ⟨Nat.zero_le _, rfl⟩ ⟨rfl, rfl, trivial⟩ ⟨rfl, trivial⟩ rfl fun i hi ih => ?_
  refine kd [] rfl (by simp) ?_
  refine zaa rfl (fun h => ?_) (fun h => ?_)
  · simp at h
    obtain ⟨c, hc⟩ := zah h
    have e := hi.2
    rw [zaj hc] at e
    refine kd [] rfl (by simp) ?_
    refine ki rfl (c := zz4 c) (fun _ => ⟨by simp, by simpa using za6 hc, by simp⟩) (by simp) ?_
    obtain ⟨fnm, fpa, ⟨s1, n1, x1, p1⟩, ⟨s2, n2, x2, p2⟩, ⟨op, n3, x3, ks, p3⟩⟩ := c
    refine kg [] rfl (by simp) ?_
    refine zac rfl (fun _ => zhe fnm) (by simp [zal]) ?_
    refine kg [] rfl (by simp) ?_
    refine zac rfl (fun _ => zhe fpa) (by simp [zal]) ?_
    refine kg [] rfl (by simp) ?_
    refine zac rfl (fun _ => zl7 (.mk s1 n1 x1 p1)) (by simp [zal]) ?_
    refine kg [] rfl (by simp) ?_
    refine zac rfl (fun _ => zl7 (.mk s2 n2 x2 p2)) (by simp [zal]) ?_
    refine kg [] rfl (by simp) ?_
    refine zac rfl (fun _ => yjn (.mk op n3 x3 ks p3)) (by simp [zal]) ?_
    refine kg [] rfl (by simp) ?_
    refine zaa rfl (fun h => ?_) (fun h => ?_)
    · refine kd [] rfl (by simp) ?_
      refine zab ⟨_, rfl, tV (congrArg _ ?_), trivial⟩
      simp at h
      have : yhs ⟨fnm, fpa, .mk s1 n1 x1 p1, .mk s2 n2 x2 p2, .mk op n3 x3 ks p3⟩ = false := by simp [yhs]; grind
      simp [zdl, e, this]
    · refine kd [] rfl (by simp) ?_
      simp at h
      have : yhs ⟨fnm, fpa, .mk s1 n1 x1 p1, .mk s2 n2 x2 p2, .mk op n3 x3 ks p3⟩ = true := by simp [yhs]; grind
      exact zad (ih (i + 1) (by omega) ⟨by omega, by rw [e]; simp [this]⟩) ⟨za2 (w64 (by omega) (by omega)), rfl, trivial⟩ ⟨rfl, trivial⟩ rfl
  · refine kd [] rfl (by simp) ?_
    refine zab ⟨_, rfl, tV (congrArg _ ?_), trivial⟩
    simp at h
    simp only [zdl]
    rw [hds, hi.2, List.drop_eq_nil_of_le (by omega)]
    simpa using hx.symm
def zbb (s : Str) : Nat → List Dt → Int
  | _, [] => -1
  | i, d :: r => if d.name = s then (i : Int) else zbb s (i + 1) r
set_option maxRecDepth 100000 in
theorem zwq (ds : List Dt) (s : Str) : PureC Tryz.prog 85 [.sl (ds.map zep), .str s] (.int .i64 (zbb s 0 ds)) := by
  refine zav fun hv => ?_
  simp [zdi, vOk, maxLen] at hv
  refine zae zgq Tryz.func85 (by decide +kernel) rfl [1, 2, 3] rfl rfl ?_
  refine vg [] rfl (by simp) ?_
  refine zag (fun i : Nat => [(5, .imm (.int .i64 i)), (0, .imm (.sl (ds.map zep))), (1, .imm (.str s))]) (fun _ => []) [1, 2, 3] (fun i => ds.length - i)
    (fun i => i ≤ ds.length ∧ zbb s 0 ds = zbb s i (ds.drop i)) 0 ⟨Nat.zero_le _, rfl⟩ ⟨rfl, rfl, rfl, trivial⟩ trivial rfl fun i hi ih => ?_
  refine vd [] rfl (by simp) ?_
  refine zaa rfl (fun h => ?_) (fun h => ?_)
  · simp at h
    obtain ⟨d, hd⟩ := zah h
    have e := hi.2
    rw [zaj hd] at e
    simp only [zbb] at e
    refine vd [] rfl (by simp) ?_
    refine vi rfl (c := zep d) (fun _ => ⟨by simp, by simpa using za6 hd, by simp⟩) (by simp) ?_
    obtain ⟨dn, dc⟩ := d
    refine vg [] rfl (by simp) ?_
    refine zaa rfl (fun h => ?_) (fun h => ?_)
    · have hs : dn = s := by simpa using h
      rw [e, if_pos hs]
      refine vd [] rfl (by simp) ?_
      exact zab ⟨_, rfl, tV rfl, trivial⟩
    · have hs : ¬ dn = s := by simpa using h
      rw [if_neg hs] at e
      refine vd [] rfl (by simp) ?_
      exact zad (ih (i + 1) (by omega) ⟨by omega, e⟩) ⟨za2 (w64 (by omega) (by omega)), rfl, rfl, trivial⟩ trivial rfl
  · simp at h
    refine zar rfl ?_
    refine vd [] rfl (by simp) ?_
    rw [hi.2, List.drop_eq_nil_of_le (by omega)]
    exact zab ⟨_, rfl, tV rfl, trivial⟩
mutual
def zbw : List Dt → Ty → Bool
  | ds, .mk s _ x ps => !(s == 8 && decide (zbb x 0 ds < 0)) && za5 ds ps
def za5 : List Dt → List Ty → Bool
  | _, [] => true
  | ds, t :: r => zbw ds t && za5 ds r
end
set_option maxRecDepth 100000 in
theorem zm6 (ds : List Dt) : ∀ t : Ty, PureC Tryz.prog 59 [.agg (dTyc t), .sl (ds.map zep)] (.bool (zbw ds t))
  | .mk s n x ps => by
    refine zav fun hv => ?_
    simp [zdi, vOk, dTyc, maxLen] at hv
    simp only [zbw]
    refine zae zgq Tryz.func59 (by decide +kernel) rfl [1, 2, 3] rfl rfl ?_
    refine vg [] rfl (by simp) ?_
    refine zac rfl (fun _ => zwq ds x) (by simp [zal]) ?_
    refine vg [] rfl (by simp [zal]) ?_
    by_cases hg : s = 8 ∧ zbb x 0 ds < 0
    · refine zaa rfl (fun h => ?_) (fun h => by simp [hg] at h)
      refine vd [] rfl (by simp) ?_
      refine zab ⟨_, rfl, tV (congrArg _ ?_), trivial⟩
      simp [hg]
    refine zaa rfl (fun h => absurd (by simpa using h) hg) (fun h => ?_)
    clear h
    rw [show (!(s == 8 && decide (zbb x 0 ds < 0))) = true by simp; omega, Bool.true_and]
    refine vd [] rfl (by simp) ?_
    refine zag (fun i : Nat => [(5, .imm (.int .i64 i)), (1, .imm (.sl (ds.map zep))), (2, .ref 1 0)]) (fun _ => [(1, some (.immb 26 4 (dTyc (.mk s n x ps))))]) [2, 3] (fun i => ps.length - i)
      (fun i => i ≤ ps.length ∧ za5 ds ps = za5 ds (ps.drop i)) 0 ⟨Nat.zero_le _, rfl⟩ ⟨rfl, rfl, rfl, trivial⟩ ⟨rfl, trivial⟩ rfl fun i hi ih => ?_
    refine vd [] rfl (by simp) ?_
    refine zaa rfl (fun h => ?_) (fun h => ?_)
    · simp at h
      obtain ⟨t, ht⟩ := zah h
      have e := hi.2
      rw [zaj ht] at e
      refine vd [] rfl (by simp) ?_
      refine vi rfl (c := dTyc t) (fun _ => ⟨by simp, by simpa using zan ht, by simp⟩) (by simp) ?_
      refine vg [] rfl (by simp) ?_
      refine zac rfl (fun _ => zm6 ds t) (by simp) ?_
      refine vg [] rfl (by simp) ?_
      refine zaa rfl (fun h => ?_) (fun h => ?_)
      · refine vd [] rfl (by simp) ?_
        refine zab ⟨_, rfl, tV (congrArg _ ?_), trivial⟩
        simp at h
        simp [e, za5, h]
      · refine vd [] rfl (by simp) ?_
        simp at h
        exact zad (ih (i + 1) (by omega) ⟨by omega, by rw [e]; simp [za5, h]⟩) ⟨za2 (w64 (by omega) (by omega)), rfl, rfl, trivial⟩ ⟨rfl, trivial⟩ rfl
    · simp at h
      refine zar rfl ?_
      refine vd [] rfl (by simp) ?_
      refine zab ⟨_, rfl, tV (congrArg _ ?_), trivial⟩
      rw [hi.2, List.drop_eq_nil_of_le (by omega)]
      simp [za5]
termination_by t => SizeOf.sizeOf t
decreasing_by
  have := List.sizeOf_lt_of_mem (List.mem_of_getElem? ht)
  simp_wf
  omega
set_option maxRecDepth 100000 in
theorem zxt : ∀ p : Ty, zaq p ≤ 1000000 → PureC Tryz.prog 62 [.agg (dTyc p)] (.int .i64 (zaq p : Int))
  | .mk s n x ps, hN => by
    simp only [zaq] at hN
    refine zav fun hv => ?_
    simp [zdi, vOk, dTyc, maxLen] at hv
    refine zae zgq Tryz.func62 (by decide +kernel) rfl [1, 2, 3] rfl rfl ?_
    refine vg [] rfl (by simp) ?_
    refine zag (fun i : Nat => [(4, .imm (.int .i64 i)), (3, .imm (.int .i64 ((1 + zaf (ps.take i) : Nat) : Int))), (1, .ref 1 0)]) (fun _ => [(1, some (.immb 50 4 (dTyc (.mk s n x ps))))]) [2, 3] (fun i => ps.length - i)
      (fun i => i ≤ ps.length) 0 (Nat.zero_le _) ⟨rfl, rfl, rfl, trivial⟩ ⟨rfl, trivial⟩ rfl fun i hi ih => ?_
    refine vd [] rfl (by simp) ?_
    refine zaa rfl (fun h => ?_) (fun h => ?_)
    · simp at h
      obtain ⟨t, ht⟩ := zah h
      have e : zaf (ps.take (i + 1)) = zaf (ps.take i) + zaq t := by rw [zbe ht, zbc]; simp [zaf]
      have hb := zbz ht
      refine vd [] rfl (by simp) ?_
      refine vi rfl (c := dTyc t) (fun _ => ⟨by simp, by simpa using zan ht, by simp⟩) (by simp) ?_
      refine vg [] rfl (by simp) ?_
      refine zac rfl (fun _ => zxt t (by omega)) (by simp) ?_
      refine vg [] rfl (by simp) ?_
      exact zad (ih (i + 1) (by omega) (by omega)) ⟨za2 (w64 (by omega) (by omega)), za2 (by rw [e, w64 (by omega) (by omega)]; omega), rfl, trivial⟩ ⟨rfl, trivial⟩ rfl
    · simp at h
      refine zar rfl ?_
      refine vd [] rfl (by simp) ?_
      rw [List.take_of_length_le (by omega)]
      refine zab ⟨_, rfl, tV ?_, trivial⟩
      simp [zaq]
termination_by p => SizeOf.sizeOf p
decreasing_by
  have := List.sizeOf_lt_of_mem (List.mem_of_getElem? ht)
  simp_wf
  omega
structure Cse where
  datas : List Dt
  type : Ty
  rows : List Ty
def dCse (c : Cse) : List V := [.sl (c.datas.map zep)] ++ dTyc c.type ++ [.sl (zez c.rows)]
@[simp] theorem dCse_length (c : Cse) : (dCse c).length = 6 := by obtain ⟨ds, ⟨s, n, x, ps⟩, rows⟩ := c; rfl
def ttC : TT := ttV ++ [
  (29, ⟨.struct [(0, 22), (1, 26), (5, 27)], true, 6, 104, [.nils, .imm (.int .i64 0), .imm (.int .i64 0), .imm (.str []), .nils, .nils]⟩)]
theorem zcz : TTok Tryz.prog ttC := .of_eq (l := [4, 3, 9, 141, 26, 50, 138, 27, 5, 24, 23, 57, 139, 48, 143, 147, 75, 22, 145, 72, 70, 38, 33, 30, 31, 29]) (by kernel_rfl)
section
variable {n : Nat} {F : List Nat} {Q : DQ} {env env' : Env} {st st' : St} {ids ids' : List Nat} {k todo : List DI} {ob : List Prop}
theorem cd (path : List Pt) (h : run ttC n 300 path todo env st ids [] = .at k env' st' ids' ob) (hob : zbh ob) (hd : G Tryz.prog n F Q k env' st' ids') : DGo Tryz.prog n F Q todo env st ids := ztn zcz mixed 300 path h hob hd
theorem cg (path : List Pt) (h : run ttC n 300 path todo env st ids [] = .at k env' st' ids' ob) (hob : zbh ob) (hd : G Tryz.prog n F Q k env' st' ids') : G Tryz.prog n F Q todo env st ids := zq2 zcz mixed 300 path h hob hd
theorem ci {es : List (List V)} {m : Int} {sz : Nat} {e : TypeId} {g : Option (Bool × Bool)} {ob : List Prop} {t : Nat} {todo' : List DI} {c : List V} (h : yd5 ttC n env todo = some ⟨es, m, sz, e, g, ob, some t, todo'⟩)
    (hc : zal g → 0 ≤ m ∧ es[m.toNat]? = some c ∧ c.length = sz) (hob : zbh ob) (hk : G Tryz.prog n F Q todo' ((t, gD g (.ip e c 0)) :: env) st ids) : G Tryz.prog n F Q todo env st ids := zg9 zcz h hc hob hk
end
end Go.Hk
namespace Go.Hk
open Go.Proofs
def zCd : Cd := ⟨[], []⟩
def zi7 (s : Str) : Nat → List Cd → Cd × Int
  | _, [] => (zCd, -1)
  | i, c :: r => if c.name = s then (c, (i : Int)) else zi7 s (i + 1) r
def zgh (ds : List Dt) (t : Ty) (s : Str) : Cd × Int := match t with
  | .mk so _ x _ => if so = 8 then (match ds[(zbb x 0 ds).toNat]? with
    | some d => zi7 s 0 d.cons
    | none => (zCd, -1)) else (zCd, -1)
set_option maxRecDepth 100000 in
theorem yhy (c : Cse) (t : Ty) (s : Str) (h : ∀ so n x ps, t = .mk so n x ps → so = 8 → 0 ≤ zbb x 0 c.datas ∧ ∃ d, c.datas[(zbb x 0 c.datas).toNat]? = some d) (hl : ∀ d ∈ c.datas, d.cons.length ≤ 1000000) :
    PureC Tryz.prog 66 [.agg (dCse c), .agg (dTyc t), .str s] (.tup [.agg (zh2 (zgh c.datas t s).1), .int .i64 (zgh c.datas t s).2]) := by
  obtain ⟨ds, ct, rows⟩ := c
  obtain ⟨so, n, x, ps⟩ := t
  obtain ⟨cs, cn, cx, cps⟩ := ct
  have h := h so n x ps rfl
  simp only at h
  refine zav fun hv => ?_
  refine zae zcz Tryz.func66 (by decide +kernel) rfl [1, 2, 3, 4, 5] rfl rfl ?_
  refine cg [] rfl (by simp) ?_
  by_cases e : so = 8
  case neg =>
    refine zaa rfl (fun h => ?_) (fun h => absurd (by simpa using h) e)
    refine cd [] rfl (by simp) ?_
    rw [show zgh ds (.mk so n x ps) s = (zCd, -1) by simp [zgh, e]]
    exact zab ⟨_, rfl, tV rfl, trivial⟩
  obtain ⟨hp, d, hd⟩ := h e
  have hlen : d.cons.length ≤ 1000000 := hl d (List.mem_of_getElem? hd)
  rw [show zgh ds (.mk so n x ps) s = zi7 s 0 d.cons by simp [zgh, e, hd]]
  refine zaa rfl (fun h => by simp [e] at h) (fun h => ?_)
  clear h
  refine cd [] rfl (by simp) ?_
  refine zac rfl (fun _ => zwq ds x) (by simp) ?_
  refine cg [] rfl (by simp) ?_
  refine ci rfl (c := zep d) (fun _ => ⟨hp, by simpa using za6 hd, by simp⟩) (by simp) ?_
  obtain ⟨dn, dc⟩ := d
  refine cg [] rfl (by simp; rfl) ?_
  simp only at hlen ⊢
  refine zag (fun i : Nat => [(9, .imm (.int .i64 i)), (8, .ref 4 0), (6, .ref 3 0), (2, .imm (.str s))]) (fun _ => [(4, some (.immb 72 2 (zep ⟨dn, dc⟩))), (3, some (.cells 75 2 [.imm (.str []), .nils]))]) [5] (fun i => dc.length - i)
    (fun i => i ≤ dc.length ∧ zi7 s 0 dc = zi7 s i (dc.drop i)) 0 ⟨Nat.zero_le _, rfl⟩ ⟨rfl, rfl, rfl, rfl, trivial⟩ ⟨rfl, rfl, trivial⟩ rfl fun i hi ih => ?_
  refine cd [] rfl (by simp) ?_
  refine zaa rfl (fun h => ?_) (fun h => ?_)
  · simp at h
    obtain ⟨k, hk⟩ := zah h
    have e := hi.2
    rw [zaj hk] at e
    simp only [zi7] at e
    refine cd [] rfl (by simp) ?_
    refine ci rfl (c := zh2 k) (fun _ => ⟨by simp, by simpa using za6 hk, by simp⟩) (by simp) ?_
    obtain ⟨kn, ka⟩ := k
    refine cg [] rfl (by simp) ?_
    refine zaa rfl (fun h => ?_) (fun h => ?_)
    · have hs : kn = s := by simpa using h
      rw [e, if_pos hs]
      refine cd [] rfl (by simp) ?_
      refine ci rfl (c := zh2 ⟨kn, ka⟩) (fun _ => ⟨by simp, by simpa using za6 hk, by simp⟩) (by simp) ?_
      refine cg [] rfl (by simp) ?_
      exact zab ⟨_, rfl, tV rfl, trivial⟩
    · have hs : ¬ kn = s := by simpa using h
      rw [if_neg hs] at e
      refine cd [] rfl (by simp) ?_
      exact zad (ih (i + 1) (by omega) ⟨by omega, e⟩) ⟨za2 (w64 (by omega) (by omega)), rfl, rfl, rfl, trivial⟩ ⟨rfl, rfl, trivial⟩ rfl
  · simp at h
    refine zar rfl ?_
    refine cd [] rfl (by simp) ?_
    rw [hi.2, List.drop_eq_nil_of_le (by omega)]
    exact zab ⟨_, rfl, tV rfl, trivial⟩
end Go.Hk
