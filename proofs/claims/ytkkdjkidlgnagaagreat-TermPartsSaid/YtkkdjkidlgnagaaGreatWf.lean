/- The ghost machine: a long run in pieces. Between two pieces the state is written anew: only what is still needed, in blocks numbered from 0 on. (And what it stands on.) -/
import Derived.Test.YtkkdjkidlgnagaaGreatWe
import Derived.RangeFuncLeaves
import Derived.RangeFuncNested
import Derived.Maps.RangeRun
set_option linter.unusedSimpArgs false
set_option linter.unusedVariables false

/- The ghost machine: control; ranges over functions. -/
namespace Go.Gx
open Go.Hk (TT TTok TyI Sh lk TyOk ShOk nth nth_eq get_of_drop reach_skip reach_label reach_inBlock reach_inScope reach_scope reach_seq reach_cond reach_block reach_loop reach_inLoop reach_exit reach_goto reach_region reach_regionEnd reach_op reach_opSkip reach_ret reach_exitOut reach_gotoOut)

/-- A function that does something and tells whether it gave up. -/
def HoldOk (P : Program) (f : FuncId) (t : TypeId) : Prop := ∀ g fi ca h res fc c, P.funcs[g]? = some fc → (fc.name == "runtime.NumGoroutine") = false → fc.body = some c → CfgS P (.call g (fi ++ ca) h) res → CfgS P (.call f [.fn g fi ca] h) (holdR t res)

/-- A function that gives the keys of a map, sorted. -/
def SortOk (P : Program) (f : FuncId) : Prop := ∀ args h, CfgS P (.call f args h) (sortR args h)

structure Ctx3 (P : Program) (tb : Tab) : Prop extends Ctx2 P tb where
  fn : ∀ f x, tb.fn f = some x → P.funcs[f]? = some x ∧ (x.name == "runtime.NumGoroutine") = false
  hold : ∀ f t, hlk tb.hold f = some t → HoldOk P f t
  sort : ∀ f, memF tb.sorts f = true → SortOk P f

section
variable {P : Program} {tb : Tab} {ih : Cfg → Res} {n : Nat} {fn : FuncId} {ro : Option Nat} {s s' : S} {d d' : List Nat} {h h' : GH} {g : G} {res : Res} {B : Bl} {ρ : Rho} {w : World} {a : Act} {b : Frame} {cs : List Frame} {is k : List Item} {Q : Exit → Act → World → Prop} {x : GX}

theorem reach_rangeFunc {g : Operand} {ps : Array Tmp} {asg body : Code} {l : Nat} {mark : List Deferred} {w₁ w₁' w₂ : World} {dd : Deferred} {f : FuncId} {args : Array Value}
    (he : (Instr.enterLoop b.fn a.tmps ps asg body b.roundOf).run P w = .ok (l, mark) w₁) (hres : (resolve a.eval (rangeCall g l) 0).run P w₁ = .ok dd w₁') (hinv : (invoke dd.target dd.args).run P w₁' = .ok (.enter f args) w₂)
    (h : Calls P f args w₂ fun e w₃ => match e with
      | .returned _ => ∃ jump w₄, (Instr.endLoop l).run P w₃ = .ok jump w₄ ∧ Hk.Reach P b cs Q ((jump.map Item.code).toList ++ k) { a with defers := mark ++ a.defers } w₄
      | .panicked chain => Q (.panic chain) { a with defers := mark ++ a.defers } w₃
      | .outgrown => False) : Hk.Reach P b cs Q (.code (.rangeFunc g ps asg body) :: k) a w := by
  have henter := stepR_rangeFunc (P := P) (b := b) (a := a) (k := k) (cs := cs) (w := w) he hres hinv
  obtain ⟨e, w₃, fr, hR, hsteps, _, hleave⟩ := h (b.atR { a with defers := mark ++ a.defers } (.inRangeFunc l :: k) :: cs)
  cases e with
  | returned v =>
    obtain ⟨jump, w₄, hend, e', a', w₅, hq, harr⟩ := hR
    refine ⟨e', a', w₅, hq, .of_steps (.head henter (Steps.trans hsteps (.head ?_ (.one (stepR_endRangeFunc hend))))) harr⟩
    rw [← finish_atR_inRangeFunc l v]; exact step_leave_returned hleave
  | panicked chain =>
    refine ⟨.panic chain, _, w₃, hR, .inRangeFunc l :: k, .head henter (Steps.trans hsteps (.one ?_))⟩
    rw [← Frame.raise_atR]; exact step_leave_panicked hleave
  | outgrown => exact hR.elim

theorem putObj_eq (w : World) (r : Nat) (o : Obj) : w.putObj r o = { w with heap := w.heap.setIfInBounds r o } := rfl

theorem grange_ok (hc : Ctx3 P tb) (hih : ∀ c, CfgX P c (ih c)) {g : Operand} {ps : Array Tmp} {asg body : Code} {l rl z : Nat} {mark : List Deferred} {w1 : World} {ρ1 : Rho} {d2 : List Nat} {h2 : GH}
    (e : grange tb ih n fn ro s d2 (evA g s) l h2 = .fr x s' d' h') (he : (Instr.enterLoop b.fn a.tmps ps asg body b.roundOf).run P w = .ok (rl, mark) w1)
    (hl : ρ1 l = some (rl, z)) (hρ1 : ρ.le ρ1) (hk1 : Kept B w w1) (hF : Fr B n fn ro b ρ1 s d2 h2 { a with defers := mark ++ a.defers } w1)
    (hA : ∀ ρ' a' w', Fr B n fn ro b ρ' s' d' h' a' w' → ρ.le ρ' → Kept B w w' → After P b cs Q ρ' x is a' w') : Hk.Reach P b cs Q (.code (.rangeFunc g ps asg body) :: is) a w := by
  unfold grange at e
  have hg := evA_rep (a := a) hF.s.s g
  cases hgv : evA g s <;> rw [hgv] at e hg <;> first | (cases e; done) | skip
  rename_i f fi ca
  simp only at e
  cases hfn : tb.fn f with
  | none => rw [hfn] at e; cases e
  | some fc =>
  rw [hfn] at e
  simp only at e
  cases hb : fc.body with
  | none => rw [hb] at e; cases e
  | some c0 =>
  rw [hb] at e
  simp only at e
  obtain ⟨hf1, hf2⟩ := hc.fn f fc hfn
  generalize hvg : a.eval g = vg at hg
  cases hg with
  | fn _ first cap _ _ hl1 hl2 q1 q2 =>
  have hargs : RepGs ρ1 (first ++ #[Value.func (.yield rl) #[] #[]] ++ cap).toList (gappK fi (gappK [.yield l] ca id) id) := by
    simp only [gappK_eq, id]
    rw [Array.toList_append, Array.toList_append, List.append_assoc]
    refine RepGs.append ⟨by simpa using hl1, fun i v g p q => q1 i v g (by simpa using p) q⟩ (RepGs.append (.mk (.yield l rl z hl) .nil) ⟨by simpa using hl2, fun i v g p q => q2 i v g (by simpa using p) q⟩)
  have hcall := (hih (.call f (gappK fi (gappK [.yield l] ca id) id) h2)).s B ρ1 w1 (first ++ #[Value.func (.yield rl) #[] #[]] ++ cap) hF.h hargs
  rw [Hk.run_callFunc_body hf1 hf2 hb] at hcall
  have hres : ∃ dd, (resolve a.eval (rangeCall g rl) 0).run P w1 = .ok dd w1 ∧ (invoke dd.target dd.args).run P w1 = .ok (.enter f (first ++ #[Value.func (.yield rl) #[] #[]] ++ cap)) w1 := by
    refine ⟨⟨.fn (.func f) cap, first ++ #[Value.func (.yield rl) #[] #[]]⟩, ?_, ?_⟩
    · have hcv : a.eval (.const (.func (.yield rl) #[] #[])) = .func (.yield rl) #[] #[] := rfl
      simp [rangeCall, resolve, Deferred.ofValue, hvg, hcv]
    · simpa [invoke] using Hk.run_callFunc_body (w := w1) hf1 hf2 hb (first ++ #[Value.func (.yield rl) #[] #[]] ++ cap)
  obtain ⟨dd, hr1, hr2⟩ := hres
  refine reach_rangeFunc he hr1 hr2 ?_
  cases hr : ih (.call f (gappK fi (gappK [.yield l] ca id) id) h2) with
  | fail => rw [hr] at e; cases e
  | fr => rw [hr] at e; cases e
  | rp v h3 =>
    rw [hr] at e hcall
    refine Calls.mono hcall fun en w3 hen => ?_
    cases en with
    | returned v => exact hen.elim
    | outgrown => exact hen.elim
    | panicked chain =>
      obtain ⟨ρ3, v, rfl, p1, p2, p3, p4⟩ := hen
      cases e
      exact hA ρ3 _ w3 ⟨hF.f, hF.ro.mono p2, p1, hF.s.mono p2⟩ (Rho.le_trans hρ1 p2) (hk1.trans p4) v p3
  | rv v h3 =>
    rw [hr] at e hcall
    refine Calls.mono hcall fun en w3 hen => ?_
    cases en with
    | outgrown => exact hen.elim
    | panicked chain => exact hen.elim
    | returned v =>
      obtain ⟨ρ3, p1, p2, p3, p4⟩ := hen
      have hl3 := p2 _ _ hl
      simp only [gendL] at e
      split at e
      · cases e
      · rename_i st pend fn' s2 n2 ps2 asg2 body2 db hnb hgl
        have hbr := p1.atρ hgl rfl hl3
        obtain ⟨lr, rd, zd, b1, b2, _, _, _, _⟩ := hbr
        obtain ⟨k1, k2, _⟩ := b2
        rw [wr_eq] at e
        cases hset : h3.set? l .dead with
        | none => rw [hset] at e; cases e
        | some h4 =>
          rw [hset] at e
          simp only at e
          have hbusy : lr.state ≠ .busy := by
            rw [k1]; intro hb'; subst hb'
            exact hnb rfl
          have hend : (Instr.endLoop rl).run P w3 = .ok pend { w3 with heap := w3.heap.setIfInBounds rl (.loop { lr with state := .exhausted }) } := by
            rw [← k2]; exact run_endLoop b1 hbusy
          have p1' : HRep B ρ3 h4 { w3 with heap := w3.heap.setIfInBounds rl (.loop { lr with state := .exhausted }) } :=
            p1.write1 hset (by rw [hgl]; rfl) hl3 trivial (fun _ _ h => by cases h)
          have hk3 : Kept B w { w3 with heap := w3.heap.setIfInBounds rl (.loop { lr with state := .exhausted }) } := (hk1.trans p4).trans (Kept.write (p1.lo _ _ _ hl3).1)
          have hF4 : Fr B n fn ro b ρ3 s d2 h4 { a with defers := mark ++ a.defers } { w3 with heap := w3.heap.setIfInBounds rl (.loop { lr with state := .exhausted }) } := ⟨hF.f, hF.ro.mono p2, p1', hF.s.mono p2⟩
          refine ⟨pend, _, hend, ?_⟩
          cases pend with
          | none =>
            cases e
            exact hA ρ3 _ _ hF4 (Rho.le_trans hρ1 p2) hk3
          | some c =>
            simp only at e
            exact (hih (.go n fn ro c s d2 h4)) _ _ _ _ e B ρ3 _ _ b cs is Q hF4 fun ρ5 a5 w5 hF5 hρ5 hk5 => hA ρ5 a5 w5 hF5 (Rho.le_trans (Rho.le_trans hρ1 p2) hρ5) (hk3.trans hk5)
      · cases e

/-! ### Control -/
theorem blockR_fr {id : Nat} {r : Res} (e : blockR id r = .fr x s d h) : ∃ x1, r = .fr x1 s d h ∧ ((x1 = .exit id ∧ x = .norm) ∨ (x1 = x ∧ x ≠ .exit id)) := by
  cases r with
  | fr x1 s1 d1 h1 =>
    cases x1 with
    | exit j =>
      simp only [blockR] at e
      split at e
      · rename_i hb
        have := Nat.eq_of_beq_eq_true hb
        subst this
        cases e
        exact ⟨_, rfl, .inl ⟨rfl, rfl⟩⟩
      · rename_i hb
        cases e
        exact ⟨_, rfl, .inr ⟨rfl, fun hx => by cases hx; simp at hb⟩⟩
    | _ => cases e; exact ⟨_, rfl, .inr ⟨rfl, by simp⟩⟩
  | _ => cases e

theorem gloop_ok {c : Code} {f : S → List Nat → GH → Res} (hf : ∀ s d h, Items P n fn ro (.code c) s d h (f s d h)) : ∀ (N : Nat) (s : S) (d : List Nat) (h : GH), Items P n fn ro (.inLoop c) s d h (gloop f N s d h)
  | 0, s, d, h => Items.fail
  | N + 1, s, d, h => by
    intro x s' d' h' e B ρ w a b cs is Q hF hA
    exact reach_inLoop (Items.seq (.inLoop c) (hf s d h) (gloop_ok hf N) (fun id is => rfl) (fun l is => rfl) (show seqR (f s d h) (gloop f N) = _ from e) hF hA)

theorem gloop_code {c : Code} {f : S → List Nat → GH → Res} (hf : ∀ s d h, Items P n fn ro (.code c) s d h (f s d h)) (N : Nat) (s : S) (d : List Nat) (h : GH) : Items P n fn ro (.code (.loop c)) s d h (gloop f N s d h) := by
  cases N with
  | zero => exact Items.fail
  | succ N =>
    intro x s' d' h' e B ρ w a b cs is Q hF hA
    exact reach_loop (Items.seq (.inLoop c) (hf s d h) (gloop_ok hf N) (fun id is => rfl) (fun l is => rfl) (show seqR (f s d h) (gloop f N) = _ from e) hF hA)

/-! ### Ranges over maps -/
theorem gxB_eq {x y : GX} (h : gxB x y = true) : x = y := by
  cases x <;> cases y <;> simp only [gxB, Bool.false_eq_true] at h <;> first | rfl | (rw [Nat.eq_of_beq_eq_true h])

theorem natsB_eq : ∀ {a b : List Nat}, natsB a b = true → a = b
  | [], [], _ => rfl
  | [], _ :: _, h => by cases h
  | _ :: _, [], h => by cases h
  | x :: a, y :: b, h => by
    simp only [natsB, Bool.and_eq_true] at h
    rw [Nat.eq_of_beq_eq_true h.1, natsB_eq h.2]

theorem prB_eq {p q : G × G} (h : prB p q = true) : p = q := by
  simp only [prB, Bool.and_eq_true] at h
  exact Prod.ext (gB_eq h.1) (gB_eq h.2)

theorem rmB_perm {p : G × G} : ∀ {l t : List (G × G)}, rmB p l = some t → l.Perm (p :: t)
  | [], _, h => by cases h
  | q :: r, t, h => by
    simp only [rmB] at h
    split at h
    · rename_i hq
      cases h
      rw [prB_eq hq]
    · split at h
      · rename_i t' ht
        cases h
        exact ((rmB_perm ht).cons q).trans (List.Perm.swap p q t')
      · cases h

theorem permB_perm : ∀ {k l : List (G × G)}, permB k l = true → k.Perm l
  | [], [], _ => .nil
  | [], _ :: _, h => by cases h
  | p :: r, l, h => by
    simp only [permB] at h
    split at h
    · rename_i t ht
      exact ((permB_perm h).cons p).trans (rmB_perm ht).symm
    · cases h

/-- The same block, but for the order of a map's entries. -/
def likeB (g g' : GB) : Prop := g' = g ∨ ∃ v kv kv', g = .map v kv ∧ g' = .map v kv' ∧ kv.Perm kv'

theorem eqGB_like {g g' : GB} (h : eqGB g g' = true) : likeB g' g := by
  cases g <;> cases g' <;> simp only [eqGB, Bool.false_eq_true, Bool.and_eq_true] at h <;> first | exact .inl rfl | skip
  · rw [gsB_eq (fun _ _ => gB_eq) h]; exact .inl rfl
  · rw [Nat.eq_of_beq_eq_true h.1]
    exact .inr ⟨_, _, _, rfl, rfl, (permB_perm h.2).symm⟩
  · rw [Nat.eq_of_beq_eq_true h.1, Nat.eq_of_beq_eq_true h.2.1, Nat.eq_of_beq_eq_true h.2.2]; exact .inl rfl

noncomputable def T.join (t t' : T) : T := t.joinK t' id

theorem T.joinK_eq {β : Type} : ∀ (t t' : T) (k : T → β), t.joinK t' k = k (t.join t')
  | .e, _, _ => rfl
  | .n v l r, .e, _ => rfl
  | .n v l r, .n v' l' r', k => by
    show l.joinK l' (fun a => r.joinK r' fun b => Bool.rec (motive := fun _ => β) (k (.n .dead a b)) (k (.n v a b)) (eqGB v v')) = k (l.joinK l' (fun a => r.joinK r' fun b => Bool.rec (motive := fun _ => T) (.n .dead a b) (.n v a b) (eqGB v v')))
    rw [T.joinK_eq l l', T.joinK_eq r r', T.joinK_eq l l', T.joinK_eq r r']
    cases eqGB v v' <;> rfl

theorem T.get_join : ∀ (t t' : T) (j : Nat), (t.join t').get j = .dead ∨ ((t.join t').get j = t.get j ∧ eqGB (t.get j) (t'.get j) = true)
  | .e, _, _ => .inl rfl
  | .n v l r, .e, _ => .inl rfl
  | .n v l r, .n v' l' r', j => by
    have e : (T.n v l r).join (.n v' l' r') = .n (if eqGB v v' then v else .dead) (l.join l') (r.join r') := by
      show l.joinK l' (fun a => r.joinK r' fun b => Bool.rec (motive := fun _ => T) (.n .dead a b) (.n v a b) (eqGB v v')) = _
      rw [T.joinK_eq l l', T.joinK_eq r r']
      cases eqGB v v' <;> rfl
    rw [e]
    cases j with
    | zero =>
      show (if eqGB v v' then v else .dead) = .dead ∨ ((if eqGB v v' then v else .dead) = v ∧ eqGB v v' = true)
      by_cases h : eqGB v v' = true
      · rw [if_pos h]; exact .inr ⟨rfl, h⟩
      · rw [if_neg h]; exact .inl rfl
    | succ j =>
      show Nat.rec (motive := fun _ => GB) ((l.join l').get (j / 2)) (fun _ _ => (r.join r').get (j / 2)) (j % 2) = .dead ∨ (Nat.rec (motive := fun _ => GB) ((l.join l').get (j / 2)) (fun _ _ => (r.join r').get (j / 2)) (j % 2) = Nat.rec (motive := fun _ => GB) (l.get (j / 2)) (fun _ _ => r.get (j / 2)) (j % 2) ∧
        eqGB (Nat.rec (motive := fun _ => GB) (l.get (j / 2)) (fun _ _ => r.get (j / 2)) (j % 2)) (Nat.rec (motive := fun _ => GB) (l'.get (j / 2)) (fun _ _ => r'.get (j / 2)) (j % 2)) = true)
      cases j % 2 with
      | zero => exact T.get_join l l' (j / 2)
      | succ _ => exact T.get_join r r' (j / 2)

/-- Less is known. -/
def wkS (s s2 : S) : Prop := ∀ t, getS t s2 = getS t s ∨ getS t s2 = .undef
def wkH (h h2 : GH) : Prop := h2.size = h.size ∧ ∀ b, h2.get b = .dead ∨ likeB (h.get b) (h2.get b)

theorem wkS.refl (s : S) : wkS s s := fun _ => .inl rfl
theorem wkS.trans {s s1 s2 : S} (h : wkS s s1) (k : wkS s1 s2) : wkS s s2 := fun t => by
  rcases k t with e | e
  · rw [e]; exact h t
  · exact .inr e
theorem wkH.refl (h : GH) : wkH h h := ⟨rfl, fun _ => .inr (.inl rfl)⟩
theorem likeB.trans {a b c : GB} (h : likeB a b) (k : likeB b c) : likeB a c := by
  rcases k with rfl | ⟨v, kv, kv', rfl, rfl, hp⟩
  · exact h
  · rcases h with h | ⟨v1, k1, k1', e1, e2, hp1⟩
    · exact .inr ⟨v, kv, kv', h.symm, rfl, hp⟩
    · cases e2; exact .inr ⟨_, _, _, e1, rfl, hp1.trans hp⟩
theorem wkH.trans {h h1 h2 : GH} (a : wkH h h1) (b : wkH h1 h2) : wkH h h2 := ⟨b.1.trans a.1, fun j => by
  rcases b.2 j with e | e
  · exact .inl e
  · rcases a.2 j with e1 | e1
    · rcases e with e | ⟨v, kv, kv', e2, e3, _⟩
      · rw [e, e1]; exact .inl rfl
      · rw [e1] at e2; cases e2
    · exact .inr (e1.trans e)⟩

theorem KvRep.perm {ρ : Rho} {es : List MapEntry} : ∀ {kv kv' : List (G × G)}, kv.Perm kv' → KvRep ρ es kv → KvRep ρ es kv' := by
  intro kv kv' hp
  have main : ∀ {kv kv' : List (G × G)}, kv.Perm kv' → ∀ l : List MapEntry, l.length = kv.length → (∀ (i : Nat) (e : MapEntry) (p : G × G), l[i]? = some e → kv[i]? = some p → RepG ρ e.key p.1 ∧ RepG ρ e.val p.2) →
      ∃ l' : List MapEntry, l'.Perm l ∧ l'.length = kv'.length ∧ ∀ (i : Nat) (e : MapEntry) (p : G × G), l'[i]? = some e → kv'[i]? = some p → RepG ρ e.key p.1 ∧ RepG ρ e.val p.2 := by
    intro kv kv' hp
    induction hp with
    | nil => intro l hl hr; exact ⟨l, .refl l, hl, hr⟩
    | cons x _ ih =>
      intro l hl hr
      cases l with
      | nil => simp at hl
      | cons e l =>
        obtain ⟨l', q1, q2, q3⟩ := ih l (by simpa using hl) (fun i e p h1 h2 => hr (i + 1) e p (by simpa using h1) (by simpa using h2))
        refine ⟨e :: l', q1.cons e, by simp [q2], fun i e' p h1 h2 => ?_⟩
        cases i with
        | zero => exact hr 0 e' p (by simpa using h1) (by simpa using h2)
        | succ i => exact q3 i e' p (by simpa using h1) (by simpa using h2)
    | swap x y t =>
      intro l hl hr
      match l, hl with
      | a :: b :: l, hl =>
        refine ⟨b :: a :: l, List.Perm.swap a b l, by simpa using hl, fun i e p h1 h2 => ?_⟩
        match i, h1, h2 with
        | 0, h1, h2 => exact hr 1 e p (by simpa using h1) (by simpa using h2)
        | 1, h1, h2 => exact hr 0 e p (by simpa using h1) (by simpa using h2)
        | i + 2, h1, h2 => exact hr (i + 2) e p (by simpa using h1) (by simpa using h2)
    | trans _ _ ih1 ih2 =>
      intro l hl hr
      obtain ⟨l1, q1, q2, q3⟩ := ih1 l hl hr
      obtain ⟨l2, p1, p2, p3⟩ := ih2 l1 q2 q3
      exact ⟨l2, p1.trans q1, p2, p3⟩
  rintro ⟨l, h1, h2, h3⟩
  obtain ⟨l', q1, q2, q3⟩ := main hp l h2 h3
  exact ⟨l', q1.trans h1, q2, q3⟩

theorem HRep.weak {h2 : GH} (hr : HRep B ρ h w) (hw : wkH h h2) : HRep B ρ h2 w := by
  have live : ∀ b, (h2.get b).isDead = false → (h.get b).isDead = false ∧ likeB (h.get b) (h2.get b) := by
    intro b hb
    rcases hw.2 b with e | e
    · rw [e] at hb; cases hb
    · refine ⟨?_, e⟩
      rcases e with e | ⟨v, kv, kv', e1, e2, _⟩
      · rw [← e]; exact hb
      · rw [e1]; rfl
  refine { blk := fun b r z hb hρ => ?_, inj := fun b b' r z z' hb hb' => hr.inj b b' r z z' (live b hb).1 (live b' hb').1, lo := hr.lo, dom := fun b x hx => by rw [hw.1]; exact hr.dom b x hx, top := hr.top, pl := hr.pl, pt := fun b hb => by rw [hw.1]; exact hr.pt b hb }
  obtain ⟨l1, l2⟩ := live b hb
  have h1 := hr.blk b r z l1 hρ
  have hm : ∀ m v kv, h2.get m = .map v kv → ∃ kv0, h.get m = .map v kv0 := by
    intro m v kv hm
    rcases hw.2 m with e | e | ⟨v', k1, k2, e1, e2, _⟩
    · rw [e] at hm; cases hm
    · exact ⟨kv, by rw [← e]; exact hm⟩
    · rw [e2] at hm; cases hm; exact ⟨_, e1⟩
  rcases l2 with e | ⟨v, kv, kv', e1, e2, hp⟩
  · rw [e]
    refine h1.frame (Rho.le_refl ρ) rfl fun m ver cur rem v kv rm zm _ _ hk => ?_
    obtain ⟨kv0, hk0⟩ := hm m v kv hk
    exact .inl ⟨kv0, hk0, rfl⟩
  · rw [e1] at h1
    rw [e2]
    obtain ⟨es, clock, q1, q2, q3, q4, q5⟩ := h1
    exact ⟨es, clock, q1, q2.perm hp, (hp.map _).nodup_iff.1 q3, by rw [← hp.length_eq]; exact q4, q5⟩

theorem FRep.weak {s2 : S} (h : FRep ρ n s d a) (hw : wkS s s2) : FRep ρ n s2 d a :=
  { h with s := ⟨h.s.1, fun t => by
      rcases hw t with e | e
      · rw [e]; exact h.s.2 t
      · rw [e]; exact .undef _⟩ }

theorem Fr.weak {s2 : S} {h2 : GH} (hF : Fr B n fn ro b ρ s d h a w) (hs : wkS s s2) (hh : wkH h h2) : Fr B n fn ro b ρ s2 d h2 a w := ⟨hF.f, hF.ro, hF.h.weak hh, hF.s.weak hs⟩

theorem joinSK_eq {β : Type} (s s' : S) : ∀ (m : Nat) (acc : S) (k : S → β), (∀ t, acc t = .undef ∨ (acc t = s t ∧ s t = s' t)) → ∃ s2, joinSK s s' m acc k = k s2 ∧ ∀ t, s2 t = .undef ∨ (s2 t = s t ∧ s t = s' t)
  | 0, acc, k, h => ⟨acc, rfl, h⟩
  | m + 1, acc, k, h => by
    show ∃ s2, Bool.rec (motive := fun _ => β) (joinSK s s' m acc k) (joinSK s s' m (setS m acc (s m)) k) (gB 60 (s m) (s' m)) = k s2 ∧ _
    cases hb : gB 60 (s m) (s' m) with
    | false => exact joinSK_eq s s' m acc k h
    | true =>
      refine joinSK_eq s s' m (setS m acc (s m)) k fun t => ?_
      have := getS_setS m t acc (s m)
      by_cases e : m = t
      · subst e
        have hset := getS_setS m m acc (s m)
        rw [if_pos rfl] at hset
        exact .inr ⟨hset, gB_eq hb⟩
      · have hset := getS_setS t m acc (s m)
        rw [if_neg (fun h => e h.symm)] at hset
        rcases h t with q | q
        · exact .inl (hset.trans q)
        · exact .inr ⟨hset.trans q.1, q.2⟩

theorem joinR_ok {r r' : Res} (e : joinR n r r' = .fr x s d h) : (∃ s1 h1, r = .fr x s1 d h1 ∧ wkS s1 s ∧ wkH h1 h) ∧ ∃ s1 h1, r' = .fr x s1 d h1 ∧ wkS s1 s ∧ wkH h1 h := by
  unfold joinR at e
  split at e
  case h_2 => cases e
  rename_i x1 s1 d1 h1
  split at e
  case h_2 => cases e
  rename_i x2 s2 d2 h2
  split at e
  case h_2 => cases e
  rename_i b1 b2 b3
  have b1 := gxB_eq b1
  have b2 := natsB_eq b2
  have b3 := Nat.eq_of_beq_eq_true b3
  subst b1; subst b2
  obtain ⟨s3, e1, e2⟩ := joinSK_eq s1 s2 n S0 (fun s2 => T.joinK h1.t h2.t (fun t => Res.fr x1 s2 d1 ⟨h1.size, t⟩)) (fun t => .inl rfl)
  rw [e1, T.joinK_eq] at e
  cases e
  have hj : ∀ b, (⟨h1.size, h1.t.join h2.t⟩ : GH).get b = .dead ∨ ((⟨h1.size, h1.t.join h2.t⟩ : GH).get b = h1.get b ∧ eqGB (h1.get b) (h2.get b) = true) := fun b => T.get_join h1.t h2.t b
  refine ⟨⟨s1, h1, rfl, fun t => ?_, rfl, fun b => ?_⟩, s2, h2, rfl, fun t => ?_, b3, fun b => ?_⟩
  · rcases e2 t with q | q
    · exact .inr q
    · exact .inl q.1
  · rcases hj b with q | q
    · exact .inl q
    · exact .inr (.inl q.1)
  · rcases e2 t with q | q
    · exact .inr q
    · exact .inl (q.1.trans q.2)
  · rcases hj b with q | q
    · exact .inl q
    · exact .inr (by rw [q.1]; exact eqGB_like q.2)

theorem picks_ok {f : G × G → List (G × G) → Res} : ∀ (l pre : List (G × G)) (s : S) (h : GH), picks n f l pre = .fr x s d h → ∀ a p b, l = a ++ p :: b → ∃ s1 h1, f p (pre ++ a ++ b) = .fr x s1 d h1 ∧ wkS s1 s ∧ wkH h1 h
  | [], _, _, _, e, _, _, _, hl => by cases e
  | [q], pre, s, h, e, a, p, b, hl => by
    cases a with
    | nil => simp at hl; obtain ⟨rfl, rfl⟩ := hl; exact ⟨s, h, by simpa [picks] using e, .refl s, .refl h⟩
    | cons y a => simp at hl
  | q :: q' :: r, pre, s, h, e, a, p, b, hl => by
    obtain ⟨⟨s1, h1, e1, e2, e3⟩, s2, h2, e4, e5, e6⟩ := joinR_ok (show joinR n (f q (pre ++ q' :: r)) (picks n f (q' :: r) (pre ++ [q])) = _ from e)
    cases a with
    | nil => simp at hl; obtain ⟨rfl, rfl⟩ := hl; exact ⟨s1, h1, by simpa using e1, e2, e3⟩
    | cons y a =>
      simp at hl
      obtain ⟨rfl, hl⟩ := hl
      obtain ⟨s3, h3, q1, q2, q3⟩ := picks_ok (q' :: r) (pre ++ [q]) _ _ e4 a p b hl
      exact ⟨s3, h3, by simpa using q1, q2.trans e5, q3.trans e6⟩

theorem mrOf_eq {c : Code} {o : Oper} {y : Operand} {os : List Oper} {rest : Code} (h : mrOf c = some (o, y, os, rest)) : ∃ id, c = .seq (.region id ⟨o :: os⟩ false) rest ∧ o.guard = none ∧ o.op = .next y false := by
  unfold mrOf at h
  split at h
  case h_2 => cases h
  rename_i id ops rest'
  split at h
  case h_2 => cases h
  rename_i o' os' hops
  split at h
  case h_2 => cases h
  rename_i y' hg ho
  cases h
  refine ⟨id, ?_, hg, ho⟩
  have : ops = ⟨o :: os⟩ := by rw [← hops]
  rw [this]

/-- An iterator over a map goes on. -/
theorem next_ok {bt m v r z : Nat} {cur : Option (G × G)} {rem kv : List (G × G)} {o : Oper} {y : Operand} (ho : o.op = .next y false) (hy : evA y s = .ptr bt 0) (hb : h.get bt = .miter m v cur rem) (hm : h.get m = .map v kv) (hne : rem ≠ [])
    (hr : HRep B ρ h w) (hs : SRep ρ s a.tmps) : ∃ l p t u w', rem = l ++ p :: t ∧ (execOp a.eval o).run P w = .ok (.value u) w' ∧ RepG ρ u (.tup [.bool true, p.1, p.2]) ∧ Kept B w w' ∧ ∀ h1, h.set? bt (.miter m v (some p) (l ++ t)) = some h1 → HRep B ρ h1 w' := by
  have hxr := evA_rep hs y
  rw [hy] at hxr
  obtain ⟨r, z, e1, hρ⟩ := hxr.ptrInv
  obtain ⟨rm, zm, seen, stepped, es, clock, q1, q2, q3, q4, q5, q6, q7, q8⟩ := miter_at hr hb hm hρ
  subst q4
  have hlen := q5.length
  have hne2 : ¬ (leftOf es seen).size = 0 := by
    unfold leftOf
    intro h0
    have : (es.toList.filter fun e => !seen.contains e.born).length = 0 := by rw [← Array.toList_filter, Array.length_toList]; exact h0
    rw [this] at hlen
    exact hne (List.eq_nil_of_length_eq_zero hlen.symm)
  rcases run_next_at (P := P) w 0 r rm _ _ seen es _ q2 q3 q7 (Nat.le_refl _) with ⟨h0, _⟩ | ⟨e, he, w1, hw1, hrun⟩
  · exact absurd h0 hne2
  have hef : e ∈ es.toList.filter fun e => !seen.contains e.born := by unfold leftOf at he; rwa [Array.toList_filter] at he
  obtain ⟨l, k1, k2, k3⟩ := q5
  obtain ⟨j, hj⟩ := List.getElem?_of_mem (k1.mem_iff.2 hef)
  have hjl := (List.getElem?_eq_some_iff.1 hj).1
  have hpj : rem[j]? = some (rem[j]'(by omega)) := List.getElem?_eq_getElem _
  have hsplit : ∀ {α : Type} (l : List α) (x : α), l[j]? = some x → l = l.take j ++ x :: l.drop (j + 1) := by
    intro α l x hx
    have hlt := (List.getElem?_eq_some_iff.1 hx).1
    have hx' : l[j] = x := (List.getElem?_eq_some_iff.1 hx).2
    conv => lhs; rw [← List.take_append_drop j l, List.drop_eq_getElem_cons hlt, hx']
  have hrep := k3 j e _ hj hpj
  refine ⟨rem.take j, rem[j]'(by omega), rem.drop (j + 1), .tuple #[.bool true, e.key, e.val], ChangeMaps.setBlock w1 r (.mapIter (some rm) stepped (seen.push e.born) stepped), hsplit rem _ hpj, ?_, tup_rep (.mk (.bool _) (.mk hrep.1 (.mk hrep.2 .nil))), ?_, fun h1 hset => ?_⟩
  · have : ∀ ty, (Instr.next (.pointer (some ⟨r, 0, none⟩)) false ty).run P w = (Instr.next (.pointer (some ⟨r, 0, none⟩)) false 0).run P w := fun ty => rfl
    simp [execOp, ho, e1, this, hrun]
  · have hk : Kept B w1 (ChangeMaps.setBlock w1 r (.mapIter (some rm) stepped (seen.push e.born) stepped)) := Kept.write (hr.lo _ _ _ hρ).1
    rcases hw1 with rfl | rfl
    · exact hk
    · exact (Kept.drew B w).trans hk
  · have hborn : ((l.map (·.born))).Nodup := (k1.map _).nodup_iff.2 (q8.sublist (List.Sublist.map _ List.filter_sublist))
    have hlsplit := hsplit l e hj
    have hfl : l.filter (fun e' => !(e'.born == e.born)) = l.take j ++ l.drop (j + 1) := by
      rw [hlsplit] at hborn
      simp only [List.map_append, List.map_cons] at hborn
      have hn := List.nodup_append.1 hborn
      conv => lhs; rw [hlsplit]
      rw [List.filter_append, List.filter_cons_of_neg (by simp)]
      congr 1
      · refine List.filter_eq_self.2 fun x hx => ?_
        have := hn.2.2 x.born (List.mem_map.2 ⟨x, hx, rfl⟩) e.born (by simp)
        simpa using this
      · refine List.filter_eq_self.2 fun x hx => ?_
        have := (List.nodup_cons.1 hn.2.1).1
        simp only [Bool.not_eq_true', beq_eq_false_iff_ne]
        intro h0
        exact this (List.mem_map.2 ⟨x, hx, h0⟩)
    have hkv : KvRep ρ (es.toList.filter fun e' => !(seen.push e.born).contains e'.born) (rem.take j ++ rem.drop (j + 1)) := by
      refine ⟨l.take j ++ l.drop (j + 1), ?_, by simp [k2], fun i e' p' h1 h2 => ?_⟩
      · rw [← hfl]
        have e2 : (es.toList.filter fun e' => !(seen.push e.born).contains e'.born) = (es.toList.filter fun e' => !seen.contains e'.born).filter (fun e' => !(e'.born == e.born)) := by
          rw [List.filter_filter]
          congr 1
          funext e'
          rw [contains_push, Bool.not_or, Bool.and_comm]
        rw [e2]
        exact k1.filter _
      · by_cases hi : i < j
        · rw [List.getElem?_append_left (by simp; omega), List.getElem?_take_of_lt hi] at h1
          rw [List.getElem?_append_left (by simp; omega), List.getElem?_take_of_lt hi] at h2
          exact k3 i e' p' h1 h2
        · rw [List.getElem?_append_right (by simp; omega), List.getElem?_drop] at h1
          rw [List.getElem?_append_right (by simp; omega), List.getElem?_drop] at h2
          simp only [List.length_take] at h1 h2
          rw [Nat.min_eq_left (by omega)] at h1 h2
          exact k3 _ e' p' h1 h2
    have hrlt := (Array.getElem?_eq_some_iff.1 q2).1
    obtain ⟨hsz, hget⟩ := GH.get_set hset
    have hmb : m ≠ bt := fun e0 => by rw [e0, hb] at hm; cases hm
    have hrr : rm ≠ r := fun e0 => by
      subst e0
      rw [q2] at q3; cases q3
    have hr1 : HRep B ρ h w1 := by
      rcases hw1 with rfl | rfl
      · exact hr
      · exact hr.drew
    have hheap : w1.heap = w.heap := by rcases hw1 with rfl | rfl <;> rfl
    refine hr1.write1 hset (by rw [hb]; rfl) hρ ⟨rm, zm, stepped, seen.push e.born, stepped, q1, ?_, fun v' kv' hk => ?_⟩ (by simp)
    · show (w1.heap.setIfInBounds r _)[r]? = _
      rw [Array.getElem?_setIfInBounds_self_of_lt (by rw [hheap]; exact hrlt)]
    · rw [hget, if_neg hmb, hm] at hk
      cases hk
      refine ⟨Nat.le_refl _, fun _ es' clock' he' => ?_⟩
      have : (w1.heap.setIfInBounds r (.mapIter (some rm) stepped (seen.push e.born) stepped))[rm]? = some (.map es stepped) := by
        rw [Array.getElem?_setIfInBounds_ne (Ne.symm hrr), hheap, q3]
      rw [show ({ w1 with heap := w1.heap.setIfInBounds r (.mapIter (some rm) stepped (seen.push e.born) stepped) } : World).heap[rm]? = some (.map es stepped) from this] at he'
      cases he'
      exact ⟨rfl, rfl, hkv, e, seen, (List.mem_filter.1 hef).1, rfl, hrep.1, hrep.2⟩

theorem mloop_step (hc : Ctx3 P tb) (hih : ∀ c, CfgX P c (ih c)) {o : Oper} {y : Operand} {os : List Oper} {rest c : Code} {ic : S → List Nat → GH → Res} (hcode : mrOf c = some (o, y, os, rest))
    (hic : ∀ s d h, Items P n fn ro (.code c) s d h (ic s d h)) (N : Nat) (hrec : ∀ s d h, Items P n fn ro (.inLoop c) s d h (mloop tb ih n fn ro o y os rest ic N s d h)) (s : S) (d : List Nat) (h : GH) :
    ∀ x s' d' h', mloop tb ih n fn ro o y os rest ic (N + 1) s d h = .fr x s' d' h' → ∀ B ρ w a b cs is Q, Fr B n fn ro b ρ s d h a w →
      (∀ ρ' a' w', Fr B n fn ro b ρ' s' d' h' a' w' → ρ.le ρ' → Kept B w w' → After P b cs Q ρ' x is a' w') → Hk.Reach P b cs Q (.code c :: .inLoop c :: is) a w := by
  have plain : ∀ x s' d' h', seqR (ic s d h) (mloop tb ih n fn ro o y os rest ic N) = .fr x s' d' h' → ∀ B ρ w a b cs is Q, Fr B n fn ro b ρ s d h a w →
    (∀ ρ' a' w', Fr B n fn ro b ρ' s' d' h' a' w' → ρ.le ρ' → Kept B w w' → After P b cs Q ρ' x is a' w') → Hk.Reach P b cs Q (.code c :: .inLoop c :: is) a w := by
    intro x s' d' h' e B ρ w a b cs is Q hF hA
    exact Items.seq (.inLoop c) (hic s d h) hrec (fun id is => rfl) (fun l is => rfl) e hF hA
  intro x s' d' h' e B ρ w a b cs is Q hF hA
  have e : (match evA y s with
    | .ptr b 0 => match h.get b with
      | .miter m v _ rem => match rem with
        | [] => seqR (ic s d h) (mloop tb ih n fn ro o y os rest ic N)
        | p :: r => match h.get m with
          | .map v' _ => match Nat.beq v' v with
            | true => picks n (pick1 tb ih n fn ro o os rest (mloop tb ih n fn ro o y os rest ic N) s d h b m v) (p :: r) []
            | false => .fail
          | _ => .fail
      | _ => seqR (ic s d h) (mloop tb ih n fn ro o y os rest ic N)
    | _ => .fail) = Res.fr x s' d' h' := e
  split at e
  case h_2 => cases e
  rename_i bt hy
  split at e
  case h_2 => exact plain _ _ _ _ e B ρ w a b cs is Q hF hA
  rename_i m v cur rem hb
  split at e
  · exact plain _ _ _ _ e B ρ w a b cs is Q hF hA
  rename_i p0 r0
  split at e
  case h_2 => cases e
  rename_i v' kv hm
  split at e
  case h_2 => cases e
  rename_i hv
  have hv := Nat.eq_of_beq_eq_true hv
  subst hv
  obtain ⟨id, rfl, hg, ho⟩ := mrOf_eq hcode
  obtain ⟨l, p, t, u, w', k1, k2, k3, k4, k5⟩ := next_ok (P := P) (r := 0) (z := 0) ho hy hb hm (by simp) hF.h hF.s.s
  obtain ⟨s1, h1, e1, e2, e3⟩ := picks_ok _ _ _ _ e l p t k1
  refine reach_seq (reach_region ?_)
  rw [List.range_eq_range']
  have hrange : List.range' 0 (#[].push o ++ os.toArray : Array Oper).size = 0 :: List.range' 1 os.length := by simp [List.range'_succ, Nat.add_comm]
  have hrange2 : List.range' 0 (⟨o :: os⟩ : Array Oper).size = 0 :: List.range' 1 os.length := by simp [List.range'_succ]
  rw [hrange2]
  have hwant : Region.wanted o (yielded (⟨o :: os⟩ : Array Oper) a.tmps) = true := Hk.wanted_none hg
  refine reach_op (o := o) rfl hwant (fun c hc => by rw [ho] at hc; cases hc) ?_
  have e1' : wr h bt (.miter m v' (some p) (l ++ t)) (fun h1 => putK .fail n o.dst (.tup [.bool true, p.1, p.2]) s (fun s1 => seqR (seqR (gops tb n ih (o :: os) os d s1 h1) (fun s d h => ih (.go n fn ro rest s d h))) (mloop tb ih n fn ro o y os rest ic N))) .fail = .fr x s1 d' h1 := by simpa [pick1] using e1
  rw [wr_eq] at e1'
  cases hset : h.set? bt (.miter m v' (some p) (l ++ t)) with
  | none => rw [hset] at e1'; cases e1'
  | some h2 =>
  rw [hset] at e1'
  simp only [putK_eq] at e1'
  cases hd : dstB n o.dst with
  | false => rw [hd] at e1'; cases e1'
  | true =>
  rw [hd] at e1'
  simp only at e1'
  have hR : valY P ((execOp a.eval o).run P w) (fun v w1 => Hk.Reach P b cs Q (.inRegion (⟨o :: os⟩ : Array Oper) (List.range' 1 os.length) :: .code rest :: .inLoop (.seq (.region id ⟨o :: os⟩ false) rest) :: is) (a.put o.dst v) w1) (fun chain w1 => Q (.panic chain) a w1) := by
    rw [k2]
    have hF2 : Fr B n fn ro b ρ (putS o.dst (.tup [.bool true, p.1, p.2]) s) d h2 (a.put o.dst u) w' := ⟨hF.f, hF.ro, k5 h2 hset, hF.s.put hd k3⟩
    have hops := gops_ok hc.toCtx2 hih (rest := os) (j := 1) (n := n) (fn := fn) (ro := ro) (d := d) (all := o :: os) (putS o.dst (.tup [.bool true, p.1, p.2]) s) h2 rfl
    have hA2 : ∀ ρ' a' w1, Fr B n fn ro b ρ' s1 d' h1 a' w1 → ρ.le ρ' → Kept B w' w1 → After P b cs Q ρ' x is a' w1 := fun ρ' a' w1 q1 q2 q3 => hA ρ' a' w1 (q1.weak e2 e3) q2 (k4.trans q3)
    rcases seqR_fr e1' with ⟨s3, d3, h3, g1, g2⟩ | ⟨g1, g2⟩
    · exact Items.seq (.code rest) hops (fun s d h => hih (.go n fn ro rest s d h)) (fun id is => rfl) (fun l is => rfl) g1 hF2 fun ρ1 a1 w1 q1 q2 q3 =>
        hrec s3 d3 h3 _ _ _ _ g2 B ρ1 w1 a1 b cs is Q q1 fun ρ2 a2 w2 p1 p2 p3 => hA2 ρ2 a2 w2 p1 (Rho.le_trans q2 p2) (q3.trans p3)
    · exact Items.seq (.code rest) hops (fun s d h => hih (.go n fn ro rest s d h)) (fun id is => rfl) (fun l is => rfl) g1 hF2 fun ρ1 a1 w1 q1 q2 q3 => by
        have := hA2 ρ1 a1 w1 q1 q2 q3
        cases x with
        | norm => exact absurd rfl g2
        | ret => exact this
        | exit id => exact this
        | goto l => exact this
        | pan g => exact this
  exact valY.upon hR

theorem mloop_ok (hc : Ctx3 P tb) (hih : ∀ c, CfgX P c (ih c)) {o : Oper} {y : Operand} {os : List Oper} {rest c : Code} {ic : S → List Nat → GH → Res} (hcode : mrOf c = some (o, y, os, rest))
    (hic : ∀ s d h, Items P n fn ro (.code c) s d h (ic s d h)) : ∀ (N : Nat) (s : S) (d : List Nat) (h : GH), Items P n fn ro (.inLoop c) s d h (mloop tb ih n fn ro o y os rest ic N s d h)
  | 0, s, d, h => Items.fail
  | N + 1, s, d, h => fun x s' d' h' e B ρ w a b cs is Q hF hA => reach_inLoop (mloop_step hc hih hcode hic N (mloop_ok hc hih hcode hic N) s d h x s' d' h' e B ρ w a b cs is Q hF hA)

theorem mloop_code (hc : Ctx3 P tb) (hih : ∀ c, CfgX P c (ih c)) {o : Oper} {y : Operand} {os : List Oper} {rest c : Code} {ic : S → List Nat → GH → Res} (hcode : mrOf c = some (o, y, os, rest))
    (hic : ∀ s d h, Items P n fn ro (.code c) s d h (ic s d h)) (N : Nat) (s : S) (d : List Nat) (h : GH) : Items P n fn ro (.code (.loop c)) s d h (mloop tb ih n fn ro o y os rest ic N s d h) := by
  cases N with
  | zero => exact Items.fail
  | succ N => exact fun x s' d' h' e B ρ w a b cs is Q hF hA => reach_loop (mloop_step hc hih hcode hic N (mloop_ok hc hih hcode hic N) s d h x s' d' h' e B ρ w a b cs is Q hF hA)

theorem scopeR_ok {f : Code → S → List Nat → GH → Res} {body : Code} (hf : ∀ c s d h, Items P n fn ro (.code c) s d h (f c s d h)) : ∀ (N : Nat) (front : Item) (s : S) (d : List Nat) (h : GH) (r : Res), Items P n fn ro front s d h r →
    ∀ x s' d' h', scopeR f body N r = .fr x s' d' h' → ∀ B ρ w a b cs is Q, Fr B n fn ro b ρ s d h a w → (∀ ρ' a' w', Fr B n fn ro b ρ' s' d' h' a' w' → ρ.le ρ' → Kept B w w' → After P b cs Q ρ' x is a' w') → Hk.Reach P b cs Q (front :: .inScope body :: is) a w
  | 0, _, _, _, _, _, _, _, _, _, _, e => by cases e
  | N + 1, front, s, d, h, r, hr, x, s', d', h', e => by
    intro B ρ w a b cs is Q hF hA
    cases r with
    | fr x1 s1 d1 h1 =>
      refine hr _ _ _ _ rfl B ρ w a b cs (.inScope body :: is) Q hF fun ρ1 a1 w1 hF1 hρ hk => ?_
      cases x1 with
      | goto l =>
        have e : (match findLabel body l with | some c => scopeR f body N (f c s1 d1 h1) | none => .fr (.goto l) s1 d1 h1) = Res.fr x s' d' h' := e
        cases hl : findLabel body l with
        | some c =>
          rw [hl] at e
          simp only [After, gotoIn, hl]
          exact scopeR_ok hf N (.code c) s1 d1 h1 _ (hf c s1 d1 h1) x s' d' h' e B ρ1 w1 a1 b cs is Q hF1 fun ρ2 a2 w2 hF2 hρ2 hk2 => hA ρ2 a2 w2 hF2 (Rho.le_trans hρ hρ2) (hk.trans hk2)
        | none =>
          rw [hl] at e
          cases e
          have := hA ρ1 a1 w1 hF1 hρ hk
          simp only [After, gotoIn, hl] at this ⊢
          exact this
      | norm => cases e; exact reach_inScope (hA ρ1 a1 w1 hF1 hρ hk)
      | ret => cases e; exact hA ρ1 a1 w1 hF1 hρ hk
      | exit id => cases e; exact hA ρ1 a1 w1 hF1 hρ hk
      | pan g => cases e; exact hA ρ1 a1 w1 hF1 hρ hk
    | _ => cases e

/-- What is shown of code. -/
theorem gcode_ok (hc : Ctx3 P tb) (hih : ∀ c, CfgX P c (ih c)) : ∀ (c : Code) (s : S) (d : List Nat) (h : GH), GoS P n fn ro c s d h (gcode tb ih n fn ro c s d h)
  | .skip, s, d, h => by
    intro x s' d' h' e B ρ w a b cs is Q hF hA
    cases e; exact reach_skip (hA ρ a w hF (Rho.le_refl ρ) (Kept.refl B w))
  | .label _, s, d, h => by
    intro x s' d' h' e B ρ w a b cs is Q hF hA
    cases e; exact reach_label (hA ρ a w hF (Rho.le_refl ρ) (Kept.refl B w))
  | .ret, s, d, h => by
    intro x s' d' h' e B ρ w a b cs is Q hF hA
    cases e; exact reach_ret (hA ρ a w hF (Rho.le_refl ρ) (Kept.refl B w))
  | .exit id, s, d, h => by
    intro x s' d' h' e B ρ w a b cs is Q hF hA
    cases e
    have := hA ρ a w hF (Rho.le_refl ρ) (Kept.refl B w)
    simp only [After] at this
    cases hx : exitTo id is with
    | some k => rw [hx] at this; exact reach_exit hx this
    | none => rw [hx] at this; exact reach_exitOut hx this
  | .goto l, s, d, h => by
    intro x s' d' h' e B ρ w a b cs is Q hF hA
    cases e
    have := hA ρ a w hF (Rho.le_refl ρ) (Kept.refl B w)
    simp only [After] at this
    cases hx : gotoIn l is with
    | some k => rw [hx] at this; exact reach_goto hx this
    | none => rw [hx] at this; exact reach_gotoOut hx this
  | .refuse _, s, d, h => by intro x s' d' h' e; cases e
  | .seq p q, s, d, h => by
    intro x s' d' h' e B ρ w a b cs is Q hF hA
    exact reach_seq (Items.seq (.code q) (gcode_ok hc hih p s d h) (fun s d h => gcode_ok hc hih q s d h) (fun id is => rfl) (fun l is => rfl) (show seqR (gcode tb ih n fn ro p s d h) (gcode tb ih n fn ro q) = _ from e) hF hA)
  | .cond y p q, s, d, h => by
    intro x s' d' h' e B ρ w a b cs is Q hF hA
    have e : (match evA y s with | .bool t => Bool.rec (motive := fun _ => Res) (gcode tb ih n fn ro q s d h) (gcode tb ih n fn ro p s d h) t | _ => .fail) = Res.fr x s' d' h' := e
    have hv := evA_rep hF.s.s y
    cases hy : evA y s <;> rw [hy] at e hv <;> first | (cases e; done) | skip
    rename_i t
    have hv := hv.boolInv
    refine reach_cond hv ?_
    cases t with
    | true => exact gcode_ok hc hih p s d h _ _ _ _ e B ρ w a b cs is Q hF hA
    | false => exact gcode_ok hc hih q s d h _ _ _ _ e B ρ w a b cs is Q hF hA
  | .block id c, s, d, h => by
    intro x s' d' h' e B ρ w a b cs is Q hF hA
    obtain ⟨x1, e1, e2⟩ := blockR_fr (show blockR id (gcode tb ih n fn ro c s d h) = _ from e)
    refine reach_block (gcode_ok hc hih c s d h _ _ _ _ e1 B ρ w a b cs (.inBlock id :: is) Q hF fun ρ1 a1 w1 hF1 hρ hk => ?_)
    have hA1 := hA ρ1 a1 w1 hF1 hρ hk
    rcases e2 with ⟨rfl, rfl⟩ | ⟨rfl, hne⟩
    · simp only [After, exitTo, beq_self_eq_true, if_true]; exact hA1
    · cases x1 with
      | norm => exact reach_inBlock hA1
      | ret => exact hA1
      | exit j =>
        have hj : ¬ id = j := fun e => hne (by rw [e])
        simp only [After, exitTo, beq_iff_eq, hj, if_false] at hA1 ⊢
        exact hA1
      | goto l => exact hA1
      | pan g => exact hA1
  | .loop c, s, d, h => by
    show Items P n fn ro (.code (.loop c)) s d h (match mrOf c with
      | none => gloop (gcode tb ih n fn ro c) 100000000 s d h
      | some (o, x, os, rest) => mloop tb ih n fn ro o x os rest (gcode tb ih n fn ro c) 100000000 s d h)
    cases hm : mrOf c with
    | none => exact gloop_code (gcode_ok hc hih c) 100000000 s d h
    | some p =>
      obtain ⟨o, y, os, rest⟩ := p
      exact mloop_code hc hih hm (gcode_ok hc hih c) 100000000 s d h
  | .scope c, s, d, h => by
    intro x s' d' h' e B ρ w a b cs is Q hF hA
    exact reach_scope (scopeR_ok (f := fun c s d h => ih (.go n fn ro c s d h)) (fun c s d h => hih (.go n fn ro c s d h)) 100000000 (.code c) s d h _ (gcode_ok hc hih c s d h) x s' d' h' e B ρ w a b cs is Q hF hA)
  | .region id ⟨ops⟩ dr, s, d, h => by
    intro x s' d' h' e B ρ w a b cs is Q hF hA
    cases dr with
    | false =>
      have e : gops tb n ih ops ops d s h = .fr x s' d' h' := e
      refine reach_region ?_
      have := gops_ok hc.toCtx2 hih (rest := ops) (j := 0) (n := n) (fn := fn) (ro := ro) (d := d) (all := ops) s h (by simp) x s' d' h' e B ρ w a b cs is Q hF hA
      rw [List.range_eq_range']
      exact this
    | true =>
      have e : (match noDef ops with | true => (match dregion2 tb n ih ops s h with | some (s', h') => .fr .norm s' d h' | none => .fail) | false => .fail) = Res.fr x s' d' h' := e
      cases hnd : noDef ops with
      | false => rw [hnd] at e; cases e
      | true =>
        rw [hnd] at e
        simp only at e
        cases hd : dregion2 tb n ih ops s h with
        | none => rw [hd] at e; cases e
        | some p =>
          obtain ⟨s1, h1⟩ := p
          rw [hd] at e
          cases e
          have hn : n ≤ 256 := by have := hF.s.s.1; have := hF.s.size; omega
          exact draw_ok2 hc.toCtx2 (fun c => (hih c).s) hn hd hF.h hF.s (noDef_ok hnd) fun ρ1 a1 w1 q1 q2 q3 q4 => hA ρ1 a1 w1 ⟨hF.f, hF.ro.mono q2, q1, q3⟩ q2 q4
  | .rangeFunc g ps asg body, s, d, h => by
    intro x s' d' h' e B ρ w a b cs is Q hF hA
    have hro := hF.ro
    cases ro with
    | none =>
      have e : nw h .defd (fun db h1 => nw h1 (.loop .ready none fn s n ps asg body db) (fun l h2 => grange tb ih n fn none s (db :: d) (evA g s) l h2) .fail) .fail = .fr x s' d' h' := e
      have hb0 : b.roundOf = none := by
        cases hb : b.roundOf with
        | none => rfl
        | some r => rw [hb] at hro; exact hro.elim
      rw [nw_eq] at e
      cases h1e : h.push? .defd with
      | none => rw [h1e] at e; cases e
      | some h1 =>
      rw [h1e] at e
      simp only at e
      rw [nw_eq] at e
      cases h2e : h1.push? (.loop .ready none fn s n ps asg body h.size) with
      | none => rw [h2e] at e; cases e
      | some h2 =>
      rw [h2e] at e
      simp only at e
      have he := run_enterLoop_outer (P := P) (w := w) b.fn a.tmps ps asg body
      rw [← hb0] at he
      have r1 : HRep B (ρ.add h.size (w.heap.size, 0)) h1 (w.alloc (.deferred (some []))) := hF.h.push h1e (heap_push _)
      have l1 := hF.h.le_add (w.heap.size, 0)
      have hdb : (ρ.add h.size (w.heap.size, 0)) h.size = some (w.heap.size, 0) := by simp [Rho.add]
      have l2 := r1.le_add ((w.alloc (.deferred (some []))).heap.size, 0)
      have r2 := r1.push (z := 0) h2e (o := .loop { state := .ready, pending := none, fn := b.fn, tmps := a.tmps, params := ps, assign := asg, body, defers := w.heap.size })
        ⟨_, w.heap.size, 0, heap_push _, ⟨rfl, rfl, hF.f, rfl, rfl, rfl⟩, (hF.s.s.mono l1).mono l2, hF.s.size, l2 _ _ hdb, rfl⟩
      have hsz : (w.alloc (.deferred (some []))).heap.size = w.heap.size + 1 := by simp
      have k1 : Kept B w (w.alloc (.deferred (some []))) := Kept.push hF.h.top
      have k2 := k1.trans (Kept.push (o := .loop { state := .ready, pending := none, fn := b.fn, tmps := a.tmps, params := ps, assign := asg, body, defers := w.heap.size }) r1.top)
      refine grange_ok hc hih e he (ρ := ρ) (z := 0) (by simp [Rho.add, hsz]) (Rho.le_trans l1 l2) k2 ⟨hF.f, by rw [hb0]; trivial, r2, ?_⟩ hA
      refine ⟨(hF.s.s.mono l1).mono l2, hF.s.size, ?_⟩
      obtain ⟨rs, q1, q2, q3⟩ := hF.s.d
      refine ⟨w.heap.size :: rs, by simp [marksOf, q1], by simp [q2], fun i r b p q => ?_⟩
      cases i with
      | zero =>
        simp at p q
        subst p; subst q
        exact ⟨0, l2 _ _ hdb⟩
      | succ i =>
        obtain ⟨z, hz⟩ := q3 i r b (by simpa using p) (by simpa using q)
        exact ⟨z, l2 _ _ (l1 _ _ hz)⟩
    | some l0 =>
      have e : (match h.get l0 with | .loop _ _ _ _ _ _ _ _ db => nw h (.loop .ready none fn s n ps asg body db) (fun l h2 => grange tb ih n fn (some l0) s d (evA g s) l h2) .fail | _ => .fail) = Res.fr x s' d' h' := e
      cases hb : b.roundOf with
      | none => rw [hb] at hro; exact hro.elim
      | some r0 =>
      rw [hb] at hro
      obtain ⟨z0, hz0⟩ := hro
      cases hg0 : h.get l0 <;> rw [hg0] at e <;> first | (cases e; done) | skip
      rename_i st0 pend0 fn0 s0 n0 ps0 asg0 body0 db
      simp only at e
      rw [nw_eq] at e
      cases h2e : h.push? (.loop .ready none fn s n ps asg body db) with
      | none => rw [h2e] at e; cases e
      | some h2 =>
      rw [h2e] at e
      simp only at e
      obtain ⟨lr, rd, zd, b1, b2, _, _, b5, b6⟩ := hF.h.atρ hg0 rfl hz0
      have he := run_enterLoop_inner (P := P) b1 b.fn a.tmps ps asg body
      rw [← hb] at he
      have l2 := hF.h.le_add (w.heap.size, 0)
      have r2 := hF.h.push (z := 0) h2e (o := .loop { state := .ready, pending := none, fn := b.fn, tmps := a.tmps, params := ps, assign := asg, body, defers := lr.defers })
        ⟨_, rd, zd, heap_push _, ⟨rfl, rfl, hF.f, rfl, rfl, rfl⟩, hF.s.s.mono l2, hF.s.size, l2 _ _ b5, b6⟩
      exact grange_ok hc hih e he (ρ := ρ) (z := 0) (by simp [Rho.add]) l2 (Kept.push hF.h.top) ⟨hF.f, by rw [hb]; exact ⟨z0, l2 _ _ hz0⟩, r2, by simpa using hF.s.mono l2⟩ hA

end
end Go.Gx

/- A function that does something and tells whether it gave up: out of its walk what the ghost machine makes of it. -/
namespace Go.Gx

/-- What the walk shows of it. -/
def HoldsSpec (P : Program) (f : FuncId) (t tb : TypeId) : Prop := ∀ (g : FuncId) (fi ca : Array Value) (w : World) (K Kp : World → Prop),
  (callFunc g (fi ++ ca)).run P (w.alloc (.cells #[.bool false] tb)) = .ok (.enter g (fi ++ ca)) (w.alloc (.cells #[.bool false] tb)) →
  Calls P g (fi ++ ca) (w.alloc (.cells #[.bool false] tb)) (fun e w' => match e with
    | .returned _ => K w'
    | .panicked chain => chain = [{ v := .iface t (.agg #[]), recovered := false }] ∧ Kp w'
    | .outgrown => False) →
  (∀ w', K w' → w'.heap[w.heap.size]? = some (.cells #[.bool false] tb (0, 0))) → (∀ w', Kp w' → w'.heap[w.heap.size]? = some (.cells #[.bool false] tb (0, 0))) →
  Calls P f #[.func (.func g) fi ca] w fun e w' => (e = .returned (.bool true) ∧ ∃ w1, K w1 ∧ w' = w1.setCell ⟨w.heap.size, 0, none⟩ (.bool true)) ∨
    (e = .returned (.bool false) ∧ ∃ w1, Kp w1 ∧ w' = (w1.setCell ⟨w.heap.size, 0, none⟩ (.bool false)).alloc (.cells #[] t))

theorem setCell_block {w : World} {b : Nat} {v x : Value} {t : TypeId} (h : w.heap[b]? = some (.cells #[x] t (0, 0))) : w.setCell ⟨b, 0, none⟩ v = { w with heap := w.heap.setIfInBounds b (.cells #[v] t (0, 0)) } := by
  obtain ⟨hb, hx⟩ := Array.getElem?_eq_some_iff.1 h
  have : ∀ (A : Array Obj) (f : Obj → Obj), A[b]? = some (.cells #[x] t (0, 0)) → A.modify b f = A.setIfInBounds b (f (.cells #[x] t (0, 0))) := by
    intro A f hA
    apply Array.ext_getElem?
    intro i
    rw [Array.getElem?_modify, Array.getElem?_setIfInBounds]
    by_cases hi : b = i
    · subst hi; rw [if_pos rfl, if_pos rfl, hA]; simp [(Array.getElem?_eq_some_iff.1 hA).1]
    · rw [if_neg hi, if_neg hi]
  unfold World.setCell
  rw [this _ _ h]
  rfl

/-- Blocks for which nothing of the ghost stands may change. -/
theorem HRep.change {B B' : Bl} {ρ : Rho} {h : GH} {w w2 : World} (hr : HRep B' ρ h w) (hsub : ∀ r, B.r r → B'.r r) (hp : B'.p = B.p) (hsz : w.heap.size ≤ w2.heap.size) (hs : ∀ r, r < w.heap.size → ¬ B'.r r → w2.heap[r]? = w.heap[r]?) : HRep B ρ h w2 :=
  { blk := fun b r z hb h1 => (hr.blk b r z hb h1).frame (Rho.le_refl ρ) (hs r (hr.lo b r z h1).2 (hr.lo b r z h1).1) fun _ _ _ _ _ kv rm zm _ hm hk => .inl ⟨kv, hk, hs rm (hr.lo _ _ _ hm).2 (hr.lo _ _ _ hm).1⟩,
    inj := hr.inj, lo := fun b r z h1 => ⟨fun hB => (hr.lo b r z h1).1 (hsub r hB), Nat.lt_of_lt_of_le (hr.lo b r z h1).2 hsz⟩, dom := hr.dom, top := fun r hB => Nat.lt_of_lt_of_le (hr.top r (hsub r hB)) hsz, pl := by rw [← hp]; exact hr.pl, pt := by rw [← hp]; exact hr.pt }

theorem hold_of {P : Program} {f : FuncId} {t tb : TypeId} {fn : Func} {cf : Code} (hf : P.funcs[f]? = some fn) (hn : (fn.name == "runtime.NumGoroutine") = false) (hb : fn.body = some cf) (hs : HoldsSpec P f t tb) : HoldOk P f t := by
  intro g fi ca h res fc c hgf hgn hgb hS B ρ w xs hr hargs
  have hxs : ∃ first cap : Array Value, xs = #[.func (.func g) first cap] ∧ RepGs ρ (first ++ cap).toList (fi ++ ca) := by
    obtain ⟨l, rfl⟩ : ∃ l : List Value, xs = l.toArray := ⟨xs.toList, by simp⟩
    rw [List.toList_toArray] at hargs
    match l, hargs with
    | [v], hargs =>
      have hv := hargs.cons.1
      cases hv with
      | fn _ first cap _ _ h1 h2 h3 h4 =>
        refine ⟨first, cap, rfl, ?_⟩
        rw [Array.toList_append]
        exact RepGs.append ⟨by simpa using h1, fun i v g p q => h3 i v g (by simpa using p) q⟩ ⟨by simpa using h2, fun i v g p q => h4 i v g (by simpa using p) q⟩
    | [], hargs => simp [RepGs] at hargs
    | _ :: _ :: _, hargs => simp [RepGs] at hargs
  obtain ⟨first, cap, rfl, hg⟩ := hxs
  rw [Hk.run_callFunc_body hf hn hb]
  have hheap : (w.alloc (.cells #[.bool false] tb)).heap = w.heap.push (.cells #[.bool false] tb (0, 0)) := by rw [alloc_eq]
  have hgrow : ∀ r, r < w.heap.size → (w.alloc (.cells #[.bool false] tb)).heap[r]? = w.heap[r]? := fun r hr => by
    rw [hheap]; simp [Array.getElem?_push, Nat.ne_of_lt hr]
  have hself : (w.alloc (.cells #[.bool false] tb)).heap[w.heap.size]? = some (.cells #[.bool false] tb (0, 0)) := by rw [hheap]; simp
  have hsize : (w.alloc (.cells #[.bool false] tb)).heap.size = w.heap.size + 1 := by rw [hheap]; simp
  -- the block of the result is kept
  have hr1 : HRep ⟨fun r => B.r r ∨ r = w.heap.size, B.p⟩ ρ h (w.alloc (.cells #[.bool false] tb)) := by
    have h0 : HRep B ρ h (w.alloc (.cells #[.bool false] tb)) := hr.change (fun _ h => h) rfl (by omega) fun r hr _ => hgrow r hr
    exact { blk := h0.blk, inj := h0.inj, lo := fun b r z h1 => ⟨fun hB => hB.elim (h0.lo b r z h1).1 fun e => by have := (hr.lo b r z h1).2; omega, (h0.lo b r z h1).2⟩, dom := h0.dom,
            top := fun r hB => hB.elim (h0.top r) fun e => by omega, pl := h0.pl, pt := h0.pt }
  have hcall := hS ⟨fun r => B.r r ∨ r = w.heap.size, B.p⟩ ρ _ (first ++ cap) hr1 hg
  have hrun := Hk.run_callFunc_body (w := w.alloc (.cells #[.bool false] tb)) hgf hgn hgb (first ++ cap)
  rw [hrun] at hcall
  have hk0 : Kept B w (w.alloc (.cells #[.bool false] tb)) := Kept.push hr.top
  have keep : ∀ w1, Kept ⟨fun r => B.r r ∨ r = w.heap.size, B.p⟩ (w.alloc (.cells #[.bool false] tb)) w1 → w1.heap[w.heap.size]? = some (.cells #[.bool false] tb (0, 0)) := fun w1 hk => (hk.block _ (.inr rfl)).trans hself
  have fin : ∀ (ρ1 : Rho) (h1 : GH) (w1 : World) (x : Value), HRep ⟨fun r => B.r r ∨ r = w.heap.size, B.p⟩ ρ1 h1 w1 → Kept ⟨fun r => B.r r ∨ r = w.heap.size, B.p⟩ (w.alloc (.cells #[.bool false] tb)) w1 →
      HRep B ρ1 h1 (w1.setCell ⟨w.heap.size, 0, none⟩ x) ∧ Kept B w (w1.setCell ⟨w.heap.size, 0, none⟩ x) := by
    intro ρ1 h1 w1 x q1 q2
    have hc := keep w1 q2
    rw [setCell_block hc]
    refine ⟨q1.change (fun _ h => .inl h) rfl (by simp) fun r _ hB => ?_, ⟨q2.os, q2.tape, q2.output, ?_, fun r hB => ?_⟩⟩
    · have : r ≠ w.heap.size := fun e => hB (.inr e)
      simp [Array.getElem?_setIfInBounds_ne (Ne.symm this)]
    · have := q2.size; simp; omega
    · have hlt := hr.top r hB
      have : w.heap.size ≠ r := by omega
      simp only [Array.getElem?_setIfInBounds_ne this]
      exact (q2.block r (.inl hB)).trans (hgrow r hlt)
  cases res with
  | fail => trivial
  | fr => trivial
  | rv v h1 =>
    have hcall : Calls P g (first ++ cap) (w.alloc (.cells #[.bool false] tb)) (fun e w' => match e with | .returned v' => OutK ⟨fun r => B.r r ∨ r = w.heap.size, B.p⟩ ρ (w.alloc (.cells #[.bool false] tb)) v h1 v' w' | .panicked _ => False | .outgrown => False) := hcall
    refine Calls.mono (hs g first cap w (fun w1 => ∃ ρ1, HRep ⟨fun r => B.r r ∨ r = w.heap.size, B.p⟩ ρ1 h1 w1 ∧ ρ.le ρ1 ∧ Kept ⟨fun r => B.r r ∨ r = w.heap.size, B.p⟩ (w.alloc (.cells #[.bool false] tb)) w1) (fun _ => False) hrun (Calls.mono hcall ?_) (fun w1 ⟨_, _, _, hk⟩ => keep w1 hk) (fun _ h => h.elim)) ?_
    · intro e w1 he
      cases e with
      | returned v1 => obtain ⟨ρ1, g1, g2, g3, g4⟩ := he; exact ⟨ρ1, g1, g2, g4⟩
      | panicked => exact he.elim
      | outgrown => exact he.elim
    · rintro e w2 (⟨rfl, w1, ⟨ρ1, g1, g2, g3⟩, rfl⟩ | ⟨_, _, hf, _⟩)
      · obtain ⟨k1, k2⟩ := fin ρ1 h1 w1 (.bool true) g1 g3
        exact ⟨ρ1, k1, g2, .bool true, k2⟩
      · exact hf.elim
  | rp v h1 =>
    unfold holdR
    split
    · rename_i hh; cases hh
    · rename_i t' g' _ hh
      cases hh
      split
      · rename_i l
        split
        · cases htt : Nat.beq t' t with
          | false => trivial
          | true =>
            have htt := Nat.eq_of_beq_eq_true htt
            subst htt
            have hcall : Calls P g (first ++ cap) (w.alloc (.cells #[.bool false] tb)) (fun e w' => match e with | .returned _ => False | .panicked chain => PanK ⟨fun r => B.r r ∨ r = w.heap.size, B.p⟩ ρ (w.alloc (.cells #[.bool false] tb)) (.if_ t' (.agg [])) h1 chain w' | .outgrown => False) := hcall
            refine Calls.mono (hs g first cap w (fun _ => False) (fun w1 => ∃ ρ1, HRep ⟨fun r => B.r r ∨ r = w.heap.size, B.p⟩ ρ1 h1 w1 ∧ ρ.le ρ1 ∧ Kept ⟨fun r => B.r r ∨ r = w.heap.size, B.p⟩ (w.alloc (.cells #[.bool false] tb)) w1) hrun (Calls.mono hcall ?_) (fun _ h => h.elim) (fun w1 ⟨_, _, _, hk⟩ => keep w1 hk)) ?_
            · intro e w1 he
              cases e with
              | returned v1 => exact he.elim
              | panicked chain =>
                obtain ⟨ρ1, v1, g0, g1, g2, g3, g4⟩ := he
                cases g3 with
                | if_ _ x _ hx =>
                  cases hx with
                  | agg cs l hl _ _ =>
                    have : cs = #[] := Array.eq_empty_of_size_eq_zero (by simpa using hl)
                    subst this
                    exact ⟨g0, ρ1, g1, g2, g4⟩
              | outgrown => exact he.elim
            · rintro e w2 (⟨_, _, hf, _⟩ | ⟨rfl, w1, ⟨ρ1, g1, g2, g3⟩, rfl⟩)
              · exact hf.elim
              · obtain ⟨k1, k2⟩ := fin ρ1 h1 w1 (.bool false) g1 g3
                refine ⟨ρ1, k1.change (fun _ h => h) rfl (by rw [alloc_eq]; simp) (fun r hr _ => by rw [alloc_eq]; rw [Array.getElem?_push, if_neg (Nat.ne_of_lt hr)]), g2, .bool false, k2.trans (Kept.push k1.top)⟩
        · trivial
      · trivial
    · trivial

end Go.Gx

namespace Go.Gx
end Go.Gx

/- term.sorted, of a set that lies in a block: what it gives, whatever the order in which the set gives its names. -/
namespace Go.Hk
open Go.Proofs Go.RowKit Go.Maps Go.Sort Go.MapKept
open Go.WideElems (Fit rd rg rg_of rd_mk)

def keyB : Value → List UInt8
  | .string s => s.data.toList
  | _ => []

theorem sorted_calls (w : World) (bm : Nat) (es : Array MapEntry) (clock : Nat) (hb : w.heap[bm]? = some (.map es clock)) (hst : Stamped es clock) (hk : ∀ e ∈ es.toList, (∃ s : ByteArray, e.key = .string s ∧ s.size ≤ maxLen) ∧ ∃ c, e.val = .bool c) (hsz : es.size ≤ 1000000) :
    Calls Tryz.prog 49 #[.map (some bm)] w fun e w' => ∃ (v : Value) (ss : List (List UInt8)), e = .returned v ∧ ss.Perm (es.toList.map fun e => keyB e.key) ∧
      w'.ownsRow w.heap.size 9 1 v ss.length ((ss.mergeSort (fun x y => decide (x ≤ y))).map encStr) ∧ (v = .slice none 0 0 ↔ ss = []) ∧ Below w.heap.size w w' := by
  have hread : ∀ e ∈ es.toList, ∃ d, rd (H := Unit) Tryz.prog 9 (plainElem Tryz.prog 4) e = some (.string (keyB e.key), d) := by
    intro e he
    obtain ⟨⟨s, h1, h2⟩, c, h3⟩ := hk e he
    obtain ⟨k, v, born⟩ := e
    simp only at h1 h3
    subst h1; subst h3
    have hu := Tryz.underlying4
    have hv : plainElem (H := Unit) Tryz.prog 4 (.bool c) = some (.lit (.bool c), []) := by
      unfold plainElem
      generalize Tryz.prog.underlying 4 = u at hu
      subst hu; rfl
    exact ⟨_, rd_mk (WideMaps.keyOf_string_mk Tryz.underlying9 h2) hv⟩
  have hfit : Fit (H := Unit) Tryz.prog 9 (plainElem Tryz.prog 4) es clock := ⟨by unfold maxLen; omega, hst, fun x hx => by obtain ⟨d, hd⟩ := hread x hx; exact ⟨_, hd⟩⟩
  have hown : w.ownsMap (H := Unit) Tryz.prog 9 (plainElem Tryz.prog 4) bm es.size (.map ((es.toList.map (rg Tryz.prog 9 (plainElem Tryz.prog 4))).foldr DataW.insert [])) := ⟨es, clock, hb, hfit, Nat.le_refl _, rfl⟩
  have hsize : Maps.size (H := Unit) (.map ((es.toList.map (rg Tryz.prog 9 (plainElem Tryz.prog 4))).foldr DataW.insert [])) = es.size := by
    show (List.foldr DataW.insert [] _).length = _
    rw [length_sorted]; simp
  refine (callsIn_wide.1 (sorted_anyIn bm es.size _ w hown (by rw [hsize]; unfold maxLen; omega) (by rw [hsize]; omega))).mono ?_
  rintro e w' ⟨v, ss, h1, h2, h3, h4, h5⟩
  refine ⟨v, ss, h1, h2.trans ?_, h3, h4, h5⟩
  show (List.map (fun p => strOf p.1) (List.foldr DataW.insert [] (es.toList.map (rg Tryz.prog 9 (plainElem Tryz.prog 4))))).Perm _
  refine ((WideShapes.sorted_perm _).map _).trans ?_
  rw [List.map_map]
  refine List.Perm.of_eq (List.map_congr_left fun e he => ?_)
  obtain ⟨d, hd⟩ := hread e he
  simp only [Function.comp_apply, rg_of hd, strOf]

end Go.Hk

namespace Go.Gx
open Go.Hk (keyB sorted_calls)
open Go.Proofs Go.RowKit Go.Maps Go.Sort

def phi (b : List UInt8) : Nat × Nat := (b.length, pk b)
noncomputable def psi (p : Nat × Nat) : List UInt8 := (upk p.1 p.2).map UInt8.ofNat

theorem upk_pk : ∀ b : List UInt8, upk b.length (pk b) = b.map (·.toNat)
  | [] => rfl
  | x :: b => by
    have hx := x.toNat_lt
    show Nat.mod (x.toNat + 256 * pk b) 256 :: upk b.length (Nat.div (x.toNat + 256 * pk b) 256) = _
    have h1 : Nat.mod (x.toNat + 256 * pk b) 256 = x.toNat := by show (_ + _) % 256 = _; omega
    have h2 : Nat.div (x.toNat + 256 * pk b) 256 = pk b := by show (_ + _) / 256 = _; omega
    rw [h1, h2, upk_pk b]; rfl

theorem psi_phi (b : List UInt8) : psi (phi b) = b := by
  simp only [psi, phi, upk_pk, List.map_map]
  conv => rhs; rw [← List.map_id b]
  exact List.map_congr_left fun x _ => by simp

theorem ltN_lt : ∀ {x y : List UInt8}, ltN (x.map (·.toNat)) (y.map (·.toNat)) = true → x < y
  | [], [], h => by cases h
  | [], _ :: _, _ => List.nil_lt_cons _ _
  | _ :: _, [], h => by cases h
  | a :: x, b :: y, h => by
    simp only [List.map_cons, ltN] at h
    rw [List.cons_lt_cons_iff]
    split at h
    · rename_i hb
      rw [Nat.blt_eq] at hb
      exact .inl (UInt8.lt_iff_toNat_lt.2 hb)
    · split at h
      · rename_i hb
        exact .inr ⟨UInt8.toNat_inj.1 (Nat.eq_of_beq_eq_true hb), ltN_lt h⟩
      · cases h

theorem insK_perm (k : Nat × Nat) : ∀ l : List (Nat × Nat), (insK k l).Perm (k :: l)
  | [] => .refl _
  | j :: r => by
    simp only [insK]
    split
    · exact .refl _
    · exact ((insK_perm k r).cons j).trans (List.Perm.swap k j r)

theorem sortK_perm : ∀ l : List (Nat × Nat), (sortK l).Perm l
  | [] => .nil
  | k :: r => (insK_perm k (sortK r)).trans ((sortK_perm r).cons k)

theorem up_pairwise : ∀ {l : List (List UInt8)}, upB (l.map phi) = true → l.Pairwise (· < ·)
  | [], _ => .nil
  | [a], _ => List.pairwise_singleton _ a
  | a :: b :: r, h => by
    have h : (ltK (phi a) (phi b) && upB ((b :: r).map phi)) = true := h
    rw [Bool.and_eq_true] at h
    have ih := up_pairwise h.2
    have hab : a < b := by
      have := h.1
      simp only [ltK, phi, upk_pk] at this
      exact ltN_lt this
    refine List.Pairwise.cons (fun x hx => ?_) ih
    rcases List.mem_cons.1 hx with rfl | hx
    · exact hab
    · exact List.lt_trans hab ((List.pairwise_cons.1 ih).1 x hx)

theorem strsK_eq {R : Type} : ∀ (l : List (Nat × Nat)) (k : List G → R), strsK l k = k (l.map fun p => .str p.1 p.2)
  | [], k => rfl
  | p :: r, k => by simp only [strsK]; rw [strsK_eq r]; rfl

theorem keysK_rep {ρ : Rho} : ∀ {kv : List (G × G)} {K : List (Nat × Nat)} {l : List MapEntry}, keysK kv = some K → l.length = kv.length → (∀ (i : Nat) (e : MapEntry) (p : G × G), l[i]? = some e → kv[i]? = some p → RepG ρ e.key p.1 ∧ RepG ρ e.val p.2) →
    K = l.map (fun e => phi (keyB e.key)) ∧ kv.map (·.1) = K.map (fun p => .str p.1 p.2) ∧ ∀ e ∈ l, (∃ s : ByteArray, e.key = .string s ∧ s.size ≤ maxLen) ∧ ∃ c, e.val = .bool c
  | [], K, l, h, hl, _ => by
    cases h
    cases l with
    | nil => exact ⟨rfl, rfl, fun e he => by cases he⟩
    | cons => simp at hl
  | p :: r, K, l, h, hl, hr => by
    cases l with
    | nil => simp at hl
    | cons e l =>
      simp only [keysK] at h
      split at h
      case h_2 => cases h
      rename_i len n c t h1 h2 h3
      split at h
      case h_2 => cases h
      rename_i hle
      rw [Nat.ble_eq] at hle
      cases h
      obtain ⟨q1, q2, q3⟩ := keysK_rep h3 (by simpa using hl) (fun i e' p' a b => hr (i + 1) e' p' (by simpa using a) (by simpa using b))
      obtain ⟨r1, r2⟩ := hr 0 e p rfl rfl
      rw [h1] at r1
      rw [h2] at r2
      obtain ⟨s, e1, e2, e3⟩ := r1.strInv
      have e4 := r2.boolInv
      have hphi : phi (keyB e.key) = (len, n) := by
        rw [e1]
        show (s.data.toList.length, pk s.data.toList) = _
        rw [e3, ← e2]; rfl
      refine ⟨by rw [List.map_cons, hphi, q1], by rw [List.map_cons, List.map_cons, q2, h1], fun e' he' => ?_⟩
      rcases List.mem_cons.1 he' with rfl | he'
      · exact ⟨⟨s, e1, by unfold maxLen; omega⟩, c, e4⟩
      · exact q3 e' he'

set_option maxRecDepth 100000 in
theorem sort_ok : SortOk Tryz.prog 49 := by
  intro args h B ρ w xs hr hx
  unfold sortR
  split
  case h_2 => trivial
  rename_i m
  split
  case h_2 => trivial
  rename_i ver kv hm
  have hx1 : xs.toList.length = 1 := hx.1
  obtain ⟨xl⟩ := xs
  match xl, hx1 with
  | [x], _ =>
  have hxm : RepG ρ x (.map m) := hx.2 0 x _ rfl rfl
  obtain ⟨r, z, hρ⟩ := hxm.mapρ
  have hxv : x = .map (some r) := by
    cases hxm with
    | map _ r' z' h' => rw [hρ] at h'; cases h'; rfl
  subst hxv
  obtain ⟨es, clock, e1, e2, e3, e4, e5, e6⟩ := hr.atρ hm rfl hρ
  have hrun : (callFunc 49 #[.map (some r)]).run Tryz.prog w = .ok (.enter 49 #[.map (some r)]) w := Hk.run_callFunc_body (Go.Proofs.Tryz.func49) (by decide +kernel) rfl _
  have main : ∀ K, keysK kv = some K → K.length ≤ 1000000 → Calls Tryz.prog 49 #[.map (some r)] w fun e w' => ∃ (v : Value) (ss : List (List UInt8)), e = .returned v ∧ (ss.map phi).Perm K ∧
      w'.ownsRow w.heap.size 9 1 v ss.length ((ss.mergeSort (fun x y => decide (x ≤ y))).map encStr) ∧ (v = .slice none 0 0 ↔ ss = []) ∧ Below w.heap.size w w' := by
    intro K hK hlen
    obtain ⟨l, k1, k2, k3⟩ := e2
    obtain ⟨q1, q2, q3⟩ := keysK_rep hK k2 k3
    have hnd : (es.toList.map (·.key)).Nodup := by
      have h1 : (kv.map (·.1)).Nodup := e3
      rw [q2, q1, List.map_map] at h1
      have h2 : (l.map (·.key)).Nodup := by
        have : (l.map (·.key)).map (fun v => G.str (phi (keyB v)).1 (phi (keyB v)).2) = l.map ((fun p => G.str p.1 p.2) ∘ fun e => phi (keyB e.key)) := by rw [List.map_map]; rfl
        rw [← this] at h1
        exact (List.pairwise_map.1 h1).imp (fun {a b} hab e0 => hab (by rw [e0]))
      exact (k1.map _).nodup_iff.1 h2
    have hes : es.size ≤ 1000000 := by
      have h1 := k1.length_eq
      have h2 := congrArg List.length q1
      simp at h1 h2
      omega
    refine (sorted_calls w r es clock e1 ⟨e5, e6, hnd⟩ (fun e he => q3 e (k1.mem_iff.2 he)) hes).mono ?_
    rintro e w' ⟨v, ss, h1, h2, h3, h4, h5⟩
    refine ⟨v, ss, h1, ?_, h3, h4, h5⟩
    rw [q1]
    have := (h2.trans (k1.symm.map _)).map phi
    rw [List.map_map] at this
    exact this
  have kept : ∀ w', Below w.heap.size w w' → HRep B ρ h w' ∧ Kept B w w' := by
    intro w' hb
    refine ⟨hr.change (fun _ h => h) rfl hb.size (fun r' hr' _ => hb.block r' hr'), ⟨hb.os, hb.tape, hb.output, hb.size, fun r' hr' => hb.block r' (hr.top r' hr')⟩⟩
  split
  · rename_i hK
    show valY Tryz.prog ((callFunc 49 #[.map (some r)]).run Tryz.prog w) (OutK B ρ w .nils h) (fun _ _ => False)
    rw [hrun]
    refine (main [] hK (by simp)).mono ?_
    rintro e w' ⟨v, ss, rfl, h2, h3, h4, h5⟩
    have hss : ss = [] := by simpa using h2.eq_nil
    have hv := h4.2 hss
    subst hv
    exact ⟨ρ, (kept w' h5).1, Rho.le_refl ρ, .nils, (kept w' h5).2⟩
  · rename_i k ks hK
    split
    case h_2 => trivial
    rename_i hup
    rw [Bool.and_eq_true, Nat.ble_eq] at hup
    rw [strsK_eq, nw_eq]
    cases hp : h.push? (.cells ((sortK (k :: ks)).map fun p => .str p.1 p.2)) with
    | none => trivial
    | some h' =>
    show valY Tryz.prog ((callFunc 49 #[.map (some r)]).run Tryz.prog w) (OutK B ρ w (.sl h.size 0 (ks.length + 1) (ks.length + 1) (some 1)) h') (fun _ _ => False)
    rw [hrun]
    refine (main _ hK (by simp; omega)).mono ?_
    rintro e w' ⟨v, ss, rfl, h2, h3, h4, h5⟩
    have hlen : ss.length = ks.length + 1 := by simpa using h2.length_eq
    have hsort : (ss.mergeSort fun x y => decide (x ≤ y)).map phi = sortK (k :: ks) := by
      have hb' : ((sortK (k :: ks)).map psi).map phi = sortK (k :: ks) := by
        rw [List.map_map]
        conv => rhs; rw [← List.map_id (sortK (k :: ks))]
        refine List.map_congr_left fun p hp => ?_
        have : p ∈ ss.map phi := h2.symm.mem_iff.1 ((sortK_perm _).mem_iff.1 hp)
        obtain ⟨b, _, rfl⟩ := List.mem_map.1 this
        simp [psi_phi]
      have hpw : ((sortK (k :: ks)).map psi).Pairwise (· < ·) := up_pairwise (by rw [hb']; exact hup.1)
      have hperm : ss.Perm ((sortK (k :: ks)).map psi) := by
        have := (h2.trans (sortK_perm (k :: ks)).symm).map psi
        rw [List.map_map] at this
        have e0 : ss.map (psi ∘ phi) = ss := by
          conv => rhs; rw [← List.map_id ss]
          exact List.map_congr_left fun b _ => psi_phi b
        rwa [e0] at this
      have e1 : ss.mergeSort (fun x y => decide (x ≤ y)) = ((sortK (k :: ks)).map psi).mergeSort (fun x y => decide (x ≤ y)) := mergeSort_of_perm hperm
      rw [e1, List.mergeSort_of_pairwise (hpw.imp fun {a b} hab => by simpa using List.le_of_lt hab), hb']
    rcases h3.2 with ⟨hnil, hz⟩ | ⟨g, cap, cur, hv, hbase, hgb, r1, r2, r3, r4⟩
    · omega
    subst hv
    obtain ⟨p1, p2⟩ := kept w' h5
    have hglt := (Array.getElem?_eq_some_iff.1 hgb).1
    have hsame : ({ w' with heap := w'.heap.setIfInBounds g (.cells cur 9 (0, 0)) } : World) = w' := by
      have : w'.heap.setIfInBounds g (.cells cur 9 (0, 0)) = w'.heap := by
        apply Array.ext_getElem?
        intro i
        by_cases hi : g = i
        · subst hi; rw [Array.getElem?_setIfInBounds_self_of_lt hglt, hgb]
        · rw [Array.getElem?_setIfInBounds_ne hi]
      rw [this]
    have hcells : BRep (ρ.add h.size (g, cur.size)) h' { w' with heap := w'.heap.setIfInBounds g (.cells cur 9 (0, 0)) } g cur.size (.cells ((sortK (k :: ks)).map fun p => .str p.1 p.2)) := by
      rw [hsame]
      have hl : ((sortK (k :: ks)).map fun p => G.str p.1 p.2).length = ss.length := by
        rw [← hsort]; simp
      refine ⟨cur, 9, hgb, rfl, ?_, ?_, ?_⟩
      · rw [hl]; omega
      · rw [hl]
        simp only [Nat.mul_one] at r4
        rw [r4, ← hsort, List.map_map]
        refine ⟨by simp, fun i u g' hu hg' => ?_⟩
        rw [List.getElem?_map, Option.map_eq_some_iff] at hu hg'
        obtain ⟨b, hb1, rfl⟩ := hu
        obtain ⟨b', hb2, rfl⟩ := hg'
        rw [hb1] at hb2; cases hb2
        exact .str _ _ _ (rfl) rfl
      · rw [hl]
        simp only [Nat.mul_one] at r4
        rw [r4]
        intro v hv
        obtain ⟨b, _, rfl⟩ := List.mem_map.1 hv
        rfl
    have hbind := p1.bind hp (r := g) (z := cur.size) (o := .cells cur 9 (0, 0)) (fun j r' z' _ hj => by have := (hr.lo j r' z' hj).2; omega) (fun hB => by have := hr.top g hB; omega) hglt hcells
    rw [hsame] at hbind
    refine ⟨_, hbind, p1.le_add _, ?_, p2⟩
    rw [← hlen]
    exact .sl _ g cur.size 0 _ _ cap (some 1) (by simp [Rho.add]) (Nat.le_refl _) r1 r2 (by show 0 + cap * 1 = cur.size; omega)
  · trivial

end Go.Gx

/- The ghost machine: calls; frames that leave with marks; rounds; all of it, by fuel. -/
namespace Go.Gx
open Go.Hk (TT TTok TyI Sh lk TyOk ShOk nth nth_eq)

/-- The marks that a frame leaves with are come to. -/
def Marks (P : Program) : List Deferred → World → World → Prop
  | [], w, w' => w' = w
  | d :: ds, w, w' => ∃ r w1, d.target = .collected r ∧ (Instr.takeDeferred r).run P w = .ok [] w1 ∧ Marks P ds w1 w'

section
variable {P : Program} {tb : Tab} {ih : Cfg → Res} {n : Nat} {fn : FuncId} {ro : Option Nat} {s s' : S} {d d' : List Nat} {h h' : GH} {g : G} {res : Res} {B : Bl} {ρ : Rho} {w : World} {a : Act} {b : Frame} {cs : List Frame} {is k : List Item} {Q : Exit → Act → World → Prop} {x : GX}

theorem marks_steps : ∀ (ds : List Deferred) (w w' : World) (fr : Frame), fr.mode ≠ .run → fr.defers = ds → Marks P ds w w' → Steps P (lone fr cs w) (lone { fr with defers := [] } cs w')
  | [], w, w', fr, hm, hd, h => by
    subst h
    have : ({ fr with defers := [] } : Frame) = fr := by rw [← hd]
    rw [this]; exact Steps.refl _ _
  | d :: ds, w, w', fr, hm, hd, ⟨r, w1, h1, h2, h3⟩ => by
    have s1 := step_collected (cs := cs) hm hd h1 h2
    exact .head s1 (marks_steps ds w1 w' { fr with defers := [] ++ ds } hm rfl h3)

/-- How a function's frame ends. -/
def endPostM (P : Program) (fc : Func) (R : Ending → World → Prop) : Exit → Act → World → Prop
  | .normal, a, w | .ret, a, w => ∃ w' v, Marks P a.defers w w' ∧ (results fc a.tmps).run P w' = .ok v w' ∧ R (.returned v) w'
  | .panic chain, a, w => ∃ w', Marks P a.defers w w' ∧ R (.panicked chain) w'
  | _, _, _ => False

theorem calls_of_reachM {f : FuncId} {fc : Func} {c : Code} {args : Array Value} {R : Ending → World → Prop} (hf : P.funcs[f]? = some fc) (hb : fc.body = some c)
    (h : ∀ (b : Frame) (cs : List Frame), b.fn = f → b.kind = .normal → b.roundOf = none → Hk.Reach P b cs (endPostM P fc R) [.code c] { tmps := args ++ Array.replicate (fc.ntmps - args.size) undef, defers := [] } w) :
    Calls P f args w R := by
  intro cs
  obtain ⟨b, hb0⟩ : ∃ b : Frame, b = { (default : Frame) with fn := f, kind := .normal } := ⟨_, rfl⟩
  have henter : Frame.enter P f args .normal = b.atR { tmps := args ++ Array.replicate (fc.ntmps - args.size) undef, defers := [] } [.code c] := by
    subst hb0; simp [Frame.enter, Frame.atR, hf, hb]; rfl
  have hfn : b.fn = f := by rw [hb0]
  have hk : b.kind = .normal := by rw [hb0]
  have hro : b.roundOf = none := by rw [hb0]; rfl
  obtain ⟨e, a', w', hq, harr⟩ := h b cs hfn hk hro
  rw [← henter] at harr
  cases e with
  | normal =>
    obtain ⟨w2, v, hm, hr, hR⟩ := hq
    refine ⟨.returned v, w2, { ({ b.atR a' [] with mode := .returning } : Frame) with defers := [] }, hR, Steps.trans harr (.head (stepR_end hro) (marks_steps a'.defers w' w2 { b.atR a' [] with mode := .returning } (by simp) rfl hm)), hfn, rfl, rfl, hk, fc, by rw [show ({ ({ b.atR a' [] with mode := .returning } : Frame) with defers := [] } : Frame).fn = f from hfn]; exact hf, hr⟩
  | ret =>
    obtain ⟨w2, v, hm, hr, hR⟩ := hq
    obtain ⟨todo, hs⟩ := harr
    refine ⟨.returned v, w2, { ({ b.atR a' (.code .ret :: todo) with mode := .returning } : Frame) with defers := [] }, hR, Steps.trans hs (.head (stepR_ret hro) (marks_steps a'.defers w' w2 { b.atR a' (.code .ret :: todo) with mode := .returning } (by simp) rfl hm)), hfn, rfl, rfl, hk, fc, by rw [show ({ ({ b.atR a' (.code .ret :: todo) with mode := .returning } : Frame) with defers := [] } : Frame).fn = f from hfn]; exact hf, hr⟩
  | panic chain =>
    obtain ⟨w2, hm, hR⟩ := hq
    obtain ⟨todo, hs⟩ := harr
    exact ⟨.panicked chain, w2, { ({ b.atR a' todo with mode := .panicking chain } : Frame) with defers := [] }, hR, Steps.trans hs (marks_steps a'.defers w' w2 { b.atR a' todo with mode := .panicking chain } (by simp) rfl hm), hfn, rfl, rfl, fc, by rw [show ({ ({ b.atR a' todo with mode := .panicking chain } : Frame) with defers := [] } : Frame).fn = f from hfn]; exact hf⟩
  | exit id => exact hq.elim
  | goto l => exact hq.elim
  | outgrown => exact hq.elim

theorem killM_ok : ∀ (d : List Nat) (rs : List Nat) (h : GH) (w : World) (k : GH → Res) (res : Res), killM d h k = res → res ≠ .fail → HRep B ρ h w → rs.length = d.length →
    (∀ (i r b : Nat), rs[i]? = some r → d[i]? = some b → ∃ z, ρ b = some (r, z)) → ∃ h2 w2, k h2 = res ∧ HRep B ρ h2 w2 ∧ Kept B w w2 ∧ Marks P (marksOf rs) w w2
  | [], [], h, w, k, res, e, _, hr, _, _ => ⟨h, w, e, hr, Kept.refl B w, rfl⟩
  | [], _ :: _, _, _, _, _, _, _, _, hl, _ => by simp at hl
  | _ :: _, [], _, _, _, _, _, _, _, hl, _ => by simp at hl
  | b :: d, r :: rs, h, w, k, res, e, hne, hr, hl, hd => by
    have e : (match h.get b with | .defd => wr h b .dead (fun h1 => killM d h1 k) .fail | _ => .fail) = res := e
    cases hg : h.get b <;> rw [hg] at e <;> first | (exact absurd e.symm hne) | skip
    simp only at e
    rw [wr_eq] at e
    cases hs : h.set? b .dead with
    | none => rw [hs] at e; exact absurd e.symm hne
    | some h1 =>
      rw [hs] at e
      simp only at e
      obtain ⟨z, hz⟩ := hd 0 r b rfl rfl
      have hb := hr.atρ hg rfl hz
      have ht := run_takeDeferred (P := P) (b := r) (ds := []) hb
      rw [putObj_eq] at ht
      have hr1 : HRep B ρ h1 { w with heap := w.heap.setIfInBounds r (.deferred none) } := hr.write1 hs (by rw [hg]; rfl) hz trivial (fun _ _ h => by cases h)
      obtain ⟨h2, w2, q1, q2, q3, q4⟩ := killM_ok d rs h1 _ k res e hne hr1 (by simpa using hl) (fun i r' b' p q => hd (i + 1) r' b' (by simpa using p) (by simpa using q))
      exact ⟨h2, w2, q1, q2, (Kept.write (hr.lo _ _ _ hz).1).trans q3, r, _, rfl, ht, q4⟩

theorem resG_ok (hc : Ctx3 P tb) (hr : HRep B ρ h w) {tmps : Array Value} (hs : SRep ρ s tmps) : ∀ (rs : List ResultVar) (gs : List G), resG tb.tt s h rs = some gs →
    ∃ vs : List Value, (rs.mapM (fun | .tmp t => pure (tmps.getD t undef) | .cell a t => do loadVar t (← asAddr (tmps.getD a undef)) : ResultVar → Sem Value)).run P w = .ok vs w ∧ RepGs ρ vs gs
  | [], gs, e => by cases e; exact ⟨[], rfl, .nil⟩
  | .tmp t :: r, gs, e => by
    simp only [resG] at e
    cases hr' : resG tb.tt s h r with
    | none => rw [hr'] at e; cases e
    | some gs' =>
      rw [hr'] at e; cases e
      obtain ⟨vs, q1, q2⟩ := resG_ok hc hr hs r gs' hr'
      exact ⟨_, by simp only [List.mapM_cons, Sem.run_bind, Sem.run_pure, Result.andThen_ok, q1], .mk (hs.2 t) q2⟩
  | .cell t ty :: r, gs, e => by
    simp only [resG] at e
    split at e
    · rename_i b o i gs' hg hl hr'
      split at e
      · rename_i l hb
        split at e
        · rename_i g hld
          cases e
          obtain ⟨vs, q1, q2⟩ := resG_ok hc hr hs r gs' hr'
          have hv := hs.2 t
          rw [hg] at hv
          generalize hvt : tmps.getD t Go.undef = vt at hv
          cases hv with
          | ptr _ rr z _ hρ =>
            obtain ⟨us, bt, p1, p2, p3, p4, p5⟩ := hr.atρ hb rfl hρ
            obtain ⟨v, hv, hrep⟩ := ldG_ok (P := P) (hc.c.ty ty i hl) p1 (by omega) p4 p5 hld
            have hv' : (loadVar ty ⟨rr, o, none⟩).run P w = .ok v w := by simpa [Instr.loadAt, Instr.sureAddr] using hv
            exact ⟨_, by simp only [List.mapM_cons, Sem.run_bind, Sem.run_pure, Result.andThen_ok, q1, hvt, Hk.run_asAddr, hv'], .mk hrep q2⟩
        · cases e
      · cases e
    · cases e

theorem results_G (hc : Ctx3 P tb) (hr : HRep B ρ h w) {tmps : Array Value} (hs : SRep ρ s tmps) {fc : Func} {gs : List G} (e : resG tb.tt s h fc.results.toList = some gs) : ∃ v, (results fc tmps).run P w = .ok v w ∧ RepG ρ v (resOfG gs) := by
  obtain ⟨vs, q1, q2⟩ := resG_ok hc hr hs _ _ e
  have hm : ∀ (f : ResultVar → Sem Value) (vs : List Value), (fc.results.toList.mapM f).run P w = .ok vs w → (fc.results.mapM f).run P w = .ok vs.toArray w := fun f vs hf => by
    rw [Array.mapM_eq_mapM_toList]
    change Sem.run P (List.mapM f fc.results.toList >>= fun l => pure l.toArray) w = _
    simp only [Sem.run_bind, hf, Sem.run_pure, Result.andThen_ok]
  have q := hm _ vs q1
  refine ⟨if h : vs.toArray.size = 1 then vs.toArray[0] else .tuple vs.toArray, ?_, ?_⟩
  · unfold results
    simp only [Sem.run_bind]
    exact Eq.trans (congrArg (Result.andThen · (fun vs w => Sem.run P (pure (if h : vs.size = 1 then vs[0] else .tuple vs)) w)) q) (by simp)
  · have tup : RepG ρ (.tuple vs.toArray) (.tup gs) := .tup _ _ (by simpa using q2.1) fun i c x hc hx => q2.2 i c x (by simpa using hc) hx
    match vs, gs, q2, tup with
    | [], [], _, tup => simpa [resOfG] using tup
    | [v], [d], h, _ => simpa [resOfG] using h.2 0 v d rfl rfl
    | v :: v' :: r, d :: d' :: s, _, tup => simpa [resOfG] using tup
    | [], _ :: _, h, _ => simp [RepGs] at h
    | _ :: _, [], h, _ => simp [RepGs] at h
    | [_], _ :: _ :: _, h, _ => simp [RepGs] at h
    | _ :: _ :: _, [_], h, _ => simp [RepGs] at h

theorem getS_argS : ∀ (gs : List G) (i : Nat) (s : S) (t : Nat), getS t (argS i gs s) = if i ≤ t ∧ t < i + gs.length then gs.getD (t - i) .undef else getS t s
  | [], i, s, t => by
    rw [if_neg (by simp <;> omega)]; rfl
  | g :: r, i, s, t => by
    show getS t (argS (i + 1) r (setS i s g)) = _
    rw [getS_argS r (i + 1) _ t, getS_setS]
    by_cases h1 : i + 1 ≤ t ∧ t < i + 1 + r.length
    · rw [if_pos h1, if_pos ⟨by omega, by simp; omega⟩]
      have : t - i = (t - (i + 1)) + 1 := by omega
      rw [this]; simp
    · rw [if_neg h1]
      by_cases h2 : t = i
      · subst h2; rw [if_pos rfl, if_pos ⟨Nat.le_refl _, by simp⟩]; simp
      · rw [if_neg h2, if_neg (by simp; omega)]

theorem argS_rep {xs : Array Value} {gs : List G} (h : RepGs ρ xs.toList gs) {m : Nat} (hm : gs.length ≤ m) (hm2 : m ≤ 256) : FRep ρ m (argS 0 gs S0) [] { tmps := xs ++ Array.replicate (m - xs.size) undef, defers := [] } := by
  have hl : xs.size = gs.length := by simpa using h.1
  have hsz : (xs ++ Array.replicate (m - xs.size) undef).size = m := by simp; omega
  refine ⟨⟨by simp only; omega, fun t => ?_⟩, hsz, [], rfl, rfl, fun i r b p => by simp at p⟩
  rw [getS_argS]
  by_cases ht : 0 ≤ t ∧ t < 0 + gs.length
  · rw [if_pos ht, Nat.sub_zero]
    have h1 : xs.toList[t]? = some xs[t] := by simp <;> omega
    have h2 : gs[t]? = some gs[t] := by simp <;> omega
    have := h.2 t _ _ h1 h2
    rw [List.getD_eq_getElem?_getD, h2, Array.getD_eq_getD_getElem?, Array.getElem?_append_left (by omega)]
    have h3 : xs[t]? = some xs[t] := by simp <;> omega
    rw [h3]; exact this
  · rw [if_neg ht]; exact .undef _

theorem gcall_ok (hc : Ctx3 P tb) (hih : ∀ c, CfgX P c (ih c)) (f : FuncId) (args : List G) (h : GH) : CfgS P (.call f args h) (gcall tb ih f args h) := by
  unfold gcall
  cases hh : hlk tb.hold f with
  | some t =>
    simp only
    split
    · rename_i g fi ca
      cases hg : tb.fn g with
      | none => exact fun B ρ w xs _ _ => trivial
      | some fc =>
      simp only
      cases hb : fc.body with
      | none => exact fun B ρ w xs _ _ => trivial
      | some c =>
      simp only
      rw [gappK_eq]
      obtain ⟨hf1, hf2⟩ := hc.fn g fc hg
      exact hc.hold f t hh g fi ca h _ fc c hf1 hf2 hb ((hih (.call g (id (fi ++ ca)) h)).s)
    · exact fun B ρ w xs _ _ => trivial
  | none =>
    simp only
    cases hso : memF tb.sorts f with
    | true => exact hc.sort f hso args h
    | false =>
    simp only
    cases hfn : tb.fn f with
    | none => exact fun B ρ w xs _ _ => trivial
    | some fc =>
    simp only
    cases hb : fc.body with
    | none => exact fun B ρ w xs _ _ => trivial
    | some c =>
    simp only
    obtain ⟨hf1, hf2⟩ := hc.fn f fc hfn
    cases hn1 : Nat.ble args.length fc.ntmps with
    | false => exact fun B ρ w xs _ _ => trivial
    | true =>
    cases hn2 : Nat.ble fc.ntmps 256 with
    | false => exact fun B ρ w xs _ _ => trivial
    | true =>
    simp only
    rw [Nat.ble_eq] at hn1 hn2
    cases hr : ih (.go fc.ntmps f none c (argS 0 args S0) [] h) with
    | fail => exact fun B ρ w xs _ _ => trivial
    | rv => exact fun B ρ w xs _ _ => trivial
    | rp => exact fun B ρ w xs _ _ => trivial
    | fr x s d h1 =>
    simp only
    intro B ρ w xs hrep hargs
    have hgo : GoS P fc.ntmps f none c (argS 0 args S0) [] h (.fr x s d h1) := by have := hih (.go fc.ntmps f none c (argS 0 args S0) [] h); rw [hr] at this; exact this
    rw [Hk.run_callFunc_body hf1 hf2 hb]
    generalize hres : killM d h1 _ = res
    have base : ∀ (R : Ending → World → Prop), (∀ ρ' a' w', HRep B ρ' h1 w' → ρ.le ρ' → FRep ρ' fc.ntmps s d a' → Kept B w w' → After P default [] (endPostM P fc R) ρ' x [] a' w' → True) → True := fun _ _ => trivial
    have main : ∀ (R : Ending → World → Prop), (∀ (b : Frame) (cs : List Frame) ρ' a' w', HRep B ρ' h1 w' → ρ.le ρ' → FRep ρ' fc.ntmps s d a' → Kept B w w' → After P b cs (endPostM P fc R) ρ' x [] a' w') → Calls P f xs w R := by
      intro R hR
      refine calls_of_reachM hf1 hb fun b cs hbf _ hbr => ?_
      exact hgo x s d h1 rfl B ρ w _ b cs [] _ ⟨hbf, by rw [hbr]; trivial, hrep, argS_rep hargs hn1 hn2⟩ fun ρ' a' w' hF hρ hk => hR b cs ρ' a' w' hF.h hρ hF.s hk
    have ret : ∀ v h2, res = .rv v h2 → (match resG tb.tt s h2 fc.results.toList with | some gs => Res.rv (resOfG gs) h2 | none => .fail) = .rv v h2 → ∀ ρ' a' w' w2, HRep B ρ' h2 w2 → ρ.le ρ' → FRep ρ' fc.ntmps s d a' → Kept B w w2 → Marks P a'.defers w' w2 →
        ∃ w3 v', Marks P a'.defers w' w3 ∧ (results fc a'.tmps).run P w3 = .ok v' w3 ∧ OutK B ρ w v h2 v' w3 := by
      intro v h2 _ e ρ' a' w' w2 q1 q2 q3 q4 q5
      cases hg : resG tb.tt s h2 fc.results.toList with
      | none => rw [hg] at e; cases e
      | some gs =>
        rw [hg] at e
        cases e
        obtain ⟨v', p1, p2⟩ := results_G hc q1 q3.s hg
        exact ⟨w2, v', q5, p1, ρ', q1, q2, p2, q4⟩
    cases res with
    | fail => trivial
    | fr => trivial
    | rv v h2 =>
      refine main (fun e w' => match e with | .returned v' => OutK B ρ w v h2 v' w' | .panicked _ => False | .outgrown => False) fun b cs ρ' a' w' q1 q2 q3 q4 => ?_
      obtain ⟨rs, r1, r2, r3⟩ := q3.d
      obtain ⟨h3, w3, p1, p2, p3, p4⟩ := killM_ok (P := P) d rs h1 w' _ _ hres (by simp) q1 r2 r3
      rw [← r1] at p4
      have hnorm : (match resG tb.tt s h3 fc.results.toList with | some gs => Res.rv (resOfG gs) h3 | none => .fail) = .rv v h2 → endPostM P fc (fun e w' => match e with | .returned v' => OutK B ρ w v h2 v' w' | .panicked _ => False | .outgrown => False) .normal a' w' := by
        intro e
        have : h3 = h2 := by
          cases hg : resG tb.tt s h3 fc.results.toList with
          | none => rw [hg] at e; cases e
          | some gs => rw [hg] at e; cases e; rfl
        subst this
        obtain ⟨w4, v', m1, m2, m3⟩ := ret v h3 rfl e ρ' a' w' w3 p2 q2 q3 (q4.trans p3) p4
        exact ⟨w4, v', m1, m2, m3⟩
      cases x with
      | norm => exact Hk.reach_end (hnorm p1)
      | ret => exact hnorm p1
      | exit id => cases p1
      | goto l => cases p1
      | pan v => cases p1
    | rp v h2 =>
      refine main (fun e w' => match e with | .returned _ => False | .panicked chain => PanK B ρ w v h2 chain w' | .outgrown => False) fun b cs ρ' a' w' q1 q2 q3 q4 => ?_
      obtain ⟨rs, r1, r2, r3⟩ := q3.d
      obtain ⟨h3, w3, p1, p2, p3, p4⟩ := killM_ok (P := P) d rs h1 w' _ _ hres (by simp) q1 r2 r3
      rw [← r1] at p4
      cases x with
      | norm => simp only at p1; split at p1 <;> cases p1
      | ret => simp only at p1; split at p1 <;> cases p1
      | exit id => cases p1
      | goto l => cases p1
      | pan u =>
        cases p1
        intro v' hv'
        exact ⟨w3, p4, ρ', v', rfl, p2, q2, hv', q4.trans p3⟩

end
end Go.Gx

/- The ghost machine: rounds; all of it, by fuel. -/
namespace Go.Gx
open Go.Hk (TT TTok TyI Sh lk TyOk ShOk nth nth_eq)

section
variable {P : Program} {tb : Tab} {ih : Cfg → Res} {n : Nat} {fn : FuncId} {ro : Option Nat} {s s' : S} {d d' : List Nat} {h h' : GH} {g : G} {res : Res} {B : Bl} {ρ : Rho} {w : World} {a : Act} {b : Frame} {cs : List Frame} {is k : List Item} {Q : Exit → Act → World → Prop} {x : GX}

/-- How a round's frame ends. -/
def roundQ (P : Program) (l : Nat) (R : Ending → World → Prop) : Exit → Act → World → Prop
  | .normal, _, w => ∃ v w', (Instr.endRound l none).run P w = .ok v w' ∧ R (.returned v) w'
  | .ret, _, w => ∃ v w', (Instr.endRound l (some .ret)).run P w = .ok v w' ∧ R (.returned v) w'
  | .exit id, _, w => ∃ v w', (Instr.endRound l (some (.exit id))).run P w = .ok v w' ∧ R (.returned v) w'
  | .goto t, _, w => ∃ v w', (Instr.endRound l (some (.goto t))).run P w = .ok v w' ∧ R (.returned v) w'
  | .panic chain, a, w => a.defers = [] ∧ R (.panicked chain) w
  | .outgrown, _, _ => False

theorem roundIn_of_reach {l : Nat} {f : FuncId} {fc : Func} {tmps : Array Value} {asg body : Code} {R : Ending → World → Prop} (hf : P.funcs[f]? = some fc)
    (h : ∀ (b : Frame) (cs : List Frame), b.fn = f → b.roundOf = some l → Hk.Reach P b cs (roundQ P l R) [.code asg, .beginRound, .code body] { tmps := tmps, defers := [] } w) : RoundIn Fence.wide 0 P l f tmps asg body w R := by
  refine ⟨trivial, fun c cs _ => ?_⟩
  obtain ⟨b, hb0⟩ : ∃ b : Frame, b = { (default : Frame) with fn := f, kind := .normal, roundOf := some l } := ⟨_, rfl⟩
  have henter : Frame.round l f tmps asg body .normal = b.atR { tmps := tmps, defers := [] } [.code asg, .beginRound, .code body] := by
    subst hb0; simp [Frame.round, Frame.atR]
  have hfn : b.fn = f := by rw [hb0]
  have hk : b.kind = .normal := by rw [hb0]
  have hro : b.roundOf = some l := by rw [hb0]
  obtain ⟨e, a', w', hq, harr⟩ := h b (c :: cs) hfn hro
  rw [← henter] at harr
  have ok : ∀ v w2, R (.returned v) w2 → Steps P (lone (Frame.round l f tmps asg body .normal) (c :: cs) w) (lone (c.finish v) cs w2) → ∃ e w', R e w' ∧ ComesIn (Machine.fenced P Fence.wide) P (lone (Frame.round l f tmps asg body .normal) (c :: cs) w)
      (match e with | .returned v => lone (c.finish v) cs w' | .panicked chain => lone (c.raise chain) cs w' | .outgrown => lone c cs w') e := fun v w2 hR hs => ⟨.returned v, w2, hR, comesIn_wide.2 hs⟩
  cases e with
  | normal =>
    obtain ⟨v, w2, hend, hR⟩ := hq
    exact ok v w2 hR (Steps.trans harr (.one (stepR_round_end hro hk hend)))
  | ret =>
    obtain ⟨v, w2, hend, hR⟩ := hq
    obtain ⟨k, hs⟩ := harr
    exact ok v w2 hR (Steps.trans hs (.one (stepR_round_ret hro hk hend)))
  | exit id =>
    obtain ⟨v, w2, hend, hR⟩ := hq
    obtain ⟨k, hx, hs⟩ := harr
    exact ok v w2 hR (Steps.trans hs (.one (stepR_round_exit hro hk hx hend)))
  | goto t =>
    obtain ⟨v, w2, hend, hR⟩ := hq
    obtain ⟨k, hx, hs⟩ := harr
    exact ok v w2 hR (Steps.trans hs (.one (stepR_round_goto hro hk hx hend)))
  | panic chain =>
    obtain ⟨hd, hR⟩ := hq
    obtain ⟨todo, hs⟩ := harr
    exact ⟨.panicked chain, w', hR, comesIn_wide.2 (Steps.trans hs (.one (step_leave_panicked ⟨rfl, hd, fc, by rw [show ({ b.atR a' todo with mode := .panicking chain } : Frame).fn = f from hfn]; exact hf⟩)))⟩
  | outgrown => exact hq.elim

theorem gendR_ok {l rl z : Nat} {pend : Option Code} {v : G} (e : gendR l h pend = .rv v h') (hr : HRep B ρ h w) (hl : ρ l = some (rl, z)) : ∃ w', (Instr.endRound rl pend).run P w = .ok (.bool pend.isNone) w' ∧ HRep B ρ h' w' ∧ RepG ρ (.bool pend.isNone) v ∧ Kept B w w' := by
  unfold gendR at e
  cases hg : h.get l <;> rw [hg] at e <;> first | (cases e; done) | skip
  rename_i st pend0 fn s n ps asg body db
  obtain ⟨lr, rd, zd, b1, b2, b3, b4, b5, b6⟩ := hr.atρ hg rfl hl
  obtain ⟨k1, k2, k3, k4, k5, k6⟩ := b2
  have hrun := run_endRound (P := P) pend b1
  rw [putObj_eq] at hrun
  have hlt := (hr.lo _ _ _ hl).2
  have hlive : (h.get l).isDead = false := by rw [hg]; rfl
  cases pend with
  | none =>
    simp only at e
    rw [wr_eq] at e
    cases hs : h.set? l (.loop .ready none fn s n ps asg body db) with
    | none => rw [hs] at e; cases e
    | some h1 =>
      rw [hs] at e
      cases e
      refine ⟨_, hrun, ?_, .bool _, Kept.write (hr.lo _ _ _ hl).1⟩
      exact hr.write1 hs hlive hl ⟨{ lr with state := .ready, pending := none }, rd, zd, by simp [hlt], ⟨rfl, rfl, k3, k4, k5, k6⟩, b3, b4, b5, b6⟩ (fun _ _ h => by cases h)
  | some c =>
    simp only at e
    rw [wr_eq] at e
    cases hs : h.set? l (.loop .done (some c) fn s n ps asg body db) with
    | none => rw [hs] at e; cases e
    | some h1 =>
      rw [hs] at e
      cases e
      refine ⟨_, hrun, ?_, .bool _, Kept.write (hr.lo _ _ _ hl).1⟩
      exact hr.write1 hs hlive hl ⟨{ lr with state := .done, pending := some c }, rd, zd, by simp [hlt], ⟨rfl, rfl, k3, k4, k5, k6⟩, b3, b4, b5, b6⟩ (fun _ _ h => by cases h)

theorem gendR_cases {l : Nat} {pend : Option Code} : gendR l h pend = .fail ∨ ∃ v h', gendR l h pend = .rv v h' := by
  unfold gendR
  split
  · split <;> (rw [wr_eq]; split <;> simp)
  · exact .inl rfl

theorem parS_ok {n : Nat} : ∀ (ps : List Nat) (args : List G) (s s1 : S) (xs : List Value) (tmps : Array Value), parS n ps args s = some s1 → RepGs ρ xs args → SRep ρ s tmps → tmps.size = n →
    ps.length = args.length ∧ SRep ρ s1 ((ps.zip xs).foldl (fun tmps (t, a) => tmps.setIfInBounds t a) tmps) ∧ ((ps.zip xs).foldl (fun tmps (t, a) => tmps.setIfInBounds t a) tmps).size = n
  | [], [], s, s1, xs, tmps, e, hx, hs, hn => by cases e; exact ⟨rfl, by simpa using hs, by simpa using hn⟩
  | [], _ :: _, _, _, _, _, e, _, _, _ => by cases e
  | _ :: _, [], _, _, _, _, e, _, _, _ => by cases e
  | t :: ts, g :: gs, s, s1, xs, tmps, e, hx, hs, hn => by
    cases xs with
    | nil => simp [RepGs] at hx
    | cons v vs =>
      simp only [parS] at e
      cases hb : Nat.blt t n with
      | false => rw [hb] at e; cases e
      | true =>
        rw [hb] at e
        rw [Nat.blt_eq] at hb
        obtain ⟨q1, q2, q3⟩ := parS_ok ts gs (setS t s g) s1 vs (tmps.setIfInBounds t v) e hx.cons.2 (hs.set (by omega) hx.cons.1) (by simpa using hn)
        exact ⟨by simp [q1], q2, q3⟩

theorem ground_ok (hc : Ctx3 P tb) (hih : ∀ c, CfgX P c (ih c)) (l : Nat) (args : List G) (h : GH) : CfgS P (.round l args h) (ground tb ih l args h) := by
  intro B ρ w xs rl zl hr hl hargs
  generalize hres : ground tb ih l args h = res
  unfold ground at hres
  cases hg : h.get l <;> rw [hg] at hres <;> first | (subst hres; trivial) | skip
  rename_i st pend fn s n ps asg body db
  simp only at hres
  cases hfn : tb.fn fn with
  | none => rw [hfn] at hres; subst hres; trivial
  | some fc =>
  rw [hfn] at hres
  simp only at hres
  cases hp : parS n ps.toList args s with
  | none => rw [hp] at hres; subst hres; trivial
  | some s1 =>
  rw [hp] at hres
  simp only at hres
  obtain ⟨lr, rd, zd, b1, b2, b3, b4, b5, b6⟩ := hr.atρ hg rfl hl
  obtain ⟨k1, k2, k3, k4, k5, k6⟩ := b2
  subst k3; subst k4; subst k5; subst k6
  obtain ⟨p1, p2, p3⟩ := parS_ok _ _ _ _ _ _ hp hargs b3 b4
  have hsz : xs.size = lr.params.size := by
    have := hargs.1
    simp at this p1
    omega
  rw [run_yield b1 hsz]
  have hfold : ((lr.params.zip xs).foldl (fun tmps (t, a) => tmps.setIfInBounds t a) lr.tmps) = ((lr.params.toList.zip xs.toList).foldl (fun tmps (t, a) => tmps.setIfInBounds t a) lr.tmps) := by
    rw [← Array.foldl_toList, Array.toList_zip]
  rw [← hfold] at p2 p3
  have main : ∀ (R : Ending → World → Prop), (∀ (b : Frame) (cs : List Frame), b.fn = lr.fn → b.roundOf = some rl → Hk.Reach P b cs (roundQ P rl R) [.code lr.assign, .beginRound, .code lr.body] { tmps := (lr.params.zip xs).foldl (fun tmps (t, a) => tmps.setIfInBounds t a) lr.tmps, defers := [] } w) →
      RoundIn Fence.wide 0 P rl lr.fn ((lr.params.zip xs).foldl (fun tmps (t, a) => tmps.setIfInBounds t a) lr.tmps) lr.assign lr.body w R := fun R hR => roundIn_of_reach (hc.fn _ _ hfn).1 hR
  -- the walk of a round
  have walk : res ≠ .fail → ∀ (R : Ending → World → Prop), (∀ v g h' w', res = .rv g h' → OutK B ρ w g h' v w' → R (.returned v) w') → (∀ chain g h' w', res = .rp g h' → PanK B ρ w g h' chain w' → R (.panicked chain) w') →
      RoundIn Fence.wide 0 P rl lr.fn ((lr.params.zip xs).foldl (fun tmps (t, a) => tmps.setIfInBounds t a) lr.tmps) lr.assign lr.body w R := by
    intro hne R hRv hRp
    refine main R fun b cs hbf hbr => ?_
    have hgo1 := hih (.go n lr.fn (some l) lr.assign s1 [] h)
    cases h1e : ih (.go n lr.fn (some l) lr.assign s1 [] h) with
    | fr x1 s2 d2 h2 =>
      rw [h1e] at hres hgo1
      cases x1 with
      | norm =>
        cases d2 with
        | nil =>
          simp only at hres
          refine hgo1 _ _ _ _ rfl B ρ w _ b cs [.beginRound, .code lr.body] _ ⟨hbf, by rw [hbr]; exact ⟨zl, hl⟩, hr, p2, p3, [], rfl, rfl, fun i r b p => by simp at p⟩ fun ρ1 a1 w1 hF1 hρ1 hk1 => ?_
          show Hk.Reach P b cs _ [.beginRound, .code lr.body] a1 w1
          cases h2g : h2.get l <;> rw [h2g] at hres <;> first | (exact absurd hres.symm hne) | skip
          rename_i st2 pend2 fn2 s22 n2 ps2 asg2 body2 db2
          cases st2 <;> first | (exact absurd hres.symm hne) | skip
          simp only at hres
          rw [wr_eq] at hres
          cases h3e : h2.set? l (.loop .busy pend2 fn2 s22 n2 ps2 asg2 body2 db2) with
          | none => rw [h3e] at hres; exact absurd hres.symm hne
          | some h3 =>
          rw [h3e] at hres
          simp only at hres
          have hl1 := hρ1 _ _ hl
          obtain ⟨lr2, rd2, zd2, c1, c2, c3, c4, c5, c6⟩ := hF1.h.atρ h2g rfl hl1
          obtain ⟨m1, m2, m3, m4, m5, m6⟩ := c2
          have hbeg := run_beginRound (P := P) c1 m1
          rw [putObj_eq] at hbeg
          have hlt := (hF1.h.lo _ _ _ hl1).2
          have hr3 : HRep B ρ1 h3 { w1 with heap := w1.heap.setIfInBounds rl (.loop { lr2 with state := .busy }) } :=
            hF1.h.write1 h3e (by rw [h2g]; rfl) hl1 ⟨{ lr2 with state := .busy }, rd2, zd2, by simp [hlt], ⟨rfl, m2, m3, m4, m5, m6⟩, c3, c4, c5, c6⟩ (fun _ _ h => by cases h)
          have hk3 : Kept B w { w1 with heap := w1.heap.setIfInBounds rl (.loop { lr2 with state := .busy }) } := hk1.trans (Kept.write (hF1.h.lo _ _ _ hl1).1)
          refine Hk.Reach.step (stepR_beginRound hbr hbeg) ?_
          have hgo2 := hih (.go n lr.fn (some l) lr.body s2 [] h3)
          cases h4e : ih (.go n lr.fn (some l) lr.body s2 [] h3) with
          | fr x4 s4 d4 h4 =>
            rw [h4e] at hres hgo2
            cases d4 with
            | cons => exact absurd hres.symm hne
            | nil =>
            simp only at hres
            refine hgo2 _ _ _ _ rfl B ρ1 _ a1 b cs [] _ ⟨hbf, hF1.ro, hr3, hF1.s⟩ fun ρ2 a2 w2 hF2 hρ2 hk2 => ?_
            have hl2 := hρ2 _ _ hl1
            have fin : ∀ pend, gendR l h4 pend = res → ∃ v w', (Instr.endRound rl pend).run P w2 = .ok v w' ∧ R (.returned v) w' := by
              intro pend hp
              rcases gendR_cases (h := h4) (l := l) (pend := pend) with hf | ⟨v, h5, hv⟩
              · rw [hf] at hp; exact absurd hp.symm hne
              · rw [hv] at hp
                obtain ⟨w5, q1, q2, q3, q4⟩ := gendR_ok (P := P) hv hF2.h hl2
                exact ⟨_, w5, q1, hRv _ v h5 w5 hp.symm ⟨ρ2, q2, Rho.le_trans hρ1 hρ2, q3, (hk3.trans hk2).trans q4⟩⟩
            cases x4 with
            | norm => exact Hk.reach_end (fin none hres)
            | ret => exact fin (some .ret) hres
            | exit id => exact fin (some (.exit id)) hres
            | goto t => exact fin (some (.goto t)) hres
            | pan g =>
              intro v hv
              obtain ⟨rs, r1, r2, _⟩ := hF2.s.d
              have hrs : rs = [] := by cases rs with | nil => rfl | cons => simp at r2
              subst hrs
              exact ⟨r1, hRp _ g h4 w2 hres.symm ⟨ρ2, v, rfl, hF2.h, Rho.le_trans hρ1 hρ2, hv, hk3.trans hk2⟩⟩
          | _ => rw [h4e] at hres; exact absurd hres.symm hne
        | cons => exact absurd hres.symm hne
      | _ => exact absurd hres.symm hne
    | _ => rw [h1e] at hres; exact absurd hres.symm hne
  cases res with
  | fail => trivial
  | fr => trivial
  | rv g h' =>
    exact walk (by simp) _ (fun v g' h'' w' e ho => by cases e; exact ho) (fun chain g' h'' w' e => by cases e)
  | rp g h' =>
    exact walk (by simp) _ (fun v g' h'' w' e => by cases e) (fun chain g' h'' w' e ho => by cases e; exact ho)

/-- All of it. -/
theorem gx_ok (hc : Ctx3 P tb) : ∀ (f : Nat) (c : Cfg), CfgX P c (gx tb f c)
  | 0, c => by
    cases c with
    | go => exact Items.fail
    | call => exact fun _ _ _ _ _ _ => trivial
    | round => exact fun _ _ _ _ _ _ _ _ _ => trivial
  | f + 1, c => by
    show CfgX P c (gstep tb (gx tb f) c)
    cases c with
    | go n fn ro c s d h => exact gcode_ok hc (gx_ok hc f) c s d h
    | call g args h => exact gcall_ok hc (gx_ok hc f) g args h
    | round l args h => exact ground_ok hc (gx_ok hc f) l args h

end
end Go.Gx

namespace Go.Gx
open Go.Hk (TT TTok)

/-! ### A state written anew -/
/-! ### Pieces of a body -/
/-- From a state of the ghost on the rest of a body leads to its end. -/
def At (P : Program) (fc : Func) (n : Nat) (fn : FuncId) (R : Ending → World → Prop) (Br : Nat → Prop) (w0 : World) (c : Code) (s : S) (h : GH) : Prop :=
  ∀ ρ w a b cs, Fr ⟨Br, fun _ => False⟩ n fn none b ρ s [] h a w → Kept ⟨Br, fun _ => False⟩ w0 w → Hk.Reach P b cs (Hk.endPost P fc R) [.code c] a w

section
variable {P : Program} {tb : Tab} {fc : Func} {n : Nat} {fn : FuncId} {R : Ending → World → Prop} {Br : Nat → Prop} {w0 : World}

/-- The last piece: it returns a value. -/
noncomputable def lastB (tb : Tab) (rs : List ResultVar) (q : Res) : Bool := match q with
  | .fr .ret s [] h => match resG tb.tt s h rs with
    | some [.bool b] => b
    | _ => false
  | _ => false

theorem at_last (hc : Ctx3 P tb) (fuel : Nat) {c : Code} {s : S} {h : GH} (he : lastB tb fc.results.toList (gcode tb (gx tb fuel) n fn none c s [] h) = true) (hR : ∀ w, Kept ⟨Br, fun _ => False⟩ w0 w → R (.returned (.bool true)) w) : At P fc n fn R Br w0 c s h := by
  intro ρ w a b cs hF hk
  unfold lastB at he
  split at he
  · rename_i s' h' hg
    refine gcode_ok hc (gx_ok hc fuel) c s [] h _ _ _ _ hg ⟨Br, fun _ => False⟩ ρ w a b cs [] _ hF fun ρ' a' w' hF' _ hk' => ?_
    split at he
    · rename_i bb hrs
      subst he
      obtain ⟨v, k1, k2⟩ := results_G hc hF'.h hF'.s.s hrs
      have hv : v = .bool true := k2.boolInv
      subst hv
      obtain ⟨rs, d1, d2, _⟩ := hF'.s.d
      have : rs = [] := List.length_eq_zero_iff.1 d2
      subst this
      exact ⟨d1, _, k1, hR w' (hk.trans hk')⟩
    · cases he
  · cases he

/-- A function without parameters that returns true: nothing that was there is changed. -/
theorem pure_at {f : FuncId} {c : Code} (hf : P.funcs[f]? = some fc) (hname : (fc.name == "runtime.NumGoroutine") = false) (hb : fc.body = some c) (hn : fc.ntmps ≤ 256)
    (h : ∀ (R : Ending → World → Prop) (Br : Nat → Prop) (w0 : World), (∀ w, Kept ⟨Br, fun _ => False⟩ w0 w → R (.returned (.bool true)) w) → At P fc fc.ntmps f R Br w0 c S0 ⟨0, .e⟩) : Hk.PureC P f [] (.bool true) := by
  intro I μ w xs hst hxs
  have hx0 : xs = #[] := by
    have := hxs.1
    simp at this
    exact Array.eq_empty_of_size_eq_zero (by simpa using this)
  subst hx0
  rw [Hk.run_callFunc_body hf hname hb]
  show Calls P f #[] w _
  refine Hk.calls_of_reach hf hb fun b cs hbf hk hro => ?_
  refine h _ (fun r => r < w.heap.size) w ?_ (fun _ => none) w _ b cs ⟨hbf, ?_, ?_, ?_⟩ (Kept.refl _ _)
  · intro w' hk
    refine ⟨I, μ, .imm _ _ (.bool true), ?_, Hk.Pin.refl _ _, ?_⟩
    · exact { imm := fun b o ho => (hk.block b (Array.getElem?_eq_some_iff.1 (hst.imm b o ho)).1).trans (hst.imm b o ho),
              blk := fun id blk hl => (by cases hl), apart := fun id blk g b hl => (by cases hl), inj := fun i j bi bj gi gj b hl => (by cases hl), nodup := .nil, idsFree := fun id hi => (by cases hi) }
    · exact { imm := Hk.Imm.le_refl I, os := hk.os, tape := hk.tape, output := hk.output, size := hk.size, block := fun b hb _ => hk.block b hb, fresh := fun b _ ho => ho, old := fun _ _ _ => rfl }
  · rw [hro]; trivial
  · exact { blk := fun b r z _ h => (by cases h), inj := fun b b' r z z' _ _ h => (by cases h), lo := fun b r z h => (by cases h), dom := fun b x h => (by cases h), top := fun r hr => hr, pl := fun _ _ _ h => h, pt := fun _ h => h.elim }
  · have := argS_rep (ρ := fun _ => none) (xs := #[]) (gs := []) ⟨rfl, fun i v g h => by simp at h⟩ (m := fc.ntmps) (by simp) hn
    exact this

end
end Go.Gx
