/- Contracts of term: terms that are formed. (And what it stands on.) -/
import Derived.Test.YtdgomkfabfageaaGreatWb
import Derived.RowKit3
import Derived.Laws.StructEq
import Derived.MapKept
import Derived.Test.YtdgomkfabfageaaGreatProg
import Derived.WalkKit
import Derived.Laws.NewBlocks
import Derived.Defers
import Derived.Recover
set_option linter.unusedSimpArgs false
set_option linter.unusedVariables false

namespace Go.Hk
def HoldsSpec (P : Program) (f : FuncId) (t tb : TypeId) : Prop := ∀ (g : FuncId) (fi ca : Array Value) (w : World) (K Kp : World → Prop),
  (callFunc g (fi ++ ca)).run P (w.alloc (.cells #[.bool false] tb)) = .ok (.enter g (fi ++ ca)) (w.alloc (.cells #[.bool false] tb)) →
  Calls P g (fi ++ ca) (w.alloc (.cells #[.bool false] tb)) (fun e w' => match e with
    | .returned _ => K w'
    | .panicked chain => chain = [{ v := .iface t (.agg #[]), recovered := false }] ∧ Kp w'
    | .outgrown => False) →
  (∀ w', K w' → w'.heap[w.heap.size]? = some (.cells #[.bool false] tb (0, 0))) → (∀ w', Kp w' → w'.heap[w.heap.size]? = some (.cells #[.bool false] tb (0, 0))) →
  Calls P f #[.func (.func g) fi ca] w fun e w' => (e = .returned (.bool true) ∧ ∃ w1, K w1 ∧ w' = w1.setCell ⟨w.heap.size, 0, none⟩ (.bool true)) ∨
    (e = .returned (.bool false) ∧ ∃ w1, Kp w1 ∧ w' = (w1.setCell ⟨w.heap.size, 0, none⟩ (.bool false)).alloc (.cells #[] t))
theorem setCell_block {w : World} {b : Nat} {v x : Value} {t : TypeId} (h : w.heap[b]? = some (.cells #[x] t (0, 0))) : w.setCell ⟨b, 0, none⟩ v = { w with heap := w.heap.setIfInBounds b (.cells #[v] t (0, 0)) } := by
  have : ∀ (A : Array Obj) (f : Obj → Obj), A[b]? = some (.cells #[x] t (0, 0)) → A.modify b f = A.setIfInBounds b (f (.cells #[x] t (0, 0))) := by
    intro A f hA
    apply Array.ext_getElem?
    intro i
    rw [Array.getElem?_modify, Array.getElem?_setIfInBounds]
    by_cases hi : b = i
    · subst hi; rw [if_pos rfl, if_pos rfl, hA]; simp [(Array.getElem?_eq_some_iff.1 hA).1]
    · rw [if_neg hi, if_neg hi]
  unfold World.setCell
  rw [this _ _ h]
  rfl
theorem zjh {I : Imm} {μ : Mu} {st : St} {ids : List Nat} {w : World} (hst : StRep I μ st ids w) {b : Nat} (h : zds μ st b) : b < w.heap.size := by
  obtain ⟨id, blk, g, h1, h2, h3⟩ := h
  exact (hst.apart id blk g b h1 h2 h3).2
theorem StRep.other {I : Imm} {μ : Mu} {st : St} {ids : List Nat} {w w' : World} (hst : StRep I μ st ids w) (hs : w.heap.size ≤ w'.heap.size) (hi : ∀ b o, I b = some o → w'.heap[b]? = w.heap[b]?) (ho : ∀ b, zds μ st b → w'.heap[b]? = w.heap[b]?) : StRep I μ st ids w' :=
  { imm := fun b o h => (hi b o h).trans (hst.imm b o h), blk := fun id blk hl => let ⟨g, h1, h2⟩ := hst.blk id blk hl; ⟨g, h1, h2.world fun b hb => ho b ⟨id, blk, g, hl, h1, hb⟩⟩,
    apart := fun id blk g b h1 h2 h3 => ⟨(hst.apart id blk g b h1 h2 h3).1, Nat.lt_of_lt_of_le (hst.apart id blk g b h1 h2 h3).2 hs⟩, inj := hst.inj, nodup := hst.nodup, idsFree := hst.idsFree }
theorem RepD.fnD {I : Imm} {μ : Mu} {v : Value} {f : Fn} {df dc : List D} (h : RepD I μ v (.fn f df dc)) : ∃ first cap : Array Value, v = .func f first cap ∧ RepL I μ (first ++ cap).toList (df ++ dc) := by
  cases h with
  | fn _ first cap _ _ hf hc h1 h2 =>
    refine ⟨first, cap, rfl, ?_⟩
    rw [Array.toList_append]
    refine ⟨by simp [hf, hc], fun i v d p q => ?_⟩
    rw [List.getElem?_append] at p q
    have hl : first.toList.length = df.length := by simpa using hf
    rw [hl] at p
    split at p
    · rename_i hlt
      rw [if_pos hlt] at q
      exact h1 i v d (by simpa using p) q
    · rename_i hlt
      rw [if_neg hlt] at q
      exact h2 _ v d (by simpa using p) q
section
variable {P : Program} {f g : FuncId} {t tb : TypeId} {fn fg : Func} {cf cg : Code} {df dc : List D} {st0 st1 : St} {d : D}
theorem zpj {I : Imm} {μ : Mu} {xs : Array Value} (hxs : RepL I μ xs.toList [.fn (.func g) df dc]) : ∃ first cap : Array Value, xs = #[.func (.func g) first cap] ∧ RepL I μ (first ++ cap).toList (df ++ dc) := by
  obtain ⟨l, rfl⟩ : ∃ l : List Value, xs = l.toArray := ⟨xs.toList, by simp⟩
  rw [List.toList_toArray] at hxs
  match l, hxs with
  | [v], hxs =>
    obtain ⟨first, cap, rfl, h⟩ := (hxs.2 0 v _ rfl rfl).fnD
    exact ⟨first, cap, rfl, h⟩
  | [], hxs => exact absurd hxs.1 (by simp)
  | _ :: _ :: _, hxs => exact absurd hxs.1 (by simp)
theorem zs7 (hf : P.funcs[f]? = some fn) (hn : (fn.name == "runtime.NumGoroutine") = false) (hb : fn.body = some cf) (hs : HoldsSpec P f t tb)
    (hg : P.funcs[g]? = some fg) (hgn : (fg.name == "runtime.NumGoroutine") = false) (hgb : fg.body = some cg) (hE : zcm P g (df ++ dc) st0 (.ret d st1)) : zcm P f [.fn (.func g) df dc] st0 (.ret (.imm (.bool true)) st1) := by
  intro I μ w xs hst hxs
  obtain ⟨first, cap, rfl, hx⟩ := zpj hxs
  rw [run_callFunc_body hf hn hb]
  have hheap : (w.alloc (.cells #[.bool false] tb)).heap = w.heap.push (.cells #[.bool false] tb (0, 0)) := rfl
  have hgrow : ∀ r, r < w.heap.size → (w.alloc (.cells #[.bool false] tb)).heap[r]? = w.heap[r]? := fun r hr => by rw [hheap]; simp [Array.getElem?_push, Nat.ne_of_lt hr]
  have hself : (w.alloc (.cells #[.bool false] tb)).heap[w.heap.size]? = some (.cells #[.bool false] tb (0, 0)) := by rw [hheap]; simp
  have hsize : (w.alloc (.cells #[.bool false] tb)).heap.size = w.heap.size + 1 := by rw [hheap]; simp
  have hlt : ∀ b o, I b = some o → b < w.heap.size := fun b o h => (Array.getElem?_eq_some_iff.1 (hst.imm b o h)).1
  have hst1 : StRep I μ st0 [] (w.alloc (.cells #[.bool false] tb)) := hst.other (by omega) (fun b o h => hgrow b (hlt b o h)) (fun b h => hgrow b (zjh hst h))
  have hno : ¬ zds μ st0 w.heap.size := fun h => absurd (zjh hst h) (Nat.lt_irrefl _)
  have hIn : I w.heap.size = none := by
    cases h : I w.heap.size with
    | none => rfl
    | some o => exact absurd (hlt _ o h) (Nat.lt_irrefl _)
  have hcall := hE I μ _ (first ++ cap) hst1 hx
  have hrun := run_callFunc_body (w := w.alloc (.cells #[.bool false] tb)) hg hgn hgb (first ++ cap)
  rw [hrun] at hcall
  have hcall : Calls P g (first ++ cap) (w.alloc (.cells #[.bool false] tb)) (fun e w' => match e with
    | .returned u => ∃ I' μ', RepD I' μ' u d ∧ StRep I' μ' st1 [] w' ∧ Pin (nms st0) μ μ' ∧ Ext I μ st0 (w.alloc (.cells #[.bool false] tb)) I' μ' st1 w'
    | .panicked _ => False
    | .outgrown => False) := hcall
  have keep : ∀ w' I' μ', Ext I μ st0 (w.alloc (.cells #[.bool false] tb)) I' μ' st1 w' → w'.heap[w.heap.size]? = some (.cells #[.bool false] tb (0, 0)) := fun w' I' μ' he => (he.block _ (by omega) hno).trans hself
  show Calls P f _ w _
  refine Calls.mono (hs g first cap w (fun w' => ∃ I' μ', StRep I' μ' st1 [] w' ∧ Pin (nms st0) μ μ' ∧ Ext I μ st0 (w.alloc (.cells #[.bool false] tb)) I' μ' st1 w') (fun _ => False) hrun (Calls.mono hcall ?_) (fun w' ⟨I', μ', _, _, he⟩ => keep w' I' μ' he) (fun _ h => h.elim)) ?_
  · intro e w' he
    cases e with
    | returned u => obtain ⟨I', μ', _, h2, h3, h4⟩ := he; exact ⟨I', μ', h2, h3, h4⟩
    | panicked => exact he.elim
    | outgrown => exact he.elim
  · rintro e w2 (⟨rfl, w1, ⟨I', μ', h2, h3, h4⟩, rfl⟩ | ⟨_, _, hx, _⟩)
    · have hc := keep w1 I' μ' h4
      rw [setCell_block hc]
      have hI' : I' w.heap.size = none := (h4.old _ (by omega) hno).trans hIn
      have hno' : ¬ zds μ' st1 w.heap.size := fun h => hno (h4.fresh _ (by omega) h)
      have hsame : ∀ b, b ≠ w.heap.size → (w1.heap.setIfInBounds w.heap.size (.cells #[.bool true] tb (0, 0)))[b]? = w1.heap[b]? := fun b hb => Array.getElem?_setIfInBounds_ne (Ne.symm hb)
      refine ⟨I', μ', .imm _ _ (.bool true), ?_, h3, ?_⟩
      · exact h2.other (by simp) (fun b o h => hsame b fun e => by rw [e, hI'] at h; cases h) (fun b h => hsame b fun e => hno' (e ▸ h))
      · have hsz := h4.size
        exact { imm := h4.imm, os := h4.os, tape := h4.tape, output := h4.output, size := by simp; omega,
                block := fun b hb ho => (hsame b (by omega)).trans ((h4.block b (by omega) ho).trans (hgrow b hb)), fresh := fun b hb ho => h4.fresh b (by omega) ho, old := fun b hb ho => h4.old b (by omega) ho }
    · exact hx.elim
theorem zxd (hf : P.funcs[f]? = some fn) (hn : (fn.name == "runtime.NumGoroutine") = false) (hb : fn.body = some cf) (hs : HoldsSpec P f t tb)
    (hg : P.funcs[g]? = some fg) (hgn : (fg.name == "runtime.NumGoroutine") = false) (hgb : fg.body = some cg) (hE : zcm P g (df ++ dc) st0 (.pan (.iface t (.agg [])))) : zcm P f [.fn (.func g) df dc] st0 (.ret (.imm (.bool false)) []) := by
  intro I μ w xs hst hxs
  obtain ⟨first, cap, rfl, hx⟩ := zpj hxs
  rw [run_callFunc_body hf hn hb]
  have hheap : (w.alloc (.cells #[.bool false] tb)).heap = w.heap.push (.cells #[.bool false] tb (0, 0)) := rfl
  have hgrow : ∀ r, r < w.heap.size → (w.alloc (.cells #[.bool false] tb)).heap[r]? = w.heap[r]? := fun r hr => by rw [hheap]; simp [Array.getElem?_push, Nat.ne_of_lt hr]
  have hself : (w.alloc (.cells #[.bool false] tb)).heap[w.heap.size]? = some (.cells #[.bool false] tb (0, 0)) := by rw [hheap]; simp
  have hsize : (w.alloc (.cells #[.bool false] tb)).heap.size = w.heap.size + 1 := by rw [hheap]; simp
  have hlt : ∀ b o, I b = some o → b < w.heap.size := fun b o h => (Array.getElem?_eq_some_iff.1 (hst.imm b o h)).1
  have hst1 : StRep I μ st0 [] (w.alloc (.cells #[.bool false] tb)) := hst.other (by omega) (fun b o h => hgrow b (hlt b o h)) (fun b h => hgrow b (zjh hst h))
  have hno : ¬ zds μ st0 w.heap.size := fun h => absurd (zjh hst h) (Nat.lt_irrefl _)
  have hIn : I w.heap.size = none := by
    cases h : I w.heap.size with
    | none => rfl
    | some o => exact absurd (hlt _ o h) (Nat.lt_irrefl _)
  have hcall := hE I μ _ (first ++ cap) hst1 hx
  have hrun := run_callFunc_body (w := w.alloc (.cells #[.bool false] tb)) hg hgn hgb (first ++ cap)
  rw [hrun] at hcall
  have hcall : Calls P g (first ++ cap) (w.alloc (.cells #[.bool false] tb)) (fun e w' => match e with
    | .returned _ => False
    | .panicked chain => zyi (· = .iface t (.agg [])) I μ st0 (w.alloc (.cells #[.bool false] tb)) chain w'
    | .outgrown => False) := hcall
  have keep : ∀ w' I', Ext I μ st0 (w.alloc (.cells #[.bool false] tb)) I' μ [] w' → w'.heap[w.heap.size]? = some (.cells #[.bool false] tb (0, 0)) := fun w' I' he => (he.block _ (by omega) hno).trans hself
  show Calls P f _ w _
  refine Calls.mono (hs g first cap w (fun _ => False) (fun w' => ∃ I', I'.ok w' ∧ Ext I μ st0 (w.alloc (.cells #[.bool false] tb)) I' μ [] w') hrun (Calls.mono hcall ?_) (fun _ h => h.elim) (fun w' ⟨I', _, he⟩ => keep w' I' he)) ?_
  · intro e w' he
    cases e with
    | returned u => exact he.elim
    | panicked chain =>
      obtain ⟨v, x, I', h1, h2, h3, h4, h5⟩ := he
      subst h2
      cases h3 with
      | iface _ v' _ hv =>
        cases hv with
        | agg cs _ hl _ _ =>
          have : cs = #[] := Array.eq_empty_of_size_eq_zero (by simpa using hl)
          subst this
          exact ⟨h1, I', h4, h5⟩
    | outgrown => exact he.elim
  · rintro e w2 (⟨_, _, hx, _⟩ | ⟨rfl, w1, ⟨I', h2, h4⟩, rfl⟩)
    · exact hx.elim
    · have hc := keep w1 I' h4
      rw [setCell_block hc]
      have hI' : I' w.heap.size = none := (h4.old _ (by omega) hno).trans hIn
      have hsz := h4.size
      have hsame : ∀ b, b ≠ w.heap.size → b < w1.heap.size → (({ w1 with heap := w1.heap.setIfInBounds w.heap.size (.cells #[.bool false] tb (0, 0)) } : World).alloc (.cells #[] t)).heap[b]? = w1.heap[b]? := fun b hb hlt => by
        show ((w1.heap.setIfInBounds w.heap.size _).push _)[b]? = _
        rw [Array.getElem?_push, if_neg (by simp; omega)]
        exact Array.getElem?_setIfInBounds_ne (Ne.symm hb)
      refine ⟨I', μ, .imm _ _ (.bool false), ?_, Pin.refl _ _, ?_⟩
      · exact { imm := fun b o h => (hsame b (fun e => by rw [e, hI'] at h; cases h) (Array.getElem?_eq_some_iff.1 (h2 b o h)).1).trans (h2 b o h), blk := fun id blk hl => (by cases hl), apart := fun id blk g b hl => (by cases hl), inj := fun i j bi bj gi gj b hl => (by cases hl), nodup := .nil, idsFree := fun id hi => (by cases hi) }
      · exact { imm := h4.imm, os := h4.os, tape := h4.tape, output := h4.output, size := by show w.heap.size ≤ ((w1.heap.setIfInBounds w.heap.size _).push _).size; simp; omega,
                block := fun b hb ho => (hsame b (by omega) (by omega)).trans ((h4.block b (by omega) ho).trans (hgrow b hb)), fresh := fun b hb ho => h4.fresh b (by omega) ho, old := fun b hb ho => h4.old b (by omega) ho }
end
end Go.Hk
namespace Go.Hk
def EffW (P : Program) (I : Imm) (μ : Mu) (st : St) (w : World) (d : D) (st' : St) (r : Result Next) : Prop :=
  valX P r (fun u w' => ∃ I' μ', RepD I' μ' u d ∧ StRep I' μ' st' [] w' ∧ Pin (nms st) μ μ' ∧ Ext I μ st w I' μ' st' w') (fun _ _ => False)
def yst (j : Nat) (S : Bun) : St := [(0, some .pin), (j, some (.bun 0 S))]
def yjz (P : Program) (ds : List D) (S : Bun) (r : Bool) (S' : Bun) : Prop :=
  ∀ I μ w b (xs : Array Value), μ 0 = some (.func (.yield b) #[] #[]) → StRep I μ (yst 1 S) [] w → RepL I μ xs.toList ds → EffW P I μ (yst 1 S) w (.imm (.bool r)) (yst 2 S') ((Instr.yield b xs).run P w)
section
variable {P : Program} {n : Nat} {F : List Nat} {Q : DQ} {tt : TT} {env E : Env} {st st0 st1 : St} {ids ids' : List Nat} {k todo todo' : List DI} {I : Imm} {μ : Mu} {w : World} {Pn : V → Prop} {d : D} {das : List D} {f : FuncId}
end
end Go.Hk
namespace Go.Hk
section
variable {P : Program} {n : Nat} {F : List Nat} {Q : DQ} {tt : TT} {env E : Env} {st st0 st1 : St} {ids ids' : List Nat} {k todo todo' : List DI} {I : Imm} {μ : Mu} {w : World} {Pn : V → Prop} {d : D} {das : List D} {f : FuncId}
end
end Go.Hk
namespace Go.Hk
section
variable {P : Program} {n : Nat} {F : List Nat} {Q : DQ} {tt : TT} {env : Env} {st : St} {ids : List Nat} {todo : List DI}
theorem zvn (t : Nat) {id off : Nat} {ty : TypeId} {sz : Nat} {xs : List V} (he : lk env t = some (.ref id off)) (hl : lk st id = some (some (.immb ty sz xs))) (h : DGo P n F Q todo ((t, .ip ty xs off) :: env) ((id, none) :: st) ids) :
    DGo P n F Q todo env st ids := by
  intro b cs I μ a w items hd hc
  have hlive : za3 st id (.immb ty sz xs) := hl
  obtain ⟨g, hg, hlen, gb, vs, rfl, hheap, hrep, hone⟩ := hc.blk id _ hlive
  obtain ⟨hno, hlt⟩ := hc.apart id _ _ gb hlive hg rfl
  obtain ⟨J, hJ⟩ : ∃ J : Imm, J = fun k => if k = gb then some (.cells vs ty (0, 0)) else I k := ⟨_, rfl⟩
  have hle : I.le J := fun k o h => by
    have : k ≠ gb := fun e => by rw [e, hno] at h; cases h
    rw [hJ]; simp [this, h]
  have hJo : ∀ k o, J k = some o → I k = some o ∨ (k = gb ∧ w.heap[k]? = some o) := fun k o h => by
    rw [hJ] at h
    by_cases hk : k = gb
    · subst hk; simp at h; subst h; exact .inr ⟨rfl, hheap⟩
    · simp [hk] at h; exact .inl h
  have hE : Ext I μ st w J μ ((id, none) :: st) w :=
    { imm := hle, os := rfl, tape := rfl, output := rfl, size := Nat.le_refl _
      block := fun _ _ _ => rfl
      fresh := fun k _ ⟨i, bi, gi, h1, h2, h3⟩ => ⟨i, bi, gi, (zcg.1 h1).2, h2, h3⟩
      old := fun k _ ho => by
        have : k ≠ gb := fun e => ho (e ▸ ⟨id, _, _, hlive, hg, rfl⟩)
        rw [hJ]; simp [this] }
  have hv : RepD I μ (a.tmps.getD t undef) (.ref id off) := hc.env t _ he
  have hptr : a.tmps.getD t undef = .pointer (some ⟨gb, off, none⟩) := by
    generalize a.tmps.getD t undef = v at hv
    cases hv with
    | ref b' _ _ hm => rw [hg] at hm; cases hm; rfl
  have hip : RepD J μ (a.tmps.getD t undef) (.ip ty xs off) := by
    rw [hptr]
    have := RepD.ip (I := J) (μ := μ) gb 0 ty xs off (fun j => (vs[j]?).getD undef) (fun j x hx => ?_) (fun j x hx => ?_)
    · simpa using this
    · have hj : j < vs.size := by have := hrep.1; have := (List.getElem?_eq_some_iff.1 hx).1; simp at *; omega
      rw [hJ]
      simp only [Imm.cell, if_true, Nat.zero_add, Array.getElem?_eq_getElem hj, Option.getD_some, true_and]
      exact hone _ (by simp)
    · have hj : j < vs.size := by have := hrep.1; have := (List.getElem?_eq_some_iff.1 hx).1; simp at *; omega
      simp only [Array.getElem?_eq_getElem hj, Option.getD_some]
      exact (hrep.2 j _ x (by simp [hj]) hx).mono hle
  have hc' : Conc n J μ ((t, .ip ty xs off) :: env) ((id, none) :: st) ids a w :=
    { imm := fun k o h => (hJo k o h).elim (fun h => hc.imm k o h) fun h => h.2
      blk := fun i bi hli => by
        obtain ⟨_, h2⟩ := zcg.1 hli
        obtain ⟨gi, hgi, hr⟩ := hc.blk i bi h2
        exact ⟨gi, hgi, hr.mono hle (Mu.le_refl μ)⟩
      apart := fun i bi gi k hli hgi hk => by
        obtain ⟨h1, h2⟩ := zcg.1 hli
        obtain ⟨q1, q2⟩ := hc.apart i bi gi k h2 hgi hk
        refine ⟨?_, q2⟩
        cases hJk : J k with
        | none => rfl
        | some o =>
          rcases hJo k o hJk with h | ⟨h, _⟩
          · rw [q1] at h; cases h
          · exact absurd (hc.inj i id bi _ gi _ k h2 hlive hgi hg hk (by rw [h]; rfl)) h1
      inj := fun i j bi bj gi gj k hi hj hgi hgj hki hkj => hc.inj i j bi bj gi gj k (zcg.1 hi).2 (zcg.1 hj).2 hgi hgj hki hkj
      nodup := hc.nodup
      idsFree := hc.idsFree
      size := hc.size
      env := fun t' d hlt => by
        by_cases ht : t = t'
        · subst ht; rw [lk_cons_self] at hlt; cases hlt; exact hip
        · rw [lk_cons_ne _ _ ht] at hlt; exact (hc.env t' d hlt).mono hle (Mu.le_refl μ)
      defers := hc.defers.ext hE }
  exact (h b cs J μ a w items hd hc').mono fun e' a' w' hp => hp.back (.refl _ _) hE
inductive Yields (P : Program) : List D → Bun → Bool → Bun → Prop where
  | nil (S : Bun) : Yields P [] S true S
  | cons {d : D} {l : List D} {S S1 S2 : Bun} {r : Bool} (h : yjz P [d] S true S1) (h1 : Yields P l S1 r S2) : Yields P (d :: l) S r S2
  | stop {d : D} {l : List D} {S S1 : Bun} (h : yjz P [d] S false S1) : Yields P (d :: l) S false S1
theorem Yields.split {l m : List D} {S S2 : Bun} {r : Bool} (h : Yields P (l ++ m) S r S2) : (∃ S1, Yields P l S true S1 ∧ Yields P m S1 r S2) ∨ (r = false ∧ Yields P l S false S2) := by
  induction l generalizing S with
  | nil => exact .inl ⟨S, .nil S, h⟩
  | cons d l ih =>
    cases h with
    | cons h h1 =>
      rcases ih h1 with ⟨S1, q1, q2⟩ | ⟨q1, q2⟩
      · exact .inl ⟨S1, .cons h q1, q2⟩
      · exact .inr ⟨q1, .cons h q2⟩
    | stop h => exact .inr ⟨rfl, .stop h⟩
theorem Yields.all {l : List D} (S : Nat → Bun) (h : ∀ i d, l[i]? = some d → yjz P [d] (S i) true (S (i + 1))) : Yields P l (S 0) true (S l.length) := by
  have : ∀ (l : List D) (k : Nat), (∀ i d, l[i]? = some d → yjz P [d] (S (k + i)) true (S (k + i + 1))) → Yields P l (S k) true (S (k + l.length)) := by
    intro l
    induction l with
    | nil => intro k _; exact .nil _
    | cons d l ih =>
      intro k h
      have := ih (k + 1) fun i d hi => by
        have := h (i + 1) d (by simpa using hi)
        rwa [show k + 1 + i = k + (i + 1) by omega]
      rw [show k + 1 + l.length = k + (d :: l).length by simp; omega] at this
      exact .cons (h 0 d rfl) this
  have := this l 0 fun i d hi => by simpa using h i d hi
  simpa using this
end
end Go.Hk
namespace Go.Hk
theorem zmr {α : Type} {sz f : Nat} {ys : List α} : ∀ (es : List (List α)) (k : Nat) (c : List α), (∀ e ∈ es, e.length = sz) → es[k]? = some c → f + ys.length ≤ sz →
    (es.set k (c.take f ++ ys ++ c.drop (f + ys.length))).flatten = es.flatten.take (k * sz + f) ++ ys ++ es.flatten.drop (k * sz + f + ys.length)
  | [], _, _, _, h, _ => by simp at h
  | e :: r, 0, c, hs, h, hf => by
    simp at h; subst h
    have he := hs e (by simp)
    simp only [List.set_cons_zero, List.flatten_cons, Nat.zero_mul, Nat.zero_add]
    rw [List.take_append_of_le_length (by omega), List.drop_append_of_le_length (by omega)]
    simp
  | e :: r, k + 1, c, hs, h, hf => by
    have he := hs e (by simp)
    have ih := zmr r k c (fun e h => hs e (by simp [h])) (by simpa using h) hf
    simp only [List.set_cons_succ, List.flatten_cons, ih]
    have e1 : (k + 1) * sz + f = e.length + (k * sz + f) := by rw [he, Nat.succ_mul]; omega
    rw [e1, Nat.add_assoc e.length, List.take_length_add_append, List.drop_length_add_append]
    simp
theorem RepVL.splice {I : Imm} {vs ns : List Value} {xs ys : List V} (h : RepVL I vs xs) (k : RepVL I ns ys) (off : Nat) : RepVL I (vs.take off ++ ns ++ vs.drop (off + ns.length)) (xs.take off ++ ys ++ xs.drop (off + ys.length)) := by
  have app : ∀ {a b : List Value} {x y : List V}, RepVL I a x → RepVL I b y → RepVL I (a ++ b) (x ++ y) := fun {a b x y} p q =>
    ⟨by simp [p.1, q.1], fun i v z h1 h2 => by
      rw [List.getElem?_append] at h1 h2
      by_cases hi : i < a.length
      · rw [if_pos hi] at h1; rw [if_pos (by rw [← p.1]; exact hi)] at h2; exact p.2 i v z h1 h2
      · rw [if_neg hi] at h1; rw [if_neg (by rw [← p.1]; exact hi), ← p.1] at h2; exact q.2 _ v z h1 h2⟩
  refine app (app ⟨by simp [h.1], fun i v z h1 h2 => ?_⟩ k) ⟨by simp [h.1, k.1], fun i v z h1 h2 => ?_⟩
  · rw [List.getElem?_take] at h1 h2
    by_cases hi : i < off
    · rw [if_pos hi] at h1 h2; exact h.2 i v z h1 h2
    · rw [if_neg hi] at h1; cases h1
  · rw [List.getElem?_drop] at h1 h2
    rw [k.1] at h1
    exact h.2 _ v z h1 h2
structure POi where
  id : Nat
  es : List (List V)
  m : Int
  sz : Nat
  g : Option (Bool × Bool)
  ob : List Prop
  t : Nat
  todo : List DI
def poidx (tt : TT) (n : Nat) (env : Env) (st : St) (todo : List DI) : Option POi :=
  match zb3 todo ([], []) with
  | some (all, o, _) => match o.op, zcs all env o with
    | .indexAddr t x i, some g => match lk tt t, zz8 (zal g) env x, zz8 (zal g) env i with
      | some { sh := .sl e, .. }, some (.own id _, o1), some (.imm (.int _ m), o2) => match lk tt e, lk st id, o.dst, zel n o.dst, zb3 todo ([id], []) with
        | some ti, some (some (.row _ sz es)), some t', true, some (_, _, todo') => match Nat.beq sz ti.size with
          | true => some ⟨id, es, m, sz, g, cat o1 o2, t', todo'⟩
          | false => none
        | _, _, _, _, _ => none
      | _, _, _ => none
    | _, _ => none
  | none => none
structure POl where
  id : Nat
  es : List (List V)
  k : Nat
  f : Nat
  sz : Nat
  i : TyI
  g : Option (Bool × Bool)
  ob : List Prop
  t : Nat
  todo : List DI
def yhg (tt : TT) (n : Nat) (env : Env) (st : St) (todo : List DI) : Option POl :=
  match zb3 todo ([], []) with
  | some (all, o, _) => match o.op, zcs all env o with
    | .load t x, some g => match lk tt t, zz8 (zal g) env x with
      | some i, some (.elp id k sz f, o1) => match lk st id, o.dst, zel n o.dst, zb3 todo ([id], []) with
        | some (some (.row _ sz' es)), some t', true, some (_, _, todo') => match Nat.beq sz sz' with
          | true => some ⟨id, es, k, f, sz, i, g, o1, t', todo'⟩
          | false => none
        | _, _, _, _ => none
      | _, _ => none
    | _, _ => none
  | none => none
structure POs where
  id : Nat
  e : TypeId
  es : List (List V)
  k : Nat
  f : Nat
  sz : Nat
  ys : List V
  n : Nat
  ob : List Prop
  todo : List DI
def ya6 (tt : TT) (env : Env) (st : St) (todo : List DI) : Option POs :=
  match zb3 todo ([], []) with
  | some (_, o, _) => match o.guard, o.dst, o.op with
    | none, none, .store t p x => match lk tt t, evO env p, evO env x with
      | some i, some (.elp id k sz f), some dx => match lk st id, zb3 todo ([id], [id]), elemOf i.size dx with
        | some (some (.row e sz' es)), some (_, _, todo'), some (ys, ob) => match Nat.beq sz sz' with
          | true => some ⟨id, e, es, k, f, sz, ys, i.size, ob, todo'⟩
          | false => none
        | _, _, _ => none
      | _, _, _ => none
    | _, _, _ => none
  | none => none
section
variable {P : Program} {n : Nat} {F : List Nat} {Q : DQ} {tt : TT} {env env' : Env} {st st' : St} {ids ids' : List Nat} {k todo todo' : List DI} {I : Imm} {μ : Mu} {w : World} {a : Act} {Pn : V → Prop} {d : D} {cx : Prop} {ob : List Prop}
theorem zhq {f f' : List Nat × List Nat} {all all' : List Oper} {o o' : Oper} (h : zb3 todo f = some (all, o, k)) (h' : zb3 todo f' = some (all', o', todo')) : all' = all ∧ o' = o := by
  rcases zm5 h with ⟨r, q, rfl, _⟩ | ⟨r, fs, q, rfl, _⟩
  · simp [zb3] at h'; exact ⟨h'.1.symm, h'.2.1.symm⟩
  · simp [zb3] at h'; exact ⟨h'.1.symm, h'.2.1.symm⟩
theorem yap {id : Nat} {e : TypeId} {sz : Nat} {es : List (List V)} (hst : StRep I μ st ids w) (hl : za3 st id (.row e sz es)) (hne : es ≠ []) :
    ∃ b cap cur, μ id = some (.slice (some ⟨b, 0, none⟩) es.length cap) ∧ w.heap[b]? = some (.cells cur e (0, 0)) ∧ es.length ≤ cap ∧ cap ≤ maxLen ∧ cur.size = cap * sz ∧
      RepVL I (cur.toList.take (es.length * sz)) es.flatten ∧ (∀ c ∈ es, c.length = sz) ∧ (∀ c ∈ es, ∀ x ∈ c, V.one x = true) ∧ 0 < sz := by
  obtain ⟨g, hg, xs, ⟨_, hown⟩, hrep, hsz, hone, hp⟩ := hst.blk id _ hl
  rcases hown with ⟨_, h0⟩ | ⟨b, cap, cur, rfl, _, h2, h3, h4, h5, h6⟩
  · exact absurd (List.eq_nil_of_length_eq_zero h0) hne
  · rw [← h6] at hrep
    exact ⟨b, cap, cur, hg, h2, h3, h4, h5, hrep, hsz, hone, hp⟩
theorem zq3 (htt : TTok P tt) {c : POi} (h : poidx tt n env st todo = some c) (hc : zal c.g → 0 ≤ c.m ∧ c.m < c.es.length) (hob : zbh c.ob)
    (hk : G P n F Q c.todo ((c.t, gD c.g (.elp c.id c.m.toNat c.sz 0)) :: env) st ids) : G P n F Q todo env st ids := by
  unfold poidx at h
  split at h
  · rename_i all o todo0 h0
    split at h
    · rename_i t x i g hop hg
      split at h
      · rename_i e _ _ _ _ id ln o1 kk m o2 ht hx hi
        split at h
        · rename_i ti e' sz es t' all' o' todo' hti hl hdst hd h1
          split at h
          · rename_i hsz
            cases h
            obtain ⟨rfl, rfl⟩ := zhq h0 h1
            have hk : G P n F Q todo' (zee o'.dst (gD g (.elp id m.toNat sz 0)) env) st ids := by rw [hdst]; exact hk
            refine zcv (fr := []) (wr := []) (rd := [id]) h1 (zd4 hg fun I μ st1 ids1 a w hag hst hops hcx => ?_) (by rw [hdst] at hd ⊢; exact hd) (fun c hc => by rw [hop] at hc; cases hc) hk
            rw [hop] at hops
            obtain ⟨ho1, ho2⟩ := zay hob
            have rx := zdp hx ho1 hcx (hops x (by simp [Op.operands]))
            have ri := (zdp hi ho2 hcx (hops i (by simp [Op.operands]))).immInv.intInv
            obtain ⟨c0, c1⟩ := hc hcx
            simp only at c0 c1
            have hl1 : za3 st1 id (.row e' sz es) := by unfold za3; rw [hag id (by simp)]; exact hl
            obtain ⟨b, cap, cur, hmu, hheap, hcap, hcm, hcs, hrep, hlen, hone, hp⟩ := yap hst hl1 (by rintro rfl; simp at c1; omega)
            have hs := Nat.eq_of_beq_eq_true hsz
            subst hs
            have hu : P.underlying t = some (.slice e) := htt.sh ht
            simp only [execOp, hop, ri]
            generalize hv : a.eval x = v at rx
            cases rx with
            | own _ _ ad cp hm =>
              rw [hm] at hmu; cases hmu
              have hr := zs6 (w := w) hu (htt e ti hti) (b := b) (off := 0) (len := es.length) (cap := cap) (kk := kk) c0 (by omega)
              have hrun : (do pure (.value (← Instr.indexAt t (.slice (some ⟨b, 0, none⟩) es.length cap) (.int kk m))) : Sem Next).run P w = .ok (.value (.pointer (some ⟨b, 0 + m.toNat * ti.size, none⟩))) w := zak hr
              rw [hrun, Nat.zero_add]
              exact ⟨I, μ, hst, .elp b id _ cap m.toNat ti.size 0 hm, Mu.le_refl μ, Ext.refl _ _ _ _⟩
          · cases h
        · cases h
      · cases h
    · cases h
  · cases h
theorem ycn (htt : TTok P tt) {c : POl} {e : List V} {d : D} (h : yhg tt n env st todo = some c) (hc : zal c.g → c.es[c.k]? = some e) (hd : zqq c.i (Nat.beq c.sz c.i.size) e c.f = some d) (hob : zbh c.ob)
    (hk : G P n F Q c.todo ((c.t, gD c.g d) :: env) st ids) : G P n F Q todo env st ids := by
  unfold yhg at h
  split at h
  · rename_i all o todo0 h0
    split at h
    · rename_i t x g hop hg
      split at h
      · rename_i i id kk sz f o1 ht hx
        split at h
        · rename_i e' sz' es t' all' o' todo' hl hdst hd' h1
          split at h
          · rename_i hsz
            cases h
            obtain ⟨rfl, rfl⟩ := zhq h0 h1
            have hk : G P n F Q todo' (zee o'.dst (gD g d) env) st ids := by rw [hdst]; exact hk
            refine zcv (fr := []) (wr := []) (rd := [id]) h1 (zd4 hg fun I μ st1 ids1 a w hag hst hops hcx => ?_) (by rw [hdst] at hd' ⊢; exact hd') (fun c hc => by rw [hop] at hc; cases hc) hk
            rw [hop] at hops
            have rx := zdp hx hob hcx (hops x (by simp [Op.operands]))
            have c1 := hc hcx
            simp only at c1
            have hs := Nat.eq_of_beq_eq_true hsz
            subst hs
            have hl1 : za3 st1 id (.row e' sz es) := by unfold za3; rw [hag id (by simp)]; exact hl
            obtain ⟨b, cap, cur, hmu, hheap, hcap, hcm, hcs, hrep, hlen, hone, hp⟩ := yap hst hl1 (by rintro rfl; simp at c1)
            have he := hlen e (List.mem_of_getElem? c1)
            simp only [execOp, hop]
            generalize hv : a.eval x = v at rx
            cases rx with
            | elp _ _ ln cp _ _ _ hm =>
              rw [hm] at hmu; cases hmu
              have hcell : ∀ j y, e[j]? = some y → ∃ u, cur[kk * sz + j]? = some u ∧ RepV I u y ∧ u.oneCell' = true := by
                intro j y hj
                have h1 := flatten_get hlen kk e j y c1 hj
                have hlt : kk * sz + j < (cur.toList.take (es.length * sz)).length := by rw [hrep.1]; exact (List.getElem?_eq_some_iff.1 h1).1
                have h2 := List.getElem?_eq_getElem hlt
                have h3 := hrep.2 _ _ _ h2 h1
                refine ⟨_, ?_, h3, h3.one (hone e (List.mem_of_getElem? c1) y (List.mem_of_getElem? hj))⟩
                rw [List.getElem?_take] at h2
                split at h2
                · simp
                · cases h2
              obtain ⟨u, q1, q2⟩ := zlz (P := P) (w := w) (I := I) (μ := μ) (htt t i ht) (b := b) (o := kk * sz) (off := f) (xs := e) (vs := fun j => (cur[kk * sz + j]?).getD undef) (same := Nat.beq sz i.size)
                (fun j y hj => by
                  obtain ⟨u, k1, k2, k3⟩ := hcell j y hj
                  refine ⟨?_, by simp [k1, k3]⟩
                  rw [cell_of_heap hheap (kk * sz + j) u (by simpa using k1)]
                  simp [k1])
                (fun j y hj => by
                  obtain ⟨u, k1, k2, k3⟩ := hcell j y hj
                  simpa [k1] using k2)
                (fun _ hs _ => by rw [he]; exact Nat.eq_of_beq_eq_true hs) hd
              have hrun : (do pure (.value (← Instr.loadAt t (.pointer (some ⟨b, kk * sz + f, none⟩)))) : Sem Next).run P w = .ok (.value u) w := zak q1
              rw [hrun]
              exact ⟨I, μ, hst, q2, Mu.le_refl μ, Ext.refl _ _ _ _⟩
          · cases h
        · cases h
      · cases h
    · cases h
  · cases h
theorem yf8 (htt : TTok P tt) {c : POs} {e e' : List V} (h : ya6 tt env st todo = some c) (hc : c.es[c.k]? = some e) (hf : c.f + c.n ≤ c.sz) (he' : e' = e.take c.f ++ c.ys ++ e.drop (c.f + c.n)) (hob : zbh c.ob)
    (hk : G P n F Q c.todo env ((c.id, some (.row c.e c.sz (c.es.set c.k e'))) :: st) ids) : G P n F Q todo env st ids := by
  unfold ya6 at h
  split at h
  · rename_i all o todo0 h0
    split at h
    · rename_i t p x hgd hdst hop
      split at h
      · rename_i i id kk sz f dx ht hp hx
        split at h
        · rename_i ty sz' es all' o' todo' ys ob hl h1 hel
          split at h
          · rename_i hsz
            cases h
            obtain ⟨rfl, rfl⟩ := zhq h0 h1
            have hs := Nat.eq_of_beq_eq_true hsz
            subst hs
            simp only at hc hf he' hob hk
            have hk : G P n F Q todo' (zee o'.dst .undef env) ([(id, some (.row ty sz (es.set kk e')))] ++ st) ids := by rw [hdst]; exact hk
            refine zcv (fr := []) (wr := [(id, some (.row ty sz (es.set kk e')))]) (rd := [id]) h1 ?_ (by simp [zel, hdst]) (fun c hc => by rw [hop] at hc; cases hc) hk
            intro I μ st1 ids1 a w hag hst hon
            refine ⟨fun _ => ?_, fun hw => by rw [wanted_none hgd] at hw; cases hw⟩
            have hops := zbr hon
            rw [hop] at hops
            have rp := hops p (by simp [Op.operands]) _ hp
            obtain ⟨r1, r2, r3, r4⟩ := zpo hel (hops x (by simp [Op.operands]) _ hx) hob
            have hl1 : za3 st1 id (.row ty sz es) := by unfold za3; rw [hag id (by simp)]; exact hl
            obtain ⟨b, cap, cur, hmu, hheap, hcap, hcm, hcs, hrep, hlen, hone, hpos⟩ := yap hst hl1 (by rintro rfl; simp at hc)
            have hkl := (List.getElem?_eq_some_iff.1 hc).1
            have hfit : kk * sz + f + i.size ≤ es.length * sz := by
              have : (kk + 1) * sz ≤ es.length * sz := Nat.mul_le_mul_right _ hkl
              rw [Nat.succ_mul] at this; omega
            have hcapz : es.length * sz ≤ cap * sz := Nat.mul_le_mul_right _ hcap
            generalize hv : a.eval p = v at rp
            cases rp with
            | elp _ _ ln cp _ _ _ hm =>
              rw [hm] at hmu; cases hmu
              have hvl : (a.eval x).cells.toList.length = i.size := by simpa using r2
              have hrun : (execOp a.eval o').run P w = .ok .skip (w.setRow b (cur.toList.take (kk * sz + f) ++ (a.eval x).cells.toList ++ cur.toList.drop (kk * sz + f + (a.eval x).cells.toList.length)).toArray) := by
                simp only [execOp, hop, hv, Sem.run_bind, storeAt_ok (htt t i ht) hheap r2 r4 (show kk * sz + f + (a.eval x).cells.toList.length ≤ cur.size by rw [hvl]; omega), Result.andThen_ok, Sem.run_pure]
              rw [hrun]
              have hcl : cur.toList.length = cap * sz := by simpa using hcs
              have hnew : BlkRep I μ (w.setRow b (cur.toList.take (kk * sz + f) ++ (a.eval x).cells.toList ++ cur.toList.drop (kk * sz + f + (a.eval x).cells.toList.length)).toArray) (.slice (some ⟨b, 0, none⟩) es.length cap) (.row ty sz (es.set kk e')) := by
                subst he'
                have hys : ys.length = i.size := r3
                have e1 := zmr (ys := ys) es kk e hlen hc (by rw [hys]; exact hf)
                rw [hys] at e1
                have e2 : (cur.toList.take (kk * sz + f) ++ (a.eval x).cells.toList ++ cur.toList.drop (kk * sz + f + (a.eval x).cells.toList.length)).take (es.length * sz) =
                    (cur.toList.take (es.length * sz)).take (kk * sz + f) ++ (a.eval x).cells.toList ++ (cur.toList.take (es.length * sz)).drop (kk * sz + f + (a.eval x).cells.toList.length) := by
                  rw [hvl, List.append_assoc, List.take_append, List.take_append, List.take_take, List.take_take, List.length_take, hvl, List.append_assoc]
                  rw [Nat.min_eq_left (by omega : kk * sz + f ≤ cur.toList.length), Nat.min_eq_right (by omega : kk * sz + f ≤ es.length * sz), Nat.min_eq_left (by omega : kk * sz + f ≤ es.length * sz)]
                  rw [List.take_of_length_le (l := (a.eval x).cells.toList) (by omega), List.drop_take]
                  congr 3
                  omega
                have hR := RepVL.splice hrep r1 (kk * sz + f)
                rw [hvl, hys] at hR
                rw [hvl] at e2
                have hls : (es.set kk (e.take f ++ ys ++ e.drop (f + i.size))).length = es.length := by simp
                refine ⟨_, ⟨?_, .inr ⟨b, cap, _, by rw [hls], Nat.zero_le _, setRow_heap w b cur _ ty _ hheap, by rw [hls]; exact hcap, hcm, ?_, rfl⟩⟩, ?_, ?_, ?_, hpos⟩
                · simp; omega
                · simp; omega
                · rw [hls, hvl, List.toList_toArray, e2]
                  exact e1 ▸ hR
                · intro c hc'
                  rcases List.mem_or_eq_of_mem_set hc' with h | h
                  · exact hlen c h
                  · rw [h]
                    have := hlen e (List.mem_of_getElem? hc)
                    simp [hys]; omega
                · intro c hc' y hy
                  rcases List.mem_or_eq_of_mem_set hc' with h | h
                  · exact hone c h y hy
                  · rw [h] at hy
                    have h5 := hone e (List.mem_of_getElem? hc)
                    rcases List.mem_append.1 hy with hy | hy
                    · rcases List.mem_append.1 hy with hy | hy
                      · exact h5 y (List.mem_of_mem_take hy)
                      · obtain ⟨j, hj⟩ := List.mem_iff_getElem?.1 hy
                        have hjl : j < (a.eval x).cells.toList.length := by rw [r1.1]; exact (List.getElem?_eq_some_iff.1 hj).1
                        exact (r1.2 j _ y (List.getElem?_eq_getElem hjl) hj).oneV (r4 _ (List.getElem_mem _))
                    · exact h5 y (List.mem_of_mem_drop hy)
              obtain ⟨q1, q2⟩ := hst.update (id := id) (blk := .row ty sz es) (g := .slice (some ⟨b, 0, none⟩) es.length cap) (b := b) hl1 hm rfl (w' := w.setRow b _) (setRow_size w b _) rfl rfl rfl (fun k hk => setRow_other w b k _ hk) hnew
              exact ⟨I, μ, q1, .undef _, Mu.le_refl μ, q2⟩
          · cases h
        · cases h
      · cases h
    · cases h
  · cases h
end
end Go.Hk
namespace Go.Hk
section
variable {P : Program} {n : Nat} {F : List Nat} {Q : DQ} {tt : TT} {env env' : Env} {st st' : St} {ids ids' : List Nat} {k todo todo' : List DI} {I : Imm} {μ : Mu} {w : World} {a : Act} {Pn : V → Prop} {d : D} {cx : Prop} {ob : List Prop}
end
end Go.Hk
namespace Go.Hk
def zuq : List (Nat × Value × Blk) → St
  | [] => []
  | (i, _, b) :: r => (i, some b) :: zuq r
def zsw : List (Nat × Value × Blk) → List Nat
  | [] => []
  | (i, _, _) :: r => i :: zsw r
def zjj (new : List (Nat × Value × Blk)) (μ : Mu) : Mu := fun i => match lk new i with
  | some p => some p.1
  | none => μ i
def ybe (R : List Nat) (μ : Mu) (st : St) (b : Nat) : Prop := ∃ r blk g, r ∈ R ∧ za3 st r blk ∧ μ r = some g ∧ zil g b
section
variable {P : Program} {n : Nat} {F : List Nat} {Q : DQ} {tt : TT} {env env' : Env} {st st' : St} {ids ids' : List Nat} {todo : List DI} {I J : Imm} {μ : Mu} {w : World} {a : Act} {d : D}
theorem zyl {new : List (Nat × Value × Blk)} {i : Nat} {b : Blk} {st : St} : za3 (zuq new ++ st) i b → (∃ g, (i, g, b) ∈ new ∧ lk new i = some (g, b)) ∨ (lk new i = none ∧ za3 st i b) := by
  induction new with
  | nil => intro h; exact .inr ⟨rfl, h⟩
  | cons p r ih =>
    obtain ⟨k, g, x⟩ := p
    intro h
    simp only [zuq, List.cons_append] at h
    rcases zbu.1 h with ⟨rfl, rfl⟩ | ⟨h1, h2⟩
    · exact .inl ⟨g, by simp, lk_cons_self _ _ _⟩
    · rw [lk_cons_ne _ _ (fun e => h1 e.symm)]
      rcases ih h2 with ⟨g', q1, q2⟩ | h
      · exact .inl ⟨g', by simp [q1], q2⟩
      · exact .inr h
theorem zw0 {new : List (Nat × Value × Blk)} {i : Nat} : lk new i = none ↔ i ∉ zsw new := by
  induction new with
  | nil => simp [lk, zsw]
  | cons p r ih =>
    obtain ⟨k, g, x⟩ := p
    by_cases h : k = i
    · subst h; rw [lk_cons_self]; simp [zsw]
    · rw [lk_cons_ne _ _ h, ih]; simp [zsw]; exact fun _ e => h e.symm
theorem StRep.relay {R : List Nat} {new : List (Nat × Value × Blk)} (hst : StRep I μ st (zsw new ++ ids') w)
    (hown : ∀ p ∈ new, ∀ b, zil p.2.1 b → ybe R μ st b) (hdisj : ∀ p ∈ new, ∀ q ∈ new, ∀ b, zil p.2.1 b → zil q.2.1 b → p.1 = q.1)
    (hI : I.le J) (hJ : J.ok w) (hold : ∀ b o, J b = some o → I b = some o ∨ (ybe R μ st b ∧ ∀ p ∈ new, ¬ zil p.2.1 b))
    (hrep : μ.le (zjj new μ) → ∀ p ∈ new, BlkRep J (zjj new μ) w p.2.1 p.2.2) :
    μ.le (zjj new μ) ∧ StRep J (zjj new μ) (zuq new ++ (zcy R ++ st)) ids' w ∧ Ext I μ st w J (zjj new μ) (zuq new ++ (zcy R ++ st)) w := by
  have hnd := List.nodup_append.1 hst.nodup
  have hle : μ.le (zjj new μ) := fun i v h => by
    have : i ∉ zsw new := fun hi => by rw [hst.idsFree i (by simp [hi])] at h; cases h
    simp [zjj, zw0.2 this, h]
  have hcase : ∀ {i b}, za3 (zuq new ++ (zcy R ++ st)) i b → (∃ g, (i, g, b) ∈ new ∧ zjj new μ i = some g) ∨ (i ∉ R ∧ za3 st i b ∧ zjj new μ i = μ i) := by
    intro i b h
    rcases zyl h with ⟨g, q1, q2⟩ | ⟨q1, q2⟩
    · exact .inl ⟨g, q1, by simp [zjj, q2]⟩
    · obtain ⟨h3, h4⟩ := zkr q2
      exact .inr ⟨h3, h4, by simp [zjj, q1]⟩
  have hold' : ∀ {b}, zds μ st b → (∀ r ∈ R, ∀ blk g, za3 st r blk → μ r = some g → ¬ zil g b) → J b = none := by
    intro b ⟨i, blk, g, q1, q2, q3⟩ hR
    have hI0 := (hst.apart i blk g b q1 q2 q3).1
    cases hJb : J b with
    | none => rfl
    | some o =>
      rcases hold b o hJb with h | ⟨⟨r, blk', g', k1, k2, k3, k4⟩, _⟩
      · rw [hI0] at h; cases h
      · exact absurd k4 (hR r k1 blk' g' k2 k3)
  have hE : Ext I μ st w J (zjj new μ) (zuq new ++ (zcy R ++ st)) w :=
    { imm := hI, os := rfl, tape := rfl, output := rfl, size := Nat.le_refl _, block := fun _ _ _ => rfl
      fresh := fun b _ ⟨i, blk, g, q1, q2, q3⟩ => by
        rcases hcase q1 with ⟨g', k1, k2⟩ | ⟨_, k2, k3⟩
        · rw [k2] at q2; cases q2
          obtain ⟨r, blk', g', _, a2, a3, a4⟩ := hown _ k1 b q3
          exact ⟨r, blk', g', a2, a3, a4⟩
        · exact ⟨i, blk, g, k2, by rw [← k3]; exact q2, q3⟩
      old := fun b _ ho => by
        cases hJb : J b with
        | none =>
          cases hIb : I b with
          | none => rfl
          | some o => rw [hI b o hIb] at hJb; cases hJb
        | some o =>
          rcases hold b o hJb with h | ⟨⟨r, blk, g, _, k2, k3, k4⟩, _⟩
          · exact h.symm
          · exact absurd ⟨r, blk, g, k2, k3, k4⟩ ho }
  refine ⟨hle, { imm := hJ, blk := fun i b hl => ?_, apart := fun i b g k hl hg hk => ?_, inj := fun i j bi bj gi gj k hi hj hgi hgj hki hkj => ?_, nodup := hnd.2.1, idsFree := fun i hi => ?_ }, hE⟩
  · rcases hcase hl with ⟨g, k1, k2⟩ | ⟨_, k2, k3⟩
    · exact ⟨g, k2, hrep hle _ k1⟩
    · obtain ⟨g, q1, q2⟩ := hst.blk i b k2
      exact ⟨g, by rw [k3]; exact q1, q2.mono hI hle⟩
  · rcases hcase hl with ⟨g', k1, k2⟩ | ⟨kR, k2, k3⟩
    · rw [k2] at hg; cases hg
      obtain ⟨r, blk', g', a1, a2, a3, a4⟩ := hown _ k1 k hk
      obtain ⟨z1, z2⟩ := hst.apart r blk' g' k a2 a3 a4
      refine ⟨?_, z2⟩
      cases hJb : J k with
      | none => rfl
      | some o =>
        rcases hold k o hJb with h | ⟨_, h⟩
        · rw [z1] at h; cases h
        · exact absurd hk (h _ k1)
    · rw [k3] at hg
      obtain ⟨z1, z2⟩ := hst.apart i b g k k2 hg hk
      refine ⟨hold' ⟨i, b, g, k2, hg, hk⟩ fun r hr blk' g' h1 h2 h3 => ?_, z2⟩
      exact kR (by rw [hst.inj i r b blk' g g' k k2 h1 hg h2 hk h3]; exact hr)
  · rcases hcase hi with ⟨g1, k1, k2⟩ | ⟨kR, k2, k3⟩
    · rw [k2] at hgi; cases hgi
      rcases hcase hj with ⟨g2, l1, l2⟩ | ⟨lR, l2, l3⟩
      · rw [l2] at hgj; cases hgj
        exact hdisj _ k1 _ l1 k hki hkj
      · rw [l3] at hgj
        obtain ⟨r, blk', g', a1, a2, a3, a4⟩ := hown _ k1 k hki
        exact absurd (by rw [hst.inj j r bj blk' gj g' k l2 a2 hgj a3 hkj a4]; exact a1) lR
    · rw [k3] at hgi
      rcases hcase hj with ⟨g2, l1, l2⟩ | ⟨lR, l2, l3⟩
      · rw [l2] at hgj; cases hgj
        obtain ⟨r, blk', g', a1, a2, a3, a4⟩ := hown _ l1 k hkj
        exact absurd (by rw [hst.inj i r bi blk' gi g' k k2 a2 hgi a3 hki a4]; exact a1) kR
      · rw [l3] at hgj
        exact hst.inj i j bi bj gi gj k k2 l2 hgi hgj hki hkj
  · have : i ∉ zsw new := fun h => hnd.2.2 i h i hi rfl
    simp only [zjj, zw0.2 this]
    exact hst.idsFree i (by simp [hi])
theorem yjc (h : ∀ I μ a w, Conc n I μ env st ids a w → ∃ J ν env' st' ids', StRep J ν st' ids' w ∧ (∀ t d, lk env' t = some d → RepD J ν (a.tmps.getD t undef) d) ∧ Ext I μ st w J ν st' w ∧ Pin F μ ν ∧ DGo P n F Q todo env' st' ids') :
    DGo P n F Q todo env st ids := by
  intro b cs I μ a w items hd hc
  obtain ⟨J, ν, env', st', ids', h1, h2, h3, h4, h5⟩ := h I μ a w hc
  exact (h5 b cs J ν a w items hd { h1 with size := hc.size, env := h2, defers := hc.defers.ext h3 }).mono fun e a' w' hp => hp.back h4 h3
end
end Go.Hk
namespace Go.Hk
section
variable {P : Program} {n : Nat} {F : List Nat} {Q : DQ} {tt : TT} {env env' : Env} {st st' : St} {ids ids' : List Nat} {todo : List DI} {I J : Imm} {μ : Mu} {w : World} {a : Act} {d : D}
end
end Go.Hk
namespace Go.Hk
section
variable {P : Program} {n : Nat} {F : List Nat} {Q : DQ} {tt : TT} {env env' : Env} {st st' : St} {ids ids' : List Nat} {k todo todo' : List DI} {I J : Imm} {μ : Mu} {w : World} {a : Act} {d : D}
end
end Go.Hk
namespace Go.Hk
section
variable {P : Program} {n : Nat} {F : List Nat} {Q : DQ} {tt : TT} {env env' : Env} {st st' : St} {ids ids' : List Nat} {k todo todo' : List DI} {I J : Imm} {μ : Mu} {w : World} {a : Act} {d : D}
end
end Go.Hk
namespace Go.Hk
section
variable {P : Program} {n : Nat} {F : List Nat} {Q : DQ} {tt : TT} {env env' : Env} {st st' : St} {ids ids' : List Nat} {k todo todo' : List DI} {I J : Imm} {μ : Mu} {w : World} {a : Act} {d : D}
end
end Go.Hk
namespace Go.Hk
section
variable {P : Program} {n : Nat} {F : List Nat} {Q : DQ} {tt : TT} {env env' : Env} {st st' : St} {ids ids' : List Nat} {todo : List DI} {I J : Imm} {μ : Mu} {w : World} {a : Act} {d : D}
end
end Go.Hk
namespace Go.Hk
def zyc : V → Bool
  | .bool _ | .int .. | .str _ => true
  | _ => false
def zwi : List V → Bool
  | [] => true
  | x :: r => zyc x && zwi r
section
variable {P : Program} {I J : Imm} {μ ν : Mu} {st : St} {w : World}
theorem yan {v : Value} {x : V} (h : zyc x = true) (hr : RepV J v x) : RepV I v x := by
  cases hr <;> first | (simp [zyc] at h; done) | constructor <;> assumption
end
end Go.Hk
namespace Go.Hk
section
variable {P : Program} {n : Nat} {F : List Nat} {Q : DQ} {todo : List DI} {env : Env} {st : St} {ids' : List Nat}
theorem zny (t j : Nat) {e : TypeId} {sz : Nat} (hsz : 0 < sz) (ht : lk env t = some .nils) (h : DGo P n F Q todo ((t, .own j 0) :: env) ((j, some (.row e sz [])) :: st) ids') : DGo P n F Q todo env st (j :: ids') := by
  refine yjc fun I μ a w hc => ?_
  have hv : a.tmps.getD t undef = .slice none 0 0 := by
    have := hc.env t _ ht
    generalize a.tmps.getD t undef = v at this
    cases this with
    | nils => rfl
  obtain ⟨q1, q2, q3⟩ := StRep.relay (R := []) (new := [(j, .slice none 0 0, .row e sz [])]) (ids' := ids') hc.toStRep
    (fun p hp b hb => by rw [List.mem_singleton.1 hp] at hb; exact hb.elim)
    (fun p hp q hq b _ _ => by rw [List.mem_singleton.1 hp, List.mem_singleton.1 hq]) (Imm.le_refl I) hc.imm (fun b o h => .inl h)
    (fun _ p hp => by
      rw [List.mem_singleton.1 hp]
      exact ⟨[], World.ownsRow_nil w _ e sz, ⟨rfl, fun i v x h _ => by simp at h⟩, fun _ h => by simp at h, fun _ h => by simp at h, hsz⟩)
  refine ⟨I, _, _, _, ids', q2, fun t' d hd => ?_, q3, .of_le q1, h⟩
  by_cases e : t = t'
  · subst e
    rw [lk_cons_self] at hd; cases hd
    rw [hv]
    exact .own j 0 none 0 (by simp [zjj, lk])
  · rw [lk_cons_ne _ _ e] at hd; exact (hc.env t' d hd).mono (Imm.le_refl I) q1
end
end Go.Hk
namespace Go.Hk
open Go.Proofs
def yhc : Ty := .mk 3 0 [] []
def zjm : Fd := ⟨[102], [120], yhc, yhc, .mk 3 0 [] [] []⟩
def zb8 (ds : List Dt) : List Str := ds.flatMap fun d => d.cons.map Cd.name
def zcc (ds : List Dt) : List Str := ds.map Dt.name
def zbn (ds l : List Dt) : Bool := l.all fun d => d.cons.all fun c => za5 ds c.args
def zha (ds : List Dt) : Bool := zdl ⟨[109], ds, [zjm]⟩ && (zbn ds ds && (za8 (zcc ds) && za8 (zb8 ds)))
theorem zir (ds : List Dt) : ∀ l : List Ty, za5 ds l = l.all (zbw ds)
  | [] => rfl
  | t :: r => by simp [za5, zir ds r]
theorem zc8 {α : Type} {l : List α} {q : α → Bool} {i : Nat} {t : α} (h : l[i]? = some t) : (l.drop i).all q = (q t && (l.drop (i + 1)).all q) := by rw [zaj h]; rfl
theorem zh7 {ds : List Dt} (h : zdl ⟨[109], ds, [zjm]⟩ = true) : ds.length ≤ 4 ∧ ∀ d ∈ ds, d.cons.length ≤ 5 ∧ ∀ c ∈ d.cons, c.args.length ≤ 3 := by
  simp only [zdl, Bool.and_eq_true, List.all_eq_true, decide_eq_true_eq] at h
  refine ⟨by omega, fun d hd => ?_⟩
  have hd := h.1.2 d hd
  simp only [zkt, Bool.and_eq_true, List.all_eq_true, inI, decide_eq_true_eq] at hd
  refine ⟨by omega, fun c hc => ?_⟩
  have hc := hd.2 c hc
  simp only [zzv, Bool.and_eq_true, decide_eq_true_eq] at hc
  omega
theorem zpt {ds : List Dt} {i : Nat} {d : Dt} (h : ds[i]? = some d) : zb8 (ds.take (i + 1)) = zb8 (ds.take i) ++ d.cons.map Cd.name := by
  rw [zbe h]; simp [zb8]
theorem ztr {ds : List Dt} (h : ∀ d ∈ ds, d.cons.length ≤ 5) : (zb8 ds).length ≤ 5 * ds.length := by
  induction ds with
  | nil => simp [zb8]
  | cons d r ih =>
    have h1 := h d (by simp)
    have h2 := ih fun x hx => h x (by simp [hx])
    simp only [zb8, List.flatMap_cons, List.length_append, List.length_map, List.length_cons] at h2 ⊢
    omega
set_option maxRecDepth 100000 in
set_option maxHeartbeats 1000000 in
theorem yg7 (ds : List Dt) : PureC Tryz.prog 57 [.sl (ds.map zep)] (.bool (zha ds)) := by
  refine zae zcz Tryz.func57 (by decide +kernel) rfl [1, 2, 3, 4, 5, 6, 7, 8] rfl rfl ?_
  refine cg [] rfl (by simp) ?_
  refine zac rfl (fun _ => ydz ⟨[109], ds, [zjm]⟩) (by simp) ?_
  refine cg [] rfl (by simp) ?_
  refine zaa rfl (fun h => ?_) (fun h => ?_)
  · refine cd [] rfl (by simp) ?_
    refine zab ⟨_, rfl, tV (congrArg _ ?_), trivial⟩
    simp at h
    simp [zha, h]
  have hm : zdl ⟨[109], ds, [zjm]⟩ = true := by simpa using h
  clear h
  obtain ⟨hl1, hl2⟩ := zh7 hm
  refine cd [] rfl (by simp) ?_
  refine zny (e := 9) (sz := 1) 5 3 (by decide) rfl ?_
  refine zny (e := 9) (sz := 1) 6 4 (by decide) rfl ?_
  rw [show zha ds = (zbn ds ds && (za8 (zcc ds) && za8 (zb8 ds))) by simp [zha, hm]]
  refine zag (fun i : Nat => [(7, .imm (.int .i64 i)), (0, .imm (.sl (ds.map zep))), (5, .own 3 (zgo (zcc (ds.take i))).length), (6, .own 4 (zgo (zb8 (ds.take i))).length)])
    (fun i => [(3, some (.row 9 1 (zgo (zcc (ds.take i))))), (4, some (.row 9 1 (zgo (zb8 (ds.take i)))))]) [5, 6, 7] (fun i => ds.length - i)
    (fun i => i ≤ ds.length ∧ zbn ds ds = zbn ds (ds.drop i)) 0 ⟨Nat.zero_le _, rfl⟩ ⟨rfl, rfl, rfl, rfl, trivial⟩ ⟨rfl, rfl, trivial⟩ rfl fun i hi ih => ?_
  obtain ⟨hi1, hi2⟩ := hi
  refine cd [] rfl (by simp) ?_
  refine zaa rfl (fun h => ?_) (fun h => ?_)
  · simp at h
    obtain ⟨d, hd⟩ := zah h
    have hdm := hl2 d (List.mem_of_getElem? hd)
    have hcl := ztr (ds := ds.take i) fun x hx => (hl2 x (List.mem_of_mem_take hx)).1
    rw [List.length_take] at hcl
    have et : zcc (ds.take (i + 1)) = zcc (ds.take i) ++ [d.name] := by rw [zbe hd]; simp [zcc]
    have ec := zpt hd
    rw [show zbn ds (ds.drop i) = (d.cons.all (fun c => za5 ds c.args) && zbn ds (ds.drop (i + 1))) from zc8 hd] at hi2
    refine cd [] rfl (by simp) ?_
    refine ci rfl (c := zep d) (fun _ => ⟨by simp, by simpa using za6 hd, by simp⟩) (by simp) ?_
    obtain ⟨dn, dc⟩ := d
    refine cg [] rfl (by simp) ?_
    refine zc7 zcz rfl ⟨by simp, by simp [maxLen, zcc]; omega, by simp [zcc]; omega, trivial⟩ ?_
    refine cg [] rfl (by simp) ?_
    refine zc9 3 5 rfl ?_
    simp only at hdm ec et hi2 ⊢
    refine zag (fun k : Nat => [(8, .imm (.int .i64 k)), (7, .imm (.int .i64 i)), (0, .imm (.sl (ds.map zep))), (5, .own 3 (zgo (zcc (ds.take (i + 1)))).length), (6, .own 4 (zgo (zb8 (ds.take i) ++ (dc.take k).map Cd.name)).length)])
      (fun k => [(3, some (.row 9 1 (zgo (zcc (ds.take (i + 1)))))), (4, some (.row 9 1 (zgo (zb8 (ds.take i) ++ (dc.take k).map Cd.name))))]) [5, 6, 7] (fun k => dc.length - k)
      (fun k => k ≤ dc.length ∧ dc.all (fun c => za5 ds c.args) = (dc.drop k).all (fun c => za5 ds c.args)) 0 ⟨Nat.zero_le _, rfl⟩ ⟨rfl, rfl, rfl, by rw [et, zc4]; rfl, by rw [List.take_zero, List.map_nil, List.append_nil]; rfl, trivial⟩ ⟨by rw [et, zc4]; rfl, by rw [List.take_zero, List.map_nil, List.append_nil]; rfl, trivial⟩ rfl fun k hk jh => ?_
    obtain ⟨hk1, hk2⟩ := hk
    refine cd [] rfl (by simp) ?_
    refine ci rfl (c := zep ⟨dn, dc⟩) (fun _ => ⟨by simp, by simpa using za6 hd, by simp⟩) (by simp) ?_
    refine cg [] rfl (by simp) ?_
    refine zaa rfl (fun h => ?_) (fun h => ?_)
    · simp at h
      obtain ⟨c, hc⟩ := zah h
      have hcm := hdm.2 c (List.mem_of_getElem? hc)
      have ek : (dc.take (k + 1)).map Cd.name = (dc.take k).map Cd.name ++ [c.name] := by rw [zbe hc]; simp
      rw [zc8 hc] at hk2
      refine cd [] rfl (by simp) ?_
      refine ci rfl (c := zep ⟨dn, dc⟩) (fun _ => ⟨by simp, by simpa using za6 hd, by simp⟩) (by simp) ?_
      refine cg [] rfl (by simp) ?_
      refine ci rfl (c := zh2 c) (fun _ => ⟨by simp, by simpa using za6 hc, by simp⟩) (by simp) ?_
      obtain ⟨cn, ca⟩ := c
      refine cg [] rfl (by simp) ?_
      refine zc7 zcz rfl ⟨by simp, by simp [maxLen]; omega, by simp; omega, trivial⟩ ?_
      refine cg [] rfl (by simp) ?_
      refine zc9 4 5 rfl ?_
      simp only at hcm ek hk2 ⊢
      refine zag (fun n : Nat => [(9, .imm (.int .i64 n)), (8, .imm (.int .i64 k)), (7, .imm (.int .i64 i)), (0, .imm (.sl (ds.map zep))), (5, .own 3 (zgo (zcc (ds.take (i + 1)))).length), (6, .own 4 (zgo (zb8 (ds.take i) ++ (dc.take (k + 1)).map Cd.name)).length)])
        (fun n => [(3, some (.row 9 1 (zgo (zcc (ds.take (i + 1)))))), (4, some (.row 9 1 (zgo (zb8 (ds.take i) ++ (dc.take (k + 1)).map Cd.name))))]) [5, 6, 7] (fun n => ca.length - n)
        (fun n => n ≤ ca.length ∧ za5 ds ca = za5 ds (ca.drop n)) 0 ⟨Nat.zero_le _, rfl⟩ ⟨rfl, rfl, rfl, rfl, rfl, by rw [ek, ← List.append_assoc, zc4 _ [cn]]; rfl, trivial⟩ ⟨rfl, by rw [ek, ← List.append_assoc, zc4 _ [cn]]; rfl, trivial⟩ rfl fun n hn kh => ?_
      obtain ⟨hn1, hn2⟩ := hn
      refine cd [] rfl (by simp) ?_
      refine ci rfl (c := zep ⟨dn, dc⟩) (fun _ => ⟨by simp, by simpa using za6 hd, by simp⟩) (by simp) ?_
      refine cg [] rfl (by simp) ?_
      refine ci rfl (c := zh2 ⟨cn, ca⟩) (fun _ => ⟨by simp, by simpa using za6 hc, by simp⟩) (by simp) ?_
      refine cg [] rfl (by simp) ?_
      refine zaa rfl (fun h => ?_) (fun h => ?_)
      · simp at h
        obtain ⟨t, ht⟩ := zah h
        rw [zaj ht] at hn2
        refine cd [] rfl (by simp) ?_
        refine ci rfl (c := zep ⟨dn, dc⟩) (fun _ => ⟨by simp, by simpa using za6 hd, by simp⟩) (by simp) ?_
        refine cg [] rfl (by simp) ?_
        refine ci rfl (c := zh2 ⟨cn, ca⟩) (fun _ => ⟨by simp, by simpa using za6 hc, by simp⟩) (by simp) ?_
        refine cg [] rfl (by simp) ?_
        refine ci rfl (c := dTyc t) (fun _ => ⟨by simp, by simpa using zan ht, by simp⟩) (by simp) ?_
        refine cg [] rfl (by simp) ?_
        refine zac rfl (fun _ => zm6 ds t) (by simp) ?_
        refine cg [] rfl (by simp) ?_
        refine zaa rfl (fun h => ?_) (fun h => ?_)
        · refine cd [] rfl (by simp) ?_
          refine zab ⟨_, rfl, tV (congrArg _ ?_), trivial⟩
          simp at h
          simp only [za5, h, Bool.false_and] at hn2
          simp only [hn2, Bool.false_and] at hk2
          rw [hi2, hk2]; simp
        · refine cd [] rfl (by simp) ?_
          simp at h
          exact zad (kh (n + 1) (by omega) ⟨by omega, by rw [hn2]; simp [za5, h]⟩) ⟨za2 (w64 (by omega) (by omega)), rfl, rfl, rfl, rfl, rfl, trivial⟩ ⟨rfl, rfl, trivial⟩ rfl
      · simp at h
        refine zar rfl ?_
        refine cd [] rfl (by simp) ?_
        rw [List.drop_eq_nil_of_le (by omega)] at hn2
        exact zad (jh (k + 1) (by omega) ⟨by omega, by rw [hk2]; simp [hn2, za5]⟩) ⟨za2 (w64 (by omega) (by omega)), rfl, rfl, rfl, rfl, trivial⟩ ⟨rfl, rfl, trivial⟩ rfl
    · simp at h
      refine zar rfl ?_
      refine cd [] rfl (by simp) ?_
      rw [List.drop_eq_nil_of_le (by omega)] at hk2
      have hk3 : dc.take k = dc := List.take_of_length_le h
      refine zad (ih (i + 1) (by omega) ⟨by omega, by rw [hi2, hk2]; simp⟩) ⟨za2 (w64 (by omega) (by omega)), rfl, rfl, by rw [ec, hk3]; rfl, trivial⟩ ⟨rfl, by rw [ec, hk3]; rfl, trivial⟩ rfl
  · simp at h
    have hle : ds.length ≤ i := by omega
    refine zar rfl ?_
    rw [List.take_of_length_le hle, List.drop_eq_nil_of_le hle] at *
    rw [hi2, show zbn ds [] = true from rfl, Bool.true_and]
    refine zd7 3 rfl ?_
    refine zd7 4 rfl ?_
    refine cd [] rfl (by simp) ?_
    refine zac rfl (fun _ => zoi (zcc ds)) (by simp) ?_
    refine cg [] rfl (by simp) ?_
    refine zac rfl (fun _ => zoi (zb8 ds)) (by simp [zal]) ?_
    refine cg [] rfl (by simp) ?_
    refine zab ⟨_, rfl, tV (congrArg _ ?_), trivial⟩
    simp
structure OkD (ds : List Dt) : Prop where
  named : zbn ds ds = true
  len : ∀ d ∈ ds, d.cons.length ≤ 1000000
theorem OkD.of {ds : List Dt} (h : zha ds = true) : OkD ds := by
  simp only [zha, Bool.and_eq_true] at h
  exact ⟨h.2.1, fun d hd => by have := ((zh7 h.1).2 d hd).1; omega⟩
theorem zho (s : Str) : ∀ (l : List Dt) (i : Nat), 0 ≤ zbb s i l → ∃ k d, zbb s i l = ((i + k : Nat) : Int) ∧ l[k]? = some d ∧ d.name = s
  | [], i, h => by simp [zbb] at h
  | d :: r, i, h => by
    simp only [zbb] at h ⊢
    by_cases e : d.name = s
    · rw [if_pos e]; exact ⟨0, d, by simp, by simp, e⟩
    · rw [if_neg e] at h ⊢
      obtain ⟨k, d', h1, h2, h3⟩ := zho s r (i + 1) h
      exact ⟨k + 1, d', by rw [h1]; omega, by simpa using h2, h3⟩
theorem zjk {ds : List Dt} {t : Ty} (h : zbw ds t = true) : ∀ so n x ps, t = .mk so n x ps → so = 8 → 0 ≤ zbb x 0 ds ∧ ∃ d, ds[(zbb x 0 ds).toNat]? = some d := by
  rintro so n x ps rfl rfl
  simp [zbw] at h
  obtain ⟨k, d, h1, h2, _⟩ := zho x ds 0 h.1
  exact ⟨h.1, d, by rw [h1]; simpa using h2⟩
theorem zl5 {s : Str} : ∀ {l : List Cd} {i : Nat}, 0 ≤ (zi7 s i l).2 → (zi7 s i l).1 ∈ l ∧ (zi7 s i l).1.name = s
  | [], i, h => by simp [zi7] at h
  | c :: r, i, h => by
    simp only [zi7] at h ⊢
    by_cases e : c.name = s
    · rw [if_pos e]; exact ⟨by simp, e⟩
    · rw [if_neg e] at h ⊢
      have := zl5 (l := r) h
      exact ⟨List.mem_cons_of_mem _ this.1, this.2⟩
theorem ygu {ds : List Dt} {t : Ty} {s : Str} (h : 0 ≤ (zgh ds t s).2) : ∃ d ∈ ds, (zgh ds t s).1 ∈ d.cons := by
  obtain ⟨so, n, x, ps⟩ := t
  simp only [zgh] at h ⊢
  by_cases e : so = 8
  · rw [if_pos e] at h ⊢
    cases hd : ds[(zbb x 0 ds).toNat]? with
    | none => simp [hd] at h
    | some d =>
      simp only [hd] at h ⊢
      exact ⟨d, List.mem_of_getElem? hd, (zl5 h).1⟩
  · rw [if_neg e] at h; simp at h
theorem zku {ds : List Dt} (ho : OkD ds) {t : Ty} {s : Str} (h : 0 ≤ (zgh ds t s).2) : za5 ds (zgh ds t s).1.args = true := by
  obtain ⟨d, h1, h2⟩ := ygu h
  have := ho.named
  simp only [zbn, List.all_eq_true] at this
  exact this d h1 _ h2
theorem zeg {ds : List Dt} {l : List Ty} (h : za5 ds l = true) {i : Nat} {t : Ty} (ht : l[i]? = some t) : zbw ds t = true := by
  rw [zir, List.all_eq_true] at h
  exact h t (List.mem_of_getElem? ht)
mutual
def zew (ds : List Dt) : Ty → Ty → Bool
  | .mk so _ x0 _, .mk f _ x ps => if f = 3 then so == 1 else if f = 4 then so == 2 else if f = 5 then so == 3 else if f = 6 then decide (0 ≤ (zgh ds (.mk so 0 x0 []) x).2) && (decide ((zgh ds (.mk so 0 x0 []) x).1.args.length = ps.length) && zfy ds (zgh ds (.mk so 0 x0 []) x).1.args ps) else true
def zfy (ds : List Dt) : List Ty → List Ty → Bool
  | _, [] => true
  | [], _ :: _ => true
  | a :: r, p :: q => zew ds a p && zfy ds r q
end
theorem zrg (ds : List Dt) (so n m : Int) (x s : Str) (ps qs : List Ty) : zgh ds (.mk so n x ps) s = zgh ds (.mk so m x qs) s := rfl
set_option maxRecDepth 100000 in
set_option maxHeartbeats 1000000 in
theorem zwt (ct : Ty) (rows : List Ty) (ds : List Dt) (ho : OkD ds) : ∀ (p t : Ty), zbw ds t = true → PureC Tryz.prog 61 [.agg (dCse ⟨ds, ct, rows⟩), .agg (dTyc t), .agg (dTyc p)] (.bool (zew ds t p))
  | .mk f n x ps, t, hn => by
    have hcon := yhy ⟨ds, ct, rows⟩ t x (zjk hn) ho.len
    have hnm := fun h => zku ho (t := t) (s := x) h
    obtain ⟨so, n0, x0, ps0⟩ := t
    obtain ⟨c1, c2, c3, c4⟩ := ct
    simp only [zew]
    rw [zrg ds so 0 n0 x0 x [] ps0]
    simp only at hcon
    generalize zgh ds (.mk so n0 x0 ps0) x = r at *
    obtain ⟨⟨kn, ka⟩, kp⟩ := r
    refine zav fun hv => ?_
    simp [zdi, vOk, dTyc, dCse, maxLen] at hv
    refine zae zcz Tryz.func61 (by decide +kernel) rfl [1, 2, 3, 4, 5, 6] rfl rfl ?_
    refine cg [] rfl (by simp) ?_
    by_cases h3 : f = 3
    · subst h3
      refine zaa rfl (fun h => ?_) (fun h => by simp at h)
      refine cd [] rfl (by simp) ?_
      refine zab ⟨_, rfl, tV (congrArg _ ?_), trivial⟩
      simp
    rw [if_neg h3]
    refine zaa rfl (fun h => absurd (by simpa using h) h3) (fun h => ?_)
    clear h
    refine cd [] rfl (by simp) ?_
    by_cases h4 : f = 4
    · subst h4
      refine zaa rfl (fun h => ?_) (fun h => by simp at h)
      refine cd [] rfl (by simp) ?_
      refine zab ⟨_, rfl, tV (congrArg _ ?_), trivial⟩
      simp
    rw [if_neg h4]
    refine zaa rfl (fun h => absurd (by simpa using h) h4) (fun h => ?_)
    clear h
    refine cd [] rfl (by simp) ?_
    by_cases h5 : f = 5
    · subst h5
      refine zaa rfl (fun h => ?_) (fun h => by simp at h)
      refine cd [] rfl (by simp) ?_
      refine zab ⟨_, rfl, tV (congrArg _ ?_), trivial⟩
      simp
    rw [if_neg h5]
    refine zaa rfl (fun h => absurd (by simpa using h) h5) (fun h => ?_)
    clear h
    refine cd [] rfl (by simp) ?_
    by_cases h6 : f = 6
    case neg =>
      rw [if_neg h6]
      refine zaa rfl (fun h => absurd (by simpa using h) h6) (fun h => ?_)
      refine cd [] rfl (by simp) ?_
      exact zab ⟨_, rfl, tV rfl, trivial⟩
    rw [if_pos h6]
    refine zaa rfl (fun h => ?_) (fun h => by simp [h6] at h)
    clear h
    refine cd [] rfl (by simp) ?_
    refine zac rfl (fun _ => hcon) (by simp) ?_
    refine cg [] rfl (by simp) ?_
    by_cases hg : 0 ≤ kp ∧ ka.length = ps.length
    case neg =>
      refine zaa rfl (fun h => ?_) (fun h => ?_)
      · refine cd [] rfl (by simp) ?_
        refine zab ⟨_, rfl, tV (congrArg _ ?_), trivial⟩
        simp
        grind
      · exfalso
        simp at h
        apply hg
        omega
    obtain ⟨hkp, hlen⟩ := hg
    have hnm := hnm hkp
    refine zaa rfl (fun h => by exfalso; simp [hlen] at h; omega) (fun h => ?_)
    clear h
    refine cd [] rfl (by simp) ?_
    simp only [hkp, hlen, decide_true, Bool.true_and]
    refine zag (fun i : Nat => [(9, .imm (.int .i64 i)), (3, .ref 1 0), (5, .ref 3 0), (7, .ref 4 0)]) (fun _ => [(1, some (.immb 29 6 (dCse ⟨ds, .mk c1 c2 c3 c4, rows⟩))), (3, some (.immb 50 4 (dTyc (.mk f n x ps)))), (4, some (.immb 75 2 (zh2 ⟨kn, ka⟩)))]) [5, 6] (fun i => ps.length - i)
      (fun i => i ≤ ps.length ∧ zfy ds ka ps = zfy ds (ka.drop i) (ps.drop i)) 0 ⟨Nat.zero_le _, rfl⟩ ⟨rfl, rfl, rfl, rfl, trivial⟩ ⟨rfl, rfl, rfl, trivial⟩ rfl fun i hi ih => ?_
    obtain ⟨hi1, hi2⟩ := hi
    refine cd [] rfl (by simp) ?_
    refine zaa rfl (fun h => ?_) (fun h => ?_)
    · simp at h
      obtain ⟨p, hp⟩ := zah h
      obtain ⟨a, ha⟩ := zah (l := ka) (i := i) (by omega)
      rw [zaj hp, zaj ha] at hi2
      simp only [zfy] at hi2
      refine cd [] rfl (by simp) ?_
      refine ci rfl (c := dTyc a) (fun _ => ⟨by simp, by simpa using zan ha, by simp⟩) (by simp) ?_
      refine cg [] rfl (by simp) ?_
      refine ci rfl (c := dTyc p) (fun _ => ⟨by simp, by simpa using zan hp, by simp⟩) (by simp) ?_
      refine cg [] rfl (by simp) ?_
      refine zac rfl (fun _ => zwt (.mk c1 c2 c3 c4) rows ds ho p a (zeg hnm ha)) (by simp) ?_
      refine cg [] rfl (by simp; rfl) ?_
      refine zaa rfl (fun h => ?_) (fun h => ?_)
      · refine cd [] rfl (by simp) ?_
        refine zab ⟨_, rfl, tV (congrArg _ ?_), trivial⟩
        simp at h
        simp [hi2, h]
      · refine cd [] rfl (by simp) ?_
        simp at h
        exact zad (ih (i + 1) (by omega) ⟨by omega, by rw [hi2]; simp [h]⟩) ⟨za2 (w64 (by omega) (by omega)), rfl, rfl, rfl, trivial⟩ ⟨rfl, rfl, rfl, trivial⟩ rfl
    · simp at h
      refine zar rfl ?_
      refine cd [] rfl (by simp) ?_
      rw [hi2, List.drop_eq_nil_of_le (by omega), List.drop_eq_nil_of_le (by omega)]
      exact zab ⟨_, rfl, tV rfl, trivial⟩
termination_by p => SizeOf.sizeOf p
decreasing_by
  have := List.sizeOf_lt_of_mem (List.mem_of_getElem? hp)
  simp_wf
  omega
mutual
def ofD (ds : List Dt) : Ty → Ty → Bool
  | .mk so _ x0 _, .mk f _ x ps => if so = 1 then f == 1 else if so = 2 then f == 2 else if so = 3 then f == 3 else if so = 8 then decide (f = 4) && (decide (0 ≤ (zgh ds (.mk so 0 x0 []) x).2) && (decide ((zgh ds (.mk so 0 x0 []) x).1.args.length = ps.length) && yfg ds (zgh ds (.mk so 0 x0 []) x).1.args ps)) else f == 5
def yfg (ds : List Dt) : List Ty → List Ty → Bool
  | _, [] => true
  | [], _ :: _ => true
  | a :: r, p :: q => ofD ds a p && yfg ds r q
end
set_option maxRecDepth 100000 in
set_option maxHeartbeats 1000000 in
theorem Of_ok (ct : Ty) (rows : List Ty) (ds : List Dt) (ho : OkD ds) : ∀ (p t : Ty), zbw ds t = true → PureC Tryz.prog 28 [.agg (dCse ⟨ds, ct, rows⟩), .agg (dTyc t), .agg (dTyc p)] (.bool (ofD ds t p))
  | .mk f n x ps, t, hn => by
    have hcon := yhy ⟨ds, ct, rows⟩ t x (zjk hn) ho.len
    have hnm := fun h => zku ho (t := t) (s := x) h
    obtain ⟨so, n0, x0, ps0⟩ := t
    obtain ⟨c1, c2, c3, c4⟩ := ct
    simp only [ofD]
    rw [zrg ds so 0 n0 x0 x [] ps0]
    simp only at hcon
    generalize zgh ds (.mk so n0 x0 ps0) x = r at *
    obtain ⟨⟨kn, ka⟩, kp⟩ := r
    refine zav fun hv => ?_
    simp [zdi, vOk, dTyc, dCse, maxLen] at hv
    refine zae zcz Tryz.func28 (by decide +kernel) rfl [1, 2, 3, 4, 5, 6] rfl rfl ?_
    refine cg [] rfl (by simp) ?_
    by_cases h1 : so = 1
    · subst h1
      refine zaa rfl (fun h => ?_) (fun h => by simp at h)
      refine cd [] rfl (by simp) ?_
      refine zab ⟨_, rfl, tV (congrArg _ ?_), trivial⟩
      simp
    rw [if_neg h1]
    refine zaa rfl (fun h => absurd (by simpa using h) h1) (fun h => ?_)
    clear h
    refine cd [] rfl (by simp) ?_
    by_cases h2 : so = 2
    · subst h2
      refine zaa rfl (fun h => ?_) (fun h => by simp at h)
      refine cd [] rfl (by simp) ?_
      refine zab ⟨_, rfl, tV (congrArg _ ?_), trivial⟩
      simp
    rw [if_neg h2]
    refine zaa rfl (fun h => absurd (by simpa using h) h2) (fun h => ?_)
    clear h
    refine cd [] rfl (by simp) ?_
    by_cases h3 : so = 3
    · subst h3
      refine zaa rfl (fun h => ?_) (fun h => by simp at h)
      refine cd [] rfl (by simp) ?_
      refine zab ⟨_, rfl, tV (congrArg _ ?_), trivial⟩
      simp
    rw [if_neg h3]
    refine zaa rfl (fun h => absurd (by simpa using h) h3) (fun h => ?_)
    clear h
    refine cd [] rfl (by simp) ?_
    by_cases h8 : so = 8
    case neg =>
      rw [if_neg h8]
      refine zaa rfl (fun h => absurd (by simpa using h) h8) (fun h => ?_)
      refine cd [] rfl (by simp) ?_
      refine zab ⟨_, rfl, tV (congrArg _ ?_), trivial⟩
      simp
    rw [if_pos h8]
    refine zaa rfl (fun h => ?_) (fun h => by simp [h8] at h)
    clear h
    refine cd [] rfl (by simp) ?_
    refine zac rfl (fun _ => hcon) (by simp) ?_
    refine cg [] rfl (by simp) ?_
    by_cases hg : f = 4 ∧ 0 ≤ kp ∧ ka.length = ps.length
    case neg =>
      refine zaa rfl (fun h => ?_) (fun h => ?_)
      · refine cd [] rfl (by simp) ?_
        refine zab ⟨_, rfl, tV (congrArg _ ?_), trivial⟩
        simp
        grind
      · exfalso
        simp at h
        apply hg
        omega
    obtain ⟨rfl, hkp, hlen⟩ := hg
    have hnm := hnm hkp
    refine zaa rfl (fun h => by exfalso; simp [hlen] at h; omega) (fun h => ?_)
    clear h
    refine cd [] rfl (by simp) ?_
    simp only [hkp, hlen, decide_true, Bool.true_and]
    refine zag (fun i : Nat => [(9, .imm (.int .i64 i)), (3, .ref 1 0), (5, .ref 3 0), (7, .ref 4 0)]) (fun _ => [(1, some (.immb 29 6 (dCse ⟨ds, .mk c1 c2 c3 c4, rows⟩))), (3, some (.immb 33 4 (dTyc (.mk 4 n x ps)))), (4, some (.immb 75 2 (zh2 ⟨kn, ka⟩)))]) [5, 6] (fun i => ps.length - i)
      (fun i => i ≤ ps.length ∧ yfg ds ka ps = yfg ds (ka.drop i) (ps.drop i)) 0 ⟨Nat.zero_le _, rfl⟩ ⟨rfl, rfl, rfl, rfl, trivial⟩ ⟨rfl, rfl, rfl, trivial⟩ rfl fun i hi ih => ?_
    obtain ⟨hi1, hi2⟩ := hi
    refine cd [] rfl (by simp) ?_
    refine zaa rfl (fun h => ?_) (fun h => ?_)
    · simp at h
      obtain ⟨p, hp⟩ := zah h
      obtain ⟨a, ha⟩ := zah (l := ka) (i := i) (by omega)
      rw [zaj hp, zaj ha] at hi2
      simp only [yfg] at hi2
      refine cd [] rfl (by simp) ?_
      refine ci rfl (c := dTyc a) (fun _ => ⟨by simp, by simpa using zan ha, by simp⟩) (by simp) ?_
      refine cg [] rfl (by simp) ?_
      refine ci rfl (c := dTyc p) (fun _ => ⟨by simp, by simpa using zan hp, by simp⟩) (by simp) ?_
      refine cg [] rfl (by simp) ?_
      refine zac rfl (fun _ => Of_ok (.mk c1 c2 c3 c4) rows ds ho p a (zeg hnm ha)) (by simp) ?_
      refine cg [] rfl (by simp; rfl) ?_
      refine zaa rfl (fun h => ?_) (fun h => ?_)
      · refine cd [] rfl (by simp) ?_
        refine zab ⟨_, rfl, tV (congrArg _ ?_), trivial⟩
        simp at h
        simp [hi2, h]
      · refine cd [] rfl (by simp) ?_
        simp at h
        exact zad (ih (i + 1) (by omega) ⟨by omega, by rw [hi2]; simp [h]⟩) ⟨za2 (w64 (by omega) (by omega)), rfl, rfl, rfl, trivial⟩ ⟨rfl, rfl, rfl, trivial⟩ rfl
    · simp at h
      refine zar rfl ?_
      refine cd [] rfl (by simp) ?_
      rw [hi2, List.drop_eq_nil_of_le (by omega), List.drop_eq_nil_of_le (by omega)]
      exact zab ⟨_, rfl, tV rfl, trivial⟩
termination_by p => SizeOf.sizeOf p
decreasing_by
  have := List.sizeOf_lt_of_mem (List.mem_of_getElem? hp)
  simp_wf
  omega
def rowB (c : Cse) (p : Ty) : Bool := zev p && zew c.datas c.type p
def zrk (c : Cse) : Bool := (zha c.datas && ze6 c.type && zbw c.datas c.type && decide (c.rows.length ≤ 5)) && (c.rows.all (rowB c) && decide (zaf c.rows ≤ 30))
theorem zum {p : Ty} (h : zev p = true) : zaq p ≤ 12 := by
  simp only [zev, Bool.and_eq_true, decide_eq_true_eq] at h
  have h1 := zcp p 12 h.1.1
  have h2 := h.1.1
  omega
set_option maxRecDepth 100000 in
set_option maxHeartbeats 1000000 in
theorem yjr (c : Cse) : PureC Tryz.prog 25 [.agg (dCse c)] (.bool (zrk c)) := by
  obtain ⟨ds, t, rows⟩ := c
  obtain ⟨so, n0, x0, ps0⟩ := t
  refine zae zcz Tryz.func25 (by decide +kernel) rfl [1, 2, 3, 4, 5, 6] rfl rfl ?_
  refine cg [] rfl (by simp) ?_
  refine zac rfl (fun _ => yg7 ds) (by simp) ?_
  refine cg [] rfl (by simp) ?_
  refine zac rfl (fun _ => zl7 (.mk so n0 x0 ps0)) (by simp [zal]) ?_
  refine cg [] rfl (by simp [zal]) ?_
  refine zac rfl (fun _ => zm6 ds (.mk so n0 x0 ps0)) (by simp [zal]) ?_
  refine cg [] rfl (by simp [zal]) ?_
  refine zaa rfl (fun h => ?_) (fun h => ?_)
  · refine cd [] rfl (by simp) ?_
    refine zab ⟨_, rfl, tV (congrArg _ ?_), trivial⟩
    simp at h
    simp [zrk]
    grind
  have hg : (zha ds && ze6 (.mk so n0 x0 ps0) && zbw ds (.mk so n0 x0 ps0) && decide (rows.length ≤ 5)) = true := by simp at h ⊢; grind
  rw [show zrk ⟨ds, .mk so n0 x0 ps0, rows⟩ = (rows.all (rowB ⟨ds, .mk so n0 x0 ps0, rows⟩) && decide (zaf rows ≤ 30)) by simp only [zrk, hg, Bool.true_and]]
  clear h
  simp only [Bool.and_eq_true, decide_eq_true_eq] at hg
  obtain ⟨⟨⟨hd, hw⟩, hn⟩, hl⟩ := hg
  have ho := OkD.of hd
  have hP := fun p => zwt (.mk so n0 x0 ps0) rows ds ho p (.mk so n0 x0 ps0) hn
  generalize hR : rowB ⟨ds, .mk so n0 x0 ps0, rows⟩ = R
  have hR : ∀ p, R p = (zev p && zew ds (.mk so n0 x0 ps0) p) := fun p => by rw [← hR]; rfl
  refine cd [] rfl (by simp) ?_
  refine zag (fun i : Nat => [(4, .imm (.int .i64 i)), (3, .imm (.int .i64 ((zaf (rows.take i) : Nat) : Int))), (1, .ref 1 0)]) (fun _ => [(1, some (.immb 29 6 (dCse ⟨ds, .mk so n0 x0 ps0, rows⟩)))]) [2, 3, 4, 5, 6] (fun i => rows.length - i)
    (fun i => i ≤ rows.length ∧ rows.all R = (rows.drop i).all R ∧ zaf (rows.take i) ≤ 12 * i) 0 ⟨Nat.zero_le _, rfl, by simp [zaf]⟩ ⟨rfl, rfl, rfl, trivial⟩ ⟨rfl, trivial⟩ rfl fun i hi ih => ?_
  obtain ⟨hi1, hi2, hi3⟩ := hi
  refine cd [] rfl (by simp) ?_
  refine zaa rfl (fun h => ?_) (fun h => ?_)
  · simp at h
    obtain ⟨p, hp⟩ := zah h
    rw [zc8 hp, hR] at hi2
    have en : zaf (rows.take (i + 1)) = zaf (rows.take i) + zaq p := by rw [zbe hp, zbc]; simp [zaf]
    refine cd [] rfl (by simp) ?_
    refine ci rfl (c := dTyc p) (fun _ => ⟨by simp, by simpa using zan hp, by simp⟩) (by simp) ?_
    refine cg [] rfl (by simp) ?_
    refine zac rfl (fun _ => yh2 p) (by simp) ?_
    refine cg [] rfl (by simp) ?_
    refine ci rfl (c := dTyc p) (fun _ => ⟨by simp, by simpa using zan hp, by simp⟩) (by simp [zal]) ?_
    refine cg [] rfl (by simp [zal]) ?_
    refine zac rfl (fun _ => hP p) (by simp [zal]) ?_
    refine cg [] rfl (by simp [zal]; rfl) ?_
    refine zaa rfl (fun h => ?_) (fun h => ?_)
    · refine cd [] rfl (by simp) ?_
      refine zab ⟨_, rfl, tV (congrArg _ ?_), trivial⟩
      simp at h
      rw [hi2]
      grind
    · have hr : (zev p && zew ds (.mk so n0 x0 ps0) p) = true := by simp at h ⊢; grind
      rw [hr, Bool.true_and] at hi2
      have hp12 := zum (Bool.and_eq_true _ _ ▸ hr).1
      refine cd [] rfl (by simp) ?_
      refine ci rfl (c := dTyc p) (fun _ => ⟨by simp, by simpa using zan hp, by simp⟩) (by simp) ?_
      refine cg [] rfl (by simp) ?_
      refine zac rfl (fun _ => zxt p (by omega)) (by simp) ?_
      refine cg [] rfl (by simp) ?_
      exact zad (ih (i + 1) (by omega) ⟨by omega, hi2, by omega⟩) ⟨za2 (w64 (by omega) (by omega)), za2 (by rw [en, w64 (by omega) (by omega)]; omega), rfl, trivial⟩ ⟨rfl, trivial⟩ rfl
  · simp at h
    refine zar rfl ?_
    refine cd [] rfl (by simp) ?_
    rw [List.take_of_length_le (by omega), hi2, List.drop_eq_nil_of_le (by omega)]
    refine zab ⟨_, rfl, tV (congrArg _ ?_), trivial⟩
    simp
    omega
end Go.Hk
namespace Go.Hk
section
variable {P : Program} {n : Nat} {F : List Nat} {Q : DQ} {tt : TT} {env : Env} {st : St} {ids : List Nat} {todo : List DI} {I : Imm} {w : World}
end
end Go.Hk
namespace Go.Hk
section
variable {P : Program} {I J : Imm} {μ ν : Mu} {w : World}
theorem yfu {g : Value} {e : TypeId} {sz : Nat} {es : List (List V)} (h : BlkRep I μ w g (.row e sz es)) (hle : I.le J) (hb : ∀ b, zil g b → J b = w.heap[b]?) : RepV J g (.sl es) := by
  obtain ⟨xs, hown, hrep, hsz, hone, hp⟩ := h
  rcases hown.2 with ⟨rfl, h0⟩ | ⟨gb, cap, cur, rfl, _, hheap, hle2, hcm, hcs, htake⟩
  · have : es = [] := List.eq_nil_of_length_eq_zero h0
    subst this
    exact .slnil
  · have hJg : J gb = some (.cells cur e (0, 0)) := (hb gb rfl).trans hheap
    have hcell : ∀ (i : Nat) (c : List V) (j : Nat) (x : V), es[i]? = some c → c[j]? = some x → ∃ v, xs[i * sz + j]? = some v ∧ cur[i * sz + j]? = some v ∧ RepV I v x ∧ v.oneCell' = true := by
      intro i c j x hi hj
      have h1 := flatten_get hsz i c j x hi hj
      have hlt : i * sz + j < xs.length := by rw [hrep.1]; exact (List.getElem?_eq_some_iff.1 h1).1
      obtain ⟨v, hv⟩ : ∃ v, xs[i * sz + j]? = some v := ⟨_, List.getElem?_eq_getElem hlt⟩
      have hr := hrep.2 _ _ _ hv h1
      refine ⟨v, hv, ?_, hr, ?_⟩
      · rw [← htake, List.getElem?_take] at hv
        split at hv
        · simpa using hv
        · cases hv
      · have := hone c (List.mem_of_getElem? hi) x (List.mem_of_getElem? hj)
        exact hr.one this
    refine .sl gb 0 _ cap sz es (fun i j => (cur[i * sz + j]?).getD undef) rfl hle2 hcm hsz (fun i c j x hi hj => ?_) (fun i c j x hi hj => ?_)
    · obtain ⟨v, _, h2, _, h4⟩ := hcell i c j x hi hj
      simp [Imm.cell, hJg, h2, h4]
    · obtain ⟨v, _, h2, h3, _⟩ := hcell i c j x hi hj
      simp only [h2, Option.getD_some]
      exact h3.mono hle
end
end Go.Hk
namespace Go.Hk
def yh1 (w : World) : Imm := fun b => w.heap[b]?
def zw8 (k : D → Option V) : List D → Option (List V)
  | [] => some []
  | d :: r => match k d, zw8 k r with
    | some x, some xs => some (x :: xs)
    | _, _ => none
def zxz (k : D → List Nat) : List D → List Nat
  | [] => []
  | d :: r => k d ++ zxz k r
def zgj (st : St) : Nat → D → Option V
  | 0, _ => none
  | f + 1, d => match d with
    | .imm x => some x
    | .nils => some (.sl [])
    | .ip t cs off => some (.ip t cs off)
    | .clip es => some (.sl es)
    | .own id _ => match lk st id with
      | some (some (.row _ _ es)) => some (.sl es)
      | _ => none
    | .mapr id => match lk st id with
      | some (some (.map kv)) => some (.mapv kv)
      | _ => none
    | .ref id off => match lk st id with
      | some (some (.immb t _ xs)) => some (.ip t xs off)
      | some (some (.cells t _ ds)) => match zw8 (zgj st f) ds with
        | some xs => some (.ip t xs off)
        | none => none
      | _ => none
    | .agg ds => match zw8 (zgj st f) ds with
      | some xs => some (.agg xs)
      | none => none
    | .fn g a b => match zw8 (zgj st f) a, zw8 (zgj st f) b with
      | some xs, some ys => some (.clo g xs ys)
      | _, _ => none
    | _ => none
def zgk (st : St) : Nat → D → List Nat
  | 0, _ => []
  | f + 1, d => match d with
    | .own id _ => [id]
    | .mapr id => [id]
    | .ref id _ => match lk st id with
      | some (some (.cells _ _ ds)) => id :: zxz (zgk st f) ds
      | _ => [id]
    | .agg ds => zxz (zgk st f) ds
    | .fn _ a b => zxz (zgk st f) a ++ zxz (zgk st f) b
    | _ => []
structure yjq where
  f : FuncId
  vs : List V
  rd : List Nat
  g : Option (Bool × Bool)
  ob : List Prop
  dst : Option Nat
  todo : List DI
def yih (n : Nat) (st : St) (all : List Oper) (o : Oper) (env : Env) (todo : List DI) (f : FuncId) (a b : List D) (args : List Operand) : Option yjq :=
  match zcs all env o with
  | some g => match zve (zal g) env args with
    | some (ds, ob) => match zw8 (zgj st 6) (a ++ ds ++ b), zel n o.dst with
      | some vs, true => match zb3 todo (zxz (zgk st 6) (a ++ ds ++ b), []) with
        | some (_, _, todo') => match o.dst with
          | some t => some ⟨f, vs, zxz (zgk st 6) (a ++ ds ++ b), g, ob, some t, todo'⟩
          | none => some ⟨f, vs, zxz (zgk st 6) (a ++ ds ++ b), g, ob, none, todo'⟩
        | none => none
      | _, _ => none
    | none => none
  | none => none
def yhi (n : Nat) (env : Env) (st : St) (todo : List DI) : Option yjq :=
  match zb3 todo ([], []) with
  | some (all, o, _) => match o.op with
    | .call { callee := .value (.func f), args := ⟨args⟩, .. } => yih n st all o env todo f [] [] args
    | .call { callee := .value (.tmp t), args := ⟨args⟩, .. } => match lk env t with
      | some (.imm (.fn (.func f))) => yih n st all o env todo f [] [] args
      | some (.imm (.clo (.func f) a b)) => yih n st all o env todo f (a.map .imm) (b.map .imm) args
      | some (.fn (.func f) a b) => yih n st all o env todo f a b args
      | _ => none
    | _ => none
  | none => none
def yey : V → Bool
  | .tup xs => zwi xs
  | x => zyc x
section
variable {P : Program} {n : Nat} {F : List Nat} {Q : DQ} {tt : TT} {env env' : Env} {st st' : St} {ids ids' : List Nat} {k todo todo' : List DI} {I J : Imm} {μ : Mu} {w : World} {a : Act} {Pn : V → Prop} {d : D} {cx : Prop} {ob : List Prop}
theorem yam {v : Value} {x : V} (h : yey x = true) (hr : RepV J v x) : RepV I v x := by
  cases hr with
  | tup cs xs hl hh =>
    refine .tup cs xs hl fun i c x hc hx => ?_
    have hm : ∀ {xs : List V} {i : Nat} {x : V}, zwi xs = true → xs[i]? = some x → zyc x = true := by
      intro xs
      induction xs with
      | nil => intro i x _ h; simp at h
      | cons y r ih =>
        intro i x hs h
        simp only [zwi, Bool.and_eq_true] at hs
        cases i with
        | zero => simp at h; subst h; exact hs.1
        | succ i => exact ih hs.2 (by simpa using h)
    exact yan (hm h hx) (hh i c x hc hx)
  | bool b => exact .bool b
  | int k n => exact .int k n
  | str s l hs => exact .str s l hs
  | _ => simp [yey, zyc] at h
theorem zhr {q : D → Option V} {μ : Mu} (hq : ∀ d x v, q d = some x → RepD I μ v d → RepV J v x) : ∀ {vs : List Value} {ds : List D} {xs : List V}, zw8 q ds = some xs → RepL I μ vs ds → RepVL J vs xs
  | [], ds, xs, h, hr => by
    cases ds with
    | nil => cases h; exact .nil
    | cons d ds => simp [RepL] at hr
  | v :: vs, ds, xs, h, hr => by
    cases ds with
    | nil => simp [RepL] at hr
    | cons d ds =>
      obtain ⟨h1, h2⟩ := hr.cons
      simp only [zw8] at h
      split at h
      · cases h; exact .mk (hq _ _ _ (by assumption) h1) (zhr hq (by assumption) h2)
      · cases h
theorem zr3 (hst : StRep I μ st ids w) : ∀ (f : Nat) (d : D) (x : V) (v : Value), zgj st f d = some x → RepD I μ v d → RepV (yh1 w) v x
  | 0, _, _, _, h, _ => by simp [zgj] at h
  | f + 1, d, x, v, h, hr => by
    have hle : I.le (yh1 w) := fun b o h => hst.imm b o h
    have ih := zr3 hst f
    simp only [zgj] at h
    split at h
    · cases h; exact hr.immInv.mono hle
    · cases h; cases hr; exact .slnil
    · cases h; exact hr.ipV.mono hle
    · cases h; cases hr with
      | clip a len es h => exact h.mono hle
    · split at h
      · rename_i hl
        cases h
        cases hr with
        | own id len a cap hm =>
          obtain ⟨g, hg, hb⟩ := hst.blk _ _ hl
          rw [hm] at hg; cases hg
          exact yfu hb hle fun b _ => rfl
      · cases h
    · split at h
      · rename_i hl
        cases h
        cases hr with
        | mapr id b hm =>
          obtain ⟨g, hg, b', es, clock, rfl, h1, h2, h3, h4⟩ := hst.blk _ _ hl
          rw [hm] at hg; cases hg
          exact .mapv b es clock _ h1 h2 h3 (fun i e p q1 q2 => (h4 i e p q1 q2).1.mono hle) (fun i e p q1 q2 => (h4 i e p q1 q2).2.mono hle)
      · cases h
    · have fin : ∀ {t : TypeId} {off : Nat} {vs : Array Value} {xs : List V} {gb : Nat}, v = .pointer (some ⟨gb, off, none⟩) → w.heap[gb]? = some (.cells vs t (0, 0)) → RepVL (yh1 w) vs.toList xs → (∀ v ∈ vs.toList, v.oneCell' = true) → RepV (yh1 w) v (.ip t xs off) := by
        intro t off vs xs gb hv hheap hrep hone
        subst hv
        have := RepV.ip (I := yh1 w) gb 0 t xs off (fun j => (vs[j]?).getD undef) (fun j x hx => ?_) (fun j x hx => ?_)
        · simpa using this
        · have hj : j < vs.size := by have := hrep.1; have := (List.getElem?_eq_some_iff.1 hx).1; simp at *; omega
          have : yh1 w gb = some (.cells vs t (0, 0)) := hheap
          simp only [Imm.cell, this, Nat.zero_add, Array.getElem?_eq_getElem hj, Option.getD_some, true_and]
          exact hone _ (by simp)
        · have hj : j < vs.size := by have := hrep.1; have := (List.getElem?_eq_some_iff.1 hx).1; simp at *; omega
          simp only [Array.getElem?_eq_getElem hj, Option.getD_some]
          exact hrep.2 j _ x (by simp [hj]) hx
      split at h
      · rename_i hl
        cases h
        cases hr with
        | ref b id off hm =>
          obtain ⟨g, hg, hs, gb, vs, rfl, hheap, hrep, hone⟩ := hst.blk _ _ hl
          rw [hm] at hg; cases hg
          exact fin rfl hheap (hrep.mono hle) hone
      · rename_i hl
        split at h
        · rename_i xs hx
          cases h
          cases hr with
          | ref b id off hm =>
            obtain ⟨g, hg, hs, gb, vs, rfl, hheap, hrep, hone⟩ := hst.blk _ _ hl
            rw [hm] at hg; cases hg
            exact fin rfl hheap (zhr ih hx hrep) hone
        · cases h
      · cases h
    · split at h
      · rename_i xs hx
        cases h
        cases hr with
        | agg cs ds hl h1 hh =>
          have := zhr (vs := cs.toList) ih hx ⟨by simpa using hl, fun i v d h1 h2 => hh i v d (by simpa using h1) h2⟩
          exact .agg cs xs (by simpa using this.1) h1 fun i c x h1 h2 => this.2 i c x (by simpa using h1) h2
      · cases h
    · split at h
      · rename_i xs ys hx hy
        cases h
        cases hr with
        | fn _ first cap df dc hf hc h1 h2 =>
          have q1 := zhr (vs := first.toList) ih hx ⟨by simpa using hf, fun i v d e1 e2 => h1 i v d (by simpa using e1) e2⟩
          have q2 := zhr (vs := cap.toList) ih hy ⟨by simpa using hc, fun i v d e1 e2 => h2 i v d (by simpa using e1) e2⟩
          exact .clo _ first cap xs ys (by simpa using q1.1) (by simpa using q2.1) (fun i c x h1 h2 => q1.2 i c x (by simpa using h1) h2) (fun i c x h1 h2 => q2.2 i c x (by simpa using h1) h2)
      · cases h
    · cases h
theorem Agree.sub {r s : List Nat} (h : Agree r st st') (hs : ∀ i ∈ s, i ∈ r) : Agree s st st' := fun i hi => h i (hs i hi)
theorem zd0 {q q' : D → Option V} {r : D → List Nat} (h : ∀ d, Agree (r d) st st' → q' d = q d) : ∀ {ds : List D}, Agree (zxz r ds) st st' → zw8 q' ds = zw8 q ds
  | [], _ => rfl
  | d :: l, ha => by
    simp only [zw8]
    rw [h d (ha.sub fun i hi => by simp [zxz, hi]), zd0 h (ha.sub fun i hi => by simp [zxz, hi])]
theorem zmf {st st' : St} : ∀ (f : Nat) (d : D), Agree (zgk st f d) st st' → zgj st' f d = zgj st f d
  | 0, _, _ => rfl
  | f + 1, d, h => by
    have ih := zmf (st := st) (st' := st') f
    cases d with
    | own id n =>
      simp only [zgj]
      rw [h id (by simp [zgk])]
    | mapr id =>
      simp only [zgj]
      rw [h id (by simp [zgk])]
    | ref id off =>
      have hid : lk st' id = lk st id := h id (by simp only [zgk]; split <;> simp)
      simp only [zgj]
      rw [hid]
      split
      · rfl
      · rename_i ds hl
        rw [zd0 ih (h.sub fun i hi => by simp only [zgk, hl]; simp [hi])]
      · rfl
    | agg ds =>
      simp only [zgj]
      rw [zd0 ih (h.sub fun i hi => by simp only [zgk]; exact hi)]
    | fn g a b =>
      simp only [zgj]
      rw [zd0 ih (h.sub fun i hi => by simp only [zgk]; simp [hi]), zd0 ih (h.sub fun i hi => by simp only [zgk]; simp [hi])]
    | _ => rfl
theorem yir {all : List Oper} {o : Oper} {f : FuncId} {das : List D} {vs : List V} {v : V} {m : Nat} {g : Option (Bool × Bool)} (hg : zcs all env o = some g) (hc : zge P o env f das (zal g)) (hv : zw8 (zgj st m) das = some vs) (hs : yey v = true)
    (hE : zal g → PureC P f vs v) : LD P Pn all o env st (zxz (zgk st m) das) [] [] (gD g (.imm v)) := by
  refine zd4 hg fun I μ st1 ids1 a w hag hst hops hcx => ?_
  obtain ⟨xs, h1, h2⟩ := hc I μ a w hops hcx
  rw [h2]
  have hv1 : zw8 (zgj st1 m) das = some vs := by rw [zd0 (zmf m) hag, hv]
  have hx := zhr (zr3 hst m) hv1 h1
  have hst0 : StRep (yh1 w) μ [] [] w := { imm := fun b o h => h, blk := fun i b h => by simp [za3, lk] at h, apart := fun i b g k h => by simp [za3, lk] at h, inj := fun i j bi bj gi gj k h => by simp [za3, lk] at h, nodup := .nil, idsFree := fun i h => by cases h }
  have hno : ∀ b, ¬ zds μ [] b := fun b ⟨i, bi, g, h, _⟩ => by simp [za3, lk] at h
  refine (hE hcx (yh1 w) μ w xs hst0 hx.imm).mono (fun u w' hu => ?_) (fun _ _ h => h.elim)
  obtain ⟨I', μ', r1, r2, r3, r4⟩ := hu
  have hlt : ∀ b o, I b = some o → b < w.heap.size := fun b o h => by
    have := hst.imm b o h
    exact (Array.getElem?_eq_some_iff.1 this).1
  refine ⟨I, μ, hst.other r4.size (fun b o h => r4.block b (hlt b o h) (hno b)) (fun b ho => r4.block b (zjh hst ho) (hno b)), ?_, Mu.le_refl μ, { imm := Imm.le_refl I, os := r4.os, tape := r4.tape, output := r4.output, size := r4.size, block := fun b hb _ => r4.block b hb (hno b), fresh := fun _ _ h => h, old := fun _ _ _ => rfl }⟩
  exact .imm _ _ (yam hs r1.immInv)
theorem zn9 {o : Oper} {t : Nat} {f : FuncId} {args : List Operand} {ts : Array TypeId} {ds : List D} {df dc : List V} (ho : o.op = .call { callee := .value (.tmp t), args := ⟨args⟩, argTypes := ts }) (ht : lk env t = some (.imm (.clo (.func f) df dc)))
    (ha : zve cx env args = some (ds, ob)) (hob : zbh ob) : zge P o env f (df.map .imm ++ ds ++ dc.map .imm) cx := by
  intro I μ a w hop hc
  rw [ho] at hop
  have hd := evAs_rep (I := I) (μ := μ) (a := a) hc ha hob fun x hx => hop x (by simp [Op.operands, Call.operands, hx])
  have hf := (hop (.tmp t) (by simp [Op.operands, Call.operands]) _ ht).immInv
  generalize hv : a.eval (.tmp t) = v at hf
  cases hf with
  | clo _ first cap _ _ h1 h2 h3 h4 =>
    refine ⟨first ++ (args.map a.eval).toArray ++ cap, ?_, ?_⟩
    · simp only [Array.toList_append]
      have q1 : RepVL I first.toList df := ⟨by simpa using h1, fun i v d hv hd => h3 i v d (by simpa using hv) hd⟩
      have q2 : RepVL I cap.toList dc := ⟨by simpa using h2, fun i v d hv hd => h4 i v d (by simpa using hv) hd⟩
      exact RepL.append (RepL.append q1.imm hd) q2.imm
    · simp only [execOp, ho, resolve, hv, Deferred.ofValue, Sem.run_bind, Sem.run_pure, Result.andThen_ok, invoke]
      congr 3
      simp
theorem ye7 {all : List Oper} {o : Oper} {f : FuncId} {a b : List D} {args : List Operand} {c : yjq} (h : yih n st all o env todo f a b args = some c) :
    ∃ g ds ob vs todo', zcs all env o = some g ∧ zve (zal g) env args = some (ds, ob) ∧ zw8 (zgj st 6) (a ++ ds ++ b) = some vs ∧ zel n o.dst = true ∧ (∃ p q, zb3 todo (zxz (zgk st 6) (a ++ ds ++ b), []) = some (p, q, todo')) ∧ c = ⟨f, vs, zxz (zgk st 6) (a ++ ds ++ b), g, ob, o.dst, todo'⟩ := by
  unfold yih at h
  split at h
  · rename_i g hg
    split at h
    · rename_i ds ob ha
      split at h
      · rename_i vs hv hd
        split at h
        · rename_i p q todo' hn
          split at h
          · rename_i t hdst
            cases h
            exact ⟨g, ds, ob, vs, todo', hg, ha, hv, hd, ⟨p, q, hn⟩, by rw [hdst]⟩
          · rename_i hdst
            cases h
            exact ⟨g, ds, ob, vs, todo', hg, ha, hv, hd, ⟨p, q, hn⟩, by rw [hdst]⟩
        · cases h
      · cases h
    · cases h
  · cases h
theorem zkl {f : FuncId} {vs : List V} {rd : List Nat} {g : Option (Bool × Bool)} {dst : Option Nat} {todo' : List DI} {v : V} (h : yhi n env st todo = some ⟨f, vs, rd, g, ob, dst, todo'⟩) (hE : zal g → PureC P f vs v) (hs : yey v = true) (hob : zbh ob)
    (hk : G P n F Q todo' (zee dst (gD g (.imm v)) env) st ids) : G P n F Q todo env st ids := by
  have fin : ∀ {all : List Oper} {o : Oper} {f' : FuncId} {a b : List D} {args : List Operand} {t : List DI}, zb3 todo ([], []) = some (all, o, t) → yih n st all o env todo f' a b args = some ⟨f, vs, rd, g, ob, dst, todo'⟩ → (∀ c, o.op ≠ .defer c) →
      (∀ {ds : List D} {cx : Prop} {ob : List Prop}, zve cx env args = some (ds, ob) → zbh ob → zge P o env f' (a ++ ds ++ b) cx) → G P n F Q todo env st ids := by
    intro all o f' a b args t hn1 hp hnd hcalls
    obtain ⟨g', ds, ob', vs', todo2, q1, q2, q3, q4, ⟨p, q, q5⟩, q6⟩ := ye7 hp
    obtain ⟨e1, e2⟩ := zhq hn1 q5
    subst e1; subst e2
    cases q6
    exact zcv (fr := []) (wr := []) q5 (yir q1 (hcalls q2 hob) q3 hs hE) q4 hnd hk
  unfold yhi at h
  split at h
  · rename_i all o t hn1
    have hnd : ∀ cc, o.op = .call cc → ∀ c, o.op ≠ .defer c := fun cc h c h' => by rw [h] at h'; cases h'
    split at h
    · rename_i f' args ts ho
      exact fin hn1 h (hnd _ ho) fun ha hob => by simpa using ze5 ho ha hob
    · rename_i t' args ts ho
      split at h
      · rename_i f' ht
        exact fin hn1 h (hnd _ ho) fun ha hob => by simpa using zeo ho ht ha hob
      · rename_i f' a b ht
        exact fin hn1 h (hnd _ ho) fun ha hob => zn9 ho ht ha hob
      · rename_i f' a b ht
        exact fin hn1 h (hnd _ ho) fun ha hob => zj2 ho ht ha hob
      · cases h
    · cases h
  · cases h
end
end Go.Hk
namespace Go.Hk
section
variable {P : Program} {n : Nat} {F : List Nat} {Q : DQ} {env : Env} {st : St} {ids : List Nat} {k : List DI}
theorem yc9 {all rest : List Oper} {o : Oper} {x : Operand} {t : TypeId} {v : V} (hg : o.guard = none) (ho : o.op = .panic x) (hx : evO env x = some (.imm (.iface t v))) (hq : yd6 Q (.iface t v)) : DGo P n F Q (.ops all (o :: rest) :: k) env st ids := by
  intro b cs I μ a w items hd hc
  obtain ⟨j, is, rfl, hr, hk⟩ := zkq hd
  obtain ⟨hj, _⟩ := zb2 hr
  have hlen : (o :: rest).length = rest.length + 1 := rfl
  rw [hlen, List.range'_succ]
  refine zce hj (wanted_none hg) (fun c hc => by rw [ho] at hc; cases hc) ?_
  have hon : zrs (o.looksAt all.toArray) I μ env a := fun t _ d hl => hc.env t d hl
  have hxr := zbr hon x (by rw [ho]; simp [Op.operands]) _ hx
  obtain ⟨u, hu, hur⟩ : ∃ u, a.eval x = .iface t u ∧ RepV I (.iface t u) (.iface t v) := by
    have := hxr.immInv
    generalize a.eval x = y at this
    cases this with
    | iface _ u _ h => exact ⟨u, rfl, .iface t u v h⟩
  have hrun : (execOp a.eval o).run P w = .halt (.panic (.iface t u)) w := by simp [execOp, ho, hu, Instr.panic, goPanic]
  rw [hrun]
  have hE' : Ext I μ st w I μ [] w := { imm := Imm.le_refl I, os := rfl, tape := rfl, output := rfl, size := Nat.le_refl _, block := fun _ _ _ => rfl, fresh := fun b hb ⟨i, bi, g, h1, _⟩ => by simp [za3, lk] at h1, old := fun _ _ _ => rfl }
  exact ⟨.panic (.iface t v), [], [], [], I, μ, ⟨_, rfl, hur⟩, hq, zl4 hc.imm hc.size (hc.defers.ext hE'), .refl _ _, hE', .refl _ _⟩
end
theorem zdn {P : Program} {f : FuncId} {ds : List D} {st : St} {out : Out} (j : Nat) {x : V} (hj : ds[j]? = some (.imm x)) (h : vOk x → zcm P f ds st out) : zcm P f ds st out := by
  intro I μ w xs hst hx
  have hlt : j < xs.toList.length := by rw [hx.1]; exact (List.getElem?_eq_some_iff.1 hj).1
  exact h (hx.2 j _ (.imm x) (List.getElem?_eq_getElem hlt) hj).immInv.ok I μ w xs hst hx
end Go.Hk
namespace Go.Hk
structure PRng where
  s : List UInt8
  id' : Nat
  ids' : List Nat
  dst : Option Nat
  todo : List DI
def prng (tt : TT) (n : Nat) (env : Env) (ids : List Nat) (todo : List DI) : Option PRng :=
  match yfe todo, ids with
  | some o, id' :: ids' => match o.guard, o.op with
    | none, .range t x => match lk tt t, evO env x, zel n o.dst, zb3 todo ([], [id']) with
      | some { sh := .str, .. }, some (.imm (.str s)), true, some (_, _, todo') => some ⟨s, id', ids', o.dst, todo'⟩
      | _, _, _, _ => none
    | _, _ => none
  | _, _ => none
structure PNxt where
  s : List UInt8
  pos : Nat
  id : Nat
  dst : Option Nat
  todo : List DI
def pnxt (n : Nat) (env : Env) (st : St) (wr : Bool) (todo : List DI) : Option PNxt :=
  match yfe todo with
  | some o => match o.guard, o.op with
    | none, .next x true => match evO env x, zel n o.dst with
      | some (.iter id), true => match lk st id, zb3 todo ([id], bif wr then [id] else []) with
        | some (some (.siter s pos)), some (_, _, todo') => some ⟨s, pos, id, o.dst, todo'⟩
        | _, _ => none
      | _, _ => none
    | _, _ => none
  | none => none
def zc3 (s : List UInt8) (pos : Nat) : Nat × Nat := Utf8.decode ⟨s.toArray⟩ pos
section
variable {P : Program} {n : Nat} {F : List Nat} {Q : DQ} {tt : TT} {env env' : Env} {st st' : St} {ids ids' : List Nat} {k todo todo' : List DI} {I : Imm} {μ : Mu} {w : World} {a : Act} {Pn : V → Prop} {d : D} {cx : Prop} {ob : List Prop}
theorem zhp {s : Sem Value} {v : Value} {w' : World} (h : s.run P w = .ok v w') : (do pure (.value (← s)) : Sem Next).run P w = .ok (.value v) w' := by simp [h]
theorem RepD.iterInv {v : Value} {id : Nat} (h : RepD I μ v (.iter id)) : ∃ b, v = .pointer (some ⟨b, 0, none⟩) ∧ μ id = some v := by
  cases h with
  | iter _ b h => exact ⟨b, rfl, h⟩
theorem yf7 (htt : TTok P tt) {s0 : List UInt8} {i0 : Nat} {ids0 : List Nat} {d0 : Option Nat} {todo0 : List DI} (h : prng tt n env ids todo = some ⟨s0, i0, ids0, d0, todo0⟩) (hk : G P n F Q todo0 (zee d0 (.iter i0) env) ((i0, some (.siter s0 0)) :: st) ids0) : G P n F Q todo env st ids := by
  unfold prng at h
  split at h
  · rename_i o id' ids' ho
    split at h
    · rename_i t x hg hop
      split at h
      · rename_i _ _ _ _ s all o' todo' ht hx hd h1
        cases h
        have ho' : o' = o := zdc ho h1
        subst ho'
        refine zcv (fr := [i0]) (wr := [(i0, some (.siter s0 0))]) (rd := []) h1 ?_ hd (fun c hc => by rw [hop] at hc; cases hc) hk
        intro I μ st1 ids1 a w hag hst hon
        refine ⟨fun _ => ?_, fun hw => by rw [wanted_none hg] at hw; cases hw⟩
        have hops := zbr hon
        rw [hop] at hops
        obtain ⟨bs, e1, e2⟩ := (hops x (by simp [Op.operands]) _ hx).immInv.strInv
        have hu : P.underlying t = some .string := htt.sh ht
        have hrun : (execOp a.eval o').run P w = .ok (.value (.pointer (some ⟨w.heap.size, 0, none⟩))) (w.alloc (.stringIter bs 0)) := by
          simp only [execOp, hop, e1]
          refine zhp ?_
          simp only [Instr.range, Sem.run_bind, run_underlying hu, Result.andThen_ok, Sem.run_pure, run_newObj]
          rfl
        rw [hrun]
        obtain ⟨μ', q1, q2, q3, q4⟩ := hst.allocO (.stringIter bs 0) (.pointer (some ⟨w.heap.size, 0, none⟩)) (fun _ h => Eq.symm h) (.siter s0 0) (fun μ' _ => ⟨w.heap.size, bs, rfl, ziw w _, e2⟩)
        exact ⟨I, μ', q3, .iter _ _ q1, q2, q4⟩
      · cases h
    · cases h
  · cases h
theorem zsd {id pos : Nat} {s : List UInt8} {v : Value} (hst : StRep I μ st ids w) (hl : za3 st id (.siter s pos)) (hv : RepD I μ v (.iter id)) :
    ∃ b, v = .pointer (some ⟨b, 0, none⟩) ∧ μ id = some v ∧ w.heap[b]? = some (.stringIter ⟨s.toArray⟩ pos) := by
  obtain ⟨b, rfl, hm⟩ := hv.iterInv
  obtain ⟨g, hg, b', bs, rfl, hheap, hs⟩ := hst.blk id _ hl
  rw [hm] at hg; cases hg
  refine ⟨b, rfl, hm, ?_⟩
  rw [hheap, ← hs]
theorem ycm {s0 : List UInt8} {p0 i0 : Nat} {d0 : Option Nat} {todo0 : List DI} (h : pnxt n env st true todo = some ⟨s0, p0, i0, d0, todo0⟩) (hp : p0 < s0.length) {dc : Nat × Nat} (hdc : zc3 s0 p0 = dc)
    (hk : G P n F Q todo0 (zee d0 (.imm (.tup [.bool true, .int .i64 p0, .int .i32 dc.1])) env) ((i0, some (.siter s0 (p0 + dc.2))) :: st) ids) : G P n F Q todo env st ids := by
  subst hdc
  unfold pnxt at h
  split at h
  · rename_i o ho
    split at h
    · rename_i x hg hop
      split at h
      · rename_i id hx hd
        split at h
        · rename_i s pos all o' todo' hl h1
          cases h
          have ho' : o' = o := zdc ho h1
          subst ho'
          refine zcv (fr := []) (wr := [(i0, some (.siter s0 (p0 + (zc3 s0 p0).2)))]) (rd := [i0]) h1 ?_ hd (fun c hc => by rw [hop] at hc; cases hc) hk
          intro I μ st1 ids1 a w hag hst hon
          refine ⟨fun _ => ?_, fun hw => by rw [wanted_none hg] at hw; cases hw⟩
          have hops := zbr hon
          rw [hop] at hops
          have hl1 : za3 st1 i0 (.siter s0 p0) := by unfold za3; rw [hag i0 (by simp)]; exact hl
          obtain ⟨b, e1, hm, hheap⟩ := zsd hst hl1 (hops x (by simp [Op.operands]) _ hx)
          have hget : (getObj b).run P w = .ok (.stringIter ⟨s0.toArray⟩ p0) w := by simp [getObj, Sem.run, hheap]
          have hset : (setObj b (.stringIter ⟨s0.toArray⟩ (p0 + (zc3 s0 p0).2))).run P w = .ok () { w with heap := w.heap.setIfInBounds b (.stringIter ⟨s0.toArray⟩ (p0 + (zc3 s0 p0).2)) } := by simp [setObj, Sem.run, hheap]
          have hlt : p0 < (ByteArray.mk s0.toArray).size := by simpa [ByteArray.size] using hp
          have hrun : (execOp a.eval o').run P w = .ok (.value (.tuple #[.bool true, .int .i64 p0, .int .i32 (zc3 s0 p0).1])) { w with heap := w.heap.setIfInBounds b (.stringIter ⟨s0.toArray⟩ (p0 + (zc3 s0 p0).2)) } := by
            simp only [execOp, hop, e1]
            refine zhp ?_
            simp only [Instr.next, Sem.run_bind, hget, Result.andThen_ok, if_pos hlt]
            have : (setObj b (.stringIter ⟨s0.toArray⟩ (p0 + (Utf8.decode ⟨s0.toArray⟩ p0).2))).run P w = _ := hset
            simp only [Sem.run_bind, this, Result.andThen_ok, Sem.run_pure]
            rfl
          rw [hrun]
          have hbl := zd1 hheap
          obtain ⟨q1, q2⟩ := hst.update (blk' := .siter s0 (p0 + (zc3 s0 p0).2)) (w' := { w with heap := w.heap.setIfInBounds b (.stringIter ⟨s0.toArray⟩ (p0 + (zc3 s0 p0).2)) }) hl1 hm (by rw [e1]; rfl) (by simp) rfl rfl rfl
            (fun k hk => Array.getElem?_setIfInBounds_ne (Ne.symm hk)) ⟨b, ⟨s0.toArray⟩, e1, by simp [hbl], rfl⟩
          refine ⟨I, μ, q1, .imm _ _ (.tup _ _ rfl fun i c x hc hx => ?_), Mu.le_refl μ, q2⟩
          match i, hc, hx with
          | 0, hc, hx => cases hc; cases hx; exact .bool _
          | 1, hc, hx => cases hc; cases hx; exact .int _ _
          | 2, hc, hx => cases hc; cases hx; exact .int _ _
          | i + 3, hc, hx => simp at hx
        · cases h
      · cases h
    · cases h
  · cases h
theorem yi3 {s0 : List UInt8} {p0 i0 : Nat} {d0 : Option Nat} {todo0 : List DI} (h : pnxt n env st false todo = some ⟨s0, p0, i0, d0, todo0⟩) (hp : s0.length ≤ p0)
    (hk : G P n F Q todo0 (zee d0 (.imm (.tup [.bool false])) env) st ids) : G P n F Q todo env st ids := by
  unfold pnxt at h
  split at h
  · rename_i o ho
    split at h
    · rename_i x hg hop
      split at h
      · rename_i id hx hd
        split at h
        · rename_i s pos all o' todo' hl h1
          cases h
          have ho' : o' = o := zdc ho h1
          subst ho'
          refine zcv (fr := []) (wr := []) (rd := [i0]) h1 ?_ hd (fun c hc => by rw [hop] at hc; cases hc) hk
          intro I μ st1 ids1 a w hag hst hon
          refine ⟨fun _ => ?_, fun hw => by rw [wanted_none hg] at hw; cases hw⟩
          have hops := zbr hon
          rw [hop] at hops
          have hl1 : za3 st1 i0 (.siter s0 p0) := by unfold za3; rw [hag i0 (by simp)]; exact hl
          obtain ⟨b, e1, hm, hheap⟩ := zsd hst hl1 (hops x (by simp [Op.operands]) _ hx)
          have hget : (getObj b).run P w = .ok (.stringIter ⟨s0.toArray⟩ p0) w := by simp [getObj, Sem.run, hheap]
          have hlt : ¬ p0 < (ByteArray.mk s0.toArray).size := by simpa [ByteArray.size] using hp
          have hrun : (execOp a.eval o').run P w = .ok (.value (.tuple #[.bool false])) w := by
            simp only [execOp, hop, e1]
            refine zhp ?_
            simp only [Instr.next, Sem.run_bind, hget, Result.andThen_ok, if_neg hlt, Sem.run_pure]
          rw [hrun]
          refine ⟨I, μ, hst, .imm _ _ (.tup _ _ rfl fun i c x hc hx => ?_), Mu.le_refl μ, Ext.refl _ _ _ _⟩
          match i, hc, hx with
          | 0, hc, hx => cases hc; cases hx; exact .bool _
          | i + 1, hc, hx => simp at hx
        · cases h
      · cases h
    · cases h
  · cases h
end
end Go.Hk
namespace Go.Hk
open Go.MapKept
def eqK : V → V → Bool
  | .str a, .str b => a == b
  | .int _ a, .int _ b => a == b
  | .bool a, .bool b => a == b
  | _, _ => false
def zcf : List (V × V) → V → Option V
  | [], _ => none
  | (k, d) :: r, x => if eqK x k then some d else zcf r x
def zi5 : List (V × V) → V → V → List (V × V)
  | [], x, d => [(x, d)]
  | (k, e) :: r, x, d => if eqK x k then (x, d) :: r else (k, e) :: zi5 r x d
def descOf : Sh → Option TypeDesc
  | .str => some .string
  | .int k => some (.int k)
  | _ => none
def zqs : Sh → V → Bool
  | .str, .str _ => true
  | .int k, .int k' _ => decide (k' = k)
  | _, _ => false
section
variable {P : Program} {n : Nat} {F : List Nat} {Q : DQ} {tt : TT} {env env' : Env} {st st' : St} {ids ids' : List Nat} {k todo todo' : List DI} {I : Imm} {μ : Mu} {w : World} {a : Act} {Pn : V → Prop} {d : D} {cx : Prop} {ob : List Prop}
theorem zn1 {t : TypeId} {sh : Sh} {dd : TypeDesc} (h : descOf sh = some dd) (hs : zfm P t sh) : P.underlying t = some dd := by
  cases sh <;> simp only [descOf, reduceCtorEq, Option.some.injEq] at h <;> subst h <;> exact hs
theorem zg7 {sh : Sh} {dd : TypeDesc} {v : Value} {x : V} (h : descOf sh = some dd) (hk : zqs sh x = true) (hv : RepV I v x) : IsKey dd v := by
  cases sh <;> simp only [descOf, reduceCtorEq, Option.some.injEq] at h <;> subst h <;> cases x <;> simp [zqs] at hk <;> cases hv <;> simp [IsKey, hk]
theorem yja {sh : Sh} {v u : Value} {x y : V} (hx : zqs sh x = true) (hy : zqs sh y = true) (hv : RepV I v x) (hu : RepV I u y) : eqK x y = true ↔ v = u := by
  cases x with
  | str a =>
    cases y with
    | str b =>
      obtain ⟨s, rfl, rfl⟩ := hv.strInv
      obtain ⟨t, rfl, rfl⟩ := hu.strInv
      simp only [eqK, beq_iff_eq, Value.string.injEq]
      constructor
      · intro h
        obtain ⟨⟨s⟩⟩ := s
        obtain ⟨⟨t⟩⟩ := t
        simp at h
        rw [h]
      · intro h; rw [h]
    | _ => cases sh <;> simp [zqs] at hx hy
  | int k i =>
    cases y with
    | int k' j =>
      obtain rfl := hv.intInv
      obtain rfl := hu.intInv
      cases sh <;> simp [zqs] at hx hy
      subst hx; subst hy
      simp [eqK]
    | _ => cases sh <;> simp [zqs] at hx hy
  | _ => cases sh <;> simp [zqs] at hx
theorem zl2 {sh : Sh} {dd : TypeDesc} {v : Value} {x : V} (hd : descOf sh = some dd) (hk : zqs sh x = true) (hv : RepV I v x) : ∀ (l : List MapEntry) (kv : List (V × V)) (i : Nat), l.length = kv.length →
    (∀ (j : Nat) (e : MapEntry) (p : V × V), l[j]? = some e → kv[j]? = some p → RepV I e.key p.1 ∧ RepV I e.val p.2) → (∀ p ∈ kv, zqs sh p.1 = true) →
    (Instr.findNow dd v l i = some none ∧ zcf kv x = none ∧ (∀ y, zi5 kv x y = kv ++ [(x, y)]) ∧ ∀ e ∈ l, e.key ≠ v) ∨
      ∃ j e y, Instr.findNow dd v l i = some (some (i + j, e.val)) ∧ l[j]? = some e ∧ e.key = v ∧ zcf kv x = some y ∧ RepV I e.val y ∧ ∀ z, zi5 kv x z = kv.set j (x, z)
  | [], [], i, _, _, _ => .inl ⟨rfl, rfl, fun _ => rfl, fun _ h => by cases h⟩
  | [], _ :: _, _, h, _, _ => by simp at h
  | _ :: _, [], _, h, _, _ => by simp at h
  | e :: l, p :: kv, i, hl, h, hkv => by
    obtain ⟨h1, h2⟩ := h 0 e p rfl rfl
    obtain ⟨y, dy⟩ := p
    have hky := hkv (y, dy) (by simp)
    obtain ⟨r, hr, hiff⟩ := sameNow_of_keys (zg7 hd hk hv) (zg7 hd hky h1)
    have he := yja hk hky hv h1
    cases r with
    | true =>
      have hvy := hiff.1 rfl
      have := he.2 hvy
      exact .inr ⟨0, e, dy, by simp [Instr.findNow, hr], rfl, hvy.symm, by simp [zcf, this], h2, fun z => by simp [zi5, this]⟩
    | false =>
      have hne : v ≠ e.key := fun q => by have := hiff.2 q; cases this
      have hf : eqK x y = false := by
        cases hq : eqK x y with
        | false => rfl
        | true => exact absurd (he.1 hq) hne
      rcases zl2 hd hk hv l kv (i + 1) (by simpa using hl) (fun j e' p' a b => h (j + 1) e' p' (by simpa using a) (by simpa using b)) (fun p' hp => hkv p' (by simp [hp])) with ⟨q1, q2, q3, q4⟩ | ⟨j, e', y', q1, q2, q3, q4, q5, q6⟩
      · refine .inl ⟨by simp [Instr.findNow, hr, q1], by simp [zcf, hf, q2], fun z => by simp [zi5, hf, q3], fun e' he' => ?_⟩
        rcases List.mem_cons.1 he' with rfl | he'
        · exact fun q => hne q.symm
        · exact q4 e' he'
      · exact .inr ⟨j + 1, e', y', by simp [Instr.findNow, hr, q1]; omega, by simpa using q2, q3, by simp [zcf, hf, q4], q5, fun z => by simp [zi5, hf, q6]⟩
def pmk (n : Nat) (ids : List Nat) (todo : List DI) : Option (Nat × List Nat × Option Nat × List DI) :=
  match yfe todo, ids with
  | some o, id' :: ids' => match o.guard, o.op with
    | none, .makeMap _ none => match zel n o.dst, zb3 todo ([], [id']) with
      | true, some (_, _, todo') => some (id', ids', o.dst, todo')
      | _, _ => none
    | _, _ => none
  | _, _ => none
theorem zq4 {i0 : Nat} {ids0 : List Nat} {d0 : Option Nat} {todo0 : List DI} (h : pmk n ids todo = some (i0, ids0, d0, todo0)) (hk : G P n F Q todo0 (zee d0 (.mapr i0) env) ((i0, some (.map [])) :: st) ids0) : G P n F Q todo env st ids := by
  unfold pmk at h
  split at h
  · rename_i o id' ids' ho
    split at h
    · rename_i t hg hop
      split at h
      · rename_i all o' todo' hd h1
        cases h
        have ho' : o' = o := zdc ho h1
        subst ho'
        refine zcv (fr := [i0]) (wr := [(i0, some (.map []))]) (rd := []) h1 ?_ hd (fun c hc => by rw [hop] at hc; cases hc) hk
        intro I μ st1 ids1 a w hag hst hon
        refine ⟨fun _ => ?_, fun hw => by rw [wanted_none hg] at hw; cases hw⟩
        have hrun : (execOp a.eval o').run P w = .ok (.value (.map (some w.heap.size))) (w.alloc (.map #[] 0)) := by
          simp only [execOp, hop, Option.map_none]
          refine zhp ?_
          simp only [Instr.makeMap, Sem.run_bind, Result.andThen_ok, Sem.run_pure, run_newObj]
          rfl
        rw [hrun]
        obtain ⟨μ', q1, q2, q3, q4⟩ := hst.allocO (.map #[] 0) (.map (some w.heap.size)) (fun _ h => Eq.symm h) (.map []) (fun μ' _ => ⟨w.heap.size, #[], 0, rfl, ziw w _, rfl, stamped_empty 0, fun i e p h => by simp at h⟩)
        exact ⟨I, μ', q3, .mapr _ _ q1, q2, q4⟩
      · cases h
    · cases h
  · cases h
theorem ybt {id : Nat} {kv : List (V × V)} {v : Value} (hst : StRep I μ st ids w) (hl : za3 st id (.map kv)) (hv : RepD I μ v (.mapr id)) :
    ∃ b es clock, v = .map (some b) ∧ μ id = some v ∧ w.heap[b]? = some (.map es clock) ∧ es.size = kv.length ∧ Stamped es clock ∧ ∀ (i : Nat) (e : MapEntry) (p : V × V), es[i]? = some e → kv[i]? = some p → RepV I e.key p.1 ∧ RepV I e.val p.2 := by
  cases hv with
  | mapr _ b hm =>
    obtain ⟨g, hg, b', es, clock, rfl, h1, h2, h3, h4⟩ := hst.blk id _ hl
    rw [hm] at hg; cases hg
    exact ⟨b, es, clock, rfl, hm, h1, h2, h3, h4⟩
def yic : Op → Option (TypeId × Operand × Operand × Operand)
  | .mapUpdate t m x y => some (t, m, x, y)
  | .insert t m x y => some (t, m, x, y)
  | _ => none
theorem zse {op : Op} {t : TypeId} {m x y : Operand} (h : yic op = some (t, m, x, y)) : (op = .mapUpdate t m x y ∨ op = .insert t m x y) ∧ ∀ z ∈ [m, x, y], z ∈ op.operands.toList := by
  unfold yic at h
  split at h
  · cases h; exact ⟨.inl rfl, by simp [Op.operands]⟩
  · cases h; exact ⟨.inr rfl, by simp [Op.operands]⟩
  · cases h
def pmset (tt : TT) (env : Env) (st : St) (todo : List DI) : Option (Nat × List (V × V) × Sh × V × V × List DI) :=
  match yfe todo with
  | some o => match o.guard, yic o.op with
    | none, some (t, m, x, y) => match o.dst, lk tt t, evO env m, evO env x, evO env y with
      | none, some { sh := .map kt _, .. }, some (.mapr id), some (.imm kx), some dy => match lk tt kt, lk st id, zb3 todo ([id], [id]), toV dy with
        | some i, some (some (.map kv)), some (_, _, todo'), some vy => some (id, kv, i.sh, kx, vy, todo')
        | _, _, _, _ => none
      | _, _, _, _, _ => none
    | _, _ => none
  | none => none
theorem yco (htt : TTok P tt) {i0 : Nat} {kv : List (V × V)} {sh : Sh} {kx : V} {dy : V} {todo0 : List DI} {dd : TypeDesc} (h : pmset tt env st todo = some (i0, kv, sh, kx, dy, todo0)) (hd : descOf sh = some dd) (hk : zqs sh kx = true)
    (hkv : ∀ p ∈ kv, zqs sh p.1 = true) (hg : G P n F Q todo0 env ((i0, some (.map (zi5 kv kx dy))) :: st) ids) : G P n F Q todo env st ids := by
  unfold pmset at h
  split at h
  · rename_i o ho
    split at h
    · rename_i t m x y hgd hop
      split at h
      · rename_i kt et _ _ _ _ id kx' dy' hdst ht hm hx hy
        split at h
        · rename_i i kv' all o' todo' vy hi hl h1 hng
          cases h
          have ho' : o' = o := zdc ho h1
          subst ho'
          have hg : G P n F Q todo0 (zee o'.dst .undef env) ((i0, some (.map (zi5 kv kx dy))) :: st) ids := by rw [hdst]; exact hg
          refine zcv (fr := []) (wr := [(i0, some (.map (zi5 kv kx dy)))]) (rd := [i0]) h1 ?_ (by simp [zel, hdst]) (fun c hc => by rcases (zse hop).1 with e | e <;> rw [e] at hc <;> cases hc) hg
          intro I μ st1 ids1 a w hag hst hon
          refine ⟨fun _ => ?_, fun hw => by rw [wanted_none hgd] at hw; cases hw⟩
          have hops := zbr hon
          obtain ⟨hop2, hop3⟩ := zse hop
          have hl1 : za3 st1 i0 (.map kv) := by unfold za3; rw [hag i0 (by simp)]; exact hl
          obtain ⟨b, es, clock, e1, hmu, hheap, hlen, hst2, hent⟩ := ybt hst hl1 (hops m (hop3 m (by simp)) _ hm)
          have rx := (hops x (hop3 x (by simp)) _ hx).immInv
          have ry := zub hng (hops y (hop3 y (by simp)) _ hy)
          have hu : P.underlying t = some (.map kt et) := htt.sh ht
          have hkd : P.underlying kt = some dd := zn1 hd (htt.sh hi)
          have hik := zg7 hd hk rx
          have hbl := zd1 hheap
          have fin : ∀ (es' : Array MapEntry) (c' : Nat), (Instr.mapUpdate t (.map (some b)) (a.eval x) (a.eval y)).run P w = .ok () { w with heap := w.heap.setIfInBounds b (.map es' c') } → es'.size = (zi5 kv kx dy).length → Stamped es' c' →
              (∀ (i : Nat) (e : MapEntry) (p : V × V), es'[i]? = some e → (zi5 kv kx dy)[i]? = some p → RepV I e.key p.1 ∧ RepV I e.val p.2) →
              valX P ((execOp a.eval o').run P w) (fun v w' => ∃ I' μ', StRep I' μ' ([(i0, some (.map (zi5 kv kx dy)))] ++ st1) ids1 w' ∧ RepD I' μ' v .undef ∧ μ.le μ' ∧ Ext I μ st1 w I' μ' ([(i0, some (.map (zi5 kv kx dy)))] ++ st1) w') (zyi (yd6 Q) I μ st1 w) := by
            intro es' c' hr h2 h3 h4
            have hrun : (execOp a.eval o').run P w = .ok .skip { w with heap := w.heap.setIfInBounds b (.map es' c') } := by
              rcases hop2 with e | e <;> (simp only [execOp, e, e1]; simp [hr])
            rw [hrun]
            obtain ⟨q1, q2⟩ := hst.update (blk' := .map (zi5 kv kx dy)) (w' := { w with heap := w.heap.setIfInBounds b (.map es' c') }) hl1 hmu (by rw [e1]; rfl) (by simp) rfl rfl rfl
              (fun k hk => Array.getElem?_setIfInBounds_ne (Ne.symm hk)) ⟨b, es', c', e1, by simp [hbl], h2, h3, h4⟩
            exact ⟨I, μ, q1, .undef _, Mu.le_refl μ, q2⟩
          rcases zl2 (I := I) hd hk rx es.toList kv 0 (by simpa using hlen) (fun j e p h1 h2 => hent j e p (by simpa using h1) h2) hkv with ⟨q1, _, q3, q4⟩ | ⟨j, e, y', q1, q2, q3, _, q5, q6⟩
          · refine fin _ _ ?_ (by rw [q3]; simp [hlen]) (stamped_push hst2 (key := a.eval x) (val := a.eval y) q4) fun i e p h1 h2 => ?_
            · simp [Instr.mapUpdate, run_underlying hu, MapKept.run_getObj_map hheap, MapKept.run_checkKey hkd hik, MapKept.run_findKey hkd q1, MapKept.run_setObj_map _ hheap, Result.andThen]
            · rw [q3] at h2
              rw [Array.getElem?_push] at h1
              rw [List.getElem?_append] at h2
              by_cases hi : i = es.size
              · rw [if_pos hi] at h1; cases h1
                rw [if_neg (by omega)] at h2
                rw [show i - kv.length = 0 by omega] at h2
                cases h2
                exact ⟨rx, ry⟩
              · rw [if_neg hi] at h1
                have := (Array.getElem?_eq_some_iff.1 h1).1
                rw [if_pos (by omega)] at h2
                exact hent i e p h1 h2
          · have hj : es[j]? = some e := by simpa using q2
            have hkey : ∀ e', es[j]? = some e' → ({ e' with key := a.eval x, val := a.eval y } : MapEntry).key = e'.key := fun e' he' => by rw [hj] at he'; cases he'; exact q3.symm
            refine fin (es.modify j fun e => { e with key := a.eval x, val := a.eval y }) clock ?_ (by rw [q6]; simp [hlen]) (stamped_modify hst2 _ _ (fun _ _ => rfl) (fun e' _ he' => hkey e' he')) fun i e' p h1 h2 => ?_
            · simp [Instr.mapUpdate, run_underlying hu, MapKept.run_getObj_map hheap, MapKept.run_checkKey hkd hik, MapKept.run_findKey hkd q1, hj, q3, MapKept.run_keyThatStays hik, MapKept.run_setObj_map _ hheap, Result.andThen]
            · rw [q6] at h2
              rw [Array.getElem?_modify] at h1
              rw [List.getElem?_set] at h2
              by_cases hi : j = i
              · subst hi
                rw [if_pos rfl, hj] at h1
                cases h1
                rw [if_pos rfl] at h2
                split at h2
                · cases h2; exact ⟨rx, ry⟩
                · cases h2
              · rw [if_neg hi] at h1 h2
                exact hent i e' p h1 h2
        · cases h
      · cases h
    · cases h
  · cases h
structure PMl where
  kv : List (V × V)
  sh : Sh
  kx : V
  et : TypeId
  two : Bool
  g : Option (Bool × Bool)
  ob : List Prop
  t : Nat
  todo : List DI
def yhh (tt : TT) (n : Nat) (env : Env) (st : St) (nm : Nat) (todo : List DI) : Option PMl :=
  match zb3 todo ([nm], []) with
  | some (all, o, todo') => match o.op, zcs all env o with
    | .lookup t m k two, some g => match lk tt t, zz8 (zal g) env m, zz8 (zal g) env k with
      | some { sh := .map kt et, .. }, some (.mapr id, o1), some (.imm kx, o2) => match Nat.beq id nm, lk tt kt, lk st id, zel n o.dst with
        | true, some i, some (some (.map kv)), true => match o.dst with
          | some t => some ⟨kv, i.sh, kx, et, two, g, cat o1 o2, t, todo'⟩
          | none => none
        | _, _, _, _ => none
      | _, _, _ => none
    | _, _ => none
  | none => none
theorem zdk {t : TypeId} {z : Value} (h : (P.info? t).bind (·.zero) = some z) : (zeroValue t).run P w = .ok z w := by
  cases hi : P.info? t with
  | none => rw [hi] at h; cases h
  | some inf =>
    rw [hi] at h
    have h : inf.zero = some z := h
    simp [zeroValue, typeInfo, hi, h]
def zfi (two : Bool) (kv : List (V × V)) (x : V) (zd : V) : D :=
  let r := match zcf kv x with
    | some y => (y, true)
    | none => (zd, false)
  if two then .imm (.tup [r.1, .bool r.2]) else .imm r.1
theorem ycp (htt : TTok P tt) (nm : Nat) {kv : List (V × V)} {sh : Sh} {kx : V} {et : TypeId} {two : Bool} {g : Option (Bool × Bool)} {ob : List Prop} {t0 : Nat} {todo0 : List DI} {dd : TypeDesc} {z : Value} {zd : V} {dr : D}
    (h : yhh tt n env st nm todo = some ⟨kv, sh, kx, et, two, g, ob, t0, todo0⟩) (hd : descOf sh = some dd) (hk : zqs sh kx = true) (hkv : ∀ p ∈ kv, zqs sh p.1 = true) (hob : zbh ob)
    (hz : (P.info? et).bind (·.zero) = some z) (hzr : ∀ I, RepV I z zd) (hdr : zfi two kv kx zd = dr) (hg : G P n F Q todo0 ((t0, gD g dr) :: env) st ids) : G P n F Q todo env st ids := by
  unfold yhh at h
  split at h
  · rename_i all o todo' h1
    split at h
    · rename_i t m k two' g' hop hgd
      split at h
      · rename_i kt et' _ _ _ _ id o1 kx' o2 ht hm hx
        split at h
        · rename_i i kv' hid hi hl hdo
          split at h
          · rename_i t' hdst
            cases h
            have hid := Nat.eq_of_beq_eq_true hid
            subst hid
            subst hdr
            have hg : G P n F Q todo0 (zee o.dst (gD g (zfi two kv kx zd)) env) st ids := by rw [hdst]; exact hg
            refine zcv (fr := []) (wr := []) (rd := [id]) h1 (zd4 hgd fun I μ st1 ids1 a w hag hst hops hcx => ?_) hdo (fun c hc => by rw [hop] at hc; cases hc) hg
            rw [hop] at hops
            obtain ⟨ho1, ho2⟩ := zay hob
            have rm := zdp hm ho1 hcx (hops m (by simp [Op.operands]))
            have rx := (zdp hx ho2 hcx (hops k (by simp [Op.operands]))).immInv
            have hl1 : za3 st1 id (.map kv) := by unfold za3; rw [hag id (by simp)]; exact hl
            obtain ⟨b, es, clock, e1, hmu, hheap, hlen, hst2, hent⟩ := ybt hst hl1 rm
            have hu : P.underlying t = some (.map kt et) := htt.sh ht
            have hkd : P.underlying kt = some dd := zn1 hd (htt.sh hi)
            have hik := zg7 hd hk rx
            have fin : ∀ (v : Value) (ok : Bool) (d : V), (Instr.lookup t (.map (some b)) (a.eval k) two).run P w = .ok (if two then .tuple #[v, .bool ok] else v) w → RepV I v d →
                zfi two kv kx zd = (if two then .imm (.tup [d, .bool ok]) else .imm d) →
                valX P ((execOp a.eval o).run P w) (fun u w' => ∃ I' μ', StRep I' μ' st1 ids1 w' ∧ RepD I' μ' u (zfi two kv kx zd) ∧ μ.le μ' ∧ Ext I μ st1 w I' μ' st1 w') (zyi (yd6 Q) I μ st1 w) := by
              intro v ok d hr hv he
              have hrun : (execOp a.eval o).run P w = .ok (.value (if two then .tuple #[v, .bool ok] else v)) w := by
                simp only [execOp, hop, e1]
                exact zak hr
              rw [hrun]
              refine ⟨I, μ, hst, ?_, Mu.le_refl μ, Ext.refl _ _ _ _⟩
              rw [he]
              cases two with
              | false => exact .imm _ _ hv
              | true =>
                refine .imm _ _ (.tup _ _ rfl fun i c x hc hx => ?_)
                match i, hc, hx with
                | 0, hc, hx => cases hc; cases hx; exact hv
                | 1, hc, hx => cases hc; cases hx; exact .bool _
                | i + 2, hc, hx => simp at hx
            rcases zl2 (I := I) hd hk rx es.toList kv 0 (by simpa using hlen) (fun j e p h1 h2 => hent j e p (by simpa using h1) h2) hkv with ⟨q1, q2, _, _⟩ | ⟨j, e, y', q1, q2, q3, q4, q5, q6⟩
            · refine fin z false zd ?_ (hzr I) (by simp [zfi, q2])
              simp [Instr.lookup, run_underlying hu, MapKept.run_getObj_map hheap, MapKept.run_checkKey hkd hik, MapKept.run_findKey hkd q1, zdk hz, Result.andThen]
            · refine fin e.val true y' ?_ q5 (by simp [zfi, q4])
              simp [Instr.lookup, run_underlying hu, MapKept.run_getObj_map hheap, MapKept.run_checkKey hkd hik, MapKept.run_findKey hkd q1, Result.andThen]
          · cases h
        · cases h
      · cases h
    · cases h
  · cases h
end
end Go.Hk
namespace Go.Hk
mutual
def ybq (id : Nat) (es : List (V × V)) : D → D
  | .mapr i => bif Nat.beq i id then .imm (.mapv es) else .mapr i
  | .agg cs => zkg (yd9 id es cs)
  | .tup cs => .tup (yd9 id es cs)
  | .fn f a b => .fn f (yd9 id es a) (yd9 id es b)
  | .iface t d => match ybq id es d with
    | .imm x => .imm (.iface t x)
    | d' => .iface t d'
  | .guard c w d => .guard c w (ybq id es d)
  | d => d
def yd9 (id : Nat) (es : List (V × V)) : List D → List D
  | [] => []
  | d :: r => ybq id es d :: yd9 id es r
end
def yjv (id : Nat) (es : List (V × V)) : Env → Env
  | [] => []
  | (t, d) :: r => (t, ybq id es d) :: yjv id es r
def mfrB (id : Nat) (es : List (V × V)) : Blk → Blk
  | .cells t sz cs => zsx t sz (yd9 id es cs)
  | b => b
def yd8 (id : Nat) (es : List (V × V)) : St → St
  | [] => []
  | (i, some b) :: r => (i, some (mfrB id es b)) :: yd8 id es r
  | (i, none) :: r => (i, none) :: yd8 id es r
theorem zf3 (id : Nat) (es : List (V × V)) : ∀ l : List D, yd9 id es l = l.map (ybq id es)
  | [] => rfl
  | d :: r => by simp [yd9, zf3 id es r]
section
variable {P : Program} {n : Nat} {F : List Nat} {Q : DQ} {tt : TT} {env : Env} {st : St} {ids : List Nat} {todo : List DI} {I J : Imm} {μ : Mu} {w : World} {id : Nat} {es : List (V × V)} {g : Value}
theorem RepD.mfr {v : Value} {d : D} (h : RepD I μ v d) (hIJ : I.le J) (hg : μ id = some g) (hr : RepV J g (.mapv es)) : RepD J μ v (ybq id es d) := by
  have at_ : ∀ {l : List D} {i : Nat} {x : D}, (yd9 id es l)[i]? = some x → ∃ y, l[i]? = some y ∧ x = ybq id es y := by
    intro l i x hx
    rw [zf3, List.getElem?_map] at hx
    cases hl : l[i]? with
    | none => rw [hl] at hx; cases hx
    | some y => rw [hl] at hx; cases hx; exact ⟨y, rfl, rfl⟩
  induction h with
  | undef v => exact .undef v
  | imm v x hx => exact .imm v x (hx.mono hIJ)
  | nils => exact .nils
  | ref b id off hm => exact .ref b id off hm
  | ip b o t cs off vs hcell hrep => exact (RepD.ip b o t cs off vs hcell hrep).mono hIJ (Mu.le_refl μ)
  | agg cs ds hl h1 _ ih =>
    have : RepD J μ (.agg cs.toList.toArray) (zkg (yd9 id es ds)) := zjl ⟨by rw [zf3, List.length_map, ← hl]; simp, fun i c x hc hx => by
      obtain ⟨y, hy, rfl⟩ := at_ hx
      exact ih i c y (by simpa using hc) hy⟩ h1
    simpa [ybq] using this
  | tup cs ds hl _ ih =>
    refine .tup cs _ (by rw [zf3, List.length_map, hl]) fun i c x hc hx => ?_
    obtain ⟨y, hy, rfl⟩ := at_ hx
    exact ih i c y hc hy
  | own i len a cap hm => exact .own i len a cap hm
  | elp b id len cap k sz f hm => exact .elp b id len cap k sz f hm
  | mapr i b hm =>
    simp only [ybq]
    cases hb : Nat.beq i id with
    | false => exact .mapr i b hm
    | true =>
      rw [Nat.eq_of_beq_eq_true hb, hg] at hm
      cases hm
      exact .imm _ _ hr
  | iter id b hm => exact .iter id b hm
  | fn f first cap df dc hf hc _ _ ih1 ih2 =>
    refine .fn f first cap _ _ (by rw [zf3, List.length_map, hf]) (by rw [zf3, List.length_map, hc]) (fun i c x h1 h2 => ?_) (fun i c x h1 h2 => ?_)
    · obtain ⟨y, hy, rfl⟩ := at_ h2
      exact ih1 i c y h1 hy
    · obtain ⟨y, hy, rfl⟩ := at_ h2
      exact ih2 i c y h1 hy
  | iface t v d _ ih =>
    simp only [ybq]
    split
    · rename_i x hx
      rw [hx] at ih
      exact .imm _ _ (.iface t v x ih.immInv)
    · exact .iface t v _ ih
  | guard c want v d _ hu ih => exact .guard c want v _ ih hu
  | clip a len es hr => exact .clip a len es (hr.mono hIJ)
  | slc b id off len cap hm hl hx => exact .slc b id off len cap hm hl hx
  | yld b id hm => exact .yld b id hm
  | raw v h => exact .raw v h
  | hv v id i vs bs hm hi h1 => exact .hv v id i vs bs hm hi h1
theorem BlkRep.mfr {gb : Value} {blk : Blk} (h : BlkRep I μ w gb blk) (hIJ : I.le J) (hg : μ id = some g) (hr : RepV J g (.mapv es)) : BlkRep J μ w gb (mfrB id es blk) := by
  cases blk with
  | cells t sz cs =>
    obtain ⟨hs, b, vs, rfl, h2, h3, h4⟩ := h
    refine zfh h2 ⟨by rw [zf3, List.length_map, h3.1], fun i v x hv hx => ?_⟩ h4 (by rw [zf3, List.length_map, hs])
    rw [zf3, List.getElem?_map] at hx
    cases hl : cs[i]? with
    | none => rw [hl] at hx; cases hx
    | some y => rw [hl] at hx; cases hx; exact (h3.2 i v y hv hl).mfr hIJ hg hr
  | _ => exact h.mono hIJ (Mu.le_refl μ)
theorem zm8 {i : Nat} {b : Blk} : ∀ {st : St}, za3 (yd8 id es st) i b → ∃ b0, za3 st i b0 ∧ b = mfrB id es b0
  | [], h => by simp [yd8, za3, lk] at h
  | (k, some x) :: r, h => by
    simp only [yd8] at h
    rcases zbu.1 h with ⟨h1, h2⟩ | ⟨h1, h2⟩
    · exact ⟨x, by unfold za3; rw [h1, lk_cons_self], h2⟩
    · obtain ⟨b0, q1, q2⟩ := zm8 h2
      exact ⟨b0, zbu.2 (.inr ⟨h1, q1⟩), q2⟩
  | (k, none) :: r, h => by
    simp only [yd8] at h
    obtain ⟨h1, h2⟩ := zcg.1 h
    obtain ⟨b0, q1, q2⟩ := zm8 h2
    exact ⟨b0, zcg.2 ⟨h1, q1⟩, q2⟩
theorem znz (id : Nat) (hl : lk st id = some (some (.map es))) (h : DGo P n F Q todo (yjv id es env) ((id, none) :: yd8 id es st) ids) : DGo P n F Q todo env st ids := by
  intro b cs I μ a w items hd hc
  have hlive : za3 st id (.map es) := hl
  obtain ⟨g, hg, gb, ms, clock, rfl, hheap, hsz, hstm, hent⟩ := hc.blk id _ hlive
  have hno := (hc.apart id _ _ gb hlive hg rfl).1
  -- the immutable part with the map
  obtain ⟨J, hJ, hJr, hJo⟩ : ∃ J : Imm, I.le J ∧ RepV J (.map (some gb)) (.mapv es) ∧ (∀ k o, J k = some o → (I k = some o ∨ (zil (.map (some gb)) k ∧ w.heap[k]? = some o))) := by
    have hle' : I.le (fun k => if k = gb then some (.map ms clock) else I k) := fun k o h => by
      have : k ≠ gb := fun e => by rw [e, hno] at h; cases h
      simp [this, h]
    refine ⟨_, hle', .mapv gb ms clock es (by simp) hsz hstm (fun i e p h1 h2 => (hent i e p h1 h2).1.mono hle') (fun i e p h1 h2 => (hent i e p h1 h2).2.mono hle'), fun k o h => ?_⟩
    by_cases hk : k = gb
    · subst hk; simp at h; subst h; exact .inr ⟨rfl, hheap⟩
    · simp [hk] at h; exact .inl h
  have hst : ∀ i bi, za3 ((id, none) :: yd8 id es st) i bi → i ≠ id ∧ ∃ b0, za3 st i b0 ∧ bi = mfrB id es b0 := fun i bi h => by
    obtain ⟨h1, h2⟩ := zcg.1 h
    exact ⟨h1, zm8 h2⟩
  have hE : Ext I μ st w J μ ((id, none) :: yd8 id es st) w :=
    { imm := hJ, os := rfl, tape := rfl, output := rfl, size := Nat.le_refl _
      block := fun _ _ _ => rfl
      fresh := fun k _ ⟨i, bi, gi, h1, h2, h3⟩ => let ⟨_, b0, q, _⟩ := hst i bi h1; ⟨i, b0, gi, q, h2, h3⟩
      old := fun k _ ho => by
            cases hJk : J k with
            | none =>
              cases hIk : I k with
              | none => rfl
              | some o => rw [hJ k o hIk] at hJk; cases hJk
            | some o =>
              rcases hJo k o hJk with h | ⟨h, _⟩
              · exact h.symm
              · exact absurd ⟨id, _, _, hlive, hg, h⟩ ho }
  have hc' : Conc n J μ (yjv id es env) ((id, none) :: yd8 id es st) ids a w :=
    { imm := fun k o h => (hJo k o h).elim (fun h => hc.imm k o h) fun h => h.2
      blk := fun i bi hli => by
        obtain ⟨_, b0, h2, rfl⟩ := hst i bi hli
        obtain ⟨gi, hgi, hr⟩ := hc.blk i b0 h2
        exact ⟨gi, hgi, hr.mfr hJ hg hJr⟩
      apart := fun i bi gi k hli hgi hk => by
        obtain ⟨h1, b0, h2, rfl⟩ := hst i bi hli
        obtain ⟨q1, q2⟩ := hc.apart i b0 gi k h2 hgi hk
        refine ⟨?_, q2⟩
        cases hJk : J k with
        | none => rfl
        | some o =>
          rcases hJo k o hJk with h | ⟨h, _⟩
          · rw [q1] at h; cases h
          · exact absurd (hc.inj i id b0 _ gi _ k h2 hlive hgi hg hk h) h1
      inj := fun i j bi bj gi gj k hi hj hgi hgj hki hkj => by
        obtain ⟨_, b1, h1, rfl⟩ := hst i bi hi
        obtain ⟨_, b2, h2, rfl⟩ := hst j bj hj
        exact hc.inj i j b1 b2 gi gj k h1 h2 hgi hgj hki hkj
      nodup := hc.nodup
      idsFree := hc.idsFree
      size := hc.size
      env := fun t d hlt => by
        have : ∀ {env : Env}, lk (yjv id es env) t = some d → ∃ d0, lk env t = some d0 ∧ d = ybq id es d0 := by
          intro env
          induction env with
          | nil => intro h; simp [yjv, lk] at h
          | cons p r ih =>
            obtain ⟨s, x⟩ := p
            intro h
            simp only [yjv] at h
            by_cases hs : s = t
            · subst hs; rw [lk_cons_self] at h; cases h; exact ⟨x, lk_cons_self _ _ _, rfl⟩
            · rw [lk_cons_ne _ _ hs] at h; rw [lk_cons_ne _ _ hs]; exact ih h
        obtain ⟨d0, h1, rfl⟩ := this hlt
        exact (hc.env t d0 h1).mfr hJ hg hJr
      defers := hc.defers.ext hE }
  refine (h b cs J μ a w items hd hc').mono fun e' a' w' hp => hp.back (.refl _ _) ?_
  exact hE
def ya7 (tt : TT) (n : Nat) (env : Env) (todo : List DI) : Option PMl :=
  match zb3 todo ([], []) with
  | some (all, o, todo') => match o.op, zcs all env o with
    | .lookup t m k two, some g => match lk tt t, zz8 (zal g) env m, zz8 (zal g) env k with
      | some { sh := .map kt et, .. }, some (.imm (.mapv kv), o1), some (.imm kx, o2) => match lk tt kt, zel n o.dst with
        | some i, true => match o.dst with
          | some t => some ⟨kv, i.sh, kx, et, two, g, cat o1 o2, t, todo'⟩
          | none => none
        | _, _ => none
      | _, _, _ => none
    | _, _ => none
  | none => none
theorem zjs (htt : TTok P tt) {kv : List (V × V)} {sh : Sh} {kx : V} {et : TypeId} {two : Bool} {g : Option (Bool × Bool)} {ob : List Prop} {t0 : Nat} {todo0 : List DI} {dd : TypeDesc} {z : Value} {zd : V} {dr : D}
    (h : ya7 tt n env todo = some ⟨kv, sh, kx, et, two, g, ob, t0, todo0⟩) (hd : descOf sh = some dd) (hk : zqs sh kx = true) (hkv : ∀ p ∈ kv, zqs sh p.1 = true) (hob : zbh ob)
    (hz : (P.info? et).bind (·.zero) = some z) (hzr : ∀ I, RepV I z zd) (hdr : zfi two kv kx zd = dr) (hg : G P n F Q todo0 ((t0, gD g dr) :: env) st ids) : G P n F Q todo env st ids := by
  unfold ya7 at h
  split at h
  · rename_i all o todo' h1
    split at h
    · rename_i t m k two' g' hop hgd
      split at h
      · rename_i kt et' _ _ _ _ kv' o1 kx' o2 ht hm hx
        split at h
        · rename_i i hi hdo
          split at h
          · rename_i t' hdst
            cases h
            subst hdr
            have hg : G P n F Q todo0 (zee o.dst (gD g (zfi two kv kx zd)) env) st ids := by rw [hdst]; exact hg
            refine zcv (fr := []) (wr := []) (rd := []) h1 (zd4 hgd fun I μ st1 ids1 a w hag hst hops hcx => ?_) hdo (fun c hc => by rw [hop] at hc; cases hc) hg
            rw [hop] at hops
            obtain ⟨ho1, ho2⟩ := zay hob
            have rm := zdp hm ho1 hcx (hops m (by simp [Op.operands]))
            have rx := (zdp hx ho2 hcx (hops k (by simp [Op.operands]))).immInv
            obtain ⟨b, es, clock, e1, hheap, hlen, hst2, hent⟩ : ∃ b es clock, a.eval m = .map (some b) ∧ w.heap[b]? = some (.map es clock) ∧ es.size = kv.length ∧ MapKept.Stamped es clock ∧ ∀ (i : Nat) (e : MapEntry) (p : V × V), es[i]? = some e → kv[i]? = some p → RepV I e.key p.1 ∧ RepV I e.val p.2 := by
              have rm := rm.immInv
              generalize a.eval m = vm at rm
              cases rm with
              | mapv b es clock _ q1 q2 q3 q4 q5 => exact ⟨b, es, clock, rfl, hst.imm _ _ q1, q2, q3, fun i e p h1 h2 => ⟨q4 i e p h1 h2, q5 i e p h1 h2⟩⟩
            have hu : P.underlying t = some (.map kt et) := htt.sh ht
            have hkd : P.underlying kt = some dd := zn1 hd (htt.sh hi)
            have hik := zg7 hd hk rx
            have fin : ∀ (v : Value) (ok : Bool) (d : V), (Instr.lookup t (.map (some b)) (a.eval k) two).run P w = .ok (if two then .tuple #[v, .bool ok] else v) w → RepV I v d →
                zfi two kv kx zd = (if two then .imm (.tup [d, .bool ok]) else .imm d) →
                valX P ((execOp a.eval o).run P w) (fun u w' => ∃ I' μ', StRep I' μ' st1 ids1 w' ∧ RepD I' μ' u (zfi two kv kx zd) ∧ μ.le μ' ∧ Ext I μ st1 w I' μ' st1 w') (zyi (yd6 Q) I μ st1 w) := by
              intro v ok d hr hv he
              have hrun : (execOp a.eval o).run P w = .ok (.value (if two then .tuple #[v, .bool ok] else v)) w := by
                simp only [execOp, hop, e1]
                exact zak hr
              rw [hrun]
              refine ⟨I, μ, hst, ?_, Mu.le_refl μ, Ext.refl _ _ _ _⟩
              rw [he]
              cases two with
              | false => exact .imm _ _ hv
              | true =>
                refine .imm _ _ (.tup _ _ rfl fun i c x hc hx => ?_)
                match i, hc, hx with
                | 0, hc, hx => cases hc; cases hx; exact hv
                | 1, hc, hx => cases hc; cases hx; exact .bool _
                | i + 2, hc, hx => simp at hx
            rcases zl2 (I := I) hd hk rx es.toList kv 0 (by simpa using hlen) (fun j e p h1 h2 => hent j e p (by simpa using h1) h2) hkv with ⟨q1, q2, _, _⟩ | ⟨j, e, y', q1, q2, q3, q4, q5, q6⟩
            · refine fin z false zd ?_ (hzr I) (by simp [zfi, q2])
              simp [Instr.lookup, run_underlying hu, MapKept.run_getObj_map hheap, MapKept.run_checkKey hkd hik, MapKept.run_findKey hkd q1, zdk hz, Result.andThen]
            · refine fin e.val true y' ?_ q5 (by simp [zfi, q4])
              simp [Instr.lookup, run_underlying hu, MapKept.run_getObj_map hheap, MapKept.run_checkKey hkd hik, MapKept.run_findKey hkd q1, Result.andThen]
          · cases h
        · cases h
      · cases h
    · cases h
  · cases h
def ipL : List V → List D
  | [] => []
  | .ip t cs off :: r => .ip t cs off :: ipL r
  | x :: r => .imm x :: ipL r
theorem ycd : ∀ {xs : List Value} {vs : List V}, RepL I μ xs (vs.map .imm) → RepL I μ xs (ipL vs)
  | [], [], h => h
  | [], v :: vs, h => absurd h.1 (by simp)
  | x :: xs, [], h => absurd h.1 (by simp)
  | x :: xs, v :: vs, h => by
    obtain ⟨h1, h2⟩ := (show RepL I μ (x :: xs) (.imm v :: vs.map .imm) from h).cons
    have := ycd h2
    cases v with
    | ip t cs off => exact .mk h1.immInv.ipD this
    | _ => exact .mk h1 this
theorem ya3 {f : FuncId} {vs : List V} {v : V} (h : zcm P f (ipL vs) [] (.ret (.imm v) [])) : PureC P f vs v := fun I μ w xs hst hx => h I μ w xs hst (ycd hx)
def yhj (n : Nat) (env : Env) (todo : List DI) : Option yg4 :=
  match zb3 todo ([], []) with
  | some (all, o, todo') => match o.op, zcs all env o with
    | .call { callee := .value (.tmp t), args := ⟨args⟩, .. }, some g => match lk env t, zve (zal g) env args with
      | some (.imm (.clo (.func f) a b)), some (ds, ob) => match zv9 ds, zel n o.dst with
        | some vs, true => match o.dst with
          | some t => some ⟨f, a ++ vs ++ b, g, ob, some t, todo'⟩
          | none => some ⟨f, a ++ vs ++ b, g, ob, none, todo'⟩
        | _, _ => none
      | _, _ => none
    | _, _ => none
  | none => none
theorem zp9 : ∀ l : List V, zv9 (l.map .imm) = some l
  | [] => rfl
  | x :: r => by simp [zv9, toV, zp9 r]
theorem zih : ∀ {a b : List D} {xs ys : List V}, zv9 a = some xs → zv9 b = some ys → zv9 (a ++ b) = some (xs ++ ys)
  | [], b, xs, ys, h1, h2 => by cases h1; exact h2
  | d :: r, b, xs, ys, h1, h2 => by
    simp only [zv9] at h1
    split at h1
    · rename_i x xs' hx hr
      cases h1
      simp [zv9, hx, zih hr h2]
    · cases h1
theorem ycr {f : FuncId} {vs : List V} {g : Option (Bool × Bool)} {ob : List Prop} {dst : Option Nat} {todo' : List DI} {v : V} (h : yhj n env todo = some ⟨f, vs, g, ob, dst, todo'⟩) (hE : zal g → PureC P f vs v) (hob : zbh ob)
    (hk : G P n F Q todo' (zee dst (gD g (.imm v)) env) st ids) : G P n F Q todo env st ids := by
  unfold yhj at h
  split at h
  · rename_i all o todo1 h1
    have hnd : ∀ cc, o.op = .call cc → ∀ c, o.op ≠ .defer c := fun cc h c h' => by rw [h] at h'; cases h'
    split at h
    · rename_i t args ts g' ho hg
      split at h
      · rename_i f' a b ds ob' ht ha
        split at h
        · rename_i vs' hv hd
          have fin : f' = f ∧ a ++ vs' ++ b = vs ∧ g' = g ∧ ob' = ob ∧ o.dst = dst ∧ todo1 = todo' := by
            split at h <;> (rename_i hdst; cases h; exact ⟨rfl, rfl, rfl, rfl, hdst, rfl⟩)
          obtain ⟨rfl, rfl, rfl, rfl, rfl, rfl⟩ := fin
          exact zcv (fr := []) (wr := []) h1 (zuy hg (zn9 ho ht ha hob) (zih (zih (zp9 a) hv) (zp9 b)) hE) hd (hnd _ ho) hk
        · cases h
      · cases h
    · cases h
  · cases h
end
end Go.Hk
namespace Go.Hk
open Go.Proofs
def ttD : TT := ttC ++ [
  (37, ⟨.sl 60, false, 1, 24, [.nils]⟩),
  (60, ⟨.struct [(0, 9), (1, 33)], true, 5, 72, [.imm (.str []), .imm (.int .i64 0), .imm (.int .i64 0), .imm (.str []), .nils]⟩),
  (137, ⟨.struct [(0, 29), (6, 134), (7, 135), (8, 83)], true, 9, 144, [.nils, .imm (.int .i64 0), .imm (.int .i64 0), .imm (.str []), .nils, .nils, .imm .nilmap, .imm .nilmap, .nils]⟩),
  (131, ⟨.struct [(0, 30), (1, 3), (2, 9)], true, 3, 32, [.imm (.int .i64 0), .imm (.int .i64 0), .imm (.str [])]⟩),
  (186, ⟨.struct [(0, 3), (1, 3)], true, 2, 16, [.imm (.int .i64 0), .imm (.int .i64 0)]⟩),
  (134, ⟨.map 9 3, false, 1, 8, [.imm .nilmap]⟩),
  (135, ⟨.map 9 186, false, 1, 8, [.imm .nilmap]⟩),
  (83, ⟨.sl 3, false, 1, 24, [.nils]⟩),
  (95, ⟨.ptr 137, false, 1, 8, [.imm .nilp]⟩),
  (103, ⟨.func, false, 1, 8, [.imm .nilfn]⟩),
  (179, ⟨.func, false, 1, 8, [.imm .nilfn]⟩),
  (128, ⟨.func, false, 1, 8, [.imm .nilfn]⟩),
  (54, ⟨.func, false, 1, 8, [.imm .nilfn]⟩)]
theorem za1 : TTok Tryz.prog ttD := .of_eq (l := [4, 3, 9, 141, 26, 50, 138, 27, 5, 24, 23, 57, 139, 48, 143, 147, 75, 22, 145, 72, 70, 38, 33, 30, 31, 29, 37, 60, 137, 131, 186, 134, 135, 83, 95, 103, 179, 128, 54]) (by kernel_rfl)
section
variable {n : Nat} {F : List Nat} {Q : DQ} {env env' : Env} {st st' : St} {ids ids' : List Nat} {k todo : List DI} {ob : List Prop}
theorem bd (path : List Pt) (h : run ttD n 300 path todo env st ids [] = .at k env' st' ids' ob) (hob : zbh ob) (hd : G Tryz.prog n F Q k env' st' ids') : DGo Tryz.prog n F Q todo env st ids := ztn za1 mixed 300 path h hob hd
theorem bg (path : List Pt) (h : run ttD n 300 path todo env st ids [] = .at k env' st' ids' ob) (hob : zbh ob) (hd : G Tryz.prog n F Q k env' st' ids') : G Tryz.prog n F Q todo env st ids := zq2 za1 mixed 300 path h hob hd
theorem bi {es : List (List V)} {m : Int} {sz : Nat} {e : TypeId} {g : Option (Bool × Bool)} {ob : List Prop} {t : Nat} {todo' : List DI} {c : List V} (h : yd5 ttD n env todo = some ⟨es, m, sz, e, g, ob, some t, todo'⟩)
    (hc : zal g → 0 ≤ m ∧ es[m.toNat]? = some c ∧ c.length = sz) (hob : zbh ob) (hk : G Tryz.prog n F Q todo' ((t, gD g (.ip e c 0)) :: env) st ids) : G Tryz.prog n F Q todo env st ids := zg9 za1 h hc hob hk
end
def yje (b : Str × Ty) : List V := .str b.1 :: dTyc b.2
@[simp] theorem dBind_length (b : Str × Ty) : (yje b).length = 5 := by simp [yje]
def zpq (l : List (Str × Ty)) : List (List V) := l.map yje
@[simp] theorem dBinds_length (l : List (Str × Ty)) : (zpq l).length = l.length := by simp [zpq]
theorem ygt (a b : List (Str × Ty)) : zpq (a ++ b) = zpq a ++ zpq b := by simp [zpq]
end Go.Hk
namespace Go.Hk
open Go.Proofs
def yiz : Ty → List V
  | .mk s n x _ => [.int .i64 s, .int .i64 n, .str x]
set_option maxRecDepth 100000 in
theorem of_ok : ∀ v : Ty, PureC Tryz.prog 80 [.agg (dTyc v)] (.agg (yiz v))
  | .mk s n x ks => by
    refine zae za1 Tryz.func80 (by decide +kernel) rfl [1, 2, 3] rfl rfl ?_
    refine bg [] rfl (by simp) ?_
    exact zab ⟨_, rfl, tV rfl, trivial⟩
set_option maxRecDepth 100000 in
theorem zsv : ∀ p : Ty, zaq p ≤ 1000000 → PureC Tryz.prog 94 [.agg (dTyc p)] (.int .i64 (zaq p : Int))
  | .mk s n x ps, hN => by
    simp only [zaq] at hN
    refine zav fun hv => ?_
    simp [zdi, vOk, dTyc, maxLen] at hv
    refine zae za1 Tryz.func94 (by decide +kernel) rfl [1, 2, 3] rfl rfl ?_
    refine bg [] rfl (by simp) ?_
    refine zag (fun i : Nat => [(9, .imm (.int .i64 i)), (8, .imm (.int .i64 ps.length)), (7, .imm (.sl (zez ps))), (3, .imm (.int .i64 ((1 + zaf (ps.take i) : Nat) : Int)))]) (fun _ => []) [2, 3] (fun i => ps.length - i)
      (fun i => i ≤ ps.length) 0 (Nat.zero_le _) ⟨rfl, za2 (by simp), rfl, rfl, trivial⟩ trivial rfl fun i hi ih => ?_
    refine bd [] rfl (by simp) ?_
    refine zaa rfl (fun h => ?_) (fun h => ?_)
    · simp at h
      obtain ⟨t, ht⟩ := zah h
      have e : zaf (ps.take (i + 1)) = zaf (ps.take i) + zaq t := by rw [zbe ht, zbc]; simp [zaf]
      have hb := zbz ht
      refine bd [] rfl (by simp) ?_
      refine bi rfl (c := dTyc t) (fun _ => ⟨by simp, by simpa using zan ht, by simp⟩) (by simp) ?_
      refine bg [] rfl (by simp) ?_
      refine zac rfl (fun _ => zsv t (by omega)) (by simp) ?_
      refine bg [] rfl (by simp) ?_
      exact zad (ih (i + 1) (by omega) (by omega)) ⟨za2 (w64 (by omega) (by omega)), rfl, rfl, za2 (by rw [e, w64 (by omega) (by omega)]; omega), trivial⟩ trivial rfl
    · simp at h
      refine zar rfl ?_
      refine bd [] rfl (by simp) ?_
      rw [List.take_of_length_le (by omega)]
      refine zab ⟨_, rfl, tV ?_, trivial⟩
      simp [zaq]
termination_by p => SizeOf.sizeOf p
decreasing_by
  have := List.sizeOf_lt_of_mem (List.mem_of_getElem? ht)
  simp_wf
  omega
set_option maxRecDepth 100000 in
theorem zov : ∀ (t : Ty) (l d : Int), -9223372036854775808 ≤ l → l ≤ 9223372036854775807 → -9223372036854775807 ≤ d → d ≤ 9223372036854775807 → PureC Tryz.prog 96 [.agg (dTyc t), .int .i64 l, .int .i64 d] (.int .i64 (zb9 t l d))
  | .mk op n x ks, l, d, hl0, hl1, hd0, hd1 => by
    refine zav fun hv => ?_
    simp [zdi, vOk, dTyc, maxLen] at hv
    refine zae za1 Tryz.func96 (by decide +kernel) rfl [1, 2, 3] rfl rfl ?_
    refine bg [] rfl (by simp [zal]) ?_
    refine zaa rfl (fun h => ?_) (fun h => ?_)
    · refine bd [] rfl (by simp) ?_
      refine zab ⟨_, rfl, tV (congrArg _ ?_), trivial⟩
      simp at h
      simp only [zb9]; rw [if_pos (by grind)]
    have h : ¬ (l < 1 ∨ d < 1) := by simp at h; grind
    refine bd [] rfl (by simp) ?_
    refine zag (fun x : Nat × Int => [(20, .imm (.int .i64 x.1)), (19, .imm (.int .i64 ks.length)), (18, .imm (.sl (zez ks))), (1, .imm (.int .i64 x.2)), (2, .imm (.int .i64 d))]) (fun _ => []) [2, 3] (fun x => ks.length - x.1)
      (fun y => y.1 ≤ ks.length ∧ zb9 (.mk op n x ks) l d = zco (ks.drop y.1) y.2 (d - 1) ∧ 0 ≤ y.2 ∧ y.2 < l) (0, l - 1)
      ⟨Nat.zero_le _, by simp only [zb9, List.drop_zero]; rw [if_neg h], by simp only; omega, by simp only; omega⟩ ⟨rfl, za2 (by simp), rfl, za2 (w64 (by omega) (by omega)), rfl, trivial⟩ trivial rfl fun y hi ih => ?_
    obtain ⟨i, m⟩ := y
    obtain ⟨hi1, hi2, hi3, hi4⟩ := hi
    simp only at hi1 hi2 hi3 hi4
    refine bd [] rfl (by simp) ?_
    refine zaa rfl (fun h => ?_) (fun h => ?_)
    · simp at h
      obtain ⟨t, ht⟩ := zah (l := ks) (i := i) (by omega)
      rw [zaj ht] at hi2
      simp only [zco] at hi2
      rw [if_pos hi3] at hi2
      refine bd [] rfl (by simp) ?_
      refine bi rfl (c := dTyc t) (fun _ => ⟨by simp, by simpa using zan ht, by simp⟩) (by simp) ?_
      refine bg [] rfl (by simp) ?_
      have hw : IntKind.i64.wrap (d - 1) = d - 1 := w64 (by omega) (by omega)
      refine zac rfl (v := .int .i64 (zb9 t m (d - 1))) (fun _ => by rw [hw]; exact zov t m (d - 1) (by omega) (by omega) (by omega) (by omega)) (by simp) ?_
      refine bg [] rfl (by simp) ?_
      have hb := zmc t m (d - 1)
      refine zaa rfl (fun h' => ?_) (fun h' => ?_)
      · simp at h'
        refine zar rfl ?_
        refine bd [] rfl (by simp) ?_
        refine zab ⟨_, rfl, tV (congrArg _ ?_), trivial⟩
        rw [hi2]
        have : zb9 t m (d - 1) = -1 := by omega
        rw [this]
        cases ks.drop (i + 1) with
        | nil => rfl
        | cons a b => simp [zco]
      · simp at h'
        refine bd [] rfl (by simp) ?_
        exact zad (ih (i + 1, zb9 t m (d - 1)) (by simp only; omega) ⟨by simp only; omega, hi2, by simp only; omega, by simp only; omega⟩) ⟨za2 (w64 (by omega) (by omega)), rfl, rfl, rfl, rfl, trivial⟩ trivial rfl
    · refine zar rfl ?_
      refine bd [] rfl (by simp) ?_
      refine zab ⟨_, rfl, tV (congrArg _ ?_), trivial⟩
      simp at h
      rw [hi2, List.drop_eq_nil_of_le (by omega)]; simp [zco]
termination_by t => SizeOf.sizeOf t
decreasing_by
  have := List.sizeOf_lt_of_mem (List.mem_of_getElem? ht)
  simp_wf
  omega
def zgm : V := .iface 239 (.agg [])
def ttT : TT := ttK ++ [
  (239, ⟨.struct [], true, 0, 0, []⟩),
  (192, ⟨.struct [(0, 3), (1, 3)], true, 2, 16, [.imm (.int .i64 0), .imm (.int .i64 0)]⟩),
  (1, ⟨.func, false, 1, 8, [.imm .nilfn]⟩)]
theorem zat : TTok Tryz.prog ttT := .of_eq (l := [4, 3, 9, 141, 26, 50, 138, 27, 5, 24, 23, 57, 139, 48, 143, 147, 75, 22, 145, 72, 70, 38, 239, 192, 1]) (by kernel_rfl)
section
variable {n : Nat} {F : List Nat} {Q : DQ} {env env' : Env} {st st' : St} {ids ids' : List Nat} {k todo : List DI} {ob : List Prop}
theorem td (path : List Pt) (h : run ttT n 300 path todo env st ids [] = .at k env' st' ids' ob) (hob : zbh ob) (hd : G Tryz.prog n F Q k env' st' ids') : DGo Tryz.prog n F Q todo env st ids := ztn zat mixed 300 path h hob hd
theorem tg (path : List Pt) (h : run ttT n 300 path todo env st ids [] = .at k env' st' ids' ob) (hob : zbh ob) (hd : G Tryz.prog n F Q k env' st' ids') : G Tryz.prog n F Q todo env st ids := zq2 zat mixed 300 path h hob hd
theorem ti {es : List (List V)} {m : Int} {sz : Nat} {e : TypeId} {g : Option (Bool × Bool)} {ob : List Prop} {t : Nat} {todo' : List DI} {c : List V} (h : yd5 ttT n env todo = some ⟨es, m, sz, e, g, ob, some t, todo'⟩)
    (hc : zal g → 0 ≤ m ∧ es[m.toNat]? = some c ∧ c.length = sz) (hob : zbh ob) (hk : G Tryz.prog n F Q todo' ((t, gD g (.ip e c 0)) :: env) st ids) : G Tryz.prog n F Q todo env st ids := zg9 zat h hc hob hk
end
set_option maxRecDepth 100000 in
theorem yeh : PureC Tryz.prog 155 [.bool true] (.tup []) := by
  refine zae zat Tryz.func155 (by decide +kernel) rfl [1, 2] rfl rfl ?_
  refine tg [.a] rfl (by simp) ?_
  exact zcw ⟨_, rfl, rfl, trivial⟩
set_option maxRecDepth 100000 in
theorem yh5 : zcm Tryz.prog 155 [.imm (.bool false)] [] (.pan zgm) := by
  refine zae zat Tryz.func155 (by decide +kernel) rfl [1, 2] rfl rfl ?_
  refine tg [.a] rfl (by simp) ?_
  exact yc9 rfl rfl rfl rfl
end Go.Hk
namespace Go.Hk
open Go.Proofs
set_option maxRecDepth 100000 in
theorem za4 (b : Bool) (h : b = true) : PureC Tryz.prog 155 [.bool b] (.tup []) := by subst h; exact yeh
set_option maxRecDepth 100000 in
theorem zbl (b : Bool) (h : b = false) : zcm Tryz.prog 155 [.imm (.bool b)] [] (.pan zgm) := by subst h; exact yh5
def zb0 (a b : Int) : Blk := .immb 192 2 [.int .i64 a, .int .i64 b]
set_option maxRecDepth 100000 in
theorem ze9 (n d x : Int) (h0 : 1 ≤ n) (h1 : n ≤ 4611686018427387904) (hx : x ≤ d) : zcm Tryz.prog 154 [.ref 1 0, .imm (.int .i64 x)] [(1, some (zb0 n d))] (.ret (.imm (.tup [])) [(1, some (zb0 (n - 1) d))]) := by
  have hw : IntKind.i64.wrap (n - 1) = n - 1 := w64 (by omega) (by omega)
  refine zae zat Tryz.func154 (by decide +kernel) rfl [2, 3] rfl rfl ?_
  refine tg [] rfl (by simp) ?_
  refine zac rfl (fun _ => za4 _ (by simp [hw]; omega)) (by simp) ?_
  refine tg [] rfl (by simp) ?_
  refine zcw ⟨_, rfl, rfl, ?_⟩
  simp only [hw]
  exact ⟨rfl, trivial⟩
set_option maxRecDepth 100000 in
theorem zqc (n d x : Int) (h0 : -1 ≤ n) (h1 : n ≤ 4611686018427387904) (hx : n < 1 ∨ d < x) : zcm Tryz.prog 154 [.ref 1 0, .imm (.int .i64 x)] [(1, some (zb0 n d))] (.pan zgm) := by
  have hw : IntKind.i64.wrap (n - 1) = n - 1 := w64 (by omega) (by omega)
  refine zae zat Tryz.func154 (by decide +kernel) rfl [2, 3] rfl rfl ?_
  refine tg [] rfl (by simp) ?_
  exact zai [] rfl (by simp) (zbl _ (by simp [hw]; omega)) trivial rfl rfl
theorem zdt {ps : List Ty} {i : Nat} {t : Ty} (h : ps[i]? = some t) : zaf (ps.drop i) = zaq t + zaf (ps.drop (i + 1)) := by rw [zaj h]; rfl
set_option maxRecDepth 100000 in
theorem zjq : ∀ (t : Ty) (n : Int), (zaq t : Int) ≤ n → n ≤ 4611686018427387904 → zcm Tryz.prog 151 [.ref 1 0, .imm (.agg (dTyc t))] [(1, some (zb0 n 0))] (.ret (.imm (.tup [])) [(1, some (zb0 (n - zaq t) 0))])
  | .mk s m x ps, n, h0, h1 => by
    refine zdn 1 rfl fun hok => ?_
    have hv : ps.length ≤ 9223372036854775807 := by
      simp [zdi, vOk, dTyc, maxLen] at hok
      have := hok.1
      omega
    refine zae zat Tryz.func151 (by decide +kernel) rfl [2, 3, 4] rfl rfl ?_
    have hN : (1 : Int) + zaf ps ≤ n := by simp only [zaq] at h0; omega
    refine tg [] rfl (by simp) ?_
    refine zaw (fr := []) [(1, 1)] [] rfl (by simp) (ze9 n 0 0 (by omega) h1 (by decide)) ⟨⟨rfl, rfl, rfl⟩, trivial⟩ rfl rfl rfl rfl ?_
    refine tg [] rfl (by simp) ?_
    refine zag (fun i : Nat => [(11, .imm (.int .i64 i)), (10, .imm (.int .i64 ps.length)), (9, .imm (.sl (zez ps))), (0, .ref 1 0)]) (fun i => [(1, some (zb0 (n - 1 - zaf (ps.take i)) 0))]) [2, 3, 4] (fun i => ps.length - i)
      (fun i => i ≤ ps.length) 0 (Nat.zero_le _) ⟨rfl, za2 (by simp), rfl, rfl, trivial⟩ ⟨by simp [zaf]; rfl, trivial⟩ rfl fun i hi ih => ?_
    refine td [] rfl (by simp) ?_
    refine zaa rfl (fun h => ?_) (fun h => ?_)
    · simp at h
      obtain ⟨t, ht⟩ := zah h
      have hnt := zbz ht
      have hnd := zdt ht
      have htk : (zaf (ps.take (i + 1)) : Int) = zaf (ps.take i) + zaq t := by rw [zbe ht, zbc]; simp [zaf]
      refine td [] rfl (by simp) ?_
      refine ti rfl (c := dTyc t) (fun _ => ⟨by simp, by simpa using zan ht, by simp⟩) (by simp) ?_
      refine tg [] rfl (by simp) ?_
      refine zaw (fr := []) [(1, 1)] [] rfl (by simp) (zjq t (n - 1 - zaf (ps.take i)) (by omega) (by omega)) ⟨⟨rfl, rfl, rfl⟩, trivial⟩ rfl rfl rfl rfl ?_
      refine tg [] rfl (by simp) ?_
      exact zad (ih (i + 1) (by omega) (by omega)) ⟨za2 (w64 (by omega) (by omega)), rfl, rfl, rfl, trivial⟩ ⟨congrArg (fun z => zb0 z 0) (by omega), trivial⟩ rfl
    · refine td [] rfl (by simp) ?_
      simp at h
      refine zcw ⟨_, rfl, rfl, ⟨?_, trivial⟩⟩
      rw [List.take_of_length_le (by omega)]
      simp only [zaq]
      exact congrArg (fun z => some (some (zb0 z 0))) (by omega)
termination_by t => SizeOf.sizeOf t
decreasing_by
  all_goals
    have := List.sizeOf_lt_of_mem (List.mem_of_getElem? ht)
    simp_wf
    omega
set_option maxRecDepth 100000 in
theorem zxi : ∀ (t : Ty) (n : Int), n < zaq t → -1 ≤ n → n ≤ 4611686018427387904 → zcm Tryz.prog 151 [.ref 1 0, .imm (.agg (dTyc t))] [(1, some (zb0 n 0))] (.pan zgm)
  | .mk s m x ps, n, h0, hm1, h1 => by
    refine zdn 1 rfl fun hok => ?_
    have hv : ps.length ≤ 9223372036854775807 := by
      simp [zdi, vOk, dTyc, maxLen] at hok
      have := hok.1
      omega
    refine zae zat Tryz.func151 (by decide +kernel) rfl [2, 3, 4] rfl rfl ?_
    have hN : n < (1 : Int) + zaf ps := by simp only [zaq] at h0; omega
    refine tg [] rfl (by simp) ?_
    by_cases hn : n < 1
    · exact zai [(1, 1)] rfl (by simp) (zqc n 0 0 (by omega) h1 (.inl hn)) ⟨⟨rfl, rfl, rfl⟩, trivial⟩ rfl rfl
    refine zaw (fr := []) [(1, 1)] [] rfl (by simp) (ze9 n 0 0 (by omega) h1 (by decide)) ⟨⟨rfl, rfl, rfl⟩, trivial⟩ rfl rfl rfl rfl ?_
    refine tg [] rfl (by simp) ?_
    refine zag (fun i : Nat => [(11, .imm (.int .i64 i)), (10, .imm (.int .i64 ps.length)), (9, .imm (.sl (zez ps))), (0, .ref 1 0)]) (fun i => [(1, some (zb0 (n - 1 - zaf (ps.take i)) 0))]) [2, 3, 4] (fun i => ps.length - i)
      (fun i => i ≤ ps.length ∧ (zaf (ps.take i) : Int) ≤ n - 1 ∧ n - 1 < zaf (ps.take i) + zaf (ps.drop i)) 0 ⟨Nat.zero_le _, by simp [zaf]; omega, by simp [zaf]; omega⟩ ⟨rfl, za2 (by simp), rfl, rfl, trivial⟩ ⟨by simp [zaf]; rfl, trivial⟩ rfl fun i hi ih => ?_
    refine td [] rfl (by simp) ?_
    refine zaa rfl (fun h => ?_) (fun h => ?_)
    · simp at h
      obtain ⟨t, ht⟩ := zah h
      have hnt := zbz ht
      have hnd := zdt ht
      have htk : (zaf (ps.take (i + 1)) : Int) = zaf (ps.take i) + zaq t := by rw [zbe ht, zbc]; simp [zaf]
      refine td [] rfl (by simp) ?_
      refine ti rfl (c := dTyc t) (fun _ => ⟨by simp, by simpa using zan ht, by simp⟩) (by simp) ?_
      refine tg [] rfl (by simp) ?_
      by_cases hle : (zaq t : Int) ≤ n - 1 - zaf (ps.take i)
      · refine zaw (fr := []) [(1, 1)] [] rfl (by simp) (zjq t (n - 1 - zaf (ps.take i)) (by omega) (by omega)) ⟨⟨rfl, rfl, rfl⟩, trivial⟩ rfl rfl rfl rfl ?_
        refine tg [] rfl (by simp) ?_
        exact zad (ih (i + 1) (by omega) ⟨by omega, by omega, by omega⟩) ⟨za2 (w64 (by omega) (by omega)), rfl, rfl, rfl, trivial⟩ ⟨congrArg (fun z => zb0 z 0) (by omega), trivial⟩ rfl
      · exact zai [(1, 1)] rfl (by simp) (zxi t (n - 1 - zaf (ps.take i)) (by omega) (by omega) (by omega)) ⟨⟨rfl, rfl, rfl⟩, trivial⟩ rfl rfl
    · exfalso
      simp at h
      have := hi.2
      rw [List.take_of_length_le (by omega), List.drop_eq_nil_of_le (by omega)] at this
      simp [zaf] at this
      omega
termination_by t => SizeOf.sizeOf t
decreasing_by
  all_goals
    have := List.sizeOf_lt_of_mem (List.mem_of_getElem? ht)
    simp_wf
    omega
set_option maxRecDepth 100000 in
theorem zl1 : ∀ (t : Ty) (n : Int), (zaq t : Int) ≤ n → n ≤ 4611686018427387904 → zcm Tryz.prog 123 [.ref 1 0, .imm (.agg (dTyc t))] [(1, some (zb0 n 0))] (.ret (.imm (.tup [])) [(1, some (zb0 (n - zaq t) 0))])
  | .mk s m x ps, n, h0, h1 => by
    refine zdn 1 rfl fun hok => ?_
    have hv : ps.length ≤ 9223372036854775807 := by
      simp [zdi, vOk, dTyc, maxLen] at hok
      have := hok.1
      omega
    refine zae zat Tryz.func123 (by decide +kernel) rfl [2, 3, 4] rfl rfl ?_
    have hN : (1 : Int) + zaf ps ≤ n := by simp only [zaq] at h0; omega
    refine tg [] rfl (by simp) ?_
    refine zaw (fr := []) [(1, 1)] [] rfl (by simp) (ze9 n 0 0 (by omega) h1 (by decide)) ⟨⟨rfl, rfl, rfl⟩, trivial⟩ rfl rfl rfl rfl ?_
    refine tg [] rfl (by simp) ?_
    refine zag (fun i : Nat => [(11, .imm (.int .i64 i)), (10, .imm (.int .i64 ps.length)), (9, .imm (.sl (zez ps))), (0, .ref 1 0)]) (fun i => [(1, some (zb0 (n - 1 - zaf (ps.take i)) 0))]) [2, 3, 4] (fun i => ps.length - i)
      (fun i => i ≤ ps.length) 0 (Nat.zero_le _) ⟨rfl, za2 (by simp), rfl, rfl, trivial⟩ ⟨by simp [zaf]; rfl, trivial⟩ rfl fun i hi ih => ?_
    refine td [] rfl (by simp) ?_
    refine zaa rfl (fun h => ?_) (fun h => ?_)
    · simp at h
      obtain ⟨t, ht⟩ := zah h
      have hnt := zbz ht
      have hnd := zdt ht
      have htk : (zaf (ps.take (i + 1)) : Int) = zaf (ps.take i) + zaq t := by rw [zbe ht, zbc]; simp [zaf]
      refine td [] rfl (by simp) ?_
      refine ti rfl (c := dTyc t) (fun _ => ⟨by simp, by simpa using zan ht, by simp⟩) (by simp) ?_
      refine tg [] rfl (by simp) ?_
      refine zaw (fr := []) [(1, 1)] [] rfl (by simp) (zl1 t (n - 1 - zaf (ps.take i)) (by omega) (by omega)) ⟨⟨rfl, rfl, rfl⟩, trivial⟩ rfl rfl rfl rfl ?_
      refine tg [] rfl (by simp) ?_
      exact zad (ih (i + 1) (by omega) (by omega)) ⟨za2 (w64 (by omega) (by omega)), rfl, rfl, rfl, trivial⟩ ⟨congrArg (fun z => zb0 z 0) (by omega), trivial⟩ rfl
    · refine td [] rfl (by simp) ?_
      simp at h
      refine zcw ⟨_, rfl, rfl, ⟨?_, trivial⟩⟩
      rw [List.take_of_length_le (by omega)]
      simp only [zaq]
      exact congrArg (fun z => some (some (zb0 z 0))) (by omega)
termination_by t => SizeOf.sizeOf t
decreasing_by
  all_goals
    have := List.sizeOf_lt_of_mem (List.mem_of_getElem? ht)
    simp_wf
    omega
set_option maxRecDepth 100000 in
theorem ycl : ∀ (t : Ty) (n : Int), n < zaq t → -1 ≤ n → n ≤ 4611686018427387904 → zcm Tryz.prog 123 [.ref 1 0, .imm (.agg (dTyc t))] [(1, some (zb0 n 0))] (.pan zgm)
  | .mk s m x ps, n, h0, hm1, h1 => by
    refine zdn 1 rfl fun hok => ?_
    have hv : ps.length ≤ 9223372036854775807 := by
      simp [zdi, vOk, dTyc, maxLen] at hok
      have := hok.1
      omega
    refine zae zat Tryz.func123 (by decide +kernel) rfl [2, 3, 4] rfl rfl ?_
    have hN : n < (1 : Int) + zaf ps := by simp only [zaq] at h0; omega
    refine tg [] rfl (by simp) ?_
    by_cases hn : n < 1
    · exact zai [(1, 1)] rfl (by simp) (zqc n 0 0 (by omega) h1 (.inl hn)) ⟨⟨rfl, rfl, rfl⟩, trivial⟩ rfl rfl
    refine zaw (fr := []) [(1, 1)] [] rfl (by simp) (ze9 n 0 0 (by omega) h1 (by decide)) ⟨⟨rfl, rfl, rfl⟩, trivial⟩ rfl rfl rfl rfl ?_
    refine tg [] rfl (by simp) ?_
    refine zag (fun i : Nat => [(11, .imm (.int .i64 i)), (10, .imm (.int .i64 ps.length)), (9, .imm (.sl (zez ps))), (0, .ref 1 0)]) (fun i => [(1, some (zb0 (n - 1 - zaf (ps.take i)) 0))]) [2, 3, 4] (fun i => ps.length - i)
      (fun i => i ≤ ps.length ∧ (zaf (ps.take i) : Int) ≤ n - 1 ∧ n - 1 < zaf (ps.take i) + zaf (ps.drop i)) 0 ⟨Nat.zero_le _, by simp [zaf]; omega, by simp [zaf]; omega⟩ ⟨rfl, za2 (by simp), rfl, rfl, trivial⟩ ⟨by simp [zaf]; rfl, trivial⟩ rfl fun i hi ih => ?_
    refine td [] rfl (by simp) ?_
    refine zaa rfl (fun h => ?_) (fun h => ?_)
    · simp at h
      obtain ⟨t, ht⟩ := zah h
      have hnt := zbz ht
      have hnd := zdt ht
      have htk : (zaf (ps.take (i + 1)) : Int) = zaf (ps.take i) + zaq t := by rw [zbe ht, zbc]; simp [zaf]
      refine td [] rfl (by simp) ?_
      refine ti rfl (c := dTyc t) (fun _ => ⟨by simp, by simpa using zan ht, by simp⟩) (by simp) ?_
      refine tg [] rfl (by simp) ?_
      by_cases hle : (zaq t : Int) ≤ n - 1 - zaf (ps.take i)
      · refine zaw (fr := []) [(1, 1)] [] rfl (by simp) (zl1 t (n - 1 - zaf (ps.take i)) (by omega) (by omega)) ⟨⟨rfl, rfl, rfl⟩, trivial⟩ rfl rfl rfl rfl ?_
        refine tg [] rfl (by simp) ?_
        exact zad (ih (i + 1) (by omega) ⟨by omega, by omega, by omega⟩) ⟨za2 (w64 (by omega) (by omega)), rfl, rfl, rfl, trivial⟩ ⟨congrArg (fun z => zb0 z 0) (by omega), trivial⟩ rfl
      · exact zai [(1, 1)] rfl (by simp) (ycl t (n - 1 - zaf (ps.take i)) (by omega) (by omega) (by omega)) ⟨⟨rfl, rfl, rfl⟩, trivial⟩ rfl rfl
    · exfalso
      simp at h
      have := hi.2
      rw [List.take_of_length_le (by omega), List.drop_eq_nil_of_le (by omega)] at this
      simp [zaf] at this
      omega
termination_by t => SizeOf.sizeOf t
decreasing_by
  all_goals
    have := List.sizeOf_lt_of_mem (List.mem_of_getElem? ht)
    simp_wf
    omega
theorem zr2 : ∀ (ts : List Tm) (l d : Int), l < 0 → zbk ts l d < 0
  | [], l, d, h => h
  | t :: r, l, d, h => by simp only [zbk]; rw [if_neg (by omega)]; exact h
set_option maxRecDepth 100000 in
theorem zjo : ∀ (t : Tm) (n dp x : Int), 0 ≤ n → n ≤ 4611686018427387904 → 0 ≤ dp → dp ≤ 1000000 → 0 ≤ x → x ≤ 1000001 → 0 ≤ za9 t n (dp - x + 1) → zcm Tryz.prog 183 [.ref 1 0, .imm (.agg (zd8 t)), .imm (.int .i64 x)] [(1, some (zb0 n dp))] (.ret (.imm (.tup [])) [(1, some (zb0 (za9 t n (dp - x + 1)) dp))])
  | .mk op nn tx ks ps, n, dp, x, h0, h1, hd0, hd1, hx0, hx1, hw => by
    refine zdn 1 rfl fun hok => ?_
    have hv : ks.length ≤ 9223372036854775807 := by
      simp [zdi, vOk, zd8, maxLen] at hok
      have := hok.1
      omega
    refine zae zat Tryz.func183 (by decide +kernel) rfl [2, 3, 4] rfl rfl ?_
    have hst : ¬ (n < 1 ∨ dp - x + 1 < 1) → za9 (.mk op nn tx ks ps) n (dp - x + 1) = zbk ks (n - 1) (dp - x) := fun h => by
      simp only [za9]; rw [if_neg h]; congr 1; omega
    refine tg [] rfl (by simp) ?_
    by_cases hs : n < 1 ∨ dp - x + 1 < 1
    · exfalso
      simp only [za9] at hw
      rw [if_pos hs] at hw
      omega
    have hs' : 1 ≤ n ∧ x ≤ dp := by omega
    refine zaw (fr := []) [(1, 1)] [] rfl (by simp) (ze9 n dp x (by omega) h1 (by omega)) ⟨⟨rfl, rfl, rfl⟩, trivial⟩ rfl rfl rfl rfl ?_
    refine tg [] rfl (by simp) ?_
    refine zag (fun y : Nat × Int => [(14, .imm (.int .i64 y.1)), (13, .imm (.int .i64 ks.length)), (12, .imm (.sl (zvu ks))), (0, .ref 1 0), (2, .imm (.int .i64 x))]) (fun y => [(1, some (zb0 y.2 dp))]) [2, 3, 4] (fun y => ks.length - y.1)
      (fun y => y.1 ≤ ks.length ∧ za9 (.mk op nn tx ks ps) n (dp - x + 1) = zbk (ks.drop y.1) y.2 (dp - x) ∧ 0 ≤ y.2 ∧ y.2 ≤ n) (0, n - 1) ⟨Nat.zero_le _, by simp only [List.drop_zero]; exact hst hs, by simp only; omega, by simp only; omega⟩ ⟨rfl, za2 (by simp), rfl, rfl, rfl, trivial⟩ ⟨rfl, trivial⟩ rfl fun y hi ih => ?_
    obtain ⟨i, m⟩ := y
    obtain ⟨hi1, hi2, hi3, hi4⟩ := hi
    simp only at hi1 hi2 hi3 hi4
    refine td [] rfl (by simp) ?_
    refine zaa rfl (fun h => ?_) (fun h => ?_)
    · simp at h
      obtain ⟨t, ht⟩ := zah h
      rw [zaj ht] at hi2
      simp only [zbk] at hi2
      rw [if_pos hi3] at hi2
      have hb := zhh t m (dp - x)
      have hx : IntKind.i64.wrap (x + 1) = x + 1 := w64 (by omega) (by omega)
      refine td [] rfl (by simp) ?_
      refine ti rfl (c := zd8 t) (fun _ => ⟨by simp, by simpa using zhz ht, by simp⟩) (by simp) ?_
      refine tg [] rfl (by simp) ?_
      have hdx : dp - (x + 1) + 1 = dp - x := by omega
      have hz : 0 ≤ za9 t m (dp - x) := by
        rw [hi2] at hw
        rcases Int.lt_or_le (za9 t m (dp - x)) 0 with hl | hl
        · exfalso
          have := zr2 (ks.drop (i + 1)) (za9 t m (dp - x)) (dp - x) hl
          omega
        · exact hl
      refine zaw (fr := []) [(1, 1)] [] rfl (by simp) (zjo t m dp (IntKind.i64.wrap (x + 1)) hi3 (by omega) hd0 hd1 (by omega) (by omega) (by rw [hx, hdx]; exact hz)) ⟨⟨rfl, rfl, rfl⟩, trivial⟩ rfl rfl rfl rfl ?_
      refine tg [] rfl (by simp) ?_
      exact zad (ih (i + 1, za9 t m (dp - x)) (by simp only; omega) ⟨by simp only; omega, hi2, by simp only; exact hz, by simp only; omega⟩) ⟨za2 (w64 (by omega) (by omega)), rfl, rfl, rfl, rfl, trivial⟩ ⟨congrArg (fun z => zb0 z dp) (by simp only [hx, hdx]), trivial⟩ rfl
    · refine td [] rfl (by simp) ?_
      simp at h
      refine zcw ⟨_, rfl, rfl, ⟨?_, trivial⟩⟩
      rw [List.drop_eq_nil_of_le (by omega)] at hi2
      simp only [zbk] at hi2
      rw [hi2]
      rfl
termination_by t => SizeOf.sizeOf t
decreasing_by
  all_goals
    have := List.sizeOf_lt_of_mem (List.mem_of_getElem? ht)
    simp_wf
    omega
set_option maxRecDepth 100000 in
theorem zxf : ∀ (t : Tm) (n dp x : Int), 0 ≤ n → n ≤ 4611686018427387904 → 0 ≤ dp → dp ≤ 1000000 → 0 ≤ x → x ≤ 1000001 → za9 t n (dp - x + 1) < 0 → zcm Tryz.prog 183 [.ref 1 0, .imm (.agg (zd8 t)), .imm (.int .i64 x)] [(1, some (zb0 n dp))] (.pan zgm)
  | .mk op nn tx ks ps, n, dp, x, h0, h1, hd0, hd1, hx0, hx1, hw => by
    refine zdn 1 rfl fun hok => ?_
    have hv : ks.length ≤ 9223372036854775807 := by
      simp [zdi, vOk, zd8, maxLen] at hok
      have := hok.1
      omega
    refine zae zat Tryz.func183 (by decide +kernel) rfl [2, 3, 4] rfl rfl ?_
    have hst : ¬ (n < 1 ∨ dp - x + 1 < 1) → za9 (.mk op nn tx ks ps) n (dp - x + 1) = zbk ks (n - 1) (dp - x) := fun h => by
      simp only [za9]; rw [if_neg h]; congr 1; omega
    refine tg [] rfl (by simp) ?_
    by_cases hs : n < 1 ∨ dp - x + 1 < 1
    · exact zai [(1, 1)] rfl (by simp) (zqc n dp x (by omega) h1 (by omega)) ⟨⟨rfl, rfl, rfl⟩, trivial⟩ rfl rfl
    have hs' : 1 ≤ n ∧ x ≤ dp := by omega
    refine zaw (fr := []) [(1, 1)] [] rfl (by simp) (ze9 n dp x (by omega) h1 (by omega)) ⟨⟨rfl, rfl, rfl⟩, trivial⟩ rfl rfl rfl rfl ?_
    refine tg [] rfl (by simp) ?_
    refine zag (fun y : Nat × Int => [(14, .imm (.int .i64 y.1)), (13, .imm (.int .i64 ks.length)), (12, .imm (.sl (zvu ks))), (0, .ref 1 0), (2, .imm (.int .i64 x))]) (fun y => [(1, some (zb0 y.2 dp))]) [2, 3, 4] (fun y => ks.length - y.1)
      (fun y => y.1 ≤ ks.length ∧ za9 (.mk op nn tx ks ps) n (dp - x + 1) = zbk (ks.drop y.1) y.2 (dp - x) ∧ 0 ≤ y.2 ∧ y.2 ≤ n) (0, n - 1) ⟨Nat.zero_le _, by simp only [List.drop_zero]; exact hst hs, by simp only; omega, by simp only; omega⟩ ⟨rfl, za2 (by simp), rfl, rfl, rfl, trivial⟩ ⟨rfl, trivial⟩ rfl fun y hi ih => ?_
    obtain ⟨i, m⟩ := y
    obtain ⟨hi1, hi2, hi3, hi4⟩ := hi
    simp only at hi1 hi2 hi3 hi4
    refine td [] rfl (by simp) ?_
    refine zaa rfl (fun h => ?_) (fun h => ?_)
    · simp at h
      obtain ⟨t, ht⟩ := zah h
      rw [zaj ht] at hi2
      simp only [zbk] at hi2
      rw [if_pos hi3] at hi2
      have hb := zhh t m (dp - x)
      have hx : IntKind.i64.wrap (x + 1) = x + 1 := w64 (by omega) (by omega)
      refine td [] rfl (by simp) ?_
      refine ti rfl (c := zd8 t) (fun _ => ⟨by simp, by simpa using zhz ht, by simp⟩) (by simp) ?_
      refine tg [] rfl (by simp) ?_
      have hdx : dp - (x + 1) + 1 = dp - x := by omega
      by_cases hz : 0 ≤ za9 t m (dp - x)
      · refine zaw (fr := []) [(1, 1)] [] rfl (by simp) (zjo t m dp (IntKind.i64.wrap (x + 1)) hi3 (by omega) hd0 hd1 (by omega) (by omega) (by rw [hx, hdx]; exact hz)) ⟨⟨rfl, rfl, rfl⟩, trivial⟩ rfl rfl rfl rfl ?_
        refine tg [] rfl (by simp) ?_
        exact zad (ih (i + 1, za9 t m (dp - x)) (by simp only; omega) ⟨by simp only; omega, hi2, by simp only; exact hz, by simp only; omega⟩) ⟨za2 (w64 (by omega) (by omega)), rfl, rfl, rfl, rfl, trivial⟩ ⟨congrArg (fun z => zb0 z dp) (by simp only [hx, hdx]), trivial⟩ rfl
      · exact zai [(1, 1)] rfl (by simp) (zxf t m dp (IntKind.i64.wrap (x + 1)) hi3 (by omega) hd0 hd1 (by omega) (by omega) (by rw [hx, hdx]; omega)) ⟨⟨rfl, rfl, rfl⟩, trivial⟩ rfl rfl
    · exfalso
      simp at h
      rw [List.drop_eq_nil_of_le (by omega)] at hi2
      simp only [zbk] at hi2
      omega
termination_by t => SizeOf.sizeOf t
decreasing_by
  all_goals
    have := List.sizeOf_lt_of_mem (List.mem_of_getElem? ht)
    simp_wf
    omega
theorem zzs {s : Str} {pos : Nat} {c : UInt8} (h : s[pos]? = some c) (hc : c.toNat < 128) : zc3 s pos = (c.toNat, 1) := by
  have hg : (ByteArray.mk s.toArray).get! pos = c := by simp [ByteArray.get!, h]
  simp only [zc3, Utf8.decode, Nat.add_zero, hg]
  rw [if_pos hc]
theorem zvq {s : Str} {pos : Nat} {c : UInt8} (h : s[pos]? = some c) (hc : 128 ≤ c.toNat) : 128 ≤ (zc3 s pos).1 := by
  have hg : (ByteArray.mk s.toArray).get! pos = c := by simp [ByteArray.get!, h]
  simp only [zc3, Utf8.decode, Nat.add_zero, hg, Utf8.runeError]
  rw [if_neg (by omega)]
  repeat' split
  all_goals first | (simp only; omega) | decide | (simp only [Bool.and_eq_true, decide_eq_true_eq] at *; omega)
set_option maxRecDepth 100000 in
theorem zr9 (s : Str) : PureC Tryz.prog 166 [.str s] (.bool (zeb s)) := by
  refine zae zat Tryz.func166 (by decide +kernel) rfl [1, 2] rfl rfl ?_
  refine tg [] rfl (by simp) ?_
  refine yf7 zat rfl ?_
  refine tg [] rfl (by simp) ?_
  refine zag (fun i : Nat => [(6, .iter 1)]) (fun i => [(1, some (.siter s i))]) [2] (fun i => s.length - i) (fun i => i ≤ s.length ∧ zeb s = zeb (s.drop i)) 0
    ⟨Nat.zero_le _, rfl⟩ ⟨rfl, trivial⟩ ⟨rfl, trivial⟩ rfl fun i hi ih => ?_
  refine td [] rfl (by simp) ?_
  by_cases hl : i < s.length
  · obtain ⟨c, hc⟩ := zah hl
    have e := hi.2
    rw [zmp hc] at e
    by_cases hlow : c.toNat < 128
    · refine ycm rfl hl (zzs hc hlow) ?_
      refine tg [.a] rfl (by simp) ?_
      refine zaa rfl (fun h => ?_) (fun h => ?_)
      · refine td [] rfl (by simp) ?_
        refine zab ⟨_, rfl, tV (congrArg _ ?_), trivial⟩
        rw [e]; simp at h; simp [UInt8.le_iff_toNat_le]; omega
      · refine td [] rfl (by simp) ?_
        refine zad (ih (i + 1) (by omega) ⟨by omega, ?_⟩) ⟨rfl, trivial⟩ ⟨rfl, trivial⟩ rfl
        rw [e]; simp at h; simp [UInt8.le_iff_toNat_le]; omega
    · refine ycm (dc := zc3 s i) rfl hl rfl ?_
      have hh := zvq hc (by omega)
      refine tg [.a] rfl (by simp) ?_
      refine zaa rfl (fun h => ?_) (fun h => ?_)
      · refine td [] rfl (by simp) ?_
        refine zab ⟨_, rfl, tV (congrArg _ ?_), trivial⟩
        rw [e]; simp [UInt8.le_iff_toNat_le]; omega
      · exfalso
        simp at h
        omega
  · refine yi3 rfl (by omega) ?_
    refine tg [.a] rfl (by simp) ?_
    refine zab ⟨_, rfl, tV (congrArg _ ?_), trivial⟩
    rw [hi.2, List.drop_eq_nil_of_le (by omega)]; rfl
set_option maxRecDepth 100000 in
theorem zys (s : Str) (h : yfx s = false) : PureC Tryz.prog 167 [.str s] (.bool false) := by
  simp only [yfx, zg6, zlp, Bool.or_eq_false_iff] at h
  refine zae zat Tryz.func167 (by decide +kernel) rfl [1, 2] rfl rfl ?_
  refine tg [.f, .f, .f, .f, .f, .f, .f, .f, .f, .f, .f, .f, .f, .f, .f, .f, .f, .f, .f, .f, .f, .f, .f, .f, .f, .f, .f, .f, .f] rfl (by simp at h; simp; grind) ?_
  exact zab ⟨_, rfl, tV rfl, trivial⟩
set_option maxRecDepth 100000 in
theorem yca : PureC Tryz.prog 167 [.str [98, 111, 111, 108]] (.bool true) := by
  refine zae zat Tryz.func167 (by decide +kernel) rfl [1, 2] rfl rfl ?_
  refine tg [.a, .a] rfl (by simp) ?_
  exact zab ⟨_, rfl, tV rfl, trivial⟩
set_option maxRecDepth 100000 in
theorem yb9 : PureC Tryz.prog 167 [.str [99, 101, 108, 108]] (.bool true) := by
  refine zae zat Tryz.func167 (by decide +kernel) rfl [1, 2] rfl rfl ?_
  refine tg [.a, .a, .a] rfl (by simp) ?_
  exact zab ⟨_, rfl, tV rfl, trivial⟩
set_option maxRecDepth 100000 in
theorem yb8 : PureC Tryz.prog 167 [.str [99, 104, 97, 110]] (.bool true) := by
  refine zae zat Tryz.func167 (by decide +kernel) rfl [1, 2] rfl rfl ?_
  refine tg [.a, .a, .a, .a] rfl (by simp) ?_
  exact zab ⟨_, rfl, tV rfl, trivial⟩
set_option maxRecDepth 100000 in
theorem yb7 : PureC Tryz.prog 167 [.str [101, 108, 115, 101]] (.bool true) := by
  refine zae zat Tryz.func167 (by decide +kernel) rfl [1, 2] rfl rfl ?_
  refine tg [.a, .a, .a, .a, .a] rfl (by simp) ?_
  exact zab ⟨_, rfl, tV rfl, trivial⟩
set_option maxRecDepth 100000 in
theorem yb6 : PureC Tryz.prog 167 [.str [102, 97, 108, 115, 101]] (.bool true) := by
  refine zae zat Tryz.func167 (by decide +kernel) rfl [1, 2] rfl rfl ?_
  refine tg [.a, .a, .a, .a, .a, .a] rfl (by simp) ?_
  exact zab ⟨_, rfl, tV rfl, trivial⟩
set_option maxRecDepth 100000 in
theorem yb5 : PureC Tryz.prog 167 [.str [102, 117, 110]] (.bool true) := by
  refine zae zat Tryz.func167 (by decide +kernel) rfl [1, 2] rfl rfl ?_
  refine tg [.a, .a, .a, .a, .a, .a, .a] rfl (by simp) ?_
  exact zab ⟨_, rfl, tV rfl, trivial⟩
set_option maxRecDepth 100000 in
theorem yb4 : PureC Tryz.prog 167 [.str [103, 101, 116]] (.bool true) := by
  refine zae zat Tryz.func167 (by decide +kernel) rfl [1, 2] rfl rfl ?_
  refine tg [.a, .a, .a, .a, .a, .a, .a, .a] rfl (by simp) ?_
  exact zab ⟨_, rfl, tV rfl, trivial⟩
set_option maxRecDepth 100000 in
theorem yb3 : PureC Tryz.prog 167 [.str [105, 102]] (.bool true) := by
  refine zae zat Tryz.func167 (by decide +kernel) rfl [1, 2] rfl rfl ?_
  refine tg [.a, .a, .a, .a, .a, .a, .a, .a, .a] rfl (by simp) ?_
  exact zab ⟨_, rfl, tV rfl, trivial⟩
set_option maxRecDepth 100000 in
theorem yb2 : PureC Tryz.prog 167 [.str [105, 110]] (.bool true) := by
  refine zae zat Tryz.func167 (by decide +kernel) rfl [1, 2] rfl rfl ?_
  refine tg [.a, .a, .a, .a, .a, .a, .a, .a, .a, .a] rfl (by simp) ?_
  exact zab ⟨_, rfl, tV rfl, trivial⟩
set_option maxRecDepth 100000 in
theorem yb1 : PureC Tryz.prog 167 [.str [105, 110, 112, 117, 116]] (.bool true) := by
  refine zae zat Tryz.func167 (by decide +kernel) rfl [1, 2] rfl rfl ?_
  refine tg [.a, .a, .a, .a, .a, .a, .a, .a, .a, .a, .a] rfl (by simp) ?_
  exact zab ⟨_, rfl, tV rfl, trivial⟩
set_option maxRecDepth 100000 in
theorem zza : PureC Tryz.prog 167 [.str [105, 110, 116]] (.bool true) := by
  refine zae zat Tryz.func167 (by decide +kernel) rfl [1, 2] rfl rfl ?_
  refine tg [.a, .a, .a, .a, .a, .a, .a, .a, .a, .a, .a, .a] rfl (by simp) ?_
  exact zab ⟨_, rfl, tV rfl, trivial⟩
set_option maxRecDepth 100000 in
theorem zy9 : PureC Tryz.prog 167 [.str [106, 111, 105, 110]] (.bool true) := by
  refine zae zat Tryz.func167 (by decide +kernel) rfl [1, 2] rfl rfl ?_
  refine tg [.a, .a, .a, .a, .a, .a, .a, .a, .a, .a, .a, .a, .a] rfl (by simp) ?_
  exact zab ⟨_, rfl, tV rfl, trivial⟩
set_option maxRecDepth 100000 in
theorem zy8 : PureC Tryz.prog 167 [.str [108, 101, 116]] (.bool true) := by
  refine zae zat Tryz.func167 (by decide +kernel) rfl [1, 2] rfl rfl ?_
  refine tg [.a, .a, .a, .a, .a, .a, .a, .a, .a, .a, .a, .a, .a, .a] rfl (by simp) ?_
  exact zab ⟨_, rfl, tV rfl, trivial⟩
set_option maxRecDepth 100000 in
theorem zy7 : PureC Tryz.prog 167 [.str [109, 97, 116, 99, 104]] (.bool true) := by
  refine zae zat Tryz.func167 (by decide +kernel) rfl [1, 2] rfl rfl ?_
  refine tg [.a, .a, .a, .a, .a, .a, .a, .a, .a, .a, .a, .a, .a, .a, .a] rfl (by simp) ?_
  exact zab ⟨_, rfl, tV rfl, trivial⟩
set_option maxRecDepth 100000 in
theorem zy6 : PureC Tryz.prog 167 [.str [109, 111, 100, 117, 108, 101]] (.bool true) := by
  refine zae zat Tryz.func167 (by decide +kernel) rfl [1, 2] rfl rfl ?_
  refine tg [.a, .a, .a, .a, .a, .a, .a, .a, .a, .a, .a, .a, .a, .a, .a, .a] rfl (by simp) ?_
  exact zab ⟨_, rfl, tV rfl, trivial⟩
set_option maxRecDepth 100000 in
theorem zy5 : PureC Tryz.prog 167 [.str [111, 117, 116]] (.bool true) := by
  refine zae zat Tryz.func167 (by decide +kernel) rfl [1, 2] rfl rfl ?_
  refine tg [.a, .a, .a, .a, .a, .a, .a, .a, .a, .a, .a, .a, .a, .a, .a, .a, .a] rfl (by simp) ?_
  exact zab ⟨_, rfl, tV rfl, trivial⟩
set_option maxRecDepth 100000 in
theorem zy4 : PureC Tryz.prog 167 [.str [112, 97, 117, 115, 101]] (.bool true) := by
  refine zae zat Tryz.func167 (by decide +kernel) rfl [1, 2] rfl rfl ?_
  refine tg [.a, .a, .a, .a, .a, .a, .a, .a, .a, .a, .a, .a, .a, .a, .a, .a, .a, .a] rfl (by simp) ?_
  exact zab ⟨_, rfl, tV rfl, trivial⟩
set_option maxRecDepth 100000 in
theorem zy3 : PureC Tryz.prog 167 [.str [112, 117, 116]] (.bool true) := by
  refine zae zat Tryz.func167 (by decide +kernel) rfl [1, 2] rfl rfl ?_
  refine tg [.a, .a, .a, .a, .a, .a, .a, .a, .a, .a, .a, .a, .a, .a, .a, .a, .a, .a, .a] rfl (by simp) ?_
  exact zab ⟨_, rfl, tV rfl, trivial⟩
set_option maxRecDepth 100000 in
theorem zy2 : PureC Tryz.prog 167 [.str [114, 101, 115, 101, 116]] (.bool true) := by
  refine zae zat Tryz.func167 (by decide +kernel) rfl [1, 2] rfl rfl ?_
  refine tg [.a, .a, .a, .a, .a, .a, .a, .a, .a, .a, .a, .a, .a, .a, .a, .a, .a, .a, .a, .a] rfl (by simp) ?_
  exact zab ⟨_, rfl, tV rfl, trivial⟩
set_option maxRecDepth 100000 in
theorem zy1 : PureC Tryz.prog 167 [.str [115, 101, 110, 100]] (.bool true) := by
  refine zae zat Tryz.func167 (by decide +kernel) rfl [1, 2] rfl rfl ?_
  refine tg [.a, .a, .a, .a, .a, .a, .a, .a, .a, .a, .a, .a, .a, .a, .a, .a, .a, .a, .a, .a, .a] rfl (by simp) ?_
  exact zab ⟨_, rfl, tV rfl, trivial⟩
set_option maxRecDepth 100000 in
theorem zy0 : PureC Tryz.prog 167 [.str [115, 104, 105, 102, 116]] (.bool true) := by
  refine zae zat Tryz.func167 (by decide +kernel) rfl [1, 2] rfl rfl ?_
  refine tg [.a, .a, .a, .a, .a, .a, .a, .a, .a, .a, .a, .a, .a, .a, .a, .a, .a, .a, .a, .a, .a, .a] rfl (by simp) ?_
  exact zab ⟨_, rfl, tV rfl, trivial⟩
set_option maxRecDepth 100000 in
theorem zyz : PureC Tryz.prog 167 [.str [115, 112, 97, 119, 110]] (.bool true) := by
  refine zae zat Tryz.func167 (by decide +kernel) rfl [1, 2] rfl rfl ?_
  refine tg [.a, .a, .a, .a, .a, .a, .a, .a, .a, .a, .a, .a, .a, .a, .a, .a, .a, .a, .a, .a, .a, .a, .a] rfl (by simp) ?_
  exact zab ⟨_, rfl, tV rfl, trivial⟩
set_option maxRecDepth 100000 in
theorem zyy : PureC Tryz.prog 167 [.str [116, 97, 107, 101]] (.bool true) := by
  refine zae zat Tryz.func167 (by decide +kernel) rfl [1, 2] rfl rfl ?_
  refine tg [.a, .a, .a, .a, .a, .a, .a, .a, .a, .a, .a, .a, .a, .a, .a, .a, .a, .a, .a, .a, .a, .a, .a, .a] rfl (by simp) ?_
  exact zab ⟨_, rfl, tV rfl, trivial⟩
set_option maxRecDepth 100000 in
theorem zyx : PureC Tryz.prog 167 [.str [116, 97, 115, 107]] (.bool true) := by
  refine zae zat Tryz.func167 (by decide +kernel) rfl [1, 2] rfl rfl ?_
  refine tg [.a, .a, .a, .a, .a, .a, .a, .a, .a, .a, .a, .a, .a, .a, .a, .a, .a, .a, .a, .a, .a, .a, .a, .a, .a] rfl (by simp) ?_
  exact zab ⟨_, rfl, tV rfl, trivial⟩
set_option maxRecDepth 100000 in
theorem zyw : PureC Tryz.prog 167 [.str [116, 104, 101, 110]] (.bool true) := by
  refine zae zat Tryz.func167 (by decide +kernel) rfl [1, 2] rfl rfl ?_
  refine tg [.a, .a, .a, .a, .a, .a, .a, .a, .a, .a, .a, .a, .a, .a, .a, .a, .a, .a, .a, .a, .a, .a, .a, .a, .a, .a] rfl (by simp) ?_
  exact zab ⟨_, rfl, tV rfl, trivial⟩
set_option maxRecDepth 100000 in
theorem zyv : PureC Tryz.prog 167 [.str [116, 114, 117, 101]] (.bool true) := by
  refine zae zat Tryz.func167 (by decide +kernel) rfl [1, 2] rfl rfl ?_
  refine tg [.a, .a, .a, .a, .a, .a, .a, .a, .a, .a, .a, .a, .a, .a, .a, .a, .a, .a, .a, .a, .a, .a, .a, .a, .a, .a, .a] rfl (by simp) ?_
  exact zab ⟨_, rfl, tV rfl, trivial⟩
set_option maxRecDepth 100000 in
theorem zyu : PureC Tryz.prog 167 [.str [116, 121, 112, 101]] (.bool true) := by
  refine zae zat Tryz.func167 (by decide +kernel) rfl [1, 2] rfl rfl ?_
  refine tg [.a, .a, .a, .a, .a, .a, .a, .a, .a, .a, .a, .a, .a, .a, .a, .a, .a, .a, .a, .a, .a, .a, .a, .a, .a, .a, .a, .a] rfl (by simp) ?_
  exact zab ⟨_, rfl, tV rfl, trivial⟩
set_option maxRecDepth 100000 in
theorem zyt : PureC Tryz.prog 167 [.str [117, 110, 105, 116]] (.bool true) := by
  refine zae zat Tryz.func167 (by decide +kernel) rfl [1, 2] rfl rfl ?_
  refine tg [.a, .a, .a, .a, .a, .a, .a, .a, .a, .a, .a, .a, .a, .a, .a, .a, .a, .a, .a, .a, .a, .a, .a, .a, .a, .a, .a, .a, .a] rfl (by simp) ?_
  exact zab ⟨_, rfl, tV rfl, trivial⟩
set_option maxRecDepth 100000 in
theorem zyr (s : Str) : PureC Tryz.prog 167 [.str s] (.bool (yfx s)) := by
  cases h : yfx s with
  | false => exact zys s h
  | true =>
    simp only [yfx, zg6, zlp, Bool.or_eq_true, beq_iff_eq, Bool.or_false] at h
    rcases h with rfl | rfl | rfl | rfl | rfl | rfl | rfl | rfl | rfl | rfl | rfl | rfl | rfl | rfl | rfl | rfl | rfl | rfl | rfl | rfl | rfl | rfl | rfl | rfl | rfl | rfl | rfl | rfl
    · exact yca
    · exact yb9
    · exact yb8
    · exact yb7
    · exact yb6
    · exact yb5
    · exact yb4
    · exact yb3
    · exact yb2
    · exact yb1
    · exact zza
    · exact zy9
    · exact zy8
    · exact zy7
    · exact zy6
    · exact zy5
    · exact zy4
    · exact zy3
    · exact zy2
    · exact zy1
    · exact zy0
    · exact zyz
    · exact zyy
    · exact zyx
    · exact zyw
    · exact zyv
    · exact zyu
    · exact zyt
set_option maxRecDepth 100000 in
theorem zfp (s : Str) : PureC Tryz.prog 146 [.str s] (.bool (zfg s)) := by
  refine zae zat Tryz.func146 (by decide +kernel) rfl [1, 2] rfl rfl ?_
  refine tg [] rfl (by simp) ?_
  refine zac rfl (v := .bool (zeb s)) (fun h => zr9 s) (by simp [zal]) ?_
  refine tg [] rfl (by simp) ?_
  refine zac rfl (v := .bool (yfx s)) (fun h => zyr s) (by simp [zal]) ?_
  refine tg [] rfl (by simp) ?_
  refine zab ⟨_, rfl, tV (congrArg _ ?_), trivial⟩
  cases s with
  | nil => simp [zfg]
  | cons a r => simp [zfg]; norm_cast; simp
set_option maxRecDepth 100000 in
theorem zch (s : Str) : PureC Tryz.prog 157 [.str s] (.bool (zct s)) := by
  refine zae zat Tryz.func157 (by decide +kernel) rfl [1, 2] rfl rfl ?_
  refine tg [] rfl (by cases s with | nil => simp [zal] | cons a r => simp [zal]; omega) ?_
  refine zac rfl (v := .bool (zeb (s.drop 1))) (fun h => zr9 _) (by simp [zal]) ?_
  refine tg [] rfl (by simp) ?_
  refine zab ⟨_, rfl, tV (congrArg _ ?_), trivial⟩
  cases s with
  | nil => simp [zct]
  | cons a r => simp [zct, UInt8.le_iff_toNat_le, Bool.and_assoc]; norm_cast; simp
def zbx (n : Int) : Bool := decide (-1000000000 ≤ n) && decide (n ≤ 1000000000)
set_option maxRecDepth 100000 in
theorem zhu (n : Int) : PureC Tryz.prog 156 [.int .i64 n] (.bool (zbx n)) := by
  refine zae zat Tryz.func156 (by decide +kernel) rfl [1, 2] rfl rfl ?_
  refine tg [] rfl (by simp) ?_
  refine zab ⟨_, rfl, tV (congrArg _ ?_), trivial⟩
  simp [zbx]
def zj8 : D := .imm (.tup [])
set_option maxRecDepth 100000 in
theorem zj9 (holes : Bool) : ∀ (t : Ty), zca holes t = true → zcm Tryz.prog 152 [.imm (.agg (dTyc t)), .imm (.bool holes)] [] (.ret zj8 [])
  | .mk s n x ps, hy => by
    refine zdn 0 rfl fun hok => ?_
    have hv : ps.length ≤ 9223372036854775807 := by
      simp [zdi, vOk, dTyc, maxLen] at hok
      have := hok.1
      omega
    simp only [zca, Bool.and_eq_true_iff] at hy
    refine zae zat Tryz.func152 (by decide +kernel) rfl [1, 2, 3] rfl rfl ?_
    have J : ∀ p : Nat, zby holes s n x ps.length = (((ps.length : Int) == (p : Int)) && (s == 9 || n == 0) && (s == 8 || x == [])) → DGo Tryz.prog Tryz.f152.ntmps (nms []) (yed ttT Tryz.f152.results.toList (.ret zj8 []))
        [.code (zol Tryz.f152 3)] [(4, .imm (.int .i64 p)), (1, .imm (.bool holes)), (2, .ref 1 0)] [(1, some (.immb 26 4 (dTyc (.mk s n x ps))))] [2, 3] := by
      intro p hp
      have hc : (((ps.length : Int) == (p : Int)) && (s == 9 || n == 0) && (s == 8 || x == [])) = true := by rw [← hp]; exact hy.1
      refine td [] rfl (by simp [zal]; grind) ?_
      refine zac rfl (fun _ => za4 _ ?_) (by simp) ?_
      · simp at hc ⊢; grind
      refine tg [] rfl (by simp) ?_
      refine zag (fun i : Nat => [(69, .imm (.int .i64 i)), (68, .imm (.int .i64 ps.length)), (67, .imm (.sl (zez ps))), (1, .imm (.bool holes)), (2, .ref 1 0)]) (fun _ => [(1, some (.immb 26 4 (dTyc (.mk s n x ps))))]) [2, 3] (fun i => ps.length - i)
        (fun i => i ≤ ps.length ∧ zb6 holes (ps.drop i) = true) 0 ⟨Nat.zero_le _, hy.2⟩ ⟨rfl, za2 (by simp), rfl, rfl, rfl, trivial⟩ ⟨rfl, trivial⟩ rfl fun i hi ih => ?_
      refine td [] rfl (by simp) ?_
      have hi2 := hi.2
      refine zaa rfl (fun h => ?_) (fun h => ?_)
      · simp at h
        obtain ⟨t, ht⟩ := zah h
        rw [zaj ht] at hi2
        simp only [zb6, Bool.and_eq_true_iff] at hi2
        refine td [] rfl (by simp) ?_
        refine ti rfl (c := dTyc t) (fun _ => ⟨by simp, by simpa using zan ht, by simp⟩) (by simp) ?_
        refine tg [] rfl (by simp) ?_
        refine zaw (fr := []) [] [] rfl (by simp) (zj9 holes t hi2.1) trivial rfl rfl rfl rfl ?_
        refine tg [] rfl (by simp) ?_
        exact zad (ih (i + 1) (by omega) ⟨by omega, hi2.2⟩) ⟨za2 (w64 (by omega) (by omega)), rfl, rfl, rfl, rfl, trivial⟩ ⟨rfl, trivial⟩ rfl
      · refine td [] rfl (by simp) ?_
        exact zcw ⟨_, rfl, rfl, trivial⟩
    by_cases h1 : s = 1
    · subst h1
      refine tg [.a, .a, .s] rfl (by simp) ?_
      exact zad (J 0 (by simp [zby])) ⟨rfl, rfl, rfl, trivial⟩ ⟨rfl, trivial⟩ rfl
    by_cases h2 : s = 2
    · subst h2
      refine tg [.a, .a, .a, .s] rfl (by simp) ?_
      exact zad (J 0 (by simp [zby])) ⟨rfl, rfl, rfl, trivial⟩ ⟨rfl, trivial⟩ rfl
    by_cases h3 : s = 3
    · subst h3
      refine tg [.a, .a, .a, .s] rfl (by simp) ?_
      exact zad (J 0 (by simp [zby])) ⟨rfl, rfl, rfl, trivial⟩ ⟨rfl, trivial⟩ rfl
    by_cases h4 : s = 4
    · subst h4
      refine tg [.a, .a, .a, .a, .s] rfl (by simp) ?_
      exact zad (J 2 (by simp [zby])) ⟨rfl, rfl, rfl, trivial⟩ ⟨rfl, trivial⟩ rfl
    by_cases h5 : s = 5
    · subst h5
      refine tg [.a, .a, .a, .a, .a, .a, .s] rfl (by simp) ?_
      exact zad (J 1 (by simp [zby])) ⟨rfl, rfl, rfl, trivial⟩ ⟨rfl, trivial⟩ rfl
    by_cases h6 : s = 6
    · subst h6
      refine tg [.a, .a, .a, .a, .a, .a, .a, .s] rfl (by simp) ?_
      exact zad (J 1 (by simp [zby])) ⟨rfl, rfl, rfl, trivial⟩ ⟨rfl, trivial⟩ rfl
    by_cases h7 : s = 7
    · subst h7
      refine tg [.a, .a, .a, .a, .a, .a, .a, .s] rfl (by simp) ?_
      exact zad (J 1 (by simp [zby])) ⟨rfl, rfl, rfl, trivial⟩ ⟨rfl, trivial⟩ rfl
    by_cases h8 : s = 8
    · subst h8
      by_cases hg : zct x = true
      · refine tg [.a, .a, .a, .a, .a, .a, .a, .a] rfl (by simp [zal]) ?_
        refine zac rfl (fun _ => zch x) (by simp) ?_
        refine tg [] rfl (by simp) ?_
        refine zac rfl (fun _ => za4 _ hg) (by simp) ?_
        refine tg [.s] rfl (by simp) ?_
        exact zad (J 0 (by simp [zby, hg])) ⟨rfl, rfl, rfl, trivial⟩ ⟨rfl, trivial⟩ rfl
      · exfalso
        have := hy.1
        simp [zby] at this
        simp at hg
        grind
    by_cases h9 : s = 9
    · subst h9
      by_cases hg : (holes && inI n 0 99) = true
      · refine tg [.a, .a, .a, .a, .a, .a, .a, .a, .a] rfl (by simp [zal]) ?_
        refine zac rfl (fun _ => za4 _ (by simp [inI] at hg ⊢; grind)) (by simp) ?_
        refine tg [.s] rfl (by simp) ?_
        exact zad (J 0 (by simp [zby, inI] at hg ⊢; grind)) ⟨rfl, rfl, rfl, trivial⟩ ⟨rfl, trivial⟩ rfl
      · exfalso
        have := hy.1
        simp [zby] at this
        simp at hg
        grind
    exfalso
    have := hy.1
    simp [zby, h1, h2, h3, h4, h5, h6, h7, h8, h9] at this
termination_by t => SizeOf.sizeOf t
decreasing_by
  all_goals
    have := List.sizeOf_lt_of_mem (List.mem_of_getElem? ht)
    simp_wf
    omega
set_option maxRecDepth 100000 in
theorem zr8 (holes : Bool) : ∀ (t : Ty), zca holes t = false → zcm Tryz.prog 152 [.imm (.agg (dTyc t)), .imm (.bool holes)] [] (.pan zgm)
  | .mk s n x ps, hy => by
    refine zdn 0 rfl fun hok => ?_
    have hv : ps.length ≤ 9223372036854775807 := by
      simp [zdi, vOk, dTyc, maxLen] at hok
      have := hok.1
      omega
    simp only [zca, Bool.and_eq_false_iff] at hy
    refine zae zat Tryz.func152 (by decide +kernel) rfl [1, 2, 3] rfl rfl ?_
    have J : ∀ p : Nat, zby holes s n x ps.length = (((ps.length : Int) == (p : Int)) && (s == 9 || n == 0) && (s == 8 || x == [])) → DGo Tryz.prog Tryz.f152.ntmps (nms []) (yed ttT Tryz.f152.results.toList (.pan zgm))
        [.code (zol Tryz.f152 3)] [(4, .imm (.int .i64 p)), (1, .imm (.bool holes)), (2, .ref 1 0)] [(1, some (.immb 26 4 (dTyc (.mk s n x ps))))] [2, 3] := by
      intro p hp
      by_cases hc : (((ps.length : Int) == (p : Int)) && (s == 9 || n == 0) && (s == 8 || x == [])) = true
      rotate_left
      · refine td [] rfl (by simp [zal]; grind) ?_
        exact zai [] rfl (by simp) (zbl _ (by simp at hc ⊢; grind)) trivial rfl rfl
      rw [hp, hc] at hy
      simp only [Bool.true_eq_false, false_or] at hy
      refine td [] rfl (by simp [zal]; grind) ?_
      refine zac rfl (fun _ => za4 _ ?_) (by simp) ?_
      · simp at hc ⊢; grind
      refine tg [] rfl (by simp) ?_
      refine zag (fun i : Nat => [(69, .imm (.int .i64 i)), (68, .imm (.int .i64 ps.length)), (67, .imm (.sl (zez ps))), (1, .imm (.bool holes)), (2, .ref 1 0)]) (fun _ => [(1, some (.immb 26 4 (dTyc (.mk s n x ps))))]) [2, 3] (fun i => ps.length - i)
        (fun i => i ≤ ps.length ∧ zb6 holes (ps.drop i) = false) 0 ⟨Nat.zero_le _, hy⟩ ⟨rfl, za2 (by simp), rfl, rfl, rfl, trivial⟩ ⟨rfl, trivial⟩ rfl fun i hi ih => ?_
      refine td [] rfl (by simp) ?_
      have hi2 := hi.2
      refine zaa rfl (fun h => ?_) (fun h => ?_)
      · simp at h
        obtain ⟨t, ht⟩ := zah h
        rw [zaj ht] at hi2
        simp only [zb6, Bool.and_eq_false_iff] at hi2
        refine td [] rfl (by simp) ?_
        refine ti rfl (c := dTyc t) (fun _ => ⟨by simp, by simpa using zan ht, by simp⟩) (by simp) ?_
        refine tg [] rfl (by simp) ?_
        by_cases hz : zca holes t = true
        · refine zaw (fr := []) [] [] rfl (by simp) (zj9 holes t hz) trivial rfl rfl rfl rfl ?_
          refine tg [] rfl (by simp) ?_
          exact zad (ih (i + 1) (by omega) ⟨by omega, by rw [hz] at hi2; simpa using hi2⟩) ⟨za2 (w64 (by omega) (by omega)), rfl, rfl, rfl, rfl, trivial⟩ ⟨rfl, trivial⟩ rfl
        · exact zai [] rfl (by simp) (zr8 holes t (by simpa using hz)) trivial rfl rfl
      · exfalso
        simp at h
        rw [List.drop_eq_nil_of_le (by omega)] at hi2
        simp [zb6] at hi2
    by_cases h1 : s = 1
    · subst h1
      refine tg [.a, .a, .s] rfl (by simp) ?_
      exact zad (J 0 (by simp [zby])) ⟨rfl, rfl, rfl, trivial⟩ ⟨rfl, trivial⟩ rfl
    by_cases h2 : s = 2
    · subst h2
      refine tg [.a, .a, .a, .s] rfl (by simp) ?_
      exact zad (J 0 (by simp [zby])) ⟨rfl, rfl, rfl, trivial⟩ ⟨rfl, trivial⟩ rfl
    by_cases h3 : s = 3
    · subst h3
      refine tg [.a, .a, .a, .s] rfl (by simp) ?_
      exact zad (J 0 (by simp [zby])) ⟨rfl, rfl, rfl, trivial⟩ ⟨rfl, trivial⟩ rfl
    by_cases h4 : s = 4
    · subst h4
      refine tg [.a, .a, .a, .a, .s] rfl (by simp) ?_
      exact zad (J 2 (by simp [zby])) ⟨rfl, rfl, rfl, trivial⟩ ⟨rfl, trivial⟩ rfl
    by_cases h5 : s = 5
    · subst h5
      refine tg [.a, .a, .a, .a, .a, .a, .s] rfl (by simp) ?_
      exact zad (J 1 (by simp [zby])) ⟨rfl, rfl, rfl, trivial⟩ ⟨rfl, trivial⟩ rfl
    by_cases h6 : s = 6
    · subst h6
      refine tg [.a, .a, .a, .a, .a, .a, .a, .s] rfl (by simp) ?_
      exact zad (J 1 (by simp [zby])) ⟨rfl, rfl, rfl, trivial⟩ ⟨rfl, trivial⟩ rfl
    by_cases h7 : s = 7
    · subst h7
      refine tg [.a, .a, .a, .a, .a, .a, .a, .s] rfl (by simp) ?_
      exact zad (J 1 (by simp [zby])) ⟨rfl, rfl, rfl, trivial⟩ ⟨rfl, trivial⟩ rfl
    by_cases h8 : s = 8
    · subst h8
      by_cases hg : zct x = true
      · refine tg [.a, .a, .a, .a, .a, .a, .a, .a] rfl (by simp [zal]) ?_
        refine zac rfl (fun _ => zch x) (by simp) ?_
        refine tg [] rfl (by simp) ?_
        refine zac rfl (fun _ => za4 _ hg) (by simp) ?_
        refine tg [.s] rfl (by simp) ?_
        exact zad (J 0 (by simp [zby, hg])) ⟨rfl, rfl, rfl, trivial⟩ ⟨rfl, trivial⟩ rfl
      · refine tg [.a, .a, .a, .a, .a, .a, .a, .a] rfl (by simp [zal]) ?_
        refine zac rfl (fun _ => zch x) (by simp) ?_
        refine tg [] rfl (by simp) ?_
        exact zai [] rfl (by simp) (zbl _ (by simpa using hg)) trivial rfl rfl
    by_cases h9 : s = 9
    · subst h9
      by_cases hg : (holes && inI n 0 99) = true
      · refine tg [.a, .a, .a, .a, .a, .a, .a, .a, .a] rfl (by simp [zal]) ?_
        refine zac rfl (fun _ => za4 _ (by simp [inI] at hg ⊢; grind)) (by simp) ?_
        refine tg [.s] rfl (by simp) ?_
        exact zad (J 0 (by simp [zby, inI] at hg ⊢; grind)) ⟨rfl, rfl, rfl, trivial⟩ ⟨rfl, trivial⟩ rfl
      · refine tg [.a, .a, .a, .a, .a, .a, .a, .a, .a] rfl (by simp [zal]) ?_
        exact zai [] rfl (by simp) (zbl _ (by simp [inI] at hg ⊢; grind)) trivial rfl rfl
    refine tg [.f, .f, .f, .f, .f, .f, .f, .f, .f] rfl (by simp [h1, h2, h3, h4, h5, h6, h7, h8, h9]) ?_
    exact zai [] rfl (by simp) (zbl _ rfl) trivial rfl rfl
termination_by t => SizeOf.sizeOf t
decreasing_by
  all_goals
    have := List.sizeOf_lt_of_mem (List.mem_of_getElem? ht)
    simp_wf
    omega
theorem hmf : ∀ (fn : Fn) (first cap : Array Value) (w : World), (Instr.makeFunc fn first cap).run Tryz.prog w = .ok (.func fn first cap) w := fun _ _ _ _ => rfl
theorem zu3 (p : Addr) (w : World) :
    CallsD Tryz.prog 175 #[.pointer (some p)] .returning w fun e u' w' => e = .returned (.tuple #[]) ∧ u' = .returning ∧ w' = w := by
  refine callsD_of_wpS Tryz.func175 rfl fun c₀ cs hu => ?_
  apply wpS_seq
  apply wpS_region
  simp [wpOpsS, go_sem, recoverD, hu, Tryz.ntmps175, Exit.thenS]
  apply wpS_seq
  apply wpS_region
  simp [wpOpsS, go_sem, Exit.thenS]
  refine wpS_cond (t := false) (by simp [Act.eval, Array.replicate]) ?_
  simp only [if_false, Bool.false_eq_true]
  refine wpS_of_wp (wp_skip ?_)
  cases c₀
  simp_all [bodyPostS, results, Tryz.results175]
set_option maxRecDepth 100000 in
theorem zu4 (pb : Nat) (x : Value) (w : World) (hpb : pb < w.heap.size) (hx : w.cell? ⟨pb, 0, none⟩ = some x) (hz : w.frozen? ⟨pb, 0, none⟩ = false) :
    CallsD Tryz.prog 175 #[.pointer (some ⟨pb, 0, none⟩)] (.panicking [{ v := .iface 239 (.agg #[]), recovered := false }]) w fun e u' w' => e = .returned (.tuple #[]) ∧
      u' = .panicking [{ v := .iface 239 (.agg #[]), recovered := true }] ∧ w' = (w.setCell ⟨pb, 0, none⟩ (.bool false)).alloc (.cells #[] 239) := by
  refine callsD_of_wpS Tryz.func175 rfl fun c₀ cs hu => ?_
  change Code.wpS _ _ _ { tmps := #[.pointer (some ⟨pb, 0, none⟩), undef, undef, undef, undef, undef, undef, undef, undef, undef, undef, undef, undef, undef, undef], defers := [] } _ _
  apply wpS_seq
  apply wpS_region
  simp [wpOpsS, go_sem, recoverD, hu, Tryz.ntmps175, Exit.thenS]
  apply wpS_seq
  apply wpS_region
  simp [wpOpsS, go_sem, Exit.thenS]
  refine wpS_cond (t := true) (by simp [Act.eval, Array.replicate]) ?_
  simp only [if_true]
  refine wpS_of_wp ?_
  clear hu
  have hta : ∀ w : World, (Instr.typeAssert (.iface 239 (.agg #[])) 20 239 true).run Tryz.prog w = .ok (.tuple #[.agg #[], .bool true]) w := fun _ => by kernel_rfl
  have hx' : (w.alloc (.cells #[] 239)).cell? ⟨pb, 0, none⟩ = some x := by rw [World.cell?_alloc_past _ _ _ hpb]; exact hx
  have hz' : (w.alloc (.cells #[] 239)).frozen? ⟨pb, 0, none⟩ = false := by rw [RowKit.frozen?_alloc_cells]; exact hz
  go_wp2
  simp [bodyPostS, results, Tryz.results175]
set_option maxRecDepth 100000 in
theorem zu1 (g : FuncId) (fi ca : Array Value) (w : World) (K : World → Prop) (Kp : World → Prop)
    (hen : (callFunc g (fi ++ ca)).run Tryz.prog (w.alloc (.cells #[.bool false] 4)) = .ok (.enter g (fi ++ ca)) (w.alloc (.cells #[.bool false] 4)))
    (hcall : Calls Tryz.prog g (fi ++ ca) (w.alloc (.cells #[.bool false] 4)) fun e w' => match e with
      | .returned _ => K w'
      | .panicked chain => chain = [{ v := .iface 239 (.agg #[]), recovered := false }] ∧ Kp w'
      | .outgrown => False)
    (hK : ∀ w', K w' → w'.heap[w.heap.size]? = some (.cells #[.bool false] 4 (0, 0))) (hKp : ∀ w', Kp w' → w'.heap[w.heap.size]? = some (.cells #[.bool false] 4 (0, 0))) :
    Calls Tryz.prog 153 #[.func (.func g) fi ca] w fun e w' => (e = .returned (.bool true) ∧ ∃ w1, K w1 ∧ w' = w1.setCell ⟨w.heap.size, 0, none⟩ (.bool true)) ∨
      (e = .returned (.bool false) ∧ ∃ w1, Kp w1 ∧ w' = (w1.setCell ⟨w.heap.size, 0, none⟩ (.bool false)).alloc (.cells #[] 239)) := by
  go_enter_defers Tryz.func153, Tryz.ntmps153
  have hmf := hmf
  go_wp2_with fail
  clear hen
  refine hcall.mono ?_
  intro e w' he
  cases e with
  | outgrown => exact he.elim
  | returned v =>
    have hc : w'.cell? ⟨w.heap.size, 0, none⟩ = some (.bool false) := by unfold World.cell?; simp [hK w' he]
    have hz : w'.frozen? ⟨w.heap.size, 0, none⟩ = false := by unfold World.frozen?; simp [hK w' he]
    simp only
    go_wp2
    refine leaves_cons (f := 175) (args := #[.pointer (some ⟨w.heap.size, 0, none⟩)]) (by simp) (by simp [go_sem]) ?_
    refine (zu3 ⟨w.heap.size, 0, none⟩ _).mono ?_
    rintro e u' w'' ⟨rfl, rfl, rfl⟩
    simp [Leaves, settle, results, Tryz.results153, go_sem, hc]
    exact ⟨w', he, rfl⟩
  | panicked chain =>
    obtain ⟨rfl, he⟩ := he
    have hc : w'.cell? ⟨w.heap.size, 0, none⟩ = some (.bool false) := by unfold World.cell?; simp [hKp w' he]
    have hz : w'.frozen? ⟨w.heap.size, 0, none⟩ = false := by unfold World.frozen?; simp [hKp w' he]
    have hlt : w.heap.size < w'.heap.size := (Array.getElem?_eq_some_iff.1 (hKp w' he)).1
    refine leaves_cons (f := 175) (args := #[.pointer (some ⟨w.heap.size, 0, none⟩)]) (by simp) (by simp [go_sem]) ?_
    refine (zu4 w.heap.size _ _ hlt hc hz).mono ?_
    rintro e u' w'' ⟨rfl, rfl, rfl⟩
    have hc2 : ((w'.setCell ⟨w.heap.size, 0, none⟩ (.bool false)).alloc (.cells #[] 239)).cell? ⟨w.heap.size, 0, none⟩ = some (.bool false) := by
      rw [setCell_block (hKp w' he), World.cell?_alloc_past _ _ _ (by simpa using hlt)]
      unfold World.cell?
      simp [hlt]
    simp [Leaves, settle, results, Tryz.results153, go_sem, hc2]
    exact ⟨w', he, rfl⟩
theorem holds_spec : HoldsSpec Tryz.prog 153 239 4 := fun g fi ca w K Kp h1 h2 h3 h4 => zu1 g fi ca w K Kp h1 h2 h3 h4
set_option maxRecDepth 100000 in
theorem zli {g : FuncId} {fg : Func} {cg : Code} (hg : Tryz.prog.funcs[g]? = some fg) (hn : (fg.name == "runtime.NumGoroutine") = false) (hc : fg.body = some cg) {t1 : TypeId} {s1 : Nat} {x1 y1 : List V} (hE : zcm Tryz.prog g [.ref 1 0] [(1, some (.immb t1 s1 x1))] (.ret zj8 [(1, some (.immb t1 s1 y1))])) :
    zcm Tryz.prog 121 [.fn (.func g) [] [.ref 1 0]] [(1, some (.immb t1 s1 x1))] (.ret (.imm (.int .i64 0)) [(1, some (.immb t1 s1 y1))]) := by
  refine zae zat Tryz.func121 (by decide +kernel) rfl [2, 3, 4] rfl rfl ?_
  refine tg [] rfl (by simp) ?_
  refine zaw (fr := []) [(1, 1)] [] rfl (by simp) (zs7 Tryz.func153 (by decide +kernel) rfl holds_spec hg hn hc hE) ⟨⟨rfl, rfl, rfl⟩, trivial⟩ rfl rfl rfl rfl ?_
  refine tg [.a] rfl (by simp) ?_
  exact zab ⟨_, rfl, tV rfl, ⟨rfl, trivial⟩⟩
set_option maxRecDepth 100000 in
theorem zn4 {g : FuncId} {fg : Func} {cg : Code} (hg : Tryz.prog.funcs[g]? = some fg) (hn : (fg.name == "runtime.NumGoroutine") = false) (hc : fg.body = some cg) {t1 : TypeId} {s1 : Nat} {x1 : List V} (hE : zcm Tryz.prog g [.ref 1 0] [(1, some (.immb t1 s1 x1))] (.pan zgm)) :
    zcm Tryz.prog 121 [.fn (.func g) [] [.ref 1 0]] [(1, some (.immb t1 s1 x1))] (.ret (.imm (.int .i64 2)) []) := by
  refine zae zat Tryz.func121 (by decide +kernel) rfl [2, 3, 4] rfl rfl ?_
  refine tg [] rfl (by simp) ?_
  refine zaw (fr := []) [(1, 1)] [] rfl (by simp) (zxd Tryz.func153 (by decide +kernel) rfl holds_spec hg hn hc hE) ⟨⟨rfl, rfl, rfl⟩, trivial⟩ rfl rfl rfl rfl ?_
  refine tg [.a] rfl (by simp) ?_
  exact zab ⟨_, rfl, tV rfl, trivial⟩
set_option maxRecDepth 100000 in
theorem ztt {g : FuncId} {fg : Func} {cg : Code} (hg : Tryz.prog.funcs[g]? = some fg) (hn : (fg.name == "runtime.NumGoroutine") = false) (hc : fg.body = some cg) {t1 t2 : TypeId} {s1 s2 : Nat} {x1 x2 y1 y2 : List V} (hE : zcm Tryz.prog g [.ref 1 0, .ref 2 0] [(1, some (.immb t1 s1 x1)), (2, some (.immb t2 s2 x2))] (.ret zj8 [(1, some (.immb t1 s1 y1)), (2, some (.immb t2 s2 y2))])) :
    zcm Tryz.prog 121 [.fn (.func g) [] [.ref 1 0, .ref 2 0]] [(1, some (.immb t1 s1 x1)), (2, some (.immb t2 s2 x2))] (.ret (.imm (.int .i64 0)) [(1, some (.immb t1 s1 y1)), (2, some (.immb t2 s2 y2))]) := by
  refine zae zat Tryz.func121 (by decide +kernel) rfl [3, 4, 5] rfl rfl ?_
  refine tg [] rfl (by simp) ?_
  refine zaw (fr := []) [(1, 1), (2, 2)] [] rfl (by simp) (zs7 Tryz.func153 (by decide +kernel) rfl holds_spec hg hn hc hE) ⟨⟨rfl, rfl, rfl⟩, ⟨⟨rfl, rfl, rfl⟩, trivial⟩⟩ rfl rfl rfl rfl ?_
  refine tg [.a] rfl (by simp) ?_
  exact zab ⟨_, rfl, tV rfl, ⟨rfl, ⟨rfl, trivial⟩⟩⟩
set_option maxRecDepth 100000 in
theorem zvw {g : FuncId} {fg : Func} {cg : Code} (hg : Tryz.prog.funcs[g]? = some fg) (hn : (fg.name == "runtime.NumGoroutine") = false) (hc : fg.body = some cg) {t1 t2 : TypeId} {s1 s2 : Nat} {x1 x2 : List V} (hE : zcm Tryz.prog g [.ref 1 0, .ref 2 0] [(1, some (.immb t1 s1 x1)), (2, some (.immb t2 s2 x2))] (.pan zgm)) :
    zcm Tryz.prog 121 [.fn (.func g) [] [.ref 1 0, .ref 2 0]] [(1, some (.immb t1 s1 x1)), (2, some (.immb t2 s2 x2))] (.ret (.imm (.int .i64 2)) []) := by
  refine zae zat Tryz.func121 (by decide +kernel) rfl [3, 4, 5] rfl rfl ?_
  refine tg [] rfl (by simp) ?_
  refine zaw (fr := []) [(1, 1), (2, 2)] [] rfl (by simp) (zxd Tryz.func153 (by decide +kernel) rfl holds_spec hg hn hc hE) ⟨⟨rfl, rfl, rfl⟩, ⟨⟨rfl, rfl, rfl⟩, trivial⟩⟩ rfl rfl rfl rfl ?_
  refine tg [.a] rfl (by simp) ?_
  exact zab ⟨_, rfl, tV rfl, trivial⟩
def zth (b : Bool) : V := .int .i64 (bif b then 0 else 2)
def zbp (holes : Bool) (t : Ty) : Bool := decide (zaq t ≤ 12) && zca holes t
set_option maxRecDepth 100000 in
theorem zu8 (t : Ty) (holes : Bool) (h : zbp holes t = true) : zcm Tryz.prog 150 [.ref 1 0, .ref 2 0] [(1, some (.immb 26 4 (dTyc t))), (2, some (.immb 4 1 [.bool holes]))] (.ret zj8 [(1, some (.immb 26 4 (dTyc t))), (2, some (.immb 4 1 [.bool holes]))]) := by
  simp only [zbp, Bool.and_eq_true, decide_eq_true_eq] at h
  refine zae zat Tryz.func150 (by decide +kernel) rfl [3, 4, 5] rfl rfl ?_
  refine tg [] rfl (by simp) ?_
  refine zaw (fr := []) [(3, 1)] [] rfl (by simp) (zjq t 12 (by omega) (by decide)) ⟨⟨rfl, rfl, rfl⟩, trivial⟩ rfl rfl rfl rfl ?_
  refine tg [] rfl (by simp) ?_
  refine zaw (fr := []) [] [] rfl (by simp) (zj9 holes t h.2) trivial rfl rfl rfl rfl ?_
  refine tg [] rfl (by simp) ?_
  exact zcw ⟨_, rfl, rfl, ⟨rfl, rfl, trivial⟩⟩
set_option maxRecDepth 100000 in
theorem zzk (t : Ty) (holes : Bool) (h : zbp holes t = false) : zcm Tryz.prog 150 [.ref 1 0, .ref 2 0] [(1, some (.immb 26 4 (dTyc t))), (2, some (.immb 4 1 [.bool holes]))] (.pan zgm) := by
  simp only [zbp, Bool.and_eq_false_iff, decide_eq_false_iff_not] at h
  refine zae zat Tryz.func150 (by decide +kernel) rfl [3, 4, 5] rfl rfl ?_
  refine tg [] rfl (by simp) ?_
  by_cases h1 : zaq t ≤ 12
  · refine zaw (fr := []) [(3, 1)] [] rfl (by simp) (zjq t 12 (by omega) (by decide)) ⟨⟨rfl, rfl, rfl⟩, trivial⟩ rfl rfl rfl rfl ?_
    refine tg [] rfl (by simp) ?_
    exact zai [] rfl (by simp) (zr8 holes t (by simpa [h1] using h)) trivial rfl rfl
  · exact zai [(3, 1)] rfl (by simp) (zxi t 12 (by omega) (by decide) (by decide)) ⟨⟨rfl, rfl, rfl⟩, trivial⟩ rfl rfl
set_option maxRecDepth 100000 in
theorem ztb (t : Ty) (holes : Bool) : PureC Tryz.prog 119 [.agg (dTyc t), .bool holes] (zth (zbp holes t)) := by
  refine zae zat Tryz.func119 (by decide +kernel) rfl [1, 2, 3] rfl rfl ?_
  refine tg [] rfl (by simp) ?_
  cases h : zbp holes t with
  | true =>
    refine zaw (fr := []) [(1, 1), (2, 2)] [] rfl (by simp) (ztt Tryz.func150 (by decide +kernel) rfl (zu8 t holes h)) ⟨⟨rfl, rfl, rfl⟩, ⟨rfl, rfl, rfl⟩, trivial⟩ rfl rfl rfl rfl ?_
    refine tg [] rfl (by simp) ?_
    exact zab ⟨_, rfl, tV rfl, trivial⟩
  | false =>
    refine zaw (fr := []) [(1, 1), (2, 2)] [] rfl (by simp) (zvw Tryz.func150 (by decide +kernel) rfl (zzk t holes h)) ⟨⟨rfl, rfl, rfl⟩, ⟨rfl, rfl, rfl⟩, trivial⟩ rfl rfl rfl rfl ?_
    refine tg [] rfl (by simp) ?_
    exact zab ⟨_, rfl, tV rfl, trivial⟩
set_option maxRecDepth 100000 in
theorem zt1 (t : Ty) : PureC Tryz.prog 88 [.agg (dTyc t)] (zth (zbp true t)) := by
  refine zae zat Tryz.func88 (by decide +kernel) rfl [1, 2, 3] rfl rfl ?_
  refine tg [] rfl (by simp) ?_
  refine zac rfl (fun _ => ztb t true) (by simp [zal]) ?_
  refine tg [] rfl (by simp) ?_
  exact zab ⟨_, rfl, tV rfl, trivial⟩
set_option maxRecDepth 100000 in
theorem zp7 (t : Ty) : PureC Tryz.prog 173 [.agg (dTyc t)] (.bool (zbp false t)) := by
  refine zae zat Tryz.func173 (by decide +kernel) rfl [1, 2, 3] rfl rfl ?_
  refine tg [] rfl (by simp) ?_
  refine zac rfl (fun _ => ztb t false) (by simp [zal]) ?_
  refine tg [] rfl (by simp) ?_
  refine zab ⟨_, rfl, tV (congrArg _ ?_), trivial⟩
  cases zbp false t <;> rfl
def ttP : TT := ttT ++ [
  (195, ⟨.map 9 4, false, 1, 8, [.imm .nilmap]⟩)]
theorem zgs : TTok Tryz.prog ttP := .of_eq (l := [4, 3, 9, 141, 26, 50, 138, 27, 5, 24, 23, 57, 139, 48, 143, 147, 75, 22, 145, 72, 70, 38, 239, 192, 1, 195]) (by kernel_rfl)
section
variable {n : Nat} {F : List Nat} {Q : DQ} {env env' : Env} {st st' : St} {ids ids' : List Nat} {k todo : List DI} {ob : List Prop}
theorem pd (path : List Pt) (h : run ttP n 300 path todo env st ids [] = .at k env' st' ids' ob) (hob : zbh ob) (hd : G Tryz.prog n F Q k env' st' ids') : DGo Tryz.prog n F Q todo env st ids := ztn zgs mixed 300 path h hob hd
theorem pg (path : List Pt) (h : run ttP n 300 path todo env st ids [] = .at k env' st' ids' ob) (hob : zbh ob) (hd : G Tryz.prog n F Q k env' st' ids') : G Tryz.prog n F Q todo env st ids := zq2 zgs mixed 300 path h hob hd
theorem pi {es : List (List V)} {m : Int} {sz : Nat} {e : TypeId} {g : Option (Bool × Bool)} {ob : List Prop} {t : Nat} {todo' : List DI} {c : List V} (h : yd5 ttP n env todo = some ⟨es, m, sz, e, g, ob, some t, todo'⟩)
    (hc : zal g → 0 ≤ m ∧ es[m.toNat]? = some c ∧ c.length = sz) (hob : zbh ob) (hk : G Tryz.prog n F Q todo' ((t, gD g (.ip e c 0)) :: env) st ids) : G Tryz.prog n F Q todo env st ids := zg9 zgs h hc hob hk
end
def setK (l : List Str) : List (V × V) := l.map fun s => (.str s, .bool true)
def yd4 (l : List Str) : Blk := .map (setK l)
theorem zmt (l : List Str) : ∀ p ∈ setK l, zqs .str p.1 = true := by
  intro p hp
  obtain ⟨s, _, rfl⟩ := List.mem_map.1 hp
  rfl
theorem ygy (s x : Str) : (s == x) = (x == s) := by
  rw [Bool.eq_iff_iff, beq_iff_eq, beq_iff_eq]; exact ⟨Eq.symm, Eq.symm⟩
theorem yaj (l : List Str) (s : Str) : zcf (setK l) (.str s) = if zlp l s then some (.bool true) else none := by
  induction l with
  | nil => rfl
  | cons x r ih =>
    simp only [setK, List.map_cons, zcf, eqK, zlp] at ih ⊢
    rw [ih]
    by_cases h : x = s
    · subst h; simp
    · have h1 : (s == x) = false := by simpa using fun e => h e.symm
      have h2 : (x == s) = false := by simpa using h
      simp [h1, h2]
theorem zsg (l : List Str) (s : Str) : zfi false (setK l) (.str s) (.bool false) = .imm (.bool (zlp l s)) := by
  simp only [zfi, yaj]
  cases zlp l s <;> rfl
theorem yex (l : List Str) (s : Str) (h : zlp l s = false) : zi5 (setK l) (.str s) (.bool true) = setK (l ++ [s]) := by
  induction l with
  | nil => rfl
  | cons x r ih =>
    simp only [zlp, Bool.or_eq_false_iff] at h
    have h1 : (s == x) = false := by rw [ygy]; exact h.1
    simp only [setK, List.map_cons, zi5, eqK, h1, List.cons_append] at ih ⊢
    simp [ih h.2]
theorem zem : ∀ (a b p : List Str), zas p (a ++ b) = (zas p a && zas (p ++ a) b)
  | [], b, p => by simp [zas]
  | x :: r, b, p => by simp [zas, zem r b (p ++ [x]), Bool.and_assoc]
set_option maxRecDepth 100000 in
theorem zmi : ∀ (t : Ty) (met : List Str), (zc1 t && zas met (zax t)) = true → zcm Tryz.prog 124 [.imm (.agg (dTyc t)), .mapr 1] [(1, some (yd4 met))] (.ret zj8 [(1, some (yd4 (met ++ zax t)))])
  | .mk s n x ps, met, hy => by
    refine zdn 0 rfl fun hok => ?_
    have hv : ps.length ≤ 9223372036854775807 := by
      simp [zdi, vOk, dTyc, maxLen] at hok
      have := hok.1
      omega
    refine zae zgs Tryz.func124 (by decide +kernel) rfl [2, 3, 4] rfl rfl ?_
    have J : ∀ m0 : List Str, (zb1 ps && zas m0 (zam ps)) = true → m0 ++ zam ps = met ++ zax (.mk s n x ps) → DGo Tryz.prog Tryz.f124.ntmps (nms [(1, some (yd4 met))]) (yed ttP Tryz.f124.results.toList (.ret zj8 [(1, some (yd4 (met ++ zax (.mk s n x ps))))]))
        [.code (zol Tryz.f124 2)] [(1, .mapr 1), (2, .ref 2 0)] [(2, some (.immb 50 4 (dTyc (.mk s n x ps)))), (1, some (yd4 m0))] [3, 4] := by
      intro m0 hy he
      refine pd [] rfl (by simp) ?_
      refine zag (fun i : Nat => [(113, .imm (.int .i64 i)), (112, .imm (.int .i64 ps.length)), (111, .imm (.sl (zez ps))), (1, .mapr 1), (2, .ref 2 0)]) (fun i => [(2, some (.immb 50 4 (dTyc (.mk s n x ps)))), (1, some (yd4 (m0 ++ zam (ps.take i))))]) [3, 4] (fun i => ps.length - i)
        (fun i => i ≤ ps.length ∧ (zb1 (ps.drop i) && zas (m0 ++ zam (ps.take i)) (zam (ps.drop i))) = true) 0 ⟨Nat.zero_le _, by simpa [zam] using hy⟩ ⟨rfl, za2 (by simp), rfl, rfl, rfl, trivial⟩ ⟨rfl, by simp [zam]; rfl, trivial⟩ rfl fun i hi ih => ?_
      refine pd [] rfl (by simp) ?_
      have hi2 := hi.2
      refine zaa rfl (fun h => ?_) (fun h => ?_)
      · simp at h
        obtain ⟨t, ht⟩ := zah h
        have htk : zam (ps.take (i + 1)) = zam (ps.take i) ++ zax t := by rw [zbe ht, zcq]; simp [zam]
        rw [zaj ht] at hi2
        simp only [zb1, zam, zem] at hi2
        refine pd [] rfl (by simp) ?_
        refine pi rfl (c := dTyc t) (fun _ => ⟨by simp, by simpa using zan ht, by simp⟩) (by simp) ?_
        refine pg [] rfl (by simp) ?_
        refine zaw (fr := []) [(1, 1)] [] rfl (by simp) (zmi t (m0 ++ zam (ps.take i)) (by simp only [Bool.and_eq_true] at hi2 ⊢; exact ⟨hi2.1.1, hi2.2.1⟩)) ⟨⟨rfl, rfl, rfl⟩, trivial⟩ rfl rfl rfl rfl ?_
        refine pg [] rfl (by simp) ?_
        exact zad (ih (i + 1) (by omega) ⟨by omega, by rw [htk, ← List.append_assoc]; simp only [Bool.and_eq_true] at hi2 ⊢; exact ⟨hi2.1.2, hi2.2.2⟩⟩) ⟨za2 (w64 (by omega) (by omega)), rfl, rfl, rfl, rfl, trivial⟩ ⟨rfl, by rw [htk, ← List.append_assoc]; rfl, trivial⟩ rfl
      · refine pd [] rfl (by simp) ?_
        simp at h
        refine zcw ⟨_, rfl, rfl, ⟨?_, trivial⟩⟩
        rw [List.take_of_length_le (by omega), he]
        rfl
    simp only [zc1, Bool.and_eq_true] at hy
    obtain ⟨⟨hp, hps⟩, hdf⟩ := hy
    by_cases h1 : s = 1
    · subst h1
      simp [zh6, inI] at hp
      refine pg [.a, .a] rfl (by simp [zal] <;> grind) ?_
      refine zac rfl (fun _ => za4 _ (by simp [zbx] at hp ⊢; grind)) (by simp) ?_
      refine pg [.s] rfl (by simp) ?_
      exact zad (J met (by simpa [zax, hps] using hdf) (by simp [zax])) ⟨rfl, rfl, trivial⟩ ⟨rfl, rfl, trivial⟩ rfl
    by_cases h5 : s = 5
    · subst h5
      simp [zh6, inI] at hp
      refine pg [.a, .a] rfl (by simp [zal] <;> grind) ?_
      refine zac rfl (fun _ => za4 _ (by simp [zbx] at hp ⊢; grind)) (by simp) ?_
      refine pg [.s] rfl (by simp) ?_
      exact zad (J met (by simpa [zax, hps] using hdf) (by simp [zax])) ⟨rfl, rfl, trivial⟩ ⟨rfl, rfl, trivial⟩ rfl
    by_cases h3 : s = 3
    · subst h3
      simp [zh6, inI] at hp
      refine pg [.a, .a, .a, .a] rfl (by simp [zal] <;> grind) ?_
      refine zac rfl (fun _ => zhu n) (by simp [zal]) ?_
      refine pg [] rfl (by simp [zal]) ?_
      refine zac rfl (fun _ => za4 _ (by simp [zbx] at hp ⊢; grind)) (by simp) ?_
      refine pg [.s] rfl (by simp) ?_
      exact zad (J met (by simpa [zax, hps] using hdf) (by simp [zax])) ⟨rfl, rfl, trivial⟩ ⟨rfl, rfl, trivial⟩ rfl
    by_cases h4 : s = 4
    · subst h4
      simp [zh6, inI] at hp
      refine pg [.a, .a, .a, .a, .a] rfl (by simp [zal] <;> grind) ?_
      refine zac rfl (fun _ => za4 _ (by obtain ⟨⟨rfl, rfl⟩, ha, hb⟩ := hp; have : n = 0 ∨ n = 1 := (by omega); rcases this with rfl | rfl <;> simp)) (by simp) ?_
      refine pg [.s] rfl (by simp) ?_
      exact zad (J met (by simpa [zax, hps] using hdf) (by simp [zax])) ⟨rfl, rfl, trivial⟩ ⟨rfl, rfl, trivial⟩ rfl
    by_cases h6 : s = 6
    · subst h6
      simp [zh6, inI] at hp
      refine pg [.a, .a, .a, .a, .a, .a] rfl (by simp [zal] <;> grind) ?_
      refine zac rfl (fun _ => zch x) (by simp [zal]) ?_
      refine pg [] rfl (by simp [zal]) ?_
      refine zac rfl (fun _ => za4 _ (by simp [zbx] at hp ⊢; grind)) (by simp) ?_
      refine pg [.s] rfl (by simp) ?_
      exact zad (J met (by simpa [zax, hps] using hdf) (by simp [zax])) ⟨rfl, rfl, trivial⟩ ⟨rfl, rfl, trivial⟩ rfl
    by_cases h2 : s = 2
    · subst h2
      simp [zh6, inI] at hp
      refine pg [.a, .a, .a] rfl (by simp [zal] <;> grind) ?_
      refine zac rfl (fun _ => zfp x) (by simp [zal]) ?_
      refine pg [] rfl (by simp [zal]) ?_
      have hx : zlp met x = false := by simpa [zax, zas] using hdf
      refine ycp zgs 1 rfl rfl rfl (zmt met) (by simp [zal]) (z := .bool false) rfl (fun _ => .bool _) (zsg met x) ?_
      refine pg [] rfl (by simp [zal]) ?_
      refine zac rfl (fun _ => za4 _ (by simp at hp ⊢; rw [hx]; grind)) (by simp) ?_
      refine pg [] rfl (by simp) ?_
      refine yco zgs rfl rfl rfl (zmt met) ?_
      rw [yex met x hx]
      have he : ps = [] := by simpa using hp.1.1
      subst he
      refine pg [.s] rfl (by simp) ?_
      exact zad (J (met ++ [x]) (by simp [zb1, zam, zas]) (by simp [zax, zam])) ⟨rfl, rfl, trivial⟩ ⟨rfl, rfl, trivial⟩ rfl
    exfalso
    simp [zh6, h1, h2, h3, h4, h5, h6] at hp
termination_by t => SizeOf.sizeOf t
decreasing_by
  all_goals
    have := List.sizeOf_lt_of_mem (List.mem_of_getElem? ht)
    simp_wf
    omega
set_option maxRecDepth 100000 in
theorem zv6 : ∀ (t : Ty) (met : List Str), (zc1 t && zas met (zax t)) = false → zcm Tryz.prog 124 [.imm (.agg (dTyc t)), .mapr 1] [(1, some (yd4 met))] (.pan zgm)
  | .mk s n x ps, met, hy => by
    refine zdn 0 rfl fun hok => ?_
    have hv : ps.length ≤ 9223372036854775807 := by
      simp [zdi, vOk, dTyc, maxLen] at hok
      have := hok.1
      omega
    refine zae zgs Tryz.func124 (by decide +kernel) rfl [2, 3, 4] rfl rfl ?_
    have J : ∀ m0 : List Str, (zb1 ps && zas m0 (zam ps)) = false → DGo Tryz.prog Tryz.f124.ntmps (nms [(1, some (yd4 met))]) (yed ttP Tryz.f124.results.toList (.pan zgm))
        [.code (zol Tryz.f124 2)] [(1, .mapr 1), (2, .ref 2 0)] [(2, some (.immb 50 4 (dTyc (.mk s n x ps)))), (1, some (yd4 m0))] [3, 4] := by
      intro m0 hy 
      refine pd [] rfl (by simp) ?_
      refine zag (fun i : Nat => [(113, .imm (.int .i64 i)), (112, .imm (.int .i64 ps.length)), (111, .imm (.sl (zez ps))), (1, .mapr 1), (2, .ref 2 0)]) (fun i => [(2, some (.immb 50 4 (dTyc (.mk s n x ps)))), (1, some (yd4 (m0 ++ zam (ps.take i))))]) [3, 4] (fun i => ps.length - i)
        (fun i => i ≤ ps.length ∧ (zb1 (ps.drop i) && zas (m0 ++ zam (ps.take i)) (zam (ps.drop i))) = false) 0 ⟨Nat.zero_le _, by simpa [zam] using hy⟩ ⟨rfl, za2 (by simp), rfl, rfl, rfl, trivial⟩ ⟨rfl, by simp [zam]; rfl, trivial⟩ rfl fun i hi ih => ?_
      refine pd [] rfl (by simp) ?_
      have hi2 := hi.2
      refine zaa rfl (fun h => ?_) (fun h => ?_)
      · simp at h
        obtain ⟨t, ht⟩ := zah h
        have htk : zam (ps.take (i + 1)) = zam (ps.take i) ++ zax t := by rw [zbe ht, zcq]; simp [zam]
        rw [zaj ht] at hi2
        simp only [zb1, zam, zem] at hi2
        refine pd [] rfl (by simp) ?_
        refine pi rfl (c := dTyc t) (fun _ => ⟨by simp, by simpa using zan ht, by simp⟩) (by simp) ?_
        refine pg [] rfl (by simp) ?_
        by_cases hz : (zc1 t && zas (m0 ++ zam (ps.take i)) (zax t)) = true
        · refine zaw (fr := []) [(1, 1)] [] rfl (by simp) (zmi t (m0 ++ zam (ps.take i)) hz) ⟨⟨rfl, rfl, rfl⟩, trivial⟩ rfl rfl rfl rfl ?_
          refine pg [] rfl (by simp) ?_
          exact zad (ih (i + 1) (by omega) ⟨by omega, by rw [htk, ← List.append_assoc]; simp only [Bool.and_eq_true] at hz; rw [hz.1, hz.2] at hi2; simpa using hi2⟩) ⟨za2 (w64 (by omega) (by omega)), rfl, rfl, rfl, rfl, trivial⟩ ⟨rfl, by rw [htk, ← List.append_assoc]; rfl, trivial⟩ rfl
        · exact zai [(1, 1)] rfl (by simp) (zv6 t (m0 ++ zam (ps.take i)) (by simpa using hz)) ⟨⟨rfl, rfl, rfl⟩, trivial⟩ rfl rfl
      · exfalso
        simp at h
        rw [List.drop_eq_nil_of_le (by omega)] at hi2
        simp [zb1, zam, zas] at hi2
    by_cases h1 : s = 1
    · subst h1
      refine pg [.a, .a] rfl (by simp [zal] <;> grind) ?_
      by_cases hp : zh6 1 n x ps.length = true
      · have hps : (zb1 ps && zas met (zam ps)) = false := by simpa [zc1, hp, zax] using hy
        simp [zh6, inI] at hp
        refine zac rfl (fun _ => za4 _ (by simp [zbx] at hp ⊢; grind)) (by simp) ?_
        refine pg [.s] rfl (by simp) ?_
        exact zad (J met hps) ⟨rfl, rfl, trivial⟩ ⟨rfl, rfl, trivial⟩ rfl
      · simp [zh6, inI] at hp
        exact zai [] rfl (by simp) (zbl _ (by simp [zbx] at hp ⊢; grind)) trivial rfl rfl
    by_cases h5 : s = 5
    · subst h5
      refine pg [.a, .a] rfl (by simp [zal] <;> grind) ?_
      by_cases hp : zh6 5 n x ps.length = true
      · have hps : (zb1 ps && zas met (zam ps)) = false := by simpa [zc1, hp, zax] using hy
        simp [zh6, inI] at hp
        refine zac rfl (fun _ => za4 _ (by simp [zbx] at hp ⊢; grind)) (by simp) ?_
        refine pg [.s] rfl (by simp) ?_
        exact zad (J met hps) ⟨rfl, rfl, trivial⟩ ⟨rfl, rfl, trivial⟩ rfl
      · simp [zh6, inI] at hp
        exact zai [] rfl (by simp) (zbl _ (by simp [zbx] at hp ⊢; grind)) trivial rfl rfl
    by_cases h3 : s = 3
    · subst h3
      refine pg [.a, .a, .a, .a] rfl (by simp [zal] <;> grind) ?_
      refine zac rfl (fun _ => zhu n) (by simp [zal]) ?_
      refine pg [] rfl (by simp [zal]) ?_
      by_cases hp : zh6 3 n x ps.length = true
      · have hps : (zb1 ps && zas met (zam ps)) = false := by simpa [zc1, hp, zax] using hy
        simp [zh6, inI] at hp
        refine zac rfl (fun _ => za4 _ (by simp [zbx] at hp ⊢; grind)) (by simp) ?_
        refine pg [.s] rfl (by simp) ?_
        exact zad (J met hps) ⟨rfl, rfl, trivial⟩ ⟨rfl, rfl, trivial⟩ rfl
      · simp [zh6, inI] at hp
        exact zai [] rfl (by simp) (zbl _ (by simp [zbx] at hp ⊢; grind)) trivial rfl rfl
    by_cases h4 : s = 4
    · subst h4
      refine pg [.a, .a, .a, .a, .a] rfl (by simp [zal] <;> grind) ?_
      by_cases hp : zh6 4 n x ps.length = true
      · have hps : (zb1 ps && zas met (zam ps)) = false := by simpa [zc1, hp, zax] using hy
        simp [zh6, inI] at hp
        refine zac rfl (fun _ => za4 _ (by obtain ⟨⟨rfl, rfl⟩, ha, hb⟩ := hp; have : n = 0 ∨ n = 1 := (by omega); rcases this with rfl | rfl <;> simp)) (by simp) ?_
        refine pg [.s] rfl (by simp) ?_
        exact zad (J met hps) ⟨rfl, rfl, trivial⟩ ⟨rfl, rfl, trivial⟩ rfl
      · simp [zh6, inI] at hp
        exact zai [] rfl (by simp) (zbl _ (by simp [zbx] at hp ⊢; grind)) trivial rfl rfl
    by_cases h6 : s = 6
    · subst h6
      refine pg [.a, .a, .a, .a, .a, .a] rfl (by simp [zal] <;> grind) ?_
      refine zac rfl (fun _ => zch x) (by simp [zal]) ?_
      refine pg [] rfl (by simp [zal]) ?_
      by_cases hp : zh6 6 n x ps.length = true
      · have hps : (zb1 ps && zas met (zam ps)) = false := by simpa [zc1, hp, zax] using hy
        simp [zh6, inI] at hp
        refine zac rfl (fun _ => za4 _ (by simp [zbx] at hp ⊢; grind)) (by simp) ?_
        refine pg [.s] rfl (by simp) ?_
        exact zad (J met hps) ⟨rfl, rfl, trivial⟩ ⟨rfl, rfl, trivial⟩ rfl
      · simp [zh6, inI] at hp
        exact zai [] rfl (by simp) (zbl _ (by simp [zbx] at hp ⊢; grind)) trivial rfl rfl
    by_cases h2 : s = 2
    · subst h2
      refine pg [.a, .a, .a] rfl (by simp [zal] <;> grind) ?_
      refine zac rfl (fun _ => zfp x) (by simp [zal]) ?_
      refine pg [] rfl (by simp [zal]) ?_
      refine ycp zgs 1 rfl rfl rfl (zmt met) (by simp [zal]) (z := .bool false) rfl (fun _ => .bool _) (zsg met x) ?_
      refine pg [] rfl (by simp [zal]) ?_
      refine zai [] rfl (by simp) (zbl _ ?_) trivial rfl rfl
      simp [zc1, zh6, zax, zas] at hy
      cases hm : zlp met x with
      | true => simp
      | false =>
        simp only [hm] at hy
        by_cases hq : ps = []
        · subst hq; simp [zb1] at hy ⊢; grind
        · simp [hq]
    refine pg [.f, .f, .f, .f, .f, .f] rfl (by simp [h1, h2, h3, h4, h5, h6]) ?_
    exact zai [] rfl (by simp) (zbl _ rfl) trivial rfl rfl
termination_by t => SizeOf.sizeOf t
decreasing_by
  all_goals
    have := List.sizeOf_lt_of_mem (List.mem_of_getElem? ht)
    simp_wf
    omega
def zba (t : Ty) : Bool := decide (zaq t ≤ 12) && (zc1 t && za8 (zax t))
set_option maxRecDepth 100000 in
theorem zri (t : Ty) (h : zba t = true) : zcm Tryz.prog 122 [.ref 1 0] [(1, some (.immb 50 4 (dTyc t)))] (.ret zj8 [(1, some (.immb 50 4 (dTyc t)))]) := by
  simp only [zba, Bool.and_eq_true, decide_eq_true_eq] at h
  refine zae zgs Tryz.func122 (by decide +kernel) rfl [2, 3, 4] rfl rfl ?_
  refine pg [] rfl (by simp) ?_
  refine zaw (fr := []) [(2, 1)] [] rfl (by simp) (zl1 t 12 (by omega) (by decide)) ⟨⟨rfl, rfl, rfl⟩, trivial⟩ rfl rfl rfl rfl ?_
  refine pg [] rfl (by simp) ?_
  refine zq4 rfl ?_
  refine pg [] rfl (by simp) ?_
  refine zaw (fr := []) [(3, 1)] [] rfl (by simp) (zmi t [] (by simpa [za8] using h.2)) ⟨⟨rfl, rfl, rfl⟩, trivial⟩ rfl rfl rfl rfl ?_
  refine pg [] rfl (by simp) ?_
  exact zcw ⟨_, rfl, rfl, ⟨rfl, trivial⟩⟩
set_option maxRecDepth 100000 in
theorem ztu (t : Ty) (h : zba t = false) : zcm Tryz.prog 122 [.ref 1 0] [(1, some (.immb 50 4 (dTyc t)))] (.pan zgm) := by
  refine zae zgs Tryz.func122 (by decide +kernel) rfl [2, 3, 4] rfl rfl ?_
  refine pg [] rfl (by simp) ?_
  by_cases h1 : zaq t ≤ 12
  · refine zaw (fr := []) [(2, 1)] [] rfl (by simp) (zl1 t 12 (by omega) (by decide)) ⟨⟨rfl, rfl, rfl⟩, trivial⟩ rfl rfl rfl rfl ?_
    refine pg [] rfl (by simp) ?_
    refine zq4 rfl ?_
    refine pg [] rfl (by simp) ?_
    exact zai [(3, 1)] rfl (by simp) (zv6 t [] (by simpa [zba, h1, za8] using h)) ⟨⟨rfl, rfl, rfl⟩, trivial⟩ rfl rfl
  · exact zai [(2, 1)] rfl (by simp) (ycl t 12 (by omega) (by decide) (by decide)) ⟨⟨rfl, rfl, rfl⟩, trivial⟩ rfl rfl
set_option maxRecDepth 100000 in
theorem zi4 (t : Ty) : PureC Tryz.prog 92 [.agg (dTyc t)] (zth (zba t)) := by
  refine zae zgs Tryz.func92 (by decide +kernel) rfl [1, 2, 3] rfl rfl ?_
  refine pg [] rfl (by simp) ?_
  cases h : zba t with
  | true =>
    refine zaw (fr := []) [(1, 1)] [] rfl (by simp) (zli Tryz.func122 (by decide +kernel) rfl (zri t h)) ⟨⟨rfl, rfl, rfl⟩, trivial⟩ rfl rfl rfl rfl ?_
    refine pg [] rfl (by simp) ?_
    exact zab ⟨_, rfl, tV rfl, trivial⟩
  | false =>
    refine zaw (fr := []) [(1, 1)] [] rfl (by simp) (zn4 Tryz.func122 (by decide +kernel) rfl (ztu t h)) ⟨⟨rfl, rfl, rfl⟩, trivial⟩ rfl rfl rfl rfl ?_
    refine pg [] rfl (by simp) ?_
    exact zab ⟨_, rfl, tV rfl, trivial⟩
end Go.Hk
namespace Go.Hk
open Go.Proofs
def ttS : TT := ttP ++ [
  (248, ⟨.struct [(0, 4), (1, 4), (2, 4), (3, 3)], true, 4, 16, [.imm (.bool false), .imm (.bool false), .imm (.bool false), .imm (.int .i64 0)]⟩)]
theorem zgr : TTok Tryz.prog ttS := .of_eq (l := [4, 3, 9, 141, 26, 50, 138, 27, 5, 24, 23, 57, 139, 48, 143, 147, 75, 22, 145, 72, 70, 38, 239, 192, 1, 195, 248]) (by kernel_rfl)
section
variable {n : Nat} {F : List Nat} {Q : DQ} {env env' : Env} {st st' : St} {ids ids' : List Nat} {k todo : List DI} {ob : List Prop}
theorem sd (path : List Pt) (h : run ttS n 300 path todo env st ids [] = .at k env' st' ids' ob) (hob : zbh ob) (hd : G Tryz.prog n F Q k env' st' ids') : DGo Tryz.prog n F Q todo env st ids := ztn zgr mixed 300 path h hob hd
theorem sg (path : List Pt) (h : run ttS n 300 path todo env st ids [] = .at k env' st' ids' ob) (hob : zbh ob) (hd : G Tryz.prog n F Q k env' st' ids') : G Tryz.prog n F Q todo env st ids := zq2 zgr mixed 300 path h hob hd
theorem si {es : List (List V)} {m : Int} {sz : Nat} {e : TypeId} {g : Option (Bool × Bool)} {ob : List Prop} {t : Nat} {todo' : List DI} {c : List V} (h : yd5 ttS n env todo = some ⟨es, m, sz, e, g, ob, some t, todo'⟩)
    (hc : zal g → 0 ≤ m ∧ es[m.toNat]? = some c ∧ c.length = sz) (hob : zbh ob) (hk : G Tryz.prog n F Q todo' ((t, gD g (.ip e c 0)) :: env) st ids) : G Tryz.prog n F Q todo env st ids := zg9 zgr h hc hob hk
end
structure Has where
  n : Bool
  text : Bool
  pats : Bool
  kids : Int
  is : Bool
def zbf (op : Int) (k p : Nat) : Has :=
  if op = 1 ∨ op = 2 then ⟨true, false, false, 0, true⟩
  else if op = 3 ∨ op = 21 ∨ op = 25 ∨ op = 28 then ⟨false, false, false, 0, true⟩
  else if op = 4 then ⟨false, true, false, 0, true⟩
  else if op = 5 ∨ op = 27 then ⟨false, true, false, 1, true⟩
  else if op = 7 then ⟨false, true, false, 2, true⟩
  else if op = 8 then ⟨false, false, false, 3, true⟩
  else if op = 14 then ⟨false, true, false, (if (3 : Int) < k then 3 else k), true⟩
  else if op = 15 then ⟨false, false, true, (IntKind.i64.wrap (1 + (p : Int))), true⟩
  else if op = 16 ∨ op = 17 ∨ op = 19 ∨ op = 20 ∨ op = 23 ∨ op = 26 then ⟨false, false, false, 1, true⟩
  else if op = 24 then ⟨true, false, false, 1, true⟩
  else if op = 6 ∨ op = 9 ∨ op = 10 ∨ op = 11 ∨ op = 12 ∨ op = 13 ∨ op = 18 ∨ op = 22 then ⟨false, false, false, 2, true⟩
  else ⟨false, false, false, 0, false⟩
def zgp (h : Has) : List V := [.bool h.n, .bool h.text, .bool h.pats, .int .i64 h.kids]
set_option maxRecDepth 100000 in
set_option maxHeartbeats 1000000 in
theorem zwg (op n : Int) (x : Str) (ks : List Tm) (ps : List Ty) : PureC Tryz.prog 187 [.agg (zd8 (.mk op n x ks ps))] (.tup [.agg (zgp (zbf op ks.length ps.length)), .bool (zbf op ks.length ps.length).is]) := by
  refine zav fun hv => ?_
  simp [zdi, vOk, zd8, maxLen] at hv
  refine zae zgr Tryz.func187 (by decide +kernel) rfl [1, 2, 3] rfl rfl ?_
  by_cases h1 : op = 1
  · subst h1
    refine sg [.a, .a] rfl (by simp) ?_
    refine zab ⟨_, rfl, tV ?_, trivial⟩
    simp [zbf, zgp]
  by_cases h2 : op = 2
  · subst h2
    refine sg [.a, .a] rfl (by simp) ?_
    refine zab ⟨_, rfl, tV ?_, trivial⟩
    simp [zbf, zgp]
  by_cases h3 : op = 3
  · subst h3
    refine sg [.a, .a, .a, .a] rfl (by simp) ?_
    refine zab ⟨_, rfl, tV ?_, trivial⟩
    simp [zbf, zgp]
  by_cases h21 : op = 21
  · subst h21
    refine sg [.a, .a, .a, .a, .a] rfl (by simp) ?_
    refine zab ⟨_, rfl, tV ?_, trivial⟩
    simp [zbf, zgp]
  by_cases h25 : op = 25
  · subst h25
    refine sg [.a, .a, .a, .a, .a, .a] rfl (by simp) ?_
    refine zab ⟨_, rfl, tV ?_, trivial⟩
    simp [zbf, zgp]
  by_cases h28 : op = 28
  · subst h28
    refine sg [.a, .a, .a, .a, .a, .a] rfl (by simp) ?_
    refine zab ⟨_, rfl, tV ?_, trivial⟩
    simp [zbf, zgp]
  by_cases h4 : op = 4
  · subst h4
    refine sg [.a, .a, .a, .a, .a, .a, .a] rfl (by simp) ?_
    refine zab ⟨_, rfl, tV ?_, trivial⟩
    simp [zbf, zgp]
  by_cases h5 : op = 5
  · subst h5
    refine sg [.a, .a, .a, .a, .a, .a, .a, .a, .a] rfl (by simp) ?_
    refine zab ⟨_, rfl, tV ?_, trivial⟩
    simp [zbf, zgp]
  by_cases h27 : op = 27
  · subst h27
    refine sg [.a, .a, .a, .a, .a, .a, .a, .a, .a] rfl (by simp) ?_
    refine zab ⟨_, rfl, tV ?_, trivial⟩
    simp [zbf, zgp]
  by_cases h7 : op = 7
  · subst h7
    refine sg [.a, .a, .a, .a, .a, .a, .a, .a, .a, .a] rfl (by simp) ?_
    refine zab ⟨_, rfl, tV ?_, trivial⟩
    simp [zbf, zgp]
  by_cases h8 : op = 8
  · subst h8
    refine sg [.a, .a, .a, .a, .a, .a, .a, .a, .a, .a, .a] rfl (by simp) ?_
    refine zab ⟨_, rfl, tV ?_, trivial⟩
    simp [zbf, zgp]
  by_cases h14 : op = 14
  · subst h14
    refine sg [.a, .a, .a, .a, .a, .a, .a, .a, .a, .a, .a, .a] rfl (by simp) ?_
    refine zab ⟨_, rfl, tV ?_, trivial⟩
    simp [zbf, zgp]
  by_cases h15 : op = 15
  · subst h15
    refine sg [.a, .a, .a, .a, .a, .a, .a, .a, .a, .a, .a, .a, .a] rfl (by simp) ?_
    refine zab ⟨_, rfl, tV ?_, trivial⟩
    simp [zbf, zgp]
  by_cases h16 : op = 16
  · subst h16
    refine sg [.a, .a, .a, .a, .a, .a, .a, .a, .a, .a, .a, .a, .a, .a, .a] rfl (by simp) ?_
    refine zab ⟨_, rfl, tV ?_, trivial⟩
    simp [zbf, zgp]
  by_cases h17 : op = 17
  · subst h17
    refine sg [.a, .a, .a, .a, .a, .a, .a, .a, .a, .a, .a, .a, .a, .a, .a, .a] rfl (by simp) ?_
    refine zab ⟨_, rfl, tV ?_, trivial⟩
    simp [zbf, zgp]
  by_cases h19 : op = 19
  · subst h19
    refine sg [.a, .a, .a, .a, .a, .a, .a, .a, .a, .a, .a, .a, .a, .a, .a, .a, .a] rfl (by simp) ?_
    refine zab ⟨_, rfl, tV ?_, trivial⟩
    simp [zbf, zgp]
  by_cases h20 : op = 20
  · subst h20
    refine sg [.a, .a, .a, .a, .a, .a, .a, .a, .a, .a, .a, .a, .a, .a, .a, .a, .a, .a] rfl (by simp) ?_
    refine zab ⟨_, rfl, tV ?_, trivial⟩
    simp [zbf, zgp]
  by_cases h23 : op = 23
  · subst h23
    refine sg [.a, .a, .a, .a, .a, .a, .a, .a, .a, .a, .a, .a, .a, .a, .a, .a, .a, .a, .a] rfl (by simp) ?_
    refine zab ⟨_, rfl, tV ?_, trivial⟩
    simp [zbf, zgp]
  by_cases h26 : op = 26
  · subst h26
    refine sg [.a, .a, .a, .a, .a, .a, .a, .a, .a, .a, .a, .a, .a, .a, .a, .a, .a, .a, .a] rfl (by simp) ?_
    refine zab ⟨_, rfl, tV ?_, trivial⟩
    simp [zbf, zgp]
  by_cases h24 : op = 24
  · subst h24
    refine sg [.a, .a, .a, .a, .a, .a, .a, .a, .a, .a, .a, .a, .a, .a, .a, .a, .a, .a, .a, .a] rfl (by simp) ?_
    refine zab ⟨_, rfl, tV ?_, trivial⟩
    simp [zbf, zgp]
  by_cases h6 : op = 6
  · subst h6
    refine sg [.a, .a, .a, .a, .a, .a, .a, .a, .a, .a, .a, .a, .a, .a, .a, .a, .a, .a, .a, .a, .a, .a] rfl (by simp) ?_
    refine zab ⟨_, rfl, tV ?_, trivial⟩
    simp [zbf, zgp]
  by_cases h9 : op = 9
  · subst h9
    refine sg [.a, .a, .a, .a, .a, .a, .a, .a, .a, .a, .a, .a, .a, .a, .a, .a, .a, .a, .a, .a, .a, .a, .a] rfl (by simp) ?_
    refine zab ⟨_, rfl, tV ?_, trivial⟩
    simp [zbf, zgp]
  by_cases h10 : op = 10
  · subst h10
    refine sg [.a, .a, .a, .a, .a, .a, .a, .a, .a, .a, .a, .a, .a, .a, .a, .a, .a, .a, .a, .a, .a, .a, .a, .a] rfl (by simp) ?_
    refine zab ⟨_, rfl, tV ?_, trivial⟩
    simp [zbf, zgp]
  by_cases h11 : op = 11
  · subst h11
    refine sg [.a, .a, .a, .a, .a, .a, .a, .a, .a, .a, .a, .a, .a, .a, .a, .a, .a, .a, .a, .a, .a, .a, .a, .a, .a] rfl (by simp) ?_
    refine zab ⟨_, rfl, tV ?_, trivial⟩
    simp [zbf, zgp]
  by_cases h12 : op = 12
  · subst h12
    refine sg [.a, .a, .a, .a, .a, .a, .a, .a, .a, .a, .a, .a, .a, .a, .a, .a, .a, .a, .a, .a, .a, .a, .a, .a, .a, .a] rfl (by simp) ?_
    refine zab ⟨_, rfl, tV ?_, trivial⟩
    simp [zbf, zgp]
  by_cases h13 : op = 13
  · subst h13
    refine sg [.a, .a, .a, .a, .a, .a, .a, .a, .a, .a, .a, .a, .a, .a, .a, .a, .a, .a, .a, .a, .a, .a, .a, .a, .a, .a, .a] rfl (by simp) ?_
    refine zab ⟨_, rfl, tV ?_, trivial⟩
    simp [zbf, zgp]
  by_cases h18 : op = 18
  · subst h18
    refine sg [.a, .a, .a, .a, .a, .a, .a, .a, .a, .a, .a, .a, .a, .a, .a, .a, .a, .a, .a, .a, .a, .a, .a, .a, .a, .a, .a, .a] rfl (by simp) ?_
    refine zab ⟨_, rfl, tV ?_, trivial⟩
    simp [zbf, zgp]
  by_cases h22 : op = 22
  · subst h22
    refine sg [.a, .a, .a, .a, .a, .a, .a, .a, .a, .a, .a, .a, .a, .a, .a, .a, .a, .a, .a, .a, .a, .a, .a, .a, .a, .a, .a, .a] rfl (by simp) ?_
    refine zab ⟨_, rfl, tV ?_, trivial⟩
    simp [zbf, zgp]
  refine sg [.f, .f, .f, .f, .f, .f, .f, .f, .f, .f, .f, .f, .f, .f, .f, .f, .f, .f, .f, .f, .f, .f, .f, .f, .f, .f, .f, .f] rfl (by simp [h1, h2, h3, h21, h25, h28, h4, h5, h27, h7, h8, h14, h15, h16, h17, h19, h20, h23, h26, h24, h6, h9, h10, h11, h12, h13, h18, h22]) ?_
  refine zab ⟨_, rfl, tV ?_, trivial⟩
  simp [zbf, zgp, h1, h2, h3, h21, h25, h28, h4, h5, h27, h7, h8, h14, h15, h16, h17, h19, h20, h23, h26, h24, h6, h9, h10, h11, h12, h13, h18, h22]
end Go.Hk
namespace Go.Hk
open Go.Proofs
def ycg (op n : Int) (x : Str) (k p : Nat) : Bool := let h := zbf op k p
  h.is && ((k : Int) == h.kids) && (h.n || n == 0) && (h.text || x == []) && (h.pats || (p : Int) == 0)
def lastB (op : Int) (x : Str) (k p : Nat) : Bool := !((zbf op k p).text && op != 14) || zfg x
set_option maxRecDepth 100000 in
theorem zb4 (op n : Int) (x : Str) (ks : List Tm) (ps : List Ty) (hl : lastB op x ks.length ps.length = true) : DGo Tryz.prog Tryz.f186.ntmps (nms []) (yed ttS Tryz.f186.results.toList (.ret zj8 []))
    [.code (zol Tryz.f186 4)] [(1, .ref 1 0), (2, .ref 2 0)] [(2, some (.immb 248 4 (zgp (zbf op ks.length ps.length)))), (1, some (.immb 141 5 (zd8 (.mk op n x ks ps))))] [3, 4] := by
  refine sd [] rfl (by simp [zal]) ?_
  refine zaa rfl (fun h => ?_) (fun h => ?_)
  · refine sd [] rfl (by simp) ?_
    refine zac rfl (fun _ => zfp x) (by simp [zal]) ?_
    refine sg [] rfl (by simp) ?_
    have hx : zfg x = true := by simp [lastB] at hl h; grind
    refine zac rfl (fun _ => za4 _ hx) (by simp) ?_
    refine sg [] rfl (by simp) ?_
    exact zcw ⟨_, rfl, rfl, trivial⟩
  · refine sd [] rfl (by simp) ?_
    exact zcw ⟨_, rfl, rfl, trivial⟩
set_option maxRecDepth 100000 in
theorem zcd (op n : Int) (x : Str) (ks : List Tm) (ps : List Ty) (hl : lastB op x ks.length ps.length = false) : DGo Tryz.prog Tryz.f186.ntmps (nms []) (yed ttS Tryz.f186.results.toList (.pan zgm))
    [.code (zol Tryz.f186 4)] [(1, .ref 1 0), (2, .ref 2 0)] [(2, some (.immb 248 4 (zgp (zbf op ks.length ps.length)))), (1, some (.immb 141 5 (zd8 (.mk op n x ks ps))))] [3, 4] := by
  refine sd [] rfl (by simp [zal]) ?_
  refine zaa rfl (fun h => ?_) (fun h => ?_)
  · refine sd [] rfl (by simp) ?_
    refine zac rfl (fun _ => zfp x) (by simp [zal]) ?_
    refine sg [] rfl (by simp) ?_
    have hx : zfg x = false := by simp [lastB] at hl h; grind
    exact zai [] rfl (by simp) (zbl _ hx) trivial rfl rfl
  · exfalso
    simp [lastB] at hl h
    grind
def zck (op n : Int) (x : Str) (ps : List Ty) : Bool :=
  if op = 1 then zbx n
  else if op = 2 then n == 0 || n == 1
  else if op = 24 then decide (0 ≤ n) && decide (n < 4)
  else if op = 14 then zct x
  else if op = 15 then decide (1 ≤ (ps.length : Int)) && decide ((ps.length : Int) ≤ 5) && ps.all zba
  else true
def zyj (op n : Int) (x : Str) (k : Nat) (ps : List Ty) : Bool := ycg op n x k ps.length && zck op n x ps && lastB op x k ps.length
set_option maxRecDepth 100000 in
theorem zsb (op n : Int) (x : Str) (ks : List Tm) (ps : List Ty) (hy : zyj op n x ks.length ps = true) : zcm Tryz.prog 186 [.imm (.agg (zd8 (.mk op n x ks ps)))] [] (.ret zj8 []) := by
  simp only [zyj] at hy
  refine zae zgr Tryz.func186 (by decide +kernel) rfl [1, 2, 3, 4] rfl rfl ?_
  refine sg [] rfl (by simp) ?_
  refine zac rfl (fun _ => zwg op n x ks ps) (by simp [zal]) ?_
  refine sg [] rfl (by simp [zal, zgp] <;> grind) ?_
  simp only [Bool.and_eq_true] at hy
  obtain ⟨⟨hh, he⟩, hl⟩ := hy
  refine zac rfl (fun _ => za4 _ (by simp [ycg] at hh ⊢; grind)) (by simp) ?_
  by_cases h1 : op = 1
  · subst h1
    refine sg [.a] rfl (by simp [zal]) ?_
    refine zac rfl (fun _ => zhu n) (by simp) ?_
    refine sg [] rfl (by simp) ?_
    simp [zck] at he
    refine zac rfl (fun _ => za4 _ (by first | exact he | (simp at he ⊢; grind) | (simp; grind) | grind)) (by simp) ?_
    refine sg [.s] rfl (by simp) ?_
    exact zad (zb4 _ n x ks ps hl) ⟨rfl, rfl, trivial⟩ ⟨rfl, rfl, trivial⟩ rfl
  by_cases h2 : op = 2
  · subst h2
    refine sg [.a, .a] rfl (by simp [zal]) ?_
    simp [zck] at he
    refine zac rfl (fun _ => za4 _ (by first | exact he | (simp at he ⊢; grind) | (simp; grind) | grind)) (by simp) ?_
    refine sg [.s] rfl (by simp) ?_
    exact zad (zb4 _ n x ks ps hl) ⟨rfl, rfl, trivial⟩ ⟨rfl, rfl, trivial⟩ rfl
  by_cases h24 : op = 24
  · subst h24
    refine sg [.a, .a, .a] rfl (by simp [zal]) ?_
    simp [zck] at he
    refine zac rfl (fun _ => za4 _ (by first | exact he | (simp at he ⊢; grind) | (simp; grind) | grind)) (by simp) ?_
    refine sg [.s] rfl (by simp) ?_
    exact zad (zb4 _ n x ks ps hl) ⟨rfl, rfl, trivial⟩ ⟨rfl, rfl, trivial⟩ rfl
  by_cases h14 : op = 14
  · subst h14
    refine sg [.a, .a, .a, .a] rfl (by simp [zal]) ?_
    refine zac rfl (fun _ => zch x) (by simp) ?_
    refine sg [] rfl (by simp) ?_
    simp [zck] at he
    refine zac rfl (fun _ => za4 _ (by first | exact he | (simp at he ⊢; grind) | (simp; grind) | grind)) (by simp) ?_
    refine sg [.s] rfl (by simp) ?_
    exact zad (zb4 _ n x ks ps hl) ⟨rfl, rfl, trivial⟩ ⟨rfl, rfl, trivial⟩ rfl
  by_cases h15 : op = 15
  · subst h15
    refine sg [.a, .a, .a, .a, .a] rfl (by simp [zal]) ?_
    simp [zck] at he
    refine zac rfl (fun _ => za4 _ (by simp; grind)) (by simp) ?_
    refine sg [] rfl (by simp) ?_
    refine zag (fun i : Nat => [(101, .imm (.int .i64 i)), (100, .imm (.int .i64 ps.length)), (99, .imm (.sl (zez ps))), (1, .ref 1 0), (2, .ref 2 0)]) (fun _ => [(2, some (.immb 248 4 (zgp (zbf 15 ks.length ps.length)))), (1, some (.immb 141 5 (zd8 (.mk 15 n x ks ps))))]) [3, 4] (fun i => ps.length - i)
      (fun i => i ≤ ps.length ∧ (ps.drop i).all zba = true) 0 ⟨Nat.zero_le _, by simpa using he.2⟩ ⟨rfl, za2 (by simp), rfl, rfl, rfl, trivial⟩ ⟨rfl, rfl, trivial⟩ rfl fun i hi ih => ?_
    refine sd [] rfl (by simp) ?_
    have hi2 := hi.2
    refine zaa rfl (fun h => ?_) (fun h => ?_)
    · simp at h
      obtain ⟨t, ht⟩ := zah h
      rw [zaj ht, List.all_cons] at hi2
      refine sd [] rfl (by simp) ?_
      refine si rfl (c := dTyc t) (fun _ => ⟨by simp, by simpa using zan ht, by simp⟩) (by simp) ?_
      refine sg [] rfl (by simp) ?_
      refine zac rfl (fun _ => zi4 t) (by simp) ?_
      refine sg [] rfl (by simp) ?_
      simp only [Bool.and_eq_true] at hi2
      have hz := hi2.1
      refine zac rfl (fun _ => za4 _ (by first | rfl | (rw [hz]; rfl))) (by simp) ?_
      refine sg [] rfl (by simp) ?_
      exact zad (ih (i + 1) (by omega) ⟨by omega, hi2.2⟩) ⟨za2 (w64 (by omega) (by omega)), rfl, rfl, rfl, rfl, trivial⟩ ⟨rfl, rfl, trivial⟩ rfl
    · simp at h
      rw [List.drop_eq_nil_of_le (by omega)] at hi2
      refine sd [.s] rfl (by simp) ?_
      exact zad (zb4 _ n x ks ps hl) ⟨rfl, rfl, trivial⟩ ⟨rfl, rfl, trivial⟩ rfl
  refine sg [.f, .f, .f, .f, .f, .s] rfl (by simp [h1, h2, h24, h14, h15]) ?_
  exact zad (zb4 _ n x ks ps hl) ⟨rfl, rfl, trivial⟩ ⟨rfl, rfl, trivial⟩ rfl
set_option maxRecDepth 100000 in
theorem yeo (op n : Int) (x : Str) (ks : List Tm) (ps : List Ty) (hy : zyj op n x ks.length ps = false) : zcm Tryz.prog 186 [.imm (.agg (zd8 (.mk op n x ks ps)))] [] (.pan zgm) := by
  simp only [zyj] at hy
  refine zae zgr Tryz.func186 (by decide +kernel) rfl [1, 2, 3, 4] rfl rfl ?_
  refine sg [] rfl (by simp) ?_
  refine zac rfl (fun _ => zwg op n x ks ps) (by simp [zal]) ?_
  refine sg [] rfl (by simp [zal, zgp] <;> grind) ?_
  by_cases hh : ycg op n x ks.length ps.length = true
  rotate_left
  · exact zai [] rfl (by simp) (zbl _ (by simp [ycg] at hh ⊢; grind)) trivial rfl rfl
  rw [hh] at hy
  refine zac rfl (fun _ => za4 _ (by simp [ycg] at hh ⊢; grind)) (by simp) ?_
  by_cases h1 : op = 1
  · subst h1
    refine sg [.a] rfl (by simp [zal]) ?_
    refine zac rfl (fun _ => zhu n) (by simp) ?_
    refine sg [] rfl (by simp) ?_
    by_cases he : zck 1 n x ps = true
    · have hl : lastB 1 x ks.length ps.length = false := by simpa [he] using hy
      simp [zck] at he
      refine zac rfl (fun _ => za4 _ (by first | exact he | (simp at he ⊢; grind) | (simp; grind) | grind)) (by simp) ?_
      refine sg [.s] rfl (by simp) ?_
      exact zad (zcd _ n x ks ps hl) ⟨rfl, rfl, trivial⟩ ⟨rfl, rfl, trivial⟩ rfl
    · simp [zck] at he
      exact zai [] rfl (by simp) (zbl _ (by first | exact he | (simp at he ⊢; grind) | (simp; grind) | grind)) trivial rfl rfl
  by_cases h2 : op = 2
  · subst h2
    refine sg [.a, .a] rfl (by simp [zal]) ?_
    by_cases he : zck 2 n x ps = true
    · have hl : lastB 2 x ks.length ps.length = false := by simpa [he] using hy
      simp [zck] at he
      refine zac rfl (fun _ => za4 _ (by first | exact he | (simp at he ⊢; grind) | (simp; grind) | grind)) (by simp) ?_
      refine sg [.s] rfl (by simp) ?_
      exact zad (zcd _ n x ks ps hl) ⟨rfl, rfl, trivial⟩ ⟨rfl, rfl, trivial⟩ rfl
    · simp [zck] at he
      exact zai [] rfl (by simp) (zbl _ (by first | exact he | (simp at he ⊢; grind) | (simp; grind) | grind)) trivial rfl rfl
  by_cases h24 : op = 24
  · subst h24
    refine sg [.a, .a, .a] rfl (by simp [zal]) ?_
    by_cases he : zck 24 n x ps = true
    · have hl : lastB 24 x ks.length ps.length = false := by simpa [he] using hy
      simp [zck] at he
      refine zac rfl (fun _ => za4 _ (by first | exact he | (simp at he ⊢; grind) | (simp; grind) | grind)) (by simp) ?_
      refine sg [.s] rfl (by simp) ?_
      exact zad (zcd _ n x ks ps hl) ⟨rfl, rfl, trivial⟩ ⟨rfl, rfl, trivial⟩ rfl
    · simp [zck] at he
      exact zai [] rfl (by simp) (zbl _ (by first | exact he | (simp at he ⊢; grind) | (simp; grind) | grind)) trivial rfl rfl
  by_cases h14 : op = 14
  · subst h14
    refine sg [.a, .a, .a, .a] rfl (by simp [zal]) ?_
    refine zac rfl (fun _ => zch x) (by simp) ?_
    refine sg [] rfl (by simp) ?_
    by_cases he : zck 14 n x ps = true
    · have hl : lastB 14 x ks.length ps.length = false := by simpa [he] using hy
      simp [zck] at he
      refine zac rfl (fun _ => za4 _ (by first | exact he | (simp at he ⊢; grind) | (simp; grind) | grind)) (by simp) ?_
      refine sg [.s] rfl (by simp) ?_
      exact zad (zcd _ n x ks ps hl) ⟨rfl, rfl, trivial⟩ ⟨rfl, rfl, trivial⟩ rfl
    · simp [zck] at he
      exact zai [] rfl (by simp) (zbl _ (by first | exact he | (simp at he ⊢; grind) | (simp; grind) | grind)) trivial rfl rfl
  by_cases h15 : op = 15
  · subst h15
    refine sg [.a, .a, .a, .a, .a] rfl (by simp [zal]) ?_
    by_cases he : (decide (1 ≤ (ps.length : Int)) && decide ((ps.length : Int) ≤ 5)) = true
    rotate_left
    · exact zai [] rfl (by simp) (zbl _ (by simp at he ⊢; grind)) trivial rfl rfl
    have he5 : ps.length ≤ 5 := by simp at he; omega
    have hy : ps.all zba = false ∨ lastB 15 x ks.length ps.length = false := by
      have e : zck 15 n x ps = ((decide (1 ≤ (ps.length : Int)) && decide ((ps.length : Int) ≤ 5)) && ps.all zba) := by simp only [zck]; rfl
      rw [e, he] at hy
      simpa only [Bool.true_and, Bool.and_eq_false_iff] using hy
    refine zac rfl (fun _ => za4 _ (by simp at he ⊢; grind)) (by simp) ?_
    refine sg [] rfl (by simp) ?_
    refine zag (fun i : Nat => [(101, .imm (.int .i64 i)), (100, .imm (.int .i64 ps.length)), (99, .imm (.sl (zez ps))), (1, .ref 1 0), (2, .ref 2 0)]) (fun _ => [(2, some (.immb 248 4 (zgp (zbf 15 ks.length ps.length)))), (1, some (.immb 141 5 (zd8 (.mk 15 n x ks ps))))]) [3, 4] (fun i => ps.length - i)
      (fun i => i ≤ ps.length ∧ ((ps.drop i).all zba = false ∨ lastB 15 x ks.length ps.length = false)) 0 ⟨Nat.zero_le _, hy⟩ ⟨rfl, za2 (by simp), rfl, rfl, rfl, trivial⟩ ⟨rfl, rfl, trivial⟩ rfl fun i hi ih => ?_
    refine sd [] rfl (by simp) ?_
    have hi2 := hi.2
    refine zaa rfl (fun h => ?_) (fun h => ?_)
    · simp at h
      obtain ⟨t, ht⟩ := zah h
      rw [zaj ht, List.all_cons] at hi2
      refine sd [] rfl (by simp) ?_
      refine si rfl (c := dTyc t) (fun _ => ⟨by simp, by simpa using zan ht, by simp⟩) (by simp) ?_
      refine sg [] rfl (by simp) ?_
      refine zac rfl (fun _ => zi4 t) (by simp) ?_
      refine sg [] rfl (by simp) ?_
      cases hz : zba t with
      | true =>
        rw [hz, Bool.true_and] at hi2
        refine zac rfl (fun _ => za4 _ (by first | rfl | (rw [hz]; rfl))) (by simp) ?_
        refine sg [] rfl (by simp) ?_
        exact zad (ih (i + 1) (by omega) ⟨by omega, hi2⟩) ⟨za2 (w64 (by omega) (by omega)), rfl, rfl, rfl, rfl, trivial⟩ ⟨rfl, rfl, trivial⟩ rfl
      | false => exact zai [] rfl (by simp) (zbl _ (by first | rfl | (rw [hz]; rfl))) trivial rfl rfl
    · simp at h
      rw [List.drop_eq_nil_of_le (by omega)] at hi2
      refine sd [.s] rfl (by simp) ?_
      exact zad (zcd _ n x ks ps (by simpa using hi2)) ⟨rfl, rfl, trivial⟩ ⟨rfl, rfl, trivial⟩ rfl
  refine sg [.f, .f, .f, .f, .f, .s] rfl (by simp [h1, h2, h24, h14, h15]) ?_
  exact zad (zcd _ n x ks ps (by simpa [zck, h1, h2, h24, h14, h15] using hy)) ⟨rfl, rfl, trivial⟩ ⟨rfl, rfl, trivial⟩ rfl
mutual
def zio : Tm → Bool
  | .mk op n x ks ps => zyj op n x ks.length ps && zf1 ks
def zf1 : List Tm → Bool
  | [] => true
  | t :: r => zio t && zf1 r
end
set_option maxRecDepth 100000 in
theorem zka : ∀ (t : Tm), zio t = true → zcm Tryz.prog 184 [.imm (.agg (zd8 t))] [] (.ret zj8 [])
  | .mk op n x ks ps, hy => by
    refine zdn 0 rfl fun hok => ?_
    have hv : ks.length ≤ 9223372036854775807 := by
      simp [zdi, vOk, zd8, maxLen] at hok
      have := hok.1
      omega
    simp only [zio, Bool.and_eq_true_iff] at hy
    refine zae zgr Tryz.func184 (by decide +kernel) rfl [1, 2, 3] rfl rfl ?_
    refine sg [] rfl (by simp) ?_
    refine zaw (fr := []) [] [] rfl (by simp) (zsb op n x ks ps hy.1) trivial rfl rfl rfl rfl ?_
    refine sg [] rfl (by simp) ?_
    refine zag (fun i : Nat => [(9, .imm (.int .i64 i)), (8, .imm (.int .i64 ks.length)), (7, .imm (.sl (zvu ks))), (1, .ref 1 0)]) (fun _ => [(1, some (.immb 141 5 (zd8 (.mk op n x ks ps))))]) [2, 3] (fun i => ks.length - i)
      (fun i => i ≤ ks.length ∧ zf1 (ks.drop i) = true) 0 ⟨Nat.zero_le _, hy.2⟩ ⟨rfl, za2 (by simp), rfl, rfl, trivial⟩ ⟨rfl, trivial⟩ rfl fun i hi ih => ?_
    refine sd [] rfl (by simp) ?_
    have hi2 := hi.2
    refine zaa rfl (fun h => ?_) (fun h => ?_)
    · simp at h
      obtain ⟨t, ht⟩ := zah h
      rw [zaj ht] at hi2
      simp only [zf1, Bool.and_eq_true_iff] at hi2
      refine sd [] rfl (by simp) ?_
      refine si rfl (c := zd8 t) (fun _ => ⟨by simp, by simpa using zhz ht, by simp⟩) (by simp) ?_
      refine sg [] rfl (by simp) ?_
      · refine zaw (fr := []) [] [] rfl (by simp) (zka t hi2.1) trivial rfl rfl rfl rfl ?_
        refine sg [] rfl (by simp) ?_
        exact zad (ih (i + 1) (by omega) ⟨by omega, hi2.2⟩) ⟨za2 (w64 (by omega) (by omega)), rfl, rfl, rfl, trivial⟩ ⟨rfl, trivial⟩ rfl
    · refine sd [] rfl (by simp) ?_
      exact zcw ⟨_, rfl, rfl, trivial⟩
termination_by t => SizeOf.sizeOf t
decreasing_by
  all_goals
    have := List.sizeOf_lt_of_mem (List.mem_of_getElem? ht)
    simp_wf
    omega
set_option maxRecDepth 100000 in
theorem zsa : ∀ (t : Tm), zio t = false → zcm Tryz.prog 184 [.imm (.agg (zd8 t))] [] (.pan zgm)
  | .mk op n x ks ps, hy => by
    refine zdn 0 rfl fun hok => ?_
    have hv : ks.length ≤ 9223372036854775807 := by
      simp [zdi, vOk, zd8, maxLen] at hok
      have := hok.1
      omega
    simp only [zio, Bool.and_eq_false_iff] at hy
    refine zae zgr Tryz.func184 (by decide +kernel) rfl [1, 2, 3] rfl rfl ?_
    refine sg [] rfl (by simp) ?_
    by_cases hn : zyj op n x ks.length ps = true
    rotate_left
    · exact zai [] rfl (by simp) (yeo op n x ks ps (by simpa using hn)) trivial rfl rfl
    rw [hn] at hy
    simp only [Bool.true_eq_false, false_or] at hy
    refine zaw (fr := []) [] [] rfl (by simp) (zsb op n x ks ps hn) trivial rfl rfl rfl rfl ?_
    refine sg [] rfl (by simp) ?_
    refine zag (fun i : Nat => [(9, .imm (.int .i64 i)), (8, .imm (.int .i64 ks.length)), (7, .imm (.sl (zvu ks))), (1, .ref 1 0)]) (fun _ => [(1, some (.immb 141 5 (zd8 (.mk op n x ks ps))))]) [2, 3] (fun i => ks.length - i)
      (fun i => i ≤ ks.length ∧ zf1 (ks.drop i) = false) 0 ⟨Nat.zero_le _, hy⟩ ⟨rfl, za2 (by simp), rfl, rfl, trivial⟩ ⟨rfl, trivial⟩ rfl fun i hi ih => ?_
    refine sd [] rfl (by simp) ?_
    have hi2 := hi.2
    refine zaa rfl (fun h => ?_) (fun h => ?_)
    · simp at h
      obtain ⟨t, ht⟩ := zah h
      rw [zaj ht] at hi2
      simp only [zf1, Bool.and_eq_false_iff] at hi2
      refine sd [] rfl (by simp) ?_
      refine si rfl (c := zd8 t) (fun _ => ⟨by simp, by simpa using zhz ht, by simp⟩) (by simp) ?_
      refine sg [] rfl (by simp) ?_
      by_cases hz : zio t = true
      · refine zaw (fr := []) [] [] rfl (by simp) (zka t hz) trivial rfl rfl rfl rfl ?_
        refine sg [] rfl (by simp) ?_
        exact zad (ih (i + 1) (by omega) ⟨by omega, by rw [hz] at hi2; simpa using hi2⟩) ⟨za2 (w64 (by omega) (by omega)), rfl, rfl, rfl, trivial⟩ ⟨rfl, trivial⟩ rfl
      · exact zai [] rfl (by simp) (zsa t (by simpa using hz)) trivial rfl rfl
    · exfalso
      simp at h
      rw [List.drop_eq_nil_of_le (by omega)] at hi2
      simp [zf1] at hi2
termination_by t => SizeOf.sizeOf t
decreasing_by
  all_goals
    have := List.sizeOf_lt_of_mem (List.mem_of_getElem? ht)
    simp_wf
    omega
def zn5 (t : Tm) : Bool := decide (0 ≤ za9 t 60 14) && zio t
set_option maxRecDepth 100000 in
theorem zzw (t : Tm) (h : zn5 t = true) : zcm Tryz.prog 182 [.ref 1 0] [(1, some (.immb 141 5 (zd8 t)))] (.ret zj8 [(1, some (.immb 141 5 (zd8 t)))]) := by
  simp only [zn5, Bool.and_eq_true, decide_eq_true_eq] at h
  refine zae zgr Tryz.func182 (by decide +kernel) rfl [2, 3, 4] rfl rfl ?_
  refine sg [] rfl (by simp) ?_
  refine zaw (fr := []) [(2, 1)] [] rfl (by simp) (zjo t 60 14 1 (by decide) (by decide) (by decide) (by decide) (by decide) (by decide) h.1) ⟨⟨rfl, rfl, rfl⟩, trivial⟩ rfl rfl rfl rfl ?_
  refine sg [] rfl (by simp) ?_
  refine zaw (fr := []) [] [] rfl (by simp) (zka t h.2) trivial rfl rfl rfl rfl ?_
  refine sg [] rfl (by simp) ?_
  exact zcw ⟨_, rfl, rfl, ⟨rfl, trivial⟩⟩
set_option maxRecDepth 100000 in
theorem ydn (t : Tm) (h : zn5 t = false) : zcm Tryz.prog 182 [.ref 1 0] [(1, some (.immb 141 5 (zd8 t)))] (.pan zgm) := by
  refine zae zgr Tryz.func182 (by decide +kernel) rfl [2, 3, 4] rfl rfl ?_
  refine sg [] rfl (by simp) ?_
  by_cases h1 : 0 ≤ za9 t 60 14
  · refine zaw (fr := []) [(2, 1)] [] rfl (by simp) (zjo t 60 14 1 (by decide) (by decide) (by decide) (by decide) (by decide) (by decide) h1) ⟨⟨rfl, rfl, rfl⟩, trivial⟩ rfl rfl rfl rfl ?_
    refine sg [] rfl (by simp) ?_
    exact zai [] rfl (by simp) (zsa t (by simpa [zn5, h1] using h)) trivial rfl rfl
  · exact zai [(2, 1)] rfl (by simp) (zxf t 60 14 1 (by decide) (by decide) (by decide) (by decide) (by decide) (by decide) (by show za9 t 60 14 < 0; omega)) ⟨⟨rfl, rfl, rfl⟩, trivial⟩ rfl rfl
set_option maxRecDepth 100000 in
theorem yg8 (t : Tm) : PureC Tryz.prog 174 [.agg (zd8 t)] (zth (zn5 t)) := by
  refine zae zgr Tryz.func174 (by decide +kernel) rfl [1, 2, 3] rfl rfl ?_
  refine sg [] rfl (by simp) ?_
  cases h : zn5 t with
  | true =>
    refine zaw (fr := []) [(1, 1)] [] rfl (by simp) (zli Tryz.func182 (by decide +kernel) rfl (zzw t h)) ⟨⟨rfl, rfl, rfl⟩, trivial⟩ rfl rfl rfl rfl ?_
    refine sg [] rfl (by simp) ?_
    exact zab ⟨_, rfl, tV rfl, trivial⟩
  | false =>
    refine zaw (fr := []) [(1, 1)] [] rfl (by simp) (zn4 Tryz.func182 (by decide +kernel) rfl (ydn t h)) ⟨⟨rfl, rfl, rfl⟩, trivial⟩ rfl rfl rfl rfl ?_
    refine sg [] rfl (by simp) ?_
    exact zab ⟨_, rfl, tV rfl, trivial⟩
end Go.Hk
