/- From a contract by value, `it returns true', to a law's row: arguments read, what was there is kept. (And what it stands on.) -/
import Derived.Test.YtlbeglekommoeaaGreatWe
import Derived.Test.YtlbeglekommoeaaGreatWc
import Derived.Maps.RangeRun
import Derived.Test.YtlbeglekommoeaaGreatWd
import Derived.Test.YtlbeglekommoeaaGreatWb
import Derived.Below
import Derived.ChangeSame
import Derived.ChangeOld
import Derived.Carry
import Derived.ChangeArms
import Derived.DataReads
import Derived.WideKeyArgs
import Derived.OpenShut
import Derived.RowKit
import Derived.ProofKit
set_option linter.unusedSimpArgs false
set_option maxRecDepth 100000
set_option linter.unusedVariables false

namespace Go.Hk
structure PMr where
  id : Nat
  kv : List (V × V)
  b : Nat
  es : Array MapEntry
  clock : Nat
  id' : Nat
  ids' : List Nat
  dst : Option Nat
  todo : List DI
def yi2 (tt : TT) (n : Nat) (env : Env) (st : St) (ids : List Nat) (todo : List DI) : Option PMr :=
  match yhb todo, ids with
  | some o, id' :: ids' => match o.guard, o.op with
    | none, .range t x => match lk tt t, evO env x with
      | some { sh := .map _ _, .. }, some (.mapr i) => match lk st i, zdg n o.dst, zcr todo ([i], [id']) with
        | some (some (.mapx kv b es clock)), true, some (_, _, todo') => some ⟨i, kv, b, es, clock, id', ids', o.dst, todo'⟩
        | _, _, _ => none
      | _, _ => none
    | _, _ => none
  | _, _ => none
structure PMn where
  i : Nat
  kv : List (V × V)
  b : Nat
  b2 : Nat
  es : Array MapEntry
  clock : Nat
  since : Nat
  seen : Array Nat
  c : Nat
  dst : Option Nat
  k : List DI
  all : List Oper
  rest : List Oper
def yoy (n : Nat) (env : Env) (st : St) (m : Nat) (todo : List DI) : Option PMn :=
  match todo with
  | .ops all (o :: rest) :: k => match o.guard, o.op with
    | none, .next x false => match evO env x, zdg n o.dst, lk st m with
      | some (.iter i), true, some (some (.mapx kv b es clock)) => match lk st i with
        | some (some (.miter b' since seen c)) => some ⟨i, kv, b, b', es, clock, since, seen, c, o.dst, k, all, rest⟩
        | _ => none
      | _, _, _ => none
    | _, _ => none
  | _ => none
structure PMe where
  i : Nat
  kv : List (V × V)
  b : Nat
  b2 : Nat
  es : Array MapEntry
  clock : Nat
  seen : Array Nat
  c : Nat
  dst : Option Nat
  todo : List DI
def yi3 (n : Nat) (env : Env) (st : St) (m : Nat) (todo : List DI) : Option PMe :=
  match yhb todo with
  | some o => match o.guard, o.op with
    | none, .entry x => match evO env x, zdg n o.dst, lk st m with
      | some (.iter i), true, some (some (.mapx kv b es clock)) => match lk st i, zcr todo ([i, m], []) with
        | some (some (.miter b' _ seen c)), some (_, _, todo') => some ⟨i, kv, b, b', es, clock, seen, c, o.dst, todo'⟩
        | _, _ => none
      | _, _, _ => none
    | _, _ => none
  | none => none
section
variable {P : Program} {n : Nat} {F : List Nat} {Q : DQ} {tt : TT} {env env' : Env} {st st' : St} {ids ids' : List Nat} {k todo todo' : List DI} {I : Imm} {μ : Mu} {w : World} {a : Act} {Pn : V → Prop} {d : D} {cx : Prop} {ob : List Prop}
theorem yqs {α : Type} {all rest : List Oper} {o : Oper} (d : α → D) (wr : α → St) (hg : o.guard = none) (hnd : ∀ c, o.op ≠ .defer c) (hn : zdg n o.dst = true)
    (hl : ∀ I μ a w, StRep I μ st ids w → zfq I μ env a o.op → valX P ((execOp a.eval o).run P w) (fun v w' => ∃ x, ∃ I' μ', StRep I' μ' (wr x ++ st) ids w' ∧ RepD I' μ' v (d x) ∧ μ.le μ' ∧ Ext I μ st w I' μ' (wr x ++ st) w') (yg9 (yl2 Q) I μ st w))
    (h : ∀ x, DGo P n F Q (.ops all rest :: k) (zei o.dst (d x) env) (wr x ++ st) ids) : DGo P n F Q (.ops all (o :: rest) :: k) env st ids := by
  have hn : ∀ t, o.dst = some t → t < n := fun t ht => by
    unfold zdg at hn
    rw [ht] at hn
    simpa [Nat.blt_eq] using hn
  intro b cs I μ a w items hd hc
  obtain ⟨j, is, rfl, hr, hk⟩ := zjy hd
  obtain ⟨hj, hr'⟩ := zej hr
  have hon : ztn (o.looksAt all.toArray) I μ env a := fun t _ d hl => hc.env t d hl
  have hlen : (o :: rest).length = rest.length + 1 := rfl
  rw [hlen, List.range'_succ]
  have hw : Region.wanted o (yielded all.toArray a.tmps) = true := zax hg
  refine zfz hj hw hnd (valX.upon ((hl I μ a w hc.toStRep (zbo hon)).mono ?_ ?_))
  · rintro v w2 ⟨x, I', μ', q1, q2, q4, q3⟩
    obtain ⟨p1, p2, p3⟩ := zje (n := n) (w := w2) (dst := o.dst) (fun t d hl => (hc.env t d hl).mono q3.imm q4) hc.size hn q2
    have := h x b cs I' μ' (a.put o.dst v) w2 (.inRegion all.toArray (List.range' (j + 1) rest.length) :: is) ⟨⟨rfl, j + 1, hr', rfl⟩, hk⟩
      { q1 with size := p2, env := by cases hdst : o.dst <;> simpa [zei, hdst] using p1, defers := by rw [p3]; exact hc.defers.ext q3 }
    rw [p3] at this
    exact this.mono fun e a' w'' hp => hp.back (.of_le q4) q3
  · rintro chain w2 ⟨v, x, I2, q1, q2, q3, q4, q5⟩
    refine ⟨.panic x, [], [], [], I2, μ, ⟨v, q1, q3⟩, q2, ?_, .refl _ _, q5, .refl _ _⟩
    exact zm8 q4 hc.size (hc.defers.ext q5)
theorem StRep.retellAt {st1 : St} (hst : StRep I μ st ids w) (h : ∀ i b, zat st1 i b → ∃ b0, zat st i b0 ∧ ∀ g, μ i = some g → BlkRep I μ w g b0 → BlkRep I μ w g b) : StRep I μ st1 ids w ∧ Ext I μ st w I μ st1 w := by
  refine ⟨{ imm := hst.imm, blk := fun i b hl => ?_, apart := fun i b g k hl hg hk => ?_, inj := fun i j bi bj gi gj k hi hj => ?_, nodup := hst.nodup, idsFree := hst.idsFree }, ?_⟩
  · obtain ⟨b0, h1, h2⟩ := h i b hl
    obtain ⟨g, hg, hr⟩ := hst.blk i b0 h1
    exact ⟨g, hg, h2 g hg hr⟩
  · obtain ⟨b0, h1, _⟩ := h i b hl
    exact hst.apart i b0 g k h1 hg hk
  · obtain ⟨b0, h1, _⟩ := h i bi hi
    obtain ⟨b1, h2, _⟩ := h j bj hj
    exact hst.inj i j b0 b1 gi gj k h1 h2
  · exact { imm := Imm.le_refl I, os := rfl, tape := rfl, output := rfl, size := Nat.le_refl _, block := fun _ _ _ => rfl, old := fun _ _ _ => rfl
            fresh := fun b _ ⟨i, bi, g, h1, h2⟩ => let ⟨b0, q, _⟩ := h i bi h1; ⟨i, b0, g, q, h2⟩ }
theorem yk6 (id : Nat) {kv : List (V × V)} (hl : lk st id = some (some (.map kv)))
    (h : ∀ b es clock, es.size = kv.length → MapKept.Stamped es clock → DGo P n F Q todo env ((id, some (.mapx kv b es clock)) :: st) ids) : DGo P n F Q todo env st ids := by
  refine zed fun I μ a w hc => ?_
  obtain ⟨g, hg, b, es, clock, rfl, h2, h3, h4, h5⟩ := hc.blk id _ hl
  obtain ⟨q1, q2⟩ := hc.toStRep.retellAt (st1 := (id, some (.mapx kv b es clock)) :: st) fun i c hlc => by
    rcases zai.1 hlc with ⟨rfl, rfl⟩ | ⟨_, h⟩
    · exact ⟨_, hl, fun g' hg' _ => by rw [hg] at hg'; cases hg'; exact ⟨rfl, h2, h3, h4, h5⟩⟩
    · exact ⟨c, h, fun _ _ h => h⟩
  exact ⟨I, μ, env, _, ids, q1, hc.env, q2, .refl _ _, h b es clock h3 h4⟩
theorem ygr (id : Nat) {kv : List (V × V)} {b clock : Nat} {es : Array MapEntry} (hl : lk st id = some (some (.mapx kv b es clock)))
    (h : DGo P n F Q todo env ((id, some (.map kv)) :: st) ids) : DGo P n F Q todo env st ids := by
  refine zed fun I μ a w hc => ?_
  obtain ⟨q1, q2⟩ := hc.toStRep.retellAt (st1 := (id, some (.map kv)) :: st) fun i c hlc => by
    rcases zai.1 hlc with ⟨rfl, rfl⟩ | ⟨_, h⟩
    · exact ⟨_, hl, fun g' hg' ⟨h1, h2, h3, h4, h5⟩ => ⟨b, es, clock, h1, h2, h3, h4, h5⟩⟩
    · exact ⟨c, h, fun _ _ h => h⟩
  exact ⟨I, μ, env, _, ids, q1, hc.env, q2, .refl _ _, h⟩
theorem ynp (htt : TTok P tt) {i0 : Nat} {kv : List (V × V)} {b : Nat} {es : Array MapEntry} {clock id0 : Nat} {ids0 : List Nat} {d0 : Option Nat} {todo0 : List DI} (h : yi2 tt n env st ids todo = some ⟨i0, kv, b, es, clock, id0, ids0, d0, todo0⟩)
    (hk : G P n F Q todo0 (zei d0 (.iter id0) env) ((id0, some (.miter b clock #[] clock)) :: st) ids0) : G P n F Q todo env st ids := by
  unfold yi2 at h
  split at h
  · rename_i o id' ids' ho
    split at h
    · rename_i t x hg hop
      split at h
      · rename_i _ _ _ _ _ _ i ht hx
        split at h
        · rename_i _ _ _ _ all o' todo' hl hd h1
          cases h
          have ho' : o' = o := zdx ho h1
          subst ho'
          refine zc5 (fr := [id0]) (wr := [(id0, some (.miter b clock #[] clock))]) (rd := [i0]) h1 ?_ hd (fun c hc => by rw [hop] at hc; cases hc) hk
          intro I μ st1 ids1 a w hag hst hon
          refine ⟨fun _ => ?_, fun hw => by rw [zax hg] at hw; cases hw⟩
          have hops := zbo hon
          rw [hop] at hops
          have hl1 : zat st1 i0 (.mapx kv b es clock) := by unfold zat; rw [hag i0 (by simp)]; exact hl
          obtain ⟨g, hgm, rfl, hheap, _⟩ := hst.blk i0 _ hl1
          have hv := hops x (by simp [Op.operands]) _ hx
          have e1 : a.eval x = .map (some b) := by
            generalize a.eval x = v at hv
            cases hv with
            | mapr _ b' hm => rw [hgm] at hm; cases hm; rfl
          have hu := htt.sh ht
          have hrun : (execOp a.eval o').run P w = .ok (.value (.pointer (some ⟨w.heap.size, 0, none⟩))) (w.alloc (.mapIter (some b) clock #[] clock)) := by
            simp only [execOp, hop, e1]
            exact zfc (run_range_map w _ _ _ b es clock hu hheap)
          rw [hrun]
          obtain ⟨μ', q1, q2, q3, q4⟩ := hst.allocO (.mapIter (some b) clock #[] clock) (.pointer (some ⟨w.heap.size, 0, none⟩)) (fun _ h => Eq.symm h) (.miter b clock #[] clock) (fun μ' _ => ⟨w.heap.size, rfl, zhd w _⟩)
          exact ⟨I, μ', q3, .iter _ _ q1, q2, q4⟩
        · cases h
      · cases h
    · cases h
  · cases h
theorem StRep.drew (hst : StRep I μ st ids w) : StRep I μ st ids w.drew :=
  { imm := hst.imm, blk := fun i b h => let ⟨g, h1, h2⟩ := hst.blk i b h; ⟨g, h1, h2.world fun _ _ => rfl⟩, apart := hst.apart, inj := hst.inj, nodup := hst.nodup, idsFree := hst.idsFree }
def ypf (es : Array MapEntry) (seen : Array Nat) : Option (Nat × MapEntry) → Prop
  | none => (leftOf es seen).size = 0
  | some (j, e) => es[j]? = some e ∧ e ∈ (leftOf es seen).toList
def yjq (kv : List (V × V)) : Option (Nat × MapEntry) → D
  | none => .imm (.tup [.bool false])
  | some (j, _) => match kv[j]? with
    | some p => .imm (.tup [.bool true, p.1, p.2])
    | none => .undef
def nextW (i b since : Nat) (seen : Array Nat) (clock : Nat) : Option (Nat × MapEntry) → St
  | none => []
  | some (_, e) => [(i, some (.miter b since (seen.push e.born) clock))]
theorem yqg (m : Nat) {i : Nat} {kv : List (V × V)} {b : Nat} {es : Array MapEntry} {clock since : Nat} {seen : Array Nat} {c : Nat} {d0 : Option Nat} {k0 : List DI} {all rest : List Oper} {b0 : Nat} (h : yoy n env st m todo = some ⟨i, kv, b, b0, es, clock, since, seen, c, d0, k0, all, rest⟩) (hbb : b0 = b)
    (hold : ∀ x ∈ es.toList, x.born < since) (hsc : since ≤ c) (hne : i ≠ m)
    (hk : ∀ x, ypf es seen x → DGo P n F Q (.ops all rest :: k0) (zei d0 (yjq kv x) env) (nextW i b since seen clock x ++ st) ids) : DGo P n F Q todo env st ids := by
  unfold yoy at h
  split at h
  · rename_i all' o rest' k'
    split at h
    · rename_i x hg hop
      split at h
      · rename_i i' kv' b1 es' clock' hx hd hm
        split at h
        · rename_i b2 since' seen' c' hi
          · cases h
            subst hbb
            refine yqs (α := { x : Option (Nat × MapEntry) // ypf es seen x }) (fun x => yjq kv x.1) (fun x => nextW i b0 since seen clock x.1) hg (fun c hc => by rw [hop] at hc; cases hc) hd (fun I μ a w hst hops => ?_) fun x => hk x.1 x.2
            rw [hop] at hops
            obtain ⟨gm, hgm, rfl, hheap, hlen, hst2, hent⟩ := hst.blk m _ hm
            obtain ⟨gi, hgi, r, rfl, hheapi⟩ := hst.blk i _ hi
            obtain ⟨r', _, hmi⟩ := (hops x (by simp [Op.operands]) _ hx).iterInv
            rw [hgi] at hmi
            have e1 : a.eval x = .pointer (some ⟨r, 0, none⟩) := (Option.some.inj hmi).symm
            have hex : ∀ v w', (Instr.next (.pointer (some ⟨r, 0, none⟩)) false o.type).run P w = .ok v w' → (execOp a.eval o).run P w = .ok (.value v) w' := fun v w' hr => by
              simp only [execOp, hop, e1]
              exact zfc hr
            rcases run_next_at w o.type r b0 since c seen es clock hheapi hheap hold hsc with ⟨h0, hr⟩ | ⟨e, he, w1, hw1, hr⟩
            · rw [hex _ _ hr]
              refine ⟨⟨none, h0⟩, I, μ, hst, .imm _ _ (.tup _ _ rfl fun i c x hc hx => ?_), Mu.le_refl μ, Ext.refl _ _ _ _⟩
              match i, hc, hx with
              | 0, hc, hx => cases hc; cases hx; exact .bool _
              | i + 1, hc, hx => simp at hx
            · rw [hex _ _ hr]
              obtain ⟨he1, _⟩ := mem_left he
              obtain ⟨j, hj⟩ := List.getElem?_of_mem he1
              have hj' : es[j]? = some e := by simpa using hj
              obtain ⟨p, hp⟩ : ∃ p, kv[j]? = some p := ⟨_, List.getElem?_eq_getElem (by rw [← hlen]; exact (Array.getElem?_eq_some_iff.1 hj').1)⟩
              obtain ⟨k1, k2⟩ := hent j e p hj' hp
              have hst1 : StRep I μ st ids w1 ∧ Ext I μ st w I μ st w1 := by
                rcases hw1 with rfl | rfl
                · exact ⟨hst, Ext.refl _ _ _ _⟩
                · exact ⟨hst.drew, Ext.drew I μ st w⟩
              have hheap1 : w1.heap[r]? = some (.mapIter (some b0) since seen c) := by rcases hw1 with rfl | rfl <;> exact hheapi
              have hbl := zcz hheap1
              obtain ⟨q1, q2⟩ := hst1.1.update (blk' := .miter b0 since (seen.push e.born) clock) (w' := ChangeMaps.setBlock w1 r (.mapIter (some b0) since (seen.push e.born) clock)) hi hgi rfl (by simp [ChangeMaps.setBlock]) rfl rfl rfl
                (fun k hk => Array.getElem?_setIfInBounds_ne (Ne.symm hk)) ⟨r, rfl, by simp [ChangeMaps.setBlock, hbl]⟩
              refine ⟨⟨some (j, e), hj', he⟩, I, μ, q1, ?_, Mu.le_refl μ, hst1.2.trans q2⟩
              simp only [yjq, hp]
              refine .imm _ _ (.tup _ _ rfl fun i c x hc hx => ?_)
              match i, hc, hx with
              | 0, hc, hx => cases hc; cases hx; exact .bool _
              | 1, hc, hx => cases hc; cases hx; exact k1
              | 2, hc, hx => cases hc; cases hx; exact k2
              | i + 3, hc, hx => simp at hx
        · cases h
      · cases h
    · cases h
  · cases h
theorem ynq (m : Nat) {i : Nat} {kv : List (V × V)} {es : Array MapEntry} {seen0 : Array Nat} {d0 : Option Nat} {todo0 : List DI} {seen : Array Nat} {j : Nat} {e : MapEntry} {p : V × V} {b b0 clock c : Nat} (h : yi3 n env st m todo = some ⟨i, kv, b, b0, es, clock, seen0, c, d0, todo0⟩) (hbb : b0 = b) (hcc : c = clock)
    (hs : seen0 = seen.push e.born) (hj : es[j]? = some e) (hp : kv[j]? = some p) (hk : G P n F Q todo0 (zei d0 (.imm (.tup [p.1, p.2])) env) st ids) : G P n F Q todo env st ids := by
  unfold yi3 at h
  split at h
  · rename_i o ho
    split at h
    · rename_i x hg hop
      split at h
      · rename_i i' kv' b1 es' clock' hx hd hm
        split at h
        · rename_i b2 since' seen' c' all o' todo' hi h1
          · cases h
            subst hbb
            subst hcc
            subst hs
            have ho' : o' = o := zdx ho h1
            subst ho'
            refine zc5 (fr := []) (wr := []) (rd := [i, m]) h1 ?_ hd (fun c hc => by rw [hop] at hc; cases hc) hk
            intro I μ st1 ids1 a w hag hst hon
            refine ⟨fun _ => ?_, fun hw => by rw [zax hg] at hw; cases hw⟩
            have hops := zbo hon
            rw [hop] at hops
            have hm1 : zat st1 m (.mapx kv b0 es c) := by unfold zat; rw [hag m (by simp)]; exact hm
            have hi1 : zat st1 i (.miter b0 since' (seen.push e.born) c) := by unfold zat; rw [hag i (by simp)]; exact hi
            obtain ⟨gm, hgm, rfl, hheap, hlen, hst2, hent⟩ := hst.blk m _ hm1
            obtain ⟨gi, hgi, r, rfl, hheapi⟩ := hst.blk i _ hi1
            obtain ⟨r', _, hmi⟩ := (hops x (by simp [Op.operands]) _ hx).iterInv
            rw [hgi] at hmi
            have e1 : a.eval x = .pointer (some ⟨r, 0, none⟩) := (Option.some.inj hmi).symm
            have he : e ∈ es.toList := List.mem_of_getElem? (by simpa using hj : es.toList[j]? = some e)
            have hrun : (execOp a.eval o').run P w = .ok (.value (.tuple #[e.key, e.val])) w := by
              simp only [execOp, hop, e1]
              exact zfc (run_entry_at w r b0 since' seen es c e hheapi hheap he hst2.2.1)
            rw [hrun]
            obtain ⟨k1, k2⟩ := hent j e p hj hp
            refine ⟨I, μ, hst, .imm _ _ (.tup _ _ rfl fun i c x hc hx => ?_), Mu.le_refl μ, Ext.refl _ _ _ _⟩
            match i, hc, hx with
            | 0, hc, hx => cases hc; cases hx; exact k1
            | 1, hc, hx => cases hc; cases hx; exact k2
            | i + 2, hc, hx => simp at hx
        · cases h
      · cases h
    · cases h
  · cases h
end
end Go.Hk
namespace Go.Hk
open Go.Proofs
theorem znx {op n : Int} {x : Str} {k p : Nat} (h : za9 op n x k p = true) : k ≤ 6 := by
  have h0 : ∀ c : Int, c ≤ 6 → ∀ b c' : Bool, (((k : Int) == c) && b && c') = true → k ≤ 6 := fun c hc b c' h => by simp at h; omega
  have h1 : ∀ c : Int, c ≤ 6 → ∀ b : Bool, (((k : Int) == c) && b) = true → k ≤ 6 := fun c hc b h => by simp at h; omega
  unfold za9 at h
  by_cases e1 : op = 1
  · rw [if_pos e1] at h; exact h0 0 (by decide) _ _ h
  rw [if_neg e1] at h
  by_cases e2 : op = 2
  · rw [if_pos e2] at h; exact h0 0 (by decide) _ _ h
  rw [if_neg e2] at h
  by_cases e3 : op = 3 ∨ op = 21 ∨ op = 25 ∨ op = 28
  · rw [if_pos e3] at h; exact h1 0 (by decide) _ h
  rw [if_neg e3] at h
  by_cases e4 : op = 4
  · rw [if_pos e4] at h; exact h0 0 (by decide) _ _ h
  rw [if_neg e4] at h
  by_cases e5 : op = 5 ∨ op = 27
  · rw [if_pos e5] at h; exact h0 1 (by decide) _ _ h
  rw [if_neg e5] at h
  by_cases e7 : op = 7
  · rw [if_pos e7] at h; exact h0 2 (by decide) _ _ h
  rw [if_neg e7] at h
  by_cases e8 : op = 8
  · rw [if_pos e8] at h; exact h1 3 (by decide) _ h
  rw [if_neg e8] at h
  by_cases e14 : op = 14
  · rw [if_pos e14] at h; simp at h; omega
  rw [if_neg e14] at h
  by_cases e15 : op = 15
  · rw [if_pos e15] at h; simp [inI] at h; omega
  rw [if_neg e15] at h
  by_cases e16 : op = 16 ∨ op = 17 ∨ op = 19 ∨ op = 20 ∨ op = 23 ∨ op = 26
  · rw [if_pos e16] at h; exact h1 1 (by decide) _ h
  rw [if_neg e16] at h
  by_cases e24 : op = 24
  · rw [if_pos e24] at h; exact h0 1 (by decide) _ _ h
  rw [if_neg e24] at h
  by_cases e6 : op = 6 ∨ op = 9 ∨ op = 10 ∨ op = 11 ∨ op = 12 ∨ op = 13 ∨ op = 18 ∨ op = 22
  · rw [if_pos e6] at h; exact h1 2 (by decide) _ h
  rw [if_neg e6] at h; cases h
theorem zuz {op n : Int} {x : Str} {k p : Nat} (h : za9 op n x k p = true) {i : Int} (ho : zbg op i = true ∨ op = 4) : zcu x = true := by
  simp only [zbg, Bool.or_eq_true, Bool.and_eq_true, beq_iff_eq] at ho
  rcases ho with ((h1 | h1) | ⟨h1, _⟩) | h1 <;> subst h1 <;> simp [za9, zbj] at h <;> exact h.2
theorem zr0 {s : Str} (h : zcu s = true) : s.length ≤ 8 := by
  simp only [zcu, Bool.and_eq_true, decide_eq_true_eq] at h
  exact h.1.1.2
mutual
theorem zo0 : ∀ p : Ty, zca p = true → ∀ q ∈ zb2 p, zcu (zew q) = true
  | .mk s n x ps, h, q, hq => by
    simp only [zca, Bool.and_eq_true] at h
    simp only [zb2, List.mem_append] at hq
    rcases hq with hq | hq
    · by_cases e : s = 2
      · rw [if_pos e] at hq
        rw [List.mem_singleton.1 hq]
        have h1 := h.1
        simp [zh6, e] at h1
        exact h1.2
      · rw [if_neg e] at hq; cases hq
    · exact zmh ps h.2 q hq
theorem zmh : ∀ l : List Ty, zbq l = true → ∀ q ∈ zbd l, zcu (zew q) = true
  | [], _, q, hq => by cases hq
  | p :: r, h, q, hq => by
    simp only [zbq, Bool.and_eq_true] at h
    simp only [zbd, List.mem_append] at hq
    rcases hq with hq | hq
    · exact zo0 p h.1 q hq
    · exact zmh r h.2 q hq
end
theorem zls {op n : Int} {x : Str} {ks : List Tm} {ps : List Ty} {k : Nat} (h : za9 op n x k ps.length = true) (hp : ps.all zct = true) (i : Int) : ∀ s ∈ zad (.mk op n x ks ps) i, zcu s = true := by
  intro s hs
  simp only [zad] at hs
  by_cases h1 : zbg op i = true
  · rw [if_pos h1] at hs
    rw [List.mem_singleton.1 hs]
    exact zuz h (.inl h1)
  · rw [if_neg h1] at hs
    by_cases h2 : zbr op i = true
    · rw [if_pos h2] at hs
      cases hg : ps[(i - 1).toNat]? with
      | none => simp only [hg] at hs; cases hs
      | some p =>
        simp only [hg, za3, List.mem_map] at hs
        obtain ⟨q, hq, rfl⟩ := hs
        have := List.all_eq_true.1 hp p (List.mem_of_getElem? hg)
        simp only [zct, Bool.and_eq_true] at this
        exact zo0 p this.1.2 q hq
    · rw [if_neg h2] at hs; cases hs
mutual
theorem zq1 : ∀ t : Tm, zak t = true → ∀ s ∈ zi7 t, zcu s = true
  | .mk op n x ks ps, h, s, hs => by
    simp only [zak, Bool.and_eq_true] at h
    simp only [zi7, List.mem_append] at hs
    rcases hs with hs | hs
    · by_cases e : op = 4
      · rw [if_pos e] at hs
        rw [List.mem_singleton.1 hs]
        exact zuz (i := 0) h.1.1 (.inr e)
      · rw [if_neg e] at hs; cases hs
    · exact zot op n x ks ps ks.length h.1.1 h.1.2 0 ks h.2 s hs
theorem zot (op n : Int) (x : Str) (k0 : List Tm) (ps : List Ty) (k : Nat) (hn : za9 op n x k ps.length = true) (hp : ps.all zct = true) : ∀ (i : Nat) (l : List Tm), zaq l = true → ∀ s ∈ zfs (.mk op n x k0 ps) i l, zcu s = true
  | _, [], _, s, hs => by cases hs
  | i, t :: r, h, s, hs => by
    simp only [zaq, Bool.and_eq_true] at h
    simp only [zfs, List.mem_append] at hs
    rcases hs with (hs | hs) | hs
    · exact zls hn hp i s hs
    · exact zq1 t h.1 s hs
    · exact zot op n x k0 ps k hn hp (i + 1) r h.2 s hs
end
mutual
theorem ybf : ∀ t : Tm, zak t = true → yp2 t + 8 ≤ 9 * zcp t
  | .mk op n x ks ps, h => by
    simp only [zak, Bool.and_eq_true] at h
    have := ydp (.mk op n x ks ps) (fun i => yli h.1.2 i) 0 ks h.2
    simp only [yp2, zcp]
    split <;> omega
theorem ydp (t : Tm) (hb : ∀ i : Int, (zad t i).length ≤ 8) : ∀ (i : Nat) (l : List Tm), zaq l = true → ztu t i l ≤ 9 * zco l
  | _, [], _ => by simp [ztu]
  | i, k :: r, h => by
    simp only [zaq, Bool.and_eq_true] at h
    have h1 := ybf k h.1
    have h2 := ydp t hb (i + 1) r h.2
    have h3 := hb i
    simp only [ztu, zco]; omega
end
mutual
theorem zrr (a b : Str) (hb : zcu b = true) : ∀ t : Tm, zak t = true → zak (zeh t a b) = true
  | .mk op n x ks ps, h => by
    simp only [zak, Bool.and_eq_true] at h
    rw [zeh]
    simp only [zak, Bool.and_eq_true, zc4]
    refine ⟨⟨?_, h.1.2⟩, zuv a b hb _ 0 ks h.2⟩
    unfold zpo
    split
    · rename_i e
      simp only [Bool.and_eq_true, beq_iff_eq] at e
      exact zp9 (i := 0) (.inr e.1) h.1.1 hb
    · exact h.1.1
theorem zuv (a b : Str) (hb : zcu b = true) (T : Tm) : ∀ (i : Nat) (l : List Tm), zaq l = true → zaq (zc7 T i l a b) = true
  | _, [], h => h
  | i, k :: r, h => by
    simp only [zaq, Bool.and_eq_true] at h
    simp only [zc7, zaq, Bool.and_eq_true]
    refine ⟨?_, zuv a b hb T (i + 1) r h.2⟩
    split
    · exact h.1
    · exact zrr a b hb k h.1
end
theorem zrb {fr : List Str} {i : Nat} {T k : Tm} {m : List Str} (hk : tmK T i = some k) (hn : zak k = true) (hs : ∀ s ∈ m, s.length ≤ 8) (hml : m.length + (zad T i).length ≤ 699) : ∀ j, j ≤ (zad T i).length → (zhm fr i T m j).2.2.length ≤ m.length + j ∧ (∀ s ∈ (zhm fr i T m j).2.2, s.length ≤ 8) ∧ ∃ k', tmK (zhm fr i T m j).2.1 i = some k' ∧ zak k' = true ∧ zcp k' = zcp k
  | 0, _ => ⟨by simp [zhm], hs, k, hk, hn, rfl⟩
  | j + 1, hj => by
    obtain ⟨h1, h2, k', h3, h4, h5⟩ := zrb (fr := fr) hk hn hs hml j (by omega)
    obtain ⟨x, hx⟩ := zal (show j < (zad T i).length by omega)
    rw [zmf hx]
    generalize zhm fr i T m j = r at *
    obtain ⟨r1, rT, rm⟩ := r
    simp only at h1 h2 h3
    simp only [zle]
    split
    · obtain ⟨q1, q2⟩ := zg7 rm (by omega)
      refine ⟨by simp only [List.length_append, List.length_singleton]; omega, fun s hs => ?_, zeh k' x (zbe rm), ?_, zrr _ _ q1 k' h4, by rw [zkp, h5]⟩
      · rcases List.mem_append.1 hs with hs | hs
        · exact h2 s hs
        · rw [List.mem_singleton.1 hs]; exact zr0 q1
      · rw [zev, zd6 h3, if_pos rfl, h3]; rfl
    · exact ⟨by simp only; omega, h2, k', h3, h4, h5⟩
def ye2 (l m : List Str) : Prop := ∀ s, s ∈ l ↔ s ∈ m
theorem yh3 {l m : List Str} (h : ye2 l m) (x : Str) : ye2 (l ++ [x]) (m ++ [x]) := fun s => by simp [h s]
theorem zld {fr : List Str} {i : Nat} : ∀ (xs : List Str) (j : Nat) (T : Tm) (l m : List Str), ye2 l m → (xs.foldl (zle fr i) (j, T, l)).2.1 = (xs.foldl (zle fr i) (j, T, m)).2.1 ∧ ye2 (xs.foldl (zle fr i) (j, T, l)).2.2 (xs.foldl (zle fr i) (j, T, m)).2.2
  | [], j, T, l, m, h => ⟨rfl, h⟩
  | x :: r, j, T, l, m, h => by
    simp only [List.foldl_cons, zle]
    split
    · rw [zpa h]
      exact zld r _ _ _ _ (yh3 h _)
    · exact zld r _ _ _ _ h
theorem zzi (rec : Tm → Tm) (nm : Str) (fr : List Str) : ∀ (k i : Nat) (T : Tm) (l m : List Str), ye2 l m → lpR rec nm fr k i T l = lpR rec nm fr k i T m
  | 0, i, T, l, m, h => rfl
  | k + 1, i, T, l, m, h => by
    obtain ⟨h1, h2⟩ := zld (fr := fr) (i := i) (zad T i) 0 T l m h
    simp only [lpR, ypb]
    rw [h1]
    exact zzi rec nm fr k (i + 1) _ _ _ h2
theorem yp9 (es : Array MapEntry) (seen : Array Nat) : (leftOf es seen).size ≤ es.size := by
  unfold leftOf; exact Array.size_filter_le
theorem yj2 {es : Array MapEntry} {seen : Array Nat} (h : (leftOf es seen).size = 0) {j : Nat} {e : MapEntry} (he : es[j]? = some e) : seen.contains e.born = true := by
  have h2 : leftOf es seen = #[] := Array.eq_empty_of_size_eq_zero h
  unfold leftOf at h2
  rw [Array.filter_eq_empty_iff] at h2
  have := h2 e (Array.mem_of_getElem? he)
  simpa using this
theorem zsb {t T U : Tm} (h : zn3 t T) (k : zn3 T U) : zn3 t U := by
  obtain ⟨op, n, y, ks, ps, y', ks', ps', rfl, rfl, h1, h2, h3⟩ := h
  obtain ⟨_, _, _, _, _, y2, ks2, ps2, e, rfl, k1, k2, k3⟩ := k
  cases e
  exact ⟨op, n, y, ks, ps, y2, ks2, ps2, rfl, rfl, k1.trans h1, k2.trans h2, fun m => (k3 m).trans (h3 m)⟩
theorem zjj : ∀ {l : List Tm} {i : Nat} {k : Tm}, zaq l = true → l[i]? = some k → zak k = true
  | [], i, k, _, h => by simp at h
  | a :: r, 0, k, h, hk => by
    simp at hk; subst hk
    simp only [zaq, Bool.and_eq_true] at h; exact h.1
  | a :: r, i + 1, k, h, hk => by
    simp only [zaq, Bool.and_eq_true] at h
    exact zjj h.2 (by simpa using hk)
theorem zfp : ∀ {l : List Tm} {i : Nat} {k : Tm}, l[i]? = some k → zcp k ≤ zco l
  | [], i, k, h => by simp at h
  | a :: r, 0, k, h => by simp at h; subst h; simp only [zco]; omega
  | a :: r, i + 1, k, h => by
    have := zfp (l := r) (i := i) (k := k) (by simpa using h)
    simp only [zco]; omega
theorem skK_im {op n : Int} {x : Str} {v u : Value} {js qs : List An} {i : Nat} (h : i < js.length) : skK (er (.mk true op n x v (zwy js) u qs)) i = some (.im true [] []) := by
  simp only [er, skK, ziw, List.getElem?_map, zwy]
  rw [List.getElem?_eq_getElem h]; rfl
theorem yii (nm : Str) (by' : Tm) (fr : List Str) (hby : zi2 by') (hfl : fr.length ≤ 60) (hfs : ∀ s ∈ nm :: fr, s.length ≤ 8) : ∀ (N : Nat) (t : Tm), zcp t ≤ N → zak t = true → zcp t ≤ 60 →
    zc8 Tryz.prog 37 [.agg (rD nm by' 7), .imm (.agg (dTmc t))] [(7, some (.map (ze7 fr)))] (.ret (.imm (.agg (dTmc (rpl nm by' fr N t)))) [(7, some (.map (ze7 fr)))])
  | 0, t, hc, hn, h60 => by have := zoe t; omega
  | N + 1, t, hc, hn, h60 => by
    have hw := zv3 t hn (by omega)
    have hp := (zh9 t hn (by omega)).2
    obtain ⟨op, n, x, ks, ps⟩ := t
    obtain ⟨bo, bn, bx, bks, bps⟩ := by'
    refine zaf zbb Tryz.func37 (by decide +kernel) rfl [2, 3, 4, 1, 5, 20, 8, 9, 10, 11, 12, 13, 14, 15, 6, 16, 17, 18, 19, 21, 22] rfl rfl ?_
    refine xg [] rfl (by simp) ?_
    refine zjt rfl ?_
    refine xg [] rfl (by simp) ?_
    refine zas (fr := []) [(1, 1)] [] rfl (by simp) (zsn (.mk op n x ks ps) [] [] hp) ⟨⟨rfl, rfl, rfl⟩, trivial⟩ rfl rfl rfl rfl ?_
    refine xg [] rfl (by simp) ?_
    refine zn6 zbb 1 rfl rfl rfl (zdc _) (by simp [zag]) (z := .bool false) rfl (fun _ => .bool _) (zhk _ nm) ?_
    refine xg [] rfl (by simp [zag]) ?_
    refine zaa rfl (fun h => ?_) (fun h => ?_)
    · refine xd [] rfl (by simp) ?_
      refine zas (fr := [5]) [] [(1, 5)] rfl (by simp) (zht (.mk op n x ks ps) hw) trivial rfl rfl rfl rfl ?_
      refine xg [] rfl (by simp) ?_
      refine zg8 (ids' := [8, 9, 10, 11, 12, 13, 14, 15, 6, 16, 17, 18, 19, 21, 22]) 5 20 (fun y : { y : Value × List An × Value × List An // (vAs y.2.1 = zcy ks ∧ vAs y.2.2.2 = zb8 ps) ∧ zc6 y.2.1 ∧ zc6 y.2.2.2 } => [y.1.1, y.1.2.2.1]) (fun y => yaq (.mk true op n x y.1.1 y.1.2.1 y.1.2.2.1 y.1.2.2.2)) rfl (fun vs I w bs h => zj0 h) fun y => ?_
      obtain ⟨⟨v, js, u, qs⟩, ⟨h5, h6⟩, hf1, hf2⟩ := y
      refine zfo 20 4 (dTmc (.mk op n x ks ps)) rfl rfl (fun vs I J w bs h1 h2 h3 cs hc => zv8 h5 h6 h1 h2 h3 cs hc) rfl ?_
      have hno : zck (zeb (.mk op n x ks ps) [] []) nm = false := by simpa using h
      rw [show rpl nm (.mk bo bn bx bks bps) fr (N + 1) (.mk op n x ks ps) = .mk op n x ks ps by simp only [rpl, hno, Bool.false_eq_true, if_false]]
      exact zab ⟨_, rfl, tV rfl, rfl, trivial⟩
    have hyes : zck (zeb (.mk op n x ks ps) [] []) nm = true := by simpa using h
    clear h
    refine xd [] rfl (by simp) ?_
    refine zaa rfl (fun h => ?_) (fun h => ?_)
    · have e : op = 4 := by simpa using h
      refine xd [] rfl (by simp) ?_
      refine zas (fr := [5]) [] [(1, 5)] rfl (by simp) (zht (.mk bo bn bx bks bps) hby) trivial rfl rfl rfl rfl ?_
      refine xg [] rfl (by simp) ?_
      refine zg8 (ids' := [8, 9, 10, 11, 12, 13, 14, 15, 6, 16, 17, 18, 19, 21, 22]) 5 20 (fun y : { y : Value × List An × Value × List An // (vAs y.2.1 = zcy bks ∧ vAs y.2.2.2 = zb8 bps) ∧ zc6 y.2.1 ∧ zc6 y.2.2.2 } => [y.1.1, y.1.2.2.1]) (fun y => yaq (.mk true bo bn bx y.1.1 y.1.2.1 y.1.2.2.1 y.1.2.2.2)) rfl (fun vs I w bs h => zj0 h) fun y => ?_
      obtain ⟨⟨v, js, u, qs⟩, ⟨h5, h6⟩, hf1, hf2⟩ := y
      refine zfo 20 4 (dTmc (.mk bo bn bx bks bps)) rfl rfl (fun vs I J w bs h1 h2 h3 cs hc => zv8 h5 h6 h1 h2 h3 cs hc) rfl ?_
      rw [show rpl nm (.mk bo bn bx bks bps) fr (N + 1) (.mk op n x ks ps) = .mk bo bn bx bks bps by simp only [rpl]; rw [if_pos hyes, if_pos e]]
      exact zab ⟨_, rfl, tV rfl, rfl, trivial⟩
    have e : op ≠ 4 := by simpa using h
    clear h
    refine yk6 7 rfl fun bm es clock hes hst => ?_
    refine xd [] rfl (by simp) ?_
    refine zas (fr := [5]) [] [(1, 5)] rfl (by simp) (zht (.mk op n x ks ps) hw) trivial rfl rfl rfl rfl ?_
    refine xg [] rfl (by simp) ?_
    refine zjt rfl ?_
    refine xg [] rfl (by simp) ?_
    refine zo9 zbb rfl rfl rfl (by simp) ?_
    refine xg [] rfl (by simp) ?_
    refine ynp zbb rfl ?_
    refine xg [] rfl (by simp) ?_
    have hlen : es.size = fr.length := by simpa [ze7] using hes
    refine zah (fun _ : Array Nat × List Str => [(37, .iter 9), (2, .ref 2 0), (3, .ref 3 0), (4, .ref 4 0), (6, .ref 8 0)])
      (fun y => [(2, some (.cells 63 7 (rD nm (.mk bo bn bx bks bps) 7))), (3, some (.cells 26 5 [.imm (.int .i64 op), .imm (.int .i64 n), .imm (.str x), .hv 5 0, .hv 5 1])), (4, some (.cells 26 5 [.imm (.int .i64 0), .imm (.int .i64 0), .imm (.str []), .nils, .nils])), (5, some (.hp (zxp true (dTmc (.mk op n x ks ps))))),
        (20, some (.map (ze7 y.2))), (7, some (.mapx (ze7 fr) bm es clock)), (8, some (.cells 61 1 [.mapr 20])), (9, some (.miter bm clock y.1 clock))]) [10, 11, 12, 13, 14, 15, 6, 16, 17, 18, 19, 21, 22]
      (fun y => (leftOf es y.1).size) (fun y => y.2.length + (leftOf es y.1).size ≤ 1 + fr.length ∧ ∀ s, s ∈ y.2 ↔ s = nm ∨ ∃ (j : Nat) (e : MapEntry), es[j]? = some e ∧ y.1.contains e.born = true ∧ fr[j]? = some s) (#[], [nm])
      ⟨by simp only [List.length_singleton]; have := yp9 es #[]; omega, fun s => by simp⟩ ⟨rfl, rfl, rfl, rfl, rfl, trivial⟩ ⟨rfl, rfl, rfl, rfl, rfl, rfl, rfl, rfl, trivial⟩ rfl fun y hi ih => ?_
    obtain ⟨seen, m⟩ := y
    obtain ⟨hi1, hi2⟩ := hi
    simp only at hi1 hi2
    refine xd [] rfl (by simp) ?_
    refine yqg 7 rfl rfl (fun x hx => hst.1 x hx) (Nat.le_refl _) (by decide) fun z hz => ?_
    rcases z with _ | ⟨j, e1⟩
    rotate_left
    · obtain ⟨hz1, hz2⟩ := hz
      obtain ⟨s, hs⟩ : ∃ s, fr[j]? = some s := zal (by rw [← hlen]; exact (Array.getElem?_eq_some_iff.1 hz1).1)
      have hkv : (ze7 fr)[j]? = some (.str s, .bool true) := by simp [ze7, hs]
      have hD : yjq (ze7 fr) (some (j, e1)) = .imm (.tup [.bool true, .str s, .bool true]) := by simp only [yjq, hkv]
      rw [hD]
      refine xd [] rfl (by simp) ?_
      refine zaa rfl (fun h => ?_) (fun h => by simp at h)
      refine xd [] rfl (by simp) ?_
      refine ynq 7 rfl rfl rfl rfl hz1 hkv ?_
      refine xg [] rfl (by simp) ?_
      refine zo9 zbb rfl rfl rfl (zdc m) ?_
      rw [zl9]
      refine xg [] rfl (by simp) ?_
      have hsh := left_shrinks es seen e1 hz2
      have hal := zxl m s
      refine zae (ih (seen.push e1.born, zl0 m s) hsh ⟨by simp only; omega, fun y => ?_⟩) ⟨rfl, rfl, rfl, rfl, rfl, trivial⟩ ⟨rfl, rfl, rfl, rfl, rfl, rfl, rfl, rfl, trivial⟩ rfl
      simp only [zwq, hi2 y]
      constructor
      · rintro ((h1 | ⟨j', e', q1, q2, q3⟩) | h1)
        · exact .inl h1
        · exact .inr ⟨j', e', q1, by rw [contains_push, q2, Bool.true_or], q3⟩
        · subst h1; exact .inr ⟨j, e1, hz1, by rw [contains_push]; simp, hs⟩
      · rintro (h1 | ⟨j', e', q1, q2, q3⟩)
        · exact .inl (.inl h1)
        · rw [contains_push, Bool.or_eq_true] at q2
          rcases q2 with q2 | q2
          · exact .inl (.inr ⟨j', e', q1, q2, q3⟩)
          · right
            have hb : e'.born = e1.born := by simpa using q2
            have hjj : j' = j := by
              have hnd := hst.2.1
              have g1 : (es.toList.map (·.born))[j']? = some e'.born := by simp [q1]
              have g2 : (es.toList.map (·.born))[j]? = some e1.born := by simp [hz1]
              rw [hb] at g1
              exact (List.getElem?_inj (List.getElem?_eq_some_iff.1 g1).1 hnd).1 (g1.trans g2.symm)
            subst hjj
            rw [q3] at hs; cases hs; rfl
    have hz : (leftOf es seen).size = 0 := hz
    have hm1 : ∀ s, s ∈ m ↔ s = nm ∨ s ∈ fr := fun s => by
      rw [hi2 s]
      constructor
      · rintro (h | ⟨j, e, _, _, h⟩)
        · exact .inl h
        · exact .inr (List.mem_of_getElem? h)
      · rintro (h | h)
        · exact .inl h
        · obtain ⟨j, hj⟩ := List.getElem?_of_mem h
          obtain ⟨e, he⟩ : ∃ e, es[j]? = some e := ⟨_, Array.getElem?_eq_getElem (by rw [hlen]; exact (List.getElem?_eq_some_iff.1 hj).1)⟩
          exact .inr ⟨j, e, he, yj2 hz he, hj⟩
    have hml : m.length ≤ 61 := by omega
    clear ih hi1 hi2
    refine xd [] rfl (by simp) ?_
    refine zaa rfl (fun h => by simp at h) (fun h => ?_)
    refine zar rfl ?_
    refine ygr 7 rfl ?_
    refine zg8 (ids' := [11, 12, 13, 14, 15, 6, 16, 17, 18, 19, 21, 22]) 5 10 (fun y : { y : Value × List An × Value × List An // (vAs y.2.1 = zcy ks ∧ vAs y.2.2.2 = zb8 ps) ∧ zc6 y.2.1 ∧ zc6 y.2.2.2 } => [y.1.1, y.1.2.2.1]) (fun y => yaq (.mk true op n x y.1.1 y.1.2.1 y.1.2.2.1 y.1.2.2.2)) rfl (fun vs I w bs h => zj0 h) fun y => ?_
    obtain ⟨⟨v, js, u, qs⟩, ⟨h5, h6⟩, hf1, hf2⟩ := y
    simp only at h5 h6 hf1 hf2
    refine zpf (ids' := [12, 13, 14, 15, 6, 16, 17, 18, 19, 21, 22]) 3 11 rfl rfl fun b => ?_
    have hva : vA (.mk true op n x v (zwy js) u qs) = dTmc (.mk op n x ks ps) := by simp only [vA, dTmc, ycp, h5, h6]
    have hjl : js.length = ks.length := by have := congrArg List.length h5; simpa using this
    refine yb9 (ids' := [13, 14, 15, 6, 16, 17, 18, 19, 21, 22]) 10 11 12 (fun _ : Unit => ziz b (.mk true op n x v js u qs)) rfl rfl (by decide) (fun vs us I w b1 b2 h1 h2 hd => ⟨(), b :: b1, fun k hk => ?_, ?_⟩) fun _ => ?_
    · obtain ⟨e, _⟩ := h2
      rcases List.mem_cons.1 hk with rfl | hk
      · right; simp [e]
      · exact .inl hk
    · obtain ⟨e1, e2, e3⟩ := h1
      obtain ⟨e, cur, z1, z2, z3⟩ := h2
      have hcs : cur.toList = cA (.mk true op n x v js u qs) := by
        obtain ⟨cur⟩ := cur
        have hl := z2.1
        match cur, hl with
        | [c0, c1, c2, c3, c4], _ =>
          have e0 := (z2.2 0 _ _ rfl rfl).immInv.intInv
          have e1 := (z2.2 1 _ _ rfl rfl).immInv.intInv
          have e2 := (z2.2 2 _ _ rfl rfl).immInv.strEq
          have e3 := (z2.2 3 _ _ rfl rfl).rawInv
          have e4 := (z2.2 4 _ _ rfl rfl).rawInv
          rw [e0, e1, e2, e3, e4]; rfl
      refine ⟨by rw [e1], List.nodup_cons.2 ⟨fun hb => hd b hb (by simp [e]), e2⟩, rfl, ⟨cur, z1, ?_⟩, ⟨cur, _, _, z1, fun j c hj => ?_⟩, e3⟩
      · have := congrArg List.length hcs; simpa [cA] using this
      · rw [← hcs] at hj; simpa using hj
    obtain ⟨sk, hsk⟩ : ∃ sk, sk = er (.mk true op n x v (zwy js) u qs) := ⟨_, rfl⟩
    refine ygt (ids' := [14, 15, 6, 16, 17, 18, 19, 21, 22]) 12 13 (fun _ : Unit => zcs b sk (.mk op n x ks ps)) rfl (fun vs I w bs h => by
      obtain ⟨b1, q1, q2⟩ := ypw h
      exact ⟨(), b1, q1, fun J hJ hk => ⟨_, hsk.symm, hva, q2 J hJ hk⟩⟩) fun _ => ?_
    have hskK : ∀ i, i < ks.length → skK sk i = some (.im true [] []) := fun i hi => by rw [hsk]; exact skK_im (by omega)
    have hsk : sk = .mk true op n [] v (ers (zwy js)) u (ers qs) := hsk
    have hfQ : ygm sk := by rw [hsk]; exact (zfe qs).2 hf2
    have hkl : ks.length ≤ 1000000 := hw.1
    refine zel 13 (fun _ : { _y : Unit // zih sk (.mk op n x ks ps) } => zcs b sk (.mk op n x ks ps)) rfl (fun vs I w bs h => ⟨⟨(), ykz hfQ hw.2.2.1 h⟩, h⟩) fun z => ?_
    obtain ⟨_, hfine⟩ := z
    have hv : ∃ ad c, v = .slice ad ks.length c ∧ (0 < ks.length → ∃ rb, ad = some ⟨rb, 0, none⟩) := by
      obtain ⟨a, o', n', x', ad, c, ks', u', qs', h1, h2, h3, _, _, h4, _⟩ := hfine
      obtain ⟨tks, tps, h5, h6, _⟩ := zmi h3 h2
      cases h5
      rw [hsk, h3] at h1
      simp only [er, An.mk.injEq] at h1
      exact ⟨ad, c, by rw [← h1.2.2.2.2.1, h6], by rw [← h6]; exact h4⟩
    obtain ⟨ad, c, rfl, hadr⟩ := hv
    refine xd [] rfl (by simp) ?_
    refine zbw zbb 13 [.imm (.int .i64 op), .imm (.int .i64 n), .imm (.str x), .raw (.slice ad ks.length c), .raw u] rfl rfl (fun _ vs I w bs h => zlg hsk rfl h) rfl rfl (by simp) ?_
    refine xg [] rfl (by simp) ?_
    refine zas (fr := []) [(13, 2), (20, 1)] [] rfl (by simp) (zx9 b sk (.mk op n x ks ps) m op n x [] (.slice ad ks.length c) (ers (zwy js)) u (ers qs) ks ps hsk rfl hp) ⟨⟨rfl, rfl, rfl⟩, ⟨rfl, rfl, rfl⟩, trivial⟩ rfl rfl rfl rfl ?_
    refine xg [] rfl (by simp) ?_
    refine zbw zbb 13 [.raw (.slice ad ks.length c)] rfl rfl (fun _ vs I w bs h => (zeo (by rw [hsk] at h; exact h)).1) rfl rfl (by simp) ?_
    refine xg [] rfl (by simp) ?_
    have hnm := hn
    simp only [zak, Bool.and_eq_true] at hnm
    have hK6 := znx hnm.1.1
    have hocc := ybf (.mk op n x ks ps) hn
    have hbnd := yoa (op := op) (n := n) (x := x) (ks := ks) hnm.1.2 ks.length 0
    have hstl := zq0 (.mk op n x ks ps) m
    have hsame : ye2 (zdk (.mk op n x ks ps) m) (nm :: fr ++ zi7 (.mk op n x ks ps)) := fun s => by
      rw [zr2, hm1 s, List.mem_append, List.mem_cons]
    have hsh1 : ∀ s ∈ zdk (.mk op n x ks ps) m, s.length ≤ 8 := fun s hs => by
      rcases List.mem_append.1 ((hsame s).1 hs) with h | h
      · exact hfs s h
      · exact zr0 (zq1 _ hn s h)
    have hfin : rpl nm (.mk bo bn bx bks bps) fr (N + 1) (.mk op n x ks ps) = lpR (rpl nm (.mk bo bn bx bks bps) fr N) nm fr ks.length 0 (.mk op n x ks ps) (zdk (.mk op n x ks ps) m) := by
      rw [rpl, if_pos hyes, if_neg e]
      exact (zzi _ nm fr ks.length 0 _ _ _ hsame).symm
    rw [hfin]
    generalize hm1' : zdk (.mk op n x ks ps) m = m1 at *
    generalize hrp : lpR (rpl nm (.mk bo bn bx bks bps) fr N) nm fr ks.length 0 (.mk op n x ks ps) m1 = res
    refine zah (fun y : Nat × Tm × List Str => [(50, .imm (.int .i64 y.1)), (49, .imm (.int .i64 ks.length)), (2, .ref 2 0), (3, .raw (.pointer (some ⟨b, 0, none⟩))), (4, .ref 4 0), (6, .ref 8 0)])
      (fun y => [(2, some (.cells 63 7 (rD nm (.mk bo bn bx bks bps) 7))), (4, some (.cells 26 5 [.imm (.int .i64 0), .imm (.int .i64 0), .imm (.str []), .nils, .nils])), (7, some (.map (ze7 fr))), (13, some (.hp (zcs b sk y.2.1))), (20, some (.map (ze7 y.2.2))), (8, some (.cells 61 1 [.mapr 20]))]) [14, 15, 6, 16, 17, 18, 19, 21, 22]
      (fun y => ks.length - y.1) (fun y => y.1 ≤ ks.length ∧ zih sk y.2.1 ∧ zn3 (.mk op n x ks ps) y.2.1 ∧ (∀ l k, y.1 ≤ l → ks[l]? = some k → tmK y.2.1 l = some k) ∧ y.2.2.length + zhw (.mk op n x ks ps) (ks.length - y.1) y.1 ≤ 699 ∧ (∀ s ∈ y.2.2, s.length ≤ 8) ∧
        lpR (rpl nm (.mk bo bn bx bks bps) fr N) nm fr (ks.length - y.1) y.1 y.2.1 y.2.2 = res) (0, .mk op n x ks ps, m1)
      ⟨Nat.zero_le _, hfine, zhp _, fun l k _ h => h, by simp only [Nat.sub_zero]; omega, hsh1, hrp⟩ ⟨rfl, rfl, rfl, rfl, rfl, rfl, trivial⟩ ⟨rfl, rfl, rfl, rfl, rfl, rfl, trivial⟩ rfl fun y hi ih => ?_
    obtain ⟨i, T, tm⟩ := y
    obtain ⟨d1, d2, d3, d4, d5, d6, d7⟩ := hi
    simp only at d1 d2 d3 d4 d5 d6 d7
    refine xd [] rfl (by simp) ?_
    refine zaa rfl (fun h => ?_) (fun h => ?_)
    · simp at h
      obtain ⟨kid, hkid⟩ : ∃ kid, ks[i]? = some kid := zal h
      have hkT := d4 i kid (Nat.le_refl _) hkid
      obtain ⟨p1, p2, p3, p4, p5, x1, kn, ps1, hT1, hT, hl1, hl2, hbl⟩ := d3
      cases hT1
      subst hT
      refine xd [] rfl (by simp) ?_
      have hbi : (zad (.mk op n x1 kn ps1) i).length ≤ 8 := by rw [hbl]; exact yli hnm.1.2 i
      refine zas (fr := [15]) [(13, 1)] [(4, 15)] rfl (by simp) (yft b sk op n x1 kn ps1 i (by omega) (fun ho hp2 => by
        simp only [zad, if_pos hp2] at hbi
        cases hg : ps1[((i : Int) - 1).toNat]? with
        | none =>
          exfalso
          have := znw hnm.1.1 hp2 h
          rw [List.getElem?_eq_none_iff] at hg; omega
        | some q =>
          refine ⟨q, rfl, ?_⟩
          simp only [hg, ho, Bool.false_eq_true, if_false] at hbi
          omega)) ⟨⟨rfl, rfl, rfl⟩, trivial⟩ rfl rfl rfl rfl ?_
      refine xg [] rfl (by simp) ?_
      obtain ⟨rb, hrb⟩ : ∃ rb, rb = zhm fr i (.mk op n x1 kn ps1) tm (zad (.mk op n x1 kn ps1) i).length := ⟨_, rfl⟩
      have hskI := hskK i h
      have hknd : zak kid = true := zjj hnm.2 hkid
      have hbS : zhw (.mk op n x ks ps) (ks.length - i) i = (zad (.mk op n x1 kn ps1) i).length + zhw (.mk op n x ks ps) (ks.length - (i + 1)) (i + 1) := by
        rw [show ks.length - i = (ks.length - (i + 1)) + 1 by omega, hbl]; rfl
      have hml9 : tm.length + (zad (.mk op n x1 kn ps1) i).length ≤ 699 := by omega
      obtain ⟨_, b2, b3, b4, _, b6, kid2, b7, b8, _⟩ := zwe (i := i) d2 hskI hkT fr tm _ (Nat.le_refl _)
      obtain ⟨c1, c2, kid3, c3, c4, c5⟩ := zrb (fr := fr) hkT hknd d6 hml9 _ (Nat.le_refl _)
      rw [← hrb] at b2 b3 b4 b6 b7 c1 c2 c3
      rw [b7] at c3; cases c3
      obtain ⟨rbd, hrb0⟩ := hadr (by omega)
      subst hrb0
      by_cases hB : zbg op i = true ∨ (zbg op i = false ∧ zbr op i = true)
      case' pos =>
        obtain ⟨fB, ty, vB, fcB, cB, q1, q2, q3, q4, q5⟩ := ylj (b := b) (i := i) d2 rfl (by omega) (by
            rcases hB with hB | ⟨hB1, hB2⟩
            · exact .inl hB
            · refine .inr ⟨hB1, hB2, ?_⟩
              have := znw hnm.1.1 hB2 h
              omega)
        refine zas (fr := [6]) [(13, 1)] [(6, 6)] rfl (by simp) q4 ⟨⟨rfl, rfl, rfl⟩, trivial⟩ rfl rfl rfl rfl ?_
        refine xg [] rfl (by simp) ?_
        refine zd1 (y := 3) (j := 4) (j2 := 5) (stc := yg0 ty vB) (stc' := yg0 ty vB) (stx := stQ b sk nm (.mk bo bn bx bks bps) fr i (zad (.mk op n x1 kn ps1) i) (0, .mk op n x1 kn ps1, tm)) (stB := stQ b sk nm (.mk bo bn bx bks bps) fr i (zad (.mk op n x1 kn ps1) i) rb) (pend := none) (E := yra b ks.length i (zad (.mk op n x1 kn ps1) i)) (ids' := [6, 16, 17, 18, 19, 21, 22]) (d := .tup []) rfl q1 q2 q3 (show ya3 ∉ [7] by decide) ⟨rfl, rfl, rfl, rfl, rfl, rfl, rfl, rfl, trivial⟩
          (zci ⟨rfl, rfl, rfl, rfl, rfl, rfl, rfl, rfl, rfl, trivial⟩) (fun L h1 h2 h3 h4 h5 h6 h7 => ?_) ?_ ?_ ?_ ?_ ?_
        · have := q5 (fun j => zdv L (stQ b sk nm (.mk bo bn bx bks bps) fr i (zad (.mk op n x1 kn ps1) i) (zhm fr i (.mk op n x1 kn ps1) tm j)) none) (fun j => ⟨(zhm fr i (.mk op n x1 kn ps1) tm j).2.1, fun I w bb bs hP => ypa (i := 13) hP rfl⟩) fun j d hd => by
              have hj : j < (zad (.mk op n x1 kn ps1) i).length := by
                have := (List.getElem?_eq_some_iff.1 hd).1
                rwa [List.length_map, yad d2] at this
              rw [Nat.zero_add]
              exact ye8 b sk nm (.mk bo bn bx bks bps) fr (zad (.mk op n x1 kn ps1) i) i ks.length (.mk op n x1 kn ps1) kid tm d2 hsk hskI hkT (zh9 kid hknd (by have := zfp hkid; simp only [zcp] at h60; omega)).2 h hkl (fun j hj s hs => by
                have := (zrb (fr := fr) hkT hknd d6 hml9 j hj).2.1 s hs
                unfold maxLen; omega) hml9 j hj d hd h1 h2 h3 h4 h5 h6 h7
          rw [Nat.zero_add, yad d2, ← hrb] at this
          exact this
        · simp [yg0, stQ, nms]
        · simp [yg0, nms]
        · intro i hi
          have e : nmL (zlx (zi0 (zbz [(13, 1)] ++ [(6, 6)])) [] ++ zlx (zi0 (zbz [(13, 1)] ++ [(6, 6)])) [.ref 6 0]) = [6] := rfl
          rw [e] at hi
          simpa [yg0, nms, zfk, nmB, nmL, nmD] using hi
        · refine ⟨by decide, ?_⟩
          simp [stQ, yra, rD, nmE, nmD, zfk, nmB, nmL, nms]
      case' neg =>
        have hN : zbg op i = false ∧ zbr op i = false := by
          cases e1 : zbg op i <;> cases e2 : zbr op i <;> simp [e1, e2] at hB ⊢
        have hb0 : (zad (.mk op n x1 kn ps1) i).length = 0 := by simp [zad, hN.1, hN.2]
        have hrb0 : rb = (0, .mk op n x1 kn ps1, tm) := by rw [hrb, hb0]; rfl
        refine zas (fr := []) [(13, 1)] [] rfl (by simp) (zth (zcs b sk (.mk op n x1 kn ps1)) b op i (zp1 (zig d2)) hN.1 hN.2) ⟨⟨rfl, rfl, rfl⟩, trivial⟩ rfl rfl rfl rfl ?_
        refine xg [] rfl (by simp) ?_
        refine zs3 56 rfl ?_
        refine zd1 (y := 3) (j := 4) (j2 := 5) (stc := []) (stc' := []) (stx := stQ b sk nm (.mk bo bn bx bks bps) fr i (zad (.mk op n x1 kn ps1) i) (0, .mk op n x1 kn ps1, tm)) (stB := stQ b sk nm (.mk bo bn bx bks bps) fr i (zad (.mk op n x1 kn ps1) i) (0, .mk op n x1 kn ps1, tm)) (pend := none) (E := yra b ks.length i (zad (.mk op n x1 kn ps1) i)) (ids' := [6, 16, 17, 18, 19, 21, 22]) (d := .tup []) rfl Tryz.func99 (by decide +kernel) rfl (show ya3 ∉ [7] by decide) ⟨rfl, rfl, rfl, rfl, rfl, rfl, rfl, rfl, trivial⟩
          (zci ⟨rfl, rfl, rfl, rfl, rfl, rfl, rfl, rfl, trivial⟩) (fun L h1 h2 h3 h4 h5 h6 h7 => zne) ?_ ?_ ?_ ?_ ?_
        · simp [nms]
        · simp [nms]
        · intro i hi
          have e : nmL (([] : List D) ++ []) = [] := rfl
          rw [e] at hi
          simp [zfk] at hi
        · refine ⟨by decide, ?_⟩
          simp [stQ, yra, rD, nmE, nmD, zfk, nmB, nmL, nms]
        rw [← hrb0]
      all_goals
        refine xd [] rfl (by simp) ?_
        refine zas (fr := []) [(15, 1)] [] rfl (by simp) (zmc (zad (.mk op n x1 kn ps1) i) nm _) ⟨⟨rfl, rfl, rfl⟩, trivial⟩ rfl rfl rfl rfl ?_
        refine xg [] rfl (by simp) ?_
        have hlike := zsb ⟨op, n, x, ks, ps, x1, kn, ps1, rfl, rfl, hl1, hl2, hbl⟩ b4
        have hbs9 : rb.2.2.length + zhw (.mk op n x ks ps) (ks.length - (i + 1)) (i + 1) ≤ 699 := by omega
        have hother : ∀ l k, i + 1 ≤ l → ks[l]? = some k → tmK rb.2.1 l = some k := fun l k hl hk => by
          rw [b6 l (by omega)]; exact d4 l k (by omega) hk
        rw [show ks.length - i = (ks.length - (i + 1)) + 1 by omega, lpR, ← yc8, ← hrb, b7] at d7
        refine zaa rfl (fun h2 => ?_) (fun h2 => ?_)
        · have hno : ¬ zck (zad (.mk op n x1 kn ps1) i) nm = true := by simpa using h2
          rw [if_neg hno] at d7
          simp only [Option.getD_some] at d7
          have IH := yii nm (.mk bo bn bx bks bps) fr hby hfl hfs N kid2 (by rw [b8]; have := zfp hkid; simp only [zcp] at hc; omega) c4 (by rw [b8]; have := zfp hkid; simp only [zcp] at h60; omega)
          obtain ⟨ro, rn, rx, rks, rps, hres⟩ := zko (rpl nm (.mk bo bn bx bks bps) fr N kid2)
          rw [hres] at IH d7
          have hkv : ∀ vs I w bs, (zcs b sk rb.2.1).P vs I w bs → zdh I w rbd (0 + ((i : Int)).toNat * 5) ((dTmc kid2).map .imm) := fun vs I w bs h => by
            have := zoy (zig b2) hsk hskI b7 h
            simpa using this
          have hks := zkw (b := b) (zig b2) hsk hskI b7 (.mk ro rn rx rks rps)
          rw [show i * 5 = 0 + ((i : Int)).toNat * 5 by simp] at hks
          have hraw : ∀ vs I w bs, (zcs b sk rb.2.1).P vs I w bs → zdh I w b 3 [.raw (.slice (some ⟨rbd, 0, none⟩) ks.length c)] := fun vs I w bs h => (zeo (by rw [hsk] at h; exact h)).1
          obtain ⟨ko, kn2, kx, kks, kps, rfl⟩ := zko kid2
          refine xd [] rfl (by simp) ?_
          refine zbw zbb 13 [.raw (.slice (some ⟨rbd, 0, none⟩) ks.length c)] rfl rfl (fun _ => hraw) rfl rfl (by simp) ?_
          refine xg [] rfl (by simp) ?_
          refine zbw zbb 13 [.raw (.slice (some ⟨rbd, 0, none⟩) ks.length c)] rfl rfl (fun _ => hraw) rfl rfl (by simp) ?_
          refine xg [] rfl (by simp) ?_
          refine zdq zbb rfl rfl (fun _ => ⟨by simp, by simpa using h⟩) (by simp) ?_
          refine xg [] rfl (by simp) ?_
          refine zbw zbb 13 [.imm (.int .i64 ko), .imm (.int .i64 kn2), .imm (.str kx), .imm (.sl (zcy kks)), .imm (.sl (zb8 kps))] rfl rfl (fun _ => hkv) rfl rfl (by simp) ?_
          refine xg [] rfl (by simp) ?_
          refine zas (fr := []) [(7, 7)] [] rfl (by simp) IH ⟨⟨rfl, rfl, rfl⟩, trivial⟩ rfl rfl rfl rfl ?_
          refine xg [] rfl (by simp) ?_
          refine zdq zbb rfl rfl (fun _ => ⟨by simp, by simpa using h⟩) (by simp) ?_
          refine zqh zbb 13 (zcs b sk (zcj rb.2.1 i (.mk ro rn rx rks rps))) rfl rfl hks ?_
          refine xg [] rfl (by simp; rfl) ?_
          refine zae (ih (i + 1, zcj rb.2.1 i (.mk ro rn rx rks rps), rb.2.2) (by simp only; omega) ⟨by simp only; omega, zsr b2 hskI b7 _, zsc hlike i _, fun l k hl hk => ?_, hbs9, c2, d7⟩) ⟨zcn (w64 (by omega) (by omega)), rfl, rfl, rfl, rfl, rfl, trivial⟩ ⟨rfl, rfl, rfl, rfl, rfl, rfl, trivial⟩ rfl
          simp only at hl ⊢
          rw [zd6 b7, if_neg (by omega)]
          exact hother l k hl hk
        · have hyes2 : zck (zad (.mk op n x1 kn ps1) i) nm = true := by simpa using h2
          rw [if_pos hyes2] at d7
          refine xd [] rfl (by simp) ?_
          exact zae (ih (i + 1, rb.2.1, rb.2.2) (by simp only; omega) ⟨by simp only; omega, b2, hlike, hother, hbs9, c2, d7⟩) ⟨zcn (w64 (by omega) (by omega)), rfl, rfl, rfl, rfl, rfl, trivial⟩ ⟨rfl, rfl, rfl, rfl, rfl, rfl, trivial⟩ rfl
    · simp at h
      have hi : i = ks.length := by omega
      subst hi
      simp only [Nat.sub_self, lpR] at d7
      subst d7
      obtain ⟨p1, p2, p3, p4, p5, x1, kn, ps1, hT1, hT, _⟩ := d3
      cases hT1
      subst hT
      clear ih
      refine zar rfl ?_
      refine xd [] rfl (by simp) ?_
      refine zbw zbb 13 [.imm (.int .i64 op), .imm (.int .i64 n), .imm (.str x1), .raw (.slice ad ks.length c), .raw u] rfl rfl (fun _ vs I w bs h => zlg hsk rfl h) rfl rfl (by simp) ?_
      refine xg [] rfl (by simp) ?_
      refine zfo 13 4 (dTmc (.mk op n x1 kn ps1)) rfl rfl (fun vs I J w bs h1 h2 h3 cs hc => yh9 hsk rfl h1 h2 h3 cs hc) rfl ?_
      exact zab ⟨_, rfl, tV rfl, rfl, trivial⟩
theorem zyi (T : Tm) (ks : List Tm) (i : Int) : ∀ (fl : List Str) (j : Nat), zbv (ze6 T ks) i j fl = ze6 (zbv T i j fl) ks := by
  intro fl j
  obtain ⟨op, n, y, k0, ps⟩ := T
  simp only [ze6]
  rw [zee, zee]
  split
  · rfl
  · split
    · split <;> rfl
    · rfl
theorem ybd {op n : Int} {x : Str} {ks : List Tm} {ps : List Ty} (h : za9 op n x ks.length ps.length = true) : zxu ks.length (.mk op n x ks ps) := fun i j hi hj h1 h2 => yjc h hi hj h1 h2
theorem l1_pre {op n : Int} {x : Str} {ks : List Tm} {ps : List Ty} (h : za9 op n x ks.length ps.length = true) (tk : List Str) (s : Sc) : ∃ g, (l1 ks.length 0 (.mk op n x ks ps) tk s []).2.1 = tk ++ g := by
  obtain ⟨_, _, ⟨g, h1, _⟩, _⟩ := ybp (K := ks.length) ks.length 0 (.mk op n x ks ps) tk s [] (by omega) (ybd h)
  exact ⟨g, h1⟩
mutual
theorem yn8 : ∀ (t : Tm) (s : Sc) (tk : List Str), zak t = true → ∃ g, (zgz t s tk).2 = tk ++ g
  | .mk op n x ks ps, s, tk, h => by
    simp only [zak, Bool.and_eq_true] at h
    by_cases e : op = 4
    · exact ⟨[], by simp [zgz, e]⟩
    · obtain ⟨g, h1⟩ := l1_pre h.1.1 tk s
      obtain ⟨g2, h2⟩ := znc ks (l1 ks.length 0 (.mk op n x ks ps) tk s []).2.2 (l1 ks.length 0 (.mk op n x ks ps) tk s []).2.1 h.2
      refine ⟨g ++ g2, ?_⟩
      simp only [zgz, if_neg e]
      rw [h2, h1, List.append_assoc]
theorem znc : ∀ (l : List Tm) (scs : List Sc) (tk : List Str), zaq l = true → ∃ g, (ze3 l scs tk).2 = tk ++ g
  | [], scs, tk, _ => ⟨[], by simp [ze3]⟩
  | k :: r, scs, tk, h => by
    simp only [zaq, Bool.and_eq_true] at h
    obtain ⟨g, h1⟩ := yn8 k (scs.headD []) tk h.1
    obtain ⟨g2, h2⟩ := znc r scs.tail (zgz k (scs.headD []) tk).2 h.2
    exact ⟨g ++ g2, by simp only [ze3]; rw [h2, h1, List.append_assoc]⟩
end
def nowS (s : Sc) (y : Str) : Str := (zhb s y).getD y
theorem zuu {l : List Str} {j : Nat} {f : Str} (h : l.Nodup) (hf : f ∉ l) : (l.set j f).Nodup := by
  induction l generalizing j with
  | nil => simp
  | cons a r ih =>
    obtain ⟨h1, h2⟩ := List.nodup_cons.1 h
    cases j with
    | zero => exact List.nodup_cons.2 ⟨fun hm => hf (by simp [hm]), h2⟩
    | succ j =>
      refine List.nodup_cons.2 ⟨fun hm => ?_, ih h2 fun hm => hf (by simp [hm])⟩
      rcases List.mem_or_eq_of_mem_set hm with hm | hm
      · exact h1 hm
      · exact hf (by simp [hm])
theorem yi9 {p : Ty} {j : Nat} {f : Str} (h : zct p = true) (hf : zcu f = true) (hn : f ∉ za3 p) : zct (zc2 p j f) = true := by
  simp only [zct, Bool.and_eq_true, decide_eq_true_eq] at h ⊢
  obtain ⟨a, b⟩ := zwc p j f hf h.1.2
  refine ⟨⟨by rw [b]; exact h.1.1, a⟩, ?_⟩
  rw [← zgm _ a, zgu]
  have e : (zb2 (zc2 p j f)).map zew = (za3 p).set j f := zgc p j f
  rw [e]
  refine zuu ?_ hn
  have := h.2
  rw [← zgm _ h.1.2, zgu] at this
  exact this
def zb3 : Tm → Nat
  | .mk _ _ _ ks _ => ks.length
theorem ybg {T : Tm} {i j : Nat} {f : Str} (h : zak T = true) (hf : zcu f = true) (hn : f ∉ zad T i) : zak (zc3 T i j f) = true := by
  obtain ⟨op, n, x, ks, ps⟩ := T
  simp only [zak, Bool.and_eq_true] at h
  simp only [zad] at hn
  simp only [zc3]
  by_cases h1 : zbg op i = true
  · rw [if_pos h1]
    simp only [zak, Bool.and_eq_true]
    exact ⟨⟨zp9 (.inl h1) h.1.1 hf, h.1.2⟩, h.2⟩
  · rw [if_neg h1]
    by_cases h2 : zbr op i = true
    · rw [if_pos h2]
      rw [if_neg h1, if_pos h2] at hn
      cases hp : ps[((i : Int) - 1).toNat]? with
      | none => simp only [zak, Bool.and_eq_true]; exact h
      | some p =>
        simp only [hp] at hn
        simp only [zak, Bool.and_eq_true, List.length_set]
        refine ⟨⟨h.1.1, ?_⟩, h.2⟩
        rw [List.all_eq_true]
        intro q hq
        rcases List.mem_or_eq_of_mem_set hq with hq | hq
        · exact List.all_eq_true.1 h.1.2 q hq
        · rw [hq]; exact yi9 (List.all_eq_true.1 h.1.2 p (List.mem_of_getElem? hp)) hf hn
    · rw [if_neg h2]; simp only [zak, Bool.and_eq_true]; exact h
theorem zuw {T k : Tm} {i : Nat} (h : zak T = true) (hk : zak k = true) : zak (zcj T i k) = true := by
  obtain ⟨op, n, x, ks, ps⟩ := T
  simp only [zcj, zak, Bool.and_eq_true, List.length_set] at h ⊢
  exact ⟨h.1, zo4 h.2 hk⟩
theorem zy7 {T k : Tm} {i : Nat} (h : zak T = true) (hk : tmK T i = some k) : zak k = true := by
  obtain ⟨op, n, x, ks, ps⟩ := T
  simp only [zak, Bool.and_eq_true] at h
  exact zjj h.2 hk
theorem yce {T : Tm} {i l j : Nat} {f : Str} (h : zak T = true) (hi : i < zb3 T) (hl : l < zb3 T) (hne : l ≠ i) : zad (zc3 T i j f) l = zad T l := by
  obtain ⟨op, n, x, ks, ps⟩ := T
  simp only [zak, Bool.and_eq_true] at h
  simp only [zb3] at hi hl
  simp only [zc3]
  by_cases h1 : zbg op i = true
  · have h3 : ¬ zbg op l = true := fun h3 => hne (yjc h.1.1 hl hi h3 h1)
    rw [if_pos h1]
    simp only [zad, if_neg h3]
  · rw [if_neg h1]
    by_cases h2 : zbr op i = true
    · rw [if_pos h2]
      cases hp : ps[((i : Int) - 1).toNat]? with
      | none => rfl
      | some p =>
        simp only [zad]
        by_cases h3 : zbg op l = true
        · rw [if_pos h3, if_pos h3]
        · rw [if_neg h3, if_neg h3]
          by_cases h4 : zbr op l = true
          · rw [if_pos h4, if_pos h4]
            have : ((i : Int) - 1).toNat ≠ ((l : Int) - 1).toNat := by
              simp only [zbr, Bool.and_eq_true, decide_eq_true_eq] at h2 h4
              omega
            rw [List.getElem?_set_ne this]
          · rw [if_neg h4, if_neg h4]
    · rw [if_neg h2]
theorem zww (T : Tm) (i : Int) (j : Nat) (f : Str) : zb3 (zc3 T i j f) = zb3 T := by
  obtain ⟨op, n, x, ks, ps⟩ := T
  obtain ⟨y', ps', h, _⟩ := zma op n x ks ps i j f
  rw [h]; rfl
theorem zfd (T : Tm) (i : Nat) (k : Tm) : zb3 (zcj T i k) = zb3 T := by
  obtain ⟨op, n, x, ks, ps⟩ := T
  simp [zcj, zb3]
theorem yoo {T k : Tm} {i : Nat} (h : tmK T i = some k) : i < zb3 T := by
  obtain ⟨op, n, x, ks, ps⟩ := T
  exact (List.getElem?_eq_some_iff.1 h).1
theorem zj7 {T : Tm} {i : Nat} (h : i < zb3 T) : ∃ k, tmK T i = some k := by
  obtain ⟨op, n, x, ks, ps⟩ := T
  exact zal h
theorem zyt {fr : List Str} {i : Nat} {T : Tm} {m : List Str} (hn : zak T = true) (hi : i < zb3 T) (hsub : ∀ s ∈ zad T i, s ∈ m) (hml : m.length + (zad T i).length ≤ 699) : ∀ j, j ≤ (zad T i).length →
    (zhm fr i T m j).1 = j ∧ zak (zhm fr i T m j).2.1 = true ∧ (∀ s ∈ zad (zhm fr i T m j).2.1 i, s ∈ (zhm fr i T m j).2.2) ∧ (∀ l, l < zb3 T → l ≠ i → zad (zhm fr i T m j).2.1 l = zad T l) ∧ (∀ s ∈ m, s ∈ (zhm fr i T m j).2.2) ∧
      (zhm fr i T m j).2.2.length ≤ m.length + j ∧ zb3 (zhm fr i T m j).2.1 = zb3 T ∧ (zad (zhm fr i T m j).2.1 i).length = (zad T i).length ∧ (∀ l, j ≤ l → (zad (zhm fr i T m j).2.1 i)[l]? = (zad T i)[l]?) ∧ (∀ l, l ≠ i → tmK (zhm fr i T m j).2.1 l = tmK T l) ∧ zn3 T (zhm fr i T m j).2.1 ∧ (∀ k, tmK T i = some k → ∃ k', tmK (zhm fr i T m j).2.1 i = some k' ∧ zcp k' = zcp k)
  | 0, _ => ⟨rfl, hn, hsub, fun _ _ _ => rfl, fun _ h => h, by simp [zhm], rfl, rfl, fun _ _ => rfl, fun _ _ => rfl, zhp T, fun k hk => ⟨k, hk, rfl⟩⟩
  | j + 1, hj => by
    obtain ⟨h1, h2, h3, h4, h5, h6, h7, h8, h9, h10, h11, h12⟩ := zyt (fr := fr) hn hi hsub hml j (by omega)
    obtain ⟨x, hx⟩ := zal (show j < (zad T i).length by omega)
    rw [zmf hx]
    generalize zhm fr i T m j = r at *
    obtain ⟨r1, rT, rm⟩ := r
    simp only at h1 h2 h3 h4 h5 h6 h7 h8 h9 h10 h11 h12
    subst h1
    simp only [zle]
    by_cases hx2 : zck fr x = true
    · rw [if_pos hx2]
      obtain ⟨q1, q2⟩ := zg7 rm (by omega)
      obtain ⟨k, hk⟩ := zj7 (show i < zb3 rT by omega)
      have hkn := zy7 h2 hk
      have hKn : zak (zcj rT i (zeh ((tmK rT i).getD zTm) x (zbe rm))) = true := zuw h2 (by rw [hk]; exact zrr _ _ q1 _ hkn)
      have hlt : r1 < (zad (zcj rT i (zeh ((tmK rT i).getD zTm) x (zbe rm))) i).length := by rw [zbs, h8]; omega
      refine ⟨rfl, ybg hKn q1 (by rw [zbs]; exact fun hm => q2 (h3 _ hm)), fun s hs => ?_, fun l hl hne => ?_, fun s hs => List.mem_append_left _ (h5 s hs), by simp only [List.length_append, List.length_singleton]; omega, ?_, ?_, fun l hl => ?_, fun l hl => ?_, zwu (zsc h11 i _) _ _ _, fun k1 hk1 => ?_⟩
      · rw [zhu _ hlt, zbs] at hs
        rcases List.mem_or_eq_of_mem_set hs with hs | hs
        · exact List.mem_append_left _ (h3 s hs)
        · exact List.mem_append_right _ (by rw [hs]; simp)
      · rw [yce hKn (by rw [zfd]; omega) (by rw [zfd]; omega) hne, zbs, h4 l hl hne]
      · rw [zww, zfd, h7]
      · rw [zd8, zbs, h8]
      · rw [zhu _ hlt, List.getElem?_set_ne (by omega), zbs, h9 l (by omega)]
      · rw [zev, zd6 hk, if_neg hl, h10 l hl]
      · obtain ⟨k2, e1, e2⟩ := h12 k1 hk1
        rw [hk] at e1; cases e1
        exact ⟨zeh k x (zbe rm), by rw [zev, zd6 hk, if_pos rfl, hk]; rfl, by rw [zkp, e2]⟩
    · rw [if_neg hx2]
      exact ⟨rfl, h2, h3, h4, h5, by simp only; omega, h7, h8, fun l hl => h9 l (by omega), h10, h11, h12⟩
theorem zr4 {rec : Tm → Tm} {nm : Str} {fr : List Str} {C : Nat} (hrec : ∀ k, zak k = true → zcp k ≤ C → zak (rec k) = true) : ∀ (k i : Nat) (T : Tm) (m : List Str), zak T = true → i + k = zb3 T → (∀ l, l < zb3 T → i ≤ l → ∀ s ∈ zad T l, s ∈ m) → m.length + zhw T k i ≤ 699 → (∀ l k, i ≤ l → tmK T l = some k → zcp k ≤ C) → zak (lpR rec nm fr k i T m) = true
  | 0, i, T, m, hn, _, _, _, _ => hn
  | k + 1, i, T, m, hn, hlen, hsub, hml, hC => by
    simp only [zhw] at hml
    obtain ⟨_, a2, a3, a4, a5, a6, a7, a8, _, a10, a11, a12⟩ := zyt (fr := fr) hn (by omega) (hsub i (by omega) (Nat.le_refl _)) (by omega) _ (Nat.le_refl _)
    rw [yc8] at a2 a3 a4 a5 a6 a7 a8 a10 a11 a12
    simp only [lpR]
    generalize ypb fr i T m = r at *
    obtain ⟨r1, rT, rm⟩ := r
    simp only at *
    obtain ⟨k0, hk0⟩ := zj7 (show i < zb3 T by omega)
    obtain ⟨kk, hkk, hcn⟩ := a12 k0 hk0
    have hCk := hC i k0 (Nat.le_refl _) hk0
    have hc : ∀ U, (∀ l : Int, zad U l = zad rT l) → zhw U k (i + 1) = zhw T k (i + 1) := fun U hU => zfi (fun l => by
      obtain ⟨_, _, _, _, _, _, _, _, _, _, _, _, hb⟩ := a11
      rw [hU]; exact hb l) k (i + 1)
    split
    · exact zr4 hrec k (i + 1) rT rm a2 (by omega) (fun l hl hl2 s hs => by rw [a4 l (by omega) (by omega)] at hs; exact a5 s (hsub l (by omega) (by omega) s hs)) (by rw [hc _ fun _ => rfl]; omega) (fun l k hl hk => hC l k (by omega) (by rw [← a10 l (by omega)]; exact hk))
    · refine zr4 hrec k (i + 1) _ rm (zuw a2 (by rw [hkk]; exact hrec kk (zy7 a2 hkk) (by omega))) (by rw [zfd]; omega) (fun l hl hl2 s hs => ?_) (by rw [hc _ fun l => zbs rT i _ l]; omega) (fun l k hl hk => ?_)
      rw [zfd] at hl
      rw [zbs, a4 l (by omega) (by omega)] at hs
      exact a5 s (hsub l (by omega) (by omega) s hs)
      rw [zd6 hkk, if_neg (by omega), a10 l (by omega)] at hk
      exact hC l k (by omega) hk
theorem zl6 {T : Tm} : ∀ (i : Nat) (ks : List Tm) (l : Nat), l < ks.length → ∀ s ∈ zad T ((i + l : Nat) : Int), s ∈ zfs T i ks
  | i, [], l, hl, s, hs => by simp at hl
  | i, k :: r, 0, hl, s, hs => by simp only [zfs, List.mem_append]; exact .inl (.inl hs)
  | i, k :: r, l + 1, hl, s, hs => by
    simp only [zfs, List.mem_append]
    refine .inr (zl6 (i + 1) r l (by simpa using hl) s ?_)
    rw [show i + 1 + l = i + (l + 1) by omega]; exact hs
mutual
theorem zt9 : ∀ t : Tm, (zi7 t).length = yp2 t
  | .mk op n x ks ps => by
    simp only [zi7, yp2, List.length_append, zq2]
    split <;> rfl
theorem zq2 (T : Tm) : ∀ (i : Nat) (l : List Tm), (zfs T i l).length = ztu T i l
  | _, [] => rfl
  | i, k :: r => by simp only [zfs, ztu, List.length_append, zt9 k, zq2 T (i + 1) r]
end
theorem yme {op n : Int} {x : Str} {ks : List Tm} {ps : List Ty} (hn : zak (.mk op n x ks ps) = true) (h60 : zcp (.mk op n x ks ps) ≤ 60) {nm : Str} {fr : List Str} (hfl : fr.length ≤ 60) : (nm :: fr ++ zi7 (.mk op n x ks ps)).length + zhw (.mk op n x ks ps) ks.length 0 ≤ 699 := by
  have hnm := hn
  simp only [zak, Bool.and_eq_true] at hnm
  have hK6 := znx hnm.1.1
  have hocc := ybf (.mk op n x ks ps) hn
  have hbnd := yoa (op := op) (n := n) (x := x) (ks := ks) hnm.1.2 ks.length 0
  simp only [List.length_append, List.length_cons, zt9]
  omega
theorem zyq {nm : Str} {by' : Tm} {fr : List Str} (hb : zak by' = true) (hfl : fr.length ≤ 60) : ∀ (N : Nat) (t : Tm), zcp t ≤ 60 → zak t = true → zak (rpl nm by' fr N t) = true
  | 0, t, _, hn => hn
  | N + 1, .mk op n x ks ps, h60, hn => by
    rw [rpl]
    split
    · split
      · exact hb
      · have hnm := hn
        simp only [zak, Bool.and_eq_true] at hnm
        refine zr4 (C := 60) (fun k hk hc => zyq hb hfl N k hc hk) ks.length 0 _ _ hn (by simp [zb3]) (fun l hl _ s hs => ?_) (yme hn h60 hfl) fun l k _ hk => ?_
        · refine List.mem_append_right _ ?_
          simp only [zi7, List.mem_append]
          exact .inr (zl6 0 ks l hl s (by simpa using hs))
        · have := zfp (l := ks) (i := l) (k := k) hk
          simp only [zcp] at h60
          omega
    · exact hn
theorem zug {T : Tm} {a b : Str} : ∀ {l : List Tm} {i j : Nat} {c : Tm}, l[j]? = some c → (zc7 T i l a b)[j]? = some (if zck (zad T ((i + j : Nat) : Int)) a = true then c else zeh c a b)
  | [], i, j, c, h => by simp at h
  | x :: r, i, 0, c, h => by simp at h; subst h; simp [zc7]
  | x :: r, i, j + 1, c, h => by
    have := zug (T := T) (a := a) (b := b) (l := r) (i := i + 1) (j := j) (c := c) (by simpa using h)
    simp only [zc7, List.getElem?_cons_succ]
    rw [this, show i + 1 + j = i + (j + 1) by omega]
mutual
def rnP : Ty → Str → Str → Ty
  | .mk s n x ps, a, b => .mk s n (if s = 2 ∧ x = a then b else x) (yl1 ps a b)
def yl1 : List Ty → Str → Str → List Ty
  | [], _, _ => []
  | p :: r, a, b => rnP p a b :: yl1 r a b
end
theorem zno (a b : Str) : ∀ l : List Ty, yl1 l a b = l.map fun p => rnP p a b
  | [] => rfl
  | p :: r => by simp [yl1, zno a b r]
theorem yop : ∀ (p : Ty) (a b : Str), zl2 p → zau Tryz.prog 76 [.agg (zb0 p), .str a, .str b] (.agg (zb0 (rnP p a b)))
  | .mk s n x ps, a, b, hw => by
    obtain ⟨hw1, hw2⟩ := hw
    refine zaf zaw Tryz.func76 (by decide +kernel) rfl [1, 2, 3, 4, 5, 6, 7] rfl rfl ?_
    refine qg [] rfl (by simp [zag]) ?_
    obtain ⟨x2, hx2⟩ : ∃ x2, x2 = if s = 2 ∧ x = a then b else x := ⟨_, rfl⟩
    have e : rnP (.mk s n x ps) a b = .mk s n x2 (yl1 ps a b) := by rw [rnP, hx2]
    rw [e]
    have hrl : (yl1 ps a b).length = ps.length := by rw [zno]; simp
    have hget : ∀ (i : Nat) (p : Ty), ps[i]? = some p → (yl1 ps a b)[i]? = some (rnP p a b) := fun i p hp => by rw [zno, List.getElem?_map, hp]; rfl
    generalize yl1 ps a b = R at *
    by_cases hc : s = 2 ∧ x = a
    case' pos =>
      have hx : x2 = b := by rw [hx2, if_pos hc]
      refine zaa rfl (fun h => ?_) (fun h => by simp [hc] at h)
    case' neg =>
      have hx : x2 = x := by rw [hx2, if_neg hc]
      refine zaa rfl (fun h => absurd (by simpa using h) hc) (fun h => ?_)
    all_goals
      clear h
      refine qd [] rfl (by simp) ?_
      refine zek (e := 58) (sz := 4) 7 3 (by decide) rfl ?_
      refine zah (fun y : Nat => [(8, .imm (.int .i64 y)), (7, .own 3 (zb8 (R.take y)).length), (1, .imm (.str a)), (2, .imm (.str b)), (3, .ref 1 0), (6, .ref 2 0)])
        (fun y => [(3, some (.row 58 4 (zb8 (R.take y)))), (1, some (.immb 58 4 (zb0 (.mk s n x2 ps)))), (2, some (.cells 58 4 [.imm (.int .i64 0), .imm (.int .i64 0), .imm (.str []), .nils]))]) [4, 5, 6, 7]
        (fun y => ps.length - y) (fun y => y ≤ ps.length) 0 (Nat.zero_le _) ⟨rfl, by rw [List.take_zero]; rfl, rfl, rfl, rfl, rfl, trivial⟩ ⟨by rw [List.take_zero]; rfl, by rw [hx]; rfl, rfl, trivial⟩ rfl fun i hi ih => ?_
      refine qd [] rfl (by simp) ?_
      refine zaa rfl (fun h => ?_) (fun h => ?_)
      · simp at h
        obtain ⟨p, hp⟩ := zal h
        refine qd [] rfl (by simp) ?_
        refine qi_ rfl (c := zb0 p) (fun _ => ⟨by simp, by simpa using zjz hp, by simp⟩) (by simp) ?_
        refine qg [] rfl (by simp) ?_
        refine zac rfl (fun _ => yop p a b (zf7 hw2 (List.mem_of_getElem? hp))) (by simp) ?_
        refine qg [] rfl (by simp) ?_
        refine zby zaw rfl ⟨by simp, by simp [maxLen]; omega, by simp; omega, trivial⟩ ?_
        refine qg [] rfl (by simp) ?_
        refine zbt 3 4 rfl ?_
        have et : zb8 (R.take (i + 1)) = zb8 (R.take i) ++ [zb0 (rnP p a b)] := by rw [zbk (hget i p hp), zgv]; simp [zb8]
        exact zae (ih (i + 1) (by omega) (by omega)) ⟨zcn (w64 (by omega) (by omega)), by rw [et]; rfl, rfl, rfl, rfl, rfl, trivial⟩ ⟨by rw [et]; rfl, rfl, rfl, trivial⟩ rfl
      · simp at h
        have hi2 : i = ps.length := by omega
        refine zar rfl ?_
        refine zb4 3 rfl ?_
        refine qd [] rfl (by simp) ?_
        rw [List.take_of_length_le (by omega)]
        exact zab ⟨_, rfl, tV rfl, trivial⟩
termination_by p => SizeOf.sizeOf p
decreasing_by
  all_goals
    have := List.sizeOf_lt_of_mem (List.mem_of_getElem? hp)
    simp_wf
    omega
theorem zh5 : ∀ {l : List Ty} {q y : Ty}, q ∈ l → y ∈ zb2 q → y ∈ zbd l
  | [], _, _, h, _ => by cases h
  | p :: r, q, y, h, hy => by
    simp only [zbd, List.mem_append]
    rcases List.mem_cons.1 h with rfl | h
    · exact .inl hy
    · exact .inr (zh5 h hy)
mutual
def zps : Ty → Prop
  | .mk s _ _ ps => (s = 2 → ps = []) ∧ zhq ps
def zhq : List Ty → Prop
  | [] => True
  | p :: r => zps p ∧ zhq r
end
mutual
theorem zve : ∀ p : Ty, zps p → za3 p = za1 p
  | .mk s n x ps, h => by
    have ih := zsq ps h.2
    simp only [za3, zb2, List.map_append, za1]
    by_cases e : s = 2
    · rw [if_pos e, if_pos e, h.1 e]; simp [zbd, zew]
    · rw [if_neg e, if_neg e]; simpa using ih
theorem zsq : ∀ l : List Ty, zhq l → (zbd l).map zew = zav l
  | [], _ => rfl
  | p :: r, h => by
    have h1 := zve p h.1
    have h2 := zsq r h.2
    simp only [za3] at h1
    simp only [zbd, List.map_append, zav, h1, h2]
end
mutual
theorem yky : ∀ p : Ty, zca p = true → zps p
  | .mk s n x ps, h => by
    simp only [zca, Bool.and_eq_true] at h
    refine ⟨fun e => ?_, yd9 ps h.2⟩
    have h1 := h.1
    simp [zh6, e] at h1
    exact List.eq_nil_of_length_eq_zero (by simp [h1.1.1])
theorem yd9 : ∀ l : List Ty, zbq l = true → zhq l
  | [], _ => trivial
  | p :: r, h => by
    simp only [zbq, Bool.and_eq_true] at h
    exact ⟨yky p h.1, yd9 r h.2⟩
end
mutual
def okM : Tm → Prop
  | .mk op _ _ ks ps => (ks.length ≤ 6 ∧ ps.length ≤ 5 ∧ (op = 4 → ks = []) ∧ (op = 15 → ks.length = 1 + ps.length)) ∧ (∀ p ∈ ps, za0 p ≤ 12 ∧ zps p ∧ (za3 p).Nodup) ∧ yl4 ks
def yl4 : List Tm → Prop
  | [] => True
  | k :: r => okM k ∧ yl4 r
end
theorem zkd : ∀ {l : List Tm} {i : Nat} {k : Tm}, yl4 l → l[i]? = some k → okM k
  | [], i, k, _, h => by simp at h
  | a :: r, 0, k, h, hk => by simp at hk; subst hk; exact h.1
  | a :: r, i + 1, k, h, hk => zkd h.2 (by simpa using hk)
mutual
theorem yjj : ∀ t : Tm, zak t = true → okM t
  | .mk op n x ks ps, h => by
    simp only [zak, Bool.and_eq_true] at h
    refine ⟨⟨znx h.1.1, zru h.1.1, fun e => ?_, fun e => ?_⟩, fun p hp => ?_, yjf ks h.2⟩
    · have := h.1.1
      simp [za9, e] at this
      exact List.eq_nil_of_length_eq_zero (by simp [this.1.1])
    · have := h.1.1
      simp [za9, e] at this
      omega
    · have h1 := List.all_eq_true.1 h.1.2 p hp
      have h2 := zrm h1
      simp only [zct, Bool.and_eq_true] at h1
      have h3 := h1.2
      rw [← zgm _ h1.1.2, zgu] at h3
      exact ⟨h2, yky p h1.1.2, h3⟩
theorem yjf : ∀ l : List Tm, zaq l = true → yl4 l
  | [], _ => trivial
  | k :: r, h => by
    simp only [zaq, Bool.and_eq_true] at h
    exact ⟨yjj k h.1, yjf r h.2⟩
end
theorem zy4 {op n : Int} {x : Str} {ks : List Tm} {ps : List Ty} (h : okM (.mk op n x ks ps)) (i : Int) : zcl (.mk op n x ks ps) i = zad (.mk op n x ks ps) i := by
  simp only [zcl, zad]
  split
  · rfl
  · split
    · cases hp : ps[(i - 1).toNat]? with
      | none => rfl
      | some p => exact (zve p (h.2.1 p (List.mem_of_getElem? hp)).2.1).symm
    · rfl
theorem yji {op n : Int} {x : Str} {ks : List Tm} {ps : List Ty} (h : okM (.mk op n x ks ps)) {i : Nat} (hi : i < ks.length) (hp : zbr op i = true) : ∃ p, ps[((i : Int) - 1).toNat]? = some p ∧ za0 p ≤ 12 := by
  simp only [zbr, Bool.and_eq_true, beq_iff_eq, decide_eq_true_eq] at hp
  have h1 := h.1.2.2.2 hp.1
  obtain ⟨p, hp2⟩ : ∃ p, ps[((i : Int) - 1).toNat]? = some p := zal (by omega)
  exact ⟨p, hp2, (h.2.1 p (List.mem_of_getElem? hp2)).1⟩
theorem zp2 : ∀ (N : Nat) (p : Ty) (a b : Str), za0 p ≤ N → a ∉ za3 p → rnP p a b = p
  | 0, .mk s n x ps, a, b, hN, _ => by simp only [za0] at hN; omega
  | N + 1, .mk s n x ps, a, b, hN, h => by
    simp only [za3, zb2, List.map_append, List.mem_append, not_or] at h
    have h1 : ¬ (s = 2 ∧ x = a) := fun ⟨e1, e2⟩ => h.1 (by rw [if_pos e1]; simp [zew, e2])
    rw [rnP, if_neg h1, zno]
    congr 1
    conv => rhs; rw [← List.map_id ps]
    refine List.map_congr_left fun q hq => ?_
    refine zp2 N q a b ?_ ?_
    · obtain ⟨i, hi⟩ := List.getElem?_of_mem hq
      have := zfj hi
      simp only [za0] at hN; omega
    · intro hm
      refine h.2 ?_
      obtain ⟨y, hy, rfl⟩ := List.mem_map.1 hm
      exact List.mem_map.2 ⟨y, zh5 hq hy, rfl⟩
mutual
theorem yic (a b : Str) : ∀ (p : Ty) (j : Nat), (za3 p).Nodup → (za3 p)[j]? = some a → rnP p a b = zc2 p j b
  | .mk s n x ps, j, hn, h => by
    by_cases e : s = 2
    · simp only [za3, zb2, if_pos e, List.singleton_append, List.map_cons, zew, List.nodup_cons] at hn h
      cases j with
      | zero =>
        simp at h
        rw [rnP, if_pos ⟨e, h⟩]
        simp only [zc2, if_pos e]
        congr 1
        rw [zno]
        conv => rhs; rw [← List.map_id ps]
        refine List.map_congr_left fun q hq => zp2 _ q a b (Nat.le_refl _) fun hm => hn.1 ?_
        obtain ⟨y, hy, hy2⟩ := List.mem_map.1 hm
        rw [h, ← hy2]
        exact List.mem_map.2 ⟨y, zh5 hq hy, rfl⟩
      | succ j =>
        simp only [List.getElem?_cons_succ] at h
        have hxa : ¬ (s = 2 ∧ x = a) := fun ⟨_, e2⟩ => hn.1 (by rw [e2]; exact List.mem_of_getElem? h)
        rw [rnP, if_neg hxa]
        simp only [zc2, if_pos e]
        rw [zwf a b ps j hn.2 h]
    · simp only [za3, zb2, if_neg e, List.nil_append] at hn h
      rw [rnP, if_neg (fun h => e h.1)]
      simp only [zc2, if_neg e]
      rw [zwf a b ps j hn h]
theorem zwf (a b : Str) : ∀ (l : List Ty) (j : Nat), ((zbd l).map zew).Nodup → ((zbd l).map zew)[j]? = some a → yl1 l a b = zdb l j b
  | [], j, _, h => by simp [zbd] at h
  | p :: r, j, hn, h => by
    simp only [zbd, List.map_append, List.getElem?_append, List.length_map] at h
    simp only [zbd, List.map_append] at hn
    have hn := List.nodup_append.1 hn
    simp only [yl1, zdb]
    split
    · rename_i hl
      rw [if_pos hl] at h
      rw [yic a b p j hn.1 h]
      congr 1
      rw [zno]
      conv => rhs; rw [← List.map_id r]
      refine List.map_congr_left fun q hq => zp2 _ q a b (Nat.le_refl _) fun hm => ?_
      obtain ⟨y, hy, hy2⟩ := List.mem_map.1 hm
      exact hn.2.2 a (List.mem_of_getElem? h) a (by rw [← hy2]; exact List.mem_map.2 ⟨y, zh5 hq hy, rfl⟩) rfl
    · rename_i hl
      rw [if_neg hl] at h
      rw [zwf a b r _ hn.2.1 h, zp2 _ p a b (Nat.le_refl _) fun hm => hn.2.2 a hm a (List.mem_of_getElem? h) rfl]
end
theorem zjb {T U : Tm} (a b : Str) (h : ∀ i : Int, zad T i = zad U i) : ∀ (i : Nat) (l : List Tm), zc7 T i l a b = zc7 U i l a b
  | _, [] => rfl
  | i, k :: r => by simp only [zc7, h, zjb a b h (i + 1) r]
theorem zuj : ∀ (t : Tm) (a b : Str), okM t → zcp t ≤ 60 → zau Tryz.prog 75 [.agg (dTmc t), .str a, .str b] (.agg (dTmc (zeh t a b)))
  | .mk op n x ks ps, a, b, hn, hc => by
    have hk6 := hn.1.1
    have hkn4 := hn.1.2.2.1
    have hn3 := hn.2.2
    refine zaf zaw Tryz.func75 (by decide +kernel) rfl [1, 2, 3, 4, 5, 6, 7, 8] rfl rfl ?_
    refine qg [] rfl (by simp) ?_
    refine zaa rfl (fun h => ?_) (fun h => ?_)
    · have e : op = 4 := by simpa using h
      have hks : ks = [] := hkn4 e
      subst hks
      refine qd [] rfl (by simp) ?_
      by_cases hx : x = a
      · refine zaa rfl (fun h => ?_) (fun h => by simp [hx] at h)
        have er : zeh (.mk op n x [] ps) a b = .mk op n b [] ps := by rw [zeh]; simp [zpo, e, hx, zc7]
        rw [er]
        refine qd [] rfl (by simp) ?_
        exact zab ⟨_, rfl, tV rfl, trivial⟩
      · refine zaa rfl (fun h => absurd (by simpa using h) hx) (fun h => ?_)
        have er : zeh (.mk op n x [] ps) a b = .mk op n x [] ps := by rw [zeh]; simp [zpo, hx, zc7]
        rw [er]
        refine qd [] rfl (by simp) ?_
        exact zab ⟨_, rfl, tV rfl, trivial⟩
    have e : ¬ op = 4 := by simpa using h
    clear h
    have er : zeh (.mk op n x ks ps) a b = .mk op n x (zc7 (.mk op n x ks ps) 0 ks a b) ps := by
      have hX : zpo op x a b = x := by simp [zpo, e]
      rw [zeh, hX]; congr 1
      exact zjb (T := .mk op n x [] ps) (U := .mk op n x ks ps) a b (fun i => rfl) 0 ks
    rw [er]
    have hrl := zc4 (.mk op n x ks ps) a b 0 ks
    have hget : ∀ (i : Nat) (k : Tm), ks[i]? = some k → (zc7 (.mk op n x ks ps) 0 ks a b)[i]? = some (if zck (zad (.mk op n x ks ps) (i : Int)) a = true then k else zeh k a b) := fun i k hk => by
      have := zug (T := .mk op n x ks ps) (a := a) (b := b) (i := 0) hk
      rwa [Nat.zero_add] at this
    generalize zc7 (.mk op n x ks ps) 0 ks a b = R at *
    refine qd [] rfl (by simp) ?_
    refine zek (e := 26) (sz := 5) 7 3 (by decide) rfl ?_
    refine zah (fun y : Nat => [(8, .imm (.int .i64 y)), (7, .own 3 (zcy (R.take y)).length), (1, .imm (.str a)), (2, .imm (.str b)), (3, .ref 1 0), (6, .ref 2 0)])
      (fun y => [(3, some (.row 26 5 (zcy (R.take y)))), (1, some (.immb 26 5 (dTmc (.mk op n x ks ps)))), (2, some (.cells 26 5 [.imm (.int .i64 0), .imm (.int .i64 0), .imm (.str []), .nils, .nils]))]) [4, 5, 6, 7, 8]
      (fun y => ks.length - y) (fun y => y ≤ ks.length) 0 (Nat.zero_le _) ⟨rfl, by rw [List.take_zero]; rfl, rfl, rfl, rfl, rfl, trivial⟩ ⟨by rw [List.take_zero]; rfl, rfl, rfl, trivial⟩ rfl fun i hi ih => ?_
    refine qd [] rfl (by simp) ?_
    refine zaa rfl (fun h => ?_) (fun h => ?_)
    · simp at h
      obtain ⟨k, hk⟩ := zal h
      have hkn := zkd hn3 hk
      have hkc : zcp k ≤ 60 := by have := zfp hk; simp only [zcp] at hc; omega
      refine qd [] rfl (by simp) ?_
      refine qi_ rfl (c := dTmc k) (fun _ => ⟨by simp, by simpa using zbu hk, by simp⟩) (by simp) ?_
      refine qg [] rfl (by simp) ?_
      refine zac rfl (fun _ => zqo op n x ks ps i (by omega) (fun _ hp => let ⟨p, q1, q2⟩ := yji hn h hp; ⟨p, q1, by omega⟩)) (by simp) ?_
      rw [zy4 hn]
      refine qg [] rfl (by simp) ?_
      refine zac rfl (fun _ => zv1 (zad (.mk op n x ks ps) i) a) (by simp) ?_
      refine qg [] rfl (by simp) ?_
      have hg := hget i k hk
      obtain ⟨kr, hkr⟩ : ∃ kr, kr = if zck (zad (.mk op n x ks ps) (i : Int)) a = true then k else zeh k a b := ⟨_, rfl⟩
      rw [← hkr] at hg
      have et : zcy (R.take (i + 1)) = zcy (R.take i) ++ [dTmc kr] := by rw [zbk hg, zlr]; simp [zcy]
      have hrn := zuj k a b hkn hkc
      by_cases hb : zck (zad (.mk op n x ks ps) (i : Int)) a = true
      case' pos =>
        rw [if_pos hb] at hkr
        subst hkr
        refine zaa rfl (fun h => by simp [hb] at h) (fun h => ?_)
        obtain ⟨ko, kn, kx, kks, kps⟩ := kr
        refine qd [] rfl (by simp) ?_
      case' neg =>
        rw [if_neg hb] at hkr
        rw [← hkr] at hrn
        refine zaa rfl (fun h => ?_) (fun h => absurd (by simpa using h) hb)
        obtain ⟨ko, kn, kx, kks, kps⟩ := kr
        refine qd [] rfl (by simp) ?_
        refine zac rfl (fun _ => hrn) (by simp) ?_
        refine qg [] rfl (by simp) ?_
      all_goals
        refine zby zaw rfl ⟨by simp, by simp [maxLen]; omega, by simp; omega, trivial⟩ ?_
        refine qg [] rfl (by simp) ?_
        refine zbt 3 5 rfl ?_
        exact zae (ih (i + 1) (by omega) (by omega)) ⟨zcn (w64 (by omega) (by omega)), by rw [et]; rfl, rfl, rfl, rfl, rfl, trivial⟩ ⟨by rw [et]; rfl, rfl, rfl, trivial⟩ rfl
    · simp at h
      have hi2 : i = ks.length := by omega
      refine zar rfl ?_
      refine zb4 3 rfl ?_
      refine qd [] rfl (by simp) ?_
      rw [List.take_of_length_le (by omega)]
      exact zab ⟨_, rfl, tV rfl, trivial⟩
termination_by t => SizeOf.sizeOf t
decreasing_by
  all_goals
    have := List.sizeOf_lt_of_mem (List.mem_of_getElem? hk)
    simp_wf
    omega
def mkS (n : Nat) : Str := 35 :: zhc n
theorem yjt {a b : Nat} (ha : a < 702) (hb : b < 702) (h : mkS a = mkS b) : a = b := yd0 ha hb (by simpa [mkS] using h)
def unm (tk : List Str) (s : Str) : Str := if s.head? = some 35 then (match (List.range tk.length).find? fun i => decide (s = mkS i) with
  | some i => tk[i]?.getD s
  | none => s) else s
theorem zl5 {tk : List Str} {s : Str} (h : s.head? ≠ some 35) : unm tk s = s := by rw [unm, if_neg h]
theorem yk0 {p : Nat → Bool} {n i : Nat} (hi : i < n) (hpre : ∀ j < i, p j = false) (hp : p i = true) : (List.range n).find? p = some i := by
  have : List.range n = List.range i ++ List.range' i (n - i) := by
    rw [List.range_eq_range', List.range_eq_range', show n = i + (n - i) by omega, ← List.range'_append_1 ]
    simp
  rw [this, List.find?_append]
  have h1 : (List.range i).find? p = none := by
    rw [List.find?_eq_none]
    intro x hx
    rw [hpre x (List.mem_range.1 hx)]; simp
  rw [h1, show n - i = (n - i - 1) + 1 by omega, List.range'_succ]
  simp [hp]
theorem unm_at {tk : List Str} {i : Nat} {x : Str} (hlen : tk.length ≤ 702) (h : tk[i]? = some x) : unm tk (mkS i) = x := by
  have hi := (List.getElem?_eq_some_iff.1 h).1
  have : (List.range tk.length).find? (fun j => decide (mkS i = mkS j)) = some i := yk0 hi (fun j hj => by
    have : ¬ mkS i = mkS j := fun e => by have := yjt (by omega) (by omega) e; omega
    simp [this]) (by simp)
  rw [unm, if_pos (by rfl), this]
  simp [h]
theorem yl9 {tk : List Str} {s : Str} (h : ∀ j < tk.length, s ≠ mkS j) : unm tk s = s := by
  have : (List.range tk.length).find? (fun j => decide (s = mkS j)) = none := by
    rw [List.find?_eq_none]
    intro x hx
    simpa using h x (List.mem_range.1 hx)
  rw [unm]
  split
  · rw [this]
  · rfl
theorem yhl {tk : List Str} {s : Str} {i : Nat} {x : Str} (hp : ∀ j < i, s ≠ mkS j) (hs : s = mkS i) (h : tk[i]? = some x) : unm tk s = x := by
  have hi := (List.getElem?_eq_some_iff.1 h).1
  have : (List.range tk.length).find? (fun j => decide (s = mkS j)) = some i := yk0 hi (fun j hj => by simpa using hp j hj) (by simp [hs])
  rw [unm, if_pos (by rw [hs]; rfl), this]
  simp [h]
theorem yju (n : Nat) (h : n < 702) : zau Tryz.prog 82 [.int .i64 n] (.str (mkS n)) := by
  refine zaf zoo Tryz.func82 (by decide +kernel) rfl [1, 2] rfl rfl ?_
  refine mg [] rfl (by simp [zag]) ?_
  refine zac rfl (fun _ => zkf n h) (by simp [zag]) ?_
  have hl : (zhc n).length ≤ 2 := by unfold zhc; split <;> simp
  refine mg [] rfl (by simp [zag]; omega) ?_
  exact zab ⟨_, rfl, tV rfl, trivial⟩
theorem zqt (s : Str) (tk : List Str) (hlen : tk.length ≤ 702) : zau Tryz.prog 83 [.str s, .sl (za5 tk)] (.str (unm tk s)) := by
  refine zaf zoo Tryz.func83 (by decide +kernel) rfl [1, 2] rfl rfl ?_
  refine mg [] rfl (by simp [zag]) ?_
  refine zah (fun i : Nat => [(5, .imm (.int .i64 i)), (0, .imm (.str s)), (1, .imm (.sl (za5 tk)))]) (fun _ => []) [1, 2] (fun i => tk.length - i) (fun i => i ≤ tk.length ∧ ∀ j < i, s ≠ mkS j) 0
    ⟨Nat.zero_le _, fun j hj => by omega⟩ ⟨rfl, rfl, rfl, trivial⟩ trivial rfl fun i hi ih => ?_
  obtain ⟨hi1, hi2⟩ := hi
  refine md [] rfl (by simp [zag]; try omega) ?_
  refine zaa rfl (fun h => ?_) (fun h => ?_)
  · have hlt : i < tk.length := by simp at h; omega
    obtain ⟨x, hx⟩ := zal hlt
    clear h
    refine md [] rfl (by simp [zag]) ?_
    refine zac rfl (fun _ => yju i (by omega)) (by simp [zag]) ?_
    refine mg [] rfl (by simp [zag]) ?_
    refine zaa rfl (fun h => ?_) (fun h => ?_)
    · have e : s = mkS i := by simpa using h
      rw [yhl hi2 e hx]
      refine md [] rfl (by simp [zag]) ?_
      refine mi rfl (c := [.str x]) (fun _ => ⟨by simp, by simpa using zcx hx, rfl⟩) (by simp [zag]) ?_
      refine mg [] rfl (by simp [zag]) ?_
      exact zab ⟨_, rfl, tV rfl, trivial⟩
    · have e : ¬ s = mkS i := by simpa using h
      refine md [] rfl (by simp [zag]) ?_
      refine zae (ih (i + 1) (by omega) ⟨by omega, fun j hj => ?_⟩) ⟨zcn (w64 (by omega) (by omega)), rfl, rfl, trivial⟩ trivial rfl
      rcases Nat.lt_succ_iff_lt_or_eq.1 hj with hj | rfl
      · exact hi2 j hj
      · exact e
  · have e : unm tk s = s := by
      by_cases hh : s.head? = some 35
      · refine yl9 fun j hj => hi2 j ?_
        obtain ⟨c, r, rfl⟩ : ∃ c r, s = c :: r := by
          cases s with
          | nil => simp at hh
          | cons c r => exact ⟨c, r, rfl⟩
        simp at hh
        subst hh
        simp at h
        omega
      · exact zl5 hh
    rw [e]
    refine md [] rfl (by simp [zag]) ?_
    exact zab ⟨_, rfl, tV rfl, trivial⟩
mutual
def zqb : List Str → Ty → Ty
  | tk, .mk s n x ps => .mk s n (unm tk x) (zft tk ps)
def zft : List Str → List Ty → List Ty
  | _, [] => []
  | tk, p :: r => zqb tk p :: zft tk r
end
theorem ze0 (tk : List Str) : ∀ l : List Ty, zft tk l = l.map (zqb tk)
  | [] => rfl
  | p :: r => by simp [zft, ze0 tk r]
mutual
def zly : List Str → Tm → Tm
  | tk, .mk op n x ks ps => .mk op n (unm tk x) (zpp tk ks) (zft tk ps)
def zpp : List Str → List Tm → List Tm
  | _, [] => []
  | tk, k :: r => zly tk k :: zpp tk r
end
theorem zqc (tk : List Str) : ∀ l : List Tm, zpp tk l = l.map (zly tk)
  | [] => rfl
  | p :: r => by simp [zpp, zqc tk r]
theorem zrz (tk : List Str) (hlen : tk.length ≤ 702) : ∀ (p : Ty), zl2 p → zau Tryz.prog 84 [.agg (zb0 p), .sl (za5 tk)] (.agg (zb0 (zqb tk p)))
  | .mk s n x ps, hw => by
    obtain ⟨hw1, hw2⟩ := hw
    refine zaf zaw Tryz.func84 (by decide +kernel) rfl [1, 2, 3, 4, 5, 6, 7] rfl rfl ?_
    refine qg [] rfl (by simp) ?_
    refine zac rfl (fun _ => zqt x tk hlen) (by simp) ?_
    refine qg [] rfl (by simp) ?_
    rw [zqb]
    have hrl : (zft tk ps).length = ps.length := by rw [ze0]; simp
    have hget : ∀ (i : Nat) (p : Ty), ps[i]? = some p → (zft tk ps)[i]? = some (zqb tk p) := fun i p hp => by rw [ze0, List.getElem?_map, hp]; rfl
    generalize zft tk ps = R at *
    refine zek (e := 58) (sz := 4) 5 3 (by decide) rfl ?_
    refine zah (fun y : Nat => [(6, .imm (.int .i64 y)), (5, .own 3 (zb8 (R.take y)).length), (1, .imm (.sl (za5 tk))), (2, .ref 1 0), (4, .ref 2 0)])
      (fun y => [(3, some (.row 58 4 (zb8 (R.take y)))), (1, some (.immb 58 4 (zb0 (.mk s n (unm tk x) ps)))), (2, some (.cells 58 4 [.imm (.int .i64 0), .imm (.int .i64 0), .imm (.str []), .nils]))]) [4, 5, 6, 7]
      (fun y => ps.length - y) (fun y => y ≤ ps.length) 0 (Nat.zero_le _) ⟨rfl, by rw [List.take_zero]; rfl, rfl, rfl, rfl, trivial⟩ ⟨by rw [List.take_zero]; rfl, rfl, rfl, trivial⟩ rfl fun i hi ih => ?_
    refine qd [] rfl (by simp) ?_
    refine zaa rfl (fun h => ?_) (fun h => ?_)
    · simp at h
      obtain ⟨p, hp⟩ := zal h
      refine qd [] rfl (by simp) ?_
      refine qi_ rfl (c := zb0 p) (fun _ => ⟨by simp, by simpa using zjz hp, by simp⟩) (by simp) ?_
      refine qg [] rfl (by simp) ?_
      refine zac rfl (fun _ => zrz tk hlen p (zf7 hw2 (List.mem_of_getElem? hp))) (by simp) ?_
      refine qg [] rfl (by simp) ?_
      refine zby zaw rfl ⟨by simp, by simp [maxLen]; omega, by simp; omega, trivial⟩ ?_
      refine qg [] rfl (by simp) ?_
      refine zbt 3 4 rfl ?_
      have et : zb8 (R.take (i + 1)) = zb8 (R.take i) ++ [zb0 (zqb tk p)] := by rw [zbk (hget i p hp), zgv]; simp [zb8]
      exact zae (ih (i + 1) (by omega) (by omega)) ⟨zcn (w64 (by omega) (by omega)), by rw [et]; rfl, rfl, rfl, rfl, trivial⟩ ⟨by rw [et]; rfl, rfl, rfl, trivial⟩ rfl
    · simp at h
      have hi2 : i = ps.length := by omega
      refine zar rfl ?_
      refine zb4 3 rfl ?_
      refine qd [] rfl (by simp) ?_
      rw [List.take_of_length_le (by omega)]
      exact zab ⟨_, rfl, tV rfl, trivial⟩
termination_by p => SizeOf.sizeOf p
decreasing_by
  all_goals
    have := List.sizeOf_lt_of_mem (List.mem_of_getElem? hp)
    simp_wf
    omega
theorem zwn (tk : List Str) (hlen : tk.length ≤ 702) : ∀ (t : Tm), okM t → zau Tryz.prog 51 [.agg (dTmc t), .sl (za5 tk)] (.agg (dTmc (zly tk t)))
  | .mk op n x ks ps, hn => by
    have hk6 := hn.1.1
    have hp5 := hn.1.2.1
    have hn3 := hn.2.2
    have hpw : ∀ p ∈ ps, zl2 p := fun p hp => zpx p (by have := (hn.2.1 p hp).1; omega)
    refine zaf zaw Tryz.func51 (by decide +kernel) rfl [1, 2, 3, 4, 5, 6, 7, 8] rfl rfl ?_
    refine qg [] rfl (by simp) ?_
    refine zac rfl (fun _ => zqt x tk hlen) (by simp) ?_
    refine qg [] rfl (by simp) ?_
    rw [zly]
    have hrl : (zpp tk ks).length = ks.length := by rw [zqc]; simp
    have hget : ∀ (i : Nat) (k : Tm), ks[i]? = some k → (zpp tk ks)[i]? = some (zly tk k) := fun i k hk => by rw [zqc, List.getElem?_map, hk]; rfl
    have hrl2 : (zft tk ps).length = ps.length := by rw [ze0]; simp
    have hget2 : ∀ (i : Nat) (p : Ty), ps[i]? = some p → (zft tk ps)[i]? = some (zqb tk p) := fun i p hp => by rw [ze0, List.getElem?_map, hp]; rfl
    generalize zpp tk ks = R at *
    generalize zft tk ps = R2 at *
    refine zek (e := 26) (sz := 5) 5 3 (by decide) rfl ?_
    refine zah (fun y : Nat => [(6, .imm (.int .i64 y)), (5, .own 3 (zcy (R.take y)).length), (1, .imm (.sl (za5 tk))), (2, .ref 1 0), (4, .ref 2 0)])
      (fun y => [(3, some (.row 26 5 (zcy (R.take y)))), (1, some (.immb 26 5 (dTmc (.mk op n (unm tk x) ks ps)))), (2, some (.cells 26 5 [.imm (.int .i64 0), .imm (.int .i64 0), .imm (.str []), .nils, .nils]))]) [4, 5, 6, 7, 8]
      (fun y => ks.length - y) (fun y => y ≤ ks.length) 0 (Nat.zero_le _) ⟨rfl, by rw [List.take_zero]; rfl, rfl, rfl, rfl, trivial⟩ ⟨by rw [List.take_zero]; rfl, rfl, rfl, trivial⟩ rfl fun i hi ih => ?_
    refine qd [] rfl (by simp) ?_
    refine zaa rfl (fun h => ?_) (fun h => ?_)
    · simp at h
      obtain ⟨k, hk⟩ := zal h
      refine qd [] rfl (by simp) ?_
      refine qi_ rfl (c := dTmc k) (fun _ => ⟨by simp, by simpa using zbu hk, by simp⟩) (by simp) ?_
      refine qg [] rfl (by simp) ?_
      refine zac rfl (fun _ => zwn tk hlen k (zkd hn3 hk)) (by simp) ?_
      refine qg [] rfl (by simp) ?_
      refine zby zaw rfl ⟨by simp, by simp [maxLen]; omega, by simp; omega, trivial⟩ ?_
      refine qg [] rfl (by simp) ?_
      refine zbt 3 4 rfl ?_
      have et : zcy (R.take (i + 1)) = zcy (R.take i) ++ [dTmc (zly tk k)] := by rw [zbk (hget i k hk), zlr]; simp [zcy]
      exact zae (ih (i + 1) (by omega) (by omega)) ⟨zcn (w64 (by omega) (by omega)), by rw [et]; rfl, rfl, rfl, rfl, trivial⟩ ⟨by rw [et]; rfl, rfl, rfl, trivial⟩ rfl
    · simp at h
      have hi2 : i = ks.length := by omega
      rw [List.take_of_length_le (by omega)]
      refine zar rfl ?_
      refine zb4 3 rfl ?_
      refine qd [] rfl (by simp) ?_
      refine zek (e := 58) (sz := 4) 7 4 (by decide) rfl ?_
      refine zah (fun y : Nat => [(8, .imm (.int .i64 y)), (7, .own 4 (zb8 (R2.take y)).length), (5, .imm (.sl (zcy R))), (1, .imm (.sl (za5 tk))), (2, .ref 1 0), (4, .ref 2 0)])
        (fun y => [(4, some (.row 58 4 (zb8 (R2.take y)))), (1, some (.immb 26 5 (dTmc (.mk op n (unm tk x) ks ps)))), (2, some (.cells 26 5 [.imm (.int .i64 0), .imm (.int .i64 0), .imm (.str []), .nils, .nils]))]) [5, 6, 7, 8]
        (fun y => ps.length - y) (fun y => y ≤ ps.length) 0 (Nat.zero_le _) ⟨rfl, by rw [List.take_zero]; rfl, rfl, rfl, rfl, rfl, trivial⟩ ⟨by rw [List.take_zero]; rfl, rfl, rfl, trivial⟩ rfl fun j hj jh => ?_
      refine qd [] rfl (by simp) ?_
      refine zaa rfl (fun h => ?_) (fun h => ?_)
      · simp at h
        obtain ⟨p, hp⟩ := zal h
        refine qd [] rfl (by simp) ?_
        refine qi_ rfl (c := zb0 p) (fun _ => ⟨by simp, by simpa using zjz hp, by simp⟩) (by simp) ?_
        refine qg [] rfl (by simp) ?_
        refine zac rfl (fun _ => zrz tk hlen p (hpw p (List.mem_of_getElem? hp))) (by simp) ?_
        refine qg [] rfl (by simp) ?_
        refine zby zaw rfl ⟨by simp, by simp [maxLen]; omega, by simp; omega, trivial⟩ ?_
        refine qg [] rfl (by simp) ?_
        refine zbt 4 5 rfl ?_
        have et : zb8 (R2.take (j + 1)) = zb8 (R2.take j) ++ [zb0 (zqb tk p)] := by rw [zbk (hget2 j p hp), zgv]; simp [zb8]
        exact zae (jh (j + 1) (by omega) (by omega)) ⟨zcn (w64 (by omega) (by omega)), by rw [et]; rfl, rfl, rfl, rfl, rfl, trivial⟩ ⟨by rw [et]; rfl, rfl, rfl, trivial⟩ rfl
      · simp at h
        have hj2 : j = ps.length := by omega
        refine zar rfl ?_
        refine zb4 4 rfl ?_
        refine qd [] rfl (by simp) ?_
        rw [List.take_of_length_le (by omega)]
        exact zab ⟨_, rfl, tV rfl, trivial⟩
termination_by t => SizeOf.sizeOf t
decreasing_by
  all_goals
    have := List.sizeOf_lt_of_mem (List.mem_of_getElem? hk)
    simp_wf
    omega
theorem ycf {T : Tm} (h : zak T = true) (i : Int) : (zad T i).Nodup := by
  obtain ⟨op, n, x, ks, ps⟩ := T
  simp only [zak, Bool.and_eq_true] at h
  simp only [zad]
  split
  · simp
  · split
    · cases hp : ps[(i - 1).toNat]? with
      | none => simp
      | some p =>
        have := List.all_eq_true.1 h.1.2 p (List.mem_of_getElem? hp)
        simp only [zct, Bool.and_eq_true] at this
        have h3 := this.2
        rw [← zgm _ this.1.2, zgu] at h3
        exact h3
    · simp
theorem yh0 (T : Tm) (i : Int) (j : Nat) (f : Str) (l : Nat) (c : Tm) : zc3 (zcj T l c) i j f = zcj (zc3 T i j f) l c := by
  obtain ⟨op, n, x, ks, ps⟩ := T
  simp only [zcj, zc3]
  split
  · rfl
  · split
    · split <;> rfl
    · rfl
theorem zvq {t : Tm} (h : zbc t = true) : zak (zlz t) = true ∧ zcp (zlz t) = zcp t ∧ dpT (zlz t) = dpT t := by
  have hb := zin h
  have hn : zak t = true := by simp only [zbc, Bool.and_eq_true] at h; exact h.2
  exact zvp t [] (zcc t) hn (by intro p hp; cases hp) (by omega)
theorem zta {t : Tm} (h : zbc t = true) : zbc (zlz t) = true := by
  obtain ⟨h1, h2, h3⟩ := zvq h
  rw [yho] at h ⊢
  exact ⟨h1, by rw [h2]; exact h.2.1, by rw [h3]; exact h.2.2⟩
def ylg (t : Tm) : Tm × Int := bif zbc t then (zlz t, 0) else (zTm, 2)
theorem yeu (t : Tm) (h : zeg t = zbc t) : zau Tryz.prog 18 [.agg (dTmc t)] (.tup [.agg (dTmc (ylg t).1), .int .i64 (ylg t).2]) := by
  refine zaf zbb Tryz.func18 (by decide +kernel) rfl [1, 2, 3] rfl rfl ?_
  refine xg [] rfl (by simp) ?_
  refine zac rfl (fun _ => zf5 t) (by simp) ?_
  rw [h]
  cases ht : zbc t with
  | false =>
    refine xg [] rfl (by simp) ?_
    refine zaa rfl (fun h => ?_) (fun h => by simp [yb1] at h)
    refine xd [] rfl (by simp) ?_
    rw [show ylg t = (zTm, 2) by simp [ylg, ht]]
    exact zab ⟨_, rfl, tV rfl, trivial⟩
  | true =>
    refine xg [] rfl (by simp) ?_
    refine zaa rfl (fun h => by simp [yb1] at h) (fun h => ?_)
    refine xd [] rfl (by simp) ?_
    refine zac rfl (fun _ => zxa t ht) (by simp) ?_
    refine xg [] rfl (by simp) ?_
    rw [show ylg t = (zlz t, 0) by simp [ylg, ht]]
    exact zab ⟨_, rfl, tV rfl, trivial⟩
def ycl (a b : Tm) : Bool × Int := bif zbc a && zbc b then (ztw (zlz a) (zlz b), 0) else (false, 2)
theorem yev (a b : Tm) (ha : zeg a = zbc a) (hb : zeg b = zbc b) : zau Tryz.prog 17 [.agg (dTmc a), .agg (dTmc b)] (.tup [.bool (ycl a b).1, .int .i64 (ycl a b).2]) := by
  refine zaf zbb Tryz.func17 (by decide +kernel) rfl [1, 2, 3, 4] rfl rfl ?_
  refine xg [] rfl (by simp) ?_
  refine zac rfl (fun _ => zf5 a) (by simp) ?_
  rw [ha]
  refine xg [] rfl (by simp) ?_
  refine zac rfl (fun _ => zf5 b) (by simp [zag]) ?_
  rw [hb]
  refine xg [] rfl (by simp [zag]) ?_
  cases hta : zbc a with
  | false =>
    refine zaa rfl (fun h => ?_) (fun h => by simp [yb1] at h)
    refine xd [] rfl (by simp) ?_
    rw [show ycl a b = (false, 2) by simp [ycl, hta]]
    exact zab ⟨_, rfl, tV rfl, trivial⟩
  | true =>
  cases htb : zbc b with
  | false =>
    refine zaa rfl (fun h => ?_) (fun h => by simp [yb1] at h)
    refine xd [] rfl (by simp) ?_
    rw [show ycl a b = (false, 2) by simp [ycl, htb]]
    exact zab ⟨_, rfl, tV rfl, trivial⟩
  | true =>
    refine zaa rfl (fun h => by simp [yb1] at h) (fun h => ?_)
    refine xd [] rfl (by simp) ?_
    refine zac rfl (fun _ => zxa a hta) (by simp) ?_
    refine xg [] rfl (by simp) ?_
    refine zac rfl (fun _ => zxa b htb) (by simp) ?_
    refine xg [] rfl (by simp) ?_
    refine zac rfl (fun _ => yh2 (zlz a) (zlz b) (zfa (zta hta))) (by simp) ?_
    refine xg [] rfl (by simp; rfl) ?_
    rw [show ycl a b = (ztw (zlz a) (zlz b), 0) by simp [ycl, hta, htb]]
    exact zab ⟨_, rfl, tV rfl, trivial⟩
theorem yoj (t : Tm) (h : zeg t = zbc t) : zau Tryz.prog 15 [.agg (dTmc t)] (.tup [.sl (za5 (bif zbc t then zcc t else [])), .int .i64 (bif zbc t then 0 else 2)]) := by
  refine zaf za6 Tryz.func15 (by decide +kernel) rfl [1, 2, 3, 4] rfl rfl ?_
  refine fg_ [] rfl (by simp) ?_
  refine zac rfl (fun _ => zf5 t) (by simp) ?_
  rw [h]
  cases ht : zbc t with
  | false =>
    refine fg_ [] rfl (by simp) ?_
    refine zaa rfl (fun h => ?_) (fun h => by simp [yb1] at h)
    refine fd_ [] rfl (by simp) ?_
    exact zab ⟨_, rfl, tV rfl, trivial⟩
  | true =>
    refine fg_ [] rfl (by simp) ?_
    refine zaa rfl (fun h => by simp [yb1] at h) (fun h => ?_)
    obtain ⟨h1, h2, h3, h4⟩ := zc0 t ht
    refine fd_ [] rfl (by simp) ?_
    refine zjt rfl ?_
    refine fg_ [] rfl (by simp) ?_
    refine zas (fr := []) [(2, 1)] [] rfl (by simp) (zsn t [] [] h2) ⟨⟨rfl, rfl, rfl⟩, trivial⟩ rfl rfl rfl rfl ?_
    refine fg_ [] rfl (by simp <;> rfl) ?_
    refine zas (fr := []) [(2, 1)] [] rfl (by simp) (yaz t ht) ⟨⟨rfl, rfl, rfl⟩, trivial⟩ rfl rfl rfl rfl ?_
    refine fg_ [] rfl (by simp <;> rfl) ?_
    exact zab ⟨_, rfl, tV rfl, trivial⟩
theorem yok (t : Tm) (h : zbc t = true) : zau Tryz.prog 15 [.agg (dTmc t)] (.tup [.sl (za5 (zcc t)), .int .i64 0]) := by
  have := yoj t (zdj h)
  rw [h] at this; simp only [cond_true] at this; exact this
def yax (i : Nat) (r : Nat × Tm × List Str) (x : Str) : Nat × Tm × List Str :=
  (r.1 + 1, zc3 (zcj r.2.1 i (zeh ((tmK r.2.1 i).getD zTm) x (mkS r.2.2.length))) i r.1 (mkS r.2.2.length), r.2.2 ++ [zbe r.2.2])
def zjc (i : Nat) (T : Tm) (m : List Str) (j : Nat) : Nat × Tm × List Str := ((zad T i).take j).foldl (yax i) (0, T, m)
def ypc (i : Nat) (T : Tm) (m : List Str) : Nat × Tm × List Str := (zad T i).foldl (yax i) (0, T, m)
def zmp : Nat → Nat → Tm → List Str → Tm × List Str
  | 0, _, T, m => (T, m)
  | k + 1, i, T, m => zmp k (i + 1) (ypc i T m).2.1 (ypc i T m).2.2
def zn4 : Tm → List Tm
  | .mk _ _ _ ks _ => ks
def zpw (rec : Tm → List Str → Tm × List Str) : List Tm → List Str → List Tm × List Str
  | [], tk => ([], tk)
  | k :: r, tk => ((rec k tk).1 :: (zpw rec r (rec k tk).2).1, (zpw rec r (rec k tk).2).2)
def zk6 : Nat → Tm → List Str → Tm × List Str
  | 0, t, tk => (t, tk)
  | N + 1, T, tk => (ze6 (zmp (zb3 T) 0 T tk).1 (zpw (zk6 N) (zn4 (zmp (zb3 T) 0 T tk).1) (zmp (zb3 T) 0 T tk).2).1, (zpw (zk6 N) (zn4 (zmp (zb3 T) 0 T tk).1) (zmp (zb3 T) 0 T tk).2).2)
theorem zyu {i : Nat} {T : Tm} {m : List Str} {j : Nat} {x : Str} (h : (zad T i)[j]? = some x) : zjc i T m (j + 1) = yax i (zjc i T m j) x := by
  simp only [zjc, zbk h, List.foldl_append, List.foldl_cons, List.foldl_nil]
theorem yc9 (i : Nat) (T : Tm) (m : List Str) : zjc i T m (zad T i).length = ypc i T m := by
  simp only [zjc, ypc, List.take_of_length_le (Nat.le_refl _)]
def zcv : Nat → Nat → List Str
  | _, 0 => []
  | q, n + 1 => mkS q :: zcv (q + 1) n
theorem zn1 : ∀ q n, (zcv q n).length = n
  | _, 0 => rfl
  | q, n + 1 => by simp [zcv, zn1 (q + 1) n]
def ztt : Tm → List Str → List Str → Tm
  | k, a :: r, m :: s => ztt (zeh k a m) r s
  | k, _, _ => k
theorem ymh {α : Type} {l : List α} {i : Nat} {k : α} (h : l[i]? = some k) : l.set i k = l := by
  refine List.ext_getElem? fun j => ?_
  by_cases e : j = i
  · subst e; rw [List.getElem?_set_self (List.getElem?_eq_some_iff.1 h).1, h]
  · rw [List.getElem?_set_ne (fun x => e x.symm)]
theorem yhy (T : Tm) (i : Nat) (a b : Tm) : zcj (zcj T i a) i b = zcj T i b := by
  obtain ⟨op, n, x, ks, ps⟩ := T
  simp [zcj]
theorem yc2 (i : Int) (l : Nat) (c : Tm) : ∀ (fl : List Str) (j : Nat) (T : Tm), zbv (zcj T l c) i j fl = zcj (zbv T i j fl) l c
  | [], _, _ => rfl
  | f :: r, j, T => by simp only [zbv, yh0]; exact yc2 i l c r (j + 1) _
theorem zf8 (i : Int) (l : Nat) : ∀ (fl : List Str) (j : Nat) (T : Tm), tmK (zbv T i j fl) l = tmK T l
  | [], _, _ => rfl
  | f :: r, j, T => by simp only [zbv]; rw [zf8 i l r, zev]
theorem zg4 (i : Int) : ∀ (fl : List Str) (j : Nat) (T : Tm), zb3 (zbv T i j fl) = zb3 T
  | [], _, _ => rfl
  | f :: r, j, T => by simp only [zbv]; rw [zg4 i r, zww]
theorem yd8 (i : Nat) : ∀ (names : List Str) (j : Nat) (T : Tm) (tk : List Str) (k : Tm), tmK T i = some k →
    names.foldl (yax i) (j, T, tk) = (j + names.length, zcj (zbv T i j (zcv tk.length names.length)) i (ztt k names (zcv tk.length names.length)), tk ++ zdz names.length tk)
  | [], j, T, tk, k, hk => by
    obtain ⟨op, n, x, ks, ps⟩ := T
    simp only [tmK] at hk
    simp [zdz, zbv, zcv, ztt, zcj, ymh hk]
  | x :: r, j, T, tk, k, hk => by
    rw [List.foldl_cons]
    simp only [yax]
    rw [yd8 i r _ _ _ (zeh k x (mkS tk.length)) (by rw [zev, zd6 hk, if_pos rfl, hk]; rfl)]
    simp only [List.length_cons, zdz, zcv, zbv, ztt, List.length_append, List.length_singleton, List.append_assoc, List.singleton_append, hk, Option.getD_some, List.length_nil, Nat.zero_add]
    rw [yh0, yc2, yhy]
    congr 1; omega
theorem ylk (i : Nat) (T : Tm) (tk : List Str) (k : Tm) (hk : tmK T i = some k) :
    ypc i T tk = ((zad T i).length, zcj (zbv T i 0 (zcv tk.length (zad T i).length)) i (ztt k (zad T i) (zcv tk.length (zad T i).length)), tk ++ zdz (zad T i).length tk) := by
  rw [ypc, yd8 i _ _ _ _ k hk]; simp
abbrev zg2 (s : Str) : Prop := s.head? ≠ some 35
theorem zgd {s : Str} (h : zcu s = true) : zg2 s := by
  cases s with
  | nil => simp
  | cons c r =>
    simp only [zcu, Bool.and_eq_true, zfw, List.all_cons, decide_eq_true_eq] at h
    have h1 := h.1.2.1.1
    simp only [List.head?_cons, ne_eq, Option.some.injEq]
    rintro rfl
    exact absurd h1 (by decide)
theorem zsi {s : Str} (h : ziv s = true) : zg2 s := by
  cases s with
  | nil => simp
  | cons c r =>
    simp only [ziv, Bool.and_eq_true, List.getD_cons_zero, decide_eq_true_eq] at h
    have h1 := h.1.2.1
    simp only [List.head?_cons, ne_eq, Option.some.injEq]
    rintro rfl
    exact absurd h1 (by decide)
theorem ynb {s : Str} {q : Nat} (h : zg2 s) : s ≠ mkS q := fun e => h (by rw [e]; rfl)
def shd (b : List Str) (σ : Str → Str) (y : Str) : Str := if y ∈ b then y else σ y
def yan (σ : Str → Str) (a m : Str) (y : Str) : Str := if y = a then m else σ y
def ypj : (Str → Str) → List Str → List Str → Str → Str
  | σ, a :: r, m :: s => ypj (yan σ a m) r s
  | σ, _, _ => σ
mutual
def zp3 : Tm → (Str → Str) → Tm
  | .mk op n x ks ps, σ => .mk op n (if op = 4 then σ x else x) (zlh (.mk op n x [] ps) 0 ks σ) ps
def zlh (T : Tm) : Nat → List Tm → (Str → Str) → List Tm
  | _, [], _ => []
  | i, k :: r, σ => zp3 k (shd (zad T i) σ) :: zlh T (i + 1) r σ
end
theorem zyx (T : Tm) (σ : Str → Str) : ∀ (i : Nat) (l : List Tm), (zlh T i l σ).length = l.length
  | _, [] => rfl
  | i, k :: r => by simp [zlh, zyx T σ (i + 1) r]
theorem zyy (T : Tm) (σ : Str → Str) : ∀ (l : List Tm) (i j : Nat), (zlh T i l σ)[j]? = (l[j]?).map fun c => zp3 c (shd (zad T ((i + j : Nat) : Int)) σ)
  | [], i, j => by simp [zlh]
  | k :: r, i, 0 => by simp [zlh]
  | k :: r, i, j + 1 => by
    simp only [zlh, List.getElem?_cons_succ, zyy T σ r (i + 1) j]
    rw [show i + 1 + j = i + (j + 1) by omega]
theorem znd {op n : Int} {x : Str} {ks : List Tm} {ps : List Ty} (e : op = 4) (i : Int) : zad (.mk op n x ks ps) i = [] := by
  subst e; simp [zad, zbg, zbr]
theorem ye1 {b : List Str} {σ : Str → Str} {a m : Str} (h : a ∈ b) : shd b (yan σ a m) = shd b σ := by
  funext y
  simp only [shd, yan]
  split
  · rfl
  · rw [if_neg]; rintro rfl; contradiction
theorem ya2 {b : List Str} {σ : Str → Str} {a m : Str} (h : a ∉ b) : shd b (yan σ a m) = yan (shd b σ) a m := by
  funext y
  simp only [shd, yan]
  by_cases e : y = a
  · subst e; rw [if_neg h, if_pos rfl, if_pos rfl]
  · rw [if_neg e, if_neg e]
mutual
theorem yib : ∀ (t : Tm) (σ : Str → Str) (a m : Str), (∀ y, σ y = a ↔ y = a) → zeh (zp3 t σ) a m = zp3 t (yan σ a m)
  | .mk op n x ks ps, σ, a, m, h => by
    simp only [zp3, zeh]
    have hb : ∀ z : Str, ∀ i : Int, zad (.mk op n (zpo op (if op = 4 then σ x else x) a z) [] ps) i = zad (.mk op n x [] ps) i := fun z i => by
      by_cases e : op = 4
      · rw [znd e, znd e]
      · simp [zpo, e]
    rw [zjb (T := .mk op n (zpo op (if op = 4 then σ x else x) a m) [] ps) (U := .mk op n x [] ps) a m (hb m) 0, yc6 (.mk op n x [] ps) 0 ks σ a m h]
    congr 1
    by_cases e : op = 4
    · simp only [zpo, e, if_true, yan, beq_self_eq_true, Bool.true_and, beq_iff_eq, h]
    · simp [zpo, e]
theorem yc6 (T : Tm) : ∀ (i : Nat) (l : List Tm) (σ : Str → Str) (a m : Str), (∀ y, σ y = a ↔ y = a) → zc7 T i (zlh T i l σ) a m = zlh T i l (yan σ a m)
  | _, [], _, _, _, _ => rfl
  | i, k :: r, σ, a, m, h => by
    simp only [zlh, zc7]
    rw [yc6 T (i + 1) r σ a m h]
    congr 1
    by_cases hm : a ∈ zad T i
    · rw [if_pos (zdy.2 hm), ye1 hm]
    · rw [if_neg (fun e => hm (zdy.1 e)), ya2 hm]
      refine yib k _ a m fun y => ?_
      simp only [shd]
      split
      · exact Iff.rfl
      · exact h y
end
mutual
theorem yot : ∀ t : Tm, zp3 t id = t
  | .mk op n x ks ps => by simp [zp3, yij]
theorem yij (T : Tm) : ∀ (i : Nat) (l : List Tm), zlh T i l id = l
  | _, [] => rfl
  | i, k :: r => by
    have : shd (zad T i) id = id := by funext y; simp [shd]
    simp only [zlh, this, yot k, yij T (i + 1) r]
end
def ybl (σ : Str → Str) : Prop := ∀ y, σ y = y ∨ ∃ q, σ y = mkS q
theorem yjw {σ : Str → Str} (h : ybl σ) (b : List Str) : ybl (shd b σ) := fun y => by
  simp only [shd]
  split
  · exact .inl rfl
  · exact h y
theorem yjv {σ : Str → Str} (h : ybl σ) (a : Str) (q : Nat) : ybl (yan σ a (mkS q)) := fun y => by
  simp only [yan]
  split
  · exact .inr ⟨q, rfl⟩
  · exact h y
theorem yc7 (t : Tm) : ∀ (b : List Str) (q : Nat) (σ : Str → Str), b.Nodup → (∀ a ∈ b, zg2 a ∧ σ a = a) → ybl σ → ztt (zp3 t σ) b (zcv q b.length) = zp3 t (ypj σ b (zcv q b.length)) ∧ ybl (ypj σ b (zcv q b.length))
  | [], q, σ, _, _, h => ⟨rfl, h⟩
  | a :: r, q, σ, hn, hp, h => by
    have hn := List.nodup_cons.1 hn
    obtain ⟨h1, h2⟩ := hp a (by simp)
    simp only [List.length_cons, zcv, ztt, ypj]
    rw [yib t σ a (mkS q) fun y => ⟨fun e => ?_, fun e => by rw [e, h2]⟩]
    · refine yc7 t r (q + 1) (yan σ a (mkS q)) hn.2 (fun c hc => ?_) (yjv h a q)
      obtain ⟨h3, h4⟩ := hp c (by simp [hc])
      refine ⟨h3, ?_⟩
      rw [yan, if_neg]
      · exact h4
      · rintro rfl; exact hn.1 hc
    · rcases h y with e1 | ⟨q2, e1⟩
      · rw [← e1, e]
      · exact absurd (e ▸ e1) (ynb h1)
theorem relZ (tkF : List Str) : ∀ (b ms : List Str) (σ : Str → Str) (s : Sc), b.length = ms.length → (∀ y, zg2 y → y ∉ b → unm tkF (σ y) = nowS s y) → ∀ y, zg2 y → unm tkF (ypj σ b ms y) = nowS ((b.zip (ms.map (unm tkF))).reverse ++ s) y
  | [], [], σ, s, _, h, y, hy => by simpa [ypj] using h y hy (by simp)
  | a :: r, m :: ms, σ, s, hl, h, y, hy => by
    simp only [ypj, List.map_cons, List.zip_cons_cons, List.reverse_cons, List.append_assoc, List.singleton_append]
    refine relZ tkF r ms (yan σ a m) ((a, unm tkF m) :: s) (by simpa using hl) (fun z hz hzr => ?_) y hy
    by_cases e : z = a
    · subst e; simp [yan, nowS, zhb]
    · have e2 : ¬ a = z := fun x => e x.symm
      have := h z hz (by simp [e, hzr])
      simp only [yan, if_neg e, this]
      simp [nowS, zhb, e, e2]
mutual
theorem ydt (tk : List Str) (f : Str) : ∀ (p : Ty) (j : Nat), zqb tk (zc2 p j f) = zc2 (zqb tk p) j (unm tk f)
  | .mk s n x ps, j => by
    by_cases e : s = 2
    · cases j with
      | zero => simp [zc2, zqb, e]
      | succ j => simp [zc2, zqb, e, zrw tk f ps j]
    · simp [zc2, zqb, e, zrw tk f ps j]
theorem zrw (tk : List Str) (f : Str) : ∀ (l : List Ty) (j : Nat), zft tk (zdb l j f) = zdb (zft tk l) j (unm tk f)
  | [], j => rfl
  | p :: r, j => by
    have hl : (zb2 (zqb tk p)).length = (zb2 p).length := zu1 tk p
    simp only [zdb, zft, hl]
    split
    · simp [zft, ydt tk f p j]
    · simp [zft, zrw tk f r]
theorem zu1 (tk : List Str) : ∀ p : Ty, (zb2 (zqb tk p)).length = (zb2 p).length
  | .mk s n x ps => by
    simp only [zqb, zb2, List.length_append, zry tk ps]
    split <;> rfl
theorem zry (tk : List Str) : ∀ l : List Ty, (zbd (zft tk l)).length = (zbd l).length
  | [] => rfl
  | p :: r => by simp only [zft, zbd, List.length_append, zu1 tk p, zry tk r]
end
theorem yfm (tk : List Str) (T : Tm) (i : Int) (j : Nat) (f : Str) : zly tk (zc3 T i j f) = zc3 (zly tk T) i j (unm tk f) := by
  obtain ⟨op, n, x, ks, ps⟩ := T
  simp only [zc3, zly]
  split
  · rfl
  · split
    · rw [ze0, List.getElem?_map]
      cases hp : ps[(i - 1).toNat]? with
      | none => simp [zly, ze0]
      | some p => simp [zly, ze0, List.map_set, ydt]
    · simp [zly]
theorem zrv (tk : List Str) (i : Int) : ∀ (fl : List Str) (j : Nat) (T : Tm), zly tk (zbv T i j fl) = zbv (zly tk T) i j (fl.map (unm tk))
  | [], _, _ => rfl
  | f :: r, j, T => by simp only [zbv, List.map_cons]; rw [zrv tk i r, yfm]
theorem zq7 (T : Tm) (a b : List Tm) : ze6 (ze6 T a) b = ze6 T b := by obtain ⟨op, n, x, l, ps⟩ := T; rfl
theorem yfl (tk : List Str) (T : Tm) (ks : List Tm) : zly tk (ze6 T ks) = ze6 (zly tk T) (zpp tk ks) := by obtain ⟨op, n, x, l, ps⟩ := T; rfl
theorem nmdT_K (tk : List Str) (T : Tm) (i : Nat) (c : Tm) (ks : List Tm) : ze6 (zly tk (zcj T i c)) ks = ze6 (zly tk T) ks := by obtain ⟨op, n, x, l, ps⟩ := T; rfl
theorem zzg {tkF : List Str} (hlen : tkF.length ≤ 702) : ∀ (fl tk : List Str), (tk ++ fl) <+: tkF → (zcv tk.length fl.length).map (unm tkF) = fl
  | [], tk, _ => rfl
  | f :: r, tk, h => by
    have h2 := zzg hlen r (tk ++ [f]) (by simpa using h)
    simp only [List.length_append, List.length_singleton] at h2
    obtain ⟨g, hg⟩ := h
    have : tkF[tk.length]? = some f := by rw [← hg]; simp
    simp only [List.length_cons, zcv, List.map_cons, unm_at hlen this, h2]
theorem yo2 {K : Nat} {T : Tm} (h : zxu K T) (i : Nat) (c : Tm) : zxu K (zcj T i c) := by obtain ⟨op, n, x, l, ps⟩ := T; exact h
theorem yje {K : Nat} {T U : Tm} {tk : List Str} (h : zxu K T) (hu : ze6 (zly tk T) [] = ze6 U []) : zxu K U := by
  obtain ⟨op, n, x, l, ps⟩ := T
  obtain ⟨op2, n2, x2, l2, ps2⟩ := U
  simp only [zly, ze6, Tm.mk.injEq] at hu
  obtain ⟨rfl, _⟩ := hu
  exact h
theorem zmb (T : Tm) (ks : List Tm) (i : Int) (fl : List Str) : zbv (ze6 T ks) i 0 fl = ze6 (zbv T i 0 fl) ks := zyi T ks i fl 0
theorem yjy {tkF : List Str} (hF : tkF.length ≤ 702) : ∀ (k i : Nat) (T Tc : Tm) (tk : List Str) (s : Sc) (acc : List Sc), i + k = zb3 T → zxu (zb3 T) T → ze6 (zly tkF T) [] = ze6 Tc [] → (∀ l : Nat, i ≤ l → l < zb3 T → zad Tc l = zad T l) →
    (l1 k i Tc tk s acc).2.1 <+: tkF →
    (zmp k i T tk).2 = (l1 k i Tc tk s acc).2.1 ∧ ze6 (zly tkF (zmp k i T tk).1) [] = ze6 (l1 k i Tc tk s acc).1 [] ∧ zb3 (zmp k i T tk).1 = zb3 T ∧ (∀ l, l < i → tmK (zmp k i T tk).1 l = tmK T l) ∧
    ∃ scs, (l1 k i Tc tk s acc).2.2 = acc ++ scs ∧ scs.length = k ∧ ∀ l, l < k → ∀ c, tmK T (i + l) = some c → ∃ q, tmK (zmp k i T tk).1 (i + l) = some (ztt c (zad T ((i + l : Nat) : Int)) (zcv q (zad T ((i + l : Nat) : Int)).length)) ∧
      scs[l]? = some (((zad T ((i + l : Nat) : Int)).zip ((zcv q (zad T ((i + l : Nat) : Int)).length).map (unm tkF))).reverse ++ s)
  | 0, i, T, Tc, tk, s, acc, _, _, hu, _, _ => ⟨rfl, hu, rfl, fun _ _ => rfl, [], by simp [l1], rfl, fun l hl => by omega⟩
  | k + 1, i, T, Tc, tk, s, acc, hik, hone, hu, hb, hpre => by
    obtain ⟨c0, hc0⟩ := zj7 (show i < zb3 T by omega)
    have hbi := hb i (Nat.le_refl _) (by omega)
    simp only [zmp, ylk i T tk c0 hc0]
    simp only [l1, zxe, hbi] at hpre ⊢
    have hfl := zgg (zad T (i : Int)).length tk
    generalize zdz (zad T (i : Int)).length tk = fl at *
    have honec := yje hone hu
    obtain ⟨_, _, ⟨g, hg, _⟩, _, _⟩ := ybp (K := zb3 T) k (i + 1) (zbv Tc (i : Int) 0 fl) (tk ++ fl) s (acc ++ [((zad T (i : Int)).zip fl).reverse ++ s]) (by omega) (zqa honec)
    have hmu : (zcv tk.length (zad T (i : Int)).length).map (unm tkF) = fl := by
      have := zzg hF fl tk ((List.prefix_append _ g).trans (hg ▸ hpre))
      rw [hfl] at this; exact this
    have hms := zn1 tk.length (zad T (i : Int)).length
    have hbo : ∀ l : Nat, l < zb3 T → l ≠ i → zad (zcj (zbv T (i : Int) 0 (zcv tk.length (zad T (i : Int)).length)) i (ztt c0 (zad T i) (zcv tk.length (zad T (i : Int)).length))) (l : Int) = zad T (l : Int) := fun l hl hne => by
      rw [zbs, zh4 hone (by omega) hl (fun e => hne e.symm)]
    have hkl : zb3 (zcj (zbv T (i : Int) 0 (zcv tk.length (zad T (i : Int)).length)) i (ztt c0 (zad T i) (zcv tk.length (zad T (i : Int)).length))) = zb3 T := by rw [zfd, zg4]
    have hkd : ∀ l, tmK (zcj (zbv T (i : Int) 0 (zcv tk.length (zad T (i : Int)).length)) i (ztt c0 (zad T i) (zcv tk.length (zad T (i : Int)).length))) l = if l = i then some (ztt c0 (zad T i) (zcv tk.length (zad T (i : Int)).length)) else tmK T l := fun l => by
      rw [zd6 (k0 := c0) (by rw [zf8]; exact hc0), zf8]
    obtain ⟨a1, a2, a3, a4, scs, a5, a6, a7⟩ := yjy hF k (i + 1) (zcj (zbv T (i : Int) 0 (zcv tk.length (zad T (i : Int)).length)) i (ztt c0 (zad T i) (zcv tk.length (zad T (i : Int)).length))) (zbv Tc (i : Int) 0 fl) (tk ++ fl) s (acc ++ [((zad T (i : Int)).zip fl).reverse ++ s])
      (by omega) (by rw [hkl]; exact yo2 (zqa hone) _ _) (by rw [nmdT_K, zrv, hmu, ← zmb, hu, zmb]) (fun l hl hl2 => by
        rw [hkl] at hl2
        rw [hbo l hl2 (by omega), zh4 honec (by omega) hl2 (by omega)]; exact hb l (by omega) hl2) hpre
    refine ⟨a1, a2, by rw [a3, hkl], fun l hl => by rw [a4 l (by omega), hkd, if_neg (by omega)], (((zad T (i : Int)).zip fl).reverse ++ s) :: scs, by rw [a5]; simp, by simp [a6], fun l hl c hc => ?_⟩
    cases l with
    | zero =>
      simp only [Nat.add_zero] at hc ⊢
      rw [hc0] at hc; cases hc
      exact ⟨tk.length, by rw [a4 i (by omega), hkd, if_pos rfl], by rw [hmu]; rfl⟩
    | succ l =>
      have e : i + (l + 1) = i + 1 + l := by omega
      rw [e] at hc ⊢
      obtain ⟨q, q1, q2⟩ := a7 l (by omega) c (by rw [hkd, if_neg (by omega)]; exact hc)
      rw [hbo (i + 1 + l) (by omega) (by omega)] at q1 q2
      exact ⟨q, q1, by simpa using q2⟩
mutual
theorem zu0 (tk : List Str) : ∀ p : Ty, zca p = true → zqb tk p = p
  | .mk s n x ps, h => by
    simp only [zca, Bool.and_eq_true] at h
    have hx : zg2 x := by
      have h1 := h.1
      unfold zh6 at h1
      split at h1
      · simp at h1; simp [h1.2]
      · split at h1
        · simp at h1; exact zgd h1.2
        · split at h1
          · simp at h1; simp [h1.1.2]
          · split at h1
            · simp at h1; simp [h1.1.2]
            · split at h1
              · simp at h1; exact zsi h1.2
              · cases h1
    rw [zqb, zl5 hx, zrx tk ps h.2]
theorem zrx (tk : List Str) : ∀ l : List Ty, zbq l = true → zft tk l = l
  | [], _ => rfl
  | p :: r, h => by
    simp only [zbq, Bool.and_eq_true] at h
    rw [zft, zu0 tk p h.1, zrx tk r h.2]
end
theorem yfk {op n : Int} {x : Str} {k p : Nat} (h : za9 op n x k p = true) : zg2 x := by
  have em : x = [] → zg2 x := fun e => by simp [e]
  unfold za9 zbj at h
  by_cases c : op = 1
  · rw [if_pos c] at h; clear c; simp at h; exact em h.1.2.1
  rw [if_neg c] at h; clear c
  by_cases c : op = 2
  · rw [if_pos c] at h; clear c; simp at h; exact em h.1.2.1
  rw [if_neg c] at h; clear c
  by_cases c : op = 3 ∨ op = 21 ∨ op = 25 ∨ op = 28
  · rw [if_pos c] at h; clear c; simp at h; exact em h.2.1.2
  rw [if_neg c] at h; clear c
  by_cases c : op = 4
  · rw [if_pos c] at h; clear c; simp at h; exact zgd h.2
  rw [if_neg c] at h; clear c
  by_cases c : op = 5 ∨ op = 27
  · rw [if_pos c] at h; clear c; simp at h; exact zgd h.2
  rw [if_neg c] at h; clear c
  by_cases c : op = 7
  · rw [if_pos c] at h; clear c; simp at h; exact zgd h.2
  rw [if_neg c] at h; clear c
  by_cases c : op = 8
  · rw [if_pos c] at h; clear c; simp at h; exact em h.2.1.2
  rw [if_neg c] at h; clear c
  by_cases c : op = 14
  · rw [if_pos c] at h; clear c; simp at h; exact zsi h.2
  rw [if_neg c] at h; clear c
  by_cases c : op = 15
  · rw [if_pos c] at h; clear c; simp at h; exact em h.2.2
  rw [if_neg c] at h; clear c
  by_cases c : op = 16 ∨ op = 17 ∨ op = 19 ∨ op = 20 ∨ op = 23 ∨ op = 26
  · rw [if_pos c] at h; clear c; simp at h; exact em h.2.1.2
  rw [if_neg c] at h; clear c
  by_cases c : op = 24
  · rw [if_pos c] at h; clear c; simp at h; exact em h.1.2.1
  rw [if_neg c] at h; clear c
  by_cases c : op = 6 ∨ op = 9 ∨ op = 10 ∨ op = 11 ∨ op = 12 ∨ op = 13 ∨ op = 18 ∨ op = 22
  · rw [if_pos c] at h; clear c; simp at h; exact em h.2.1.2
  rw [if_neg c] at h; clear c
  cases h
def okF (tkF : List Str) (σ : Str → Str) (s : Sc) : Prop := ybl σ ∧ ∀ y, zg2 y → unm tkF (σ y) = nowS s y
theorem yep {tkF : List Str} {rec : Tm → List Str → Tm × List Str} {N : Nat} (hrec : ∀ (t : Tm) (σ : Str → Str) (s : Sc) (tk : List Str), zcp t ≤ N → zak t = true → okF tkF σ s → (zgz t s tk).2 <+: tkF → (rec (zp3 t σ) tk).2 = (zgz t s tk).2 ∧ zly tkF (rec (zp3 t σ) tk).1 = (zgz t s tk).1) :
    ∀ (ks ks1 : List Tm) (scs : List Sc) (tk : List Str), ks1.length = ks.length → (∀ (l : Nat) (c : Tm), ks[l]? = some c → ∃ σ, ks1[l]? = some (zp3 c σ) ∧ okF tkF σ (scs[l]?.getD [])) → zaq ks = true → zco ks ≤ N → (ze3 ks scs tk).2 <+: tkF →
      (zpw rec ks1 tk).2 = (ze3 ks scs tk).2 ∧ zpp tkF (zpw rec ks1 tk).1 = (ze3 ks scs tk).1
  | [], ks1, scs, tk, hl, _, _, _, _ => by
    have : ks1 = [] := List.eq_nil_of_length_eq_zero (by simpa using hl)
    subst this
    exact ⟨rfl, rfl⟩
  | c :: r, ks1, scs, tk, hl, h, hn, hc, hp => by
    simp only [zaq, Bool.and_eq_true] at hn
    simp only [zco] at hc
    obtain ⟨σ, h1, h2⟩ := h 0 c rfl
    cases ks1 with
    | nil => simp at hl
    | cons k1 r1 =>
      simp at h1
      subst h1
      have e : scs[0]?.getD [] = scs.headD [] := by cases scs <;> rfl
      rw [e] at h2
      simp only [ze3] at hp ⊢
      obtain ⟨g, hg⟩ := znc r scs.tail (zgz c (scs.headD []) tk).2 hn.2
      obtain ⟨a1, a2⟩ := hrec c σ (scs.headD []) tk (by omega) hn.1 h2 ((List.prefix_append _ g).trans (hg ▸ hp))
      obtain ⟨b1, b2⟩ := yep hrec r r1 scs.tail (zgz c (scs.headD []) tk).2 (by simpa using hl) (fun l d hd => by
        obtain ⟨σ', q1, q2⟩ := h (l + 1) d hd
        refine ⟨σ', by simpa using q1, ?_⟩
        have e : scs[l + 1]?.getD [] = scs.tail[l]?.getD [] := by cases scs <;> simp
        rw [← e]; exact q2) hn.2 (by omega) hp
      simp only [zpw, zpp, a1, a2, b1, b2, and_self]
theorem zse (U : Tm) : (zn4 U).length = zb3 U := by obtain ⟨_, _, _, _, _⟩ := U; rfl
theorem zsf (U : Tm) (l : Nat) : (zn4 U)[l]? = tmK U l := by obtain ⟨_, _, _, _, _⟩ := U; rfl
theorem yln {tkF : List Str} (hF : tkF.length ≤ 702) : ∀ (N : Nat) (t : Tm) (σ : Str → Str) (s : Sc) (tk : List Str), zcp t ≤ N → zak t = true → okF tkF σ s → (zgz t s tk).2 <+: tkF → (zk6 N (zp3 t σ) tk).2 = (zgz t s tk).2 ∧ zly tkF (zk6 N (zp3 t σ) tk).1 = (zgz t s tk).1
  | 0, t, σ, s, tk, hc, hn, ho, hp => by have := zoe t; omega
  | N + 1, .mk op n x ks ps, σ, s, tk, hc, hn, ho, hp => by
    have hn0 := hn
    simp only [zak, Bool.and_eq_true] at hn
    have hps : zft tkF ps = ps := by
      rw [ze0]
      conv => rhs; rw [← List.map_id ps]
      refine List.map_congr_left fun p hpm => ?_
      have := List.all_eq_true.1 hn.1.2 p hpm
      simp only [zct, Bool.and_eq_true] at this
      exact zu0 tkF p this.1.2
    have hx := yfk hn.1.1
    have hkl : zb3 (zp3 (.mk op n x ks ps) σ) = ks.length := by simp [zp3, zb3, zyx]
    by_cases e : op = 4
    · have hk : ks = [] := by
        have := hn.1.1
        simp [za9, e] at this
        exact List.eq_nil_of_length_eq_zero (by simp [this.1.1])
      subst hk
      simp only [zk6, hkl, List.length_nil, zmp, zgz, if_pos e]
      simp only [zp3, zlh, zn4, zpw, ze6, zly, zpp, hps, if_pos e]
      refine ⟨trivial, ?_⟩
      rw [ho.2 x hx]; rfl
    · have e1 : zp3 (.mk op n x ks ps) σ = .mk op n x (zlh (.mk op n x [] ps) 0 ks σ) ps := by rw [zp3, if_neg e]
      have hb1 : ∀ i : Int, zad (zp3 (.mk op n x ks ps) σ) i = zad (.mk op n x ks ps) i := fun i => by rw [e1]; rfl
      have hone : zxu ks.length (.mk op n x ks ps) := ybd hn.1.1
      simp only [zgz, if_neg e] at hp ⊢
      obtain ⟨g, hg⟩ := znc ks (l1 ks.length 0 (.mk op n x ks ps) tk s []).2.2 (l1 ks.length 0 (.mk op n x ks ps) tk s []).2.1 hn.2
      obtain ⟨a1, a2, a3, _, scs, a5, a6, a7⟩ := yjy hF ks.length 0 (zp3 (.mk op n x ks ps) σ) (.mk op n x ks ps) tk s [] (by rw [hkl]; omega) (by rw [hkl, e1]; exact hone) (by rw [e1]; simp [zly, ze6, hps, zl5 hx]) (fun l _ _ => (hb1 l).symm) ((List.prefix_append _ g).trans (hg ▸ hp))
      simp only [List.nil_append] at a5
      simp only [zk6, hkl]
      rw [a5] at hp ⊢
      rw [hkl] at a3
      rw [a1]
      obtain ⟨b1, b2⟩ := yep (tkF := tkF) (rec := zk6 N) (N := N) (fun t σ s tk h1 h2 h3 h4 => yln hF N t σ s tk h1 h2 h3 h4) ks (zn4 (zmp ks.length 0 (zp3 (.mk op n x ks ps) σ) tk).1) scs (l1 ks.length 0 (.mk op n x ks ps) tk s []).2.1
        (by rw [zse, a3])
        (fun l c hc => by
          have hl := (List.getElem?_eq_some_iff.1 hc).1
          have hk : tmK (zp3 (.mk op n x ks ps) σ) (0 + l) = some (zp3 c (shd (zad (.mk op n x ks ps) (l : Int)) σ)) := by
            rw [e1]; simp only [tmK, Nat.zero_add, zyy, hc, Option.map_some]; rfl
          obtain ⟨q, q1, q2⟩ := a7 l hl _ hk
          simp only [Nat.zero_add, hb1] at q1 q2
          have hbn : ∀ a ∈ zad (.mk op n x ks ps) (l : Int), zg2 a := fun a ha => zgd (zls hn.1.1 hn.1.2 (l : Int) a ha)
          obtain ⟨r1, r2⟩ := yc7 c (zad (.mk op n x ks ps) (l : Int)) q (shd (zad (.mk op n x ks ps) (l : Int)) σ) (ycf hn0 _) (fun a ha => ⟨hbn a ha, by simp [shd, ha]⟩) (yjw ho.1 _)
          refine ⟨_, ?_, r2, fun y hy => ?_⟩
          · rw [← r1, ← q1, zsf]
          · rw [q2]
            refine relZ tkF _ _ _ s (zn1 _ _).symm (fun z hz hzb => ?_) y hy
            rw [shd, if_neg hzb]; exact ho.2 z hz)
        hn.2 (by simp only [zcp] at hc; omega) hp
      refine ⟨b1, ?_⟩
      rw [yfl, b2, ← zq7 (zly tkF _) [], a2, zq7]
theorem ymv {t : Tm} (h : zbc t = true) (N : Nat) (hN : zcp t ≤ N) : zly (zk6 N t (zcc t)).2 (zk6 N t (zcc t)).1 = zlz t ∧ (zk6 N t (zcc t)).2.length ≤ 699 := by
  have hb := zin h
  have hn : zak t = true := by simp only [zbc, Bool.and_eq_true] at h; exact h.2
  have hl := zqm t [] (zcc t)
  have hid := yot t
  obtain ⟨h1, h2⟩ := yln (tkF := (zgz t [] (zcc t)).2) (by omega) N t id [] (zcc t) hN hn ⟨fun y => .inl rfl, fun y hy => by rw [id, zl5 hy]; rfl⟩ (List.prefix_refl _)
  rw [hid] at h1 h2
  rw [h1]
  exact ⟨h2, by omega⟩
mutual
theorem zzu (f : Str) : ∀ (p : Ty) (j : Nat), zps p → zps (zc2 p j f) ∧ za0 (zc2 p j f) = za0 p
  | .mk s n x ps, j, h => by
    by_cases e : s = 2
    · have hp : ps = [] := h.1 e
      subst hp
      cases j with
      | zero => simp [zc2, e, zps, zhq, za0]
      | succ j => simp [zc2, zdb, e, zps, zhq, za0]
    · obtain ⟨h1, h2⟩ := zvf f ps j h.2
      simp only [zc2, if_neg e, zps, za0, h2]
      exact ⟨⟨fun h => absurd h e, h1⟩, trivial⟩
theorem zvf (f : Str) : ∀ (l : List Ty) (j : Nat), zhq l → zhq (zdb l j f) ∧ zam (zdb l j f) = zam l
  | [], j, _ => ⟨trivial, rfl⟩
  | p :: r, j, h => by
    simp only [zdb]
    split
    · obtain ⟨h1, h2⟩ := zzu f p j h.1
      simp only [zhq, zam, h2]
      exact ⟨⟨h1, h.2⟩, trivial⟩
    · obtain ⟨h1, h2⟩ := zvf f r (j - (zb2 p).length) h.2
      simp only [zhq, zam, h2]
      exact ⟨⟨h.1, h1⟩, trivial⟩
end
theorem yjh {T : Tm} {i j : Nat} {f : Str} (h : okM T) (hn : f ∉ zad T i) : okM (zc3 T i j f) := by
  obtain ⟨op, n, x, ks, ps⟩ := T
  simp only [zad] at hn
  simp only [zc3]
  by_cases h1 : zbg op i = true
  · rw [if_pos h1]; exact h
  · rw [if_neg h1]
    by_cases h2 : zbr op i = true
    · rw [if_pos h2]
      rw [if_neg h1, if_pos h2] at hn
      cases hp : ps[((i : Int) - 1).toNat]? with
      | none => exact h
      | some p =>
        simp only [hp] at hn
        obtain ⟨⟨q1, q2, q3, q4⟩, q5, q6⟩ := h
        refine ⟨⟨q1, by simpa using q2, q3, by simpa using q4⟩, fun q hq => ?_, q6⟩
        rcases List.mem_or_eq_of_mem_set hq with hq | rfl
        · exact q5 q hq
        · obtain ⟨r1, r2, r3⟩ := q5 p (List.mem_of_getElem? hp)
          obtain ⟨s1, s2⟩ := zzu f p j r2
          refine ⟨by rw [s2]; exact r1, s1, ?_⟩
          rw [zgc]
          exact zuu r3 hn
    · rw [if_neg h2]; exact h
theorem ydk : ∀ {l : List Tm} {i : Nat} {k : Tm}, yl4 l → okM k → yl4 (l.set i k)
  | [], _, _, _, _ => trivial
  | a :: r, 0, k, h, hk => ⟨hk, h.2⟩
  | a :: r, i + 1, k, h, hk => ⟨h.1, ydk h.2 hk⟩
theorem ym5 {T k : Tm} {i : Nat} (h : okM T) (hk : okM k) : okM (zcj T i k) := by
  obtain ⟨op, n, x, ks, ps⟩ := T
  obtain ⟨⟨q1, q2, q3, q4⟩, q5, q6⟩ := h
  exact ⟨⟨by simpa using q1, q2, fun e => by rw [q3 e]; rfl, by simpa using q4⟩, q5, ydk q6 hk⟩
theorem yjg {T k : Tm} {i : Nat} (h : okM T) (hk : tmK T i = some k) : okM k := by
  obtain ⟨op, n, x, ks, ps⟩ := T
  exact zkd h.2.2 hk
mutual
theorem ybe (a b : Str) : ∀ t : Tm, okM t → okM (zeh t a b)
  | .mk op n x ks ps, h => by
    obtain ⟨⟨q1, q2, q3, q4⟩, q5, q6⟩ := h
    have hl := zc4 (.mk op n (zpo op x a b) [] ps) a b 0 ks
    rw [zeh]
    exact ⟨⟨by rw [hl]; exact q1, q2, fun e => by rw [q3 e]; rfl, by rw [hl]; exact q4⟩, q5, ydl a b (.mk op n (zpo op x a b) [] ps) 0 ks q6⟩
theorem ydl (a b : Str) (T : Tm) : ∀ (i : Nat) (l : List Tm), yl4 l → yl4 (zc7 T i l a b)
  | _, [], _ => trivial
  | i, k :: r, h => by
    simp only [zc7]
    refine ⟨?_, ydl a b T (i + 1) r h.2⟩
    split
    · exact h.1
    · exact ybe a b k h.1
end
mutual
def okA : Tm → Prop
  | .mk op n x ks ps => zxu ks.length (.mk op n x [] ps) ∧ (∀ i : Nat, ∀ s ∈ zad (.mk op n x [] ps) i, zg2 s) ∧ yq5 ks
def yq5 : List Tm → Prop
  | [] => True
  | k :: r => okA k ∧ yq5 r
end
theorem ydo : ∀ {l : List Tm} {i : Nat} {k : Tm}, yq5 l → l[i]? = some k → okA k
  | [], i, k, _, h => by simp at h
  | a :: r, 0, k, h, hk => by simp at hk; subst hk; exact h.1
  | a :: r, i + 1, k, h, hk => ydo h.2 (by simpa using hk)
theorem zvu (op n : Int) (x a b : Str) (ps : List Ty) (i : Int) : zad (.mk op n (zpo op x a b) [] ps) i = zad (.mk op n x [] ps) i := by
  by_cases e : op = 4
  · rw [znd e, znd e]
  · simp [zpo, e]
mutual
theorem yjm (a b : Str) : ∀ t : Tm, okA t → okA (zeh t a b)
  | .mk op n x ks ps, h => by
    have hl := zc4 (.mk op n (zpo op x a b) [] ps) a b 0 ks
    rw [zeh]
    refine ⟨by rw [hl]; exact h.1, fun i s hs => h.2.1 i s (by rw [zvu] at hs; exact hs), ydn a b (.mk op n (zpo op x a b) [] ps) 0 ks h.2.2⟩
theorem ydn (a b : Str) (T : Tm) : ∀ (i : Nat) (l : List Tm), yq5 l → yq5 (zc7 T i l a b)
  | _, [], _ => trivial
  | i, k :: r, h => by
    simp only [zc7]
    refine ⟨?_, ydn a b T (i + 1) r h.2⟩
    split
    · exact h.1
    · exact yjm a b k h.1
end
mutual
theorem yo3 : ∀ t : Tm, zak t = true → okA t
  | .mk op n x ks ps, h => by
    simp only [zak, Bool.and_eq_true] at h
    exact ⟨ybd h.1.1, fun i s hs => zgd (zls h.1.1 h.1.2 (ks := []) i s hs), yjl ks h.2⟩
theorem yjl : ∀ l : List Tm, zaq l = true → yq5 l
  | [], _ => trivial
  | k :: r, h => by
    simp only [zaq, Bool.and_eq_true] at h
    exact ⟨yo3 k h.1, yjl r h.2⟩
end
mutual
theorem zwm (a b : Str) : ∀ t : Tm, zlk (zeh t a b) = zlk t
  | .mk op n x ks ps => by
    have hl := zc4 (.mk op n (zpo op x a b) [] ps) a b 0 ks
    rw [zeh]
    simp only [zlk, hl, zy6 a b _ 0 ks]
    rw [zfi (t := .mk op n (zpo op x a b) (zc7 (.mk op n (zpo op x a b) [] ps) 0 ks a b) ps) (u := .mk op n x ks ps) fun m => by
      have := zvu op n x a b ps m
      exact congrArg List.length this]
theorem zy6 (a b : Str) (T : Tm) : ∀ (i : Nat) (l : List Tm), zes (zc7 T i l a b) = zes l
  | _, [] => rfl
  | i, k :: r => by
    simp only [zc7, zes, zy6 a b T (i + 1) r]
    split
    · rfl
    · rw [zwm a b k]
end
theorem yag {T : Tm} {i l j : Nat} {f : Str} (h : zxu (zb3 T) T) (hi : i < zb3 T) (hl : l < zb3 T) (hne : l ≠ i) : zad (zc3 T i j f) l = zad T l := by
  obtain ⟨op, n, x, ks, ps⟩ := T
  simp only [zb3] at hi hl
  simp only [zc3]
  by_cases h1 : zbg op i = true
  · have h3 : ¬ zbg op l = true := fun h3 => hne (h l i hl hi h3 h1)
    rw [if_pos h1]
    simp only [zad, if_neg h3]
  · rw [if_neg h1]
    by_cases h2 : zbr op i = true
    · rw [if_pos h2]
      cases hp : ps[((i : Int) - 1).toNat]? with
      | none => rfl
      | some p =>
        simp only [zad]
        by_cases h3 : zbg op l = true
        · rw [if_pos h3, if_pos h3]
        · rw [if_neg h3, if_neg h3]
          by_cases h4 : zbr op l = true
          · rw [if_pos h4, if_pos h4]
            have : ((i : Int) - 1).toNat ≠ ((l : Int) - 1).toNat := by
              simp only [zbr, Bool.and_eq_true, decide_eq_true_eq] at h2 h4
              omega
            rw [List.getElem?_set_ne this]
          · rw [if_neg h4, if_neg h4]
    · rw [if_neg h2]
theorem zuh {i : Nat} {T k0 : Tm} {m : List Str} (hn : okM T) (hone : zxu (zb3 T) T) (hk0 : tmK T i = some k0) (hpl : ∀ s ∈ zad T i, zg2 s) (hml : m.length + (zad T i).length ≤ 700) : ∀ j, j ≤ (zad T i).length →
    (zjc i T m j).1 = j ∧ okM (zjc i T m j).2.1 ∧ zxu (zb3 T) (zjc i T m j).2.1 ∧ (∀ l, l < zb3 T → l ≠ i → zad (zjc i T m j).2.1 l = zad T l) ∧ (zjc i T m j).2.2.length = m.length + j ∧ zb3 (zjc i T m j).2.1 = zb3 T ∧
      (zad (zjc i T m j).2.1 i).length = (zad T i).length ∧ (∀ l, j ≤ l → (zad (zjc i T m j).2.1 i)[l]? = (zad T i)[l]?) ∧ (∀ l, l < j → (zad (zjc i T m j).2.1 i)[l]? = some (mkS (m.length + l))) ∧ (∀ l, l ≠ i → tmK (zjc i T m j).2.1 l = tmK T l) ∧ zn3 T (zjc i T m j).2.1 ∧
      (∃ k', tmK (zjc i T m j).2.1 i = some k' ∧ zcp k' = zcp k0 ∧ (okA k0 → okA k') ∧ zlk k' = zlk k0)
  | 0, _ => ⟨rfl, hn, hone, fun _ _ _ => rfl, rfl, rfl, rfl, fun _ _ => rfl, fun l hl => by omega, fun _ _ => rfl, zhp T, k0, hk0, rfl, id, rfl⟩
  | j + 1, hj => by
    obtain ⟨h1, h2, h3, h4, h5, h6, h7, h8, h9, h10, h11, k, hk, e1, e2, e3⟩ := zuh hn hone hk0 hpl hml j (by omega)
    obtain ⟨x, hx⟩ := zal (show j < (zad T i).length by omega)
    have hi := yoo hk0
    rw [zyu hx]
    generalize zjc i T m j = r at *
    obtain ⟨r1, rT, rm⟩ := r
    simp only at h1 h2 h3 h4 h5 h6 h7 h8 h9 h10 h11 hk
    subst h1
    simp only [yax, hk, Option.getD_some]
    have hKn : okM (zcj rT i (zeh k x (mkS rm.length))) := ym5 h2 (ybe _ _ _ (yjg h2 hk))
    have hnot : mkS rm.length ∉ zad rT i := fun hm => by
      obtain ⟨l, hl⟩ := List.getElem?_of_mem hm
      by_cases hlt : l < r1
      · rw [h9 l hlt] at hl
        have := yjt (by omega) (by omega) (Option.some.inj hl)
        omega
      · rw [h8 l (by omega)] at hl
        exact hpl _ (List.mem_of_getElem? hl) rfl
    have hlt : r1 < (zad (zcj rT i (zeh k x (mkS rm.length))) i).length := by rw [zbs, h7]; omega
    have hoK : zxu (zb3 (zcj rT i (zeh k x (mkS rm.length)))) (zcj rT i (zeh k x (mkS rm.length))) := by rw [zfd, h6]; exact yo2 h3 _ _
    refine ⟨trivial, yjh hKn (by rw [zbs]; exact hnot), ?_, fun l hl hne => ?_, by simp only [List.length_append, List.length_singleton]; omega, ?_, ?_, fun l hl => ?_, fun l hl => ?_, fun l hl => ?_, zwu (zsc h11 i _) _ _ _, zeh k x (mkS rm.length), ?_, by rw [zkp, e1], fun h => yjm _ _ _ (e2 h), by rw [zwm, e3]⟩
    · have := zqa (i := (i : Int)) (j := r1) (fl := [mkS rm.length]) hoK
      rw [zfd, h6] at this
      exact this
    · rw [yag hoK (by rw [zfd, h6]; exact hi) (by rw [zfd, h6]; exact hl) hne, zbs, h4 l hl hne]
    · rw [zww, zfd, h6]
    · rw [zd8, zbs, h7]
    · rw [zhu _ hlt, List.getElem?_set_ne (by omega), zbs, h8 l (by omega)]
    · rw [zhu _ hlt, zbs]
      by_cases e : l = r1
      · subst e; rw [List.getElem?_set_self (by rw [h7]; omega), h5]
      · rw [List.getElem?_set_ne (by omega), h9 l (by omega)]
    · rw [zev, zd6 hk, if_neg hl, h10 l hl]
    · rw [zev, zd6 hk, if_pos rfl]
set_option maxHeartbeats 1000000 in
theorem ye9 (T : Tm) (i j : Nat) (a b : Str) (k : Tm) (hn : okM T) (hk : tmK T i = some k) (hc : zcp k ≤ 60) (hj : (zad T i)[j]? = some a) :
    zau Tryz.prog 45 [.agg (dTmc T), .int .i64 i, .str a, .str b] (.agg (dTmc (zc3 (zcj T i (zeh k a b)) i j b))) := by
  obtain ⟨op, n, x, ks, ps⟩ := T
  have hn3 := hn.2.2
  simp only [tmK] at hk
  have hlt := (List.getElem?_eq_some_iff.1 hk).1
  have hK6 := hn.1.1
  have hren := zuj k a b (zkd hn3 hk) hc
  refine zaf zaw Tryz.func45 (by decide +kernel) rfl [1, 2, 3, 4, 5, 6, 7, 8, 9] rfl rfl ?_
  refine qg [] rfl (by simp) ?_
  refine zby zaw rfl ⟨fun c hc => by rw [ze2] at hc; obtain ⟨q, _, rfl⟩ := List.mem_map.1 hc; simp, by simp only [maxLen, List.length_nil, dTms_length] at *; omega, by simp only [List.length_nil, dTms_length] at *; omega, by simp⟩ ?_
  refine qg [] rfl (by simp) ?_
  refine zda zaw rfl (fun _ => ⟨by simp, by simp; omega⟩) (by simp) ?_
  refine qg [] rfl (by simp) ?_
  obtain ⟨ko, kn, kx, kks, kps⟩ := k
  obtain ⟨kx2, kks2, hsh⟩ : ∃ kx2 kks2, zeh (.mk ko kn kx kks kps) a b = .mk ko kn kx2 kks2 kps := ⟨_, _, by rw [zeh]⟩
  rw [hsh] at hren
  have eK : zcj (.mk op n x ks ps) i (zeh (.mk ko kn kx kks kps) a b) = .mk op n x (ks.set i (.mk ko kn kx2 kks2 kps)) ps := by rw [hsh]; rfl
  rw [eK]
  refine zhe zaw (e := dTmc (.mk ko kn kx kks kps)) rfl (fun _ => by simpa using zbu hk) rfl (by simp) ?_
  refine qg [] rfl (by simp) ?_
  refine zac rfl (fun _ => hren) (by simp) ?_
  refine qg [] rfl (by simp) ?_
  refine zda zaw rfl (fun _ => ⟨by simp, by simp; omega⟩) (by simp) ?_
  refine qg [] rfl (by simp) ?_
  refine zqi zaw (e := dTmc (.mk ko kn kx kks kps)) (e' := dTmc (.mk ko kn kx2 kks2 kps)) rfl (by simpa using zbu hk) (by show 0 + 5 ≤ 5; decide) (by simp [List.drop_eq_nil_of_le]) (by simp) ?_
  refine qg [] rfl (by simp) ?_
  by_cases e : op = 15
  · have ho : zbg op i = false := by simp [zbg, e]
    obtain ⟨p, hp, hpj, hi0⟩ : ∃ p, ps[((i : Int) - 1).toNat]? = some p ∧ (za3 p)[j]? = some a ∧ 0 < i := by
      simp only [zad, ho, Bool.false_eq_true, if_false] at hj
      by_cases h1 : zbr op i = true
      · rw [if_pos h1] at hj
        have hi0 : 0 < i := by simp [zbr] at h1; omega
        cases hg : ps[((i : Int) - 1).toNat]? with
        | none => simp only [hg] at hj; simp at hj
        | some p => simp only [hg] at hj; exact ⟨p, rfl, hj, hi0⟩
      · rw [if_neg h1] at hj; simp at hj
    have hpl := hn.1.2.1
    have hpok := hn.2.1 p (List.mem_of_getElem? hp)
    have hpb : zbr op i = true := by simp [zbr, e]; omega
    have hnd := hpok.2.2
    have hwp : zl2 p := zpx p (by have := hpok.1; omega)
    have hrn := yop p a b hwp
    rw [yic a b p j hnd hpj] at hrn
    have eB : zc3 (.mk op n x (ks.set i (.mk ko kn kx2 kks2 kps)) ps) i j b = .mk op n x (ks.set i (.mk ko kn kx2 kks2 kps)) (ps.set ((i : Int) - 1).toNat (zc2 p j b)) := by simp only [zc3, ho, Bool.false_eq_true, if_false, if_pos hpb, hp]
    rw [eB]
    have hw : IntKind.i64.wrap ((i : Int) - 1) = (i : Int) - 1 := w64 (by omega) (by omega)
    obtain ⟨pf, pn, px, pps⟩ := p
    obtain ⟨px2, pps2, hps2⟩ : ∃ px2 pps2, zc2 (.mk pf pn px pps) j b = .mk pf pn px2 pps2 := by
      cases j <;> simp only [zc2] <;> split <;> exact ⟨_, _, rfl⟩
    rw [hps2] at hrn ⊢
    refine zaa rfl (fun h => ?_) (fun h => by simp [e] at h)
    refine qd [] rfl (by simp) ?_
    refine zby zaw rfl ⟨fun c hc => by rw [zhg] at hc; obtain ⟨q, _, rfl⟩ := List.mem_map.1 hc; simp, by simp only [maxLen, List.length_nil, dTys_length] at *; omega, by simp only [List.length_nil, dTys_length] at *; omega, by simp⟩ ?_
    refine qg [] rfl (by simp) ?_
    refine zda zaw rfl (fun _ => ⟨by simp only [hw]; omega, by simp only [hw, List.nil_append, dTys_length]; have := (List.getElem?_eq_some_iff.1 hp).1; omega⟩) (by simp) ?_
    refine qg [] rfl (by simp) ?_
    refine zhe zaw (e := zb0 (.mk pf pn px pps)) rfl (fun _ => by simp only [hw]; simpa using zb6 hp) rfl (by simp) ?_
    refine qg [] rfl (by simp) ?_
    refine zac rfl (fun _ => hrn) (by simp) ?_
    refine qg [] rfl (by simp) ?_
    refine zda zaw rfl (fun _ => ⟨by simp only [hw]; omega, by simp only [hw, List.nil_append, dTys_length]; have := (List.getElem?_eq_some_iff.1 hp).1; omega⟩) (by simp) ?_
    refine qg [] rfl (by simp) ?_
    refine zqi zaw (e := zb0 (.mk pf pn px pps)) (e' := zb0 (.mk pf pn px2 pps2)) rfl (by simp only [hw]; simpa using zb6 hp) (by show 0 + 4 ≤ 4; decide) (by simp [List.drop_eq_nil_of_le]) (by simp) ?_
    refine qg [] rfl (by simp) ?_
    refine zb4 3 rfl ?_
    refine zb4 5 rfl ?_
    refine zab ⟨_, rfl, tV ?_, trivial⟩
    simp [dTmc, zm6, yed, hw]
  · refine zaa rfl (fun h => absurd (by simpa using h) e) (fun h => ?_)
    have ho : zbg op i = true := by
      simp only [zad] at hj
      by_cases h1 : zbg op i = true
      · exact h1
      · rw [if_neg h1, if_neg (by simp [zbr, e])] at hj; cases hj
    have eB : zc3 (.mk op n x (ks.set i (.mk ko kn kx2 kks2 kps)) ps) i j b = .mk op n b (ks.set i (.mk ko kn kx2 kks2 kps)) ps := by simp only [zc3, if_pos ho]
    rw [eB]
    refine qd [] rfl (by simp) ?_
    refine zb4 3 rfl ?_
    refine zab ⟨_, rfl, tV ?_, trivial⟩
    simp [dTmc, zm6]
def zos (t : Tm) (nm : Str) (by' : Tm) : Tm := rpl nm by' (zeb by' [] []) 60 t
def ypn (t : Tm) (nm : Str) (by' : Tm) : Tm × Int := bif zbc t && zcu nm && zbc by' then (bif zbc (zos t nm by') then (zos t nm by', 0) else (zTm, 3)) else (zTm, 2)
theorem zvc {t : Tm} (h : zbc t = true) : (zeb t [] []).length ≤ 60 ∧ ∀ s ∈ zeb t [] [], s.length ≤ 8 := by
  obtain ⟨h1, _, _, h4⟩ := zc0 t h
  refine ⟨by have := zjv t [] []; simp at this; omega, fun s hs => ?_⟩
  simp only [zbc, Bool.and_eq_true] at h
  rcases zif t [] [] h.2 s hs with h | h
  · cases h
  · exact h
theorem yav {t : Tm} {nm : Str} {by' : Tm} (ht : zbc t = true) (hb : zbc by' = true) : zak (zos t nm by') = true := by
  have h60 := (zc0 t ht).2.2.2
  have hfl := (zvc hb).1
  simp only [zbc, Bool.and_eq_true] at ht hb
  exact zyq hb.2 hfl 60 t h60 ht.2
theorem yog (t : Tm) (nm : Str) (by' : Tm) (ht : zeg t = zbc t) (hb : zeg by' = zbc by') : zau Tryz.prog 9 [.agg (dTmc t), .str nm, .agg (dTmc by')] (.tup [.agg (dTmc (ypn t nm by').1), .int .i64 (ypn t nm by').2]) := by
  refine zaf zbb Tryz.func9 (by decide +kernel) rfl [1, 2, 3, 4, 5, 6, 7, 8, 9] rfl rfl ?_
  refine xg [] rfl (by simp) ?_
  refine zac rfl (fun _ => zf5 t) (by simp) ?_
  rw [ht]
  refine xg [] rfl (by simp [zag]) ?_
  refine zac rfl (fun _ => zfy nm) (by simp [zag]) ?_
  refine xg [] rfl (by simp [zag]) ?_
  refine zac rfl (fun _ => zf5 by') (by simp [zag]) ?_
  rw [hb]
  refine xg [] rfl (by simp [zag]) ?_
  cases h1 : zbc t && zcu nm && zbc by' with
  | false =>
    refine zaa rfl (fun h => ?_) (fun h => ?_)
    · refine xd [] rfl (by simp) ?_
      rw [show ypn t nm by' = (zTm, 2) by simp only [ypn, h1, cond_false]]
      exact zab ⟨_, rfl, tV rfl, trivial⟩
    · exfalso
      cases e1 : zbc t <;> cases e2 : zcu nm <;> cases e3 : zbc by' <;> simp [e1, e2, e3, yb1] at h h1
  | true =>
    simp only [Bool.and_eq_true] at h1
    obtain ⟨⟨e1, e2⟩, e3⟩ := h1
    rw [e1, e2, e3]
    refine zaa rfl (fun h => by simp [yb1] at h) (fun h => ?_)
    clear h
    obtain ⟨f1, f2, f3, f4⟩ := zc0 by' e3
    obtain ⟨g1, g2⟩ := zvc e3
    have h60 := (zc0 t e1).2.2.2
    have htn : zak t = true := by simp only [zbc, Bool.and_eq_true] at e1; exact e1.2
    have hS := yii nm by' (zeb by' [] []) (zfa e3) g1 (fun s hs => by
      rcases List.mem_cons.1 hs with h | h
      · rw [h]; exact zr0 e2
      · exact g2 s h) 60 t h60 htn h60
    have hso := zs9 (yav (nm := nm) e1 e3)
    have hco := zf5 (zos t nm by')
    rw [hso] at hco
    have esub : zos t nm by' = rpl nm by' (zeb by' [] []) 60 t := rfl
    obtain ⟨bo, bn, bx, bks, bps⟩ := by'
    refine xd [] rfl (by simp) ?_
    refine zjt rfl ?_
    refine xg [] rfl (by simp) ?_
    refine zas (fr := []) [(4, 1)] [] rfl (by simp) (zsn (.mk bo bn bx bks bps) [] [] f2) ⟨⟨rfl, rfl, rfl⟩, trivial⟩ rfl rfl rfl rfl ?_
    refine xg [] rfl (by simp) ?_
    rw [← esub] at hS
    have eR : ypn t nm (.mk bo bn bx bks bps) = bif zbc (zos t nm (.mk bo bn bx bks bps)) then (zos t nm (.mk bo bn bx bks bps), 0) else (zTm, 3) := by simp only [ypn, e1, e2, e3, Bool.and_self, cond_true]
    rw [eR]
    generalize zos t nm (.mk bo bn bx bks bps) = r at *
    obtain ⟨ro, rn, rx, rks, rps⟩ := r
    refine zas (fr := []) [(4, 7)] [] rfl (by simp) hS ⟨⟨rfl, rfl, rfl⟩, trivial⟩ rfl rfl rfl rfl ?_
    refine xg [] rfl (by simp) ?_
    refine zac rfl (fun _ => hco) (by simp) ?_
    refine xg [] rfl (by simp) ?_
    cases hr : zbc (.mk ro rn rx rks rps) with
    | false =>
      refine zaa rfl (fun h => ?_) (fun h => by simp at h)
      refine xd [] rfl (by simp) ?_
      exact zab ⟨_, rfl, tV rfl, trivial⟩
    | true =>
      refine zaa rfl (fun h => by simp at h) (fun h => ?_)
      refine xd [] rfl (by simp) ?_
      exact zab ⟨_, rfl, tV rfl, trivial⟩
theorem yff (l : List Str) (len : Nat) (hl : l.length ≤ 699) : zc8 Tryz.prog 44 [.own 1 len] [(1, some (.row 9 1 (za5 l)))] (.ret (.imm (.str (zbe l))) [(1, some (.row 9 1 (za5 l)))]) := by
  refine zm4 (stL := [(1, some (.row 9 1 (za5 l)))]) (st0 := []) (st1 := []) (yfg l hl) rfl trivial (by simp [nms, nmD]) (fun i b h j hj => ?_) fun I J μ w hst hle hb xs hx => ?_
  · rcases zai.1 h with ⟨_, rfl⟩ | ⟨_, h⟩
    · simp [nmB] at hj
    · simp [zat, lk] at h
  · refine ⟨hx.1, fun i v d h1 h2 => ?_⟩
    match i with
    | 0 =>
      simp at h2; subst h2
      have h3 := hx.2 0 v _ h1 rfl
      cases h3 with
      | own _ _ a cap hm =>
        have hl : zat [(1, some (.row 9 1 (za5 l)))] 1 (.row 9 1 (za5 l)) := zai.2 (.inl ⟨rfl, rfl⟩)
        obtain ⟨g, q1, q2⟩ := hst.blk 1 _ hl
        rw [hm] at q1; cases q1
        exact .imm _ _ (zqe q2 hle fun b ho => hb 1 _ _ b hl hm ho)
    | i + 1 => simp at h2
theorem zix (i : Int) (m : Int) : ∀ (fl : List Str) (j : Nat) (T : Tm), (zad (zbv T i j fl) m).length = (zad T m).length
  | [], _, _ => rfl
  | f :: r, j, T => by simp only [zbv]; rw [zix i m r, zd8]
theorem zuf : ∀ (a b : List Str) (k : Tm), zlk (ztt k a b) = zlk k ∧ zcp (ztt k a b) = zcp k ∧ (okM k → okM (ztt k a b))
  | [], _, k => by simp [ztt]
  | _ :: _, [], k => by simp [ztt]
  | a :: r, m :: s, k => by
    obtain ⟨h1, h2, h3⟩ := zuf r s (zeh k a m)
    simp only [ztt, h1, h2, zwm, zkp, true_and]
    exact fun h => h3 (ybe a m k h)
theorem zke : ∀ (k i : Nat) (T : Tm) (tk : List Str), i + k = zb3 T → (zmp k i T tk).2.length = tk.length + zhw T k i ∧ zb3 (zmp k i T tk).1 = zb3 T ∧
    ∀ l c, tmK T l = some c → ∃ c', tmK (zmp k i T tk).1 l = some c' ∧ zlk c' = zlk c ∧ zcp c' = zcp c ∧ (okM c → okM c')
  | 0, i, T, tk, _ => ⟨by simp [zmp, zhw], rfl, fun l c hc => ⟨c, hc, rfl, rfl, id⟩⟩
  | k + 1, i, T, tk, h => by
    obtain ⟨c0, hc0⟩ := zj7 (show i < zb3 T by omega)
    simp only [zmp, ylk i T tk c0 hc0]
    obtain ⟨h1, h2, h3⟩ := zke k (i + 1) (zcj (zbv T (i : Int) 0 (zcv tk.length (zad T (i : Int)).length)) i (ztt c0 (zad T i) (zcv tk.length (zad T (i : Int)).length))) (tk ++ zdz (zad T (i : Int)).length tk) (by rw [zfd, zg4]; omega)
    refine ⟨?_, by rw [h2, zfd, zg4], fun l c hc => ?_⟩
    · rw [h1, zfi (u := T) (fun m => by rw [zbs, zix]) k (i + 1)]
      simp only [List.length_append, zgg, zhw]; omega
    · by_cases e : l = i
      · subst e
        rw [hc0] at hc; cases hc
        obtain ⟨q1, q2, q3⟩ := zuf (zad T l) (zcv tk.length (zad T (l : Int)).length) c0
        obtain ⟨c', a1, a2, a3, a4⟩ := h3 l (ztt c0 (zad T l) (zcv tk.length (zad T (l : Int)).length)) (by rw [zd6 (k0 := c0) (by rw [zf8]; exact hc0), if_pos rfl])
        exact ⟨c', a1, a2.trans q1, a3.trans q2, fun h => a4 (q3 h)⟩
      · exact h3 l c (by rw [zd6 (k0 := c0) (by rw [zf8]; exact hc0), if_neg e, zf8]; exact hc)
theorem zrq : ∀ (l m : List Tm), l.length = m.length → (∀ (i : Nat) (a b : Tm), l[i]? = some a → m[i]? = some b → zlk a = zlk b) → zes l = zes m
  | [], [], _, _ => rfl
  | a :: r, b :: s, hl, h => by
    simp only [zes]
    rw [h 0 a b rfl rfl, zrq r s (by simpa using hl) fun i c d hc hd => h (i + 1) c d (by simpa using hc) (by simpa using hd)]
theorem zut {T : Tm} {k i : Nat} {tk : List Str} (h : i + k = zb3 T) : zes (zn4 (zmp k i T tk).1) = zes (zn4 T) := by
  obtain ⟨_, h2, h3⟩ := zke k i T tk h
  refine zrq _ _ (by rw [zse, zse, h2]) fun l a b ha hb => ?_
  rw [zsf] at ha hb
  obtain ⟨c', q1, q2, _⟩ := h3 l b hb
  rw [ha] at q1; cases q1; exact q2
theorem yeo {rec : Tm → List Str → Tm × List Str} {N : Nat} (hrec : ∀ t tk, okM t → zcp t ≤ N → (rec t tk).2.length = tk.length + zlk t) : ∀ (l : List Tm) (tk : List Str), (∀ k ∈ l, okM k ∧ zcp k ≤ N) → (zpw rec l tk).2.length = tk.length + zes l
  | [], tk, _ => by simp [zpw, zes]
  | k :: r, tk, h => by
    obtain ⟨h1, h2⟩ := h k (by simp)
    simp only [zpw, zes]
    rw [yeo hrec r _ fun c hc => h c (by simp [hc]), hrec k tk h1 h2]; omega
theorem yen : ∀ (N : Nat) (t : Tm) (tk : List Str), okM t → zcp t ≤ N → (zk6 N t tk).2.length = tk.length + zlk t
  | 0, t, tk, _, h => by have := zoe t; omega
  | N + 1, .mk op n x ks ps, tk, hn, hc => by
    obtain ⟨h1, h2, h3⟩ := zke (zb3 (.mk op n x ks ps)) 0 (.mk op n x ks ps) tk (by omega)
    have h4 := zut (T := .mk op n x ks ps) (k := zb3 (.mk op n x ks ps)) (i := 0) (tk := tk) (by omega)
    simp only [zk6]
    rw [yeo (N := N) (fun t tk h1 h2 => yen N t tk h1 h2) _ _ fun k hk => ?_, h1, h4]
    · simp only [zb3, zn4, zlk]
      by_cases e : op = 4
      · have := hn.1.2.2.1 e
        subst this
        simp [e, zhw, zes]
      · rw [if_neg e]; omega
    · obtain ⟨l, hl⟩ := List.getElem?_of_mem hk
      rw [zsf] at hl
      have hlt := yoo hl
      rw [h2] at hlt
      obtain ⟨c, hc2⟩ := zj7 hlt
      obtain ⟨c', q1, _, q3, q4⟩ := h3 l c hc2
      rw [hl] at q1; cases q1
      have hck : zcp c ≤ N := by
        have := zfp (l := ks) (i := l) (k := c) hc2
        simp only [zcp] at hc; omega
      exact ⟨q4 (yjg hn hc2), by omega⟩
theorem ylp {rec : Tm → List Str → Tm × List Str} {l : List Tm} {i : Nat} {k : Tm} (h : l[i]? = some k) (tk : List Str) : zpw rec (l.drop i) tk = ((rec k tk).1 :: (zpw rec (l.drop (i + 1)) (rec k tk).2).1, (zpw rec (l.drop (i + 1)) (rec k tk).2).2) := by
  rw [zap h]; rfl
theorem yfj {l : List Tm} {i : Nat} {k : Tm} (h : l[i]? = some k) : zes (l.drop i) = zlk k + zes (l.drop (i + 1)) := by
  rw [zap h]; rfl
theorem ym6 {op n : Int} {x : Str} {ks : List Tm} {ps : List Ty} (h : okM (.mk op n x ks ps)) {i : Nat} (hi : i < ks.length) (hp : zbr op i = true) : ∃ p, ps[((i : Int) - 1).toNat]? = some p ∧ za0 p ≤ 1000000 := by
  obtain ⟨p, q1, q2⟩ := yji h hi hp
  exact ⟨p, q1, by omega⟩
def dAgX (t : Tm) : D := .imm (.agg (dTmc t))
set_option maxHeartbeats 1000000 in
theorem yeq : ∀ (N : Nat) (t : Tm) (tk : List Str), zcp t ≤ N → zcp t ≤ 60 → okM t → okA t → tk.length + zlk t ≤ 699 →
    zc8 Tryz.prog 50 [.imm (.agg (dTmc t)), .own 1 (za5 tk).length] [(1, some (.row 9 1 (za5 tk)))]
      (.ret (.tup [dAgX (zk6 N t tk).1, .own 2 (za5 (zk6 N t tk).2).length]) [(2, some (.row 9 1 (za5 (zk6 N t tk).2)))])
  | 0, t, tk, hc, _, _, _, _ => by have := zoe t; omega
  | N + 1, .mk op n x ks ps, tk, hc, h60, hn, hA, hb => by
    have hK6 : ks.length ≤ 6 := hn.1.1
    have hbS : tk.length + zhw (.mk op n x ks ps) ks.length 0 + zes ks ≤ 699 := by
      simp only [zlk] at hb
      by_cases e : op = 4
      · have := hn.1.2.2.1 e
        subst this
        rw [if_pos e] at hb
        simp [zhw, zes]; omega
      · rw [if_neg e] at hb; omega
    have hkl : zb3 (.mk op n x ks ps) = ks.length := rfl
    have hres : zk6 (N + 1) (.mk op n x ks ps) tk = (ze6 (zmp ks.length 0 (.mk op n x ks ps) tk).1 (zpw (zk6 N) (zn4 (zmp ks.length 0 (.mk op n x ks ps) tk).1) (zmp ks.length 0 (.mk op n x ks ps) tk).2).1, (zpw (zk6 N) (zn4 (zmp ks.length 0 (.mk op n x ks ps) tk).1) (zmp ks.length 0 (.mk op n x ks ps) tk).2).2) := by rw [zk6, hkl]
    have hmA := (zke ks.length 0 (.mk op n x ks ps) tk (by rw [hkl]; omega)).1
    have hmO := zut (T := .mk op n x ks ps) (k := ks.length) (i := 0) (tk := tk) (by rw [hkl]; omega)
    simp only [zn4] at hmO
    rw [hres]
    generalize hTR : zmp ks.length 0 (.mk op n x ks ps) tk = TR at *
    refine zaf zaw Tryz.func50 (by decide +kernel) rfl [3, 4, 2, 5, 6, 7, 8, 9, 10, 11, 12] rfl rfl ?_
    refine qg [] rfl (by simp) ?_
    refine zz4 1 2 1 rfl rfl ?_
    refine zah (fun y : Nat × Tm × List Str => [(6, .imm (.int .i64 y.1)), (1, .own 2 (za5 y.2.2).length), (2, .ref 3 0), (4, .ref 4 0)])
      (fun y => [(2, some (.row 9 1 (za5 y.2.2))), (3, some (.immb 26 5 (dTmc y.2.1))), (4, some (.cells 26 5 [.imm (.int .i64 0), .imm (.int .i64 0), .imm (.str []), .nils, .nils]))]) [5, 6, 7, 8, 9, 10, 11, 12]
      (fun y => ks.length - y.1) (fun y => y.1 ≤ ks.length ∧ okM y.2.1 ∧ zxu ks.length y.2.1 ∧ zn3 (.mk op n x ks ps) y.2.1 ∧ (∀ l, l < ks.length → y.1 ≤ l → ∀ s ∈ zad y.2.1 (l : Int), zg2 s) ∧ y.2.2.length + zhw (.mk op n x ks ps) (ks.length - y.1) y.1 ≤ 699 ∧ (∀ l k, tmK y.2.1 l = some k → zcp k ≤ 60 ∧ zcp k ≤ N ∧ okA k) ∧
        zmp (ks.length - y.1) y.1 y.2.1 y.2.2 = TR) (0, .mk op n x ks ps, tk)
      ⟨Nat.zero_le _, hn, hA.1, zhp _, fun l hl _ s hs => hA.2.1 l s hs, by simp only [Nat.sub_zero]; omega, fun l k hk => by
        have := zfp (l := ks) (i := l) (k := k) hk
        simp only [zcp] at h60 hc
        exact ⟨by omega, by omega, ydo hA.2.2 hk⟩, hTR⟩ ⟨rfl, rfl, rfl, rfl, trivial⟩ ⟨rfl, rfl, rfl, trivial⟩ rfl fun y hi ih => ?_
    obtain ⟨i, T, m⟩ := y
    obtain ⟨d1, d2, d3, d4, d5, d6, d7, d8⟩ := hi
    simp only at d1 d2 d3 d4 d5 d6 d7 d8
    have hlike := d4
    obtain ⟨p1, p2, p3, p4, p5, x1, kn, ps1, hT1, hT, hl1, hl2, hbl⟩ := d4
    cases hT1
    subst hT
    refine qd [] rfl (by simp) ?_
    refine zaa rfl (fun h => ?_) (fun h => ?_)
    · rw [dTms_length, hl1] at h
      simp at h
      have hiK : i < zb3 (.mk op n x1 kn ps1) := by simp only [zb3]; omega
      obtain ⟨k0, hk0⟩ := zj7 hiK
      have hbS2 : zhw (.mk op n x ks ps) (ks.length - i) i = (zad (.mk op n x1 kn ps1) i).length + zhw (.mk op n x ks ps) (ks.length - (i + 1)) (i + 1) := by
        rw [show ks.length - i = (ks.length - (i + 1)) + 1 by omega, hbl]; rfl
      have hml : m.length + (zad (.mk op n x1 kn ps1) i).length ≤ 700 := by omega
      have hKeep := zuh d2 (by show zxu kn.length _; rw [hl1]; exact d3) hk0 (d5 i h (Nat.le_refl _)) hml
      refine qd [] rfl (by simp) ?_
      refine zac rfl (fun _ => zqo op n x1 kn ps1 i (by omega) (fun _ hp => ym6 d2 (by omega) hp)) (by simp) ?_
      rw [zy4 d2]
      refine qg [] rfl (by simp) ?_
      refine zah (fun j : Nat => [(8, .imm (.int .i64 j)), (7, .imm (.sl (za5 (zad (.mk op n x1 kn ps1) i)))), (6, .imm (.int .i64 i)), (1, .own 2 (za5 (zjc i (.mk op n x1 kn ps1) m j).2.2).length), (2, .ref 3 0), (4, .ref 4 0)])
        (fun j => [(2, some (.row 9 1 (za5 (zjc i (.mk op n x1 kn ps1) m j).2.2))), (3, some (.immb 26 5 (dTmc (zjc i (.mk op n x1 kn ps1) m j).2.1))), (4, some (.cells 26 5 [.imm (.int .i64 0), .imm (.int .i64 0), .imm (.str []), .nils, .nils]))]) [5, 6, 7, 8, 9, 10, 11, 12]
        (fun j => (zad (.mk op n x1 kn ps1) i).length - j) (fun j => j ≤ (zad (.mk op n x1 kn ps1) i).length) 0 (Nat.zero_le _) ⟨rfl, rfl, rfl, rfl, rfl, rfl, trivial⟩ ⟨rfl, rfl, rfl, trivial⟩ rfl fun j hj jh => ?_
      obtain ⟨e1, e2, e3, e4, e5, e6, e7, e8, e9, e10, e11, k1, hk1, hk1c, hk1a, hk1o⟩ := hKeep j hj
      refine qd [] rfl (by simp) ?_
      refine zaa rfl (fun h2 => ?_) (fun h2 => ?_)
      · simp at h2
        obtain ⟨z, hz⟩ := zal h2
        have hz2 := e8 j (Nat.le_refl _)
        rw [hz] at hz2
        have hk60 := (d7 i k0 hk0).1
        have hreb := ye9 (zjc i (.mk op n x1 kn ps1) m j).2.1 i j z (mkS (zjc i (.mk op n x1 kn ps1) m j).2.2.length) k1 e2 hk1 (by omega) hz2
        have hsu : zjc i (.mk op n x1 kn ps1) m (j + 1) = (j + 1, zc3 (zcj (zjc i (.mk op n x1 kn ps1) m j).2.1 i (zeh k1 z (mkS (zjc i (.mk op n x1 kn ps1) m j).2.2.length))) i j (mkS (zjc i (.mk op n x1 kn ps1) m j).2.2.length), (zjc i (.mk op n x1 kn ps1) m j).2.2 ++ [zbe (zjc i (.mk op n x1 kn ps1) m j).2.2]) := by
          rw [zyu hz]; simp only [yax, hk1, Option.getD_some, e1]
        obtain ⟨so, sn, sx, sks, sps, hshape⟩ := zko (zc3 (zcj (zjc i (.mk op n x1 kn ps1) m j).2.1 i (zeh k1 z (mkS (zjc i (.mk op n x1 kn ps1) m j).2.2.length))) i j (mkS (zjc i (.mk op n x1 kn ps1) m j).2.2.length))
        rw [hshape] at hreb hsu
        have hmk : zau Tryz.prog 82 [.int .i64 ((za5 (zjc i (.mk op n x1 kn ps1) m j).2.2).length : Nat)] (.str (mkS (zjc i (.mk op n x1 kn ps1) m j).2.2.length)) := by
          rw [dStr_length]; exact yju _ (by omega)
        generalize zjc i (.mk op n x1 kn ps1) m j = r at *
        obtain ⟨r1, rT, rm⟩ := r
        simp only at e1 e2 e3 e5 e6 e7 e8 e9 hreb hsu hmk
        refine qd [] rfl (by simp) ?_
        refine qi_ rfl (c := [.str z]) (fun _ => ⟨by simp, by simpa using zcx hz, rfl⟩) (by simp) ?_
        refine qg [] rfl (by simp) ?_
        refine zac rfl (fun _ => hmk) (by simp) ?_
        refine qg [] rfl (by simp) ?_
        refine zac rfl (fun _ => hreb) (by simp) ?_
        refine qg [] rfl (by simp; rfl) ?_
        refine zas (fr := []) [(2, 1)] [] rfl (by simp) (yff rm _ (by omega)) ⟨⟨rfl, rfl, rfl⟩, trivial⟩ rfl rfl rfl rfl ?_
        refine qg [] rfl (by simp) ?_
        refine zby zaw rfl ⟨by simp, by simp [maxLen]; omega, by simp; omega, trivial⟩ ?_
        refine qg [] rfl (by simp) ?_
        refine zbt 2 5 rfl ?_
        have et : za5 (rm ++ [zbe rm]) = za5 rm ++ [[.str (zbe rm)]] := by simp [za5]
        exact zae (jh (j + 1) (by omega) (by omega)) ⟨zcn (w64 (by omega) (by omega)), rfl, rfl, by rw [hsu]; simp only; rw [et]; rfl, rfl, rfl, trivial⟩ ⟨by rw [hsu]; simp only; rw [et]; rfl, by rw [hsu]; rfl, rfl, trivial⟩ rfl
      · simp at h2
        have hjl : j = (zad (.mk op n x1 kn ps1) i).length := by omega
        subst hjl
        rw [yc9] at e2 e3 e4 e5 e6 e7 e10 e11 hk1
        rw [yc9]
        clear jh
        rw [show ks.length - i = (ks.length - (i + 1)) + 1 by omega] at d8
        simp only [zmp] at d8
        refine zar rfl ?_
        refine qd [] rfl (by simp) ?_
        refine zae (ih (i + 1, (ypc i (.mk op n x1 kn ps1) m).2.1, (ypc i (.mk op n x1 kn ps1) m).2.2) (by simp only; omega) ⟨by simp only; omega, e2, by have := e3; simp only [zb3, hl1] at this; exact this, zsb hlike e11, fun l hl hl2 s hs => ?_, by simp only; omega, fun l k hk => ?_, d8⟩) ⟨zcn (w64 (by omega) (by omega)), rfl, rfl, rfl, trivial⟩ ⟨rfl, rfl, rfl, trivial⟩ rfl
        · simp only at hs hl2
          rw [e4 l (by simp only [zb3]; omega) (by omega)] at hs
          exact d5 l hl (by omega) s hs
        · simp only at hk
          by_cases hli : l = i
          · subst hli
            rw [hk] at hk1; cases hk1
            obtain ⟨q1, q2, q3⟩ := d7 l k0 hk0
            exact ⟨by omega, by omega, hk1a q3⟩
          · rw [e10 l hli] at hk
            exact d7 l k hk
    · rw [dTms_length, hl1] at h
      simp at h
      have hi : i = ks.length := by omega
      subst hi
      clear ih
      simp only [Nat.sub_self, zmp] at d8
      subst d8
      simp only [zn4, ze6] at hmO hmA ⊢
      refine zar rfl ?_
      refine qd [] rfl (by simp) ?_
      refine zby zaw rfl ⟨fun c hc => by rw [ze2] at hc; obtain ⟨q, _, rfl⟩ := List.mem_map.1 hc; simp, by simp only [maxLen, List.length_nil, dTms_length] at *; omega, by simp only [List.length_nil, dTms_length] at *; omega, by simp⟩ ?_
      refine qg [] rfl (by simp) ?_
      have hkm : ∀ k ∈ kn, okM k ∧ okA k ∧ zcp k ≤ N ∧ zcp k ≤ 60 := fun k hk => by
        obtain ⟨l, hl⟩ := List.getElem?_of_mem hk
        obtain ⟨q1, q2, q3⟩ := d7 l k hl
        exact ⟨zkd d2.2.2 hl, q3, q2, q1⟩
      have hR1 : (zpw (zk6 N) kn m).1 = (kn.take 0) ++ (zpw (zk6 N) (kn.drop 0) m).1 := rfl
      have hR2 : (zpw (zk6 N) kn m).2 = (zpw (zk6 N) (kn.drop 0) m).2 := rfl
      generalize (zpw (zk6 N) kn m).1 = R1 at *
      generalize (zpw (zk6 N) kn m).2 = R2 at *
      refine zah (fun y : Nat × List Tm × List Str => [(9, .imm (.int .i64 y.1)), (1, .own 2 (za5 y.2.2).length), (2, .ref 3 0), (4, .ref 4 0)])
        (fun y => [(2, some (.row 9 1 (za5 y.2.2))), (5, some (.row 26 5 (zcy y.2.1))), (3, some (.cells 26 5 [.imm (.int .i64 op), .imm (.int .i64 n), .imm (.str x1), .own 5 (zcy kn).length, .imm (.sl (zb8 ps1))])), (4, some (.cells 26 5 [.imm (.int .i64 0), .imm (.int .i64 0), .imm (.str []), .nils, .nils]))]) [6, 7, 8, 9, 10, 11, 12]
        (fun y => kn.length - y.1) (fun y => y.1 ≤ kn.length ∧ y.2.1.length = kn.length ∧ y.2.1.drop y.1 = kn.drop y.1 ∧ R1 = y.2.1.take y.1 ++ (zpw (zk6 N) (kn.drop y.1) y.2.2).1 ∧ R2 = (zpw (zk6 N) (kn.drop y.1) y.2.2).2 ∧ y.2.2.length + zes (kn.drop y.1) ≤ 699) (0, kn, m)
        ⟨Nat.zero_le _, rfl, rfl, hR1, hR2, by simp only [List.drop_zero]; omega⟩ ⟨rfl, rfl, rfl, rfl, trivial⟩ ⟨rfl, rfl, rfl, rfl, trivial⟩ rfl fun y hi ih => ?_
      obtain ⟨i, L, m2⟩ := y
      obtain ⟨f1, f2, f3, f4, f5, f6⟩ := hi
      simp only at f1 f2 f3 f4 f5 f6
      refine qd [] rfl (by simp) ?_
      refine zaa rfl (fun h => ?_) (fun h => ?_)
      · simp at h
        obtain ⟨k, hk⟩ := zal h
        obtain ⟨g1, g2, g3, g4⟩ := hkm k (List.mem_of_getElem? hk)
        have hLk : L[i]? = some k := by
          have := congrArg (fun l => l[0]?) f3
          simpa [List.getElem?_drop, hk] using this
        have hlen := yen N k m2 g1 g3
        rw [yfj hk] at f6
        have hIH := yeq N k m2 g3 g4 g1 g2 (by omega)
        rw [ylp hk] at f4 f5
        simp only at f4 f5
        generalize zk6 N k m2 = r at *
        obtain ⟨⟨ro, rn, rx, rks, rps⟩, rm⟩ := r
        simp only at hlen hIH f4 f5
        refine qd [] rfl (by simp) ?_
        refine zda zaw rfl (fun _ => ⟨by simp, by simp; omega⟩) (by simp) ?_
        refine qg [] rfl (by simp) ?_
        obtain ⟨ko, kn2, kx, kks, kps⟩ := k
        refine zhe zaw (e := dTmc (.mk ko kn2 kx kks kps)) rfl (fun _ => by simpa using zbu hLk) rfl (by simp) ?_
        refine qg [] rfl (by simp) ?_
        refine zas (fr := [6]) [(2, 1)] [(2, 6)] rfl (by simp) hIH ⟨⟨rfl, rfl, rfl⟩, trivial⟩ rfl rfl rfl rfl ?_
        refine qg [] rfl (by simp) ?_
        refine zda zaw rfl (fun _ => ⟨by simp, by simp; omega⟩) (by simp) ?_
        refine qg [] rfl (by simp) ?_
        refine zqi zaw (e := dTmc (.mk ko kn2 kx kks kps)) (e' := dTmc (.mk ro rn rx rks rps)) rfl (by simpa using zbu hLk) (by show 0 + 5 ≤ 5; decide) (by simp [List.drop_eq_nil_of_le]) (by simp) ?_
        refine qg [] rfl (by simp) ?_
        refine zbt 2 6 rfl ?_
        have et : zcy (L.set i (.mk ro rn rx rks rps)) = (zcy L).set i (dTmc (.mk ro rn rx rks rps)) := zm6 _ _ _
        have hiL : i < L.length := by omega
        refine zae (ih (i + 1, L.set i (.mk ro rn rx rks rps), rm) (by simp only; omega) ⟨by simp only; omega, by simpa using f2, ?_, ?_, f5, by simp only; omega⟩) ⟨zcn (w64 (by omega) (by omega)), rfl, rfl, rfl, trivial⟩ ⟨rfl, ?_, rfl, rfl, trivial⟩ rfl
        · simp only
          rw [List.drop_set_of_lt (by omega), ← List.drop_drop, f3, List.drop_drop]
        · simp only
          rw [f4, List.take_add_one, List.getElem?_set_self hiL, List.take_set_of_le (Nat.le_refl _)]
          simp
        · simp only; rw [et]; rfl
      · simp at h
        have hi2 : i = kn.length := by omega
        refine zar rfl ?_
        refine zb4 5 rfl ?_
        refine qd [] rfl (by simp) ?_
        have hR : R1 = L ∧ R2 = m2 := by
          rw [hi2, List.drop_eq_nil_of_le (Nat.le_refl _)] at f4 f5
          rw [List.take_of_length_le (by omega)] at f4
          exact ⟨by rw [f4]; simp [zpw], f5⟩
        obtain ⟨rfl, rfl⟩ := hR
        exact zab ⟨_, rfl, rfl, rfl, trivial⟩
termination_by N => N
mutual
theorem zzv (tk : List Str) : ∀ p : Ty, (zps (zqb tk p) → zps p) ∧ za0 (zqb tk p) = za0 p ∧ (zb2 (zqb tk p)).map zew = ((zb2 p).map zew).map (unm tk)
  | .mk s n x ps => by
    obtain ⟨h1, h2, h3⟩ := zvg tk ps
    simp only [zqb, zps, za0, h2, zb2, List.map_append, h3]
    refine ⟨fun h => ⟨fun e => ?_, h1 h.2⟩, trivial, ?_⟩
    · have := congrArg List.length (h.1 e)
      rw [ze0] at this
      exact List.eq_nil_of_length_eq_zero (by simpa using this)
    · split <;> simp [zew]
theorem zvg (tk : List Str) : ∀ l : List Ty, (zhq (zft tk l) → zhq l) ∧ zam (zft tk l) = zam l ∧ (zbd (zft tk l)).map zew = ((zbd l).map zew).map (unm tk)
  | [] => ⟨id, rfl, rfl⟩
  | p :: r => by
    obtain ⟨h1, h2, h3⟩ := zzv tk p
    obtain ⟨h4, h5, h6⟩ := zvg tk r
    simp only [zft, zhq, zam, h2, h5, zbd, List.map_append, h3, h6]
    exact ⟨fun h => ⟨h1 h.1, h4 h.2⟩, trivial, trivial⟩
end
mutual
theorem yjk (tk : List Str) : ∀ t : Tm, okM (zly tk t) → okM t
  | .mk op n x ks ps, h => by
    simp only [zly] at h
    obtain ⟨⟨q1, q2, q3, q4⟩, q5, q6⟩ := h
    rw [zqc] at q1 q3 q4
    rw [ze0] at q2 q4 q5
    simp only [List.length_map] at q1 q2 q4
    refine ⟨⟨q1, q2, fun e => by simpa using q3 e, q4⟩, fun p hp => ?_, ydm tk ks q6⟩
    obtain ⟨r1, r2, r3⟩ := q5 (zqb tk p) (List.mem_map.2 ⟨p, hp, rfl⟩)
    obtain ⟨s1, s2, s3⟩ := zzv tk p
    refine ⟨by rw [← s2]; exact r1, s1 r2, ?_⟩
    have r3 : ((zb2 (zqb tk p)).map zew).Nodup := r3
    rw [s3] at r3
    exact List.Pairwise.of_map (unm tk) (fun _ _ h e => h (by rw [e])) r3
theorem ydm (tk : List Str) : ∀ l : List Tm, yl4 (zpp tk l) → yl4 l
  | [], _ => trivial
  | k :: r, h => ⟨yjk tk k h.1, ydm tk r h.2⟩
end
theorem ylq (op n : Int) (x : Str) (ps : List Ty) (tk : List Str) : zau Tryz.prog 50 [.agg (dTmc (.mk op n x [] ps)), .sl (za5 tk)] (.tup [.agg (dTmc (.mk op n x [] ps)), .sl (za5 tk)]) := by
  refine zaf zaw Tryz.func50 (by decide +kernel) rfl [1, 2, 3, 4, 5, 6, 7, 8, 9, 10, 11, 12] rfl rfl ?_
  refine qg [] rfl (by simp) ?_
  refine zah (fun y : Nat => [(6, .imm (.int .i64 y)), (1, .imm (.sl (za5 tk))), (2, .ref 1 0), (4, .ref 2 0)])
    (fun _ => [(1, some (.immb 26 5 (dTmc (.mk op n x [] ps)))), (2, some (.cells 26 5 [.imm (.int .i64 0), .imm (.int .i64 0), .imm (.str []), .nils, .nils]))]) [3, 4, 5, 6, 7, 8, 9, 10, 11, 12]
    (fun _ => 0) (fun y => y = 0) 0 rfl ⟨rfl, rfl, rfl, rfl, trivial⟩ ⟨rfl, rfl, trivial⟩ rfl fun y hi ih => ?_
  subst hi
  refine qd [] rfl (by simp) ?_
  refine zaa rfl (fun h => by simp [zcy] at h) (fun h => ?_)
  refine zar rfl ?_
  refine qd [] rfl (by simp) ?_
  refine zby zaw rfl ⟨by simp [zcy], by simp [maxLen, zcy], by simp [zcy], by simp⟩ ?_
  refine qg [] rfl (by simp) ?_
  refine zah (fun y : Nat => [(9, .imm (.int .i64 y)), (1, .imm (.sl (za5 tk))), (2, .ref 1 0), (4, .ref 2 0)])
    (fun _ => [(3, some (.row 26 5 [])), (1, some (.cells 26 5 [.imm (.int .i64 op), .imm (.int .i64 n), .imm (.str x), .own 3 0, .imm (.sl (zb8 ps))])), (2, some (.cells 26 5 [.imm (.int .i64 0), .imm (.int .i64 0), .imm (.str []), .nils, .nils]))]) [4, 5, 6, 7, 8, 9, 10, 11, 12]
    (fun _ => 0) (fun y => y = 0) 0 rfl ⟨rfl, rfl, rfl, rfl, trivial⟩ ⟨rfl, rfl, rfl, trivial⟩ rfl fun y hi ih => ?_
  subst hi
  refine qd [] rfl (by simp) ?_
  refine zaa rfl (fun h => by simp at h) (fun h => ?_)
  refine zar rfl ?_
  refine zb4 3 rfl ?_
  refine qd [] rfl (by simp) ?_
  exact zab ⟨_, rfl, tV rfl, trivial⟩
theorem ylo (N : Nat) (op n : Int) (x : Str) (ps : List Ty) (tk : List Str) : zk6 (N + 1) (.mk op n x [] ps) tk = (.mk op n x [] ps, tk) := rfl
set_option maxHeartbeats 1000000 in
theorem zrh (t : Tm) (h : zbc t = true) : zau Tryz.prog 20 [.agg (dTmc t)] (.agg (dTmc (zlz t))) := by
  obtain ⟨f1, f2, f3, f4⟩ := zc0 t h
  have hn : zak t = true := by simp only [zbc, Bool.and_eq_true] at h; exact h.2
  have hM := yjj t hn
  have hA := yo3 t hn
  have hb := zin h
  obtain ⟨hE, hL⟩ := ymv h (zcp t + 1) (by omega)
  have hcs : ∃ o m y ks ps, zlz t = .mk o m y ks ps := by
    obtain ⟨o, m, y, ks, ps⟩ := zlz t
    exact ⟨_, _, _, _, _, rfl⟩
  by_cases e : opT t = 4
  · obtain ⟨op, n, x, ks, ps⟩ := t
    have hk := hM.1.2.2.1 e
    subst hk
    rw [ylo] at hE hL
    have hfr := zwl (.mk op n x [] ps) f3 (by omega)
    generalize zcc (.mk op n x [] ps) = fr at *
    obtain ⟨o, m, y, ks2, ps2, hcs⟩ := hcs
    have hnm := zwn fr (by simp only at hL; omega) _ hM
    simp only at hE
    rw [hE, hcs] at hnm
    rw [hcs]
    refine zaf zaw Tryz.func20 (by decide +kernel) rfl [1, 2, 3, 4, 5] rfl rfl ?_
    refine qg [] rfl (by simp) ?_
    refine zac rfl (fun _ => hfr) (by simp) ?_
    refine qg [] rfl (by simp) ?_
    refine zac rfl (fun _ => ylq op n x ps fr) (by simp) ?_
    refine qg [] rfl (by simp; rfl) ?_
    refine zac rfl (fun _ => hnm) (by simp) ?_
    refine qg [] rfl (by simp) ?_
    exact zab ⟨_, rfl, tV rfl, trivial⟩
  · have hfr := yiw t f3 (by omega) e
    have hT := yeq (zcp t + 1) t (zcc t) (by omega) (by omega) hM hA (by omega)
    have hrM : okM (zk6 (zcp t + 1) t (zcc t)).1 := yjk (zk6 (zcp t + 1) t (zcc t)).2 _ (by rw [hE]; exact yjj _ (zvq h).1)
    generalize zcc t = fr at *
    generalize zk6 (zcp t + 1) t fr = r at *
    obtain ⟨rt, rl⟩ := r
    simp only at hE hL hT hrM
    have hnm := zwn rl (by omega) rt hrM
    obtain ⟨o, m, y, ks2, ps2, hcs⟩ := hcs
    rw [hE, hcs] at hnm
    rw [hcs]
    obtain ⟨to, tn, tx, tks, tps⟩ := t
    obtain ⟨ro, rn, rx, rks, rps⟩ := rt
    refine zaf zaw Tryz.func20 (by decide +kernel) rfl [1, 2, 3, 4, 5] rfl rfl ?_
    refine qg [] rfl (by simp) ?_
    refine zas (fr := [3]) [] [(2, 3)] rfl (by simp) hfr trivial rfl rfl rfl rfl ?_
    refine qg [] rfl (by simp) ?_
    refine zas (fr := [4]) [(3, 1)] [(2, 4)] rfl (by simp) hT ⟨⟨rfl, rfl, rfl⟩, trivial⟩ rfl rfl rfl rfl ?_
    refine qg [] rfl (by simp; rfl) ?_
    refine zb4 4 rfl ?_
    refine qd [] rfl (by simp) ?_
    refine zac rfl (fun _ => hnm) (by simp) ?_
    refine qg [] rfl (by simp) ?_
    exact zab ⟨_, rfl, tV rfl, trivial⟩
def cS (c : Nat) : Str := [UInt8.ofNat c]
def nmT (s : Str) : Tm := .mk 4 0 s [] []
def plT (a b : Tm) : Tm := .mk 9 0 [] [a, b] []
def eT : Tm := .mk 15 0 [] [nmT (cS 97), plT (nmT (cS 98)) (nmT (cS 100))] [.mk 6 0 [67, 111, 110, 115] [.mk 2 0 (cS 98) [], .mk 2 0 (cS 99) []]]
theorem zll (s : Str) : zau Tryz.prog 27 [.str s] (.agg (dTmc (nmT s))) := by
  refine zaf zbb Tryz.func27 (by decide +kernel) rfl [1, 2, 3] rfl rfl ?_
  refine xg [] rfl (by simp) ?_
  exact zab ⟨_, rfl, tV rfl, trivial⟩
theorem yi4 (a b : Tm) : zau Tryz.prog 26 [.agg (dTmc a), .agg (dTmc b)] (.agg (dTmc (plT a b))) := by
  refine zaf zbb Tryz.func26 (by decide +kernel) rfl [1, 2, 3] rfl rfl ?_
  obtain ⟨o, n, x, ks, ps⟩ := a
  obtain ⟨o', n', x', ks', ps'⟩ := b
  refine xg [] rfl (by simp) ?_
  exact zab ⟨_, rfl, tV rfl, trivial⟩
theorem E_ok : zau Tryz.prog 25 [] (.agg (dTmc eT)) := by
  refine zaf zbb Tryz.func25 (by decide +kernel) rfl [1, 2, 3] rfl rfl ?_
  refine xg [] rfl (by simp) ?_
  refine zac rfl (fun _ => zll (cS 97)) (by simp) ?_
  refine xg [] rfl (by simp) ?_
  refine zac rfl (fun _ => zll (cS 98)) (by simp) ?_
  refine xg [] rfl (by simp) ?_
  refine zac rfl (fun _ => zll (cS 100)) (by simp) ?_
  refine xg [] rfl (by simp) ?_
  refine zac rfl (fun _ => yi4 (nmT (cS 98)) (nmT (cS 100))) (by simp) ?_
  refine xg [] rfl (by simp; rfl) ?_
  exact zab ⟨_, rfl, tV rfl, trivial⟩
def ym3 (c : Nat) : Tm := .mk 5 0 (cS c) [nmT (cS c)] []
def sT : Tm := .mk 15 0 [] [nmT (cS 97), plT (nmT (cS 101)) (plT (nmT (cS 98)) (nmT (cS 99)))] [.mk 6 0 [67, 111, 110, 115] [.mk 2 0 (cS 101) [], .mk 2 0 (cS 102) []]]
theorem zob : zbc eT = true := by decide +kernel
theorem ym2 : zbc (ym3 121) = true := by decide +kernel
theorem ycr : zbc (ym3 120) = true := by decide +kernel
theorem yqw : zbc (plT (nmT (cS 98)) (nmT (cS 99))) = true := by decide +kernel
theorem ybb {p : Tm × Int} {t : Tm} {n : Int} (h : (ztw p.1 t && p.2 == n) = true) : p = (t, n) := by
  obtain ⟨a, b⟩ := p
  simp only [Bool.and_eq_true, beq_iff_eq] at h
  rw [(zqk a t).1 h.1, h.2]
theorem sub_eT : ypn eT (cS 100) (plT (nmT (cS 98)) (nmT (cS 99))) = (sT, 0) := ybb (by decide +kernel)
theorem at_eT : atR eT [1, 0] = (nmT (cS 98), 0) := ybb (by decide +kernel)
theorem yqt : ylg (ym3 120) = (ym3 97, 0) := ybb (by decide +kernel)
theorem yqx : ycl (ym3 121) (ym3 120) = (true, 0) := by decide +kernel
theorem yqj : zcc eT = [cS 97, cS 100] := by decide +kernel
set_option maxHeartbeats 1000000 in
theorem zmu : zau Tryz.prog 8 [] (.bool true) := by
  have h1 := yok eT zob
  rw [yqj] at h1
  have h2 := yog eT (cS 100) (plT (nmT (cS 98)) (nmT (cS 99))) (zdj zob) (zdj yqw)
  rw [sub_eT] at h2
  have h3 := yhp eT (zdj zob)
  have h4 := yhq eT (zdj zob)
  rw [zob] at h3 h4
  have h5 := At_ok eT [1, 0] (zdj zob)
  rw [at_eT] at h5
  have h6 := yev (ym3 121) (ym3 120) (zdj ym2) (zdj ycr)
  rw [yqx] at h6
  have h7 := yeu (ym3 120) (zdj ycr)
  rw [yqt] at h7
  refine zaf zaw Tryz.func8 (by decide +kernel) rfl [1, 2, 3, 4, 5, 6, 7, 8, 9] rfl rfl ?_
  refine qg [] rfl (by simp) ?_
  refine zac rfl (fun _ => E_ok) (by simp) ?_
  refine qg [] rfl (by simp) ?_
  refine zac rfl (fun _ => h1) (by simp) ?_
  refine qg [] rfl (by simp) ?_
  refine zac rfl (fun _ => E_ok) (by simp) ?_
  refine qg [] rfl (by simp) ?_
  refine zac rfl (fun _ => zll (cS 98)) (by simp) ?_
  refine qg [] rfl (by simp) ?_
  refine zac rfl (fun _ => zll (cS 99)) (by simp) ?_
  refine qg [] rfl (by simp) ?_
  refine zac rfl (fun _ => yi4 (nmT (cS 98)) (nmT (cS 99))) (by simp) ?_
  refine qg [] rfl (by simp) ?_
  refine zac rfl (fun _ => h2) (by simp) ?_
  refine qg [] rfl (by simp) ?_
  refine zac rfl (fun _ => E_ok) (by simp) ?_
  refine qg [] rfl (by simp) ?_
  refine zac rfl (fun _ => h3) (by simp) ?_
  refine qg [] rfl (by simp) ?_
  refine zac rfl (fun _ => E_ok) (by simp) ?_
  refine qg [] rfl (by simp) ?_
  refine zac rfl (fun _ => h4) (by simp) ?_
  refine qg [] rfl (by simp) ?_
  refine zac rfl (fun _ => E_ok) (by simp) ?_
  refine qg [] rfl (by simp) ?_
  refine zac rfl (fun _ => h5) (by simp) ?_
  refine qg [] rfl (by simp) ?_
  refine zac rfl (fun _ => zll (cS 120)) (by simp) ?_
  refine qg [] rfl (by simp) ?_
  refine zac rfl (fun _ => zll (cS 121)) (by simp) ?_
  refine qg [] rfl (by simp) ?_
  refine zac rfl (fun _ => h6) (by simp) ?_
  refine qg [] rfl (by simp) ?_
  refine zac rfl (fun _ => h7) (by simp) ?_
  refine qg [] rfl (by simp) ?_
  refine zaa rfl (fun h => by simp [dTmc, sT] at h) (fun h => ?_)
  clear h
  refine qd [] rfl (by simp) ?_
  refine zac rfl (fun _ => zpk [cS 97, cS 100] [cS 97, cS 100]) (by simp [zag]) ?_
  refine qg [] rfl (by simp [zag]) ?_
  refine qi_ rfl (c := [.int .i64 6, .int .i64 0, .str [67, 111, 110, 115], .sl (zb8 [.mk 2 0 (cS 101) [], .mk 2 0 (cS 102) []])]) (fun _ => ⟨by simp, rfl, rfl⟩) (by simp [zag]) ?_
  refine qg [] rfl (by simp [zag]) ?_
  refine zac rfl (fun _ => zgx (.mk 6 0 [67, 111, 110, 115] [.mk 2 0 (cS 101) [], .mk 2 0 (cS 102) []]) (by decide)) (by simp [zag]) ?_
  refine qg [] rfl (by simp [zag]) ?_
  refine zac rfl (fun _ => zpk (za1 (.mk 6 0 [67, 111, 110, 115] [.mk 2 0 (cS 101) [], .mk 2 0 (cS 102) []])) [cS 101, cS 102]) (by simp [zag]) ?_
  refine qg [] rfl (by simp [zag]) ?_
  refine zac rfl (fun _ => zfy [97, 98, 99]) (by simp [zag]) ?_
  refine qg [] rfl (by simp [zag]) ?_
  refine zac rfl (fun _ => zfy [116, 104, 101, 110]) (by simp [zag]) ?_
  refine qg [] rfl (by simp [zag]) ?_
  refine zac rfl (fun _ => zi6 [65]) (by simp [zag]) ?_
  refine qg [] rfl (by simp [zag]) ?_
  refine zac rfl (fun _ => znl [cS 97, cS 99] (by decide)) (by simp [zag]) ?_
  refine qg [] rfl (by simp [zag]) ?_
  refine zab ⟨_, rfl, tV (congrArg _ ?_), trivial⟩
  decide +kernel
theorem yp3 : zau Tryz.prog 12 [.agg (dTmc zTm)] (.bool true) := by
  have := yjo zTm ⟨by decide, by decide, (fun p hp => by cases hp), trivial⟩
  rwa [(zqk zTm zTm).2 rfl] at this
theorem yix (a b : Tm) (ha : zbc a = true) (hb : zbc b = true) : zau Tryz.prog 21 [.agg (dTmc a), .agg (dTmc b)] (.bool (ztw (zlz a) (zlz b))) := by
  refine zaf zaw Tryz.func21 (by decide +kernel) rfl [1, 2, 3, 4, 5] rfl rfl ?_
  refine qg [] rfl (by simp) ?_
  refine zac rfl (fun _ => zrh a ha) (by simp) ?_
  refine qg [] rfl (by simp) ?_
  refine zac rfl (fun _ => zrh b hb) (by simp) ?_
  refine qg [] rfl (by simp) ?_
  refine zac rfl (fun _ => zxn (zlz a) (zlz b) (zfa (zta ha))) (by simp) ?_
  refine qg [] rfl (by simp; rfl) ?_
  exact zab ⟨_, rfl, tV rfl, trivial⟩
set_option maxHeartbeats 1000000 in
theorem TermAlikes_pure (a b : Tm) : zau Tryz.prog 5 [.agg (dTmc a), .agg (dTmc b)] (.bool true) := by
  refine zaf zbb Tryz.func5 (by decide +kernel) rfl [1, 2, 3, 4, 5, 6, 7] rfl rfl ?_
  refine xg [] rfl (by simp) ?_
  refine zac rfl (fun _ => zpj a) (by simp) ?_
  refine xg [] rfl (by simp [zag]) ?_
  refine zac rfl (fun _ => zpj b) (by simp [zag]) ?_
  refine xg [] rfl (by simp [zag]) ?_
  refine zaa rfl (fun h => ?_) (fun h => ?_)
  · refine xd [] rfl (by simp) ?_
    refine zac rfl (fun _ => zmu) (by simp) ?_
    refine xg [] rfl (by simp) ?_
    exact zab ⟨_, rfl, tV rfl, trivial⟩
  have hs : zgb a = true ∧ zgb b = true := by
    simp at h
    grind
  clear h
  obtain ⟨hsa, hsb⟩ := hs
  have hA := yev a b (zog a hsa) (zog b hsb)
  have hC := yeu a (zog a hsa)
  have hTa := ylr a
  have hTb := ylr b
  have hE := err_ok (zbc a)
  cases hta : zbc a with
  | false =>
    have ea : ycl a b = (false, 2) := by simp [ycl, hta]
    have ec : ylg a = (zTm, 2) := by simp [ylg, hta]
    rw [ea] at hA
    rw [ec] at hC
    rw [hta] at hTa hE
    refine xd [] rfl (by simp) ?_
    refine zac rfl (fun _ => hA) (by simp) ?_
    refine xg [] rfl (by simp) ?_
    refine zac rfl (fun _ => hC) (by simp) ?_
    refine xg [] rfl (by simp) ?_
    refine zac rfl (fun _ => hTa) (by simp) ?_
    refine xg [] rfl (by simp) ?_
    refine zac rfl (fun _ => hE) (by simp) ?_
    refine xg [] rfl (by simp) ?_
    refine zac rfl (fun _ => hTa) (by simp [zag]) ?_
    refine xg [] rfl (by simp [zag]) ?_
    refine zac rfl (fun _ => yp3) (by simp [zag]) ?_
    refine xg [] rfl (by simp [zag]) ?_
    refine zac rfl (fun _ => hTa) (by simp [zag]) ?_
    refine xg [] rfl (by simp [zag]) ?_
    refine zac rfl (v := .agg (dTmc zTm)) (fun h => ?_) (by simp [zag]) ?_
    · simp [zag] at h
    refine xg [] rfl (by simp [zag]) ?_
    refine zac rfl (v := .bool true) (fun h => ?_) (by simp [zag]) ?_
    · simp [zag] at h
    refine xg [] rfl (by simp [zag]; rfl) ?_
    refine zaa rfl (fun h => by simp at h) (fun h => ?_)
    refine xd [] rfl (by simp) ?_
    refine zac rfl (fun _ => hTa) (by simp) ?_
    refine xg [] rfl (by simp [zag]) ?_
    refine zac rfl (fun _ => hTb) (by simp [zag]) ?_
    refine xg [] rfl (by simp [zag]) ?_
    refine zaa rfl (fun h => ?_) (fun h => by simp at h)
    refine xd [] rfl (by simp [zag]) ?_
    refine zac rfl (fun _ => zmu) (by simp [zag]) ?_
    refine xg [] rfl (by simp [zag]) ?_
    exact zab ⟨_, rfl, tV rfl, trivial⟩
  | true =>
    have ec : ylg a = (zlz a, 0) := by simp [ylg, hta]
    have e0 := (zqk (zlz a) (zlz a)).2 rfl
    have hwa := zfa (zta hta)
    have hN := yjo (zlz a) hwa
    have hS := zxn (zlz a) (zlz a) hwa
    rw [e0] at hS
    rw [ec] at hC
    rw [hta] at hTa hE
    refine xd [] rfl (by simp) ?_
    refine zac rfl (fun _ => hA) (by simp) ?_
    refine xg [] rfl (by simp) ?_
    refine zac rfl (fun _ => hC) (by simp) ?_
    refine xg [] rfl (by simp) ?_
    refine zac rfl (fun _ => hTa) (by simp) ?_
    refine xg [] rfl (by simp) ?_
    refine zac rfl (fun _ => hE) (by simp) ?_
    refine xg [] rfl (by simp) ?_
    refine zac rfl (fun _ => hTa) (by simp [zag]) ?_
    refine xg [] rfl (by simp [zag]) ?_
    refine zac rfl (fun _ => hN) (by simp [zag]) ?_
    refine xg [] rfl (by simp [zag]) ?_
    refine zac rfl (fun _ => hTa) (by simp [zag]) ?_
    refine xg [] rfl (by simp [zag]) ?_
    refine zac rfl (fun _ => zrh a hta) (by simp [zag]) ?_
    refine xg [] rfl (by simp [zag]) ?_
    refine zac rfl (fun _ => hS) (by simp [zag]) ?_
    refine xg [] rfl (by simp [zag]; rfl) ?_
    refine zaa rfl (fun h => by simp at h) (fun h => ?_)
    refine xd [] rfl (by simp) ?_
    refine zac rfl (fun _ => hTa) (by simp) ?_
    refine xg [] rfl (by simp [zag]) ?_
    refine zac rfl (fun _ => hTb) (by simp [zag]) ?_
    refine xg [] rfl (by simp [zag]) ?_
    cases htb : zbc b with
    | false =>
      have ea : ycl a b = (false, 2) := by simp [ycl, htb]
      rw [ea]
      refine zaa rfl (fun h => ?_) (fun h => by simp at h)
      refine xd [] rfl (by simp [zag]) ?_
      refine zac rfl (fun _ => zmu) (by simp [zag]) ?_
      refine xg [] rfl (by simp [zag]) ?_
      exact zab ⟨_, rfl, tV rfl, trivial⟩
    | true =>
      have ea : ycl a b = (ztw (zlz a) (zlz b), 0) := by simp [ycl, hta, htb]
      rw [ea]
      refine zaa rfl (fun h => by simp at h) (fun h => ?_)
      refine xd [] rfl (by simp [zag]) ?_
      refine zac rfl (fun _ => yix a b hta htb) (by simp [zag]) ?_
      refine xg [] rfl (by simp [zag]) ?_
      refine zac rfl (fun _ => zmu) (by simp [zag]) ?_
      refine xg [] rfl (by simp [zag]) ?_
      refine zab ⟨_, rfl, tV (congrArg _ ?_), trivial⟩
      simp
end Go.Hk
namespace Go.Hk
open Go.RowKit Go.WideShapes Go.ChangeShapes
theorem Ext.below {I I' : Imm} {μ μ' : Mu} {w w' : World} {st' : St} (h : Ext I μ [] w I' μ' st' w') : Below w.heap.size w w' :=
  ⟨h.os, h.tape, h.output, h.size, fun k hk => h.block k hk (by rintro ⟨id, blk, g, hl, _⟩; cases hl)⟩
theorem ynh {H : Type} {enc : TypeId × Value → H} {P : Program} {f : Func} {s : ChangeSpec} {apart fresh handsOn again : Bool} {W W' : World} {args : Array Value} {v : Value} {ds gs : List (DataW H)} {before pa pv : List MemPlace}
    (hW : DataW.Whole enc P f.params.toList s.vars apart W args.toList ds gs before) (hb : Below W.heap.size W W') (hps : before = pa ++ pv)
    (hres : ∀ (b : Nat) (sp : Nat → Bool) (hd : Bool), DataW.TrodAll enc P W' b sp hd f.resultTypes.toList (v.resultList f.resultTypes.size) (s.fn H (ds ++ gs)).results [])
    (hargs : ∀ sp : Nat → Bool, (∀ p ∈ before, sp p.block = true) → DataW.TrodAll enc P W' 0 sp true f.params.toList args.toList (s.fn H (ds ++ gs)).args pa)
    (hvars : ∀ sp : Nat → Bool, (∀ p ∈ before, sp p.block = true) → DataW.TrodVars enc P W' sp s.vars (s.fn H (ds ++ gs)).vars pv)
    (hok : ∀ (j : Nat) (t : TypeId) (r : Value), f.resultTypes[j]? = some t → (v.resultList f.resultTypes.size)[j]? = some r → Value.okWide P W' .any 0 t r) :
    s.post enc P f apart fresh handsOn again W args v W' := by
  have lt : ∀ p ∈ before, decide (p.block < W.heap.size) = true := fun p hp => by simpa using hW.lt p hp
  refine ⟨ds, gs, before, [], pa, pv, hW, hres _ _ _, hargs (fun b => decide (b < W.heap.size)) lt, hvars (fun b => decide (b < W.heap.size)) lt, World.keptBut_mono (fun p hp => ⟨hp, .inr ?_⟩) (hb.frame (· ∈ before)), fun _ => ⟨hok, ?_⟩⟩
  · rw [hps] at hp; exact List.mem_append.1 hp
  · have hlt := hW.lt
    obtain ⟨_, _, _, _, _, hz, hn⟩ := hW
    refine ⟨(s.fn H (ds ++ gs)).results ++ (s.fn H (ds ++ gs)).args, (s.fn H (ds ++ gs)).vars, pa ++ pv, ⟨pa, pv, ?_, hvars _ (fun _ _ => rfl), rfl, fun b off hp => ?_, fun ha => ?_⟩, fun p hp _ => by rw [hps]; exact hp⟩
    · have := trodAll_append (hargs (fun _ => true) fun _ _ => rfl) (hres 0 (fun _ => true) true)
      simpa using this
    · have hin : MemPlace.cell b off ∈ before := by rw [hps]; exact hp
      rw [hb.frozen (hlt _ hin)]
      exact hz b off hin
    · rw [← hps]; exact hn ha
end Go.Hk
namespace Go.Hk
def yhc (W : World) : Imm := fun b => W.heap[b]?
theorem yqe (W : World) : (yhc W).ok W := fun _ _ h => h
def Rds (P : Program) (W : World) (n : Nat) (t : TypeId) (cs : List Value) : Prop :=
  ∃ (H : Type) (enc : TypeId × Value → H) (x : DataW H × List MemPlace), DataW.trod enc P W 0 (fun _ => true) true n t cs = some x
def RV (W : World) (cs : List Value) (xs : List V) : Prop := RepVL (yhc W) cs xs ∧ ∀ c ∈ cs, c.oneCell' = true
theorem RV.app {W : World} {a b : List Value} {x y : List V} (h : RV W a x) (k : RV W b y) : RV W (a ++ b) (x ++ y) :=
  ⟨h.1.append k.1, fun c hc => (List.mem_append.1 hc).elim (h.2 c) (k.2 c)⟩
theorem RV.one {W : World} {v : Value} {x : V} (h : RepV (yhc W) v x) (h1 : v.oneCell' = true) : RV W [v] [x] :=
  ⟨.mk h .nil, fun c hc => by simp at hc; rw [hc]; exact h1⟩
theorem RV.agg {W : World} {cs : Array Value} {xs : List V} (h : RV W cs.toList xs) : RepV (yhc W) (.agg cs) (.agg xs) :=
  .agg _ _ (by simpa using h.1.1) h.2 (fun i c x a b => h.1.2 i c x (by simpa using a) b)
theorem RV.len {W : World} {cs : List Value} {xs : List V} (h : RV W cs xs) : cs.length = xs.length := h.1.1
section
variable {P : Program} {W : World} {tt : TT} {n : Nat} {t : TypeId} {cs : List Value}
theorem zwk {k : IntKind} {a : Bool} {sz by_ : Nat} {z : List D} (htt : TTok P tt) (hl : lk tt t = some ⟨.int k, a, sz, by_, z⟩) (h : Rds P W n t cs) : ∃ m, RV W cs [.int k m] ∧ (Lit.int k m).wf = true := by
  obtain ⟨H, enc, x, h⟩ := h
  have hu : P.underlying t = some (.int k) := htt.sh hl
  cases n with
  | zero => simp [DataW.trod] at h
  | succ n =>
    unfold DataW.trod at h
    rw [hu] at h
    split at h <;> simp_all
    rename_i k' m heq
    exact ⟨m, .one (.int _ _) rfl, h.1.2⟩
theorem yit {a : Bool} {sz by_ : Nat} {z : List D} (htt : TTok P tt) (hl : lk tt t = some ⟨.str, a, sz, by_, z⟩) (h : Rds P W n t cs) : ∃ s, RV W cs [.str s] ∧ s.length ≤ maxLen := by
  obtain ⟨H, enc, x, h⟩ := h
  have hu : P.underlying t = some .string := htt.sh hl
  cases n with
  | zero => simp [DataW.trod] at h
  | succ n =>
    unfold DataW.trod at h
    rw [hu] at h
    split at h <;> simp_all
    rename_i s
    exact ⟨s.data.toList, .one (.str _ _ rfl) rfl, by have := h.1; simpa using this⟩
theorem zw9 {a : Addr} {k : Nat} {cs' : List Value} (h : W.cells? 0 a k = some cs') (hk : 0 < k) : a.spot = none ∧ ∀ (j : Nat) (v : Value), cs'[j]? = some v → (yhc W).cell a.block (a.off + j) = some v := by
  obtain ⟨_, h2, h3⟩ := World.cells?_some h
  have cell : ∀ (b : Addr) (v : Value), W.cell? b = some v → b.spot = none ∧ (yhc W).cell b.block b.off = some v := by
    intro b v hb
    unfold World.cell? at hb
    split at hb
    · rename_i c t0 fz hh
      split at hb
      · cases hb
      · rename_i hs
        refine ⟨by cases h : b.spot with | none => rfl | some _ => rw [h] at hs; exact absurd rfl hs, ?_⟩
        unfold Imm.cell yhc
        rw [hh]
        exact hb
    · cases hb
  have hs : a.spot = none := by
    have hlt : 0 < cs'.length := by omega
    have := h3 0 hk
    rw [List.getElem?_eq_getElem hlt] at this
    exact (cell (a.add 0) _ this).1
  refine ⟨hs, fun j v hv => ?_⟩
  have hj := (List.getElem?_eq_some_iff.1 hv).1
  have := (cell (a.add j) v (by rw [h3 j (by omega)]; exact hv)).2
  unfold Addr.add at this
  by_cases h0 : j = 0
  · subst h0; simpa using this
  · rw [if_neg h0] at this; exact this
theorem zrg {α : Type} {e : TypeId} {a : Bool} {sz by_ : Nat} {z : List D} {i : TyI} {d : α → List V} (htt : TTok P tt) (hl : lk tt t = some ⟨.sl e, a, sz, by_, z⟩) (hi : lk tt e = some i) (hpos : 0 < i.size)
    (hd : ∀ x, (d x).length = i.size) (hel : ∀ m, m < n → ∀ cs', Rds P W m e cs' → ∃ x, RV W cs' (d x)) (h : Rds P W n t cs) : ∃ xs : List α, RV W cs [.sl (xs.map d)] := by
  obtain ⟨H, enc, x, h⟩ := h
  have hu : P.underlying t = some (.slice e) := htt.sh hl
  have hce : P.cellsOf e = i.size := (htt e i hi).cellsOf
  rcases DataW.trod_slice hu h with ⟨rfl, _⟩ | ⟨ad, len, cap, elems, rest, m, rfl, rfl, _, _, h1, h2, h3, h4, h5, _⟩
  · exact ⟨[], .one .slnil rfl⟩
  rw [hce] at h4 h5
  have he : ∀ k, k < len → ∃ (cs' : List Value) (x : α), W.cells? 0 (ad.add (k * i.size)) i.size = some cs' ∧ RV W cs' (d x) := by
    intro k hk
    have := h4 k hk
    rw [List.getElem?_eq_getElem (by omega)] at this
    obtain ⟨cs', q1, q2⟩ := Option.bind_eq_some_iff.1 this
    obtain ⟨x, hx⟩ := hel m (by omega) cs' ⟨H, enc, _, q2⟩
    exact ⟨cs', x, q1, hx⟩
  have hch : ∃ (C : Nat → List Value) (X : Nat → Option α), ∀ k, k < len → ∃ x, X k = some x ∧ W.cells? 0 (ad.add (k * i.size)) i.size = some (C k) ∧ RV W (C k) (d x) := by
    classical
    refine ⟨fun k => if hk : k < len then (he k hk).choose else [], fun k => if hk : k < len then some ((he k hk).choose_spec.choose) else none, fun k hk => ?_⟩
    simp only [hk, dif_pos]
    exact ⟨_, rfl, (he k hk).choose_spec.choose_spec⟩
  obtain ⟨C, X, hCX⟩ := hch
  have hlist : ∀ l, l ≤ len → ∃ xs : List α, xs.length = l ∧ ∀ k x, xs[k]? = some x → X k = some x := by
    intro l
    induction l with
    | zero => exact fun _ => ⟨[], rfl, fun k x h => by simp at h⟩
    | succ l ih =>
      intro hl'
      obtain ⟨xs, q1, q2⟩ := ih (by omega)
      obtain ⟨x, hx, _⟩ := hCX l (by omega)
      refine ⟨xs ++ [x], by simp [q1], fun k y hy => ?_⟩
      by_cases hk : k < xs.length
      · rw [List.getElem?_append_left hk] at hy; exact q2 k y hy
      · rw [List.getElem?_append_right (by omega)] at hy
        have : k - xs.length = 0 := by
          have := (List.getElem?_eq_some_iff.1 hy).1
          simp at this; omega
        rw [this] at hy
        cases hy
        have : k = l := by omega
        rw [this]; exact hx
  obtain ⟨xs, hx1, hx2⟩ := hlist len (Nat.le_refl _)
  refine ⟨xs, .one ?_ rfl⟩
  by_cases hcap : cap = 0
  · have : len = 0 := by omega
    subst this; subst hcap
    have : xs = [] := List.eq_nil_of_length_eq_zero hx1
    subst this
    exact .sl0 ad
  have hspot : ad.spot = none := by
    by_cases hlen : 0 < len
    · obtain ⟨x, _, q, _⟩ := hCX 0 hlen
      have := (zw9 q hpos).1
      simpa [Addr.add] using this
    · have h6 := h5 rfl
      have h7 := h6.2 0 (by omega)
      rw [List.getElem?_eq_getElem (by omega)] at h7
      obtain ⟨cs', q1, q2⟩ := Option.bind_eq_some_iff.1 h7
      have := (zw9 q1 hpos).1
      have hl0 : len = 0 := by omega
      subst hl0
      simpa [Addr.add] using this
  obtain ⟨b, o, sp⟩ := ad
  simp only at hspot
  subst hspot
  have hget : ∀ (k : Nat) (e : List V), (xs.map d)[k]? = some e → k < len ∧ ∃ x, X k = some x ∧ e = d x ∧ W.cells? 0 ⟨b, o + k * i.size, none⟩ i.size = some (C k) ∧ RV W (C k) (d x) := by
    intro k e hk
    rw [List.getElem?_map, Option.map_eq_some_iff] at hk
    obtain ⟨x, q1, q2⟩ := hk
    have hlt := (List.getElem?_eq_some_iff.1 q1).1
    obtain ⟨y, r1, r2, r3⟩ := hCX k (by omega)
    rw [hx2 k x q1] at r1
    cases r1
    refine ⟨by omega, x, hx2 k x q1, q2.symm, ?_, r3⟩
    rw [← r2]
    congr 1
    unfold Addr.add
    by_cases h0 : k * i.size = 0
    · simp [h0]
    · simp [h0]
  refine .sl b o len cap i.size _ (fun k j => (C k).getD j undef) (by simp [hx1]) h1 h2 (fun e he => ?_) (fun k e j x hk hj => ?_) (fun k e j x hk hj => ?_)
  · obtain ⟨x, _, rfl⟩ := List.mem_map.1 he; exact hd x
  · obtain ⟨_, y, _, rfl, q3, q4⟩ := hget k e hk
    have hlt : j < (C k).length := by rw [q4.len]; exact (List.getElem?_eq_some_iff.1 hj).1
    have hv : (C k)[j]? = some ((C k)[j]) := List.getElem?_eq_getElem hlt
    have hD : (C k).getD j undef = (C k)[j] := by simp [List.getD, hv]
    show (yhc W).cell b (o + k * i.size + j) = some ((C k).getD j undef) ∧ ((C k).getD j undef).oneCell' = true
    rw [hD]
    exact ⟨(zw9 q3 hpos).2 j _ hv, q4.2 _ (List.getElem_mem _)⟩
  · obtain ⟨_, y, _, rfl, q3, q4⟩ := hget k e hk
    have hlt : j < (C k).length := by rw [q4.len]; exact (List.getElem?_eq_some_iff.1 hj).1
    have hv : (C k)[j]? = some ((C k)[j]) := List.getElem?_eq_getElem hlt
    have hD : (C k).getD j undef = (C k)[j] := by simp [List.getD, hv]
    show RepV (yhc W) ((C k).getD j undef) x
    rw [hD]
    exact q4.1.2 j _ x hv hj
theorem zuk {fs : List (Nat × TypeId)} {a : Bool} {sz by_ : Nat} {z : List D} (htt : TTok P tt) (hl : lk tt t = some ⟨.struct fs, a, sz, by_, z⟩) (h : Rds P W n t cs) :
    cs.length = sz ∧ ∃ m, n = m + 1 ∧ ∀ (j off : Nat) (ft : TypeId) (i : TyI), fs[j]? = some (off, ft) → lk tt ft = some i → Rds P W m ft ((cs.drop off).take i.size) := by
  obtain ⟨H, enc, x, h⟩ := h
  obtain ⟨fields, hu, hmap, _⟩ : ∃ fields, P.underlying t = some (.struct fields) ∧ fields.toList.map (fun f => (f.offset, f.type)) = fs ∧ ∀ f ∈ fields.toList, 0 < P.cellsOf f.type := htt.sh hl
  obtain ⟨xs, m, rfl, _, h1, h2, h3⟩ := DataW.trod_struct hu h
  refine ⟨by rw [h1]; exact (htt t _ hl).cellsOf, m, rfl, fun j off ft i hj hi => ?_⟩
  rw [← hmap, List.getElem?_map, Option.map_eq_some_iff] at hj
  obtain ⟨f, q1, q2⟩ := hj
  cases q2
  have hf : fields[j]? = some f := by rw [← Array.getElem?_toList]; exact q1
  have hlt := (Array.getElem?_eq_some_iff.1 hf).1
  have := h3 j f hf
  rw [List.getElem?_eq_getElem (by omega), (htt _ i hi).cellsOf] at this
  exact ⟨H, enc, _, this⟩
end
end Go.Hk
namespace Go.Hk
open Go.Proofs
section
variable {W : World}
theorem four {α : Type} {l : List α} (h : l.length = 4) : ∃ a b c d, l = [a, b, c, d] := by
  match l, h with
  | [a, b, c, d], _ => exact ⟨a, b, c, d, rfl⟩
theorem five {α : Type} {l : List α} (h : l.length = 5) : ∃ a b c d e, l = [a, b, c, d, e] := by
  match l, h with
  | [a, b, c, d, e], _ => exact ⟨a, b, c, d, e, rfl⟩
theorem yee (l : List Ty) : l.map zb0 = zb8 l := (zhg l).symm
theorem yn5 (l : List Tm) : l.map dTmc = zcy l := (ze2 l).symm
theorem yip (tt0 ts tl : TypeId) (hs : lk ttK tt0 = some ⟨.struct [(0, ts), (1, 3), (2, 9), (3, tl)], true, 4, 56, [.imm (.int .i64 0), .imm (.int .i64 0), .imm (.str []), .nils]⟩)
    (h1 : lk ttK ts = some ⟨.int .i64, false, 1, 8, [.imm (.int .i64 0)]⟩) (h2 : lk ttK tl = some ⟨.sl tt0, false, 1, 24, [.nils]⟩) :
    ∀ (n : Nat) (cs : List Value), Rds Tryz.prog W n tt0 cs → ∃ t : Ty, RV W cs (zb0 t) := by
  intro n
  induction n using Nat.strongRecOn with
  | ind n ih =>
    intro cs h
    obtain ⟨hl, m, rfl, hf⟩ := zuk zb9 hs h
    obtain ⟨a, b, c, d, rfl⟩ := four hl
    obtain ⟨s, r1, _⟩ := zwk zb9 h1 (hf 0 0 ts _ rfl h1)
    obtain ⟨k, r2, _⟩ := zwk zb9 rfl (hf 1 1 3 _ rfl rfl)
    obtain ⟨x, r3, _⟩ := yit zb9 rfl (hf 2 2 9 _ rfl rfl)
    obtain ⟨ps, r4⟩ := zrg (d := zb0) zb9 h2 hs (show 0 < 4 by decide) dTyc_length (fun m' hm cs' => ih m' (by omega) cs') (hf 3 3 tl _ rfl h2)
    exact ⟨.mk s k x ps, by rw [zb0, ← yee]; exact ((r1.app r2).app r3).app r4⟩
theorem ymu (n : Nat) (cs : List Value) (h : Rds Tryz.prog W n 58 cs) : ∃ t : Ty, RV W cs (zb0 t) := yip 58 56 24 rfl rfl rfl n cs h
theorem read_term : ∀ (n : Nat) (cs : List Value), Rds Tryz.prog W n 26 cs → ∃ t : Tm, RV W cs (dTmc t) := by
  intro n
  induction n using Nat.strongRecOn with
  | ind n ih =>
    intro cs h
    obtain ⟨hl, m, rfl, hf⟩ := zuk zb9 rfl h
    obtain ⟨a, b, c, d, e, rfl⟩ := five hl
    obtain ⟨s, r1, _⟩ := zwk zb9 rfl (hf 0 0 22 _ rfl rfl)
    obtain ⟨k, r2, _⟩ := zwk zb9 rfl (hf 1 1 3 _ rfl rfl)
    obtain ⟨x, r3, _⟩ := yit zb9 rfl (hf 2 2 9 _ rfl rfl)
    obtain ⟨ks, r4⟩ := zrg (d := dTmc) zb9 rfl (e := 26) rfl (by decide) dTmc_length (fun m' hm cs' => ih m' (by omega) cs') (hf 3 3 23 _ rfl rfl)
    obtain ⟨ps, r5⟩ := zrg (d := zb0) zb9 rfl (e := 58) rfl (by decide) dTyc_length (fun m' hm cs' => ymu m' cs') (hf 4 4 24 _ rfl rfl)
    exact ⟨.mk s k x ks ps, by rw [dTmc, ← yee, ← yn5]; exact (((r1.app r2).app r3).app r4).app r5⟩
end
end Go.Hk
namespace Go.Hk
open Go.RowKit Go.WideShapes Go.ChangeShapes Go.ChangeAt
theorem zop {H : Type} {enc : TypeId × Value → H} {P : Program} (hl : laidOutB P = true) {W W' : World} (hb : Below W.heap.size W W') {sp : Nat → Bool} :
    ∀ {ts : List TypeId} {vs : List Value} {ds : List (DataW H)} {ps : List MemPlace}, ts.all (fun t => P.readableRec t && decide (t < P.types.size)) = true → DataW.TrodAll enc P W 0 (fun _ => true) true ts vs ds ps →
      (∀ p ∈ ps, p.block < W.heap.size) → (∀ p ∈ ps, sp p.block = true) → DataW.TrodAll enc P W' 0 sp true ts vs ds ps
  | [], [], [], _, _, h, _, _ => h
  | [], [], _ :: _, _, _, h, _, _ => h.elim
  | [], _ :: _, _, _, _, h, _, _ => h.elim
  | _ :: _, [], _, _, _, h, _, _ => h.elim
  | _ :: _, _ :: _, [], _, _, h, _, _ => h.elim
  | t :: ts, v :: vs, d :: ds, ps, ht, h, hlt, hs => by
    obtain ⟨p, q, h1, h2, rfl⟩ := h
    rw [List.all_cons, Bool.and_eq_true, Bool.and_eq_true, decide_eq_true_eq] at ht
    refine ⟨p, q, WideElems.Trod_stays hl ht.1.1 ht.1.2 h1 (fun x hx => hb.same (hlt x (List.mem_append_left _ hx))) (fun x hx => hs x (List.mem_append_left _ hx)), ?_, rfl⟩
    exact zop hl hb ht.2 h2 (fun x hx => hlt x (List.mem_append_right _ hx)) (fun x hx => hs x (List.mem_append_right _ hx))
theorem Rds.of {H : Type} {enc : TypeId × Value → H} {P : Program} {W : World} {t : TypeId} {v : Value} {d : DataW H} {ps : List MemPlace} (h : DataW.Trod enc P W 0 (fun _ => true) true t v d ps) : ∃ n, Rds P W n t v.cells.toList := by
  obtain ⟨n, hn⟩ := h
  exact ⟨n, H, enc, _, hn⟩
section
variable {H : Type} {enc : TypeId × Value → H} {P : Program} {W : World} {sp : Nat → Bool} {hd : Bool}
theorem ymb {vs : List Value} {ds : List (DataW H)} {ps : List MemPlace} (h : DataW.TrodAll enc P W 0 sp hd [] vs ds ps) : vs = [] ∧ ds = [] := by
  cases vs with
  | nil => cases ds with
    | nil => exact ⟨rfl, rfl⟩
    | cons => exact h.elim
  | cons => cases ds <;> exact h.elim
theorem ycs {t : TypeId} {ts : List TypeId} {vs : List Value} {ds : List (DataW H)} {ps : List MemPlace} (h : DataW.TrodAll enc P W 0 sp hd (t :: ts) vs ds ps) :
    ∃ v vs' d ds' p q, vs = v :: vs' ∧ ds = d :: ds' ∧ DataW.Trod enc P W 0 sp hd t v d p ∧ DataW.TrodAll enc P W 0 sp hd ts vs' ds' q := by
  cases vs with
  | nil => cases ds <;> exact h.elim
  | cons v vs => cases ds with
    | nil => exact h.elim
    | cons d ds =>
      obtain ⟨p, q, h1, h2, _⟩ := h
      exact ⟨v, vs, d, ds, p, q, rfl, rfl, h1, h2⟩
theorem yma {t : TypeId} {vs : List Value} {ds : List (DataW H)} {ps : List MemPlace} (h : DataW.TrodAll enc P W 0 sp hd [t] vs ds ps) : ∃ v d p, vs = [v] ∧ ds = [d] ∧ DataW.Trod enc P W 0 sp hd t v d p := by
  obtain ⟨v, vs', d, ds', p, q, rfl, rfl, h1, h2⟩ := ycs h
  obtain ⟨rfl, rfl⟩ := ymb h2
  exact ⟨v, d, p, rfl, rfl, h1⟩
theorem trodAll2 {t u : TypeId} {vs : List Value} {ds : List (DataW H)} {ps : List MemPlace} (h : DataW.TrodAll enc P W 0 sp hd [t, u] vs ds ps) :
    ∃ v w d e p q, vs = [v, w] ∧ ds = [d, e] ∧ DataW.Trod enc P W 0 sp hd t v d p ∧ DataW.Trod enc P W 0 sp hd u w e q := by
  obtain ⟨v, vs', d, ds', p, q, rfl, rfl, h1, h2⟩ := ycs h
  obtain ⟨w, e, q, rfl, rfl, h3⟩ := yma h2
  exact ⟨v, w, d, e, p, q, rfl, rfl, h1, h3⟩
end
theorem agg_of {P : Program} {W : World} {base : Nat} {t : TypeId} {v : Value} {fs : Array Field} (hu : P.underlying t = some (.struct fs)) (h : Value.okWide P W .any base t v) : ∃ cs, v = .agg cs := by
  unfold Value.okWide at h
  rw [hu] at h
  obtain ⟨cs, e, _⟩ := h
  exact ⟨cs, e⟩
theorem zxb {P : Program} {f : FuncId} {fn : Func} {c : Code} (hf : P.funcs[f]? = some fn) (hname : (fn.name == "runtime.NumGoroutine") = false) (hb : fn.body = some c) {W : World} {args : Array Value} {vs : List V} {b : Bool} (hv : RepVL (yhc W) args.toList vs) (hp : zau P f vs (.bool b)) :
    Calls P f args W fun e W' => e = .returned (.bool b) ∧ Below W.heap.size W W' := by
  have h := hp (yhc W) (fun _ => none) W args { imm := yqe W, blk := fun id blk hl => (by cases hl), apart := fun id blk g b hl => (by cases hl), inj := fun i j bi bj gi gj b hl => (by cases hl), nodup := .nil, idsFree := fun id hi => (by cases hi) }
    ⟨by simpa using hv.1, fun i v d h1 h2 => by
      rw [List.getElem?_map, Option.map_eq_some_iff] at h2
      obtain ⟨x, q1, rfl⟩ := h2
      exact .imm _ _ (hv.2 i v x h1 q1)⟩
  rw [run_callFunc_body hf hname hb] at h
  refine Calls.mono h fun e w' he => ?_
  cases e with
  | returned v =>
    obtain ⟨I', μ', h1, _, _, h4⟩ := he
    cases h1 with
    | imm v x hx =>
      cases hx
      exact ⟨rfl, h4.below⟩
  | panicked => exact he.elim
  | outgrown => exact he.elim
theorem law_done {H : Type} {enc : TypeId × Value → H} {P : Program} {f : FuncId} {fn : Func} {c : Code} {s : ChangeSpec} {apart fresh handsOn again : Bool} {W : World} {args : Array Value} {ds gs : List (DataW H)} {before : List MemPlace} {tb : TypeId} {vs : List V}
    (hW : DataW.Whole enc P fn.params.toList s.vars apart W args.toList ds gs before) (hv : s.vars = []) (hf : P.funcs[f]? = some fn) (hname : (fn.name == "runtime.NumGoroutine") = false) (hb : fn.body = some c) (hrt : fn.resultTypes = #[tb]) (hbool : P.underlying tb = some .bool)
    (hl : laidOutB P = true) (hpar : fn.params.toList.all (fun t => P.readableRec t && decide (t < P.types.size)) = true) (hs : s.fn H ds = { results := [.lit (.bool true)], args := ds }) (hx : RepVL (yhc W) args.toList vs) (hp : zau P f vs (.bool true)) :
    Calls P f args W fun e W' => ∃ v, e = .returned v ∧ s.post enc P fn apart fresh handsOn again W args v W' := by
  refine (zxb hf hname hb hx hp).mono fun e W' ⟨he, hg⟩ => ?_
  subst he
  have hW' := hW
  obtain ⟨p, q, hA, hV, e1, hfz, hnd⟩ := hW
  rw [hv] at hV
  have hg0 : gs = [] ∧ q = [] := by
    cases gs with
    | nil => exact ⟨rfl, hV⟩
    | cons => exact hV.elim
  obtain ⟨rfl, rfl⟩ := hg0
  rw [List.append_nil] at e1
  subst e1
  have hlt := hW'.lt
  refine ⟨_, rfl, ynh (pa := before) (pv := []) hW' hg (by simp) (fun b sp hd => ?_) (fun sp hsp => ?_) (fun sp hsp => ?_) ?_⟩
  · rw [List.append_nil, hs, hrt]
    exact trodAll_cons_mk (shut_bool hbool _) trodAll_mk0
  · rw [List.append_nil, hs]
    exact zop hl hg hpar hA hlt hsp
  · rw [List.append_nil, hs, hv]; rfl
  · exact ok_one hrt rfl (okWide_bool_mk hbool _)
end Go.Hk
