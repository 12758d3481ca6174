/- replacer.in: bounds, form, and that the order of the names that are taken does not matter. (And what it stands on.) -/
import Derived.Test.YtlbeglekommoeaaGreatWc
import Derived.Test.YtlbeglekommoeaaGreatWd
import Derived.Laws.MakeOwn
import Derived.Shelf.SortM.Plain
import Derived.Shelf.SortM.SortNone
import Derived.Ground.SlgmProg
import Derived.Test.YtlbeglekommoeaaGreatProg
import Derived.Sort.MapsRangeIn
import Derived.Sort.KeysCollected
import Derived.Sort.OwnSorted
import Derived.Maps.AppendAt
import Derived.WalkKit
import Derived.OwnWalkIn
import Derived.TacticsInMore
import Derived.RegionIn
import Derived.LoopNIn
import Derived.LoopIn
import Derived.Maps.RangeRun
set_option linter.unusedSimpArgs false
set_option linter.unusedVariables false

/- Contracts of hearthref01: strings of letters by number, the first name that is none of some; of hearthlaw01: short. -/
namespace Go.Hk
open Go.Proofs
section
variable {n : Nat} {F : List Nat} {Q : DQ} {env env' : Env} {st st' : St} {ids ids' : List Nat} {k todo : List DI} {ob : List Prop}
end
def zk7 (n : Nat) : Str := if n < 26 then [UInt8.ofNat (97 + n)] else [UInt8.ofNat (97 + (n / 26 - 1)), UInt8.ofNat (97 + n % 26)]
set_option maxRecDepth 100000 in
theorem yhc : zgi 1 [] ++ zgi 2 [] = (List.range 702).map zk7 := by decide +kernel
def namesAt : List Nat := (List.range 702).filter fun n => zcj (zk7 n)
theorem yjy {a b : Nat} (ha : a < 702) (hb : b < 702) (h : zk7 a = zk7 b) : a = b := by
  have u : ∀ x y : Nat, x < 256 → y < 256 → UInt8.ofNat x = UInt8.ofNat y → x = y := fun x y hx hy e => by
    have := congrArg UInt8.toNat e
    simpa [Nat.mod_eq_of_lt hx, Nat.mod_eq_of_lt hy] using this
  unfold zk7 at h
  by_cases h1 : a < 26 <;> by_cases h2 : b < 26 <;> simp only [h1, h2, if_true, if_false, List.cons.injEq, and_true, reduceCtorEq, and_false] at h
  · have := u _ _ (by omega) (by omega) h; omega
  · have h3 := u _ _ (by omega) (by omega) h.1
    have h4 := u _ _ (by omega) (by omega) h.2
    omega
theorem zjy {l : List Str} {s : Str} : zbp l s = true ↔ s ∈ l := by
  induction l with
  | nil => simp [zbp]
  | cons x r ih =>
    simp only [zbp, Bool.or_eq_true, beq_iff_eq, List.mem_cons, ih]
    constructor
    · rintro (h | h)
      · exact .inl h.symm
      · exact .inr h
    · rintro (h | h)
      · exact .inl h.symm
      · exact .inr h
theorem zl5 : ∀ (a : List Nat) (l : List Str), a.Nodup → (∀ n ∈ a, n < 702) → (∀ n ∈ a, zk7 n ∈ l) → a.length ≤ l.length
  | [], _, _, _, _ => by simp
  | n :: r, l, hn, hb, hm => by
    obtain ⟨h1, h2⟩ := List.nodup_cons.1 hn
    have hmem := hm n (by simp)
    have := zl5 r (l.erase (zk7 n)) h2 (fun x hx => hb x (by simp [hx])) fun x hx => by
      have hne : zk7 x ≠ zk7 n := fun e => h1 (yjy (hb x (by simp [hx])) (hb n (by simp)) e ▸ hx)
      exact (List.mem_erase_of_ne hne).2 (hm x (by simp [hx]))
    rw [List.length_erase_of_mem hmem] at this
    have hpos : 0 < l.length := List.length_pos_of_mem hmem
    simp only [List.length_cons]
    omega
end Go.Hk

/- The first name that is none of some, of up to 699. -/
namespace Go.Hk
open Go.Proofs
set_option maxRecDepth 100000 in
theorem ygo : decide (700 ≤ namesAt.length) = true := by decide +kernel
theorem yhm (l : List Str) (hl : l.length ≤ 699) : ∃ k, k < 702 ∧ (∀ j < k, zdo l (zk7 j) = false) ∧ zdo l (zk7 k) = true := by
  have hex : ∃ k, k < 702 ∧ zdo l (zk7 k) = true := by
    apply Classical.byContradiction
    intro hno
    have hall : ∀ n ∈ namesAt, zk7 n ∈ l := fun n hn => by
      simp only [namesAt, List.mem_filter, List.mem_range] at hn
      apply Classical.byContradiction
      intro hm
      refine hno ⟨n, hn.1, ?_⟩
      have : zbp l (zk7 n) = false := by
        cases hh : zbp l (zk7 n) with
        | false => rfl
        | true => exact absurd (zjy.1 hh) hm
      simp [zdo, hn.2, this]
    have := zl5 namesAt l (List.Pairwise.filter _ List.nodup_range) (fun n hn => by simp only [namesAt, List.mem_filter, List.mem_range] at hn; exact hn.1) hall
    have h2 := of_decide_eq_true ygo
    omega
  obtain ⟨k, hk1, hk2⟩ := hex
  induction k using Nat.strongRecOn with
  | _ k ih =>
    by_cases hall : ∀ j < k, zdo l (zk7 j) = false
    · exact ⟨k, hk1, hall, hk2⟩
    · simp only [Classical.not_forall, Bool.not_eq_false] at hall
      obtain ⟨j, hj1, hj2⟩ := hall
      exact ih j hj1 (by omega) hj2
def zbc (l : List Str) : Str := zk7 (((List.range 702).find? fun k => zdo l (zk7 k)).getD 0)
set_option maxRecDepth 100000 in
theorem yhn {l : List Str} {k : Nat} (hk : k < 702) (hpre : ∀ j < k, zdo l (zk7 j) = false) (hs : zdo l (zk7 k) = true) : zbc l = zk7 k := by
  have hf : (List.range 702).find? (fun k => zdo l (zk7 k)) = some k := by
    have e : List.range 702 = List.range k ++ k :: List.range' (k + 1) (701 - k) := by
      rw [List.range_eq_range', List.range_eq_range', ← List.range'_succ]
      have h2 := List.range'_append_1 (s := 0) (m := k) (n := 701 - k + 1)
      rw [Nat.zero_add] at h2
      rw [h2]
      congr 1
      omega
    rw [e, List.find?_append]
    have h1 : (List.range k).find? (fun k => zdo l (zk7 k)) = none := by
      rw [List.find?_eq_none]
      intro j hj
      simp [hpre j (List.mem_range.1 hj)]
    rw [h1]
    simp [hs]
  rw [zbc, hf]; rfl
theorem zqs (l : List Str) (hl : l.length ≤ 699) : ∃ k, k < 702 ∧ (∀ j < k, zdo l (zk7 j) = false) ∧ zdo l (zk7 k) = true ∧ zbc l = zk7 k := by
  obtain ⟨k, h1, h2, h3⟩ := yhm l hl
  exact ⟨k, h1, h2, h3, yhn h1 h2 h3⟩
theorem ze2 (l : List Str) (hl : l.length ≤ 699) : zcj (zbc l) = true ∧ zbc l ∉ l := by
  obtain ⟨k, _, _, h3, h4⟩ := zqs l hl
  rw [← h4] at h3
  simp only [zdo, Bool.and_eq_true, Bool.not_eq_true'] at h3
  refine ⟨h3.1, fun hm => ?_⟩
  have := zjy.2 hm
  rw [h3.2] at this; cases this
theorem zob {l m : List Str} (h : ∀ s, s ∈ l ↔ s ∈ m) : zbc l = zbc m := by
  have e : ∀ s, zbp l s = zbp m s := fun s => by
    cases h1 : zbp l s with
    | true => exact (zjy.2 ((h s).1 (zjy.1 h1))).symm
    | false =>
      cases h2 : zbp m s with
      | false => rfl
      | true => rw [zjy.2 ((h s).2 (zjy.1 h2))] at h1; cases h1
  have e2 : (fun k => zdo l (zk7 k)) = fun k => zdo m (zk7 k) := by
    funext k; simp [zdo, e]
  simp only [zbc, e2]
set_option maxRecDepth 100000 in
theorem zms (l : List Str) (hl : l.length ≤ 699) : zax Tryz.prog 34 [.sl (zbu l)] (.str (zbc l)) := by
  obtain ⟨k, hk, hpre, hs, e⟩ := zqs l hl
  rw [e]
  refine yk6 l (zk7 k) ((List.range k).map zk7) ((List.range' (k + 1) (701 - k)).map zk7) (by omega) ?_ (fun x hx => ?_) hs
  · rw [yhc]
    have : List.range 702 = List.range k ++ k :: List.range' (k + 1) (701 - k) := by
      rw [List.range_eq_range', List.range_eq_range', ← List.range'_succ]
      have h2 := List.range'_append_1 (s := 0) (m := k) (n := 701 - k + 1)
      rw [Nat.zero_add] at h2
      rw [h2]
      congr 1
      omega
    rw [this]; simp
  · obtain ⟨j, hj, rfl⟩ := List.mem_map.1 hx
    exact hpre j (List.mem_range.1 hj)
end Go.Hk

/- make of a slice; a store into an zbx row of a pointer to a block that nobody writes any more. -/
namespace Go.Hk
structure PMs where
  e : TypeId
  z : V
  bytes : Nat
  m : Int
  m2 : Int
  id' : Nat
  ids' : List Nat
  dst : Option Nat
  todo : List DI
def pmks (tt : TT) (n : Nat) (env : Env) (ids : List Nat) (todo : List DI) : Option PMs :=
  match yer todo, ids with
  | some o, id' :: ids' => match o.guard, o.op with
    | none, .makeSlice t l c => match lk tt t, evO env l, evO env c with
      | some { sh := .sl e, .. }, some (.imm (.int _ m)), some (.imm (.int _ m2)) => match lk tt e, zc2 n o.dst, zce todo ([], [id']) with
        | some ⟨_, _, 1, bytes, [.imm z]⟩, true, some (_, _, todo') => some ⟨e, z, bytes, m, m2, id', ids', o.dst, todo'⟩
        | _, _, _ => none
      | _, _, _ => none
    | _, _ => none
  | _, _ => none
structure PFs where
  id : Nat
  e : TypeId
  es : List (List V)
  k : Nat
  x : V
  j : Nat
  todo : List DI
def ygf (tt : TT) (env : Env) (st : St) (todo : List DI) : Option PFs :=
  match yer todo with
  | some o => match o.guard, o.dst, o.op with
    | none, none, .store t p x => match lk tt t, evO env p, evO env x with
      | some i, some (.elp id k 1 0), some (.ref j off) => match lk st id, lk st j, zce todo ([id, j], [id, j]), Nat.beq i.size 1, Nat.beq id j with
        | some (some (.row e 1 es)), some (some (.immb ty _ xs)), some (_, _, todo'), true, false => some ⟨id, e, es, k, .ip ty xs off, j, todo'⟩
        | _, _, _, _, _ => none
      | _, _, _ => none
    | _, _, _ => none
  | none => none
section
variable {P : Program} {n : Nat} {F : List Nat} {Q : DQ} {tt : TT} {env env' : Env} {st st' : St} {ids ids' : List Nat} {k todo todo' : List DI} {I : Imm} {μ : Mu} {w : World} {a : Act} {Pn : V → Prop} {d : D} {cx : Prop} {ob : List Prop}
theorem yjv (z : Array Value) (n : Nat) (c : Value) (h : z.toList = [c]) : madeCells z n = Array.replicate n c := by
  obtain ⟨z⟩ := z
  simp at h; subst h
  apply Array.ext
  · simp [madeCells]
  · intro i h1 h2
    simp [madeCells, Nat.mod_one]
theorem yhj (htt : TTok P tt) {c : PMs} (h : pmks tt n env ids todo = some c) (hm : c.m2 = c.m) (h0 : 0 ≤ c.m) (h1 : (c.bytes : Int) * c.m ≤ 281474976710656) (h2 : c.m ≤ maxLen) (hz : V.one c.z = true)
    (hk : G P n F Q c.todo (zdz c.dst (.own c.id' (List.replicate c.m.toNat [c.z]).length) env) ((c.id', some (.row c.e 1 (List.replicate c.m.toNat [c.z]))) :: st) c.ids') : G P n F Q todo env st ids := by
  unfold pmks at h
  split at h
  · rename_i o id' ids' ho
    split at h
    · rename_i t l cc hg hop
      split at h
      · rename_i e _ _ _ _ k1 m k2 m2 ht hl hc
        split at h
        · rename_i sh ag bytes z all o' todo' hi hd hn1
          cases h
          have ho' : o' = o := zdn ho hn1
          subst ho'
          simp only at hm h0 h1 h2 hz hk
          have hm := hm.symm
          subst hm
          refine zcv (fr := [id']) (wr := [(id', some (.row e 1 (List.replicate m.toNat [z])))]) (rd := []) hn1 ?_ hd (fun c hc => by rw [hop] at hc; cases hc) hk
          intro I μ st1 ids1 a w hag hst hon
          refine ⟨fun _ => ?_, fun hw => by rw [zau hg] at hw; cases hw⟩
          have hops := zbi hon
          rw [hop] at hops
          have rl := hops l (by simp [Op.operands]) _ hl
          have rc := hops cc (by simp [Op.operands]) _ hc
          obtain ⟨inf, zv, i1, i2, i3, i4, i5, i6⟩ := (htt e _ hi).info
          have hz1 := i5 I μ
          have hzl : ∃ c0, zv.cells.toList = [c0] ∧ RepV I c0 z := by
            have hl := hz1.1
            match hcs : zv.cells.toList, hl with
            | [c0], _ => exact ⟨c0, rfl, (hz1.2 0 c0 _ (by rw [hcs]; rfl) rfl).immInv⟩
          obtain ⟨c0, hc0, hr0⟩ := hzl
          have hsz : inf.size = 1 := i2
          have hby : inf.bytes = bytes := i3
          have hrun : (execOp a.eval o').run P w = .ok (.value (.slice (some ⟨w.heap.size, 0, none⟩) m.toNat m.toNat)) (w.alloc (.cells (Array.replicate m.toNat c0) e)) := by
            have hs := (htt t _ ht).sh
            have hx := run_make (P := P) w t e inf zv hs i1 i4 k1 k2 m m h0 (Int.le_refl _) (by rw [hby]; exact h1) (by simpa [maxLen] using h2)
            rw [yjv _ _ c0 hc0, hsz, Nat.mul_one] at hx
            simp only [execOp, hop]
            generalize a.eval l = vl at rl
            generalize a.eval cc = vc at rc
            cases rl with
            | imm _ _ rl =>
            cases rc with
            | imm _ _ rc =>
            cases rl
            cases rc
            simp only [Sem.run_bind, hx, Result.andThen_ok, Sem.run_pure]
          rw [hrun]
          have hlen : (List.replicate m.toNat [z]).length = m.toNat := by simp
          have hone0 : c0.oneCell' = true := i6 c0 (by rw [hc0]; simp)
          obtain ⟨μ', q1, q2, q3, q4⟩ := hst.allocO (.cells (Array.replicate m.toNat c0) e) (.slice (some ⟨w.heap.size, 0, none⟩) m.toNat m.toNat) (fun _ h => Eq.symm h) (.row e 1 (List.replicate m.toNat [z])) (fun μ' _ =>
            ⟨(List.replicate m.toNat c0), ⟨by simp [hlen], .inr ⟨w.heap.size, m.toNat, Array.replicate m.toNat c0, by rw [hlen], Nat.zero_le _, zgm w _, by rw [hlen]; exact Nat.le_refl _, by simp [maxLen] at h2 ⊢; omega, by simp, by rw [hlen]; simp⟩⟩, ⟨by simp, fun i v x hv hx => by
              have e1 : (List.replicate m.toNat [z]).flatten = List.replicate m.toNat z := by
                generalize m.toNat = q
                induction q with
                | zero => rfl
                | succ q ih => simp only [List.replicate_succ, List.flatten_cons, ih]; rfl
              rw [e1] at hx
              rw [List.getElem?_replicate] at hv hx
              split at hv
              · rename_i hq
                rw [if_pos hq] at hx
                cases hv; cases hx; exact hr0
              · cases hv⟩, fun c hc => by rw [List.eq_of_mem_replicate hc]; rfl, fun c hc y hy => by
              rw [List.eq_of_mem_replicate hc] at hy
              simp at hy; subst hy; exact hz, Nat.one_pos⟩)
          rw [hlen] at *
          exact ⟨I, μ', q3, .own _ _ _ _ q1, q2, q4⟩
        · cases h
      · cases h
    · cases h
  · cases h
theorem StRep.freezeI {id : Nat} {ty : TypeId} {sz : Nat} {xs : List V} (hst : StRep I μ st ids w) (hlive : zap st id (.immb ty sz xs)) :
    ∃ J : Imm, I.le J ∧ StRep J μ ((id, none) :: st) ids w ∧ Ext I μ st w J μ ((id, none) :: st) w ∧ ∀ v off, RepD I μ v (.ref id off) → RepV J v (.ip ty xs off) := by
  obtain ⟨g, hg, hlen, gb, vs, rfl, hheap, hrep, hone⟩ := hst.blk id _ hlive
  obtain ⟨hno, hlt⟩ := hst.apart id _ _ gb hlive hg rfl
  obtain ⟨J, hJ⟩ : ∃ J : Imm, J = fun k => if k = gb then some (.cells vs ty (0, 0)) else I k := ⟨_, rfl⟩
  have hle : I.le J := fun k o h => by
    have : k ≠ gb := fun e => by rw [e, hno] at h; cases h
    rw [hJ]; simp [this, h]
  have hJo : ∀ k o, J k = some o → I k = some o ∨ (k = gb ∧ w.heap[k]? = some o) := fun k o h => by
    rw [hJ] at h
    by_cases hk : k = gb
    · subst hk; simp at h; subst h; exact .inr ⟨rfl, hheap⟩
    · simp [hk] at h; exact .inl h
  refine ⟨J, hle, ?_, ?_, ?_⟩
  · exact
      { imm := fun k o h => (hJo k o h).elim (fun h => hst.imm k o h) fun h => h.2
        blk := fun i bi hli => by
          obtain ⟨_, h2⟩ := za7.1 hli
          obtain ⟨gi, hgi, hr⟩ := hst.blk i bi h2
          exact ⟨gi, hgi, hr.mono hle (Mu.le_refl μ)⟩
        apart := fun i bi gi k hli hgi hk => by
          obtain ⟨h1, h2⟩ := za7.1 hli
          obtain ⟨q1, q2⟩ := hst.apart i bi gi k h2 hgi hk
          refine ⟨?_, q2⟩
          cases hJk : J k with
          | none => rfl
          | some o =>
            rcases hJo k o hJk with h | ⟨h, _⟩
            · rw [q1] at h; cases h
            · subst h
              exact absurd (hst.inj i id _ _ _ _ k h2 hlive hgi hg hk rfl) h1
        inj := fun i j bi bj gi gj b hi hj => hst.inj i j bi bj gi gj b (za7.1 hi).2 (za7.1 hj).2
        nodup := hst.nodup
        idsFree := hst.idsFree }
  · exact
      { imm := hle, os := rfl, tape := rfl, output := rfl, size := Nat.le_refl _
        block := fun _ _ _ => rfl
        fresh := fun k _ ⟨i, bi, gi, h1, h2, h3⟩ => ⟨i, bi, gi, (za7.1 h1).2, h2, h3⟩
        old := fun k _ ho => by
          have : k ≠ gb := fun e => ho (e ▸ ⟨id, _, _, hlive, hg, rfl⟩)
          rw [hJ]; simp [this] }
  · intro v off hv
    have hptr : v = .pointer (some ⟨gb, off, none⟩) := by
      cases hv with
      | ref b' _ _ hm => rw [hg] at hm; cases hm; rfl
    rw [hptr]
    have := RepV.ip (I := J) gb 0 ty xs off (fun j => (vs[j]?).getD undef) (fun j x hx => ?_) (fun j x hx => ?_)
    · simpa using this
    · have hj : j < vs.size := by have := hrep.1; have := (List.getElem?_eq_some_iff.1 hx).1; simp at *; omega
      rw [hJ]
      simp only [Imm.cell, if_true, Nat.zero_add, Array.getElem?_eq_getElem hj, Option.getD_some, true_and]
      exact hone _ (by simp)
    · have hj : j < vs.size := by have := hrep.1; have := (List.getElem?_eq_some_iff.1 hx).1; simp at *; omega
      simp only [Array.getElem?_eq_getElem hj, Option.getD_some]
      exact (hrep.2 j _ x (by simp [hj]) hx).mono hle
theorem ykd (htt : TTok P tt) {c : PFs} {y : V} (h : ygf tt env st todo = some c) (hc : c.es[c.k]? = some [y])
    (hk : G P n F Q c.todo env ((c.id, some (.row c.e 1 (c.es.set c.k [c.x]))) :: (c.j, none) :: st) ids) : G P n F Q todo env st ids := by
  unfold ygf at h
  split at h
  · rename_i o ho
    split at h
    · rename_i t p x hgd hdst hop
      split at h
      · rename_i i id kk j off ht hp hx
        split at h
        · rename_i ty es ty2 sz2 xs all o' todo' hl hlj h1 hsz hne
          cases h
          have ho' : o' = o := zdn ho h1
          subst ho'
          have hs := Nat.eq_of_beq_eq_true hsz
          have hne : id ≠ j := fun e => by rw [e] at hne; simp at hne
          simp only at hc hk
          have hk : G P n F Q todo' (zdz o'.dst .undef env) ([(id, some (.row ty 1 (es.set kk [.ip ty2 xs off]))), (j, none)] ++ st) ids := by rw [hdst]; exact hk
          refine zcv (fr := []) (wr := [(id, some (.row ty 1 (es.set kk [.ip ty2 xs off]))), (j, none)]) (rd := [id, j]) h1 ?_ (by simp [zc2, hdst]) (fun c hc => by rw [hop] at hc; cases hc) hk
          intro I μ st1 ids1 a w hag hst hon
          refine ⟨fun _ => ?_, fun hw => by rw [zau hgd] at hw; cases hw⟩
          have hops := zbi hon
          rw [hop] at hops
          have rp := hops p (by simp [Op.operands]) _ hp
          have rx := hops x (by simp [Op.operands]) _ hx
          have hl1 : zap st1 id (.row ty 1 es) := by unfold zap; rw [hag id (by simp)]; exact hl
          have hl2 : zap st1 j (.immb ty2 sz2 xs) := by unfold zap; rw [hag j (by simp)]; exact hlj
          obtain ⟨J, f1, f2, f3, f4⟩ := hst.freezeI hl2
          have hl3 : zap ((j, none) :: st1) id (.row ty 1 es) := za7.2 ⟨hne, hl1⟩
          have rv := f4 _ _ rx
          obtain ⟨b, cap, cur, hmu, hheap, hcap, hcm, hcs, hrep, hlen, hone, hpos⟩ := zw1 f2 hl3 (by rintro rfl; simp at hc)
          have hkl := (List.getElem?_eq_some_iff.1 hc).1
          rw [Nat.mul_one] at hcs
          generalize hv : a.eval p = v at rp
          generalize hu : a.eval x = u at rx rv
          have hu1 : u.cells = #[u] ∧ u.oneCell' = true := by cases rx; exact ⟨rfl, rfl⟩
          cases rp with
          | elp _ _ ln cp _ _ _ hm =>
            rw [hm] at hmu; cases hmu
            have hfit : kk * 1 + 0 + u.cells.toList.length ≤ cur.size := by rw [hu1.1, hcs]; simp; omega
            have hrun : (execOp a.eval o').run P w = .ok .skip (w.setRow b (cur.toList.take (kk * 1 + 0) ++ u.cells.toList ++ cur.toList.drop (kk * 1 + 0 + u.cells.toList.length)).toArray) := by
              simp only [execOp, hop, hv, hu, Sem.run_bind, zfs (htt t i ht) hheap (by rw [hu1.1, hs]; rfl) (fun z hz => by rw [hu1.1] at hz; simp at hz; subst hz; exact hu1.2) hfit, Result.andThen_ok, Sem.run_pure]
            rw [hrun]
            have hcl : cur.toList.length = cap := by simpa using hcs
            rw [hu1.1]
            simp only [Nat.mul_one, Nat.add_zero, List.length_singleton]
            simp only [Nat.mul_one] at hrep
            have hnew : BlkRep J μ (w.setRow b (cur.toList.take kk ++ [u] ++ cur.toList.drop (kk + 1)).toArray) (.slice (some ⟨b, 0, none⟩) es.length cap) (.row ty 1 (es.set kk [.ip ty2 xs off])) := by
              have e1 := zhe (sz := 1) (f := 0) (ys := [V.ip ty2 xs off]) es kk [y] hlen hc (by simp)
              simp only [List.take_zero, List.nil_append, List.length_singleton, Nat.zero_add, Nat.mul_one, Nat.add_zero] at e1
              have e1' : (es.set kk [V.ip ty2 xs off]).flatten = es.flatten.take kk ++ [V.ip ty2 xs off] ++ es.flatten.drop (kk + 1) := by simpa using e1
              have e2 : (cur.toList.take kk ++ [u] ++ cur.toList.drop (kk + 1)).take es.length = (cur.toList.take es.length).take kk ++ [u] ++ (cur.toList.take es.length).drop (kk + 1) := by
                rw [List.append_assoc, List.take_append, List.take_append, List.take_take, List.take_take, List.length_take, List.append_assoc]
                rw [Nat.min_eq_left (by omega : kk ≤ cur.toList.length), Nat.min_eq_right (by omega : kk ≤ es.length), Nat.min_eq_left (by omega : kk ≤ es.length)]
                rw [List.take_of_length_le (l := [u]) (by simp; omega), List.drop_take]
                congr 3
              have hR := RepVL.splice hrep (ns := [u]) (ys := [V.ip ty2 xs off]) ⟨rfl, fun q v z h1 h2 => by
                match q with
                | 0 => simp at h1 h2; subst h1; subst h2; exact rv
                | q + 1 => simp at h1⟩ kk
              simp only [List.length_singleton] at hR
              have hls : (es.set kk [V.ip ty2 xs off]).length = es.length := by simp
              refine ⟨_, ⟨?_, .inr ⟨b, cap, _, by rw [hls], Nat.zero_le _, setRow_heap w b cur _ ty _ hheap, by rw [hls]; exact hcap, hcm, ?_, rfl⟩⟩, ?_, ?_, ?_, Nat.one_pos⟩
              · simp; omega
              · simp; omega
              · rw [hls, Nat.mul_one, List.toList_toArray, e2, e1']
                exact hR
              · intro c hc'
                rcases List.mem_or_eq_of_mem_set hc' with h | h
                · exact hlen c h
                · rw [h]; rfl
              · intro c hc' y hy
                rcases List.mem_or_eq_of_mem_set hc' with h | h
                · exact hone c h y hy
                · rw [h] at hy; simp at hy; subst hy; rfl
            obtain ⟨q1, q2⟩ := f2.update (id := id) (blk := .row ty 1 es) (g := .slice (some ⟨b, 0, none⟩) es.length cap) (b := b) hl3 hm rfl (w' := w.setRow b _) (setRow_size w b _) rfl rfl rfl (fun k hk => setRow_other w b k _ hk) hnew
            exact ⟨J, μ, q1, .undef _, Mu.le_refl μ, f3.trans q2⟩
        · cases h
      · cases h
    · cases h
  · cases h
end
end Go.Hk

/- The loop over the names that a term binds in a part, of a term that is zbx by address (bound): what it asks, in one form for texts and patterns; scopes of names that became others. -/
namespace Go.Hk
open Go.Proofs
def ttX : TT := ttF ++ [
  (137, ⟨.sl 86, false, 1, 24, [.nils]⟩),
  (105, ⟨.ptr 107, false, 1, 8, [.imm .nilp]⟩),
  (107, ⟨.struct [(0, 36)], true, 1, 24, [.nils]⟩),
  (63, ⟨.struct [(0, 9), (1, 26), (6, 61)], true, 7, 104, [.imm (.str []), .imm (.int .i64 0), .imm (.int .i64 0), .imm (.str []), .nils, .nils, .imm .nilmap]⟩)]
theorem ttX_ok : TTok Tryz.prog ttX := .of_eq (l := [4, 3, 9, 26, 58, 22, 24, 5, 36, 23, 56, 29, 139, 83, 1, 61, 143, 128, 96, 94, 93, 126, 148, 91, 86, 123, 125, 137, 105, 107, 63]) (by kernel_rfl)
section
variable {n : Nat} {F : List Nat} {Q : DQ} {env env' : Env} {st st' : St} {ids ids' : List Nat} {k todo : List DI} {ob : List Prop}
theorem xd (path : List Pt) (h : run ttX n 300 path todo env st ids [] = .at k env' st' ids' ob) (hob : zbw ob) (hd : G Tryz.prog n F Q k env' st' ids') : DGo Tryz.prog n F Q todo env st ids := zrf ttX_ok mixed 300 path h hob hd
theorem xg (path : List Pt) (h : run ttX n 300 path todo env st ids [] = .at k env' st' ids' ob) (hob : zbw ob) (hd : G Tryz.prog n F Q k env' st' ids') : G Tryz.prog n F Q todo env st ids := zqo ttX_ok mixed 300 path h hob hd
end
def zhr (sk : An) (t : Tm) : Prop := ∃ (a : An) (o n : Int) (x : Str) (ad : Option Addr) (c : Nat) (ks : List An) (u : Value) (qs : List An),
  er a = sk ∧ vA a = dTmc t ∧ a = .mk true o n x (.slice ad ks.length c) ks u qs ∧ ybh qs ∧ zcw qs ∧ (0 < ks.length → ∃ b, ad = some ⟨b, 0, none⟩) ∧ (0 < qs.length → ∃ bb c2, u = .slice (some ⟨bb, 0, none⟩) qs.length c2)
def yd1 : An → Prop
  | .mk _ _ _ _ _ _ _ qs => zcw qs
  | .im _ _ _ => False
theorem yke (a : An) : yd1 (er a) ↔ yd1 a := by
  cases a with
  | mk s o n x v ks u ps => simp only [er, yd1, zeu]
  | im => exact Iff.rfl
theorem yhq {b : Nat} {sk : An} {t : Tm} (hf : yd1 sk) (hw : ∀ p ∈ (match t with | .mk _ _ _ _ ps => ps), zr4 p) {vs : List Value} {I : Imm} {w : World} {bs : List Nat} (h : (zck b sk t).P vs I w bs) : zhr sk t := by
  obtain ⟨a, rfl, hv, hP⟩ := h
  have hf := (yke a).1 hf
  rcases a with ⟨s, o, n, x, v, ks, u, qs⟩ | ⟨s0, cs0, c0⟩
  case im => exact hf.elim
  have hs : s = true := hP.2.2.1
  subst hs
  obtain ⟨op, tn, tx, tks, tps⟩ := t
  have hwA := hP.2.2.2.2.2
  simp only [anW] at hwA
  have e2 : vAs qs = zcf tps := by
    simp only [vA, dTmc, List.cons.injEq, V.sl.injEq] at hv
    exact hv.2.2.2.2.1
  have hok : ybh qs := zm0 qs tps (zb9 u) 0 hf (hwA.2 trivial).2 e2 (by
    have : ∀ l : List Ty, (∀ p ∈ l, zr4 p) → zsf l := fun l => by
      induction l with
      | nil => exact fun _ => trivial
      | cons p r ih => exact fun h => ⟨h p (by simp), ih fun q hq => h q (by simp [hq])⟩
    exact this tps hw)
  rcases hwA.1.1 with ⟨h0, ⟨a0, c, rfl⟩, _⟩ | ⟨h0, b0, c, cur, rfl, _⟩
  · refine ⟨_, o, n, x, a0, c, ks, u, qs, rfl, hv, by rw [h0], hok, hf, fun h => by omega, fun hq => ?_⟩
    rcases (hwA.2 trivial).1 with ⟨h0, _⟩ | ⟨_, b1, c1, cur1, e, _⟩
    · omega
    · exact ⟨b1, c1, e⟩
  · refine ⟨_, o, n, x, some ⟨b0, 0, none⟩, c, ks, u, qs, rfl, hv, rfl, hok, hf, fun h => ⟨_, rfl⟩, fun hq => ?_⟩
    rcases (hwA.2 trivial).1 with ⟨h0, _⟩ | ⟨_, b1, c1, cur1, e, _⟩
    · omega
    · exact ⟨b1, c1, e⟩
theorem zhq {sk : An} {t : Tm} (h : zhr sk t) : okQ sk := by
  obtain ⟨a, o, n, x, ad, c, ks, u, qs, rfl, _, rfl, h1, _⟩ := h
  exact (zg0 _).2 ⟨rfl, h1⟩
theorem zlw {t : Tm} {a : An} {o n : Int} {x : Str} {v : Value} {ks : List An} {u : Value} {qs : List An} (e : a = .mk true o n x v ks u qs) (hv : vA a = dTmc t) : ∃ tks tps, t = .mk o n x tks tps ∧ ks.length = tks.length ∧ qs.length = tps.length ∧ vAs ks = zdg tks ∧ vAs qs = zcf tps := by
  subst e
  obtain ⟨op, tn, tx, tks, tps⟩ := t
  simp only [vA, dTmc, List.cons.injEq, V.sl.injEq, V.int.injEq, V.str.injEq, true_and, and_true] at hv
  obtain ⟨rfl, rfl, rfl, e1, e2⟩ := hv
  exact ⟨tks, tps, rfl, by have := congrArg List.length e1; simpa using this, by have := congrArg List.length e2; simpa using this, e1, e2⟩
theorem zyi {sk : An} {t : Tm} (h : zhr sk t) (i : Int) : (bp sk i).length = (zad t i).length := by
  obtain ⟨a, o, n, x, ad, c, ks, u, qs, rfl, hv, ea, h1, _⟩ := h
  obtain ⟨tks, tps, rfl, _, hl, _, e2⟩ := zlw ea hv
  subst ea
  rw [zyj]
  simp only [bp, zad]
  cases zb2 o i with
  | true => rfl
  | false =>
    cases zci o i with
    | false => rfl
    | true =>
      simp only [cond_false, cond_true, Bool.false_eq_true, if_false, if_true]
      cases hq : qs[(i - 1).toNat]? with
      | none =>
        have : tps[(i - 1).toNat]? = none := by rw [List.getElem?_eq_none_iff] at hq ⊢; omega
        rw [this]; rfl
      | some q =>
        obtain ⟨tp, htp⟩ : ∃ tp, tps[(i - 1).toNat]? = some tp := zal (by rw [← hl]; exact (List.getElem?_eq_some_iff.1 hq).1)
        have hvq : vA q = zb5 tp := by
          have := congrArg (fun l => l[(i - 1).toNat]?) e2
          simp only [zyv hq, zyb htp] at this
          exact Option.some.inj this
        rw [htp]
        simp only [List.length_map, za8]
        exact zju q tp (zly h1 hq) hvq
def yeg (ty : TypeId) (v : Value) : St := [(6, some (.cells ty 1 [.raw v]))]
set_option maxRecDepth 100000 in
theorem yh9 {b : Nat} {sk : An} {t : Tm} {i : Nat} (hfine : zhr sk t) {op tn : Int} {tx : Str} {tks : List Tm} {tps : List Ty} (ht : t = .mk op tn tx tks tps) (hi : i ≤ 1000000) (h : zb2 op i = true ∨ (zb2 op i = false ∧ zci op i = true ∧ i - 1 < tps.length)) :
    ∃ (fB : Nat) (ty : TypeId) (vB : Value) (fc : Func) (c : Code), Tryz.prog.funcs[fB]? = some fc ∧ (fc.name == "runtime.NumGoroutine") = false ∧ fc.body = some c ∧
      zc5 Tryz.prog 67 [.raw (.pointer (some ⟨b, 0, none⟩)), .imm (.int .i64 i)] [(1, some (.hp (zck b sk t)))] (.ret (.fn (.func fB) [] [.ref 6 0]) ((1, some (.hp (zck b sk t))) :: yeg ty vB)) ∧
      ∀ S : Nat → Bun, (∀ j, ∃ T, ∀ I w bb bs, (S j).P I w bb bs → ∃ vs bs', (zck b sk T).P vs I w bs') → Rounds ((bp sk i).map (plD b sk)) S 0 →
        zc5 Tryz.prog fB [.yld 3, .ref 6 0] ((3, some .pin) :: (4, some (.bun 3 (S 0))) :: yeg ty vB) (.ret (.tup []) ((3, some .pin) :: (5, some (.bun 3 (S (0 + (bp sk i).length)))) :: yeg ty vB)) := by
  have hokQ := zhq hfine
  subst ht
  rcases h with h | ⟨h, h2, h3⟩
  · refine ⟨97, 91, .pointer (some ⟨b, 0, none⟩), _, _, Tryz.func97, by decide +kernel, rfl, ?_, fun S hS hR => ?_⟩
    · exact yaf (zck b sk _) b op i (zox hokQ) h
    · have hb : bp sk i = [[]] := by
        obtain ⟨a, o, n, x, ad, c, ks, u, qs, rfl, hv, ea, h1, _⟩ := hfine
        obtain ⟨tks', tps', e, _⟩ := zlw ea hv
        cases e
        subst ea
        rw [zyj]; simp [bp, h]
      rw [hb] at hR ⊢
      exact yej b 0 S 0 hR
  · obtain ⟨a, o, n, x, ad, c, ks, u, qs, rfl, hv, ea, h1, hfull, _, h4⟩ := hfine
    obtain ⟨tks', tps', e, _, hl, _, _⟩ := zlw ea hv
    cases e
    subst ea
    have hi1 : 0 < i := by simp [zci] at h2; omega
    obtain ⟨q, hq⟩ : ∃ q, qs[i - 1]? = some q := zal (by omega)
    obtain ⟨bb, c2, rfl⟩ := h4 (by omega)
    have hok := zly h1 hq
    have hqf := zm9 hfull hq
    have ei : ((i : Int) - 1).toNat = i - 1 := by omega
    refine ⟨113, 128, .pointer (some ⟨bb, (i - 1) * 4, none⟩), _, _, Tryz.func113, by decide +kernel, rfl, ?_, fun S hS hR => ?_⟩
    · refine yeh (zck b _ _) b op i bb qs.length c2 (i - 1) (zox hokQ) (fun vs I w bs hP => (zd5 (by simpa only [er] using hP)).2) h h2 (by omega) (by omega) (by omega)
    · have hb : bp (er (.mk true op tn tx (.slice ad ks.length c) ks (.slice (some ⟨bb, 0, none⟩) qs.length c2) qs)) i = (ppaths q).map ((true, i - 1) :: ·) := by
        rw [zyj]; simp only [bp, h, h2, ei, hq, cond_false, cond_true]
      have hpl : (bp (er (.mk true op tn tx (.slice ad ks.length c) ks (.slice (some ⟨bb, 0, none⟩) qs.length c2) qs)) i).map (plD b (er (.mk true op tn tx (.slice ad ks.length c) ks (.slice (some ⟨bb, 0, none⟩) qs.length c2) qs))) = zs3 q bb ((i - 1) * 4) := by
        rw [hb, List.map_map]
        apply List.ext_getElem?
        intro j
        rw [List.getElem?_map]
        cases hj : (ppaths q)[j]? with
        | none =>
          rw [List.getElem?_eq_none_iff] at hj
          rw [List.getElem?_eq_none_iff.2 (by rw [zoy]; exact hj)]; rfl
        | some p =>
          obtain ⟨a', b', off', k1, k2⟩ := zs0 hok bb ((i - 1) * 4) hj
          rw [k2]
          have e1 : zec (er (.mk true op tn tx (.slice ad ks.length c) ks (.slice (some ⟨bb, 0, none⟩) qs.length c2) qs)) b 0 ((true, i - 1) :: p) = some (er a', b', off') := by
            rw [zi1]
            simp only [zec, ze7, hq, Option.map_some]
            show (zec q bb ((i - 1) * 4) p).map _ = _
            rw [k1]; rfl
          simp only [Option.map_some, Function.comp, plD, e1]
      rw [hpl] at hR
      have hlen : (bp (er (.mk true op tn tx (.slice ad ks.length c) ks (.slice (some ⟨bb, 0, none⟩) qs.length c2) qs)) i).length = (zs3 q bb ((i - 1) * 4)).length := by rw [← hpl, List.length_map]
      rw [hlen]
      refine yc2 q bb ((i - 1) * 4) S 0 hok (fun j I w b1 bs hP => ?_) hR
      obtain ⟨T, hT⟩ := hS j
      obtain ⟨vs, bs', a2, e2, hv2, hP2⟩ := hT I w b1 bs hP
      rcases a2 with ⟨s', o', n', x', v', ks', u', qs'⟩ | ⟨s0, cs0, c0⟩
      case im => simp [er] at e2
      simp only [er, An.mk.injEq] at e2
      obtain ⟨rfl, rfl, rfl, _, rfl, _, rfl, e3⟩ := e2
      have hq' : (ers qs')[i - 1]? = some (er q) := by rw [e3]; exact zk9 hq
      obtain ⟨q', k1, k2⟩ := ym6 hq'
      have hw := hP2.2.2.2.2.2
      simp only [anW] at hw
      have hg := zda (hw.2 trivial).2 k1
      rw [Nat.zero_add] at hg
      have := yax q' bb ((i - 1) * 4) ((zj0 q').1 (by rw [k2]; exact (zj0 q).2 hqf)) hg.1 hg.2.1 hg.2.2
      rw [← yfa, ← k2, yfa]
      exact this
def zen : List (Str × Str) → V
  | [] => .nilp
  | (x, y) :: r => .ip 125 [.str x, .str y, zen r] 0
def zic : List (Str × Str) → Str → Option Str
  | [], _ => none
  | (x, y) :: r, s => if x == s then some y else zic r s
set_option maxRecDepth 100000 in
theorem yjw (l : List (Str × Str)) (s : Str) : zax Tryz.prog 63 [zen l, .str s] (.tup [.str ((zic l s).getD []), .bool (zic l s).isSome]) := by
  refine zaf zbl Tryz.func63 (by decide +kernel) rfl [1] rfl rfl ?_
  refine fg_ [] rfl (by simp) ?_
  refine zak (fun r : List (Str × Str) => [(0, .imm (zen r)), (1, .imm (.str s))]) (fun _ => []) [1] (fun r => r.length) (fun r => zic l s = zic r s) l rfl ⟨rfl, rfl, trivial⟩ trivial rfl fun r hi ih => ?_
  rcases r with _ | ⟨⟨x, y⟩, r⟩
  · refine fd_ [] rfl (by simp) ?_
    refine zab rfl (fun h => by simp at h) (fun h => ?_)
    refine za2 rfl ?_
    refine fd_ [] rfl (by simp) ?_
    rw [hi]
    exact zaa ⟨_, rfl, tV rfl, trivial⟩
  · refine zz4 0 rfl ?_
    refine fd_ [] rfl (by simp) ?_
    refine zab rfl (fun h => ?_) (fun h => by simp at h)
    refine fd_ [] rfl (by simp) ?_
    refine zab rfl (fun h2 => ?_) (fun h2 => ?_)
    · refine fd_ [] rfl (by simp) ?_
      have e : zic l s = some y := by rw [hi]; simp at h2; simp [zic, h2]
      rw [e]
      exact zaa ⟨_, rfl, tV rfl, trivial⟩
    · refine fd_ [] rfl (by simp) ?_
      have e : zic ((x, y) :: r) s = zic r s := by simp at h2; simp [zic, h2]
      exact zae (ih r (by simp) (by rw [hi, e])) ⟨rfl, rfl, trivial⟩ trivial rfl
set_option maxRecDepth 100000 in
theorem ycj (l : List Str) (len : Nat) (hl : l.length ≤ 699) : zc5 Tryz.prog 34 [.own 1 len] [(1, some (.row 9 1 (zbu l)))] (.ret (.imm (.str (zbc l))) [(1, some (.row 9 1 (zbu l)))]) := by
  refine zq6 (stL := [(1, some (.row 9 1 (zbu l)))]) (st0 := []) (st1 := []) (zms l hl) rfl trivial (by simp [nms, nmD]) (fun i b h j hj => ?_) fun I J μ w hst hle hb xs hx => ?_
  · rcases zah.1 h with ⟨_, rfl⟩ | ⟨_, h⟩
    · simp [nmB] at hj
    · simp [zap, lk] at h
  · refine ⟨hx.1, fun i v d h1 h2 => ?_⟩
    match i with
    | 0 =>
      simp at h2; subst h2
      have h3 := hx.2 0 v _ h1 rfl
      cases h3 with
      | own _ _ a cap hm =>
        have hl : zap [(1, some (.row 9 1 (zbu l)))] 1 (.row 9 1 (zbu l)) := zah.2 (.inl ⟨rfl, rfl⟩)
        obtain ⟨g, q1, q2⟩ := hst.blk 1 _ hl
        rw [hm] at q1; cases q1
        exact .imm _ _ (zu1 q2 hle fun b ho => hb 1 _ _ b hl hm ho)
    | i + 1 => simp at h2
end Go.Hk

/- A part of a term that is zbx by address is lent and comes back, its texts changed. -/
namespace Go.Hk
open Go.Proofs
def yem (sk : An) (t : Tm) : Asn where
  P := fun vs I w bs => ∃ a, er a = sk ∧ vA a = dTmc t ∧ (zyt a).P vs I w bs
  mono := fun h ⟨a, h1, h2, h3⟩ => ⟨a, h1, h2, (zyt a).mono h h3⟩
  loc := fun h ⟨a, h1, h2, h3⟩ => ⟨a, h1, h2, (zyt a).loc h h3⟩
def yih (b : Nat) (sk : An) (t : Tm) (i : Nat) : Asn where
  P := fun _ I w bs => ∃ a c w0, er a = sk ∧ vA a = dTmc t ∧ (zid b a).P [] I w0 (b :: anB a) ∧ ze7 a (false, i) = some (c, zb9 (match a with | .mk _ _ _ _ v _ _ _ => v | _ => .bool true), i * 5) ∧ bs = (b :: anB a).filter (fun k => decide (k ∉ anB c)) ∧ ∀ k ∈ bs, w.heap[k]? = w0.heap[k]?
  mono := fun h ⟨a, c, w0, h1, h2, h3, h4⟩ => ⟨a, c, w0, h1, h2, (zid b a).mono h h3, h4⟩
  loc := fun h ⟨a, c, w0, h1, h2, h3, h4, h5, h6⟩ => ⟨a, c, w0, h1, h2, h3, h4, h5, fun k hk => (h k hk).trans (h6 k hk)⟩
theorem yfb {α : Type} {l : List α} {i : Nat} {c : α} (h : l[i]? = some c) (d : α) : l = l.take i ++ c :: l.drop (i + 1) ∧ l.set i d = l.take i ++ d :: l.drop (i + 1) := by
  have hlt := (List.getElem?_eq_some_iff.1 h).1
  constructor
  · have := List.take_append_drop i l
    rw [zaq h] at this
    exact this.symm
  · exact List.set_eq_take_append_cons_drop.trans (if_pos hlt)
theorem yi0 {I : Imm} {w0 w : World} {o n : Int} {x : Str} {v : Value} {ks : List An} {u : Value} {qs : List An} {i : Nat} {c c2 : An} (hk : ks[i]? = some c) (h : anW I w0 (.mk true o n x v ks u qs)) (nd : (anB (.mk true o n x v ks u qs)).Nodup)
    (hw : ∀ k ∈ anB (.mk true o n x v ks u qs), k ∉ anB c → w.heap[k]? = w0.heap[k]?) (h2 : anW I w c2) (h3 : cA c2 = cA c) (h4 : zcu c2 = zcu c) : anW I w (.mk true o n x v (ks.set i c2) u qs) := by
  obtain ⟨e1, e2⟩ := yfb hk c2
  have hli : (ks.take i).length = i := by rw [List.length_take]; have := (List.getElem?_eq_some_iff.1 hk).1; omega
  simp only [anW] at h ⊢
  have hB : zdv ks = zdv (ks.take i) ++ (anB c ++ zdv (ks.drop (i + 1))) := by
    conv => lhs; rw [e1]
    rw [zle]; rfl
  simp only [anB] at nd hw
  rw [hB] at nd
  have n1 := List.nodup_append.1 nd
  have n2 := List.nodup_append.1 n1.1
  have n3 := List.nodup_append.1 n2.2.1
  have n4 := List.nodup_append.1 n3.2.1
  have hrow : ∀ k ∈ zdj v ks.length, w.heap[k]? = w0.heap[k]? := fun k hk => hw k (by simp [hk]) fun hc => n2.2.2 k hk k (by simp [hc]) rfl
  have hb : w.heap[zb9 v]? = w0.heap[zb9 v]? := hrow _ (by
    have := (List.getElem?_eq_some_iff.1 hk).1
    cases hl : ks.length with
    | zero => omega
    | succ m => simp [zdj])
  have h12 := h.1.2
  rw [e1, zh1] at h12
  simp only [zfa] at h12
  rw [hli, Nat.zero_add] at h12
  refine ⟨⟨?_, ?_⟩, fun _ => ⟨?_, ?_⟩⟩
  · rw [List.length_set]; exact zlt hrow h.1.1
  · rw [e2, zh1]
    simp only [zfa]
    rw [hli, Nat.zero_add]
    refine ⟨zfo (fun _ => hb) (fun k hk => hw k (by rw [hB]; simp [hk]) fun hc => n3.2.2 k hk k (by simp [hc]) rfl) h12.1, ⟨by rw [h4]; exact h12.2.1.1, by rw [h3]; exact zru hb h12.2.1.2.1, h2⟩, ?_⟩
    exact zfo (fun _ => hb) (fun k hk => hw k (by rw [hB]; simp [hk]) fun hc => n4.2.2 k hc k hk rfl) h12.2.2
  · exact zlt (fun k hk => hw k (by simp [hk]) fun hc => n1.2.2 k (by simp [hc]) k (by simp [hk]) rfl) (h.2 trivial).1
  · exact zfo (fun hne => hw _ (by cases qs with | nil => exact absurd rfl hne | cons => simp [zdj]) fun hc => n1.2.2 _ (by simp [hc]) (zb9 u) (by cases qs with | nil => exact absurd rfl hne | cons => simp [zdj]) rfl) (fun k hk => hw k (by simp [hk]) fun hc => n1.2.2 k (by simp [hc]) k (by simp [hk]) rfl) (h.2 trivial).2
def skK : An → Nat → Option An
  | .mk _ _ _ _ _ ks _ _, i => ks[i]?
  | .im _ _ _, _ => none
def tmK : Tm → Nat → Option Tm
  | .mk _ _ _ ks _, i => ks[i]?
def zcs : Tm → Nat → Tm → Tm
  | .mk op n x ks ps, i, k => .mk op n x (ks.set i k) ps
theorem zjr {a : An} {t : Tm} (hq : okQ a) (hv : vA a = dTmc t) {i : Nat} {k : Tm} (hk : tmK t i = some k) : ∃ o n x v ks u qs c tx tks tps, a = .mk true o n x v ks u qs ∧ t = .mk o n tx tks tps ∧ tx = x ∧ ks[i]? = some c ∧ vA c = dTmc k ∧ ze7 a (false, i) = some (c, zb9 v, i * 5) ∧ tks[i]? = some k ∧ vAs ks = zdg tks ∧ vAs qs = zcf tps := by
  rcases a with ⟨s, o, n, x, v, ks, u, qs⟩ | ⟨s0, cs0, c0⟩
  case im => exact hq.elim
  obtain ⟨rfl, _⟩ := hq
  obtain ⟨op, tn, tx, tks, tps⟩ := t
  simp only [vA, dTmc, List.cons.injEq, V.sl.injEq, V.int.injEq, V.str.injEq, true_and, and_true] at hv
  obtain ⟨rfl, rfl, rfl, e1, e2⟩ := hv
  simp only [tmK] at hk
  have hl : ks.length = tks.length := by have := congrArg List.length e1; simpa using this
  obtain ⟨c, hc⟩ : ∃ c, ks[i]? = some c := zal (by rw [hl]; exact (List.getElem?_eq_some_iff.1 hk).1)
  have hvc : vA c = dTmc k := by
    have := congrArg (fun l => l[i]?) e1
    simp only [zyv hc, zch hk] at this
    exact Option.some.inj this
  exact ⟨o, n, x, v, ks, u, qs, c, x, tks, tps, rfl, rfl, rfl, hc, hvc, by simp [ze7, hc, szA], hk, e1, e2⟩
theorem ydz {b : Nat} {sk skc : An} {t k : Tm} {i : Nat} (hq : okQ sk) (hs : skK sk i = some skc) (hk : tmK t i = some k) {vs : List Value} {I : Imm} {w : World} {bs : List Nat} (h : (zck b sk t).P vs I w bs) :
    ∃ b1 b2, (∀ k ∈ b1, k ∈ bs) ∧ (∀ k ∈ b2, k ∈ bs) ∧ (∀ k ∈ b1, k ∉ b2) ∧ (yih b sk t i).P [] I w b1 ∧ (yem skc k).P [] I w b2 := by
  obtain ⟨a, rfl, hv, hP⟩ := h
  obtain ⟨o, n, x, v, ks, u, qs, c, tx, tks, tps, rfl, rfl, _, hc, hvc, hkid, _⟩ := zjr ((zg0 a).1 hq) hv hk
  have hskc : er c = skc := by
    simp only [er, skK] at hs
    rw [zk9 hc] at hs
    exact Option.some.inj hs
  have hbs := hP.1
  have hnd := hP.2.1
  obtain ⟨k1, k2, k3⟩ := zhn hkid
  have hnd2 : (anB (.mk true o n x v ks u qs)).Nodup := by rw [hbs] at hnd; exact (List.nodup_cons.1 hnd).2
  refine ⟨(b :: anB (.mk true o n x v ks u qs)).filter (fun k => decide (k ∉ anB c)), anB c, fun k hk => ?_, fun k hk => ?_, fun k hk => ?_, ?_, ?_⟩
  · rw [hbs]; exact (List.mem_filter.1 hk).1
  · rw [hbs]; exact List.mem_cons_of_mem _ (k2 k hk)
  · have := (List.mem_filter.1 hk).2; simpa using this
  · refine ⟨.mk true o n x v ks u qs, c, w, rfl, hv, ?_, hkid, rfl, fun _ _ => rfl⟩
    rw [hbs] at hP
    exact hP
  · refine ⟨c, hskc, hvc, rfl, (k3 hnd2).1, ?_⟩
    have hw := hP.2.2.2.2.2
    simp only [anW] at hw
    exact (zda hw.1.2 hc).2.2
theorem yj5 {b : Nat} {o n : Int} {x : Str} {v : Value} {ks : List An} {u : Value} {qs : List An} {t : Tm} {i : Nat} {vs : List Value} {I : Imm} {w : World} {bs : List Nat} (h : (yih b (.mk true o n x v ks u qs) t i).P vs I w bs) : zc3 I w b 3 [.raw v] := by
  obtain ⟨a, c, w0, he, hv, hP, hkid, hbs, heq⟩ := h
  have := (zd5 (b := b) (t := t) (vs := []) (I := I) (w := w0) ⟨a, he, hv, hP⟩).1
  obtain ⟨cur, ty, k, q1, q2⟩ := this
  refine ⟨cur, ty, k, ?_, q2⟩
  have hb : b ∈ bs := by
    rw [hbs, List.mem_filter]
    refine ⟨by simp, ?_⟩
    have := (List.nodup_cons.1 hP.2.1).1
    simp only [decide_eq_true_eq]
    exact fun hc => this ((zhn hkid).2.1 b hc)
  rw [heq b hb]; exact q1
theorem yd0 {b : Nat} {sk skc : An} {t k : Tm} {i : Nat} {o n : Int} {x : Str} {len cap rb : Nat} {ks : List An} {u : Value} {qs : List An} {oc nc oc2 nc2 : Int} {xc xc2 : Str} {vc : Value} {ksc : List An} {uc : Value} {qsc : List An} {ks2 : List Tm} {ps2 : List Ty}
    (hq : okQ sk) (hsk : sk = .mk true o n x (.slice (some ⟨rb, 0, none⟩) len cap) ks u qs) (hs : skK sk i = some skc) (hskc : skc = .mk true oc nc xc vc ksc uc qsc) (hk : tmK t i = some k) (hk2 : k = .mk oc2 nc2 xc2 ks2 ps2) {vs : List Value} {I : Imm} {w : World} {bs : List Nat} (h : (yih b sk t i).P vs I w bs) :
    zc3 I w rb (i * 5) [.imm (.int .i64 oc2), .imm (.int .i64 nc2), .imm (.str xc2), .raw vc, .raw uc] := by
  obtain ⟨a, c, w0, he, hv, hP, hkid, hbs, heq⟩ := h
  subst he
  obtain ⟨o', n', x', v', ks', u', qs', c', tx, tks, tps, rfl, rfl, rfl, hc, hvc, hkid', htk, e1, e2⟩ := zjr ((zg0 a).1 hq) hv hk
  rw [hkid] at hkid'
  simp only [Option.some.injEq, Prod.mk.injEq] at hkid'
  obtain ⟨rfl, _, _⟩ := hkid'
  have hvv : v' = .slice (some ⟨rb, 0, none⟩) len cap := by simp only [er, An.mk.injEq] at hsk; exact hsk.2.2.2.2.1
  have hskc1 : er c = skc := by
    simp only [er, skK] at hs
    rw [zk9 hc] at hs
    exact Option.some.inj hs
  rw [hskc] at hskc1
  rcases c with ⟨sc, oc', nc', yc, vc', kc, uc', qc⟩ | ⟨s0, cs0, c0⟩
  case im => simp [er] at hskc1
  simp only [er, An.mk.injEq] at hskc1
  obtain ⟨rfl, rfl, rfl, _, rfl, _, rfl, _⟩ := hskc1
  subst hk2
  simp only [vA, dTmc, List.cons.injEq, V.int.injEq, V.str.injEq, true_and] at hvc
  obtain ⟨rfl, rfl, rfl, _⟩ := hvc
  have hw := hP.2.2.2.2.2
  simp only [anW] at hw
  have hg := zda hw.1.2 hc
  have hone := zyh hg.2.2
  obtain ⟨cur, ty, kk, q1, q2⟩ := hg.2.1
  obtain ⟨kb1, kb2, kb3⟩ := zhn hkid
  have hnd : (anB (.mk true o' n' tx v' ks' u' qs')).Nodup := (List.nodup_cons.1 hP.2.1).2
  have hrb : rb ∈ bs := by
    rw [hbs, List.mem_filter]
    have h1 := (kb3 hnd).2
    rw [hvv] at h1 kb1
    rw [hvv]
    have h1 : rb ∉ anB (.mk true oc' nc' yc vc' kc uc' qc) := h1
    exact ⟨List.mem_cons_of_mem _ kb1, by simpa using h1⟩
  rw [hvv] at q1
  simp only [Nat.zero_add, szA] at q2
  refine ⟨cur, ty, kk, (heq rb hrb).trans q1, fun j d hj => ?_⟩
  match j with
  | 0 => simp at hj; subst hj; exact ⟨_, q2 0 _ rfl, hone _ (by simp [cA]), .imm _ _ (.int _ _)⟩
  | 1 => simp at hj; subst hj; exact ⟨_, q2 1 _ rfl, hone _ (by simp [cA]), .imm _ _ (.int _ _)⟩
  | 2 => simp at hj; subst hj; exact ⟨_, q2 2 _ rfl, hone _ (by simp [cA]), .imm _ _ (.encStr _ _)⟩
  | 3 => simp at hj; subst hj; exact ⟨_, q2 3 _ rfl, hone _ (by simp [cA]), .raw _ (hone _ (by simp [cA]))⟩
  | 4 => simp at hj; subst hj; exact ⟨_, q2 4 _ rfl, hone _ (by simp [cA]), .raw _ (hone _ (by simp [cA]))⟩
  | j + 5 => simp at hj
theorem yfn {b : Nat} {sk skc : An} {t k : Tm} {i : Nat} (hq : okQ sk) (hf : zi9 skc) (hs : skK sk i = some skc) (hk : tmK t i = some k) {vs : List Value} {I : Imm} {w : World} {bs : List Nat} (h : (zck b sk t).P vs I w bs) :
    ∃ o n x v js u qs tx tks tps, skc = .mk true o n x v js u qs ∧ k = .mk o n tx tks tps := by
  obtain ⟨a, rfl, hv, hP⟩ := h
  obtain ⟨o, n, x, v, ks, u, qs, c, tx, tks, tps, rfl, rfl, _, hc, hvc, hkid, _⟩ := zjr ((zg0 a).1 hq) hv hk
  have hskc : er c = skc := by
    simp only [er, skK] at hs
    rw [zk9 hc] at hs
    exact Option.some.inj hs
  have hw := hP.2.2.2.2.2
  simp only [anW] at hw
  have hg := (zda hw.1.2 hc).1
  rcases c with ⟨sc, oc', nc', yc, vc', kc, uc', qc⟩ | ⟨s0, cs0, c0⟩
  case im => rw [← hskc] at hf; exact hf.elim
  have hg : sc = true := hg
  subst hg
  obtain ⟨o2, n2, x2, ks2, ps2⟩ := k
  simp only [vA, dTmc, List.cons.injEq, V.int.injEq, V.str.injEq, true_and] at hvc
  obtain ⟨rfl, rfl, _⟩ := hvc
  exact ⟨_, _, _, _, _, _, _, _, _, _, hskc.symm, rfl⟩
theorem zk1 {b : Nat} {sk : An} {t : Tm} {o n : Int} {x : Str} {v : Value} {ks : List An} {u : Value} {qs : List An} {o2 n2 : Int} {x2 : Str} {ks2 : List Tm} {ps2 : List Ty} (hsk : sk = .mk true o n x v ks u qs) (ht : t = .mk o2 n2 x2 ks2 ps2) {vs : List Value} {I : Imm} {w : World} {bs : List Nat} (h : (zck b sk t).P vs I w bs) :
    zc3 I w b 0 [.imm (.int .i64 o2), .imm (.int .i64 n2), .imm (.str x2), .raw v, .raw u] := by
  obtain ⟨a, he, hv, hP⟩ := h
  rw [hsk] at he
  rcases a with ⟨s, o', n', x', v', ks', u', qs'⟩ | ⟨s0, cs0, c0⟩
  case im => simp [er] at he
  simp only [er, An.mk.injEq] at he
  obtain ⟨rfl, rfl, rfl, _, rfl, _, rfl, _⟩ := he
  subst ht
  simp only [vA, dTmc, List.cons.injEq, V.int.injEq, V.str.injEq, true_and] at hv
  obtain ⟨rfl, rfl, rfl, _⟩ := hv
  have hone := zyh hP.2.2.2.2.2
  obtain ⟨cur, ty, kk, q1, q2⟩ := hP.2.2.2.2.1
  refine ⟨cur, ty, kk, q1, fun j d hj => ?_⟩
  match j with
  | 0 => simp at hj; subst hj; exact ⟨_, q2 0 _ rfl, hone _ (by simp [cA]), .imm _ _ (.int _ _)⟩
  | 1 => simp at hj; subst hj; exact ⟨_, q2 1 _ rfl, hone _ (by simp [cA]), .imm _ _ (.int _ _)⟩
  | 2 => simp at hj; subst hj; exact ⟨_, q2 2 _ rfl, hone _ (by simp [cA]), .imm _ _ (.encStr _ _)⟩
  | 3 => simp at hj; subst hj; exact ⟨_, q2 3 _ rfl, hone _ (by simp [cA]), .raw _ (hone _ (by simp [cA]))⟩
  | 4 => simp at hj; subst hj; exact ⟨_, q2 4 _ rfl, hone _ (by simp [cA]), .raw _ (hone _ (by simp [cA]))⟩
  | j + 5 => simp at hj
theorem yjd {b : Nat} {sk : An} {t : Tm} {vs : List Value} {I : Imm} {w : World} {bs : List Nat} (h : (zck b sk t).P vs I w bs) : ∃ bs', (∀ k ∈ bs', k ∈ bs) ∧ (yem sk t).P [] I w bs' := by
  obtain ⟨a, he, hv, hP⟩ := h
  obtain ⟨h1, h2, _, _, _, h6⟩ := hP
  rw [h1] at h2
  exact ⟨anB a, fun k hk => by rw [h1]; exact List.mem_cons_of_mem _ hk, a, he, hv, rfl, (List.nodup_cons.1 h2).2, h6⟩
theorem zyy {cur : List Value} {off : Nat} {c0 c1 c2 c3 c4 y : Value} (hf : off + 5 ≤ cur.length) (h : ∀ (j : Nat) (c : Value), [c0, c1, c2, c3, c4][j]? = some c → cur[off + j]? = some c) :
    cur.take off ++ [c0, c1, y, c3, c4] ++ cur.drop (off + 5) = cur.take (off + 2) ++ [y] ++ cur.drop (off + 2 + 1) := by
  apply List.ext_getElem?
  intro i
  have e1 := zft (cur := cur) (off := off) (cs := [c0, c1, y, c3, c4]) (by simpa using hf) i
  have e2 := zft (cur := cur) (off := off + 2) (cs := [y]) (by simp; omega) i
  simp only [List.length_cons, List.length_nil, Nat.zero_add, Nat.reduceAdd] at e1 e2
  rw [e1, e2]
  by_cases h1 : i < off
  · rw [if_pos h1, if_pos (by omega)]
  · rw [if_neg h1]
    by_cases h2 : i < off + 5
    · rw [if_pos h2]
      obtain ⟨j, rfl⟩ : ∃ j, i = off + j := ⟨i - off, by omega⟩
      rw [Nat.add_sub_cancel_left]
      match j, h2 with
      | 0, _ => rw [if_pos (by omega), h 0 c0 rfl]; rfl
      | 1, _ => rw [if_pos (by omega), h 1 c1 rfl]; rfl
      | 2, _ => rw [if_neg (by omega), if_pos (by omega)]; simp
      | 3, _ => rw [if_neg (by omega), if_neg (by omega), h 3 c3 rfl]; rfl
      | 4, _ => rw [if_neg (by omega), if_neg (by omega), h 4 c4 rfl]; rfl
      | j + 5, h2 => omega
    · rw [if_neg h2, if_neg (by omega), if_neg (by omega)]
theorem ylt {a d : An} {o n : Int} {x : Str} {v : Value} {ks : List An} {u : Value} {qs : List An} (h : er a = er d) (hd : d = .mk true o n x v ks u qs) : ∃ y ks' qs', a = .mk true o n y v ks' u qs' ∧ ers ks' = ers ks ∧ ers qs' = ers qs := by
  subst hd
  rcases a with ⟨s, o', n', x', v', ks', u', qs'⟩ | ⟨s0, cs0, c0⟩
  case im => simp [er] at h
  simp only [er, An.mk.injEq] at h
  obtain ⟨rfl, rfl, rfl, _, rfl, h1, rfl, h2⟩ := h
  exact ⟨x', ks', qs', rfl, h1, h2⟩
theorem ydy {b : Nat} {sk skc : An} {t k : Tm} {i : Nat} {o2 n2 : Int} {x2 : Str} {ks2 : List Tm} {ps2 : List Ty} {o n : Int} {x : Str} {len cap rb : Nat} {ks : List An} {u : Value} {qs : List An} {oc nc : Int} {xc : Str} {vc : Value} {ksc : List An} {uc : Value} {qsc : List An} (j : Nat)
    (hq : okQ sk) (hsk : sk = .mk true o n x (.slice (some ⟨rb, 0, none⟩) len cap) ks u qs) (hs : skK sk i = some skc) (hskc : skc = .mk true oc nc xc vc ksc uc qsc) (hk : tmK t i = some k) :
    zh3 (yih b sk t i) (yem skc (.mk o2 n2 x2 ks2 ps2)) (zck b sk (zcs t i (.mk o2 n2 x2 ks2 ps2))) j rb (i * 5) [.imm (.int .i64 o2), .imm (.int .i64 n2), .imm (.str x2), .raw vc, .raw uc] := by
  rintro us vs I w b1 b2 ⟨a, c, w0, he, hv, hP, hkid, hbs, heq⟩ ⟨a2, he2, hv2, hb2, hnd2, hw2⟩ hdis
  subst he
  obtain ⟨o', n', x', v', ks', u', qs', c', tx, tks, tps, rfl, rfl, rfl, hc, hvc, hkid', htk, e1, e2⟩ := zjr ((zg0 a).1 hq) hv hk
  rw [hkid] at hkid'
  simp only [Option.some.injEq, Prod.mk.injEq] at hkid'
  obtain ⟨rfl, _, _⟩ := hkid'
  have hvv : v' = .slice (some ⟨rb, 0, none⟩) len cap := by simp only [er, An.mk.injEq] at hsk; exact hsk.2.2.2.2.1
  have hskc1 : er c = skc := by
    simp only [er, skK] at hs
    rw [zk9 hc] at hs
    exact Option.some.inj hs
  have hec : er a2 = er c := by rw [he2, hskc1]
  -- the nodes
  rcases a2 with ⟨s2, o2', n2', y2, v2, k2, u2, q2⟩ | ⟨s0, cs0, c0⟩
  case im => rw [hskc] at he2; simp [er] at he2
  rw [hskc] at he2
  simp only [er, An.mk.injEq] at he2
  obtain ⟨rfl, rfl, rfl, _, rfl, _, rfl, _⟩ := he2
  simp only [vA, dTmc, List.cons.injEq, V.sl.injEq, V.int.injEq, V.str.injEq, true_and, and_true] at hv2
  obtain ⟨rfl, rfl, rfl, g1, g2⟩ := hv2
  rcases c with ⟨sc, oc', nc', yc, vc', kc, uc', qc⟩ | ⟨s0, cs0, c0⟩
  case im => simp [er] at hec
  simp only [er, An.mk.injEq] at hec
  obtain ⟨rfl, rfl, rfl, _, rfl, hk2, rfl, hq2⟩ := hec
  -- before the store: the part with its old text
  have hnd : (anB (.mk true o' n' tx v' ks' u' qs')).Nodup := (List.nodup_cons.1 hP.2.1).2
  have hbn : b ∉ anB (.mk true o' n' tx v' ks' u' qs') := (List.nodup_cons.1 hP.2.1).1
  obtain ⟨kb1, kb2, kb3⟩ := zhn hkid
  have hBc : anB (.mk true o2' n2' yc v2 k2 u2 q2) = anB (.mk true o2' n2' yc v2 kc u2 qc) := by
    rw [← zyn, ← zyn (.mk true o2' n2' yc v2 kc u2 qc)]; simp only [er, hk2, hq2]
  have hBc2 : anB (.mk true o2' n2' y2 v2 k2 u2 q2) = anB (.mk true o2' n2' yc v2 k2 u2 q2) := rfl
  have hin : ∀ k, k ∈ b :: anB (.mk true o' n' tx v' ks' u' qs') → k ∉ anB (.mk true o2' n2' yc v2 kc u2 qc) → w.heap[k]? = w0.heap[k]? := fun k h1 h2 => heq k (by rw [hbs, List.mem_filter]; exact ⟨h1, by simpa using h2⟩)
  have hw1 : anW I w (.mk true o2' n2' yc v2 k2 u2 q2) := by simpa only [anW] using hw2
  have hA1 := yi0 (c2 := .mk true o2' n2' yc v2 k2 u2 q2) hc hP.2.2.2.2.2 hnd (fun k h1 h2 => hin k (List.mem_cons_of_mem _ h1) h2) hw1 rfl rfl
  have hloc0 : zec (.mk true o' n' tx v' ks' u' qs') b 0 [(false, i)] = some (.mk true o2' n2' yc v2 kc u2 qc, zb9 v', i * 5) := by
    simp only [zec]; rw [hkid]
  have heA : er (.mk true o' n' tx v' (ks'.set i (.mk true o2' n2' yc v2 k2 u2 q2)) u' qs') = er (.mk true o' n' tx v' ks' u' qs') :=
    yhs _ _ (.mk true o2' n2' yc v2 k2 u2 q2) (false, i) _ _ hkid (by simp only [er, hk2, hq2])
  have hBA : anB (.mk true o' n' tx v' (ks'.set i (.mk true o2' n2' yc v2 k2 u2 q2)) u' qs') = anB (.mk true o' n' tx v' ks' u' qs') := by rw [← zyn, heA, zyn]
  have hbW : w.heap[b]? = w0.heap[b]? := hin b (by simp) fun h => hbn (kb2 b h)
  have hR1 : (zid b (.mk true o' n' tx v' (ks'.set i (.mk true o2' n2' yc v2 k2 u2 q2)) u' qs')).P [] I w (b :: anB (.mk true o' n' tx v' ks' u' qs')) := by
    obtain ⟨_, p2, p3, ⟨cur, p4, p5⟩, p6, _⟩ := hP
    exact ⟨by rw [hBA], p2, rfl, ⟨cur, hbW.trans p4, p5⟩, zru hbW p6, hA1⟩
  have hc1 : (ks'.set i (.mk true o2' n2' yc v2 k2 u2 q2))[i]? = some (.mk true o2' n2' yc v2 k2 u2 q2) := by
    rw [List.getElem?_set_self (List.getElem?_eq_some_iff.1 hc).1]
  have hloc1 : zec (.mk true o' n' tx v' (ks'.set i (.mk true o2' n2' yc v2 k2 u2 q2)) u' qs') b 0 [(false, i)] = some (.mk true o2' n2' yc v2 k2 u2 q2, rb, i * 5) := by
    simp only [zec, ze7, hc1, Option.map_some, szA, hvv, zb9]
  obtain ⟨s1, cur, ty, s2, s3, s4⟩ := zsl y2 hloc1 [] I w _ hR1
  have hrb : rb ∉ anB (.mk true o2' n2' yc v2 kc u2 qc) := by
    have := (kb3 hnd).2
    rw [hvv] at this
    exact this
  have hfit : i * 5 + 5 ≤ cur.size := by
    obtain ⟨_, cur2, ty2, r2, r3⟩ := zk0 hR1 hloc1
    rw [s2] at r2; cases r2
    exact r3
  refine ⟨?_, cur, ty, s2, hfit, fun cs hl hrep hone => ?_⟩
  · rw [hbs, List.mem_filter]
    exact ⟨s1, by simpa using hrb⟩
  · have hcs : cs = [.int .i64 o2', .int .i64 n2', zv1 y2, v2, u2] := by
      match cs, hl with
      | [c0, c1, c2, c3, c4], _ =>
        have e0 := (hrep 0 c0 _ rfl rfl).immInv.intInv
        have e1 := (hrep 1 c1 _ rfl rfl).immInv.intInv
        have e2 := zpi (hrep 2 c2 _ rfl rfl)
        have e3 := (hrep 3 c3 _ rfl rfl).rawInv
        have e4 := (hrep 4 c4 _ rfl rfl).rawInv
        rw [e0, e1, e2, e3, e4]
    subst hcs
    have hat := (zuy hloc1 hR1.2.2.2.2.1 hR1.2.2.2.2.2).1
    obtain ⟨cur', ty', k', t1, t2⟩ := hat
    rw [s2] at t1; cases t1
    have hsp := zyy (cur := cur.toList) (off := i * 5) (y := zv1 y2) (c0 := .int .i64 o2') (c1 := .int .i64 n2') (c2 := zv1 yc) (c3 := v2) (c4 := u2) (by simpa using hfit) (fun j c hj => by have := t2 j c (by simpa [cA] using hj); simpa using this)
    refine ⟨b :: anB (.mk true o' n' tx v' ks' u' qs'), fun k hk => ?_, ?_⟩
    · by_cases hkc : k ∈ anB (.mk true o2' n2' yc v2 kc u2 qc)
      · right; rw [hb2, hBc2, hBc]; exact hkc
      · left; rw [hbs, List.mem_filter]; exact ⟨hk, by simpa using hkc⟩
    · simp only [List.length_cons, List.length_nil, Nat.zero_add, Nat.reduceAdd]
      rw [hsp]
      have := s4 [zv1 y2] ⟨rfl, fun j c d h1 h2 => by
        match j with
        | 0 => simp at h1 h2; subst h1; subst h2; exact .imm _ _ (.encStr _ _)
        | j + 1 => simp at h1⟩ (by simp; rfl)
      simp only [zej, List.length_singleton] at this
      refine ⟨_, ?_, ?_, this⟩
      · rw [zqz [(false, i)] _ b 0 _ _ _ _ hloc1 (by simp [er]), heA]
      · simp only [zmx, ze7, hc1, Option.map_some, zww, vA, zcs, dTmc, List.set_set]
        congr 4
        · rw [zgf, List.map_set, ← zgf, e1, yb5]
          simp only [vA, dTmc, g1, g2]
        · rw [e2]
end Go.Hk

/- What namer.in computes, and plain facts of it. -/
namespace Go.Hk
open Go.Proofs
abbrev Sc := List (Str × Str)
def zia (i : Int) (st : Nat × Tm × List Str × Sc) (x : Str) : Nat × Tm × List Str × Sc :=
  (st.1 + 1, zea st.2.1 i st.1 (zbc st.2.2.1), st.2.2.1 ++ [zbc st.2.2.1], (x, zbc st.2.2.1) :: st.2.2.2)
def zlc (i : Int) (names : List Str) (T : Tm) (tk : List Str) (s : Sc) : Nat × Tm × List Str × Sc := names.foldl (zia i) (0, T, tk, s)
def l1 : Nat → Nat → Tm → List Str → Sc → List Sc → Tm × List Str × List Sc
  | 0, _, T, tk, _, acc => (T, tk, acc)
  | m + 1, i, T, tk, s, acc => l1 m (i + 1) (zlc i (zad T i) T tk s).2.1 (zlc i (zad T i) T tk s).2.2.1 s (acc ++ [(zlc i (zad T i) T tk s).2.2.2])
def yi2 : Tm → List Tm → Tm
  | .mk op n x _ ps, ks => .mk op n x ks ps
mutual
def zlb : Tm → Sc → List Str → Tm × List Str
  | .mk op n x ks ps, s, tk => if op = 4 then (.mk op n ((zic s x).getD x) ks ps, tk) else
    (yi2 (l1 ks.length 0 (.mk op n x ks ps) tk s []).1 (zge ks (l1 ks.length 0 (.mk op n x ks ps) tk s []).2.2 (l1 ks.length 0 (.mk op n x ks ps) tk s []).2.1).1,
      (zge ks (l1 ks.length 0 (.mk op n x ks ps) tk s []).2.2 (l1 ks.length 0 (.mk op n x ks ps) tk s []).2.1).2)
def zge : List Tm → List Sc → List Str → List Tm × List Str
  | [], _, tk => ([], tk)
  | k :: r, scs, tk => ((zlb k (scs.headD []) tk).1 :: (zge r scs.tail (zlb k (scs.headD []) tk).2).1, (zge r scs.tail (zlb k (scs.headD []) tk).2).2)
end
theorem ycq {sk : An} {t : Tm} {b : Nat} {op n : Int} {x xx : Str} {v u : Value} {js qs : List An} {ks : List Tm} {ps : List Ty} (hsk : sk = .mk true op n xx v js u qs) (ht : t = .mk op n x ks ps) {vs us : List Value} {I : Imm} {w : World} {b1 b2 : List Nat} (h1 : (yem sk t).P vs I w b1)
    (h2 : (yik b 26 [.imm (.int .i64 op), .imm (.int .i64 n), .imm (.str x), .raw v, .raw u]).P us I w b2) (hd : ∀ k ∈ b1, k ∉ b2) : (∀ k ∈ b :: b1, k ∈ b1 ∨ k ∈ b2) ∧ (zck b sk t).P [] I w (b :: b1) := by
  obtain ⟨a, he, hv, e1, e2, e3⟩ := h1
  obtain ⟨e, cur, z1, z2, z3⟩ := h2
  subst ht
  rw [hsk] at he
  rcases a with ⟨s, o', n', x', v', ks', u', qs'⟩ | ⟨s0, cs0, c0⟩
  case im => simp [er] at he
  simp only [er, An.mk.injEq] at he
  obtain ⟨rfl, rfl, rfl, hxx, rfl, rfl, rfl, rfl⟩ := he
  have hx : x' = x := by simp only [vA, dTmc, List.cons.injEq, V.str.injEq] at hv; exact hv.2.2.1
  subst hx
  have hcs : cur.toList = cA (.mk true o' n' x' v' ks' u' qs') := by
    obtain ⟨cur⟩ := cur
    have hl := z2.1
    match cur, hl with
    | [c0, c1, c2, c3, c4], _ =>
      have e0 := (z2.2 0 _ _ rfl rfl).immInv.intInv
      have e1 := (z2.2 1 _ _ rfl rfl).immInv.intInv
      have e2 := zpi (z2.2 2 _ _ rfl rfl)
      have e3 := (z2.2 3 _ _ rfl rfl).rawInv
      have e4 := (z2.2 4 _ _ rfl rfl).rawInv
      rw [e0, e1, e2, e3, e4]; rfl
  refine ⟨fun k hk => ?_, _, ?_, hv, by rw [e1], List.nodup_cons.2 ⟨fun hb => hd b hb (by simp [e]), e2⟩, rfl, ⟨cur, z1, ?_⟩, ⟨cur, _, _, z1, fun j c hj => ?_⟩, e3⟩
  · rcases List.mem_cons.1 hk with rfl | hk
    · right; simp [e]
    · exact .inl hk
  · rw [hsk, ← hxx]; rfl
  · have := congrArg List.length hcs; simpa [cA] using this
  · rw [← hcs] at hj; simpa using hj
def zgp (t : Tm) : Nat → Nat → Nat
  | 0, _ => 0
  | m + 1, i => (zad t i).length + zgp t m (i + 1)
mutual
def ybk : Tm → Nat
  | .mk op n x ks ps => if op = 4 then 0 else zgp (.mk op n x ks ps) ks.length 0 + zm1 ks
def zm1 : List Tm → Nat
  | [] => 0
  | k :: r => ybk k + zm1 r
end
def textTm : Tm → Str
  | .mk _ _ x _ _ => x
mutual
theorem zxh : ∀ (t : Ty) (j : Nat) (x : Str), (zc6 (zer t j x)).map zij = ((zc6 t).map zij).set j x
  | .mk s n y ps, j, x => by
    by_cases h : s = 2
    · cases j with
      | zero => simp [zer, h, zc6, zij]
      | succ j => simp [zer, h, zc6, zij, zm4 ps j x]
    · simp [zer, h, zc6, zm4 ps j x]
theorem zm4 : ∀ (l : List Ty) (j : Nat) (x : Str), (zcb (zel l j x)).map zij = ((zcb l).map zij).set j x
  | [], j, x => by simp [zel, zcb]
  | t :: r, j, x => by
    simp only [zel]
    split
    · rename_i h
      simp only [zcb, List.map_append, zxh t j x, List.set_append, List.length_map, if_pos h]
    · rename_i h
      simp only [zcb, List.map_append, zm4 r _ x, List.set_append, List.length_map, if_neg h]
end
theorem zgy (t : Ty) (j : Nat) (x : Str) : za8 (zer t j x) = (za8 t).set j x := zxh t j x
theorem zlq (op n : Int) (y : Str) (ks : List Tm) (ps : List Ty) (i : Int) (j : Nat) (x : Str) : ∃ y' ps', zea (.mk op n y ks ps) i j x = .mk op n y' ks ps' ∧ ps'.length = ps.length := by
  simp only [zea]
  split
  · exact ⟨_, _, rfl, rfl⟩
  · split
    · split
      · exact ⟨_, _, rfl, by simp⟩
      · exact ⟨_, _, rfl, rfl⟩
    · exact ⟨_, _, rfl, rfl⟩
theorem zjg {t : Tm} {i : Int} {j : Nat} (x : Str) (h : j < (zad t i).length) : zad (zea t i j x) i = (zad t i).set j x := by
  obtain ⟨op, n, y, ks, ps⟩ := t
  simp only [zad] at h
  simp only [zea]
  by_cases h1 : zb2 op i = true
  · simp only [h1, if_true, List.length_singleton] at h
    have : j = 0 := by omega
    subst this
    simp [zad, h1]
  · by_cases h2 : zci op i = true
    · rw [if_neg h1, if_pos h2] at h ⊢
      cases hp : ps[(i - 1).toNat]? with
      | none => simp only [hp] at h; simp at h
      | some p =>
        have hlt := (List.getElem?_eq_some_iff.1 hp).1
        have e : (ps.set (i - 1).toNat (zer p j x))[(i - 1).toNat]? = some (zer p j x) := by rw [List.getElem?_set_self hlt]
        simp only [zad]
        rw [if_neg h1, if_pos h2, if_neg h1, if_pos h2]
        simp only [e, hp]
        exact zgy p j x
    · rw [if_neg h1, if_neg h2] at h
      simp at h
theorem zfn (t : Tm) (i : Int) (j : Nat) (x : Str) (m : Int) : (zad (zea t i j x) m).length = (zad t m).length := by
  obtain ⟨op, n, y, ks, ps⟩ := t
  simp only [zea]
  by_cases h1 : zb2 op i = true
  · rw [if_pos h1]
    simp only [zad]
    by_cases h3 : zb2 op m = true
    · simp [h3]
    · rw [if_neg h3, if_neg h3]
  · rw [if_neg h1]
    by_cases h2 : zci op i = true
    · rw [if_pos h2]
      cases hp : ps[(i - 1).toNat]? with
      | none => rfl
      | some p =>
        have hlt := (List.getElem?_eq_some_iff.1 hp).1
        simp only [zad]
        by_cases h3 : zb2 op m = true
        · simp [h3]
        · rw [if_neg h3, if_neg h3]
          by_cases h4 : zci op m = true
          · rw [if_pos h4, if_pos h4]
            by_cases e : (m - 1).toNat = (i - 1).toNat
            · rw [e, List.getElem?_set_self hlt, hp]
              simp only [zgy, List.length_set]
            · rw [List.getElem?_set_ne (fun h => e h.symm)]
          · rw [if_neg h4, if_neg h4]
    · rw [if_neg h2]
theorem yb1 {sk : An} {t : Tm} (h : zhr sk t) {i : Int} {j : Nat} {p : zmn} (hp : (bp sk i)[j]? = some p) (x : Str) : zhr sk (zea t i j x) := by
  have hok := zhq h
  obtain ⟨a, o, n, y, ad, c, ks, u, qs, rfl, hv, ea, h1, h2, h3, h4⟩ := h
  rw [zyj] at hp
  obtain ⟨s, o', n', x', v', ks', u', ps', b', off', hl, _, hset⟩ := zrp ((zg0 a).1 hok) hv hp 0
  have he := zqz p a 0 0 _ _ _ (.mk s o' n' x v' ks' u' ps') hl (by simp [er])
  obtain ⟨y2, ks2, qs2, e2, e3, e4⟩ := ylt he ea
  have hlk : ks2.length = ks.length := by rw [← zev, e3, zev]
  have hlq : qs2.length = qs.length := by rw [← zev, e4, zev]
  refine ⟨_, o, n, y2, ad, c, ks2, u, qs2, he, hset x, by rw [e2, hlk], (zlz qs2).1 (by rw [e4]; exact (zlz qs).2 h1), (zeu qs2).1 (by rw [e4]; exact (zeu qs).2 h2), by rw [hlk]; exact h3, by rw [hlq]; exact h4⟩
theorem yh7 {sk : An} {t : Tm} (h : zhr sk t) (i : Int) : (bp sk i).length = (zad t i).length := zyi h i
def rAt (i : Int) (T : Tm) (tk : List Str) (s : Sc) (j : Nat) : Nat × Tm × List Str × Sc := ((zad T i).take j).foldl (zia i) (0, T, tk, s)
theorem ya9 {i : Int} {T : Tm} {tk : List Str} {s : Sc} {j : Nat} {x : Str} (h : (zad T i)[j]? = some x) : rAt i T tk s (j + 1) = zia i (rAt i T tk s j) x := by
  simp only [rAt, zb7 h, List.foldl_append, List.foldl_cons, List.foldl_nil]
theorem ymi (i : Int) (T : Tm) (tk : List Str) (s : Sc) : rAt i T tk s (zad T i).length = zlc i (zad T i) T tk s := by
  simp only [rAt, zlc, List.take_of_length_le (Nat.le_refl _)]
theorem zy8 {i : Int} {sk : An} {T : Tm} (hf : zhr sk T) (tk : List Str) (s : Sc) : ∀ j, j ≤ (zad T i).length → (rAt i T tk s j).1 = j ∧ zhr sk (rAt i T tk s j).2.1 ∧ (∀ m, j ≤ m → (zad (rAt i T tk s j).2.1 i)[m]? = (zad T i)[m]?) ∧
      (∀ m, (zad (rAt i T tk s j).2.1 m).length = (zad T m).length) ∧ (rAt i T tk s j).2.2.1.length = tk.length + j ∧ (∀ op n y ks ps, T = .mk op n y ks ps → ∃ y' ps', (rAt i T tk s j).2.1 = .mk op n y' ks ps' ∧ ps'.length = ps.length)
  | 0, _ => ⟨rfl, hf, fun _ _ => rfl, fun _ => rfl, rfl, fun op n y ks ps e => ⟨y, ps, e, rfl⟩⟩
  | j + 1, hj => by
    obtain ⟨h1, h2, h3, h4, h5, h6⟩ := zy8 (i := i) hf tk s j (by omega)
    obtain ⟨x, hx⟩ := zal (show j < (zad T i).length by omega)
    rw [ya9 hx]
    generalize rAt i T tk s j = r at *
    obtain ⟨r1, rT, rtk, rs⟩ := r
    simp only at h1 h2 h3 h4 h5 h6
    subst h1
    have hlt : r1 < (zad rT i).length := by rw [h4]; omega
    obtain ⟨p, hp⟩ := zal (show r1 < (bp sk i).length by rw [yh7 h2]; exact hlt)
    refine ⟨rfl, yb1 h2 hp _, fun m hm => ?_, fun m => ?_, ?_, fun op n y ks ps e => ?_⟩
    · simp only [zia]
      rw [zjg _ hlt, List.getElem?_set_ne (by omega), h3 m (by omega)]
    · simp only [zia]
      rw [zfn, h4]
    · simp only [zia, List.length_append, List.length_singleton, h5]; omega
    · obtain ⟨y', ps', e1, e2⟩ := h6 op n y ks ps e
      simp only [zia]
      rw [e1]
      obtain ⟨y2, ps2, e3, e4⟩ := zlq op n y' ks ps' i r1 (zbc rtk)
      exact ⟨y2, ps2, e3, by rw [e4, e2]⟩
theorem zqv (i : Int) : ∀ (l : List Str) (r : Nat × Tm × List Str × Sc) (op n : Int) (x : Str) (ks : List Tm) (ps : List Ty), r.2.1 = .mk op n x ks ps → ∃ x' ps', (l.foldl (zia i) r).2.1 = .mk op n x' ks ps' ∧ ps'.length = ps.length
  | [], r, op, n, x, ks, ps, h => ⟨x, ps, h, rfl⟩
  | y :: l, r, op, n, x, ks, ps, h => by
    obtain ⟨x1, ps1, h1, h2⟩ := zlq op n x ks ps i r.1 (zbc r.2.2.1)
    obtain ⟨x2, ps2, h3, h4⟩ := zqv i l (zia i r y) op n x1 ks ps1 (by simp only [zia, h]; exact h1)
    exact ⟨x2, ps2, h3, h4.trans h2⟩
theorem zu2 : ∀ (m i : Nat) (T : Tm) (tk : List Str) (s : Sc) (acc : List Sc) (op n : Int) (x : Str) (ks : List Tm) (ps : List Ty), T = .mk op n x ks ps → ∃ x' ps', (l1 m i T tk s acc).1 = .mk op n x' ks ps' ∧ ps'.length = ps.length
  | 0, i, T, tk, s, acc, op, n, x, ks, ps, h => ⟨x, ps, h, rfl⟩
  | m + 1, i, T, tk, s, acc, op, n, x, ks, ps, h => by
    obtain ⟨x1, ps1, h1, h2⟩ := zqv i (zad T i) (0, T, tk, s) op n x ks ps h
    obtain ⟨x2, ps2, h3, h4⟩ := zu2 m (i + 1) (zlc i (zad T i) T tk s).2.1 (zlc i (zad T i) T tk s).2.2.1 s (acc ++ [(zlc i (zad T i) T tk s).2.2.2]) op n x1 ks ps1 h1
    exact ⟨x2, ps2, h3, h4.trans h2⟩
theorem znm (op n : Int) (x : Str) (ks : List Tm) (ps : List Ty) (s : Sc) (tk : List Str) : ∃ x' ks' ps', (zlb (.mk op n x ks ps) s tk).1 = .mk op n x' ks' ps' := by
  by_cases h : op = 4
  · exact ⟨(zic s x).getD x, ks, ps, by simp only [zlb, if_pos h]⟩
  · obtain ⟨x', ps', h1, _⟩ := zu2 ks.length 0 (.mk op n x ks ps) tk s [] op n x ks ps rfl
    exact ⟨x', _, ps', by simp only [zlb, if_neg h, h1, yi2]; rfl⟩
theorem zey {t u : Tm} (h : ∀ m, (zad t m).length = (zad u m).length) : ∀ m i, zgp t m i = zgp u m i
  | 0, _ => rfl
  | m + 1, i => by simp only [zgp, h, zey h m]
theorem zqw (i : Int) : ∀ (l : List Str) (r : Nat × Tm × List Str × Sc), (l.foldl (zia i) r).2.2.1.length = r.2.2.1.length + l.length ∧ ∀ m, (zad (l.foldl (zia i) r).2.1 m).length = (zad r.2.1 m).length
  | [], r => ⟨rfl, fun _ => rfl⟩
  | x :: l, r => by
    obtain ⟨h1, h2⟩ := zqw i l (zia i r x)
    refine ⟨?_, fun m => ?_⟩
    · have e : (zia i r x).2.2.1.length = r.2.2.1.length + 1 := by simp [zia]
      rw [List.foldl_cons, h1, e, List.length_cons]; omega
    · rw [List.foldl_cons, h2]; simp only [zia, zfn]
theorem ygz : ∀ (m i : Nat) (T : Tm) (tk : List Str) (s : Sc) (acc : List Sc), (l1 m i T tk s acc).2.1.length = tk.length + zgp T m i ∧ (l1 m i T tk s acc).2.2.length = acc.length + m
  | 0, i, T, tk, s, acc => ⟨rfl, rfl⟩
  | m + 1, i, T, tk, s, acc => by
    obtain ⟨h3, h4⟩ := zqw i (zad T i) (0, T, tk, s)
    obtain ⟨h1, h2⟩ := ygz m (i + 1) (zlc i (zad T i) T tk s).2.1 (zlc i (zad T i) T tk s).2.2.1 s (acc ++ [(zlc i (zad T i) T tk s).2.2.2])
    simp only [l1]
    refine ⟨?_, ?_⟩
    · rw [h1]
      have e : (zlc i (zad T i) T tk s).2.2.1.length = tk.length + (zad T i).length := h3
      have e2 : zgp (zlc i (zad T i) T tk s).2.1 m (i + 1) = zgp T m (i + 1) := zey h4 m (i + 1)
      rw [e, e2]; simp only [zgp]; omega
    · rw [h2, List.length_append, List.length_singleton]; omega
mutual
theorem zvk : ∀ (t : Tm) (s : Sc) (tk : List Str), (zlb t s tk).2.length = tk.length + ybk t
  | .mk op n x ks ps, s, tk => by
    by_cases h : op = 4
    · simp [zlb, ybk, h]
    · simp only [zlb, ybk, if_neg h]
      rw [zyg, (ygz ks.length 0 (.mk op n x ks ps) tk s []).1]; omega
theorem zyg : ∀ (l : List Tm) (scs : List Sc) (tk : List Str), (zge l scs tk).2.length = tk.length + zm1 l
  | [], scs, tk => rfl
  | k :: r, scs, tk => by
    simp only [zge, zm1]
    rw [zyg r, zvk k]; omega
end
end Go.Hk

/- Terms that are zbx by address, their parts by value: a part is read, another one is stored; what the whole shows. -/
namespace Go.Hk
open Go.Proofs
theorem er_im {c : An} (h : er c = .im true [] []) : ∃ cs e, c = .im true cs e := by
  rcases c with ⟨s, o, n, x, v, ks, u, qs⟩ | ⟨s0, cs0, c0⟩
  · simp [er] at h
  · simp only [er, An.im.injEq] at h
    obtain ⟨rfl, _⟩ := h
    exact ⟨cs0, c0, rfl⟩
theorem znz {b : Nat} {sk : An} {t k : Tm} {i : Nat} {o n : Int} {x : Str} {len cap rb : Nat} {ks : List An} {u : Value} {qs : List An}
    (hq : okQ sk) (hsk : sk = .mk true o n x (.slice (some ⟨rb, 0, none⟩) len cap) ks u qs) (hs : skK sk i = some (.im true [] [])) (hk : tmK t i = some k) {vs : List Value} {I : Imm} {w : World} {bs : List Nat} (h : (zck b sk t).P vs I w bs) :
    zc3 I w rb (i * 5) ((dTmc k).map .imm) := by
  obtain ⟨a, rfl, hv, hP⟩ := h
  obtain ⟨o', n', x', v', ks', u', qs', c, tx, tks, tps, rfl, rfl, rfl, hc, hvc, hkid, htk, e1, e2⟩ := zjr ((zg0 a).1 hq) hv hk
  have hskc : er c = .im true [] [] := by
    simp only [er, skK] at hs
    rw [zk9 hc] at hs
    exact Option.some.inj hs
  obtain ⟨cs, e, rfl⟩ := er_im hskc
  have hvv : v' = .slice (some ⟨rb, 0, none⟩) len cap := by simp only [er, An.mk.injEq] at hsk; exact hsk.2.2.2.2.1
  have hw := hP.2.2.2.2.2
  simp only [anW] at hw
  obtain ⟨_, ⟨cur, ty, kk, q1, q2⟩, hr, hone, _⟩ := zda hw.1.2 hc
  simp only [vA] at hvc
  subst hvc
  rw [hvv] at q1
  simp only [Nat.zero_add, szA, cA] at q2
  refine ⟨cur, ty, kk, q1, fun j d hj => ?_⟩
  rw [List.getElem?_map] at hj
  obtain ⟨y, hy, rfl⟩ := Option.map_eq_some_iff.1 hj
  obtain ⟨z, hz⟩ : ∃ z, cs[j]? = some z := ⟨_, List.getElem?_eq_getElem (by rw [hr.1]; exact (List.getElem?_eq_some_iff.1 hy).1)⟩
  exact ⟨z, q2 j z hz, hone z (List.mem_of_getElem? hz), .imm _ _ (hr.2 j z y hz hy)⟩
theorem zkf {b : Nat} {sk : An} {t k : Tm} {i : Nat} {o n : Int} {x : Str} {len cap rb : Nat} {ks : List An} {u : Value} {qs : List An}
    (hq : okQ sk) (hsk : sk = .mk true o n x (.slice (some ⟨rb, 0, none⟩) len cap) ks u qs) (hs : skK sk i = some (.im true [] [])) (hk : tmK t i = some k) (k' : Tm) :
    zrx (zck b sk t) (zck b sk (zcs t i k')) rb (i * 5) ((dTmc k').map .imm) := by
  rintro vs I w bs ⟨a, rfl, hv, hP⟩
  obtain ⟨o', n', x', v', ks', u', qs', c, tx, tks, tps, rfl, rfl, rfl, hc, hvc, hkid, htk, e1, e2⟩ := zjr ((zg0 a).1 hq) hv hk
  have hskc : er c = .im true [] [] := by
    simp only [er, skK] at hs
    rw [zk9 hc] at hs
    exact Option.some.inj hs
  obtain ⟨cs, e, rfl⟩ := er_im hskc
  have hvv : v' = .slice (some ⟨rb, 0, none⟩) len cap := by simp only [er, An.mk.injEq] at hsk; exact hsk.2.2.2.2.1
  subst hvv
  have hloc : zec (.mk true o' n' tx (.slice (some ⟨rb, 0, none⟩) len cap) ks' u' qs') b 0 [(false, i)] = some (.im true cs e, rb, i * 5) := by
    simp only [zec]; rw [hkid]; rfl
  obtain ⟨q1, cur, ty, q2, q3, q4⟩ := yg1 (dTmc k') (by obtain ⟨_, _, _, _, _⟩ := k'; rfl) hloc vs I w bs hP
  refine ⟨q1, cur, ty, q2, q3, fun zs hr ho => ?_⟩
  obtain ⟨ys, hy⟩ := q4 zs hr ho
  refine ⟨_, zqz [(false, i)] _ b 0 _ _ _ (.im true ys (dTmc k')) hloc rfl, ?_, hy⟩
  simp only [zmx]
  rw [hkid]
  simp only [zww, vA, zcs, dTmc]
  congr 4
  · rw [zgf, List.map_set, ← zgf, e1, ze9, ze9, List.map_set]
    rfl
  · rw [e2]
theorem zqx {sk : An} {t k : Tm} {i : Nat} (h : zhr sk t) (hs : skK sk i = some (.im true [] [])) (hk : tmK t i = some k) (k' : Tm) : zhr sk (zcs t i k') := by
  obtain ⟨a, o, n, x, ad, c, ks, u, qs, rfl, hv, rfl, h1, h2, h3, h4⟩ := h
  obtain ⟨op, tn, tx, tks, tps⟩ := t
  simp only [vA, dTmc, List.cons.injEq, V.sl.injEq, V.int.injEq, V.str.injEq, true_and, and_true] at hv
  obtain ⟨rfl, rfl, rfl, e1, e2⟩ := hv
  refine ⟨.mk true o n x (.slice ad (ks.set i (.im true [] (dTmc k'))).length c) (ks.set i (.im true [] (dTmc k'))) u qs, o, n, x, ad, c, ks.set i (.im true [] (dTmc k')), u, qs, ?_, ?_, rfl, h1, h2, by simpa using h3, h4⟩
  · simp only [er, List.length_set, An.mk.injEq, true_and, and_true]
    rw [zh8, List.map_set, ← zh8]
    simp only [er, skK] at hs ⊢
    apply List.ext_getElem?
    intro m
    by_cases e : i = m
    · subst e
      rw [List.getElem?_set_self (List.getElem?_eq_some_iff.1 hs).1, hs]
    · rw [List.getElem?_set_ne e]
  · simp only [vA, zcs, dTmc]
    congr 4
    · rw [zgf, List.map_set, ← zgf, e1, ze9, ze9, List.map_set]
      rfl
    · rw [e2]
set_option maxRecDepth 100000 in
theorem yc6 (b : Nat) (sk : An) (op n : Int) (x : Str) (ks : List Tm) (ps : List Ty) (kid : Int) (hk : kid ≤ 1000000) (hp : zb2 op kid = false → zci op kid = true → ∃ p, ps[(kid - 1).toNat]? = some p ∧ (za8 p).length ≤ 1000000) :
    zc5 Tryz.prog 65 [.raw (.pointer (some ⟨b, 0, none⟩)), .imm (.int .i64 kid)] [(1, some (.hp (zck b sk (.mk op n x ks ps))))] (.ret (.own 4 (zbu (zad (.mk op n x ks ps) kid)).length) [(1, some (.hp (zck b sk (.mk op n x ks ps)))), (4, some (.row 9 1 (zbu (zad (.mk op n x ks ps) kid))))]) := by
  refine zq7 (st0 := []) 1 (zck b sk (.mk op n x ks ps)) (ybs op n x ks ps kid hk hp) rfl ⟨?_, trivial⟩ (by simp [nms]) (by simp [nms]) (by simp [nmD]) fun vs I J μ w bs h hle hb xs hx => ?_
  · show zst (zbu _) = true
    generalize zad _ _ = l
    induction l with
    | nil => rfl
    | cons a r ih => exact ih
  · obtain ⟨a, _, ha, h⟩ := h
    refine ⟨hx.1, fun i v d h1 h2 => ?_⟩
    match i with
    | 0 =>
      simp at h2; subst h2
      rw [← ha]
      exact yfm h hle hb (hx.2 0 v _ h1 rfl)
    | 1 =>
      simp at h2; subst h2
      exact hx.2 1 v _ h1 rfl
    | i + 2 => simp at h2
set_option maxRecDepth 100000 in
theorem zwm (b : Nat) (sk : An) (t : Tm) (m : List Str) (o n : Int) (x xx : Str) (v : Value) (ks : List An) (u : Value) (ps : List An) (tks : List Tm) (tps : List Ty) (hsk : sk = .mk true o n xx v ks u ps) (ht : t = .mk o n x tks tps) (hp : zfc t) :
    zc5 Tryz.prog 66 [yfp o n x v u, .mapr 1] [(2, some (.hp (zck b sk t))), (1, some (.map (zem m)))] (.ret (.tup []) [(2, some (.hp (zck b sk t))), (1, some (.map (zem (zc8 t m))))]) := by
  refine zq7 (st0 := [(1, some (.map (zem m)))]) 2 (zck b sk t) (zwn t m hp) rfl ⟨?_, trivial⟩ (by simp [nms]) (by simp [nms]) (by simp [nmD, nmL]) fun vs I J μ w bs h hle hb xs hx => ?_
  · show zwx (zem _) = true
    generalize zc8 t m = l
    induction l with
    | nil => rfl
    | cons a r ih => exact ih
  · obtain ⟨a, he, ha, h⟩ := h
    rw [hsk] at he
    rcases a with ⟨s, o', n', x', v', ks', u', qs'⟩ | ⟨s0, cs0, c0⟩
    case im => simp [er] at he
    simp only [er, An.mk.injEq] at he
    obtain ⟨rfl, rfl, rfl, _, rfl, _, rfl, _⟩ := he
    subst ht
    have hx' : x' = x := by simp only [vA, dTmc, List.cons.injEq, V.str.injEq] at ha; exact ha.2.2.1
    subst hx'
    refine ⟨hx.1, fun i y d h1 h2 => ?_⟩
    match i with
    | 0 =>
      simp at h2; subst h2
      rw [← ha]
      exact ycp h hle hb (hx.2 0 y _ h1 rfl)
    | 1 =>
      simp at h2; subst h2
      exact hx.2 1 y _ h1 rfl
    | i + 2 => simp at h2
theorem yfo {b : Nat} {sk : An} {t : Tm} {o n : Int} {x xx : Str} {v u : Value} {js qs : List An} {ks : List Tm} {ps : List Ty} (hsk : sk = .mk true o n xx v js u qs) (ht : t = .mk o n x ks ps) {vs : List Value} {I J : Imm} {w : World} {bs : List Nat}
    (h : (zck b sk t).P vs I w bs) (hIJ : I.le J) (hJ : ∀ b ∈ bs, J b = w.heap[b]?) (cs : List Value) (hc : RepL J noMu cs [.imm (.int .i64 o), .imm (.int .i64 n), .imm (.str x), .raw v, .raw u]) : RepVL J cs (dTmc t) := by
  obtain ⟨a, he, ha, h⟩ := h
  rw [hsk] at he
  rcases a with ⟨s, o', n', x', v', ks', u', qs'⟩ | ⟨s0, cs0, c0⟩
  case im => simp [er] at he
  simp only [er, An.mk.injEq] at he
  obtain ⟨rfl, rfl, rfl, _, rfl, _, rfl, _⟩ := he
  subst ht
  have hx' : x' = x := by simp only [vA, dTmc, List.cons.injEq, V.str.injEq] at ha; exact ha.2.2.1
  subst hx'
  have hf := zt2 hIJ h.2.2.2.2.2 (fun k hk => hJ k (by rw [h.1]; simp [hk]))
  have hcs : cs = cA (.mk true o' n' x' v' ks' u' qs') := by
    match cs, hc.1 with
    | [c0, c1, c2, c3, c4], _ =>
      have e0 := (hc.2 0 c0 _ rfl rfl).immInv.intInv
      have e1 := (hc.2 1 c1 _ rfl rfl).immInv.intInv
      have e2 := zpi (hc.2 2 c2 _ rfl rfl)
      have e3 := (hc.2 3 c3 _ rfl rfl).rawInv
      have e4 := (hc.2 4 c4 _ rfl rfl).rawInv
      rw [e0, e1, e2, e3, e4]; rfl
  rw [hcs, ← ha]; exact hf
end Go.Hk

/- Contracts of slices: Index and Contains of strings. -/
namespace Go.Hk
open Go.Proofs
def yet (s : Str) : Nat → List Str → Int
  | _, [] => -1
  | i, x :: r => if s == x then (i : Int) else yet s (i + 1) r
theorem ybv (s : Str) : ∀ (l : List Str) (i : Nat), decide (0 ≤ yet s i l) = zbp l s
  | [], i => by simp [yet, zbp]
  | x :: r, i => by
    have ih := ybv s r (i + 1)
    by_cases e : s = x
    · have e2 : yet s i (x :: r) = i := by simp [yet, e]
      rw [e2]; subst e; simp [zbp]
    · have e2 : yet s i (x :: r) = yet s (i + 1) r := by simp [yet, e]
      rw [e2, ih]
      have e3 : ¬ x = s := fun h => e h.symm
      simp [zbp, e3]
set_option maxRecDepth 100000 in
theorem yfi (l : List Str) (s : Str) : zax Tryz.prog 100 [.sl (zbu l), .str s] (.int .i64 (yet s 0 l)) := by
  refine zde fun hv => ?_
  simp [zks, vOk, maxLen] at hv
  refine zaf zbl Tryz.func100 (by decide +kernel) rfl [1] rfl rfl ?_
  refine fg_ [] rfl (by simp) ?_
  refine zak (fun i : Nat => [(8, .imm (.int .i64 i)), (7, .imm (.int .i64 l.length)), (0, .imm (.sl (zbu l))), (1, .imm (.str s))]) (fun _ => []) [1] (fun i => l.length - i) (fun i => i ≤ l.length ∧ yet s 0 l = yet s i (l.drop i)) 0
    ⟨Nat.zero_le _, rfl⟩ ⟨rfl, zcr (by simp), rfl, rfl, trivial⟩ trivial rfl fun i hi ih => ?_
  obtain ⟨hi1, hi2⟩ := hi
  refine fd_ [] rfl (by simp) ?_
  refine zab rfl (fun h => ?_) (fun h => ?_)
  · simp at h
    obtain ⟨x, hx⟩ := zal h
    rw [zaq hx] at hi2
    simp only [yet] at hi2
    refine fd_ [] rfl (by simp) ?_
    refine fi_ rfl (c := [.str x]) (fun _ => ⟨by simp, by simpa using zdh hx, rfl⟩) (by simp [zai]) ?_
    refine fg_ [] rfl (by simp [zai]) ?_
    refine zab rfl (fun h2 => ?_) (fun h2 => ?_)
    · have e : (s == x) = true := by simpa using h2
      rw [e] at hi2
      refine fd_ [] rfl (by simp) ?_
      refine zaa ⟨_, rfl, tV ?_, trivial⟩
      rw [hi2]; rfl
    · have e : (s == x) = false := by simpa using h2
      rw [e] at hi2
      refine fd_ [] rfl (by simp) ?_
      exact zae (ih (i + 1) (by omega) ⟨by omega, by rw [hi2]; rfl⟩) ⟨zcr (w64 (by omega) (by omega)), rfl, rfl, rfl, trivial⟩ trivial rfl
  · simp at h
    rw [List.drop_eq_nil_of_le (by omega)] at hi2
    refine za2 rfl ?_
    refine fd_ [] rfl (by simp) ?_
    refine zaa ⟨_, rfl, tV ?_, trivial⟩
    rw [hi2]; rfl
set_option maxRecDepth 100000 in
theorem zw0 (l : List Str) (s : Str) : zax Tryz.prog 69 [.sl (zbu l), .str s] (.bool (zbp l s)) := by
  refine zaf zbl Tryz.func69 (by decide +kernel) rfl [1] rfl rfl ?_
  refine fg_ [] rfl (by simp) ?_
  refine zac rfl (fun _ => yfi l s) (by simp) ?_
  refine fg_ [] rfl (by simp) ?_
  refine zaa ⟨_, rfl, tV (congrArg _ ?_), trivial⟩
  exact ybv s l 0
end Go.Hk

/- Contracts of term: a free name becomes another one (rename). -/
namespace Go.Hk
open Go.Proofs
def ya6 (op : Int) (x a b : Str) : Str := if op == 4 && x == a then b else x
mutual
def zh6 : Tm → Str → Str → Tm
  | .mk op n x ks ps, a, b => .mk op n (ya6 op x a b) (zek (.mk op n (ya6 op x a b) [] ps) 0 ks a b) ps
def zek (t : Tm) : Nat → List Tm → Str → Str → List Tm
  | _, [], _, _ => []
  | i, k :: r, a, b => (if zbp (zad t i) a then k else zh6 k a b) :: zek t (i + 1) r a b
end
set_option maxRecDepth 100000 in
theorem zvy (e : List V) (r : List (List V)) (hs : ∀ c ∈ e :: r, c.length = 5) (hlen : (e :: r).length ≤ 1000000) :
    zc5 Tryz.prog 89 [.imm (.sl (e :: r))] [] (.ret (.own 2 (e :: r).length) [(2, some (.row 26 5 (e :: r)))]) := by
  refine zaf zbl Tryz.func89 (by decide +kernel) rfl [2, 1] rfl rfl ?_
  refine fg_ [] rfl (by simp) ?_
  refine zg4 zbl rfl fun b hb => ?_
  have hb : b = false := hb (by simp)
  subst hb
  refine fd_ [.a] rfl (by simp) ?_
  refine zez zbl rfl ⟨hs, by simp only [maxLen, List.length_nil] at *; omega, by simp only [List.length_nil] at *; omega, fun c hc => by simp at hc, by simp⟩ ?_
  refine fg_ [] rfl (by simp) ?_
  exact zaa ⟨_, rfl, rfl, rfl, trivial⟩
set_option maxRecDepth 100000 in
theorem zvz : zax Tryz.prog 89 [.sl []] (.sl []) := by
  refine zaf zbl Tryz.func89 (by decide +kernel) rfl [1] rfl rfl ?_
  refine fg_ [] rfl (by simp) ?_
  refine zg4 zbl rfl fun b hb => ?_
  cases b with
  | true =>
    refine fd_ [.a] rfl (by simp) ?_
    exact zaa ⟨_, rfl, tV rfl, trivial⟩
  | false =>
    refine fd_ [.a] rfl (by simp) ?_
    refine zqp zbl rfl ?_
    refine fg_ [] rfl (by simp) ?_
    exact zaa ⟨_, rfl, tV rfl, trivial⟩
set_option maxRecDepth 100000 in
theorem zlr (l : List Str) (s : Str) (len : Nat) : zc5 Tryz.prog 69 [.own 1 len, .imm (.str s)] [(1, some (.row 9 1 (zbu l)))] (.ret (.imm (.bool (zbp l s))) [(1, some (.row 9 1 (zbu l)))]) := by
  refine zq6 (stL := [(1, some (.row 9 1 (zbu l)))]) (st0 := []) (st1 := []) (zw0 l s) rfl trivial (by simp [nms, nmD]) (fun i b h j hj => ?_) fun I J μ w hst hle hb xs hx => ?_
  · rcases zah.1 h with ⟨_, rfl⟩ | ⟨_, h⟩
    · simp [nmB] at hj
    · simp [zap, lk] at h
  · refine ⟨hx.1, fun i v d h1 h2 => ?_⟩
    match i with
    | 0 =>
      simp at h2; subst h2
      have h3 := hx.2 0 v _ h1 rfl
      cases h3 with
      | own _ _ a cap hm =>
        have hl : zap [(1, some (.row 9 1 (zbu l)))] 1 (.row 9 1 (zbu l)) := zah.2 (.inl ⟨rfl, rfl⟩)
        obtain ⟨g, q1, q2⟩ := hst.blk 1 _ hl
        rw [hm] at q1; cases q1
        exact .imm _ _ (zu1 q2 hle fun b ho => hb 1 _ _ b hl hm ho)
    | 1 =>
      simp at h2; subst h2
      exact hx.2 1 v _ h1 rfl
    | i + 2 => simp at h2
def yc7 (op n : Int) (x : Str) (ks : List Tm) (ps : List Ty) (len : Nat) : St := [(1, some (.cells 26 5 [.imm (.int .i64 op), .imm (.int .i64 n), .imm (.str x), .own 2 len, .imm (.sl (zcf ps))])), (2, some (.row 26 5 (zdg ks)))]
set_option maxRecDepth 100000 in
theorem ygt (op n : Int) (x : Str) (ks : List Tm) (ps : List Ty) (len : Nat) (kid : Int) (hk : kid ≤ 1000000) (hp : zb2 op kid = false → zci op kid = true → ∃ p, ps[(kid - 1).toNat]? = some p ∧ (za8 p).length ≤ 1000000) :
    zc5 Tryz.prog 65 [.ref 1 0, .imm (.int .i64 kid)] (yc7 op n x ks ps len) (.ret (.own 4 (zbu (zad (.mk op n x ks ps) kid)).length) (yc7 op n x ks ps len ++ [(4, some (.row 9 1 (zbu (zad (.mk op n x ks ps) kid))))])) := by
  refine zq6 (stL := yc7 op n x ks ps len) (st0 := []) (ybs op n x ks ps kid hk hp) rfl ⟨?_, trivial⟩ (by simp [yc7, nms, nmD]) (fun i b h j hj => ?_) fun I J μ w hst hle hb xs hx => ?_
  · show zst (zbu _) = true
    generalize zad _ _ = l
    induction l with
    | nil => rfl
    | cons a r ih => exact ih
  · rcases zah.1 h with ⟨_, rfl⟩ | ⟨_, h⟩
    · simp [nmB, nmL, nmD] at hj
      simp [yc7, nms, hj]
    · rcases zah.1 h with ⟨_, rfl⟩ | ⟨_, h⟩
      · simp [nmB] at hj
      · simp [zap, lk] at h
  · refine ⟨hx.1, fun i v d h1 h2 => ?_⟩
    match i with
    | 0 =>
      simp at h2; subst h2
      have h3 := hx.2 0 v _ h1 rfl
      exact yjz (k := 1) (r := 2) (e := 26) (sz := 5) (sz2 := 5) (es := zdg ks) hst rfl rfl hle hb (by rfl) h3
    | 1 =>
      simp at h2; subst h2
      exact hx.2 1 v _ h1 rfl
    | i + 2 => simp at h2
end Go.Hk

/- Contracts of term: a free name becomes another one (rename). -/
namespace Go.Hk
open Go.Proofs
set_option maxRecDepth 100000 in
theorem zsc (es : List (List V)) (hne : es ≠ []) (hs : ∀ c ∈ es, c.length = 5) (hlen : es.length ≤ 1000000) :
    zc5 Tryz.prog 89 [.imm (.sl es)] [] (.ret (.own 2 es.length) [(2, some (.row 26 5 es))]) := by
  cases es with
  | nil => exact absurd rfl hne
  | cons e r => exact zvy e r hs hlen
def outB : St := [(6, some (.cells 26 5 [.imm (.int .i64 0), .imm (.int .i64 0), .imm (.str []), .nils, .nils]))]
set_option maxRecDepth 100000 in
theorem zw5 : ∀ (t : Tm) (a b : Str), zfc t → zax Tryz.prog 68 [.agg (dTmc t), .str a, .str b] (.agg (dTmc (zh6 t a b)))
  | .mk op n x ks ps, a, b, hok => by
    obtain ⟨hk1, hk2, hk3⟩ := hok
    refine zaf zca Tryz.func68 (by decide +kernel) rfl [3, 6, 9, 10, 11, 12] rfl rfl ?_
    have tail : ∀ x1, ya6 op x a b = x1 →
        DGo Tryz.prog Tryz.f68.ntmps (nms []) (yex ttP2 Tryz.f68.results.toList (.ret (.imm (.agg (dTmc (zh6 (.mk op n x ks ps) a b)))) [])) [.code (zh9 Tryz.f68 2)]
          [(3, .ref 3 0), (6, .ref 6 0), (1, .imm (.str a)), (2, .imm (.str b))] ((3, some (.immb 26 5 (dTmc (.mk op n x1 ks ps)))) :: outB) [9, 10, 11, 12] := fun x1 hx1 => by
      by_cases e0 : ks = []
      · subst e0
        refine qd [] rfl (by simp) ?_
        refine zac rfl (fun _ => zvz) (by simp) ?_
        refine qg [] rfl (by simp) ?_
        refine zak (fun y : Nat => [(27, .imm (.int .i64 0)), (26, .imm (.int .i64 0)), (3, .ref 3 0), (6, .ref 6 0)]) (fun _ => (3, some (.immb 26 5 (dTmc (.mk op n x1 [] ps)))) :: outB) [9, 10, 11, 12] (fun y => y) (fun y => y = 0) 0
          rfl ⟨rfl, rfl, rfl, rfl, trivial⟩ ⟨rfl, rfl, trivial⟩ rfl fun y hi ih => ?_
        refine qd [] rfl (by simp) ?_
        refine zab rfl (fun h => by simp at h) (fun h => ?_)
        refine za2 rfl ?_
        refine qd [] rfl (by simp) ?_
        refine zaa ⟨_, rfl, tV ?_, trivial⟩
        simp [zh6, zek, hx1, dTmc, zdg]
      · have hne : zdg ks ≠ [] := fun he => e0 (List.eq_nil_of_length_eq_zero (by have := congrArg List.length he; simpa using this))
        have hfive : ∀ c ∈ zdg ks, c.length = 5 := fun c hc => by
          rw [ze9] at hc; obtain ⟨q, _, rfl⟩ := List.mem_map.1 hc; simp
        refine qd [] rfl (by simp) ?_
        refine zar (st0 := []) (fr := [9]) [] [(2, 9)] rfl (by simp) (zsc (zdg ks) hne hfive (by simp; omega)) trivial rfl rfl rfl rfl ?_
        refine qg [] rfl (by simp) ?_
        refine zak (fun y : Nat × List Tm => [(27, .imm (.int .i64 y.1)), (26, .imm (.int .i64 ks.length)), (25, .own 9 (zdg ks).length), (3, .ref 3 0), (6, .ref 6 0), (1, .imm (.str a)), (2, .imm (.str b))])
          (fun y => (3, some (.cells 26 5 [.imm (.int .i64 op), .imm (.int .i64 n), .imm (.str x1), .own 9 (zdg ks).length, .imm (.sl (zcf ps))])) :: (9, some (.row 26 5 (zdg (y.2 ++ ks.drop y.1)))) :: outB) [10, 11, 12] (fun y => ks.length - y.1)
          (fun y => y.1 ≤ ks.length ∧ y.2.length = y.1 ∧ zek (.mk op n x1 [] ps) 0 ks a b = y.2 ++ zek (.mk op n x1 [] ps) y.1 (ks.drop y.1) a b) (0, [])
          ⟨Nat.zero_le _, rfl, rfl⟩ ⟨rfl, zcr (by simp), rfl, rfl, rfl, rfl, rfl, trivial⟩ ⟨rfl, rfl, rfl, trivial⟩ rfl fun y hi ih => ?_
        obtain ⟨i, dn⟩ := y
        obtain ⟨hi1, hi2, hi3⟩ := hi
        simp only at hi1 hi2 hi3
        refine qd [] rfl (by simp) ?_
        refine zab rfl (fun h => ?_) (fun h => ?_)
        · simp at h
          obtain ⟨k, hk⟩ := zal h
          have hlen : (dn ++ ks.drop i).length = ks.length := by simp [hi2]; omega
          have hget : (dn ++ ks.drop i)[i]? = some k := by rw [List.getElem?_append_right (by omega), hi2]; simpa using hk
          refine qd [] rfl (by simp) ?_
          refine zjz zca rfl (fun _ => ⟨by simp, by simp [hi2]; omega⟩) (by simp) ?_
          refine qg [] rfl (by simp) ?_
          refine zzr zca (e := dTmc k) rfl (fun _ => by simpa using zch hget) rfl (by simp) ?_
          refine qg [] rfl (by simp) ?_
          refine zar (st0 := yc7 op n x1 (dn ++ ks.drop i) ps (zdg ks).length) (fr := [11]) [(3, 1), (9, 2)] [(4, 11)] rfl (by simp) (ygt op n x1 (dn ++ ks.drop i) ps (zdg ks).length i (by omega) (hk2 i h)) ⟨⟨rfl, rfl, rfl⟩, ⟨rfl, rfl, rfl⟩, trivial⟩ rfl rfl rfl rfl ?_
          refine qg [] rfl (by simp) ?_
          refine zar (st0 := [(1, some (.row 9 1 (zbu (zad (.mk op n x1 (dn ++ ks.drop i) ps) i))))]) (fr := []) [(11, 1)] [] rfl (by simp) (zlr (zad (.mk op n x1 (dn ++ ks.drop i) ps) i) a _) ⟨⟨rfl, rfl, rfl⟩, trivial⟩ rfl rfl rfl rfl ?_
          refine qg [] rfl (by simp) ?_
          have hb : zad (.mk op n x1 (dn ++ ks.drop i) ps) i = zad (.mk op n x1 [] ps) i := rfl
          refine zab rfl (fun h2 => ?_) (fun h2 => ?_)
          · have h2 : zbp (zad (.mk op n x1 [] ps) i) a = false := by simpa [hb] using h2
            refine qd [] rfl (by simp) ?_
            refine zac rfl (fun _ => zw5 k a b (zf4 hk3 (List.mem_of_getElem? hk))) (by simp) ?_
            refine qg [] rfl (by simp) ?_
            refine zjz zca rfl (fun _ => ⟨by simp, by simp [hi2]; omega⟩) (by simp) ?_
            refine qg [] rfl (by simp) ?_
            refine yka zca (e := dTmc k) (e' := dTmc (zh6 k a b)) rfl (by simpa using zch hget) (by show 0 + 5 ≤ 5; decide) (by simp [List.drop_eq_nil_of_le]) (by simp) ?_
            refine qg [] rfl (by refine ⟨rfl, ?_⟩; simp [zbw]) ?_
            have hg := zaq hk
            rw [hg] at hi3
            have e3 : (zdg (dn ++ ks.drop i)).set i (dTmc (zh6 k a b)) = zdg ((dn ++ [zh6 k a b]) ++ ks.drop (i + 1)) := by
              rw [← yb5, hg]; simp [List.set_append, hi2]
            refine zae (ih (i + 1, dn ++ [zh6 k a b]) (by simp only; omega) ⟨by simp only; omega, by simp [hi2], by simp only [zek, h2] at hi3; simpa using hi3⟩) ⟨zcr (w64 (by simp only; omega) (by simp only; omega)), rfl, rfl, rfl, rfl, rfl, rfl, trivial⟩ ⟨rfl, ?_, rfl, trivial⟩ rfl
            simp only [← e3]
            rfl
          · have h2 : zbp (zad (.mk op n x1 [] ps) i) a = true := by simpa [hb] using h2
            refine ze0 ?_
            refine qd [] rfl (by simp) ?_
            have hg := zaq hk
            rw [hg] at hi3
            have e3 : dn ++ ks.drop i = (dn ++ [k]) ++ ks.drop (i + 1) := by rw [hg]; simp
            refine zae (ih (i + 1, dn ++ [k]) (by simp only; omega) ⟨by simp only; omega, by simp [hi2], by simp only [zek, h2, if_true] at hi3; simpa using hi3⟩) ⟨zcr (w64 (by simp only; omega) (by simp only; omega)), rfl, rfl, rfl, rfl, rfl, rfl, trivial⟩ ⟨rfl, ?_, rfl, trivial⟩ rfl
            simp only [← e3]
            rfl
        · simp at h
          have e : ks.drop i = [] := List.drop_eq_nil_of_le (by omega)
          rw [e] at hi3
          have hi3 : zek (.mk op n x1 [] ps) 0 ks a b = dn := by simpa [zek] using hi3
          simp only [e, List.append_nil]
          refine za2 rfl ?_
          refine znh 9 rfl ?_
          refine qd [] rfl (by simp) ?_
          refine zaa ⟨_, rfl, tV ?_, trivial⟩
          simp [zh6, hx1, hi3, dTmc]
    refine qg [] rfl (by simp) ?_
    refine zab rfl (fun h => ?_) (fun h => ?_)
    · refine zrf zca mixed 5 [] rfl (by simp) ?_
      refine zae (tail b ?_) ⟨rfl, rfl, rfl, rfl, trivial⟩ ⟨rfl, rfl, trivial⟩ rfl
      cases e1 : (op == 4) <;> cases e2 : (x == a) <;> simp [e1, e2] at h
      simp [ya6, e1, e2]
    · refine ze0 ?_
      refine zae (tail x ?_) ⟨rfl, rfl, rfl, rfl, trivial⟩ ⟨rfl, rfl, trivial⟩ rfl
      cases e1 : (op == 4) <;> cases e2 : (x == a) <;> simp [e1, e2] at h <;> simp [ya6, e1, e2]
termination_by t => SizeOf.sizeOf t
decreasing_by
  all_goals
    have := List.sizeOf_lt_of_mem (List.mem_of_getElem? hk)
    simp_wf
    omega
end Go.Hk

/- Contracts of term: patterns, terms that are equal (samePat, same; slices.EqualFunc). -/
namespace Go.Hk
open Go.Proofs
set_option maxRecDepth 100000 in
theorem zom (ps qs : List Ty) (hlen : ps.length ≤ 1000000) (h : ∀ p ∈ ps, ∀ q, zax Tryz.prog 79 [.agg (zb5 p), .agg (zb5 q)] (.bool (zys p q))) :
    zax Tryz.prog 78 [.sl (zcf ps), .sl (zcf qs), .fn (.func 79)] (.bool (ze4 ps qs)) := by
  refine zaf zca Tryz.func78 (by decide +kernel) rfl [1, 2, 3] rfl rfl ?_
  refine qg [] rfl (by simp) ?_
  refine zab rfl (fun hl => ?_) (fun hl => ?_)
  · have hl : ps.length ≠ qs.length := by simp at hl; omega
    refine qd [] rfl (by simp) ?_
    refine zaa ⟨_, rfl, tV (congrArg _ ?_), trivial⟩
    rw [zq3 hl]
  have hl : ps.length = qs.length := by simp at hl; omega
  refine qd [] rfl (by simp) ?_
  refine zak (fun i : Nat => [(17, .imm (.int .i64 i)), (16, .imm (.int .i64 ps.length)), (15, .imm (.sl (zcf ps))), (1, .imm (.sl (zcf qs))), (2, .imm (.fn (.func 79)))]) (fun _ => []) [1, 2, 3] (fun i => ps.length - i) (fun i => i ≤ ps.length ∧ ze4 ps qs = ze4 (ps.drop i) (qs.drop i)) 0
    ⟨Nat.zero_le _, rfl⟩ ⟨rfl, zcr (by simp), rfl, rfl, rfl, trivial⟩ trivial rfl fun i hi ih => ?_
  obtain ⟨hi1, hi2⟩ := hi
  refine qd [] rfl (by simp) ?_
  refine zab rfl (fun h1 => ?_) (fun h1 => ?_)
  · simp at h1
    obtain ⟨p, hp⟩ := zal h1
    obtain ⟨q, hq⟩ := zal (l := qs) (i := i) (by omega)
    rw [zaq hp, zaq hq] at hi2
    simp only [ze4] at hi2
    refine qd [] rfl (by simp) ?_
    refine qi_ rfl (c := zb5 p) (fun _ => ⟨by simp, by simpa using zb8 hp, by simp⟩) (by simp) ?_
    refine qg [] rfl (by simp) ?_
    refine qi_ rfl (c := zb5 q) (fun _ => ⟨by simp, by simpa using zb8 hq, by simp⟩) (by simp) ?_
    refine qg [] rfl (by simp) ?_
    refine zac rfl (fun _ => h p (List.mem_of_getElem? hp) q) (by simp) ?_
    refine qg [] rfl (by simp) ?_
    refine zab rfl (fun h2 => ?_) (fun h2 => ?_)
    · have e : zys p q = false := by simpa using h2
      refine qd [] rfl (by simp) ?_
      refine zaa ⟨_, rfl, tV (congrArg _ ?_), trivial⟩
      rw [hi2, e]; rfl
    · have e : zys p q = true := by simpa using h2
      rw [e, Bool.true_and] at hi2
      refine ze0 ?_
      refine qd [] rfl (by simp) ?_
      exact zae (ih (i + 1) (by omega) ⟨by omega, hi2⟩) ⟨zcr (w64 (by omega) (by omega)), rfl, rfl, rfl, rfl, trivial⟩ trivial rfl
  · simp at h1
    rw [List.drop_eq_nil_of_le (by omega), List.drop_eq_nil_of_le (by omega)] at hi2
    refine za2 rfl ?_
    refine qd [] rfl (by simp) ?_
    refine zaa ⟨_, rfl, tV (congrArg _ ?_), trivial⟩
    rw [hi2]; rfl
set_option maxRecDepth 100000 in
theorem zsu : ∀ a b : Ty, zr4 a → zax Tryz.prog 79 [.agg (zb5 a), .agg (zb5 b)] (.bool (zys a b))
  | .mk s n x ps, .mk s' n' x' qs, hw => by
    obtain ⟨hw1, hw2⟩ := hw
    refine zaf zca Tryz.func79 (by decide +kernel) rfl [1, 2, 3] rfl rfl ?_
    refine qg [] rfl (by simp) ?_
    refine zac rfl (fun _ => zom ps qs hw1 fun p hp q => zsu p q (zjm hw2 hp)) (by simp [zai]) ?_
    refine qg [] rfl (by simp) ?_
    refine zaa ⟨_, rfl, tV (congrArg _ ?_), trivial⟩
    simp only [zys]
    cases s == s' <;> cases n == n' <;> cases x == x' <;> cases ze4 ps qs <;> rfl
termination_by a => SizeOf.sizeOf a
decreasing_by
  all_goals
    have := List.sizeOf_lt_of_mem hp
    simp_wf
    omega
set_option maxRecDepth 100000 in
theorem zvw (ps qs : List Tm) (hlen : ps.length ≤ 1000000) (h : ∀ p ∈ ps, ∀ q, zax Tryz.prog 48 [.agg (dTmc p), .agg (dTmc q)] (.bool (zv2 p q))) :
    zax Tryz.prog 80 [.sl (zdg ps), .sl (zdg qs), .fn (.func 48)] (.bool (zhs ps qs)) := by
  refine zaf zca Tryz.func80 (by decide +kernel) rfl [1, 2, 3] rfl rfl ?_
  refine qg [] rfl (by simp) ?_
  refine zab rfl (fun hl => ?_) (fun hl => ?_)
  · have hl : ps.length ≠ qs.length := by simp at hl; omega
    refine qd [] rfl (by simp) ?_
    refine zaa ⟨_, rfl, tV (congrArg _ ?_), trivial⟩
    rw [zx5 hl]
  have hl : ps.length = qs.length := by simp at hl; omega
  refine qd [] rfl (by simp) ?_
  refine zak (fun i : Nat => [(17, .imm (.int .i64 i)), (16, .imm (.int .i64 ps.length)), (15, .imm (.sl (zdg ps))), (1, .imm (.sl (zdg qs))), (2, .imm (.fn (.func 48)))]) (fun _ => []) [1, 2, 3] (fun i => ps.length - i) (fun i => i ≤ ps.length ∧ zhs ps qs = zhs (ps.drop i) (qs.drop i)) 0
    ⟨Nat.zero_le _, rfl⟩ ⟨rfl, zcr (by simp), rfl, rfl, rfl, trivial⟩ trivial rfl fun i hi ih => ?_
  obtain ⟨hi1, hi2⟩ := hi
  refine qd [] rfl (by simp) ?_
  refine zab rfl (fun h1 => ?_) (fun h1 => ?_)
  · simp at h1
    obtain ⟨p, hp⟩ := zal h1
    obtain ⟨q, hq⟩ := zal (l := qs) (i := i) (by omega)
    rw [zaq hp, zaq hq] at hi2
    simp only [zhs] at hi2
    refine qd [] rfl (by simp) ?_
    refine qi_ rfl (c := dTmc p) (fun _ => ⟨by simp, by simpa using zch hp, by simp⟩) (by simp) ?_
    refine qg [] rfl (by simp) ?_
    refine qi_ rfl (c := dTmc q) (fun _ => ⟨by simp, by simpa using zch hq, by simp⟩) (by simp) ?_
    refine qg [] rfl (by simp) ?_
    refine zac rfl (fun _ => h p (List.mem_of_getElem? hp) q) (by simp) ?_
    refine qg [] rfl (by simp) ?_
    refine zab rfl (fun h2 => ?_) (fun h2 => ?_)
    · have e : zv2 p q = false := by simpa using h2
      refine qd [] rfl (by simp) ?_
      refine zaa ⟨_, rfl, tV (congrArg _ ?_), trivial⟩
      rw [hi2, e]; rfl
    · have e : zv2 p q = true := by simpa using h2
      rw [e, Bool.true_and] at hi2
      refine ze0 ?_
      refine qd [] rfl (by simp) ?_
      exact zae (ih (i + 1) (by omega) ⟨by omega, hi2⟩) ⟨zcr (w64 (by omega) (by omega)), rfl, rfl, rfl, rfl, trivial⟩ trivial rfl
  · simp at h1
    rw [List.drop_eq_nil_of_le (by omega), List.drop_eq_nil_of_le (by omega)] at hi2
    refine za2 rfl ?_
    refine qd [] rfl (by simp) ?_
    refine zaa ⟨_, rfl, tV (congrArg _ ?_), trivial⟩
    rw [hi2]; rfl
set_option maxRecDepth 100000 in
theorem yfg : ∀ a b : Tm, zj8 a → zax Tryz.prog 48 [.agg (dTmc a), .agg (dTmc b)] (.bool (zv2 a b))
  | .mk s n x ks ps, .mk s' n' x' js qs, hw => by
    obtain ⟨hw1, hw2, hw3, hw4⟩ := hw
    refine zaf zca Tryz.func48 (by decide +kernel) rfl [1, 2, 3] rfl rfl ?_
    refine qg [] rfl (by simp) ?_
    refine zac rfl (fun _ => zom ps qs hw2 fun p hp q => zsu p q (hw3 p hp)) (by simp [zai]) ?_
    refine qg [] rfl (by simp) ?_
    refine zac rfl (fun _ => zvw ks js hw1 fun p hp q => yfg p q (zfr hw4 hp)) (by simp [zai]) ?_
    refine qg [] rfl (by simp) ?_
    refine zaa ⟨_, rfl, tV (congrArg _ ?_), trivial⟩
    simp only [zv2]
    cases s == s' <;> cases n == n' <;> cases x == x' <;> cases ze4 ps qs <;> cases zhs ks js <;> rfl
termination_by a => SizeOf.sizeOf a
decreasing_by
  all_goals
    have := List.sizeOf_lt_of_mem hp
    simp_wf
    omega
end Go.Hk

/- How many names stand in a term; what 'stands' adds: these and no others. -/
namespace Go.Hk
open Go.Proofs
mutual
def ymk : Tm → Nat
  | .mk op n x ks ps => (if op = 4 then 1 else 0) + zr7 (.mk op n x ks ps) 0 ks
def zr7 (t : Tm) : Nat → List Tm → Nat
  | _, [] => 0
  | i, k :: r => (zad t i).length + ymk k + zr7 t (i + 1) r
end
theorem zvu (m : List Str) (s : Str) : (zlj m s).length ≤ m.length + 1 := by
  unfold zlj; split <;> simp
theorem zkl : ∀ (l m : List Str), (l.foldl zlj m).length ≤ m.length + l.length
  | [], m => by simp
  | x :: r, m => by
    have h1 := zkl r (zlj m x)
    have h2 := zvu m x
    simp only [List.foldl_cons, List.length_cons]; omega
mutual
theorem zpk : ∀ (t : Tm) (m : List Str), (zc8 t m).length ≤ m.length + ymk t
  | .mk op n x ks ps, m => by
    simp only [zc8, ymk]
    have h1 := znv (.mk op n x ks ps) 0 ks (if op = 4 then zlj m x else m)
    have h2 := zvu m x
    split at h1 <;> split <;> omega
theorem znv (t : Tm) : ∀ (i : Nat) (ks : List Tm) (m : List Str), (zed t i ks m).length ≤ m.length + zr7 t i ks
  | _, [], m => by simp [zed, zr7]
  | i, k :: r, m => by
    simp only [zed, zr7]
    have h1 := znv t (i + 1) r (zc8 k ((zad t i).foldl zlj m))
    have h2 := zpk k ((zad t i).foldl zlj m)
    have h3 := zkl (zad t i) m
    omega
end
theorem zuv {m : List Str} {s y : Str} : y ∈ zlj m s ↔ y ∈ m ∨ y = s := by
  unfold zlj
  split
  · rename_i h
    have : s ∈ m := by
      have : ∀ {l : List Str}, zbp l s = true → s ∈ l := by
        intro l
        induction l with
        | nil => intro h; simp [zbp] at h
        | cons a r ih =>
          intro h
          simp only [zbp, Bool.or_eq_true, beq_iff_eq] at h
          rcases h with h | h
          · simp [h]
          · exact List.mem_cons_of_mem _ (ih h)
      exact this h
    constructor
    · exact .inl
    · rintro (h | rfl)
      · exact h
      · exact this
  · simp
theorem zki {y : Str} : ∀ {l m : List Str}, y ∈ l.foldl zlj m ↔ y ∈ m ∨ y ∈ l
  | [], m => by simp
  | x :: r, m => by
    simp only [List.foldl_cons, zki (l := r), zuv, List.mem_cons, or_assoc]
mutual
def zbm : Tm → List Str
  | .mk op n x ks ps => (if op = 4 then [x] else []) ++ zcm (.mk op n x ks ps) 0 ks
def zcm (t : Tm) : Nat → List Tm → List Str
  | _, [] => []
  | i, k :: r => zad t i ++ zbm k ++ zcm t (i + 1) r
end
mutual
theorem zqa {y : Str} : ∀ (t : Tm) (m : List Str), y ∈ zc8 t m ↔ y ∈ m ∨ y ∈ zbm t
  | .mk op n x ks ps, m => by
    simp only [zc8, zbm]
    rw [zn7 (.mk op n x ks ps) 0 ks]
    by_cases h : op = 4
    · simp only [h, if_true, zuv, List.singleton_append, List.mem_cons, or_assoc]
    · simp only [h, if_false, List.nil_append]
theorem zn7 {y : Str} (t : Tm) : ∀ (i : Nat) (ks : List Tm) (m : List Str), y ∈ zed t i ks m ↔ y ∈ m ∨ y ∈ zcm t i ks
  | _, [], m => by simp [zed, zcm]
  | i, k :: r, m => by
    simp only [zed, zcm]
    rw [zn7 t (i + 1) r, zqa k, zki]
    simp only [List.mem_append, or_assoc]
end
end Go.Hk

/- A term in which a name is another one: as many nodes, as wide. -/
namespace Go.Hk
open Go.Proofs
theorem zd6 (T : Tm) (a b : Str) : ∀ (i : Nat) (ks : List Tm), (zek T i ks a b).length = ks.length
  | _, [] => by simp [zek]
  | i, k :: r => by simp [zek, zd6 T a b (i + 1) r]
mutual
theorem zo5 (a b : Str) : ∀ t : Tm, zcx (zh6 t a b) = zcx t
  | .mk op n x ks ps => by
    simp only [zh6, zcx, zyd a b (.mk op n (ya6 op x a b) [] ps) 0 ks]
theorem zyd (a b : Str) (T : Tm) : ∀ (i : Nat) (ks : List Tm), zco (zek T i ks a b) = zco ks
  | _, [] => by simp [zek]
  | i, k :: r => by
    have h1 := zo5 a b k
    have h2 := zyd a b T (i + 1) r
    simp only [zek, zco, h2]
    split
    · rfl
    · rw [h1]
end
mutual
theorem zv3 (a b : Str) : ∀ t : Tm, zj8 t → zj8 (zh6 t a b)
  | .mk op n x ks ps, h => by
    obtain ⟨h1, h2, h3, h4⟩ := h
    simp only [zh6]
    exact ⟨by rw [zd6]; exact h1, h2, h3, zse a b _ 0 ks h4⟩
theorem zse (a b : Str) (T : Tm) : ∀ (i : Nat) (ks : List Tm), zpa ks → zpa (zek T i ks a b)
  | _, [], _ => by simp [zek, zpa]
  | i, k :: r, h => by
    simp only [zek]
    refine ⟨?_, zse a b T (i + 1) r h.2⟩
    split
    · exact h.1
    · exact zv3 a b k h.1
end
mutual
theorem zs5 (a b : Str) : ∀ t : Tm, zfc t → zfc (zh6 t a b)
  | .mk op n x ks ps, h => by
    obtain ⟨h1, h2, h3⟩ := h
    simp only [zh6]
    exact ⟨by rw [zd6]; exact h1, fun i hi => h2 i (by rw [zd6] at hi; exact hi), zp3 a b _ 0 ks h3⟩
theorem zp3 (a b : Str) (T : Tm) : ∀ (i : Nat) (ks : List Tm), zk3 ks → zk3 (zek T i ks a b)
  | _, [], _ => by simp [zek, zk3]
  | i, k :: r, h => by
    simp only [zek]
    refine ⟨?_, zp3 a b T (i + 1) r h.2⟩
    split
    · exact h.1
    · exact zs5 a b k h.1
end
end Go.Hk

/-
  DERIVED: THE SHELF's CONTRACTS AT THIS DUMP, IN PLAIN WORDS (tools/lay-plain.mjs out of 'YtlbeglekommoeaaGreatSrt0.lean', which tools/lay-shelf.mjs wrote): THE SAME DECLARATIONS UNDER THE SAME NAMES: 'import', 'namespace', 'open', 'def', 'theorem' AND NOTHING ELSE: no command of the shelf's: FOR A HAND-IN. Each laying: the table of numbers ('.._ren') and one theorem, a field a fact of the dump's own or the kernel's comparison; each contract: ONE APPLICATION.
-/
namespace Go.Proofs
open Go.Shelf
def Tryz.mSort_ren : Go.Shelf.Ren := ⟨fun | 6 => 77 | 8 => 107 | 9 => 106 | 19 => 124 | 20 => 125 | 21 => 115 | 22 => 116 | 23 => 117 | 24 => 118 | 25 => 119 | 26 => 120 | 27 => 121 | 28 => 122 | 29 => 123 | 36 => 129 | 31 => 130 | 32 => 131 | 37 => 132 | 38 => 133 | 39 => 134 | 41 => 135 | n => n, fun | 27 => 36 | 29 => 9 | 3 => 3 | 32 => 136 | 26 => 36 | 0 => 0 | 44 => 159 | 46 => 161 | 4 => 4 | 36 => 151 | 35 => 150 | 41 => 156 | 5 => 5 | 9 => 9 | 53 => 164 | 57 => 168 | 63 => 170 | 64 => 171 | n => n, fun | n => n⟩
theorem Tryz.mSort : Go.Proofs.SlLaysM.n6 Tryz.prog Tryz.mSort_ren := {
  mixed := by kernel_rfl
  f6 := ⟨Tryz.f77.name, by decide, Tryz.func77.trans (congrArg some (by kernel_rfl))⟩
  f8 := Tryz.func107.trans (congrArg some (by kernel_rfl))
  f9 := ⟨Tryz.f106.name, by decide, Tryz.func106.trans (congrArg some (by kernel_rfl))⟩
  f19 := Tryz.func124.trans (congrArg some (by kernel_rfl))
  f20 := Tryz.func125.trans (congrArg some (by kernel_rfl))
  f21 := ⟨Tryz.f115.name, by decide, Tryz.func115.trans (congrArg some (by kernel_rfl))⟩
  f22 := ⟨Tryz.f116.name, by decide, Tryz.func116.trans (congrArg some (by kernel_rfl))⟩
  f23 := ⟨Tryz.f117.name, by decide, Tryz.func117.trans (congrArg some (by kernel_rfl))⟩
  f24 := ⟨Tryz.f118.name, by decide, Tryz.func118.trans (congrArg some (by kernel_rfl))⟩
  f25 := ⟨Tryz.f119.name, by decide, Tryz.func119.trans (congrArg some (by kernel_rfl))⟩
  f26 := ⟨Tryz.f120.name, by decide, Tryz.func120.trans (congrArg some (by kernel_rfl))⟩
  f27 := ⟨Tryz.f121.name, by decide, Tryz.func121.trans (congrArg some (by kernel_rfl))⟩
  f28 := ⟨Tryz.f122.name, by decide, Tryz.func122.trans (congrArg some (by kernel_rfl))⟩
  f29 := ⟨Tryz.f123.name, by decide, Tryz.func123.trans (congrArg some (by kernel_rfl))⟩
  f31 := Tryz.func130.trans (congrArg some (by kernel_rfl))
  f32 := Tryz.func131.trans (congrArg some (by kernel_rfl))
  f36 := ⟨Tryz.f129.name, by decide, Tryz.func129.trans (congrArg some (by kernel_rfl))⟩
  f37 := ⟨Tryz.f132.name, by decide, Tryz.func132.trans (congrArg some (by kernel_rfl))⟩
  f38 := ⟨Tryz.f133.name, by decide, Tryz.func133.trans (congrArg some (by kernel_rfl))⟩
  f39 := ⟨Tryz.f134.name, by decide, Tryz.func134.trans (congrArg some (by kernel_rfl))⟩
  f41 := ⟨Tryz.f135.name, by decide, Tryz.func135.trans (congrArg some (by kernel_rfl))⟩
  t0 := Tryz.underlying0
  a0 := Tryz.isAgg0
  z0 := Tryz.sizeOf0
  v0 := Tryz.zeroValue0
  t3 := Tryz.underlying3
  a3 := Tryz.isAgg3
  z3 := Tryz.sizeOf3
  v3 := Tryz.zeroValue3
  t4 := Tryz.underlying4
  a4 := Tryz.isAgg4
  z4 := Tryz.sizeOf4
  v4 := Tryz.zeroValue4
  t5 := Tryz.underlying5
  a5 := Tryz.isAgg5
  z5 := Tryz.sizeOf5
  v5 := Tryz.zeroValue5
  t9 := Tryz.underlying9
  a9 := Tryz.isAgg9
  z9 := Tryz.sizeOf9
  v9 := Tryz.zeroValue9
  t26 := Tryz.underlying36
  a26 := Tryz.isAgg36
  z26 := Tryz.sizeOf36
  v26 := Tryz.zeroValue36
  t27 := Tryz.underlying36
  a27 := Tryz.isAgg36
  z27 := Tryz.sizeOf36
  v27 := Tryz.zeroValue36
  t29 := Tryz.underlying9
  a29 := Tryz.isAgg9
  z29 := Tryz.sizeOf9
  v29 := Tryz.zeroValue9
  t32 := Tryz.underlying136
  a32 := Tryz.isAgg136
  z32 := Tryz.sizeOf136
  v32 := Tryz.zeroValue136
  t35 := Tryz.underlying150
  a35 := Tryz.isAgg150
  z35 := Tryz.sizeOf150
  v35 := Tryz.zeroValue150
  t36 := Tryz.underlying151
  a36 := Tryz.isAgg151
  z36 := Tryz.sizeOf151
  v36 := Tryz.zeroValue151
  t41 := Tryz.underlying156
  a41 := Tryz.isAgg156
  z41 := Tryz.sizeOf156
  v41 := Tryz.zeroValue156
  t44 := Tryz.underlying159
  a44 := Tryz.isAgg159
  z44 := Tryz.sizeOf159
  v44 := Tryz.zeroValue159
  t46 := Tryz.underlying161
  a46 := Tryz.isAgg161
  z46 := Tryz.sizeOf161
  v46 := Tryz.zeroValue161
  t53 := Tryz.underlying164
  a53 := Tryz.isAgg164
  z53 := Tryz.sizeOf164
  v53 := Tryz.zeroValue164
  t57 := Tryz.underlying168
  a57 := Tryz.isAgg168
  z57 := Tryz.sizeOf168
  v57 := Tryz.zeroValue168
  t63 := Tryz.underlying170
  a63 := Tryz.isAgg170
  z63 := Tryz.sizeOf170
  v63 := Tryz.zeroValue170
  t64 := Tryz.underlying171
  a64 := Tryz.isAgg171
  z64 := Tryz.sizeOf171
  v64 := Tryz.zeroValue171 }
end Go.Proofs

/- The walk of term.sorted: the names of a set, sorted, in a new slice. -/
namespace Go.Hk
open Go.Proofs Go.RowKit Go.Maps Go.Sort
theorem zo2 : Keyed Tryz.prog 9 := string_keyed Tryz.underlying9
theorem ymu : (Tryz.prog.info? 9).map (fun i => (i.zero, i.size, i.bytes)) = some (some (.string ⟨#[]⟩), 1, 16) := by kernel_rfl
theorem yl9 (m : Nat) (blk off cap : Nat) (ss : List (List UInt8)) (W : World) (hH : Holds encStr W blk off ss.toArray) (hblk : blk < W.heap.size) (hsz : ss.length < 4611686018427387904) :
    CallsIn Fence.wide m Tryz.prog 77 #[.slice (some ⟨blk, off, none⟩) ss.length cap] W fun e w' => e = .returned (.tuple #[]) ∧ ∃ k os, w' = grow (putRow encStr (Sort.ahead W k) blk off (ss.mergeSort fun x y => decide (x ≤ y)).toArray) os :=
  callsIn_wide.2 (AnyM.slices_Sort_string Tryz.mSort blk off cap ss W hH hblk hsz)
theorem yi1 (m : Nat) (p : Option Addr) (cap : Nat) (W : World) : CallsIn Fence.wide m Tryz.prog 77 #[.slice p 0 cap] W fun e w' => e = .returned (.tuple #[]) ∧ w' = W :=
  callsIn_wide.2 (AnyM.slices_Sort_string_none Tryz.mSort p cap W)
set_option maxRecDepth 100000 in
set_option maxHeartbeats 1000000 in
theorem zwp {H : Type} (b n : Nat) (D0 : DataW H) (w : World) (hown : w.ownsMap Tryz.prog 9 (plainElem Tryz.prog 4) b n D0) (hmax : Maps.size D0 ≤ maxLen) (hbytes : 16 * Maps.size D0 ≤ 140737488355328) :
    CallsIn Fence.wide 68 Tryz.prog 47 #[.map (some b)] w fun e w' => ∃ (v : Value) (ss : List (List UInt8)), e = .returned v ∧ ss.Perm (strKeys D0) ∧
      w'.ownsRow w.heap.size 9 1 v ss.length ((ss.mergeSort (fun x y => decide (x ≤ y))).map encStr) ∧ (v = .slice none 0 0 ↔ ss = []) ∧ Below w.heap.size w w' := by
  obtain ⟨i0, hi, hz0, hz1, hz2⟩ := info_parts ymu
  have hbl := hown.lt
  have hfn : Fence.wide.fn 77 := trivial
  refine callsIn_of_wp Tryz.func47 rfl trivial ?_ rfl
  simp only [Tryz.ntmps47, List.size_toArray, List.length_cons, List.length_nil, Nat.reduceAdd, Nat.reduceSub, Array.replicate_succ, Array.replicate_zero, List.push_toArray, List.append_toArray, List.nil_append, List.cons_append]
  gi_wp2_with (first
    | (gi_at_range; refine wpListIn_range_own _ rfl _ 61 rfl 9 4 zo2 Tryz.underlying61 _ b n _ rfl hown ?_; intro w0 hrg0 hg0 hs0)
    | gi_in)
  go_frame
  gi_loopw [3] (fun v wr => ∃ (left : Lit → Bool) (cnt : Nat) (ss : List (List UInt8)), wr.ranges Tryz.prog 9 (plainElem Tryz.prog 4) b w.heap.size n D0 left cnt ∧ ss.length + cnt ≤ Maps.size D0 ∧
      wr.ownsRow w.heap.size 9 1 v ss.length (ss.map encStr) ∧ (v = .slice none 0 0 ↔ ss = []) ∧ Collected D0 left ss ∧ Below w.heap.size w wr)
    (fun _ wr => wr.rangeLeft b w.heap.size)
  case atStart =>
    exact ⟨_, _, [], hrg0, by simp, World.ownsRow_nil _ _ _ _, by simp, Collected.start D0, (Below.refl _ _).grown hg0 (Nat.le_refl _) (fun j hj => by cases hj)⟩
  case round =>
    obtain ⟨left, cnt, ss, hrg, hcs, hrow, hnn, hC, hnx⟩ := hrel
    gi_wp2_with (first
      | (gi_at_next; refine wpListIn_next_ranges _ rfl _ rfl 9 zo2 (plainElem Tryz.prog 4) encStr (fun v : Value => v) (fun key kl hk => by obtain ⟨x, hx, _⟩ := Maps.keyOf_str Tryz.underlying9 hk; exact ⟨x, hx⟩) (fun v y hv => ⟨v, rfl⟩) b w.heap.size n _ _ _ rfl hrg ?_ ?_)
      | gi_in)
    · intro hc0 hl0
      rcases hrow.2 with ⟨hnil, hz⟩ | ⟨g, cap, cur, hv, hbase, hb, h1, h2, h3, h4⟩
      · have hss : ss = [] := List.eq_nil_of_length_eq_zero hz
        subst hss
        subst hnil
        gi_wp2_with (gi_at_call 77; refine (yi1 _ none 0 _).mono ?_; rintro e w' ⟨rfl, rfl⟩)
        go_ret
        exact ⟨_, [], rfl, hC.perm hown zo2 Tryz.underlying9 hl0, by simpa using hrow, by simp, hnx⟩
      · subst hv
        have hH : Holds encStr wr g 0 ss.toArray := holds_of_block hb (by simpa using h4)
        have hgl : g < wr.heap.size := (Array.getElem?_eq_some_iff.1 hb).1
        have hc := yl9 67 g 0 cap ss wr hH hgl (by omega)
        gi_wp2_with (gi_at_call 77; refine hc.mono ?_; rintro e w' ⟨rfl, nn, os, rfl⟩)
        go_ret
        exact ⟨_, ss, rfl, hC.perm hown zo2 Tryz.underlying9 hl0, ownsRow_sorted (by simp) hbase hb h1 h2 h3, hnn, hnx.grown (grownBy_sorted _) hnx.size (fun j hj => by cases hj; exact hbase)⟩
    · intro x c kl yd yp w2 cnt2 hkey hlk hv hat hrg2 hlt hg2 hs2 hen
      obtain ⟨x', ex, rfl, _⟩ := Maps.keyOf_str Tryz.underlying9 hkey
      obtain rfl : x = x' := encStr_inj ex
      have hrow2 := hrow.kept hg2 (Or.inr (row_ne_iter hrow hrg).symm)
      clear hs2
      gi_wp2_with (first
        | (gi_at_builtin; refine wpListIn_append_own _ rfl _ _ 36 rfl w.heap.size 9 i0 (.string ⟨#[]⟩) 1 16 Tryz.underlying36 hi hz0 hz1 hz2 rfl (by decide) _ _ _ rfl (hrow2.alloc _) ⟨w2.heap.size, 0, none⟩ 1 1 [encStr x] rfl rfl (cell_one_new _ _ _) (by simp [Value.oneCell', encStr]) (by unfold maxLen at *; omega) (by omega) (by have := hnx.size; have := hg2.size; simp; omega) ?_; intro v' w3 hown' hg3 hnil3; go_frame)
        | gi_in)
      have hrg3 := (hrg2.alloc _).kept hg3 (row_ne_low hrow2 hbl) (row_ne_iter hrow2 hrg2)
      go_roundw
      case rel =>
        refine ⟨_, cnt2, ss ++ [x], hrg3, by simp; omega, by simpa using hown', ⟨fun hv' => by have := (hnil3.1 hv').2; omega, fun h => by simp at h⟩, hC.step hlk hat, ?_⟩
        exact ((hnx.grown hg2 hnx.size (fun j hj => by cases hj; exact Nat.le_refl _)).alloc (by have := hnx.size; have := hg2.size; omega) _).grown hg3 (by have := hnx.size; have := hg2.size; simp; omega) (fun j hj => (hrow2.lt j hj).1)
      case measure => rw [hrg3.left_eq, hrg.left_eq]; exact hlt
end Go.Hk

/- term.sorted, of a set that lies in a block: what it gives, whatever the order in which the set gives its names. -/
namespace Go.Hk
open Go.Proofs Go.RowKit Go.Maps Go.Sort Go.MapKept
open Go.WideElems (Fit rd rg rg_of rd_mk)
def yno : Value → List UInt8
  | .string s => s.data.toList
  | _ => []
theorem znw (w : World) (bm : Nat) (es : Array MapEntry) (clock : Nat) (hb : w.heap[bm]? = some (.map es clock)) (hst : Stamped es clock) (hk : ∀ e ∈ es.toList, (∃ s : ByteArray, e.key = .string s ∧ s.size ≤ maxLen) ∧ ∃ c, e.val = .bool c) (hsz : es.size ≤ 1000000) :
    Calls Tryz.prog 47 #[.map (some bm)] w fun e w' => ∃ (v : Value) (ss : List (List UInt8)), e = .returned v ∧ ss.Perm (es.toList.map fun e => yno e.key) ∧
      w'.ownsRow w.heap.size 9 1 v ss.length ((ss.mergeSort (fun x y => decide (x ≤ y))).map encStr) ∧ (v = .slice none 0 0 ↔ ss = []) ∧ Below w.heap.size w w' := by
  have hread : ∀ e ∈ es.toList, ∃ d, rd (H := Unit) Tryz.prog 9 (plainElem Tryz.prog 4) e = some (.string (yno e.key), d) := by
    intro e he
    obtain ⟨⟨s, h1, h2⟩, c, h3⟩ := hk e he
    obtain ⟨k, v, born⟩ := e
    simp only at h1 h3
    subst h1; subst h3
    have hu := Tryz.underlying4
    have hv : plainElem (H := Unit) Tryz.prog 4 (.bool c) = some (.lit (.bool c), []) := by
      unfold plainElem
      generalize Tryz.prog.underlying 4 = u at hu
      subst hu; rfl
    exact ⟨_, rd_mk (WideMaps.keyOf_string_mk Tryz.underlying9 h2) hv⟩
  have hfit : Fit (H := Unit) Tryz.prog 9 (plainElem Tryz.prog 4) es clock := ⟨by unfold maxLen; omega, hst, fun x hx => by obtain ⟨d, hd⟩ := hread x hx; exact ⟨_, hd⟩⟩
  have hown : w.ownsMap (H := Unit) Tryz.prog 9 (plainElem Tryz.prog 4) bm es.size (.map ((es.toList.map (rg Tryz.prog 9 (plainElem Tryz.prog 4))).foldr DataW.insert [])) := ⟨es, clock, hb, hfit, Nat.le_refl _, rfl⟩
  have hsize : Maps.size (H := Unit) (.map ((es.toList.map (rg Tryz.prog 9 (plainElem Tryz.prog 4))).foldr DataW.insert [])) = es.size := by
    show (List.foldr DataW.insert [] _).length = _
    rw [length_sorted]; simp
  refine (callsIn_wide.1 (zwp bm es.size _ w hown (by rw [hsize]; unfold maxLen; omega) (by rw [hsize]; omega))).mono ?_
  rintro e w' ⟨v, ss, h1, h2, h3, h4, h5⟩
  refine ⟨v, ss, h1, h2.trans ?_, h3, h4, h5⟩
  show (List.map (fun p => strOf p.1) (List.foldr DataW.insert [] (es.toList.map (rg Tryz.prog 9 (plainElem Tryz.prog 4))))).Perm _
  refine ((WideShapes.sorted_perm _).map _).trans ?_
  rw [List.map_map]
  refine List.Perm.of_eq (List.map_congr_left fun e he => ?_)
  obtain ⟨d, hd⟩ := hread e he
  simp only [Function.comp_apply, rg_of hd, strOf]
end Go.Hk

/- Contracts of term: the sorted names of a set (sorted); what is free in a formed term is short. -/
namespace Go.Hk
open Go.Proofs Go.RowKit Go.Maps Go.Sort
def zfz (m : List Str) : List Str := m.mergeSort fun x y => decide (x ≤ y)
theorem ztp (I : Imm) (l : List UInt8) : RepV I (encStr l) (.str l) := .str _ _ (by simp)
set_option maxRecDepth 100000 in
theorem zwo (m : List Str) (hm : ∀ s ∈ m, s.length ≤ maxLen) (hlen : m.length ≤ 1000000) :
    zc5 Tryz.prog 47 [.mapr 1] [(1, some (.map (zem m)))] (.ret (.imm (.sl (zbu (zfz m)))) [(1, some (.map (zem m)))]) := by
  intro I μ w xs hst hx
  obtain ⟨xl⟩ := xs
  have hx1 : xl.length = 1 := hx.1
  match xl, hx1 with
  | [x], _ =>
  have hxm : RepD I μ x (.mapr 1) := hx.2 0 x _ rfl rfl
  obtain ⟨g, hg, r, es, clock, e1, e2, e3, e4, e5⟩ := hst.blk 1 _ rfl
  subst e1
  have hxv : x = .map (some r) := by
    cases hxm with
    | mapr _ b h => rw [hg] at h; cases h; rfl
  subst hxv
  have hlen2 : es.toList.length = m.length := by simpa [zem] using e3
  have hkey : ∀ (i : Nat) (e : MapEntry), es.toList[i]? = some e → ∃ s, m[i]? = some s ∧ yno e.key = s ∧ (∃ b : ByteArray, e.key = .string b ∧ b.size ≤ maxLen) ∧ ∃ c, e.val = .bool c := by
    intro i e hi
    obtain ⟨s, hs⟩ : ∃ s, m[i]? = some s := ⟨_, List.getElem?_eq_getElem (by rw [← hlen2]; exact (List.getElem?_eq_some_iff.1 hi).1)⟩
    obtain ⟨h1, h2⟩ := e5 i e (.str s, .bool true) (by simpa using hi) (by simp [zem, hs])
    refine ⟨s, hs, ?_⟩
    generalize e.key = k at h1
    generalize e.val = u at h2
    cases h1 with
    | str b l hb =>
      cases h2 with
      | bool c =>
        refine ⟨hb, ⟨b, rfl, ?_⟩, _, rfl⟩
        have := hm s (List.mem_of_getElem? hs)
        rw [← hb] at this
        show b.data.size ≤ maxLen
        rw [← Array.length_toList]; exact this
  have hkeys : es.toList.map (fun e => yno e.key) = m := by
    refine List.ext_getElem? fun i => ?_
    rw [List.getElem?_map]
    cases hi : es.toList[i]? with
    | none =>
      have : m[i]? = none := by
        rw [List.getElem?_eq_none_iff] at hi ⊢; omega
      rw [this]; rfl
    | some e =>
      obtain ⟨s, h1, h2, _⟩ := hkey i e hi
      rw [h1, ← h2]; rfl
  have hrun : (callFunc 47 #[.map (some r)]).run Tryz.prog w = .ok (.enter 47 #[.map (some r)]) w := Hk.run_callFunc_body (Go.Proofs.Tryz.func47) (by decide +kernel) rfl _
  show valX Tryz.prog ((callFunc 47 #[.map (some r)]).run Tryz.prog w) _ _
  rw [hrun]
  refine (znw w r es clock e2 e4 (fun e he => ?_) (by rw [← Array.length_toList, hlen2]; exact hlen)).mono ?_
  · obtain ⟨i, hi⟩ := List.getElem?_of_mem he
    obtain ⟨s, _, _, h⟩ := hkey i e hi
    exact h
  rintro e w' ⟨v, ss, rfl, h2, h3, h4, h5⟩
  rw [hkeys] at h2
  have hss : ss.mergeSort (fun x y => decide (x ≤ y)) = zfz m := mergeSort_of_perm h2
  rw [hss] at h3
  have hsz : (zfz m).length = ss.length := by rw [← hss]; exact List.length_mergeSort _
  -- the immutable part with the row
  obtain ⟨J, hJ, hJr, hJo, hJn⟩ : ∃ J : Imm, I.le J ∧ RepV J v (.sl (zbu (zfz m))) ∧ (∀ k o, J k = some o → (I k = some o ∨ (w.heap.size ≤ k ∧ w'.heap[k]? = some o))) ∧ (∀ k, k < w.heap.size → J k = I k) := by
    rcases h3.2 with ⟨rfl, h0⟩ | ⟨gb, cap, cur, rfl, hbase, hheap, hle, hcm, hcs, htake⟩
    · have : zfz m = [] := List.eq_nil_of_length_eq_zero (by omega)
      rw [this]
      exact ⟨I, Imm.le_refl I, .slnil, fun k o h => .inl h, fun _ _ => rfl⟩
    · have hI : ∀ k, w.heap.size ≤ k → I k = none := fun k hk => by
        cases hk' : I k with
        | none => rfl
        | some o =>
          have := (Array.getElem?_eq_some_iff.1 (hst.imm k o hk')).1
          omega
      have hle' : I.le (fun k => if k = gb then some (.cells cur 9 (0, 0)) else I k) := fun k o h => by
        have : k ≠ gb := fun e => by rw [e, hI gb hbase] at h; cases h
        simp [this, h]
      refine ⟨_, hle', ?_, fun k o h => ?_, fun k hk => ?_⟩
      · have hcell : ∀ (i : Nat) (c : List V) (j : Nat) (x : V), (zbu (zfz m))[i]? = some c → c[j]? = some x → ∃ s, c = [.str s] ∧ j = 0 ∧ x = .str s ∧ cur[i]? = some (encStr s) := by
          intro i c j x hi hj
          simp only [zbu, List.getElem?_map, Option.map_eq_some_iff] at hi
          obtain ⟨s, hs, rfl⟩ := hi
          have hj0 : j = 0 := by
            cases j with
            | zero => rfl
            | succ j => simp at hj
          subst hj0
          refine ⟨s, rfl, rfl, by simpa using hj.symm, ?_⟩
          have hv : ((zfz m).map encStr)[i]? = some (encStr s) := by rw [List.getElem?_map, hs]; rfl
          rw [← htake, List.getElem?_take] at hv
          split at hv
          · simpa using hv
          · cases hv
        refine .sl gb 0 _ cap 1 _ (fun i j => (cur[i]?).getD undef) (by simp [zbu, hsz]) hle hcm (fun e he => ?_) (fun i c j x hi hj => ?_) (fun i c j x hi hj => ?_)
        · simp only [zbu, List.mem_map] at he
          obtain ⟨s, _, rfl⟩ := he; rfl
        · obtain ⟨s, rfl, rfl, rfl, h2⟩ := hcell i c j x hi hj
          simp [Imm.cell, h2]
          rfl
        · obtain ⟨s, rfl, rfl, rfl, h2⟩ := hcell i c j x hi hj
          simp only [h2, Option.getD_some]
          exact ztp _ _
      · by_cases hk : k = gb
        · subst hk; simp at h; subst h; exact .inr ⟨hbase, hheap⟩
        · simp [hk] at h; exact .inl h
      · have : k ≠ gb := by omega
        simp [this]
  have hw : ∀ k, k < w.heap.size → w'.heap[k]? = w.heap[k]? := fun k hk => h5.block k hk
  refine ⟨J, μ, .imm _ _ hJr, ?_, .refl _ _, ?_⟩
  · exact
      { imm := fun k o h => (hJo k o h).elim (fun h => by
          have := hst.imm k o h
          rw [hw k (Array.getElem?_eq_some_iff.1 this).1]; exact this) fun h => h.2
        blk := fun i b hl => by
          obtain ⟨gi, q1, q2⟩ := hst.blk i b hl
          exact ⟨gi, q1, (q2.mono hJ (Mu.le_refl μ)).world fun k hk => hw k (hst.apart i b gi k hl q1 hk).2⟩
        apart := fun i b gi k hl hgi hk => by
          obtain ⟨q1, q2⟩ := hst.apart i b gi k hl hgi hk
          exact ⟨(hJn k q2).trans q1, Nat.lt_of_lt_of_le q2 h5.size⟩
        inj := hst.inj
        nodup := hst.nodup
        idsFree := hst.idsFree }
  · exact
      { imm := hJ, os := h5.os, tape := h5.tape, output := h5.output, size := h5.size
        block := fun k hk _ => hw k hk
        fresh := fun k _ h => h
        old := fun k hk _ => hJn k hk }
mutual
theorem zhp : ∀ (t : Tm) (s m : List Str), zag t = true → ∀ x ∈ zc9 t s m, x ∈ m ∨ x.length ≤ 8
  | .mk op n x ks ps, s, m, h, y, hy => by
    simp only [zag, Bool.and_eq_true] at h
    simp only [zc9] at hy
    by_cases e : op = 4
    · subst e
      have h1 := h.1.1
      simp [za9, zcj] at h1
      rw [if_pos rfl] at hy
      split at hy
      · exact .inl hy
      · simp only [zlj] at hy
        split at hy
        · exact .inl hy
        · rcases List.mem_append.1 hy with hy | hy
          · exact .inl hy
          · right
            have : y = x := by simpa using hy
            subst this
            omega
    · rw [if_neg e] at hy
      exact zoc _ 0 ks s m h.2 y hy
theorem zoc : ∀ (t : Tm) (i : Nat) (ks : List Tm) (s m : List Str), zas ks = true → ∀ x ∈ zep t i ks s m, x ∈ m ∨ x.length ≤ 8
  | _, _, [], _, _, _, x, hx => .inl (by simpa [zep] using hx)
  | t, i, k :: r, s, m, h, x, hx => by
    simp only [zas, Bool.and_eq_true] at h
    simp only [zep] at hx
    rcases zoc t (i + 1) r s _ h.2 x hx with h1 | h1
    · exact zhp k _ m h.1 x h1
    · exact .inr h1
end
mutual
theorem zja : ∀ (t : Tm) (s m : List Str), (zc9 t s m).length ≤ m.length + zcx t
  | .mk op n x ks ps, s, m => by
    simp only [zc9, zcx]
    by_cases e : op = 4
    · rw [if_pos e]
      split
      · omega
      · simp only [zlj]
        split
        · omega
        · simp only [List.length_append, List.length_cons, List.length_nil]; omega
    · rw [if_neg e]
      have := zto (.mk op n x ks ps) 0 ks s m
      omega
theorem zto : ∀ (t : Tm) (i : Nat) (ks : List Tm) (s m : List Str), (zep t i ks s m).length ≤ m.length + zco ks
  | _, _, [], _, m => by simp [zep]
  | t, i, k :: r, s, m => by
    simp only [zep, zco]
    have h1 := zto t (i + 1) r s (zc9 k ((zad t i).reverse ++ s) m)
    have h2 := zja k ((zad t i).reverse ++ s) m
    omega
end
set_option maxRecDepth 100000 in
theorem zyz (t : Tm) (h : za6 t = true) : zc5 Tryz.prog 47 [.mapr 1] [(1, some (.map (zem (zc9 t [] []))))] (.ret (.imm (.sl (zbu (zes t)))) [(1, some (.map (zem (zc9 t [] []))))]) := by
  obtain ⟨h1, h2, h3, h4⟩ := zcl t h
  simp only [za6, Bool.and_eq_true] at h
  have := zwo (zc9 t [] []) (fun s hs => by
    rcases zhp t [] [] h.2 s hs with h | h
    · cases h
    · unfold maxLen; omega) (by have := zja t [] []; simp at this; omega)
  rw [zfz, zu6 t h1] at this
  exact this
end Go.Hk

/- A row under another name, also in the cells of a block that names it. -/
namespace Go.Hk
def rnO (i j : Nat) : List D → List D
  | [] => []
  | .own k len :: r => .own (bif Nat.beq k i then j else k) len :: rnO i j r
  | d :: r => d :: rnO i j r
theorem ya8 {i j : Nat} : ∀ {ds : List D} {m : Nat} {d : D}, (rnO i j ds)[m]? = some d → ∃ d0, ds[m]? = some d0 ∧ (d = d0 ∨ ∃ len, d0 = .own i len ∧ d = .own j len)
  | [], m, d, h => by simp [rnO] at h
  | x :: r, 0, d, h => by
    refine ⟨x, rfl, ?_⟩
    cases x <;> simp only [rnO, List.getElem?_cons_zero, Option.some.injEq] at h <;> first
      | exact .inl h.symm
      | skip
    rename_i k len
    cases hb : Nat.beq k i with
    | true => right; have := Nat.eq_of_beq_eq_true hb; subst this; exact ⟨len, rfl, by rw [← h, hb]; rfl⟩
    | false => left; rw [← h, hb]; rfl
  | x :: r, m + 1, d, h => by
    have : (rnO i j r)[m]? = some d := by cases x <;> simpa [rnO] using h
    obtain ⟨d0, h1, h2⟩ := ya8 this
    exact ⟨d0, by simpa using h1, h2⟩
theorem zmv {i j : Nat} : ∀ ds : List D, (rnO i j ds).length = ds.length
  | [] => rfl
  | x :: r => by cases x <;> simp [rnO, zmv r]
section
variable {P : Program} {n : Nat} {F : List Nat} {Q : DQ} {env : Env} {st : St} {ids ids' : List Nat} {todo : List DI}
theorem yd9 (i j k : Nat) {blk : Blk} {t : TypeId} {sz : Nat} {ds : List D} (hl : lk st i = some (some blk)) (hk : lk st k = some (some (.cells t sz ds))) (hki : Nat.beq k i = false)
    (h : DGo P n F Q todo env ((k, some (.cells t sz (rnO i j ds))) :: (j, some blk) :: (i, none) :: st) ids') : DGo P n F Q todo env st (j :: ids') := by
  have hki : k ≠ i := fun e => by rw [e] at hki; simp at hki
  refine zd1 fun I μ a w hc => ?_
  have hlive : zap st i blk := hl
  obtain ⟨g, hg, hr⟩ := hc.blk i _ hlive
  have hjn : μ j = none := hc.idsFree j (by simp)
  have hij : i ≠ j := fun e => by rw [e, hjn] at hg; cases hg
  obtain ⟨gk, hgk, hrk⟩ := hc.blk k _ hk
  have hkj : k ≠ j := fun e => by rw [e, hjn] at hgk; cases hgk
  obtain ⟨ν, hν⟩ : ∃ ν : Mu, ν = fun k => if k = j then some g else μ k := ⟨_, rfl⟩
  have hνj : ν j = some g := by rw [hν]; simp
  have hνo : ∀ k, k ≠ j → ν k = μ k := fun k hk => by rw [hν]; simp [hk]
  have hle : μ.le ν := fun k v hk => by
    have : k ≠ j := fun e => by rw [e, hjn] at hk; cases hk
    rw [hνo k this]; exact hk
  have hst : ∀ k' bk, zap ((k, some (.cells t sz (rnO i j ds))) :: (j, some blk) :: (i, none) :: st) k' bk → (k' = k ∧ bk = .cells t sz (rnO i j ds)) ∨ (k' ≠ k ∧ k' = j ∧ bk = blk) ∨ (k' ≠ k ∧ k' ≠ j ∧ k' ≠ i ∧ zap st k' bk) := fun k' bk h => by
    rcases zah.1 h with h | ⟨h0, h⟩
    · exact .inl h
    · rcases zah.1 h with h | ⟨h1, h⟩
      · exact .inr (.inl ⟨h0, h⟩)
      · obtain ⟨h2, h3⟩ := za7.1 h
        exact .inr (.inr ⟨h0, h1, h2, h3⟩)
  have old : ∀ k' bk, zap ((k, some (.cells t sz (rnO i j ds))) :: (j, some blk) :: (i, none) :: st) k' bk → ∀ gk', ν k' = some gk' → ∃ k0 b0, zap st k0 b0 ∧ μ k0 = some gk' ∧ (k0 = if k' = j then i else k') := fun k' bk h gk' hgk' => by
    rcases hst k' bk h with ⟨rfl, rfl⟩ | ⟨_, rfl, rfl⟩ | ⟨_, h1, _, h3⟩
    · exact ⟨k', _, hk, by rw [← hνo k' hkj]; exact hgk', by rw [if_neg hkj]⟩
    · exact ⟨i, _, hlive, by rw [hνj] at hgk'; rw [hg]; exact hgk', by rw [if_pos rfl]⟩
    · exact ⟨k', _, h3, by rw [← hνo k' h1]; exact hgk', by rw [if_neg h1]⟩
  refine ⟨I, ν, env, _, ids', ?_, fun t d hl => (hc.env t d hl).mono (Imm.le_refl I) hle, ?_, fun k hk v hv => ?_, h⟩
  · exact
      { imm := hc.imm
        blk := fun k' bk h => by
          rcases hst k' bk h with ⟨rfl, rfl⟩ | ⟨_, rfl, rfl⟩ | ⟨_, h1, _, h3⟩
          · refine ⟨gk, hle _ _ hgk, ?_⟩
            obtain ⟨hs, b, us, e1, e2, e3, e4⟩ := hrk
            refine ⟨by rw [zmv]; exact hs, b, us, e1, e2, ⟨by rw [zmv]; exact e3.1, fun m v d hv hd => ?_⟩, e4⟩
            obtain ⟨d0, q1, q2⟩ := ya8 hd
            have h0 := e3.2 m v d0 hv q1
            rcases q2 with rfl | ⟨len, rfl, rfl⟩
            · exact h0.mono (Imm.le_refl I) hle
            · cases h0 with
              | own _ _ a cap hm => rw [hg] at hm; cases hm; exact .own _ _ _ _ hνj
          · exact ⟨g, hνj, hr.mono (Imm.le_refl I) hle⟩
          · obtain ⟨g', p1, p2⟩ := hc.blk k' bk h3
            exact ⟨g', hle _ _ p1, p2.mono (Imm.le_refl I) hle⟩
        apart := fun k' bk gk' m h hgk' hm => by
          obtain ⟨k0, b0, q1, q2, _⟩ := old k' bk h gk' hgk'
          exact hc.apart k0 b0 gk' m q1 q2 hm
        inj := fun k1 k2 bk1 bk2 g1 g2 m h1 h2 hg1 hg2 hm1 hm2 => by
          obtain ⟨p1, c1, q1, q2, q3⟩ := old k1 bk1 h1 g1 hg1
          obtain ⟨p2, c2, r1, r2, r3⟩ := old k2 bk2 h2 g2 hg2
          have e := hc.inj p1 p2 c1 c2 g1 g2 m q1 r1 q2 r2 hm1 hm2
          have n1 : k1 ≠ i := by
            rcases hst k1 bk1 h1 with ⟨rfl, _⟩ | ⟨_, rfl, _⟩ | ⟨_, _, h, _⟩
            · exact hki
            · exact fun e => hij e.symm
            · exact h
          have n2 : k2 ≠ i := by
            rcases hst k2 bk2 h2 with ⟨rfl, _⟩ | ⟨_, rfl, _⟩ | ⟨_, _, h, _⟩
            · exact hki
            · exact fun e => hij e.symm
            · exact h
          rw [q3, r3] at e
          by_cases e1 : k1 = j <;> by_cases e2 : k2 = j
          · rw [e1, e2]
          · rw [if_pos e1, if_neg e2] at e; exact absurd e.symm n2
          · rw [if_neg e1, if_pos e2] at e; exact absurd e n1
          · rw [if_neg e1, if_neg e2] at e; exact e
        nodup := (List.nodup_cons.1 hc.nodup).2
        idsFree := fun k' hk' => by
          have : k' ≠ j := fun e => (List.nodup_cons.1 hc.nodup).1 (e ▸ hk')
          rw [hνo k' this]; exact hc.idsFree k' (by simp [hk']) }
  · exact { imm := Imm.le_refl I, os := rfl, tape := rfl, output := rfl, size := Nat.le_refl _, block := fun _ _ _ => rfl
            fresh := fun b _ ⟨k', bk, gk', h1, h2, h3⟩ => by
              obtain ⟨k0, b0, q1, q2, _⟩ := old k' bk h1 gk' h2
              exact ⟨k0, b0, gk', q1, q2, h3⟩
            old := fun _ _ _ => rfl }
  · exact hle _ _ hv
end
end Go.Hk

/- namer.in: one round of the loop over the names that a term binds in a part. -/
namespace Go.Hk
open Go.Proofs
def zum : Code → Option (Code × Code)
  | .rangeFunc _ _ a b => some (a, b)
  | .seq x y => match zum x with
    | some r => some r
    | none => zum y
  | .block _ c => zum c
  | .loop c => zum c
  | .scope c => zum c
  | .cond _ x y => match zum x with
    | some r => some r
    | none => zum y
  | _ => none
def ylg (f : Func) : Code := match zum (zh9 f 0) with
  | some (a, _) => a
  | none => .skip
def yfr (f : Func) : Code := match zum (zh9 f 0) with
  | some (_, b) => b
  | none => .skip
def zw2 (scs : List Sc) (s : Sc) (m : Nat) : List (List V) := scs.map (fun s => [zen s]) ++ [zen s] :: List.replicate m [.nilp]
theorem yjc (scs : List Sc) (s : Sc) (m : Nat) : (zw2 scs s m)[scs.length]? = some [zen s] := by
  rw [zw2, List.getElem?_append_right (by simp)]; simp
theorem yjb (scs : List Sc) (s s2 : Sc) (m : Nat) : (zw2 scs s m).set scs.length [zen s2] = zw2 scs s2 m := by
  rw [zw2, List.set_append_right _ _ (by simp)]; simp [zw2]
theorem ya4 (scs : List Sc) (s : Sc) (m : Nat) : (zw2 scs s m).length = scs.length + 1 + m := by
  simp [zw2]; omega
def stR (b : Nat) (sk : An) (n : Nat) (scs : List Sc) (r : Nat × Tm × List Str × Sc) : St :=
  [(2, some (.cells 105 1 [.ref 7 0])), (4, some (.cells 26 5 [.imm (.int .i64 0), .imm (.int .i64 0), .imm (.str []), .nils, .nils])), (9, some (.hp (zck b sk r.2.1))),
    (7, some (.cells 107 1 [.own 13 r.2.2.1.length])), (13, some (.row 9 1 (zbu r.2.2.1))), (10, some (.row 86 1 (zw2 scs r.2.2.2 (n - scs.length - 1)))), (11, some (.cells 137 1 [.own 10 n])), (12, some (.immb 3 1 [.int .i64 scs.length]))]
def ynr (b n i : Nat) (s : Sc) : Env := [(36, .imm (.int .i64 i)), (35, .imm (.int .i64 n)), (2, .imm (zen s)), (9, .ref 11 0), (4, .raw (.pointer (some ⟨b, 0, none⟩))), (3, .ref 2 0), (6, .ref 4 0), (10, .ref 12 0)]
set_option maxRecDepth 100000 in
theorem zzg (b : Nat) (sk : An) (n : Nat) (scs : List Sc) (T : Tm) (tk : List Str) (s s0 : Sc) (hf : zhr sk T) (j : Nat) (hj : j < (zad T scs.length).length) (hlen : tk.length + (zad T scs.length).length ≤ 699) (hn : scs.length < n) (hn2 : n ≤ 1000000) (d : D) (hd : ((bp sk scs.length).map (plD b sk))[j]? = some d)
    {L : znp} (h1 : Tryz.prog.funcs[L.fn]?.isSome) (h2 : L.tmps.size = Tryz.f81.ntmps) (h3 : L.ps = #[45]) (h4 : L.asg = ylg Tryz.f81)
    (h5 : L.body = yfr Tryz.f81) (h6 : L.E = ynr b n scs.length s0) (h7 : L.F = [1, 7, 8]) :
    yal Tryz.prog [d] (zdl L (stR b sk n scs (rAt scs.length T tk s j)) none) true (zdl L (stR b sk n scs (rAt scs.length T tk s (j + 1))) none) := by
  obtain ⟨fc, hfc⟩ := Option.isSome_iff_exists.1 h1
  obtain ⟨x, hx⟩ := zal hj
  obtain ⟨i1, i2, i3, i4, i5, _⟩ := zy8 (i := scs.length) hf tk s j (by omega)
  rw [ya9 hx]
  generalize rAt scs.length T tk s j = r at *
  obtain ⟨r1, rT, rtk, rs⟩ := r
  simp only at i1 i2 i3 i4 i5
  subst i1
  have hok := zhq i2
  rw [List.getElem?_map] at hd
  obtain ⟨p, hp, rfl⟩ := Option.map_eq_some_iff.1 hd
  obtain ⟨a0, b', off', hl, hD⟩ : ∃ a0 b' off', zec sk b 0 p = some (a0, b', off') ∧ plD b sk p = .raw (ptr b' (zdi off' 2)) := by
    obtain ⟨a, o, nn, y, ad, c, ks, u, qs, rfl, hv, _⟩ := id i2
    rw [zyj] at hp
    obtain ⟨s, o', n', x', v', ks', u', ps', b', off', hl, _, _⟩ := zrp ((zg0 a).1 hok) hv hp b
    refine ⟨_, b', off', by rw [zi1, hl]; rfl, ?_⟩
    simp only [plD, zi1, hl, Option.map_some]
  have hx2 : (zad rT scs.length)[r1]? = some x := by rw [i3 r1 (Nat.le_refl _)]; exact hx
  have hrd := zsv hok hp hl (b := b) hx2
  have hwr := zpu hok hp hl (b := b) (t := rT) (zbc rtk)
  rw [hD]
  refine zne (pend := none) (d := .raw (ptr b' (zdi off' 2))) (ids := [14, 15, 16]) (t := 11) (p := 45) hfc h3 (h4.trans rfl) h2 rfl rfl rfl rfl (by decide) (by decide) ?_ ?_
  · rw [h6, h7]
    refine ⟨by decide, ?_⟩
    simp [stR, ynr, nmE, nmD, ze1, nmB, nmL]
  · rw [h5, h6, h7]
    refine xd [] rfl (by simp [zai]) ?_
    refine zar (fr := []) [(13, 1)] [] rfl (by simp) (ycj rtk _ (by omega)) ⟨⟨rfl, rfl, rfl⟩, trivial⟩ rfl rfl rfl rfl ?_
    refine xg [] rfl (by simp [zai]) ?_
    refine zez ttX_ok rfl ⟨by simp, by simp [maxLen]; omega, by simp; omega, trivial⟩ ?_
    refine xg [] rfl (by simp [zai]; rfl) ?_
    refine zbn ttX_ok 9 [.imm (.str x)] rfl rfl (fun _ => hrd) rfl rfl (by simp) ?_
    refine xg [] rfl (by simp [zai]) ?_
    refine zjz ttX_ok rfl (fun _ => ⟨by simp, by simp only [ya4]; omega⟩) (by simp) ?_
    refine xg [] rfl (by simp [zai]) ?_
    have hone : V.one (zen rs) = true := by
      rcases rs with _ | ⟨⟨_, _⟩, _⟩ <;> rfl
    have hrg := yjc scs rs (n - scs.length - 1)
    have hrs := yjb scs rs ((x, zbc rtk) :: rs) (n - scs.length - 1)
    rcases rs with _ | ⟨⟨y1, y2⟩, rs⟩
    all_goals
      refine zzr ttX_ok rfl (fun _ => hrg) rfl (by simp) ?_
      refine xg [] rfl (by simp [zai]) ?_
      refine zjz ttX_ok rfl (fun _ => ⟨by simp, by simp only [ya4]; omega⟩) (by simp) ?_
      refine ykd ttX_ok rfl hrg ?_
      refine xg [] rfl (by simp [zai]; rfl) ?_
      refine zo4 ttX_ok 9 (zck b sk (zea rT scs.length r1 (zbc rtk))) rfl rfl hwr ?_
      refine xg [] rfl (by simp [zai]) ?_
      refine zcq 13 14 rfl ?_
      refine zb0 ?_
      show zku _ (stR b sk n scs (r1 + 1, zea rT scs.length r1 (zbc rtk), rtk ++ [zbc rtk], (x, zbc rtk) :: _))
      have e3 : (rtk ++ [zbc rtk]).length = (zbu rtk ++ [[V.str (zbc rtk)]]).length := by simp [zbu]
      have e4 : zbu (rtk ++ [zbc rtk]) = zbu rtk ++ [[V.str (zbc rtk)]] := by simp [zbu]
      simp only [stR]
      rw [e3, e4, ← hrs]
      exact ⟨rfl, rfl, rfl, rfl, rfl, rfl, rfl, rfl, trivial⟩
end Go.Hk

/- A store of a value of one cell into an zbx row. -/
namespace Go.Hk
structure PVs where
  id : Nat
  e : TypeId
  es : List (List V)
  k : Nat
  x : V
  todo : List DI
def yf7 (tt : TT) (env : Env) (st : St) (todo : List DI) : Option PVs :=
  match yer todo with
  | some o => match o.guard, o.dst, o.op with
    | none, none, .store t p x => match lk tt t, evO env p, evO env x with
      | some i, some (.elp id k 1 0), some (.imm xv) => match lk st id, zce todo ([id], [id]), Nat.beq i.size 1 with
        | some (some (.row e 1 es)), some (_, _, todo'), true => some ⟨id, e, es, k, xv, todo'⟩
        | _, _, _ => none
      | _, _, _ => none
    | _, _, _ => none
  | none => none
section
variable {P : Program} {n : Nat} {F : List Nat} {Q : DQ} {tt : TT} {env env' : Env} {st st' : St} {ids ids' : List Nat} {k todo todo' : List DI} {I : Imm} {μ : Mu} {w : World} {a : Act} {Pn : V → Prop} {d : D} {cx : Prop} {ob : List Prop}
theorem yj8 (htt : TTok P tt) {c : PVs} {y : V} (h : yf7 tt env st todo = some c) (hc : c.es[c.k]? = some [y]) (hox : V.one c.x = true)
    (hk : G P n F Q c.todo env ((c.id, some (.row c.e 1 (c.es.set c.k [c.x]))) :: st) ids) : G P n F Q todo env st ids := by
  unfold yf7 at h
  split at h
  · rename_i o ho
    split at h
    · rename_i t p x hgd hdst hop
      split at h
      · rename_i i id kk xv ht hp hx
        split at h
        · rename_i ty es all o' todo' hl h1 hsz
          cases h
          have ho' : o' = o := zdn ho h1
          subst ho'
          have hs := Nat.eq_of_beq_eq_true hsz
          simp only at hc hk hox
          have hk : G P n F Q todo' (zdz o'.dst .undef env) ([(id, some (.row ty 1 (es.set kk [xv])))] ++ st) ids := by rw [hdst]; exact hk
          refine zcv (fr := []) (wr := [(id, some (.row ty 1 (es.set kk [xv])))]) (rd := [id]) h1 ?_ (by simp [zc2, hdst]) (fun c hc => by rw [hop] at hc; cases hc) hk
          intro I μ st1 ids1 a w hag hst hon
          refine ⟨fun _ => ?_, fun hw => by rw [zau hgd] at hw; cases hw⟩
          have hops := zbi hon
          rw [hop] at hops
          have rp := hops p (by simp [Op.operands]) _ hp
          have rx := hops x (by simp [Op.operands]) _ hx
          have hl1 : zap st1 id (.row ty 1 es) := by unfold zap; rw [hag id (by simp)]; exact hl
          have rv := rx.immInv
          obtain ⟨b, cap, cur, hmu, hheap, hcap, hcm, hcs, hrep, hlen, hone, hpos⟩ := zw1 hst hl1 (by rintro rfl; simp at hc)
          have hkl := (List.getElem?_eq_some_iff.1 hc).1
          rw [Nat.mul_one] at hcs
          generalize hv : a.eval p = v at rp
          generalize hu : a.eval x = u at rx rv
          have hu1 : u.cells = #[u] ∧ u.oneCell' = true := ⟨zgb (rv.one hox), rv.one hox⟩
          cases rp with
          | elp _ _ ln cp _ _ _ hm =>
            rw [hm] at hmu; cases hmu
            have hfit : kk * 1 + 0 + u.cells.toList.length ≤ cur.size := by rw [hu1.1, hcs]; simp; omega
            have hrun : (execOp a.eval o').run P w = .ok .skip (w.setRow b (cur.toList.take (kk * 1 + 0) ++ u.cells.toList ++ cur.toList.drop (kk * 1 + 0 + u.cells.toList.length)).toArray) := by
              simp only [execOp, hop, hv, hu, Sem.run_bind, zfs (htt t i ht) hheap (by rw [hu1.1, hs]; rfl) (fun z hz => by rw [hu1.1] at hz; simp at hz; subst hz; exact hu1.2) hfit, Result.andThen_ok, Sem.run_pure]
            rw [hrun]
            have hcl : cur.toList.length = cap := by simpa using hcs
            rw [hu1.1]
            simp only [Nat.mul_one, Nat.add_zero, List.length_singleton]
            simp only [Nat.mul_one] at hrep
            have hnew : BlkRep I μ (w.setRow b (cur.toList.take kk ++ [u] ++ cur.toList.drop (kk + 1)).toArray) (.slice (some ⟨b, 0, none⟩) es.length cap) (.row ty 1 (es.set kk [xv])) := by
              have e1 := zhe (sz := 1) (f := 0) (ys := [xv]) es kk [y] hlen hc (by simp)
              simp only [List.take_zero, List.nil_append, List.length_singleton, Nat.zero_add, Nat.mul_one, Nat.add_zero] at e1
              have e1' : (es.set kk [xv]).flatten = es.flatten.take kk ++ [xv] ++ es.flatten.drop (kk + 1) := by simpa using e1
              have e2 : (cur.toList.take kk ++ [u] ++ cur.toList.drop (kk + 1)).take es.length = (cur.toList.take es.length).take kk ++ [u] ++ (cur.toList.take es.length).drop (kk + 1) := by
                rw [List.append_assoc, List.take_append, List.take_append, List.take_take, List.take_take, List.length_take, List.append_assoc]
                rw [Nat.min_eq_left (by omega : kk ≤ cur.toList.length), Nat.min_eq_right (by omega : kk ≤ es.length), Nat.min_eq_left (by omega : kk ≤ es.length)]
                rw [List.take_of_length_le (l := [u]) (by simp; omega), List.drop_take]
                congr 3
              have hR := RepVL.splice hrep (ns := [u]) (ys := [xv]) ⟨rfl, fun q v z h1 h2 => by
                match q with
                | 0 => simp at h1 h2; subst h1; subst h2; exact rv
                | q + 1 => simp at h1⟩ kk
              simp only [List.length_singleton] at hR
              have hls : (es.set kk [xv]).length = es.length := by simp
              refine ⟨_, ⟨?_, .inr ⟨b, cap, _, by rw [hls], Nat.zero_le _, setRow_heap w b cur _ ty _ hheap, by rw [hls]; exact hcap, hcm, ?_, rfl⟩⟩, ?_, ?_, ?_, Nat.one_pos⟩
              · simp; omega
              · simp; omega
              · rw [hls, Nat.mul_one, List.toList_toArray, e2, e1']
                exact hR
              · intro c hc'
                rcases List.mem_or_eq_of_mem_set hc' with h | h
                · exact hlen c h
                · rw [h]; rfl
              · intro c hc' y hy
                rcases List.mem_or_eq_of_mem_set hc' with h | h
                · exact hone c h y hy
                · rw [h] at hy; simp at hy; subst hy; exact hox
            obtain ⟨q1, q2⟩ := hst.update (id := id) (blk := .row ty 1 es) (g := .slice (some ⟨b, 0, none⟩) es.length cap) (b := b) hl1 hm rfl (w' := w.setRow b _) (setRow_size w b _) rfl rfl rfl (fun k hk => setRow_other w b k _ hk) hnew
            exact ⟨I, μ, q1, .undef _, Mu.le_refl μ, q2⟩
        · cases h
      · cases h
    · cases h
  · cases h
end
end Go.Hk

/- Contract of namer.in: a term with its bound names chosen anew, in place. -/
namespace Go.Hk
open Go.Proofs
theorem ylw {L : znp} {st : St} {pend : Option Code} {I : Imm} {w : World} {b : Nat} {bs : List Nat} (h : (zdl L st pend).P I w b bs) {i : Nat} {A : Asn} (hl : lk st i = some (some (.hp A))) : ∃ vs bs', A.P vs I w bs' := by
  obtain ⟨r, μ, bs0, h1, h2, h3, h4, h5, h6, h7⟩ := h
  obtain ⟨g, _, vs, bs', _, hP⟩ := h6 i _ hl
  exact ⟨vs, bs', hP⟩
def zyr (scs : List Sc) (m : Nat) : List (List V) := scs.map (fun s => [zen s]) ++ List.replicate m [.nilp]
theorem yja (scs : List Sc) (m : Nat) : (zyr scs (m + 1))[scs.length]? = some [.nilp] := by
  rw [zyr, List.getElem?_append_right (by simp)]; simp [List.replicate]
theorem yi8 (scs : List Sc) (s : Sc) (m : Nat) : (zyr scs (m + 1)).set scs.length [zen s] = zw2 scs s m := by
  rw [zyr, List.set_append_right _ _ (by simp)]; simp [zw2, List.replicate]
theorem rowS_T (scs : List Sc) (s : Sc) (m : Nat) : zw2 scs s m = zyr (scs ++ [s]) m := by simp [zw2, zyr]
theorem yi9 {scs : List Sc} {i : Nat} {sc : Sc} (h : scs[i]? = some sc) (m : Nat) : (zyr scs m)[i]? = some [zen sc] := by
  have hlt := (List.getElem?_eq_some_iff.1 h).1
  rw [zyr, List.getElem?_append_left (by simpa using hlt), List.getElem?_map, h]; rfl
theorem ya3 (scs : List Sc) (m : Nat) : (zyr scs m).length = scs.length + m := by simp [zyr]
def stL1 (b : Nat) (sk : An) (n : Nat) (y : Tm × List Str × List Sc) : St :=
  [(2, some (.cells 105 1 [.ref 7 0])), (4, some (.cells 26 5 [.imm (.int .i64 0), .imm (.int .i64 0), .imm (.str []), .nils, .nils])), (9, some (.hp (zck b sk y.1))),
    (7, some (.cells 107 1 [.own 13 y.2.1.length])), (13, some (.row 9 1 (zbu y.2.1))), (10, some (.row 86 1 (zyr y.2.2 (n - y.2.2.length)))), (11, some (.cells 137 1 [.own 10 n]))]
def envL1 (b n i : Nat) (s : Sc) : Env := [(36, .imm (.int .i64 i)), (35, .imm (.int .i64 n)), (2, .imm (zen s)), (9, .ref 11 0), (4, .raw (.pointer (some ⟨b, 0, none⟩))), (3, .ref 2 0), (6, .ref 4 0)]
def stL2 (b : Nat) (sk : An) (n : Nat) (scs : List Sc) (T : Tm) (tk : List Str) : St :=
  [(2, some (.cells 105 1 [.ref 7 0])), (4, some (.cells 26 5 [.imm (.int .i64 0), .imm (.int .i64 0), .imm (.str []), .nils, .nils])), (9, some (.hp (zck b sk T))),
    (7, some (.cells 107 1 [.own 13 tk.length])), (13, some (.row 9 1 (zbu tk))), (10, some (.row 86 1 (zyr scs (n - scs.length)))), (11, some (.cells 137 1 [.own 10 n]))]
def envL2 (b n i : Nat) (v : Value) : Env := [(82, .imm (.int .i64 i)), (81, .imm (.int .i64 n)), (80, .raw v), (9, .ref 11 0), (4, .raw (.pointer (some ⟨b, 0, none⟩))), (3, .ref 2 0), (6, .ref 4 0)]
def InvL1 (sk : An) (t : Tm) (n : Nat) (tk : List Str) (s : Sc) (y : Tm × List Str × List Sc) : Prop :=
  y.2.2.length ≤ n ∧ zhr sk y.1 ∧ (∀ op m x ks ps, t = .mk op m x ks ps → ∃ x' ps', y.1 = .mk op m x' ks ps' ∧ ps'.length = ps.length) ∧ (∀ m, (zad y.1 m).length = (zad t m).length) ∧
    y.2.1.length + zgp t (n - y.2.2.length) y.2.2.length ≤ tk.length + zgp t n 0 ∧ l1 n 0 t tk s [] = l1 (n - y.2.2.length) y.2.2.length y.1 y.2.1 s y.2.2
theorem hp_of {t : Tm} (hp : zfc t) {op n : Int} {x : Str} {ks : List Tm} {ps : List Ty} (ht : t = .mk op n x ks ps) {i : Nat} (hi : i < ks.length) (h1 : zb2 op i = false) (h2 : zci op i = true) : i - 1 < ps.length := by
  subst ht
  obtain ⟨_, h, _⟩ := hp
  obtain ⟨p, q, _⟩ := h i hi h1 h2
  have := (List.getElem?_eq_some_iff.1 q).1
  have h3 : 0 < i := by simp [zci] at h2; omega
  omega
set_option maxRecDepth 100000 in
theorem ybp : ∀ (t : Tm) (s : Sc) (tk : List Str) (sk : An) (op n : Int) (x xx : Str) (v u : Value) (js qs : List An) (ks : List Tm) (ps : List Ty), t = .mk op n x ks ps → sk = .mk true op n xx v js u qs → zi9 sk → zj8 t → zfc t → tk.length + ybk t ≤ 699 →
    zc5 Tryz.prog 81 [.ref 7 0, yfp op n x v u, .imm (zen s)] [(1, some (.hp (yem sk t))), (7, some (.cells 107 1 [.own 8 tk.length])), (8, some (.row 9 1 (zbu tk)))]
    (.ret (yfp op n (textTm (zlb t s tk).1) v u) [(5, some (.hp (yem sk (zlb t s tk).1))), (7, some (.cells 107 1 [.own 13 (zlb t s tk).2.length])), (13, some (.row 9 1 (zbu (zlb t s tk).2)))])
  | t, s, tk, sk, op, n, x, xx, v, u, js, qs, ks, ps, ht, hsk, hfull, hwide, hpats, htk => by
    refine zaf ttX_ok Tryz.func81 (by decide +kernel) rfl [2, 3, 4, 13, 5, 9, 10, 11, 12, 6, 14, 15, 16, 17, 18] rfl rfl ?_
    refine xg [] rfl (by simp) ?_
    refine yd9 (ids' := [5, 9, 10, 11, 12, 6, 14, 15, 16, 17, 18]) 8 13 7 rfl rfl rfl ?_
    refine zab rfl (fun h => ?_) (fun h => ?_)
    · have e : op = 4 := by simpa using h
      have key : ∀ y : Str, ∀ vs I w bs, (yem sk t).P vs I w bs → ∃ (_ : Unit) (bs' : List Nat), (∀ b ∈ bs', b ∈ bs) ∧ (yem sk (.mk op n y ks ps)).P [] I w bs' := by
        rintro y vs I w bs ⟨a, h1, h2, h3, h4, h5⟩
        subst ht
        rcases a with ⟨s0, o', n', x', v', ks', u', ps'⟩ | ⟨s0, cs0, c0⟩
        case im => rw [hsk] at h1; simp [er] at h1
        have hs : s0 = true := by rw [hsk] at h1; simp only [er, An.mk.injEq] at h1; exact h1.1
        subst hs
        refine ⟨(), bs, fun _ h => h, .mk true o' n' y v' ks' u' ps', by rw [← h1]; rfl, ?_, h3, h4, by simpa only [anW] using h5⟩
        simp only [vA, dTmc, List.cons.injEq] at h2 ⊢
        exact ⟨h2.1, h2.2.1, trivial, h2.2.2.2⟩
      refine yhy (ids' := [9, 10, 11, 12, 6, 14, 15, 16, 17, 18]) 1 5 (fun _ : Unit => yem sk (.mk op n ((zic s x).getD x) ks ps)) rfl (key _) fun _ => ?_
      refine xd [] rfl (by simp) ?_
      refine zac rfl (fun _ => yjw s x) (by simp) ?_
      have e2 : zlb t s tk = (.mk op n ((zic s x).getD x) ks ps, tk) := by subst ht; simp [zlb, e]
      rw [e2]
      cases hl : zic s x with
      | none =>
        refine xg [] rfl (by simp) ?_
        refine zab rfl (fun h => by simp at h) (fun h => ?_)
        refine xd [] rfl (by simp) ?_
        exact zaa ⟨_, rfl, rfl, rfl, rfl, rfl, trivial⟩
      | some y =>
        refine xg [] rfl (by simp) ?_
        refine zab rfl (fun h => ?_) (fun h => by simp at h)
        refine xd [] rfl (by simp) ?_
        exact zaa ⟨_, rfl, rfl, rfl, rfl, rfl, trivial⟩
    · have e : op ≠ 4 := by simpa using h
      refine zog (ids' := [9, 10, 11, 12, 6, 14, 15, 16, 17, 18]) 3 5 rfl rfl fun b => ?_
      refine zz6 (ids' := [10, 11, 12, 6, 14, 15, 16, 17, 18]) 1 5 9 (fun _ : Unit => zck b sk t) rfl rfl (by decide) (fun vs us I w b1 b2 h1 h2 hd => ⟨(), b :: b1, ycq hsk ht h1 h2 hd⟩) fun _ => ?_
      have hfQ : yd1 sk := by rw [hsk] at hfull ⊢; exact hfull.2
      refine zd2 9 (fun _ : { _y : Unit // zhr sk t } => zck b sk t) rfl (fun vs I w bs h => ⟨⟨(), yhq hfQ (by rw [ht] at hwide ⊢; exact hwide.2.2.1) h⟩, h⟩) fun z => ?_
      obtain ⟨_, hfine⟩ := z
      have hv : ∃ ad c, v = .slice ad ks.length c ∧ js.length = ks.length ∧ (0 < ks.length → ∃ rb, ad = some ⟨rb, 0, none⟩) := by
        obtain ⟨a, o', n', x', ad, c, ks', u', qs', h1, h2, h3, _, _, h4, _⟩ := hfine
        obtain ⟨tks, tps, h5, h6, _⟩ := zlw h3 h2
        rw [ht] at h5; cases h5
        rw [hsk, h3] at h1
        simp only [er, An.mk.injEq] at h1
        exact ⟨ad, c, by rw [← h1.2.2.2.2.1, h6], by rw [← h1.2.2.2.2.2.1, zev, h6], by rw [← h6]; exact h4⟩
      obtain ⟨ad, c, rfl, hjl, hadr⟩ := hv
      refine xd [] rfl (by simp) ?_
      have hkl : ks.length ≤ 1000000 := by rw [ht] at hwide; exact hwide.1
      refine zbn ttX_ok 9 [.raw (.slice ad ks.length c)] rfl rfl (fun _ vs I w bs h => (zd5 (by rw [hsk] at h; exact h)).1) rfl rfl (by simp) ?_
      refine xg [] rfl (by simp) ?_
      refine yhj ttX_ok rfl rfl (by simp) (by simp; omega) (by simp [maxLen]; omega) rfl ?_
      rw [List.length_replicate]
      refine xg [] rfl (by simp) ?_
      refine zbn ttX_ok 9 [.raw (.slice ad ks.length c)] rfl rfl (fun _ vs I w bs h => (zd5 (by rw [hsk] at h; exact h)).1) rfl rfl (by simp) ?_
      refine xg [] rfl (by simp) ?_
      have hocc : zgp t ks.length 0 + zm1 ks = ybk t := by rw [ht]; simp [ybk, e]
      refine zak (fun y : Tm × List Str × List Sc => envL1 b ks.length y.2.2.length s) (fun y => stL1 b sk ks.length y) [12, 6, 14, 15, 16, 17, 18] (fun y => ks.length - y.2.2.length) (InvL1 sk t ks.length tk s) (t, tk, [])
        ⟨Nat.zero_le _, hfine, fun _ _ _ _ _ h => ⟨_, _, h, rfl⟩, fun _ => rfl, Nat.le_refl _, rfl⟩ ⟨rfl, rfl, rfl, rfl, rfl, rfl, rfl, trivial⟩ ⟨rfl, rfl, rfl, rfl, rfl, rfl, rfl, trivial⟩ rfl fun y hi ih => ?_
      obtain ⟨T, tk1, scs⟩ := y
      obtain ⟨g1, g2, g3, g4, g5, g6⟩ := hi
      simp only at g1 g2 g3 g4 g5 g6
      refine xd [] rfl (by simp) ?_
      refine zab rfl (fun h => ?_) (fun h => ?_)
      · simp at h
        obtain ⟨m, hm⟩ : ∃ m, ks.length - scs.length = m + 1 := ⟨ks.length - scs.length - 1, by omega⟩
        have hm2 : ks.length - scs.length - 1 = m := by omega
        refine xd [] rfl (by simp) ?_
        refine zjz ttX_ok rfl (fun _ => ⟨by simp, by simp only [ya3]; omega⟩) (by simp) ?_
        have hone : V.one (zen s) = true := by
          rcases s with _ | ⟨⟨_, _⟩, _⟩ <;> rfl
        refine yj8 (y := .nilp) ttX_ok rfl (by simp only [hm]; exact yja scs m) hone ?_
        refine xg [] rfl (by simp) ?_
        have hrow : (zyr scs (ks.length - scs.length)).set scs.length [zen s] = zw2 scs s (ks.length - scs.length - 1) := by rw [hm, yi8]; rfl
        obtain ⟨x1, ps1, hT, hps1⟩ := g3 _ _ _ _ _ ht
        have hbl := hp_of hpats ht h
        have hb90 : tk1.length + (zad T scs.length).length ≤ 699 := by
          rw [hm] at g5
          simp only [zgp] at g5
          rw [g4]; omega
        obtain ⟨r1, r2, r3, r4, r5, r6⟩ := zy8 (i := scs.length) g2 tk1 s (zad T scs.length).length (Nat.le_refl _)
        have hnext : InvL1 sk t ks.length tk s ((rAt scs.length T tk1 s (zad T scs.length).length).2.1, (rAt scs.length T tk1 s (zad T scs.length).length).2.2.1, scs ++ [(rAt scs.length T tk1 s (zad T scs.length).length).2.2.2]) := by
          refine ⟨?_, r2, fun op' m' x' ks' ps' e => ?_, fun m' => (r4 m').trans (g4 m'), ?_, ?_⟩
          · simp only [List.length_append, List.length_singleton]; omega
          · obtain ⟨xa, pa, ea, la⟩ := g3 _ _ _ _ _ e
            obtain ⟨xb, pb, eb, lb⟩ := r6 _ _ _ _ _ ea
            exact ⟨xb, pb, eb, lb.trans la⟩
          · simp only [List.length_append, List.length_singleton]
            rw [r5]
            rw [hm] at g5
            simp only [zgp] at g5
            rw [show ks.length - (scs.length + 1) = m by omega, g4]; omega
          · rw [g6, hm]
            simp only [l1, List.length_append, List.length_singleton]
            rw [ymi, show ks.length - (scs.length + 1) = m by omega]
        have hrow2 : zw2 scs (rAt scs.length T tk1 s (zad T scs.length).length).2.2.2 (ks.length - scs.length - 1) = zyr (scs ++ [(rAt scs.length T tk1 s (zad T scs.length).length).2.2.2]) (ks.length - (scs ++ [(rAt scs.length T tk1 s (zad T scs.length).length).2.2.2]).length) := by
          rw [rowS_T]; congr 1; simp only [List.length_append, List.length_singleton]; omega
        by_cases hB : zb2 op scs.length = true ∨ (zb2 op scs.length = false ∧ zci op scs.length = true)
        · obtain ⟨fB, ty, vB, fcB, cB, q1, q2, q3, q4, q5⟩ := yh9 (b := b) (i := scs.length) g2 hT (by omega) (by
            rcases hB with hB | ⟨hB1, hB2⟩
            · exact .inl hB
            · refine .inr ⟨hB1, hB2, ?_⟩
              have := hbl hB1 hB2
              rw [hps1]; exact this)
          refine zar (fr := [6]) [(9, 1)] [(6, 6)] rfl (by simp) q4 ⟨⟨rfl, rfl, rfl⟩, trivial⟩ rfl rfl rfl rfl ?_
          refine xg [] rfl (by simp) ?_
          refine zdq (y := 3) (j := 4) (j2 := 5) (stc := yeg ty vB) (stc' := yeg ty vB) (stx := stR b sk ks.length scs (rAt scs.length T tk1 s 0)) (stB := stR b sk ks.length scs (rAt scs.length T tk1 s (zad T scs.length).length)) (pend := none) (E := ynr b ks.length scs.length s) (ids' := [6, 14, 15, 16, 17, 18]) (d := .tup []) rfl q1 q2 q3 (show zy2 ∉ [1, 7, 8] by decide) ⟨rfl, rfl, rfl, rfl, rfl, rfl, rfl, rfl, trivial⟩
            (zb4 ⟨rfl, rfl, rfl, rfl, rfl, rfl, congrArg (fun r => some (some (Blk.row 86 1 r))) hrow, rfl, rfl, trivial⟩) (fun L h1 h2 h3 h4 h5 h6 h7 => ?_) ?_ ?_ ?_ ?_ ?_
          · have := q5 (fun j => zdl L (stR b sk ks.length scs (rAt scs.length T tk1 s j)) none) (fun j => ⟨(rAt scs.length T tk1 s j).2.1, fun I w bb bs hP => ylw (i := 9) hP rfl⟩) fun j d hd => by
              have hj : j < (zad T scs.length).length := by
                have := (List.getElem?_eq_some_iff.1 hd).1
                rwa [List.length_map, zyi g2] at this
              rw [Nat.zero_add]
              exact zzg b sk ks.length scs T tk1 s s g2 j hj hb90 h hkl d hd h1 h2 h3 h4 h5 h6 h7
            rw [Nat.zero_add, zyi g2] at this
            exact this
          · simp [yeg, stR, nms]
          · simp [yeg, nms]
          · intro i hi
            have e : nmL (zlh (zie (zbq [(9, 1)] ++ [(6, 6)])) [] ++ zlh (zie (zbq [(9, 1)] ++ [(6, 6)])) [.ref 6 0]) = [6] := rfl
            rw [e] at hi
            simpa [yeg, nms, ze1, nmB, nmL, nmD] using hi
          · refine ⟨by decide, ?_⟩
            simp [stR, ynr, nmE, nmD, ze1, nmB, nmL, nms]
          · refine xd [] rfl (by simp) ?_
            refine zae (ih _ (by simp only [List.length_append, List.length_singleton]; omega) hnext) ⟨by rw [List.length_append]; exact zcr (w64 (by omega) (by omega)), rfl, rfl, rfl, rfl, rfl, rfl, trivial⟩ ⟨rfl, rfl, rfl, rfl, rfl, (show yci (Blk.row 86 1 (zw2 scs (rAt scs.length T tk1 s (zad T scs.length).length).2.2.2 (ks.length - scs.length - 1))) (Blk.row 86 1 (zyr (scs ++ [(rAt scs.length T tk1 s (zad T scs.length).length).2.2.2]) (ks.length - (scs ++ [(rAt scs.length T tk1 s (zad T scs.length).length).2.2.2]).length))) from by rw [hrow2]; rfl), rfl, trivial⟩ rfl
        · have hN : zb2 op scs.length = false ∧ zci op scs.length = false := by
            cases e1 : zb2 op scs.length <;> cases e2 : zci op scs.length <;> simp [e1, e2] at hB ⊢
          have hb0 : (zad T scs.length).length = 0 := by rw [hT]; simp [zad, hN.1, hN.2]
          rw [hb0] at hnext hrow2
          refine zar (fr := []) [(9, 1)] [] rfl (by simp) (zrr (zck b sk T) b op scs.length (by rw [hT]; exact zox (zhq g2)) hN.1 hN.2) ⟨⟨rfl, rfl, rfl⟩, trivial⟩ rfl rfl rfl rfl ?_
          refine xg [] rfl (by simp) ?_
          refine zrb 44 rfl ?_
          refine zdq (y := 3) (j := 4) (j2 := 5) (stc := []) (stc' := []) (stx := stR b sk ks.length scs (rAt scs.length T tk1 s 0)) (stB := stR b sk ks.length scs (rAt scs.length T tk1 s 0)) (pend := none) (E := ynr b ks.length scs.length s) (ids' := [6, 14, 15, 16, 17, 18]) (d := .tup []) rfl Tryz.func99 (by decide +kernel) rfl (show zy2 ∉ [1, 7, 8] by decide) ⟨rfl, rfl, rfl, rfl, rfl, rfl, rfl, rfl, trivial⟩
            (zb4 ⟨rfl, rfl, rfl, rfl, rfl, congrArg (fun r => some (some (Blk.row 86 1 r))) hrow, rfl, rfl, trivial⟩) (fun L h1 h2 h3 h4 h5 h6 h7 => zml) ?_ ?_ ?_ ?_ ?_
          · simp [nms]
          · simp [nms]
          · intro i hi
            have e : nmL (([] : List D) ++ []) = [] := rfl
            rw [e] at hi
            simp [ze1] at hi
          · refine ⟨by decide, ?_⟩
            simp [stR, ynr, nmE, nmD, ze1, nmB, nmL, nms]
          · refine xd [] rfl (by simp) ?_
            refine zae (ih _ (by simp only [List.length_append, List.length_singleton]; omega) hnext) ⟨by rw [List.length_append]; exact zcr (w64 (by omega) (by omega)), rfl, rfl, rfl, rfl, rfl, rfl, trivial⟩ ⟨rfl, rfl, rfl, rfl, rfl, (show yci (Blk.row 86 1 (zw2 scs (rAt scs.length T tk1 s 0).2.2.2 (ks.length - scs.length - 1))) (Blk.row 86 1 (zyr (scs ++ [(rAt scs.length T tk1 s 0).2.2.2]) (ks.length - (scs ++ [(rAt scs.length T tk1 s 0).2.2.2]).length))) from by rw [hrow2]; rfl), rfl, trivial⟩ rfl
      · simp at h
        have hn : scs.length = ks.length := by omega
        have hz : ks.length - scs.length = 0 := by omega
        rw [hz] at g5 g6
        simp only [l1] at g6
        simp only [zgp] at g5
        clear ih
        obtain ⟨x1, ps1, hT, hps1⟩ := g3 _ _ _ _ _ ht
        refine za2 rfl ?_
        refine xd [] rfl (by simp) ?_
        refine zbn ttX_ok 9 [.raw (.slice ad ks.length c)] rfl rfl (fun _ vs I w bs h => (zd5 (by rw [hsk] at h; exact h)).1) rfl rfl (by simp) ?_
        refine xg [] rfl (by simp) ?_
        have hcan : zlb t s tk = (.mk op n x1 (zge ks scs tk1).1 ps1, (zge ks scs tk1).2) := by
          subst ht
          simp only [zlb, if_neg e, g6, hT, yi2]
        have hokq := zhq g2
        refine zak (fun y : Nat × List Tm × List Str => envL2 b ks.length y.1 (.slice ad ks.length c)) (fun y => stL2 b sk ks.length scs (.mk op n x1 y.2.1 ps1) y.2.2) [6, 14, 12, 15, 16, 17, 18] (fun y => ks.length - y.1)
          (fun y => y.1 ≤ ks.length ∧ y.2.1.length = ks.length ∧ y.2.1.drop y.1 = ks.drop y.1 ∧ y.2.2.length + zm1 (ks.drop y.1) ≤ 699 ∧ zge ks scs tk1 = (y.2.1.take y.1 ++ (zge (ks.drop y.1) (scs.drop y.1) y.2.2).1, (zge (ks.drop y.1) (scs.drop y.1) y.2.2).2)) (0, ks, tk1)
          ⟨Nat.zero_le _, rfl, rfl, by simp only [List.drop_zero]; omega, rfl⟩ ⟨rfl, rfl, rfl, rfl, rfl, rfl, rfl, trivial⟩ ⟨rfl, rfl, by rw [hT]; rfl, rfl, rfl, rfl, rfl, trivial⟩ rfl fun y hi ih => ?_
        obtain ⟨i, kn, tk2⟩ := y
        obtain ⟨d1, d2, d3, d4, d5⟩ := hi
        simp only at d1 d2 d3 d4 d5
        refine xd [] rfl (by simp) ?_
        refine zab rfl (fun h => ?_) (fun h => ?_)
        · simp at h
          obtain ⟨rb, rfl⟩ := hadr (by omega)
          obtain ⟨k, hk⟩ := zal h
          have hkn : kn[i]? = some k := by
            have := congrArg (fun l => l[0]?) d3
            simp only [List.getElem?_drop, Nat.add_zero] at this
            rw [this]; exact hk
          have hkK : tmK (.mk op n x1 kn ps1) i = some k := hkn
          obtain ⟨sc, hsc⟩ := zal (show i < scs.length by omega)
          obtain ⟨skc, hskc⟩ : ∃ skc, js[i]? = some skc := zal (by omega)
          have hsK : skK sk i = some skc := by rw [hsk]; exact hskc
          have hfc : zi9 skc := by rw [hsk] at hfull; exact zm9 hfull.1 hskc
          refine zd2 9 (fun _ : { y : Int × Int × Str × Value × List An × Value × List An × Str × List Tm × List Ty // skc = .mk true y.1 y.2.1 y.2.2.1 y.2.2.2.1 y.2.2.2.2.1 y.2.2.2.2.2.1 y.2.2.2.2.2.2.1 ∧ k = .mk y.1 y.2.1 y.2.2.2.2.2.2.2.1 y.2.2.2.2.2.2.2.2.1 y.2.2.2.2.2.2.2.2.2 } => zck b sk (.mk op n x1 kn ps1)) rfl (fun vs I w bs h => by
            obtain ⟨o, n, x, v, js, u, qs, tx, tks, tps, h1, h2⟩ := yfn hokq hfc hsK hkK h
            exact ⟨⟨(o, n, x, v, js, u, qs, tx, tks, tps), h1, h2⟩, h⟩) fun z => ?_
          obtain ⟨⟨oc, nc, xc, vc, jsc, uc, qsc, tx, tks, tps⟩, hskc2, hk2⟩ := z
          simp only at hskc2 hk2
          refine ym9 (ids' := [12, 15, 16, 17, 18]) 9 6 14 (fun _ : Unit => yih b sk (.mk op n x1 kn ps1) i) (fun _ => yem skc k) rfl (fun vs I w bs h => by
            obtain ⟨b1, b2, e1, e2, e3, e4, e5⟩ := ydz hokq hsK hkK h
            exact ⟨(), b1, b2, e1, e2, e3, e4, e5⟩) fun _ => ?_
          refine xd [] rfl (by simp) ?_
          refine zdf ttX_ok rfl rfl (fun _ => ⟨by simp, by simpa using h⟩) (by simp) ?_
          refine xg [] rfl (by simp) ?_
          refine zbn ttX_ok 6 [.imm (.int .i64 oc), .imm (.int .i64 nc), .imm (.str tx), .raw vc, .raw uc] rfl rfl (fun _ vs I w bs h => by have := yd0 hokq hsk hsK hskc2 hkK hk2 h; simpa using this) rfl rfl (by simp) ?_
          refine xg [] rfl (by simp) ?_
          refine zbn ttX_ok 6 [.raw (.slice (some ⟨rb, 0, none⟩) ks.length c)] rfl rfl (fun _ vs I w bs h => yj5 (by rw [hsk] at h; exact h)) rfl rfl (by simp) ?_
          refine xg [] rfl (by simp) ?_
          refine zjz ttX_ok rfl (fun _ => ⟨by simp, by simp only [ya3]; omega⟩) (by simp) ?_
          refine xg [] rfl (by simp) ?_
          refine zzr (e := [zen sc]) ttX_ok rfl (fun _ => yi9 hsc _) rfl (by simp) ?_
          refine xg [] rfl (by simp) ?_
          have hmem : k ∈ ks := List.mem_of_getElem? hk
          have hoc : zm1 (ks.drop i) = ybk k + zm1 (ks.drop (i + 1)) := by rw [zaq hk]; rfl
          have IH := ybp k sc tk2 skc oc nc tx xc vc uc jsc qsc tks tps hk2 hskc2 hfc (by rw [ht] at hwide; exact zfr hwide.2.2.2 hmem) (by rw [ht] at hpats; exact zf4 hpats.2.2 hmem) (by omega)
          obtain ⟨x2, ks2, ps2, hsh⟩ := znm oc nc tx tks tps sc tk2
          rw [← hk2] at hsh
          rw [hsh] at IH
          refine zar (fr := [15, 16]) [(14, 1), (7, 7), (13, 8)] [(5, 15), (13, 16)] rfl (by simp) IH ⟨⟨rfl, rfl, rfl⟩, ⟨rfl, rfl, rfl⟩, ⟨rfl, rfl, rfl⟩, trivial⟩ rfl rfl rfl rfl ?_
          refine xg [] rfl (by simp) ?_
          refine zdf ttX_ok rfl rfl (fun _ => ⟨by simp, by simpa using h⟩) (by simp) ?_
          refine zl9 ttX_ok 6 15 17 (zck b sk (zcs (.mk op n x1 kn ps1) i (.mk oc nc x2 ks2 ps2))) rfl rfl rfl (by decide) (by
            have := ydy (b := b) (o2 := oc) (n2 := nc) (x2 := x2) (ks2 := ks2) (ps2 := ps2) 15 hokq hsk hsK hskc2 hkK
            have e : 0 + ((i : Int)).toNat * 5 = i * 5 := by simp
            show zh3 _ _ _ 15 rb (0 + ((i : Int)).toNat * 5) [.imm (.int .i64 oc), .imm (.int .i64 nc), .imm (.str x2), .raw vc, .raw uc]
            rw [e]
            exact this) ?_
          refine xg [] rfl (by simp; rfl) ?_
          refine zcq 9 17 rfl ?_
          refine zcq 13 16 rfl ?_
          have hcl := zvk k sc tk2
          have hcan2 : zge (ks.drop i) (scs.drop i) tk2 = (.mk oc nc x2 ks2 ps2 :: (zge (ks.drop (i + 1)) (scs.drop (i + 1)) (zlb k sc tk2).2).1, (zge (ks.drop (i + 1)) (scs.drop (i + 1)) (zlb k sc tk2).2).2) := by
            rw [zaq hk, zaq hsc]
            simp only [zge, List.headD_cons, List.tail_cons, hsh]
          have hks : (kn.set i (.mk oc nc x2 ks2 ps2))[i]? = some (.mk oc nc x2 ks2 ps2) := by rw [List.getElem?_set_self (by omega)]
          refine zae (ih (i + 1, kn.set i (.mk oc nc x2 ks2 ps2), (zlb k sc tk2).2) (by simp only; omega) ⟨by simp only; omega, by simp only [List.length_set]; exact d2, ?_, by simp only; omega, ?_⟩) ⟨zcr (w64 (by simp only; omega) (by simp only; omega)), rfl, rfl, rfl, rfl, rfl, rfl, trivial⟩ ⟨rfl, rfl, rfl, rfl, rfl, rfl, rfl, trivial⟩ rfl
          · simp only
            rw [List.drop_set_of_lt (by omega)]
            have := congrArg (List.drop 1) d3
            rwa [List.drop_drop, List.drop_drop] at this
          · simp only
            rw [d5, hcan2, zb7 hks, List.take_set_of_le (Nat.le_refl _)]
            simp
        · simp at h
          have hi : i = ks.length := by omega
          subst hi
          rw [List.drop_eq_nil_of_le (Nat.le_refl _)] at d5
          simp only [zge, List.append_nil] at d5
          rw [List.take_of_length_le (by omega)] at d5
          rw [d5] at hcan
          clear ih
          refine za2 rfl ?_
          refine xd [] rfl (by simp) ?_
          refine zbn ttX_ok 9 [.imm (.int .i64 op), .imm (.int .i64 n), .imm (.str x1), .raw (.slice ad ks.length c), .raw u] rfl rfl (fun _ vs I w bs h => zk1 hsk rfl h) rfl rfl (by simp) ?_
          refine xg [] rfl (by simp) ?_
          refine yhy (ids' := [14, 12, 15, 16, 17, 18]) 9 6 (fun _ : Unit => yem sk (.mk op n x1 kn ps1)) rfl (fun vs I w bs h => ⟨(), yjd h⟩) fun _ => ?_
          refine zcq 5 6 rfl ?_
          rw [hcan]
          exact zaa ⟨_, rfl, rfl, rfl, rfl, rfl, trivial⟩
termination_by t => SizeOf.sizeOf t
decreasing_by
  all_goals
    have := List.sizeOf_lt_of_mem hmem
    subst ht
    simp_wf
    omega
end Go.Hk

/- Contract of term.Free: the free names of a term, sorted, or the error. -/
namespace Go.Hk
open Go.Proofs
end Go.Hk

/- Contract of canon: a formed term with its bound names chosen anew. -/
namespace Go.Hk
open Go.Proofs Go.RowKit Go.Maps Go.Sort
set_option maxRecDepth 100000 in
theorem ycl (m : List Str) (hm : ∀ s ∈ m, s.length ≤ maxLen) (hlen : m.length ≤ 1000000) :
    zc5 Tryz.prog 47 [.mapr 1] [(1, some (.map (zem m)))] (.ret (.own 2 (zbu (zfz m)).length) [(1, some (.map (zem m))), (2, some (.row 9 1 (zbu (zfz m))))]) := by
  intro I μ w xs hst hx
  obtain ⟨xl⟩ := xs
  have hx1 : xl.length = 1 := hx.1
  match xl, hx1 with
  | [x], _ =>
  have hxm : RepD I μ x (.mapr 1) := hx.2 0 x _ rfl rfl
  obtain ⟨g, hg, r, es, clock, e1, e2, e3, e4, e5⟩ := hst.blk 1 _ rfl
  subst e1
  have hxv : x = .map (some r) := by
    cases hxm with
    | mapr _ b h => rw [hg] at h; cases h; rfl
  subst hxv
  have hlen2 : es.toList.length = m.length := by simpa [zem] using e3
  have hkey : ∀ (i : Nat) (e : MapEntry), es.toList[i]? = some e → ∃ s, m[i]? = some s ∧ yno e.key = s ∧ (∃ b : ByteArray, e.key = .string b ∧ b.size ≤ maxLen) ∧ ∃ c, e.val = .bool c := by
    intro i e hi
    obtain ⟨s, hs⟩ : ∃ s, m[i]? = some s := ⟨_, List.getElem?_eq_getElem (by rw [← hlen2]; exact (List.getElem?_eq_some_iff.1 hi).1)⟩
    obtain ⟨h1, h2⟩ := e5 i e (.str s, .bool true) (by simpa using hi) (by simp [zem, hs])
    refine ⟨s, hs, ?_⟩
    generalize e.key = k at h1
    generalize e.val = u at h2
    cases h1 with
    | str b l hb =>
      cases h2 with
      | bool c =>
        refine ⟨hb, ⟨b, rfl, ?_⟩, _, rfl⟩
        have := hm s (List.mem_of_getElem? hs)
        rw [← hb] at this
        show b.data.size ≤ maxLen
        rw [← Array.length_toList]; exact this
  have hkeys : es.toList.map (fun e => yno e.key) = m := by
    refine List.ext_getElem? fun i => ?_
    rw [List.getElem?_map]
    cases hi : es.toList[i]? with
    | none =>
      have : m[i]? = none := by
        rw [List.getElem?_eq_none_iff] at hi ⊢; omega
      rw [this]; rfl
    | some e =>
      obtain ⟨s, h1, h2, _⟩ := hkey i e hi
      rw [h1, ← h2]; rfl
  have hrun : (callFunc 47 #[.map (some r)]).run Tryz.prog w = .ok (.enter 47 #[.map (some r)]) w := Hk.run_callFunc_body (Go.Proofs.Tryz.func47) (by decide +kernel) rfl _
  show valX Tryz.prog ((callFunc 47 #[.map (some r)]).run Tryz.prog w) _ _
  rw [hrun]
  refine (znw w r es clock e2 e4 (fun e he => ?_) (by rw [← Array.length_toList, hlen2]; exact hlen)).mono ?_
  · obtain ⟨i, hi⟩ := List.getElem?_of_mem he
    obtain ⟨s, _, _, h⟩ := hkey i e hi
    exact h
  rintro e w' ⟨v, ss, rfl, h2, h3, h4, h5⟩
  rw [hkeys] at h2
  have hss : ss.mergeSort (fun x y => decide (x ≤ y)) = zfz m := mergeSort_of_perm h2
  rw [hss] at h3
  have hsz : (zfz m).length = ss.length := by rw [← hss]; exact List.length_mergeSort _
  have hw : ∀ k, k < w.heap.size → w'.heap[k]? = w.heap[k]? := fun k hk => h5.block k hk
  obtain ⟨ν, hν⟩ : ∃ ν : Mu, ν = fun k => if k = 2 then some v else μ k := ⟨_, rfl⟩
  have hν2 : ν 2 = some v := by rw [hν]; simp
  have hνo : ∀ k, k ≠ 2 → ν k = μ k := fun k hk => by rw [hν]; simp [hk]
  have hlen : (zbu (zfz m)).length = ss.length := by simp [zbu, hsz]
  have hadr : ∀ k, zgd v k → w.heap.size ≤ k := fun k hk => by
    rcases h3.2 with ⟨rfl, _⟩ | ⟨gb, cap, cur, rfl, hbase, _⟩
    · exact hk.elim
    · exact hk ▸ hbase
  have hadr2 : ∀ k, zgd v k → k < w'.heap.size := fun k hk => by
    rcases h3.2 with ⟨rfl, _⟩ | ⟨gb, cap, cur, rfl, hbase, hheap, _⟩
    · exact hk.elim
    · exact hk ▸ (Array.getElem?_eq_some_iff.1 hheap).1
  have hI : ∀ k, w.heap.size ≤ k → I k = none := fun k hk => by
    cases hk' : I k with
    | none => rfl
    | some o =>
      have := (Array.getElem?_eq_some_iff.1 (hst.imm k o hk')).1
      omega
  have hblk : BlkRep I ν w' v (.row 9 1 (zbu (zfz m))) := by
    refine ⟨(zfz m).map encStr, ?_, ?_, fun e he => ?_, fun e he x hx => ?_, Nat.one_pos⟩
    · refine ⟨by rw [hlen]; simpa using h3.1, ?_⟩
      rcases h3.2 with ⟨h0, h1⟩ | ⟨gb, cap, cur, h1, hbase, h2⟩
      · exact .inl ⟨h0, by rw [hlen]; exact h1⟩
      · exact .inr ⟨gb, cap, cur, by rw [hlen]; exact h1, Nat.zero_le _, by rw [hlen]; exact h2⟩
    · generalize zfz m = l
      have e1 : (zbu l).flatten = l.map V.str := by
        induction l with
        | nil => rfl
        | cons a r ih => rw [show zbu (a :: r) = [V.str a] :: zbu r from rfl, List.flatten_cons, ih]; rfl
      refine ⟨by rw [e1]; simp, fun i c x hc hx => ?_⟩
      rw [e1, List.getElem?_map] at hx
      rw [List.getElem?_map] at hc
      cases hl : l[i]? with
      | none => rw [hl] at hc; cases hc
      | some a => rw [hl] at hc hx; cases hc; cases hx; exact ztp _ _
    · simp only [zbu, List.mem_map] at he
      obtain ⟨a, _, rfl⟩ := he; rfl
    · simp only [zbu, List.mem_map] at he
      obtain ⟨a, _, rfl⟩ := he
      simp at hx; subst hx; rfl
  have hst1 : ∀ i b, zap [(1, some (Blk.map (zem m))), (2, some (.row 9 1 (zbu (zfz m))))] i b → (i = 1 ∧ b = .map (zem m)) ∨ (i = 2 ∧ b = .row 9 1 (zbu (zfz m))) := fun i b h => by
    rcases zah.1 h with h | ⟨_, h⟩
    · exact .inl h
    · rcases zah.1 h with h | ⟨_, h⟩
      · exact .inr h
      · simp [zap, lk] at h
  have hl1 : zap [(1, some (Blk.map (zem m)))] 1 (.map (zem m)) := zah.2 (.inl ⟨rfl, rfl⟩)
  refine ⟨I, ν, ?_, ?_, ?_, ?_⟩
  · rw [hlen]
    obtain ⟨a, cap, rfl⟩ : ∃ a cap, v = .slice a ss.length cap := by
      rcases h3.2 with ⟨h0, h1⟩ | ⟨gb, cap, cur, h1, _⟩
      · exact ⟨none, 0, by rw [h0, h1]⟩
      · exact ⟨_, cap, h1⟩
    exact .own _ _ _ _ hν2
  · exact
      { imm := fun k o h => by
          have := hst.imm k o h
          rw [hw k (Array.getElem?_eq_some_iff.1 this).1]; exact this
        blk := fun i b hl => by
          rcases hst1 i b hl with ⟨rfl, rfl⟩ | ⟨rfl, rfl⟩
          · obtain ⟨gi, q1, q2⟩ := hst.blk 1 _ hl1
            exact ⟨gi, by rw [hνo 1 (by decide)]; exact q1, (show BlkRep I ν w' gi (.map (zem m)) from q2.world fun k hk => hw k (hst.apart 1 _ gi k hl1 q1 hk).2)⟩
          · exact ⟨v, hν2, hblk⟩
        apart := fun i b gi k hl hgi hk => by
          rcases hst1 i b hl with ⟨rfl, rfl⟩ | ⟨rfl, rfl⟩
          · rw [hνo 1 (by decide)] at hgi
            obtain ⟨q1, q2⟩ := hst.apart 1 _ gi k hl1 hgi hk
            exact ⟨q1, Nat.lt_of_lt_of_le q2 h5.size⟩
          · rw [hν2] at hgi; cases hgi
            exact ⟨hI k (hadr k hk), hadr2 k hk⟩
        inj := fun i j bi bj gi gj k hi hj hgi hgj hki hkj => by
          rcases hst1 i bi hi with ⟨rfl, rfl⟩ | ⟨rfl, rfl⟩ <;> rcases hst1 j bj hj with ⟨rfl, rfl⟩ | ⟨rfl, rfl⟩
          · rfl
          · rw [hνo 1 (by decide)] at hgi
            rw [hν2] at hgj; cases hgj
            have := (hst.apart 1 _ gi k hl1 hgi hki).2
            have := hadr k hkj
            omega
          · rw [hνo 1 (by decide)] at hgj
            rw [hν2] at hgi; cases hgi
            have := (hst.apart 1 _ gj k hl1 hgj hkj).2
            have := hadr k hki
            omega
          · rfl
        nodup := .nil
        idsFree := fun _ h => by simp at h }
  · intro i hi u hu
    have : i ≠ 2 := fun e => by subst e; simp [nms] at hi
    rw [hνo i this]; exact hu
  · exact
      { imm := Imm.le_refl I, os := h5.os, tape := h5.tape, output := h5.output, size := h5.size
        block := fun k hk _ => hw k hk
        fresh := fun k hk ⟨i, b, gi, hl, hgi, hki⟩ => by
          rcases hst1 i b hl with ⟨rfl, rfl⟩ | ⟨rfl, rfl⟩
          · exact ⟨1, _, gi, hl1, by rw [← hνo 1 (by decide)]; exact hgi, hki⟩
          · rw [hν2] at hgi; cases hgi
            have := hadr k hki
            omega
        old := fun k hk _ => rfl }
end Go.Hk

/- Plain laws of names that are chosen anew: form. -/
namespace Go.Hk
open Go.Proofs
mutual
theorem zuh : ∀ (t : Ty) (j : Nat) (x : Str), zcj x = true → zcc t = true → zcc (zer t j x) = true ∧ ∀ l, zbz (zer t j x) l = zbz t l
  | .mk s n y ps, j, x, hx, h => by
    simp only [zcc, Bool.and_eq_true] at h
    have hgo : ∀ j, zer (.mk s n y ps) (j + 1) x = .mk s n y (zel ps j x) ∨ s ≠ 2 := fun j => by
      by_cases e : s = 2
      · exact .inl (by simp [zer, e])
      · exact .inr e
    by_cases e : s = 2
    · cases j with
      | zero =>
        have h1 := h.1
        simp [zib, e] at h1
        simp [zer, zcc, zib, zbz, e, h1, hx, h.2]
        have := h.2
        rw [h1.1.1] at this; exact this
      | succ j =>
        obtain ⟨a, b, c⟩ := zpq ps j x hx h.2
        have e2 : zer (.mk s n y ps) (j + 1) x = .mk s n y (zel ps j x) := by simp [zer, e]
        rw [e2]
        simp only [zcc, zbz, c, h.1, a, b, Bool.and_self]
        exact ⟨trivial, fun _ => trivial⟩
    · obtain ⟨a, b, c⟩ := zpq ps j x hx h.2
      have e2 : zer (.mk s n y ps) j x = .mk s n y (zel ps j x) := by simp [zer, e]
      rw [e2]
      simp only [zcc, zbz, c, h.1, a, b, Bool.and_self]
      exact ⟨trivial, fun _ => trivial⟩
theorem zpq : ∀ (l : List Ty) (j : Nat) (x : Str), zcj x = true → zbr l = true → zbr (zel l j x) = true ∧ (∀ w, zb1 (zel l j x) w = zb1 l w) ∧ (zel l j x).length = l.length
  | [], j, x, hx, h => by simp [zel, zbr, zb1]
  | t :: r, j, x, hx, h => by
    simp only [zbr, Bool.and_eq_true] at h
    obtain ⟨a, b⟩ := zuh t j x hx h.1
    obtain ⟨c, d, e⟩ := zpq r (j - (zc6 t).length) x hx h.2
    simp only [zel]
    split
    · simp [zbr, zb1, a, b, h.2]
    · simp [zbr, zb1, c, d, e, h.1]
end
theorem zof : ∀ (l pre : List Str), zbg pre l = true ↔ l.Nodup ∧ ∀ x ∈ l, x ∉ pre
  | [], pre => by simp [zbg]
  | x :: r, pre => by
    have hb : zbp pre x = false ↔ x ∉ pre := by
      cases h : zbp pre x with
      | true => simp [za1.1 h]
      | false => simp; intro hm; rw [za1.2 hm] at h; cases h
    simp only [zbg, Bool.and_eq_true, Bool.not_eq_true', hb, zof r, List.nodup_cons, List.mem_append, List.mem_cons, List.not_mem_nil, or_false, not_or]
    constructor
    · rintro ⟨h1, h2, h3⟩
      refine ⟨⟨fun h => (h3 x h).2 rfl, h2⟩, fun y hy => ?_⟩
      rcases hy with rfl | hy
      · exact h1
      · exact (h3 y hy).1
    · rintro ⟨⟨h1, h2⟩, h3⟩
      exact ⟨h3 x (.inl rfl), h2, fun y hy => ⟨h3 y (.inr hy), fun e => h1 (e ▸ hy)⟩⟩
theorem zht (l : List Str) : zjc l = true ↔ l.Nodup := by simp [zjc, zof]
def yim (p : Ty) : Nat → List Str → Ty
  | _, [] => p
  | j, f :: r => yim (zer p j f) (j + 1) r
def zke (T : Tm) (i : Int) : Nat → List Str → Tm
  | _, [] => T
  | j, f :: r => zke (zea T i j f) i (j + 1) r
def zfd : Nat → List Str → List Str
  | 0, _ => []
  | n + 1, tk => zbc tk :: zfd n (tk ++ [zbc tk])
theorem zna : ∀ (n : Nat) (tk : List Str), (zfd n tk).length = n
  | 0, _ => rfl
  | n + 1, tk => by simp [zfd, zna n]
theorem zxy : ∀ (n : Nat) (tk : List Str), tk.length + n ≤ 700 → (zfd n tk).Nodup ∧ ∀ f ∈ zfd n tk, zcj f = true ∧ f ∉ tk
  | 0, tk, _ => by simp [zfd]
  | n + 1, tk, h => by
    obtain ⟨h1, h2⟩ := ze2 tk (by omega)
    obtain ⟨h3, h4⟩ := zxy n (tk ++ [zbc tk]) (by simp; omega)
    simp only [zfd, List.nodup_cons]
    refine ⟨⟨fun hm => ?_, h3⟩, fun f hf => ?_⟩
    · exact (h4 _ hm).2 (List.mem_append_right _ (List.mem_singleton.2 rfl))
    · rcases List.mem_cons.1 hf with e | hf
      · rw [e]; exact ⟨h1, h2⟩
      · obtain ⟨a, b⟩ := h4 f hf
        exact ⟨a, fun hm => b (by simp [hm])⟩
theorem zu8 (i : Int) : ∀ (names : List Str) (j : Nat) (T : Tm) (tk : List Str) (s : Sc), names.foldl (zia i) (j, T, tk, s) = (j + names.length, zke T i j (zfd names.length tk), tk ++ zfd names.length tk, (names.zip (zfd names.length tk)).reverse ++ s)
  | [], j, T, tk, s => by simp [zfd, zke]
  | x :: r, j, T, tk, s => by
    rw [List.foldl_cons]
    simp only [zia]
    rw [zu8 i r]
    simp only [List.length_cons, zfd, zke, List.zip_cons_cons, List.reverse_cons, List.append_assoc, List.singleton_append, List.cons_append, List.nil_append]
    congr 1; omega
theorem yky (i : Int) (names : List Str) (T : Tm) (tk : List Str) (s : Sc) : zlc i names T tk s = (names.length, zke T i 0 (zfd names.length tk), tk ++ zfd names.length tk, (names.zip (zfd names.length tk)).reverse ++ s) := by
  rw [zlc, zu8]; simp
theorem zin (op n : Int) (ks : List Tm) (i : Int) : ∀ (fl : List Str) (j : Nat) (y : Str) (ps : List Ty),
    zke (.mk op n y ks ps) i j fl = if zb2 op i then .mk op n (fl.getLast?.getD y) ks ps else if zci op i then (match ps[(i - 1).toNat]? with
      | some p => .mk op n y ks (ps.set (i - 1).toNat (yim p j fl))
      | none => .mk op n y ks ps) else .mk op n y ks ps
  | [], j, y, ps => by
    simp only [zke, List.getLast?_nil, Option.getD_none, yim]
    split
    · rfl
    · split
      · split
        · rename_i p hp
          obtain ⟨hlt, e⟩ := List.getElem?_eq_some_iff.1 hp
          rw [← e, List.set_getElem_self]
        · rfl
      · rfl
  | f :: r, j, y, ps => by
    simp only [zke, zea]
    by_cases h1 : zb2 op i = true
    · simp only [h1, if_true]
      rw [zin op n ks i r]
      simp only [h1, if_true]
      congr 1
      cases r with
      | nil => rfl
      | cons a r => rw [List.getLast?_cons_cons]; rw [List.getLast?_eq_some_getLast (by simp)]; rfl
    · by_cases h2 : zci op i = true
      · simp only [if_neg h1, if_pos h2]
        cases hp : ps[(i - 1).toNat]? with
        | none =>
          simp only []
          rw [zin op n ks i r]
          simp only [if_neg h1, if_pos h2, hp]
        | some p =>
          have hlt := (List.getElem?_eq_some_iff.1 hp).1
          simp only []
          rw [zin op n ks i r]
          simp only [if_neg h1, if_pos h2, List.getElem?_set_self hlt, List.set_set, yim]
      · simp only [if_neg h1, if_neg h2]
        rw [zin op n ks i r]
        simp only [if_neg h1, if_neg h2]
theorem yfd : ∀ (fl : List Str) (p : Ty) (j : Nat), (∀ f ∈ fl, zcj f = true) → zcc p = true → zcc (yim p j fl) = true ∧ ∀ l, zbz (yim p j fl) l = zbz p l
  | [], p, j, _, h => ⟨h, fun _ => rfl⟩
  | f :: r, p, j, hf, h => by
    obtain ⟨a, b⟩ := zuh p j f (hf f (by simp)) h
    obtain ⟨c, d⟩ := yfd r (zer p j f) (j + 1) (fun g hg => hf g (by simp [hg])) a
    exact ⟨c, fun l => (d l).trans (b l)⟩
theorem zsr : ∀ (fl : List Str) (p : Ty) (j : Nat), j + fl.length = (za8 p).length → za8 (yim p j fl) = (za8 p).take j ++ fl
  | [], p, j, h => by simp only [yim, List.append_nil]; rw [List.take_of_length_le (by simp at h; omega)]
  | f :: r, p, j, h => by
    simp only [yim]
    have hj : j < (za8 p).length := by simp at h; omega
    rw [zsr r (zer p j f) (j + 1) (by rw [zgy, List.length_set]; simp at h; omega), zgy]
    rw [show (((za8 p).set j f).take (j + 1)) = (za8 p).take j ++ [f] from by
      rw [List.take_add_one, List.getElem?_set_self hj, List.take_set_of_le (Nat.le_refl _)]; rfl]
    simp
def ykf : Tm → Prop
  | .mk op n x ks ps => za9 op n x ks.length ps.length = true ∧ ps.all zcn = true
theorem zo0 {op n : Int} {x y : Str} {k p : Nat} {i : Int} (h : zb2 op i = true ∨ op = 4) (hn : za9 op n x k p = true) (hy : zcj y = true) : za9 op n y k p = true := by
  simp only [zb2, Bool.or_eq_true, Bool.and_eq_true, beq_iff_eq] at h
  rcases h with ((h | h) | ⟨h, _⟩) | h <;> subst h <;> simp [za9, zbe] at hn ⊢ <;> grind
theorem ymj {op n : Int} {x : Str} {k p : Nat} (hn : za9 op n x k p = true) {i j : Nat} (hi : i < k) (hj : j < k) (h1 : zb2 op i = true) (h2 : zb2 op j = true) : i = j := by
  simp only [zb2, Bool.or_eq_true, Bool.and_eq_true, beq_iff_eq] at h1 h2
  rcases h1 with (h | h) | ⟨h, h3⟩
  · subst h; simp [za9, zbe] at hn; omega
  · subst h; simp [za9, zbe] at hn; omega
  · subst h; simp at h2; omega
theorem yhp {T : Tm} {i : Int} {fl : List Str} (hT : ykf T) (hl : fl.length = (zad T i).length) (hn : fl.Nodup) (hf : ∀ f ∈ fl, zcj f = true) : ykf (zke T i 0 fl) := by
  obtain ⟨op, n, y, ks, ps⟩ := T
  rw [zin]
  simp only [zad] at hl
  by_cases h1 : zb2 op i = true
  · rw [if_pos h1] at hl ⊢
    obtain ⟨f, rfl⟩ := List.length_eq_one_iff.1 hl
    exact ⟨zo0 (.inl h1) hT.1 (hf f (by simp)), hT.2⟩
  · by_cases h2 : zci op i = true
    · rw [if_neg h1, if_pos h2] at hl ⊢
      cases hp : ps[(i - 1).toNat]? with
      | none => exact hT
      | some p =>
        simp only [hp] at hl
        refine ⟨by simpa using hT.1, ?_⟩
        rw [List.all_eq_true]
        intro q hq
        have hall := List.all_eq_true.1 hT.2
        rcases List.mem_or_eq_of_mem_set hq with hq | hq
        · exact hall q hq
        · have hpo := hall p (List.mem_of_getElem? hp)
          simp only [zcn, Bool.and_eq_true, decide_eq_true_eq] at hpo
          obtain ⟨a, b⟩ := yfd fl p 0 hf hpo.1.2
          have hnm : za3 (yim p 0 fl) = fl := by
            rw [← zgz _ a]
            have := zsr fl p 0 (by omega)
            simpa [za8] using this
          rw [hq]
          simp only [zcn, Bool.and_eq_true, decide_eq_true_eq, a, b, hnm, zht]
          exact ⟨⟨hpo.1.1, trivial⟩, hn⟩
    · rw [if_neg h1, if_neg h2]; exact hT
def zll (s : Sc) : Prop := ∀ p ∈ s, zcj p.2 = true
theorem yey {a b : List Str} {s : Sc} (h : ∀ f ∈ b, zcj f = true) (hs : zll s) : zll ((a.zip b).reverse ++ s) := by
  intro p hp
  rcases List.mem_append.1 hp with hp | hp
  · exact h _ (List.of_mem_zip (List.mem_reverse.1 hp)).2
  · exact hs p hp
theorem yg0 : ∀ (m i : Nat) (T : Tm) (tk : List Str) (s : Sc) (acc : List Sc), ykf T → zll s → (∀ sc ∈ acc, zll sc) → tk.length + zgp T m i ≤ 700 → ykf (l1 m i T tk s acc).1 ∧ ∀ sc ∈ (l1 m i T tk s acc).2.2, zll sc
  | 0, i, T, tk, s, acc, h1, h2, h3, h4 => ⟨h1, h3⟩
  | m + 1, i, T, tk, s, acc, h1, h2, h3, h4 => by
    simp only [zgp] at h4
    obtain ⟨hn, hf⟩ := zxy (zad T i).length tk (by omega)
    simp only [l1, yky]
    have hc := zey (t := zke T i 0 (zfd (zad T i).length tk)) (u := T) (fun k => by
      have := (zqw i (zad T i) (0, T, tk, s)).2 k
      rw [zu8] at this; exact this) m (i + 1)
    refine yg0 m (i + 1) _ _ s _ (yhp h1 (by rw [zna]) hn fun f hf' => (hf f hf').1) h2 (fun sc hsc => ?_) (by rw [hc, List.length_append, zna]; omega)
    rcases List.mem_append.1 hsc with hsc | hsc
    · exact h3 sc hsc
    · rw [List.mem_singleton.1 hsc]
      exact yey (fun f hf' => (hf f hf').1) h2
theorem yc4 {s : Sc} {x y : Str} (h : zll s) (hl : zic s x = some y) : zcj y = true := by
  induction s with
  | nil => cases hl
  | cons p r ih =>
    obtain ⟨a, b⟩ := p
    simp only [zic] at hl
    split at hl
    · cases hl; exact h _ (List.mem_cons_self ..)
    · exact ih (fun q hq => h q (by simp [hq])) hl
mutual
theorem ztx : ∀ (t : Tm) (s : Sc) (tk : List Str), zag t = true → zll s → tk.length + ybk t ≤ 700 → zag (zlb t s tk).1 = true ∧ zcx (zlb t s tk).1 = zcx t ∧ dpT (zlb t s tk).1 = dpT t
  | .mk op n x ks ps, s, tk, h, hs, hb => by
    simp only [zag, Bool.and_eq_true] at h
    by_cases e : op = 4
    · simp only [zlb, if_pos e, zag, Bool.and_eq_true, zcx, dpT]
      refine ⟨⟨⟨?_, h.1.2⟩, h.2⟩, trivial, trivial⟩
      cases hl : zic s x with
      | none => exact h.1.1
      | some y => exact zo0 (i := 0) (.inr e) h.1.1 (yc4 hs hl)
    · simp only [ybk, if_neg e] at hb
      obtain ⟨g1, g2⟩ := yg0 ks.length 0 (.mk op n x ks ps) tk s [] ⟨h.1.1, h.1.2⟩ hs (by simp) (by omega)
      obtain ⟨x', ps', hsh, hpl⟩ := zu2 ks.length 0 (.mk op n x ks ps) tk s [] op n x ks ps rfl
      have hln := (ygz ks.length 0 (.mk op n x ks ps) tk s []).1
      obtain ⟨k1, k2, k3, k4⟩ := zrk ks (l1 ks.length 0 (.mk op n x ks ps) tk s []).2.2 (l1 ks.length 0 (.mk op n x ks ps) tk s []).2.1 h.2 g2 (by omega)
      simp only [zlb, if_neg e]
      rw [hsh] at g1 ⊢
      simp only [yi2, zag, Bool.and_eq_true, zcx, dpT, k1, k2, k3, k4]
      exact ⟨⟨⟨g1.1, g1.2⟩, trivial⟩, trivial, trivial⟩
theorem zrk : ∀ (l : List Tm) (scs : List Sc) (tk : List Str), zas l = true → (∀ sc ∈ scs, zll sc) → tk.length + zm1 l ≤ 700 → zas (zge l scs tk).1 = true ∧ zco (zge l scs tk).1 = zco l ∧ (∀ m, zq8 (zge l scs tk).1 m = zq8 l m) ∧ (zge l scs tk).1.length = l.length
  | [], scs, tk, _, _, _ => by simp [zge, zas]
  | k :: r, scs, tk, h, hs, hb => by
    simp only [zas, Bool.and_eq_true] at h
    simp only [zm1] at hb
    have hh : zll (scs.headD []) := by
      cases scs with
      | nil => intro p hp; cases hp
      | cons a q => exact hs a (by simp)
    obtain ⟨a1, a2, a3⟩ := ztx k (scs.headD []) tk h.1 hh (by omega)
    have hl := zvk k (scs.headD []) tk
    obtain ⟨b1, b2, b3, b4⟩ := zrk r scs.tail (zlb k (scs.headD []) tk).2 h.2 (fun sc hsc => hs sc (List.mem_of_mem_tail hsc)) (by omega)
    simp only [zge, zas, Bool.and_eq_true, zco, zq8, List.length_cons, a1, a2, a3, b1, b2, b4]
    exact ⟨⟨trivial, trivial⟩, trivial, fun m => b3 _, trivial⟩
end
end Go.Hk

/- What replacer.in computes, and plain facts of it. -/
namespace Go.Hk
open Go.Proofs
def zfy (fr : List Str) (i : Nat) (r : Nat × Tm × List Str) (x : Str) : Nat × Tm × List Str :=
  if zbp fr x = true then (r.1 + 1, zea (zcs r.2.1 i (zh6 ((tmK r.2.1 i).getD zTm) x (zbc r.2.2))) i r.1 (zbc r.2.2), r.2.2 ++ [zbc r.2.2]) else (r.1 + 1, r.2.1, r.2.2)
def zgc (fr : List Str) (i : Nat) (T : Tm) (m : List Str) (j : Nat) : Nat × Tm × List Str := ((zad T i).take j).foldl (zfy fr i) (0, T, m)
def zj6 (fr : List Str) (i : Nat) (T : Tm) (m : List Str) : Nat × Tm × List Str := (zad T i).foldl (zfy fr i) (0, T, m)
def lpR (rec : Tm → Tm) (nm : Str) (fr : List Str) : Nat → Nat → Tm → List Str → Tm
  | 0, _, T, _ => T
  | k + 1, i, T, m => lpR rec nm fr k (i + 1) (if zbp (zad T i) nm = true then (zj6 fr i T m).2.1 else zcs (zj6 fr i T m).2.1 i (rec ((tmK (zj6 fr i T m).2.1 i).getD zTm))) (zj6 fr i T m).2.2
def rpl (nm : Str) (by' : Tm) (fr : List Str) : Nat → Tm → Tm
  | 0, t => t
  | N + 1, .mk op n x ks ps => if zbp (zc9 (.mk op n x ks ps) [] []) nm = true then (if op = 4 then by' else lpR (rpl nm by' fr N) nm fr ks.length 0 (.mk op n x ks ps) (nm :: fr ++ zbm (.mk op n x ks ps))) else .mk op n x ks ps
theorem ziq {fr : List Str} {i : Nat} {T : Tm} {m : List Str} {j : Nat} {x : Str} (h : (zad T i)[j]? = some x) : zgc fr i T m (j + 1) = zfy fr i (zgc fr i T m j) x := by
  simp only [zgc, zb7 h, List.foldl_append, List.foldl_cons, List.foldl_nil]
theorem zjt (fr : List Str) (i : Nat) (T : Tm) (m : List Str) : zgc fr i T m (zad T i).length = zj6 fr i T m := by
  simp only [zgc, zj6, List.take_of_length_le (Nat.le_refl _)]
theorem zb6 (T : Tm) (i : Nat) (k : Tm) (m : Int) : zad (zcs T i k) m = zad T m := by
  obtain ⟨op, n, y, ks, ps⟩ := T; rfl
theorem zfe {T : Tm} {i : Nat} {k0 : Tm} (h : tmK T i = some k0) (k : Tm) (l : Nat) : tmK (zcs T i k) l = if l = i then some k else tmK T l := by
  obtain ⟨op, n, y, ks, ps⟩ := T
  simp only [zcs, tmK] at h ⊢
  by_cases e : l = i
  · subst e; rw [if_pos rfl, List.getElem?_set_self (List.getElem?_eq_some_iff.1 h).1]
  · rw [if_neg e, List.getElem?_set_ne (fun e2 => e e2.symm)]
theorem zgs (T : Tm) (i : Int) (j : Nat) (x : Str) (l : Nat) : tmK (zea T i j x) l = tmK T l := by
  obtain ⟨op, n, y, ks, ps⟩ := T
  obtain ⟨y', ps', h, _⟩ := zlq op n y ks ps i j x
  rw [h]; rfl
def zoq (t T : Tm) : Prop := ∃ op n x ks ps x' ks' ps', t = .mk op n x ks ps ∧ T = .mk op n x' ks' ps' ∧ ks'.length = ks.length ∧ ps'.length = ps.length ∧ ∀ m, (zad T m).length = (zad t m).length
theorem zjv (t : Tm) : zoq t t := by
  obtain ⟨op, n, x, ks, ps⟩ := t
  exact ⟨op, n, x, ks, ps, x, ks, ps, rfl, rfl, rfl, rfl, fun _ => rfl⟩
theorem ybt {t T : Tm} (h : zoq t T) (i : Int) (j : Nat) (x : Str) : zoq t (zea T i j x) := by
  obtain ⟨op, n, y, ks, ps, y', ks', ps', rfl, rfl, h1, h2, h3⟩ := h
  obtain ⟨y2, ps2, h4, h5⟩ := zlq op n y' ks' ps' i j x
  refine ⟨op, n, y, ks, ps, y2, ks', ps2, rfl, h4, h1, h5.trans h2, fun m => ?_⟩
  rw [zfn]; exact h3 m
theorem zu0 {t T : Tm} (h : zoq t T) (i : Nat) (k : Tm) : zoq t (zcs T i k) := by
  obtain ⟨op, n, y, ks, ps, y', ks', ps', rfl, rfl, h1, h2, h3⟩ := h
  exact ⟨op, n, y, ks, ps, y', ks'.set i k, ps', rfl, rfl, by simpa using h1, h2, h3⟩
theorem zuj {i : Nat} {sk : An} {T k : Tm} (hf : zhr sk T) (hs : skK sk i = some (.im true [] [])) (hk : tmK T i = some k) (fr m : List Str) : ∀ j, j ≤ (zad T i).length → (zgc fr i T m j).1 = j ∧ zhr sk (zgc fr i T m j).2.1 ∧
      (∀ l, j ≤ l → (zad (zgc fr i T m j).2.1 i)[l]? = (zad T i)[l]?) ∧ zoq T (zgc fr i T m j).2.1 ∧ (zgc fr i T m j).2.2.length ≤ m.length + j ∧ (∀ l, l ≠ i → tmK (zgc fr i T m j).2.1 l = tmK T l) ∧
      ∃ k', tmK (zgc fr i T m j).2.1 i = some k' ∧ zcx k' = zcx k ∧ (zfc k → zfc k') ∧ (zj8 k → zj8 k')
  | 0, _ => ⟨rfl, hf, fun _ _ => rfl, zjv T, by simp [zgc], fun _ _ => rfl, k, hk, rfl, id, id⟩
  | j + 1, hj => by
    obtain ⟨h1, h2, h3, h4, h5, h6, k', h7, h8, h9, h10⟩ := zuj hf hs hk fr m j (by omega)
    obtain ⟨x, hx⟩ := zal (show j < (zad T i).length by omega)
    rw [ziq hx]
    generalize zgc fr i T m j = r at *
    obtain ⟨r1, rT, rm⟩ := r
    simp only at h1 h2 h3 h4 h5 h6 h7
    subst h1
    simp only [zfy]
    by_cases hx2 : zbp fr x = true
    · rw [if_pos hx2]
      have hfK := zqx h2 hs h7 (zh6 ((tmK rT i).getD zTm) x (zbc rm))
      have hlen : (zad (zcs rT i (zh6 ((tmK rT i).getD zTm) x (zbc rm))) i).length = (zad T i).length := by
        obtain ⟨_, _, _, _, _, _, _, _, _, _, _, _, hb⟩ := zu0 h4 i (zh6 ((tmK rT i).getD zTm) x (zbc rm))
        exact hb i
      have hlt : r1 < (zad (zcs rT i (zh6 ((tmK rT i).getD zTm) x (zbc rm))) i).length := by rw [hlen]; omega
      obtain ⟨p, hp⟩ := zal (show r1 < (bp sk i).length by rw [yh7 hfK]; exact hlt)
      refine ⟨rfl, yb1 hfK hp _, fun l hl => ?_, ybt (zu0 h4 i _) _ _ _, by simp only [List.length_append, List.length_singleton]; omega, fun l hl => ?_, ?_⟩
      · rw [zjg _ hlt, List.getElem?_set_ne (by omega), zb6, h3 l (by omega)]
      · rw [zgs, zfe h7, if_neg hl, h6 l hl]
      · refine ⟨zh6 k' x (zbc rm), ?_, by rw [zo5, h8], fun h => zs5 _ _ _ (h9 h), fun h => zv3 _ _ _ (h10 h)⟩
        rw [zgs, zfe h7, if_pos rfl, h7]; rfl
    · rw [if_neg hx2]
      exact ⟨rfl, h2, fun l hl => h3 l (by omega), h4, by simp only; omega, h6, k', h7, h8, h9, h10⟩
end Go.Hk

/- replacer.in: one round of the loop over the names that a term binds in a part. -/
namespace Go.Hk
open Go.Proofs
def rD (nm : Str) : Tm → Nat → List D
  | .mk o n x ks ps, id => [.imm (.str nm), .imm (.int .i64 o), .imm (.int .i64 n), .imm (.str x), .imm (.sl (zdg ks)), .imm (.sl (zcf ps)), .mapr id]
def stQ (b : Nat) (sk : An) (nm : Str) (by' : Tm) (fr : List Str) (i : Nat) (here : List Str) (r : Nat × Tm × List Str) : St :=
  [(2, some (.cells 63 7 (rD nm by' 7))), (4, some (.cells 26 5 [.imm (.int .i64 0), .imm (.int .i64 0), .imm (.str []), .nils, .nils])), (7, some (.map (zem fr))), (13, some (.hp (zck b sk r.2.1))),
    (20, some (.map (zem r.2.2))), (8, some (.cells 61 1 [.mapr 20])), (14, some (.immb 3 1 [.int .i64 i])), (15, some (.row 9 1 (zbu here)))]
def yns (b n i : Nat) (here : List Str) : Env := [(50, .imm (.int .i64 i)), (49, .imm (.int .i64 n)), (2, .ref 2 0), (3, .raw (.pointer (some ⟨b, 0, none⟩))), (4, .ref 4 0), (6, .ref 8 0), (8, .ref 14 0), (9, .own 15 (zbu here).length)]
theorem znj (t : Tm) : ∃ o n x ks ps, t = .mk o n x ks ps := by obtain ⟨o, n, x, ks, ps⟩ := t; exact ⟨o, n, x, ks, ps, rfl⟩
set_option maxRecDepth 100000 in
theorem ycs (b : Nat) (sk : An) (nm : Str) (by' : Tm) (fr : List Str) (here : List Str) (i K : Nat) (T k : Tm) (m : List Str) {o n : Int} {xx : Str} {c rb : Nat} {js : List An} {u : Value} {qs : List An}
    (hf : zhr sk T) (hsk : sk = .mk true o n xx (.slice (some ⟨rb, 0, none⟩) K c) js u qs) (hsK : skK sk i = some (.im true [] [])) (hk : tmK T i = some k) (hpk : zfc k) (hi : i < K) (hK : K ≤ 1000000)
    (hms : ∀ j, j ≤ (zad T i).length → ∀ s ∈ (zgc fr i T m j).2.2, s.length ≤ maxLen) (hml : m.length + (zad T i).length ≤ 699)
    (j : Nat) (hj : j < (zad T i).length) (d : D) (hd : ((bp sk i).map (plD b sk))[j]? = some d)
    {L : znp} (h1 : Tryz.prog.funcs[L.fn]?.isSome) (h2 : L.tmps.size = Tryz.f37.ntmps) (h3 : L.ps = #[57]) (h4 : L.asg = ylg Tryz.f37)
    (h5 : L.body = yfr Tryz.f37) (h6 : L.E = yns b K i here) (h7 : L.F = [7]) :
    yal Tryz.prog [d] (zdl L (stQ b sk nm by' fr i here (zgc fr i T m j)) none) true (zdl L (stQ b sk nm by' fr i here (zgc fr i T m (j + 1))) none) := by
  obtain ⟨fc, hfc⟩ := Option.isSome_iff_exists.1 h1
  obtain ⟨x, hx⟩ := zal hj
  obtain ⟨i1, i2, i3, i4, i5, i6, k', i7, i8, i9, _⟩ := zuj hf hsK hk fr m j (by omega)
  have hms := hms j (by omega)
  rw [ziq hx]
  generalize zgc fr i T m j = r at *
  obtain ⟨r1, rT, rm⟩ := r
  simp only at i1 i2 i3 i4 i5 i6 i7 hms
  subst i1
  have hok := zhq i2
  rw [List.getElem?_map] at hd
  obtain ⟨p, hp, rfl⟩ := Option.map_eq_some_iff.1 hd
  obtain ⟨a0, b', off', hl, hD⟩ : ∃ a0 b' off', zec sk b 0 p = some (a0, b', off') ∧ plD b sk p = .raw (ptr b' (zdi off' 2)) := by
    obtain ⟨a, o, nn, y, ad, c, ks, u, qs, rfl, hv, _⟩ := id i2
    rw [zyj] at hp
    obtain ⟨s, o', n', x', v', ks', u', ps', b', off', hl, _, _⟩ := zrp ((zg0 a).1 hok) hv hp b
    refine ⟨_, b', off', by rw [zi1, hl]; rfl, ?_⟩
    simp only [plD, zi1, hl, Option.map_some]
  have hx2 : (zad rT i)[r1]? = some x := by rw [i3 r1 (Nat.le_refl _)]; exact hx
  have hrd := zsv hok hp hl (b := b) hx2
  have hraw : ∀ vs I w bs, (zck b sk rT).P vs I w bs → zc3 I w b 3 [.raw (.slice (some ⟨rb, 0, none⟩) K c)] := fun vs I w bs h => (zd5 (by rw [hsk] at h; exact h)).1
  obtain ⟨bo, bn, bx, bks, bps⟩ := by'
  rw [hD]
  refine zne (pend := none) (d := .raw (ptr b' (zdi off' 2))) (ids := [16, 17, 18]) (t := 10) (p := 57) hfc h3 (h4.trans rfl) h2 rfl rfl rfl rfl (by decide) (by decide) ?_ ?_
  · rw [h6, h7]
    refine ⟨by decide, ?_⟩
    simp [stQ, yns, rD, nmE, nmD, ze1, nmB, nmL]
  · rw [h5, h6, h7]
    refine xd [] rfl (by simp [zai]) ?_
    refine zbn ttX_ok 13 [.imm (.str x)] rfl rfl (fun _ => hrd) rfl rfl (by simp) ?_
    refine xg [] rfl (by simp [zai]) ?_
    refine zm8 ttX_ok 7 rfl rfl rfl (zc0 fr) (by simp [zai]) (z := .bool false) rfl (fun _ => .bool _) (zgv fr x) ?_
    refine xg [] rfl (by simp [zai]; rfl) ?_
    refine zab rfl (fun h => ?_) (fun h => ?_)
    · have hno : ¬ zbp fr x = true := by simpa using h
      rw [show zfy fr i (r1, rT, rm) x = (r1 + 1, rT, rm) by simp only [zfy, if_neg hno]]
      refine za2 rfl ?_
      refine zb0 ?_
      exact ⟨rfl, rfl, rfl, rfl, rfl, rfl, rfl, rfl, trivial⟩
    have hyes : zbp fr x = true := by simpa using h
    rw [show zfy fr i (r1, rT, rm) x = (r1 + 1, zea (zcs rT i (zh6 k' x (zbc rm))) i r1 (zbc rm), rm ++ [zbc rm]) by simp only [zfy, if_pos hyes, i7, Option.getD_some]]
    clear h
    refine xd [] rfl (by simp [zai]) ?_
    refine zar (fr := []) [(20, 1)] [] rfl (by simp) (zwo rm hms (by omega)) ⟨⟨rfl, rfl, rfl⟩, trivial⟩ rfl rfl rfl rfl ?_
    refine xg [] rfl (by simp [zai]) ?_
    refine zac rfl (fun _ => zms (zfz rm) (by simp only [zfz, List.length_mergeSort]; omega)) (by simp [zai]) ?_
    rw [show zbc (zfz rm) = zbc rm from zob fun s => by simp [zfz]]
    refine xg [] rfl (by simp [zai]) ?_
    refine zoa ttX_ok rfl rfl rfl (zc0 rm) ?_
    rw [zui rm (zbc rm) (by have := (ze2 rm (by omega)).2; rw [← za1] at this; simpa using this)]
    refine xg [] rfl (by simp [zai]) ?_
    obtain ⟨ko, kn, kx, kks, kps, rfl⟩ := znj k'
    have hkid : ∀ vs I w bs, (zck b sk rT).P vs I w bs → zc3 I w rb (i * 5) ((dTmc (.mk ko kn kx kks kps)).map .imm) := fun vs I w bs h => znz hok hsk hsK i7 h
    have e5 : 0 + ((i : Int)).toNat * 5 = i * 5 := by simp
    refine zbn ttX_ok 13 [.raw (.slice (some ⟨rb, 0, none⟩) K c)] rfl rfl (fun _ => hraw) rfl rfl (by simp) ?_
    refine xg [] rfl (by simp [zai]) ?_
    refine zbn ttX_ok 13 [.raw (.slice (some ⟨rb, 0, none⟩) K c)] rfl rfl (fun _ => hraw) rfl rfl (by simp) ?_
    refine xg [] rfl (by simp [zai]) ?_
    refine zdf ttX_ok rfl rfl (fun _ => ⟨by simp, by simpa using hi⟩) (by simp) ?_
    refine xg [] rfl (by simp [zai]) ?_
    rw [← e5] at hkid
    refine zbn ttX_ok 13 [.imm (.int .i64 ko), .imm (.int .i64 kn), .imm (.str kx), .imm (.sl (zdg kks)), .imm (.sl (zcf kps))] rfl rfl (fun _ => hkid) rfl rfl (by simp) ?_
    refine xg [] rfl (by simp [zai]) ?_
    refine zbn ttX_ok 13 [.imm (.str x)] rfl rfl (fun _ => hrd) rfl rfl (by simp) ?_
    refine xg [] rfl (by simp [zai]) ?_
    have hren := zw5 (.mk ko kn kx kks kps) x (zbc rm) (i9 hpk)
    obtain ⟨kx2, kks2, hsh⟩ : ∃ kx2 kks2, zh6 (.mk ko kn kx kks kps) x (zbc rm) = .mk ko kn kx2 kks2 kps := ⟨_, _, by rw [zh6]⟩
    rw [hsh] at hren ⊢
    refine zac rfl (fun _ => hren) (by simp [zai]) ?_
    refine xg [] rfl (by simp [zai]) ?_
    refine zdf ttX_ok rfl rfl (fun _ => ⟨by simp, by simpa using hi⟩) (by simp) ?_
    have hst := zkf (b := b) hok hsk hsK i7 (.mk ko kn kx2 kks2 kps)
    rw [← e5] at hst
    refine zo4 ttX_ok 13 (zck b sk (zcs rT i (.mk ko kn kx2 kks2 kps))) rfl rfl hst ?_
    refine xg [] rfl (by simp [zai]; rfl) ?_
    have hfK := zqx i2 hsK i7 (.mk ko kn kx2 kks2 kps)
    refine zo4 ttX_ok 13 (zck b sk (zea (zcs rT i (.mk ko kn kx2 kks2 kps)) i r1 (zbc rm))) rfl rfl (zpu hok hp hl (b := b) (zbc rm)) ?_
    refine xg [] rfl (by simp [zai]) ?_
    refine zb0 ?_
    exact ⟨rfl, rfl, rfl, rfl, rfl, rfl, rfl, rfl, trivial⟩
end Go.Hk

/- A contract on zbx blocks whose values are named becomes one on blocks whose values are hidden. -/
namespace Go.Hk
theorem zz0 {P : Program} {f : FuncId} {α : Type} {das : List D} {A Z : Asn} {B C : α → Asn} (val : α → List Value) {st0 st1 : St} {d : α → D} {d' : D} (i j : Nat)
    (hA : ∀ vs I w bs, A.P vs I w bs → ∃ x, vs = val x ∧ (B x).P [] I w bs)
    (hE : ∀ x, zc5 P f (yeq i (val x) das) ((i, some (.hp (B x))) :: st0) (.ret (d x) ((j, some (.hp (C x))) :: st1)))
    (hZ : ∀ x us I w bs, (C x).P us I w bs → Z.P (val x) I w bs)
    (hn0 : ∀ x, i ∉ nmL (yeq i (val x) das)) (hi0 : i ∉ ze1 st0) (hj1 : j ∉ ze1 st1) (hi1 : i ∉ ze1 st1) (hij : i ≠ j) (hj0 : j ∉ nms st0)
    (hres : ∀ x J ν ν' v bs, RepD J ν v (d x) → (∀ k, k ≠ i → k ≠ j → ν' k = ν k) → ν' j = some (hpG (val x) bs) → RepD J ν' v d') :
    zc5 P f das ((i, some (.hp A)) :: st0) (.ret d' ((j, some (.hp Z)) :: st1)) := by
  intro I μ w xs hst hx
  have hl : zap ((i, some (.hp A)) :: st0) i (.hp A) := zah.2 (.inl ⟨rfl, rfl⟩)
  obtain ⟨g, hg, vs, bs, rfl, hP⟩ := hst.blk i _ hl
  obtain ⟨x, rfl, hB⟩ := hA vs I w bs hP
  obtain ⟨μ', hμ⟩ : ∃ μ' : Mu, μ' = fun k => if k = i then some (hpG [] bs) else μ k := ⟨_, rfl⟩
  have hμi : μ' i = some (hpG [] bs) := by rw [hμ]; simp
  have hμo : ∀ k, k ≠ i → μ' k = μ k := fun k hk => by rw [hμ]; simp [hk]
  have hcase : ∀ {X : Asn} {k : Nat} {b : Blk} {k0 : Nat} {s : St}, zap ((k0, some (.hp X)) :: s) k b → (k = k0 ∧ b = .hp X) ∨ (k ≠ k0 ∧ zap s k b) := fun h => zah.1 h
  have old0 : ∀ k b, zap ((i, some (.hp (B x))) :: st0) k b → ∀ gk, μ' k = some gk → ∃ b0 g0, zap ((i, some (.hp A)) :: st0) k b0 ∧ μ k = some g0 ∧ ∀ m, zgd gk m ↔ zgd g0 m := fun k b h gk hgk => by
    rcases hcase h with ⟨rfl, rfl⟩ | ⟨h1, h2⟩
    · rw [hμi] at hgk; cases hgk
      exact ⟨_, _, hl, hg, fun m => by rw [za0, za0]⟩
    · exact ⟨b, gk, zah.2 (.inr ⟨h1, h2⟩), by rw [← hμo k h1]; exact hgk, fun m => Iff.rfl⟩
  have hst' : StRep I μ' ((i, some (.hp (B x))) :: st0) [] w :=
    { imm := hst.imm
      blk := fun k b h => by
        rcases hcase h with ⟨rfl, rfl⟩ | ⟨h1, h2⟩
        · exact ⟨_, hμi, [], bs, rfl, hB⟩
        · obtain ⟨gk, q1, q2⟩ := hst.blk k b (zah.2 (.inr ⟨h1, h2⟩))
          refine ⟨gk, by rw [hμo k h1]; exact q1, q2.sub fun m hm gm hgm => ?_⟩
          have : m ≠ i := fun e => hi0 (e ▸ (zc1 h2).2 m hm)
          rw [hμo m this]; exact hgm
      apart := fun k b gk m h hgk hm => by
        obtain ⟨b0, g0, q1, q2, q3⟩ := old0 k b h gk hgk
        exact hst.apart k b0 g0 m q1 q2 ((q3 m).1 hm)
      inj := fun k1 k2 c1 c2 g1 g2 m h1 h2 hg1 hg2 hm1 hm2 => by
        obtain ⟨p0, p1, p2, p3, p4⟩ := old0 k1 c1 h1 g1 hg1
        obtain ⟨r0, r1, r2, r3, r4⟩ := old0 k2 c2 h2 g2 hg2
        exact hst.inj k1 k2 p0 r0 p1 r1 m p2 r2 p3 r3 ((p4 m).1 hm1) ((r4 m).1 hm2)
      nodup := .nil
      idsFree := fun _ h => by simp at h }
  have hx' : RepL I μ' xs.toList (yeq i (val x) das) := by
    have hlen : (yeq i (val x) das).length = das.length := by rw [zhg]; simp
    refine ⟨hx.1.trans hlen.symm, fun m v e h1 h2 => ?_⟩
    have h2' := h2
    rw [zhg, List.getElem?_map] at h2
    obtain ⟨e0, h3, rfl⟩ := Option.map_eq_some_iff.1 h2
    refine (RepD.opn hg (hx.2 m v e0 h1 h3)).sub fun k hk gk hgk => ?_
    have : k ≠ i := fun e => by rw [e] at hk; exact hn0 x (ziy (List.mem_of_getElem? h2') hk)
    rw [hμo k this]; exact hgk
  refine (hE x I μ' w xs hst' hx').mono ?_ ?_
  · rintro u w' ⟨J, ν, q1, q2, q3, q4⟩
    have hlj : zap ((j, some (.hp (C x))) :: st1) j (.hp (C x)) := zah.2 (.inl ⟨rfl, rfl⟩)
    obtain ⟨gj, hgj, us, bj, rfl, hC⟩ := q2.blk j _ hlj
    obtain ⟨ν', hν⟩ : ∃ ν' : Mu, ν' = fun k => if k = j then some (hpG (val x) bj) else if k = i then μ i else ν k := ⟨_, rfl⟩
    have hνj : ν' j = some (hpG (val x) bj) := by rw [hν]; simp
    have hνi : ν' i = μ i := by rw [hν]; simp [hij]
    have hνo : ∀ k, k ≠ i → k ≠ j → ν' k = ν k := fun k h1 h2 => by rw [hν]; simp [h1, h2]
    have old1 : ∀ k b, zap ((j, some (.hp Z)) :: st1) k b → ∀ gk, ν' k = some gk → ∃ b0 g0, zap ((j, some (.hp (C x))) :: st1) k b0 ∧ ν k = some g0 ∧ ∀ m, zgd gk m ↔ zgd g0 m := fun k b h gk hgk => by
      rcases hcase h with ⟨rfl, rfl⟩ | ⟨h1, h2⟩
      · rw [hνj] at hgk; cases hgk
        exact ⟨_, _, hlj, hgj, fun m => by rw [za0, za0]⟩
      · have : k ≠ i := fun e => hi1 (e ▸ (zc1 h2).1)
        exact ⟨b, gk, zah.2 (.inr ⟨h1, h2⟩), by rw [← hνo k this h1]; exact hgk, fun m => Iff.rfl⟩
    have ow0 : ∀ b, zbx μ' ((i, some (.hp (B x))) :: st0) b ↔ zbx μ ((i, some (.hp A)) :: st0) b := fun b => by
      constructor
      · rintro ⟨k, c, gk, h1, h2, h3⟩
        obtain ⟨b0, g0, r1, r2, r3⟩ := old0 k c h1 gk h2
        exact ⟨k, b0, g0, r1, r2, (r3 b).1 h3⟩
      · rintro ⟨k, c, gk, h1, h2, h3⟩
        rcases hcase h1 with ⟨rfl, rfl⟩ | ⟨h4, h5⟩
        · rw [hg] at h2; cases h2
          exact ⟨k, _, _, zah.2 (.inl ⟨rfl, rfl⟩), hμi, by rw [za0] at h3 ⊢; exact h3⟩
        · exact ⟨k, c, gk, zah.2 (.inr ⟨h4, h5⟩), by rw [hμo k h4]; exact h2, h3⟩
    refine ⟨J, ν', hres x J ν ν' u bj q1 hνo hνj, ?_, ?_, ?_⟩
    · exact
        { imm := q2.imm
          blk := fun k b h => by
            rcases hcase h with ⟨rfl, rfl⟩ | ⟨h1, h2⟩
            · exact ⟨_, hνj, val x, bj, rfl, hZ x us J w' bj hC⟩
            · obtain ⟨gk, r1, r2⟩ := q2.blk k b (zah.2 (.inr ⟨h1, h2⟩))
              have hk : k ≠ i := fun e => hi1 (e ▸ (zc1 h2).1)
              refine ⟨gk, by rw [hνo k hk h1]; exact r1, r2.sub fun m hm gm hgm => ?_⟩
              have m1 : m ≠ i := fun e => hi1 (e ▸ (zc1 h2).2 m hm)
              have m2 : m ≠ j := fun e => hj1 (e ▸ (zc1 h2).2 m hm)
              rw [hνo m m1 m2]; exact hgm
          apart := fun k b gk m h hgk hm => by
            obtain ⟨b0, g0, r1, r2, r3⟩ := old1 k b h gk hgk
            exact q2.apart k b0 g0 m r1 r2 ((r3 m).1 hm)
          inj := fun k1 k2 c1 c2 g1 g2 m h1 h2 hg1 hg2 hm1 hm2 => by
            obtain ⟨p0, p1, p2, p3, p4⟩ := old1 k1 c1 h1 g1 hg1
            obtain ⟨r0, r1, r2, r3, r4⟩ := old1 k2 c2 h2 g2 hg2
            exact q2.inj k1 k2 p0 r0 p1 r1 m p2 r2 p3 r3 ((p4 m).1 hm1) ((r4 m).1 hm2)
          nodup := .nil
          idsFree := fun _ h => by simp at h }
    · intro k hk v hv
      simp only [nms, List.map_cons, List.mem_cons] at hk
      by_cases h1 : k = i
      · rw [h1] at hv ⊢; rw [hνi]; exact hv
      · have hk0 : k ∈ nms st0 := by rcases hk with h | h
                                     · exact absurd h h1
                                     · exact h
        have h2 : k ≠ j := fun e => hj0 (e ▸ hk0)
        rw [hνo k h1 h2]
        exact q3 k (by simp only [nms, List.map_cons, List.mem_cons]; exact .inr hk0) v (by rw [hμo k h1]; exact hv)
    · exact
        { imm := q4.imm, os := q4.os, tape := q4.tape, output := q4.output, size := q4.size
          block := fun b hb ho => q4.block b hb fun h => ho ((ow0 b).1 h)
          fresh := fun b hb ⟨k, c, gk, h1, h2, h3⟩ => by
            obtain ⟨b0, g0, r1, r2, r3⟩ := old1 k c h1 gk h2
            exact (ow0 b).1 (q4.fresh b hb ⟨k, b0, g0, r1, r2, (r3 b).1 h3⟩)
          old := fun b hb ho => q4.old b hb fun h => ho ((ow0 b).1 h) }
  · intro chain w' h; exact h
end Go.Hk

/- Contract of canon: a formed term with its bound names chosen anew. -/
namespace Go.Hk
open Go.Proofs
mutual
theorem ybo : ∀ p : Ty, zcc p = true → 3 * (zc6 p).length ≤ 2 * zbk p + 1
  | .mk s n x ps, h => by
    simp only [zcc, Bool.and_eq_true] at h
    have h1 := zxg ps h.2
    have h2 := h.1
    unfold zib at h2
    simp only [zc6, zbk, List.length_append]
    by_cases e : s = 2
    · have hk : ps.length = 0 := by simp [e] at h2; simp [h2.1.1]
      have : ps = [] := List.eq_nil_of_length_eq_zero hk
      subst this
      simp [e, zcb, zao]
    · have hk : ps.length ≤ 3 := by
        by_cases e1 : s = 1 ∨ s = 5
        · rw [if_pos e1] at h2; simp at h2; simp [h2.1.1]
        · rw [if_neg e1, if_neg e] at h2
          by_cases e3 : s = 3
          · rw [if_pos e3] at h2; simp at h2; simp [h2.1.1]
          · rw [if_neg e3] at h2
            by_cases e4 : s = 4
            · rw [if_pos e4] at h2; simp at h2; simp [h2.1.1]
            · rw [if_neg e4] at h2
              by_cases e6 : s = 6
              · rw [if_pos e6] at h2; simp at h2; omega
              · rw [if_neg e6] at h2; cases h2
      simp only [e, if_false, List.length_nil]
      omega
theorem zxg : ∀ ps : List Ty, zbr ps = true → 3 * (zcb ps).length ≤ 2 * zao ps + ps.length
  | [], _ => by simp [zcb, zao]
  | p :: r, h => by
    simp only [zbr, Bool.and_eq_true] at h
    have h1 := ybo p h.1
    have h2 := zxg r h.2
    simp only [zcb, zao, List.length_append, List.length_cons]
    omega
end
theorem names8 {p : Ty} (h : zcn p = true) : (za8 p).length ≤ 8 := by
  simp only [zcn, Bool.and_eq_true, decide_eq_true_eq] at h
  have h1 := ybo p h.1.2
  have h2 := zdr p 12 h.1.1
  simp only [za8, List.length_map]
  omega
theorem yh8 {op n : Int} {x : Str} {ks : List Tm} {ps : List Ty} (h : ps.all zcn = true) (i : Int) : (zad (.mk op n x ks ps) i).length ≤ 8 := by
  simp only [zad]
  split
  · simp
  · split
    · split
      · rename_i p hp
        exact names8 (List.all_eq_true.1 h p (List.mem_of_getElem? hp))
      · simp
    · simp
theorem ykx {op n : Int} {x : Str} {ks : List Tm} {ps : List Ty} (h : ps.all zcn = true) : ∀ m i, zgp (.mk op n x ks ps) m i ≤ 8 * m
  | 0, _ => by simp [zgp]
  | m + 1, i => by
    have := ykx (op := op) (n := n) (x := x) (ks := ks) h m (i + 1)
    have := yh8 (op := op) (n := n) (x := x) (ks := ks) h (i : Int)
    simp only [zgp]; omega
mutual
theorem ygl : ∀ t : Tm, zag t = true → ybk t + 8 ≤ 8 * zcx t
  | .mk op n x ks ps, h => by
    simp only [zag, Bool.and_eq_true] at h
    have h1 := ybj ks h.2
    have h2 := ykx (op := op) (n := n) (x := x) (ks := ks) h.1.2 ks.length 0
    simp only [ybk, zcx]
    split <;> omega
theorem ybj : ∀ l : List Tm, zas l = true → zm1 l + 8 * l.length ≤ 8 * zco l
  | [], _ => by simp [zm1, zco]
  | t :: r, h => by
    simp only [zas, Bool.and_eq_true] at h
    have h1 := ygl t h.1
    have h2 := ybj r h.2
    simp only [zm1, zco, List.length_cons]; omega
end
theorem zul {t : Tm} (h : za6 t = true) : (zes t).length ≤ 60 := by
  obtain ⟨h1, _, _, h4⟩ := zcl t h
  have := zja t [] []
  rw [← zu6 t h1, List.length_mergeSort]
  simp at this; omega
theorem zrj {t : Tm} (h : za6 t = true) : (zes t).length + ybk t ≤ 699 := by
  obtain ⟨_, _, _, h4⟩ := zcl t h
  have h1 := zul h
  simp only [za6, Bool.and_eq_true] at h
  have := ygl t h.2
  omega
set_option maxRecDepth 100000 in
theorem yc3 (t : Tm) (s : Sc) (tk : List Str) (hwide : zj8 t) (hpats : zfc t) (htk : tk.length + ybk t ≤ 699) :
    zc5 Tryz.prog 81 [.ref 7 0, .agg (dsA 1 true (dTmc t)), .imm (zen s)] [(1, some (.hp (zvx true (dTmc t)))), (7, some (.cells 107 1 [.own 8 tk.length])), (8, some (.row 9 1 (zbu tk)))]
      (.ret (.agg (dsA 5 true (dTmc (zlb t s tk).1))) [(5, some (.hp (zvx true (dTmc (zlb t s tk).1)))), (7, some (.cells 107 1 [.own 13 (zlb t s tk).2.length])), (13, some (.row 9 1 (zbu (zlb t s tk).2)))]) := by
  obtain ⟨op, n, x, ks, ps⟩ := t
  obtain ⟨x2, ks2, ps2, hsh⟩ := znm op n x ks ps s tk
  rw [hsh]
  refine zz0 (α := { y : Value × List An × Value × List An // vA (.mk true op n x y.1 y.2.1 y.2.2.1 y.2.2.2) = dTmc (.mk op n x ks ps) ∧ zi9 (.mk true op n x y.1 y.2.1 y.2.2.1 y.2.2.2) }) (fun y => [y.1.1, y.1.2.2.1])
    (B := fun y => yem (er (.mk true op n x y.1.1 y.1.2.1 y.1.2.2.1 y.1.2.2.2)) (.mk op n x ks ps)) (C := fun y => yem (er (.mk true op n x y.1.1 y.1.2.1 y.1.2.2.1 y.1.2.2.2)) (.mk op n x2 ks2 ps2))
    (d := fun y => yfp op n x2 y.1.1 y.1.2.2.1) 1 5 (fun vs I w bs h => ?_) (fun y => ?_) (fun y us I w bs h => ?_) (fun y => by simp [yeq, ylp, dsA, dTmc, nmL, nmD, nth]) (by simp [ze1, nmB, nmL, nmD]) (by simp [ze1, nmB, nmL, nmD]) (by simp [ze1, nmB, nmL, nmD]) (by decide) (by simp [nms]) (fun y J ν ν' w bs h hag h5 => ?_)
  · obtain ⟨o', n', x', v, js, u, qs, ⟨h1, h2⟩, rfl, a, b, c⟩ := h
    have e := h1
    simp only [vA, dTmc, List.cons.injEq, V.int.injEq, V.str.injEq, true_and] at e
    obtain ⟨rfl, rfl, rfl, _⟩ := e
    exact ⟨⟨(v, js, u, qs), h1, h2⟩, rfl, _, rfl, h1, a, b, c⟩
  · obtain ⟨⟨v, js, u, qs⟩, h1, h2⟩ := y
    have := ybp (.mk op n x ks ps) s tk (er (.mk true op n x v js u qs)) op n x [] v u (ers js) (ers qs) ks ps rfl rfl ((zj0 _).2 h2) hwide hpats htk
    rw [hsh] at this
    exact this
  · obtain ⟨⟨v, js, u, qs⟩, h1, h2⟩ := y
    obtain ⟨a, e1, e2, e3, e4, e5⟩ := h
    have hf : zi9 a := (zj0 a).1 (by rw [e1]; exact (zj0 _).2 h2)
    obtain ⟨y', ks', qs', rfl, _, _⟩ := ylt e1 rfl
    exact ⟨op, n, y', v, ks', u, qs', ⟨e2, hf⟩, rfl, e3, e4, e5⟩
  · obtain ⟨⟨v, js, u, qs⟩, h1, h2⟩ := y
    obtain ⟨cs, rfl, hcs, hone⟩ := h.aggDInv
    refine .agg cs _ (by simpa [dsA, dTmc] using hcs.1) hone fun i c d hc hd => ?_
    have hc' : cs.toList[i]? = some c := by simpa using hc
    match i with
    | 0 => simp [dsA, dTmc] at hd; subst hd; exact .imm _ _ (hcs.2 0 c _ hc' rfl).immInv
    | 1 => simp [dsA, dTmc] at hd; subst hd; exact .imm _ _ (hcs.2 1 c _ hc' rfl).immInv
    | 2 => simp [dsA, dTmc] at hd; subst hd; exact .imm _ _ (hcs.2 2 c _ hc' rfl).immInv
    | 3 =>
      simp [dsA, dTmc] at hd; subst hd
      have := (hcs.2 3 c _ hc' rfl).rawInv
      subst this
      exact .hv _ _ _ _ _ h5 rfl (hone _ (List.mem_of_getElem? hc'))
    | 4 =>
      simp [dsA, dTmc] at hd; subst hd
      have := (hcs.2 4 c _ hc' rfl).rawInv
      subst this
      exact .hv _ _ _ _ _ h5 rfl (hone _ (List.mem_of_getElem? hc'))
    | i + 5 => simp [dsA, dTmc] at hd
set_option maxRecDepth 100000 in
theorem zwq (t : Tm) (h : za6 t = true) : zc5 Tryz.prog 47 [.mapr 1] [(1, some (.map (zem (zc9 t [] []))))] (.ret (.own 2 (zes t).length) [(1, some (.map (zem (zc9 t [] [])))), (2, some (.row 9 1 (zbu (zes t))))]) := by
  obtain ⟨h1, h2, h3, h4⟩ := zcl t h
  simp only [za6, Bool.and_eq_true] at h
  have := ycl (zc9 t [] []) (fun s hs => by
    rcases zhp t [] [] h.2 s hs with h | h
    · cases h
    · unfold maxLen; omega) (by have := zja t [] []; simp at this; omega)
  rw [zfz, zu6 t h1] at this
  have e : (zbu (zes t)).length = (zes t).length := by simp [zbu]
  rw [e] at this
  exact this
def ycb (t : Tm) : Tm := (zlb t [] (zes t)).1
set_option maxRecDepth 100000 in
theorem zvj (t : Tm) (h : za6 t = true) : zax Tryz.prog 49 [.agg (dTmc t)] (.agg (dTmc (ycb t))) := by
  obtain ⟨h1, h2, h3, h4⟩ := zcl t h
  obtain ⟨op, n, x, ks, ps⟩ := t
  refine zaf ttX_ok Tryz.func49 (by decide +kernel) rfl [1, 2, 3, 4, 5, 6, 7, 8, 9, 10] rfl rfl ?_
  refine xg [] rfl (by simp) ?_
  refine zi8 rfl ?_
  refine xg [] rfl (by simp) ?_
  refine zar (fr := []) [(3, 1)] [] rfl (by simp) (zqt (.mk op n x ks ps) [] [] h2) ⟨⟨rfl, rfl, rfl⟩, trivial⟩ rfl rfl rfl rfl ?_
  refine xg [] rfl (by simp <;> rfl) ?_
  refine zar (fr := [4]) [(3, 1)] [(2, 4)] rfl (by simp) (zwq (.mk op n x ks ps) h) ⟨⟨rfl, rfl, rfl⟩, trivial⟩ rfl rfl rfl rfl ?_
  refine xg [] rfl (by simp) ?_
  refine zar (fr := [6]) [] [(1, 6)] rfl (by simp) (zg6 (.mk op n x ks ps) (zfq h)) trivial rfl rfl rfl rfl ?_
  refine xg [] rfl (by simp) ?_
  obtain ⟨x2, ks2, ps2, hsh⟩ := znm op n x ks ps [] (zes (.mk op n x ks ps))
  have hN := yc3 (.mk op n x ks ps) [] (zes (.mk op n x ks ps)) (zfq h) h2 (zrj h)
  rw [hsh] at hN
  refine zar (fr := [7, 8]) [(6, 1), (5, 7), (4, 8)] [(5, 7), (13, 8)] rfl (by simp) hN ⟨⟨rfl, rfl, rfl⟩, ⟨rfl, rfl, rfl⟩, ⟨rfl, rfl, rfl⟩, trivial⟩ rfl rfl rfl rfl ?_
  refine xg [] rfl (by simp; rfl) ?_
  refine zgk (ids' := [10]) 7 9 (fun y : { y : Value × List An × Value × List An // (vAs y.2.1 = zdg ks2 ∧ vAs y.2.2.2 = zcf ps2) ∧ zcw y.2.1 ∧ zcw y.2.2.2 } => [y.1.1, y.1.2.2.1]) (fun y => zyt (.mk true op n x2 y.1.1 y.1.2.1 y.1.2.2.1 y.1.2.2.2)) rfl (fun vs I w bs h => zje h) fun y => ?_
  obtain ⟨⟨v, js, u, qs⟩, ⟨h5, h6⟩, hf1, hf2⟩ := y
  refine ze5 9 2 (dTmc (.mk op n x2 ks2 ps2)) rfl rfl (fun vs I J w bs h1 h2 h3 cs hc => zud h5 h6 h1 h2 h3 cs hc) rfl ?_
  rw [show ycb (.mk op n x ks ps) = .mk op n x2 ks2 ps2 from hsh]
  exact zaa ⟨_, rfl, tV rfl, trivial⟩
end Go.Hk

/- Maps that are gone through, in an order that is drawn. -/
namespace Go.Hk
structure PMr where
  id : Nat
  kv : List (V × V)
  b : Nat
  es : Array MapEntry
  clock : Nat
  id' : Nat
  ids' : List Nat
  dst : Option Nat
  todo : List DI
def ygb (tt : TT) (n : Nat) (env : Env) (st : St) (ids : List Nat) (todo : List DI) : Option PMr :=
  match yer todo, ids with
  | some o, id' :: ids' => match o.guard, o.op with
    | none, .range t x => match lk tt t, evO env x with
      | some { sh := .map _ _, .. }, some (.mapr i) => match lk st i, zc2 n o.dst, zce todo ([i], [id']) with
        | some (some (.mapx kv b es clock)), true, some (_, _, todo') => some ⟨i, kv, b, es, clock, id', ids', o.dst, todo'⟩
        | _, _, _ => none
      | _, _ => none
    | _, _ => none
  | _, _ => none
structure PMn where
  i : Nat
  kv : List (V × V)
  b : Nat
  b2 : Nat
  es : Array MapEntry
  clock : Nat
  since : Nat
  seen : Array Nat
  c : Nat
  dst : Option Nat
  k : List DI
  all : List Oper
  rest : List Oper
def yln (n : Nat) (env : Env) (st : St) (m : Nat) (todo : List DI) : Option PMn :=
  match todo with
  | .ops all (o :: rest) :: k => match o.guard, o.op with
    | none, .next x false => match evO env x, zc2 n o.dst, lk st m with
      | some (.iter i), true, some (some (.mapx kv b es clock)) => match lk st i with
        | some (some (.miter b' since seen c)) => some ⟨i, kv, b, b', es, clock, since, seen, c, o.dst, k, all, rest⟩
        | _ => none
      | _, _, _ => none
    | _, _ => none
  | _ => none
structure PMe where
  i : Nat
  kv : List (V × V)
  b : Nat
  b2 : Nat
  es : Array MapEntry
  clock : Nat
  seen : Array Nat
  c : Nat
  dst : Option Nat
  todo : List DI
def ygc (n : Nat) (env : Env) (st : St) (m : Nat) (todo : List DI) : Option PMe :=
  match yer todo with
  | some o => match o.guard, o.op with
    | none, .entry x => match evO env x, zc2 n o.dst, lk st m with
      | some (.iter i), true, some (some (.mapx kv b es clock)) => match lk st i, zce todo ([i, m], []) with
        | some (some (.miter b' _ seen c)), some (_, _, todo') => some ⟨i, kv, b, b', es, clock, seen, c, o.dst, todo'⟩
        | _, _ => none
      | _, _, _ => none
    | _, _ => none
  | none => none
section
variable {P : Program} {n : Nat} {F : List Nat} {Q : DQ} {tt : TT} {env env' : Env} {st st' : St} {ids ids' : List Nat} {k todo todo' : List DI} {I : Imm} {μ : Mu} {w : World} {a : Act} {Pn : V → Prop} {d : D} {cx : Prop} {ob : List Prop}
theorem yna {α : Type} {all rest : List Oper} {o : Oper} (d : α → D) (wr : α → St) (hg : o.guard = none) (hnd : ∀ c, o.op ≠ .defer c) (hn : zc2 n o.dst = true)
    (hl : ∀ I μ a w, StRep I μ st ids w → ze6 I μ env a o.op → valX P ((execOp a.eval o).run P w) (fun v w' => ∃ x, ∃ I' μ', StRep I' μ' (wr x ++ st) ids w' ∧ RepD I' μ' v (d x) ∧ μ.le μ' ∧ Ext I μ st w I' μ' (wr x ++ st) w') (yep (yip Q) I μ st w))
    (h : ∀ x, DGo P n F Q (.ops all rest :: k) (zdz o.dst (d x) env) (wr x ++ st) ids) : DGo P n F Q (.ops all (o :: rest) :: k) env st ids := by
  have hn : ∀ t, o.dst = some t → t < n := fun t ht => by
    unfold zc2 at hn
    rw [ht] at hn
    simpa [Nat.blt_eq] using hn
  intro b cs I μ a w items hd hc
  obtain ⟨j, is, rfl, hr, hk⟩ := zjd hd
  obtain ⟨hj, hr'⟩ := zd0 hr
  have hon : zr0 (o.looksAt all.toArray) I μ env a := fun t _ d hl => hc.env t d hl
  have hlen : (o :: rest).length = rest.length + 1 := rfl
  rw [hlen, List.range'_succ]
  have hw : Region.wanted o (yielded all.toArray a.tmps) = true := zau hg
  refine zfh hj hw hnd (valX.upon ((hl I μ a w hc.toStRep (zbi hon)).mono ?_ ?_))
  · rintro v w2 ⟨x, I', μ', q1, q2, q4, q3⟩
    obtain ⟨p1, p2, p3⟩ := zit (n := n) (w := w2) (dst := o.dst) (fun t d hl => (hc.env t d hl).mono q3.imm q4) hc.size hn q2
    have := h x b cs I' μ' (a.put o.dst v) w2 (.inRegion all.toArray (List.range' (j + 1) rest.length) :: is) ⟨⟨rfl, j + 1, hr', rfl⟩, hk⟩
      { q1 with size := p2, env := by cases hdst : o.dst <;> simpa [zdz, hdst] using p1, defers := by rw [p3]; exact hc.defers.ext q3 }
    rw [p3] at this
    exact this.mono fun e a' w'' hp => hp.back (.of_le q4) q3
  · rintro chain w2 ⟨v, x, I2, q1, q2, q3, q4, q5⟩
    refine ⟨.panic x, [], [], [], I2, μ, ⟨v, q1, q3⟩, q2, ?_, .refl _ _, q5, .refl _ _⟩
    exact zmh q4 hc.size (hc.defers.ext q5)
theorem StRep.retellAt {st1 : St} (hst : StRep I μ st ids w) (h : ∀ i b, zap st1 i b → ∃ b0, zap st i b0 ∧ ∀ g, μ i = some g → BlkRep I μ w g b0 → BlkRep I μ w g b) : StRep I μ st1 ids w ∧ Ext I μ st w I μ st1 w := by
  refine ⟨{ imm := hst.imm, blk := fun i b hl => ?_, apart := fun i b g k hl hg hk => ?_, inj := fun i j bi bj gi gj k hi hj => ?_, nodup := hst.nodup, idsFree := hst.idsFree }, ?_⟩
  · obtain ⟨b0, h1, h2⟩ := h i b hl
    obtain ⟨g, hg, hr⟩ := hst.blk i b0 h1
    exact ⟨g, hg, h2 g hg hr⟩
  · obtain ⟨b0, h1, _⟩ := h i b hl
    exact hst.apart i b0 g k h1 hg hk
  · obtain ⟨b0, h1, _⟩ := h i bi hi
    obtain ⟨b1, h2, _⟩ := h j bj hj
    exact hst.inj i j b0 b1 gi gj k h1 h2
  · exact { imm := Imm.le_refl I, os := rfl, tape := rfl, output := rfl, size := Nat.le_refl _, block := fun _ _ _ => rfl, old := fun _ _ _ => rfl
            fresh := fun b _ ⟨i, bi, g, h1, h2⟩ => let ⟨b0, q, _⟩ := h i bi h1; ⟨i, b0, g, q, h2⟩ }
theorem yhw (id : Nat) {kv : List (V × V)} (hl : lk st id = some (some (.map kv)))
    (h : ∀ b es clock, es.size = kv.length → MapKept.Stamped es clock → DGo P n F Q todo env ((id, some (.mapx kv b es clock)) :: st) ids) : DGo P n F Q todo env st ids := by
  refine zd1 fun I μ a w hc => ?_
  obtain ⟨g, hg, b, es, clock, rfl, h2, h3, h4, h5⟩ := hc.blk id _ hl
  obtain ⟨q1, q2⟩ := hc.toStRep.retellAt (st1 := (id, some (.mapx kv b es clock)) :: st) fun i c hlc => by
    rcases zah.1 hlc with ⟨rfl, rfl⟩ | ⟨_, h⟩
    · exact ⟨_, hl, fun g' hg' _ => by rw [hg] at hg'; cases hg'; exact ⟨rfl, h2, h3, h4, h5⟩⟩
    · exact ⟨c, h, fun _ _ h => h⟩
  exact ⟨I, μ, env, _, ids, q1, hc.env, q2, .refl _ _, h b es clock h3 h4⟩
theorem yd6 (id : Nat) {kv : List (V × V)} {b clock : Nat} {es : Array MapEntry} (hl : lk st id = some (some (.mapx kv b es clock)))
    (h : DGo P n F Q todo env ((id, some (.map kv)) :: st) ids) : DGo P n F Q todo env st ids := by
  refine zd1 fun I μ a w hc => ?_
  obtain ⟨q1, q2⟩ := hc.toStRep.retellAt (st1 := (id, some (.map kv)) :: st) fun i c hlc => by
    rcases zah.1 hlc with ⟨rfl, rfl⟩ | ⟨_, h⟩
    · exact ⟨_, hl, fun g' hg' ⟨h1, h2, h3, h4, h5⟩ => ⟨b, es, clock, h1, h2, h3, h4, h5⟩⟩
    · exact ⟨c, h, fun _ _ h => h⟩
  exact ⟨I, μ, env, _, ids, q1, hc.env, q2, .refl _ _, h⟩
theorem ykb (htt : TTok P tt) {i0 : Nat} {kv : List (V × V)} {b : Nat} {es : Array MapEntry} {clock id0 : Nat} {ids0 : List Nat} {d0 : Option Nat} {todo0 : List DI} (h : ygb tt n env st ids todo = some ⟨i0, kv, b, es, clock, id0, ids0, d0, todo0⟩)
    (hk : G P n F Q todo0 (zdz d0 (.iter id0) env) ((id0, some (.miter b clock #[] clock)) :: st) ids0) : G P n F Q todo env st ids := by
  unfold ygb at h
  split at h
  · rename_i o id' ids' ho
    split at h
    · rename_i t x hg hop
      split at h
      · rename_i _ _ _ _ _ _ i ht hx
        split at h
        · rename_i _ _ _ _ all o' todo' hl hd h1
          cases h
          have ho' : o' = o := zdn ho h1
          subst ho'
          refine zcv (fr := [id0]) (wr := [(id0, some (.miter b clock #[] clock))]) (rd := [i0]) h1 ?_ hd (fun c hc => by rw [hop] at hc; cases hc) hk
          intro I μ st1 ids1 a w hag hst hon
          refine ⟨fun _ => ?_, fun hw => by rw [zau hg] at hw; cases hw⟩
          have hops := zbi hon
          rw [hop] at hops
          have hl1 : zap st1 i0 (.mapx kv b es clock) := by unfold zap; rw [hag i0 (by simp)]; exact hl
          obtain ⟨g, hgm, rfl, hheap, _⟩ := hst.blk i0 _ hl1
          have hv := hops x (by simp [Op.operands]) _ hx
          have e1 : a.eval x = .map (some b) := by
            generalize a.eval x = v at hv
            cases hv with
            | mapr _ b' hm => rw [hgm] at hm; cases hm; rfl
          have hu := htt.sh ht
          have hrun : (execOp a.eval o').run P w = .ok (.value (.pointer (some ⟨w.heap.size, 0, none⟩))) (w.alloc (.mapIter (some b) clock #[] clock)) := by
            simp only [execOp, hop, e1]
            exact zet (run_range_map w _ _ _ b es clock hu hheap)
          rw [hrun]
          obtain ⟨μ', q1, q2, q3, q4⟩ := hst.allocO (.mapIter (some b) clock #[] clock) (.pointer (some ⟨w.heap.size, 0, none⟩)) (fun _ h => Eq.symm h) (.miter b clock #[] clock) (fun μ' _ => ⟨w.heap.size, rfl, zgm w _⟩)
          exact ⟨I, μ', q3, .iter _ _ q1, q2, q4⟩
        · cases h
      · cases h
    · cases h
  · cases h
theorem StRep.drew (hst : StRep I μ st ids w) : StRep I μ st ids w.drew :=
  { imm := hst.imm, blk := fun i b h => let ⟨g, h1, h2⟩ := hst.blk i b h; ⟨g, h1, h2.world fun _ _ => rfl⟩, apart := hst.apart, inj := hst.inj, nodup := hst.nodup, idsFree := hst.idsFree }
def ylz (es : Array MapEntry) (seen : Array Nat) : Option (Nat × MapEntry) → Prop
  | none => (leftOf es seen).size = 0
  | some (j, e) => es[j]? = some e ∧ e ∈ (leftOf es seen).toList
def ygn (kv : List (V × V)) : Option (Nat × MapEntry) → D
  | none => .imm (.tup [.bool false])
  | some (j, _) => match kv[j]? with
    | some p => .imm (.tup [.bool true, p.1, p.2])
    | none => .undef
def nextW (i b since : Nat) (seen : Array Nat) (clock : Nat) : Option (Nat × MapEntry) → St
  | none => []
  | some (_, e) => [(i, some (.miter b since (seen.push e.born) clock))]
theorem ymy (m : Nat) {i : Nat} {kv : List (V × V)} {b : Nat} {es : Array MapEntry} {clock since : Nat} {seen : Array Nat} {c : Nat} {d0 : Option Nat} {k0 : List DI} {all rest : List Oper} {b0 : Nat} (h : yln n env st m todo = some ⟨i, kv, b, b0, es, clock, since, seen, c, d0, k0, all, rest⟩) (hbb : b0 = b)
    (hold : ∀ x ∈ es.toList, x.born < since) (hsc : since ≤ c) (hne : i ≠ m)
    (hk : ∀ x, ylz es seen x → DGo P n F Q (.ops all rest :: k0) (zdz d0 (ygn kv x) env) (nextW i b since seen clock x ++ st) ids) : DGo P n F Q todo env st ids := by
  unfold yln at h
  split at h
  · rename_i all' o rest' k'
    split at h
    · rename_i x hg hop
      split at h
      · rename_i i' kv' b1 es' clock' hx hd hm
        split at h
        · rename_i b2 since' seen' c' hi
          · cases h
            subst hbb
            refine yna (α := { x : Option (Nat × MapEntry) // ylz es seen x }) (fun x => ygn kv x.1) (fun x => nextW i b0 since seen clock x.1) hg (fun c hc => by rw [hop] at hc; cases hc) hd (fun I μ a w hst hops => ?_) fun x => hk x.1 x.2
            rw [hop] at hops
            obtain ⟨gm, hgm, rfl, hheap, hlen, hst2, hent⟩ := hst.blk m _ hm
            obtain ⟨gi, hgi, r, rfl, hheapi⟩ := hst.blk i _ hi
            obtain ⟨r', _, hmi⟩ := (hops x (by simp [Op.operands]) _ hx).iterInv
            rw [hgi] at hmi
            have e1 : a.eval x = .pointer (some ⟨r, 0, none⟩) := (Option.some.inj hmi).symm
            have hex : ∀ v w', (Instr.next (.pointer (some ⟨r, 0, none⟩)) false o.type).run P w = .ok v w' → (execOp a.eval o).run P w = .ok (.value v) w' := fun v w' hr => by
              simp only [execOp, hop, e1]
              exact zet hr
            rcases run_next_at w o.type r b0 since c seen es clock hheapi hheap hold hsc with ⟨h0, hr⟩ | ⟨e, he, w1, hw1, hr⟩
            · rw [hex _ _ hr]
              refine ⟨⟨none, h0⟩, I, μ, hst, .imm _ _ (.tup _ _ rfl fun i c x hc hx => ?_), Mu.le_refl μ, Ext.refl _ _ _ _⟩
              match i, hc, hx with
              | 0, hc, hx => cases hc; cases hx; exact .bool _
              | i + 1, hc, hx => simp at hx
            · rw [hex _ _ hr]
              obtain ⟨he1, _⟩ := mem_left he
              obtain ⟨j, hj⟩ := List.getElem?_of_mem he1
              have hj' : es[j]? = some e := by simpa using hj
              obtain ⟨p, hp⟩ : ∃ p, kv[j]? = some p := ⟨_, List.getElem?_eq_getElem (by rw [← hlen]; exact (Array.getElem?_eq_some_iff.1 hj').1)⟩
              obtain ⟨k1, k2⟩ := hent j e p hj' hp
              have hst1 : StRep I μ st ids w1 ∧ Ext I μ st w I μ st w1 := by
                rcases hw1 with rfl | rfl
                · exact ⟨hst, Ext.refl _ _ _ _⟩
                · exact ⟨hst.drew, Ext.drew I μ st w⟩
              have hheap1 : w1.heap[r]? = some (.mapIter (some b0) since seen c) := by rcases hw1 with rfl | rfl <;> exact hheapi
              have hbl := zct hheap1
              obtain ⟨q1, q2⟩ := hst1.1.update (blk' := .miter b0 since (seen.push e.born) clock) (w' := ChangeMaps.setBlock w1 r (.mapIter (some b0) since (seen.push e.born) clock)) hi hgi rfl (by simp [ChangeMaps.setBlock]) rfl rfl rfl
                (fun k hk => Array.getElem?_setIfInBounds_ne (Ne.symm hk)) ⟨r, rfl, by simp [ChangeMaps.setBlock, hbl]⟩
              refine ⟨⟨some (j, e), hj', he⟩, I, μ, q1, ?_, Mu.le_refl μ, hst1.2.trans q2⟩
              simp only [ygn, hp]
              refine .imm _ _ (.tup _ _ rfl fun i c x hc hx => ?_)
              match i, hc, hx with
              | 0, hc, hx => cases hc; cases hx; exact .bool _
              | 1, hc, hx => cases hc; cases hx; exact k1
              | 2, hc, hx => cases hc; cases hx; exact k2
              | i + 3, hc, hx => simp at hx
        · cases h
      · cases h
    · cases h
  · cases h
theorem ykc (m : Nat) {i : Nat} {kv : List (V × V)} {es : Array MapEntry} {seen0 : Array Nat} {d0 : Option Nat} {todo0 : List DI} {seen : Array Nat} {j : Nat} {e : MapEntry} {p : V × V} {b b0 clock c : Nat} (h : ygc n env st m todo = some ⟨i, kv, b, b0, es, clock, seen0, c, d0, todo0⟩) (hbb : b0 = b) (hcc : c = clock)
    (hs : seen0 = seen.push e.born) (hj : es[j]? = some e) (hp : kv[j]? = some p) (hk : G P n F Q todo0 (zdz d0 (.imm (.tup [p.1, p.2])) env) st ids) : G P n F Q todo env st ids := by
  unfold ygc at h
  split at h
  · rename_i o ho
    split at h
    · rename_i x hg hop
      split at h
      · rename_i i' kv' b1 es' clock' hx hd hm
        split at h
        · rename_i b2 since' seen' c' all o' todo' hi h1
          · cases h
            subst hbb
            subst hcc
            subst hs
            have ho' : o' = o := zdn ho h1
            subst ho'
            refine zcv (fr := []) (wr := []) (rd := [i, m]) h1 ?_ hd (fun c hc => by rw [hop] at hc; cases hc) hk
            intro I μ st1 ids1 a w hag hst hon
            refine ⟨fun _ => ?_, fun hw => by rw [zau hg] at hw; cases hw⟩
            have hops := zbi hon
            rw [hop] at hops
            have hm1 : zap st1 m (.mapx kv b0 es c) := by unfold zap; rw [hag m (by simp)]; exact hm
            have hi1 : zap st1 i (.miter b0 since' (seen.push e.born) c) := by unfold zap; rw [hag i (by simp)]; exact hi
            obtain ⟨gm, hgm, rfl, hheap, hlen, hst2, hent⟩ := hst.blk m _ hm1
            obtain ⟨gi, hgi, r, rfl, hheapi⟩ := hst.blk i _ hi1
            obtain ⟨r', _, hmi⟩ := (hops x (by simp [Op.operands]) _ hx).iterInv
            rw [hgi] at hmi
            have e1 : a.eval x = .pointer (some ⟨r, 0, none⟩) := (Option.some.inj hmi).symm
            have he : e ∈ es.toList := List.mem_of_getElem? (by simpa using hj : es.toList[j]? = some e)
            have hrun : (execOp a.eval o').run P w = .ok (.value (.tuple #[e.key, e.val])) w := by
              simp only [execOp, hop, e1]
              exact zet (run_entry_at w r b0 since' seen es c e hheapi hheap he hst2.2.1)
            rw [hrun]
            obtain ⟨k1, k2⟩ := hent j e p hj hp
            refine ⟨I, μ, hst, .imm _ _ (.tup _ _ rfl fun i c x hc hx => ?_), Mu.le_refl μ, Ext.refl _ _ _ _⟩
            match i, hc, hx with
            | 0, hc, hx => cases hc; cases hx; exact k1
            | 1, hc, hx => cases hc; cases hx; exact k2
            | i + 2, hc, hx => simp at hx
        · cases h
      · cases h
    · cases h
  · cases h
end
end Go.Hk

namespace Go.Hk
open Go.Proofs
theorem ztb {op n : Int} {x : Str} {k p : Nat} (h : za9 op n x k p = true) : k ≤ 6 := by
  have h0 : ∀ c : Int, c ≤ 6 → ∀ b c' : Bool, (((k : Int) == c) && b && c') = true → k ≤ 6 := fun c hc b c' h => by simp at h; omega
  have h1 : ∀ c : Int, c ≤ 6 → ∀ b : Bool, (((k : Int) == c) && b) = true → k ≤ 6 := fun c hc b h => by simp at h; omega
  unfold za9 at h
  by_cases e1 : op = 1
  · rw [if_pos e1] at h; exact h0 0 (by decide) _ _ h
  rw [if_neg e1] at h
  by_cases e2 : op = 2
  · rw [if_pos e2] at h; exact h0 0 (by decide) _ _ h
  rw [if_neg e2] at h
  by_cases e3 : op = 3 ∨ op = 21 ∨ op = 25 ∨ op = 28
  · rw [if_pos e3] at h; exact h1 0 (by decide) _ h
  rw [if_neg e3] at h
  by_cases e4 : op = 4
  · rw [if_pos e4] at h; exact h0 0 (by decide) _ _ h
  rw [if_neg e4] at h
  by_cases e5 : op = 5 ∨ op = 27
  · rw [if_pos e5] at h; exact h0 1 (by decide) _ _ h
  rw [if_neg e5] at h
  by_cases e7 : op = 7
  · rw [if_pos e7] at h; exact h0 2 (by decide) _ _ h
  rw [if_neg e7] at h
  by_cases e8 : op = 8
  · rw [if_pos e8] at h; exact h1 3 (by decide) _ h
  rw [if_neg e8] at h
  by_cases e14 : op = 14
  · rw [if_pos e14] at h; simp at h; omega
  rw [if_neg e14] at h
  by_cases e15 : op = 15
  · rw [if_pos e15] at h; simp [inI] at h; omega
  rw [if_neg e15] at h
  by_cases e16 : op = 16 ∨ op = 17 ∨ op = 19 ∨ op = 20 ∨ op = 23 ∨ op = 26
  · rw [if_pos e16] at h; exact h1 1 (by decide) _ h
  rw [if_neg e16] at h
  by_cases e24 : op = 24
  · rw [if_pos e24] at h; exact h0 1 (by decide) _ _ h
  rw [if_neg e24] at h
  by_cases e6 : op = 6 ∨ op = 9 ∨ op = 10 ∨ op = 11 ∨ op = 12 ∨ op = 13 ∨ op = 18 ∨ op = 22
  · rw [if_pos e6] at h; exact h1 2 (by decide) _ h
  rw [if_neg e6] at h; cases h
theorem zta {op n : Int} {x : Str} {k p : Nat} (h : za9 op n x k p = true) {i : Int} (ho : zb2 op i = true ∨ op = 4) : zcj x = true := by
  simp only [zb2, Bool.or_eq_true, Bool.and_eq_true, beq_iff_eq] at ho
  rcases ho with ((h1 | h1) | ⟨h1, _⟩) | h1 <;> subst h1 <;> simp [za9, zbe] at h <;> exact h.2
theorem zp8 {s : Str} (h : zcj s = true) : s.length ≤ 8 := by
  simp only [zcj, Bool.and_eq_true, decide_eq_true_eq] at h
  exact h.1.1.2
mutual
theorem zn1 : ∀ p : Ty, zcc p = true → ∀ q ∈ zc6 p, zcj (zij q) = true
  | .mk s n x ps, h, q, hq => by
    simp only [zcc, Bool.and_eq_true] at h
    simp only [zc6, List.mem_append] at hq
    rcases hq with hq | hq
    · by_cases e : s = 2
      · rw [if_pos e] at hq
        rw [List.mem_singleton.1 hq]
        have h1 := h.1
        simp [zib, e] at h1
        exact h1.2
      · rw [if_neg e] at hq; cases hq
    · exact zlv ps h.2 q hq
theorem zlv : ∀ l : List Ty, zbr l = true → ∀ q ∈ zcb l, zcj (zij q) = true
  | [], _, q, hq => by cases hq
  | p :: r, h, q, hq => by
    simp only [zbr, Bool.and_eq_true] at h
    simp only [zcb, List.mem_append] at hq
    rcases hq with hq | hq
    · exact zn1 p h.1 q hq
    · exact zlv r h.2 q hq
end
theorem yae {op n : Int} {x : Str} {ks : List Tm} {ps : List Ty} {k : Nat} (h : za9 op n x k ps.length = true) (hp : ps.all zcn = true) (i : Int) : ∀ s ∈ zad (.mk op n x ks ps) i, zcj s = true := by
  intro s hs
  simp only [zad] at hs
  by_cases h1 : zb2 op i = true
  · rw [if_pos h1] at hs
    rw [List.mem_singleton.1 hs]
    exact zta h (.inl h1)
  · rw [if_neg h1] at hs
    by_cases h2 : zci op i = true
    · rw [if_pos h2] at hs
      cases hg : ps[(i - 1).toNat]? with
      | none => simp only [hg] at hs; cases hs
      | some p =>
        simp only [hg, za8, List.mem_map] at hs
        obtain ⟨q, hq, rfl⟩ := hs
        have := List.all_eq_true.1 hp p (List.mem_of_getElem? hg)
        simp only [zcn, Bool.and_eq_true] at this
        exact zn1 p this.1.2 q hq
    · rw [if_neg h2] at hs; cases hs
mutual
theorem zpl : ∀ t : Tm, zag t = true → ∀ s ∈ zbm t, zcj s = true
  | .mk op n x ks ps, h, s, hs => by
    simp only [zag, Bool.and_eq_true] at h
    simp only [zbm, List.mem_append] at hs
    rcases hs with hs | hs
    · by_cases e : op = 4
      · rw [if_pos e] at hs
        rw [List.mem_singleton.1 hs]
        exact zta (i := 0) h.1.1 (.inr e)
      · rw [if_neg e] at hs; cases hs
    · exact znu op n x ks ps ks.length h.1.1 h.1.2 0 ks h.2 s hs
theorem znu (op n : Int) (x : Str) (k0 : List Tm) (ps : List Ty) (k : Nat) (hn : za9 op n x k ps.length = true) (hp : ps.all zcn = true) : ∀ (i : Nat) (l : List Tm), zas l = true → ∀ s ∈ zcm (.mk op n x k0 ps) i l, zcj s = true
  | _, [], _, s, hs => by cases hs
  | i, t :: r, h, s, hs => by
    simp only [zas, Bool.and_eq_true] at h
    simp only [zcm, List.mem_append] at hs
    rcases hs with (hs | hs) | hs
    · exact yae hn hp i s hs
    · exact zpl t h.1 s hs
    · exact znu op n x k0 ps k hn hp (i + 1) r h.2 s hs
end
mutual
theorem zzc : ∀ t : Tm, zag t = true → ymk t + 8 ≤ 9 * zcx t
  | .mk op n x ks ps, h => by
    simp only [zag, Bool.and_eq_true] at h
    have := ybi (.mk op n x ks ps) (fun i => yh8 h.1.2 i) 0 ks h.2
    simp only [ymk, zcx]
    split <;> omega
theorem ybi (t : Tm) (hb : ∀ i : Int, (zad t i).length ≤ 8) : ∀ (i : Nat) (l : List Tm), zas l = true → zr7 t i l ≤ 9 * zco l
  | _, [], _ => by simp [zr7]
  | i, k :: r, h => by
    simp only [zas, Bool.and_eq_true] at h
    have h1 := zzc k h.1
    have h2 := ybi t hb (i + 1) r h.2
    have h3 := hb i
    simp only [zr7, zco]; omega
end
mutual
theorem zl0 (a b : Str) (hb : zcj b = true) : ∀ t : Tm, zag t = true → zag (zh6 t a b) = true
  | .mk op n x ks ps, h => by
    simp only [zag, Bool.and_eq_true] at h
    rw [zh6]
    simp only [zag, Bool.and_eq_true, zd6]
    refine ⟨⟨?_, h.1.2⟩, zs7 a b hb _ 0 ks h.2⟩
    unfold ya6
    split
    · rename_i e
      simp only [Bool.and_eq_true, beq_iff_eq] at e
      exact zo0 (i := 0) (.inr e.1) h.1.1 hb
    · exact h.1.1
theorem zs7 (a b : Str) (hb : zcj b = true) (T : Tm) : ∀ (i : Nat) (l : List Tm), zas l = true → zas (zek T i l a b) = true
  | _, [], h => h
  | i, k :: r, h => by
    simp only [zas, Bool.and_eq_true] at h
    simp only [zek, zas, Bool.and_eq_true]
    refine ⟨?_, zs7 a b hb T (i + 1) r h.2⟩
    split
    · exact h.1
    · exact zl0 a b hb k h.1
end
theorem zpv {fr : List Str} {i : Nat} {T k : Tm} {m : List Str} (hk : tmK T i = some k) (hn : zag k = true) (hs : ∀ s ∈ m, s.length ≤ 8) (hml : m.length + (zad T i).length ≤ 699) : ∀ j, j ≤ (zad T i).length → (zgc fr i T m j).2.2.length ≤ m.length + j ∧ (∀ s ∈ (zgc fr i T m j).2.2, s.length ≤ 8) ∧ ∃ k', tmK (zgc fr i T m j).2.1 i = some k' ∧ zag k' = true ∧ zcx k' = zcx k
  | 0, _ => ⟨by simp [zgc], hs, k, hk, hn, rfl⟩
  | j + 1, hj => by
    obtain ⟨h1, h2, k', h3, h4, h5⟩ := zpv (fr := fr) hk hn hs hml j (by omega)
    obtain ⟨x, hx⟩ := zal (show j < (zad T i).length by omega)
    rw [ziq hx]
    generalize zgc fr i T m j = r at *
    obtain ⟨r1, rT, rm⟩ := r
    simp only at h1 h2 h3
    simp only [zfy]
    split
    · obtain ⟨q1, q2⟩ := ze2 rm (by omega)
      refine ⟨by simp only [List.length_append, List.length_singleton]; omega, fun s hs => ?_, zh6 k' x (zbc rm), ?_, zl0 _ _ q1 k' h4, by rw [zo5, h5]⟩
      · rcases List.mem_append.1 hs with hs | hs
        · exact h2 s hs
        · rw [List.mem_singleton.1 hs]; exact zp8 q1
      · rw [zgs, zfe h3, if_pos rfl, h3]; rfl
    · exact ⟨by simp only; omega, h2, k', h3, h4, h5⟩
def ycm (l m : List Str) : Prop := ∀ s, s ∈ l ↔ s ∈ m
theorem yfh {l m : List Str} (h : ycm l m) (x : Str) : ycm (l ++ [x]) (m ++ [x]) := fun s => by simp [h s]
theorem zky {fr : List Str} {i : Nat} : ∀ (xs : List Str) (j : Nat) (T : Tm) (l m : List Str), ycm l m → (xs.foldl (zfy fr i) (j, T, l)).2.1 = (xs.foldl (zfy fr i) (j, T, m)).2.1 ∧ ycm (xs.foldl (zfy fr i) (j, T, l)).2.2 (xs.foldl (zfy fr i) (j, T, m)).2.2
  | [], j, T, l, m, h => ⟨rfl, h⟩
  | x :: r, j, T, l, m, h => by
    simp only [List.foldl_cons, zfy]
    split
    · rw [zob h]
      exact zky r _ _ _ _ (yfh h _)
    · exact zky r _ _ _ _ h
theorem zxn (rec : Tm → Tm) (nm : Str) (fr : List Str) : ∀ (k i : Nat) (T : Tm) (l m : List Str), ycm l m → lpR rec nm fr k i T l = lpR rec nm fr k i T m
  | 0, i, T, l, m, h => rfl
  | k + 1, i, T, l, m, h => by
    obtain ⟨h1, h2⟩ := zky (fr := fr) (i := i) (zad T i) 0 T l m h
    simp only [lpR, zj6]
    rw [h1]
    exact zxn rec nm fr k (i + 1) _ _ _ h2
theorem ymq (es : Array MapEntry) (seen : Array Nat) : (leftOf es seen).size ≤ es.size := by
  unfold leftOf; exact Array.size_filter_le
theorem ygu {es : Array MapEntry} {seen : Array Nat} (h : (leftOf es seen).size = 0) {j : Nat} {e : MapEntry} (he : es[j]? = some e) : seen.contains e.born = true := by
  have h2 : leftOf es seen = #[] := Array.eq_empty_of_size_eq_zero h
  unfold leftOf at h2
  rw [Array.filter_eq_empty_iff] at h2
  have := h2 e (Array.mem_of_getElem? he)
  simpa using this
end Go.Hk
