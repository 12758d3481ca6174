/- The ghost machine: its word for operations that change nothing is sound. (And what it stands on.) -/
import Derived.Test.YtkkdjkidlgnagaaGreatWc
import Derived.Sort.Walk0
import Derived.Shelf.SortM.Plain
import Derived.Shelf.SortM.SortNone
import Derived.Ground.SlgmProg
import Derived.Test.YtkkdjkidlgnagaaGreatProg
import Derived.Sort.MapsRangeIn
import Derived.Sort.KeysCollected
import Derived.Sort.OwnSorted
import Derived.Maps.AppendAt
import Derived.WalkKit
import Derived.OwnWalkIn
import Derived.TacticsInMore
import Derived.RegionIn
import Derived.LoopNIn
import Derived.LoopIn
import Derived.AtR
import Derived.Orders
import Derived.KernelRfl
import Derived.Laws.AppendOwn
import Derived.Test.YtkkdjkidlgnagaaGreatWa
import Derived.Test.YtkkdjkidlgnagaaGreatWb
import Derived.Laws.StructEq
set_option linter.unusedSimpArgs false
set_option linter.unusedVariables false

/- A block behind a pointer that nobody writes any more; what a function does that ranges (iterators). -/
namespace Go.Hk

section
variable {P : Program} {n : Nat} {F : List Nat} {Q : DQ} {tt : TT} {env : Env} {st : St} {ids : List Nat} {todo : List DI}

/-- A block that is owned becomes immutable: the pointer to it is one by value. -/
theorem dgo_freezeP (t : Nat) {id off : Nat} {ty : TypeId} {sz : Nat} {xs : List V} (he : lk env t = some (.ref id off)) (hl : lk st id = some (some (.immb ty sz xs))) (h : DGo P n F Q todo ((t, .ip ty xs off) :: env) ((id, none) :: st) ids) :
    DGo P n F Q todo env st ids := by
  intro b cs I μ a w items hd hc
  have hlive : live st id (.immb ty sz xs) := hl
  obtain ⟨g, hg, hlen, gb, vs, rfl, hheap, hrep, hone⟩ := hc.blk id _ hlive
  obtain ⟨hno, hlt⟩ := hc.apart id _ _ gb hlive hg rfl
  obtain ⟨J, hJ⟩ : ∃ J : Imm, J = fun k => if k = gb then some (.cells vs ty (0, 0)) else I k := ⟨_, rfl⟩
  have hle : I.le J := fun k o h => by
    have : k ≠ gb := fun e => by rw [e, hno] at h; cases h
    rw [hJ]; simp [this, h]
  have hJo : ∀ k o, J k = some o → I k = some o ∨ (k = gb ∧ w.heap[k]? = some o) := fun k o h => by
    rw [hJ] at h
    by_cases hk : k = gb
    · subst hk; simp at h; subst h; exact .inr ⟨rfl, hheap⟩
    · simp [hk] at h; exact .inl h
  have hE : Ext I μ st w J μ ((id, none) :: st) w :=
    { imm := hle, os := rfl, tape := rfl, output := rfl, size := Nat.le_refl _
      block := fun _ _ _ => rfl
      fresh := fun k _ ⟨i, bi, gi, h1, h2, h3⟩ => ⟨i, bi, gi, (live_del.1 h1).2, h2, h3⟩
      old := fun k _ ho => by
        have : k ≠ gb := fun e => ho (e ▸ ⟨id, _, _, hlive, hg, rfl⟩)
        rw [hJ]; simp [this] }
  have hv : RepD I μ (a.tmps.getD t undef) (.ref id off) := hc.env t _ he
  have hptr : a.tmps.getD t undef = .pointer (some ⟨gb, off, none⟩) := by
    generalize a.tmps.getD t undef = v at hv
    cases hv with
    | ref b' _ _ hm => rw [hg] at hm; cases hm; rfl
  have hip : RepD J μ (a.tmps.getD t undef) (.ip ty xs off) := by
    rw [hptr]
    have := RepD.ip (I := J) (μ := μ) gb 0 ty xs off (fun j => (vs[j]?).getD undef) (fun j x hx => ?_) (fun j x hx => ?_)
    · simpa using this
    · have hj : j < vs.size := by have := hrep.1; have := (List.getElem?_eq_some_iff.1 hx).1; simp at *; omega
      rw [hJ]
      simp only [Imm.cell, if_true, Nat.zero_add, Array.getElem?_eq_getElem hj, Option.getD_some, true_and]
      exact hone _ (by simp)
    · have hj : j < vs.size := by have := hrep.1; have := (List.getElem?_eq_some_iff.1 hx).1; simp at *; omega
      simp only [Array.getElem?_eq_getElem hj, Option.getD_some]
      exact (hrep.2 j _ x (by simp [hj]) hx).mono hle
  have hc' : Conc n J μ ((t, .ip ty xs off) :: env) ((id, none) :: st) ids a w :=
    { imm := fun k o h => (hJo k o h).elim (fun h => hc.imm k o h) fun h => h.2
      blk := fun i bi hli => by
        obtain ⟨_, h2⟩ := live_del.1 hli
        obtain ⟨gi, hgi, hr⟩ := hc.blk i bi h2
        exact ⟨gi, hgi, hr.mono hle (Mu.le_refl μ)⟩
      apart := fun i bi gi k hli hgi hk => by
        obtain ⟨h1, h2⟩ := live_del.1 hli
        obtain ⟨q1, q2⟩ := hc.apart i bi gi k h2 hgi hk
        refine ⟨?_, q2⟩
        cases hJk : J k with
        | none => rfl
        | some o =>
          rcases hJo k o hJk with h | ⟨h, _⟩
          · rw [q1] at h; cases h
          · exact absurd (hc.inj i id bi _ gi _ k h2 hlive hgi hg hk (by rw [h]; rfl)) h1
      inj := fun i j bi bj gi gj k hi hj hgi hgj hki hkj => hc.inj i j bi bj gi gj k (live_del.1 hi).2 (live_del.1 hj).2 hgi hgj hki hkj
      nodup := hc.nodup
      idsFree := hc.idsFree
      size := hc.size
      env := fun t' d hlt => by
        by_cases ht : t = t'
        · subst ht; rw [lk_cons_self] at hlt; cases hlt; exact hip
        · rw [lk_cons_ne _ _ ht] at hlt; exact (hc.env t' d hlt).mono hle (Mu.le_refl μ)
      defers := hc.defers.ext hE }
  exact (h b cs J μ a w items hd hc').mono fun e' a' w' hp => hp.back (.refl _ _) hE

/-- A pointer by value. -/
theorem dgo_ipD (t : Nat) {ty : TypeId} {off : Nat} {xs : List V} (he : lk env t = some (.imm (.ip ty xs off))) (h : DGo P n F Q todo ((t, .ip ty xs off) :: env) st ids) : DGo P n F Q todo env st ids := by
  intro b cs I μ a w items hd hc
  refine h b cs I μ a w items hd { hc with env := fun t' d hl => ?_ }
  by_cases ht : t = t'
  · subst ht
    rw [lk_cons_self] at hl; cases hl
    exact ((hc.env t _ he).immInv).ipD
  · rw [lk_cons_ne _ _ ht] at hl; exact hc.env t' d hl

def ipAll : List D → Option (List V)
  | [] => some []
  | d :: r => match toV d, ipAll r with
    | some x, some xs => some (x :: xs)
    | _, _ => none

theorem ipAll_rep {I : Imm} {μ : Mu} : ∀ {vs : List Value} {ds : List D} {xs : List V}, ipAll ds = some xs → RepL I μ vs ds → RepVL I vs xs
  | [], ds, xs, h, hr => by
    cases ds with
    | nil => cases h; exact .nil
    | cons d ds => simp [RepL] at hr
  | v :: vs, ds, xs, h, hr => by
    cases ds with
    | nil => simp [RepL] at hr
    | cons d ds =>
      obtain ⟨h1, h2⟩ := hr.cons
      simp only [ipAll] at h
      split at h
      · cases h; exact .mk (toV_rep (by assumption) h1) (ipAll_rep (by assumption) h2)
      · cases h

/-- A block whose cells are values, known as such. -/
theorem dgo_seal (id : Nat) {ty : TypeId} {sz : Nat} {cs : List D} {xs : List V} (hl : lk st id = some (some (.cells ty sz cs))) (hx : ipAll cs = some xs) (h : DGo P n F Q todo env ((id, some (.immb ty sz xs)) :: st) ids) : DGo P n F Q todo env st ids := by
  intro b cs' I μ a w items hd hc
  have hlive : live st id (.cells ty sz cs) := hl
  obtain ⟨g, hg, hlen, gb, vs, rfl, hheap, hrep, hone⟩ := hc.blk id _ hlive
  have hr := ipAll_rep hx hrep
  have hst : ∀ i bi, live ((id, some (.immb ty sz xs)) :: st) i bi → ∃ b0, live st i b0 := fun i bi h => by
    rcases live_cons.1 h with ⟨rfl, rfl⟩ | ⟨_, h⟩
    · exact ⟨_, hlive⟩
    · exact ⟨bi, h⟩
  have hE : Ext I μ st w I μ ((id, some (.immb ty sz xs)) :: st) w :=
    { imm := Imm.le_refl I, os := rfl, tape := rfl, output := rfl, size := Nat.le_refl _, block := fun _ _ _ => rfl
      fresh := fun k _ ⟨i, bi, gi, h1, h2, h3⟩ => let ⟨b0, q⟩ := hst i bi h1; ⟨i, b0, gi, q, h2, h3⟩
      old := fun _ _ _ => rfl }
  refine (h b cs' I μ a w items hd { hc with blk := fun i bi hli => ?_, apart := fun i bi g k hli => ?_, inj := fun i j bi bj gi gj k hi hj => ?_, defers := hc.defers.ext hE }).mono fun e a' w' hp => hp.back (.refl _ _) hE
  · rcases live_cons.1 hli with ⟨rfl, rfl⟩ | ⟨_, hli⟩
    · exact ⟨_, hg, by rw [← hr.1, hrep.1]; exact hlen, gb, vs, rfl, hheap, hr, hone⟩
    · exact hc.blk i bi hli
  · obtain ⟨b0, q⟩ := hst i bi hli
    exact hc.apart i b0 g k q
  · obtain ⟨b1, q1⟩ := hst i bi hi
    obtain ⟨b2, q2⟩ := hst j bj hj
    exact hc.inj i j b1 b2 gi gj k q1 q2

/-- A block under another name. -/
theorem dgo_alias (i j : Nat) {ids' : List Nat} {blk : Blk} (hl : lk st i = some (some blk)) (hj : (memN ids j && nodupB ids' && allIn ids' ids && !memN ids' j) = true) (h : DGo P n F Q todo env ((j, some blk) :: (i, none) :: st) ids') : DGo P n F Q todo env st ids := by
  intro b cs I μ a w items hd hc
  simp only [Bool.and_eq_true, Bool.not_eq_true'] at hj
  obtain ⟨⟨⟨hj1, hj2⟩, hj3⟩, hj4⟩ := hj
  have hlive : live st i blk := hl
  obtain ⟨g, hg, hr⟩ := hc.blk i _ hlive
  have hjn : μ j = none := hc.idsFree j (memN_iff.1 hj1)
  have hij : i ≠ j := fun e => by rw [e, hjn] at hg; cases hg
  obtain ⟨ν, hν⟩ : ∃ ν : Mu, ν = fun k => if k = j then some g else μ k := ⟨_, rfl⟩
  have hνj : ν j = some g := by rw [hν]; simp
  have hνo : ∀ k, k ≠ j → ν k = μ k := fun k hk => by rw [hν]; simp [hk]
  have hle : μ.le ν := fun k v hk => by
    have : k ≠ j := fun e => by rw [e, hjn] at hk; cases hk
    rw [hνo k this]; exact hk
  have hst : ∀ k bk, live ((j, some blk) :: (i, none) :: st) k bk → (k = j ∧ bk = blk) ∨ (k ≠ j ∧ k ≠ i ∧ live st k bk) := fun k bk h => by
    rcases live_cons.1 h with h | ⟨h1, h⟩
    · exact .inl h
    · obtain ⟨h2, h3⟩ := live_del.1 h
      exact .inr ⟨h1, h2, h3⟩
  have hE : Ext I μ st w I ν ((j, some blk) :: (i, none) :: st) w :=
    { imm := Imm.le_refl I, os := rfl, tape := rfl, output := rfl, size := Nat.le_refl _, block := fun _ _ _ => rfl
      fresh := fun k _ ⟨x, bx, gx, h1, h2, h3⟩ => by
        rcases hst x bx h1 with ⟨rfl, rfl⟩ | ⟨q1, _, q3⟩
        · rw [hνj] at h2; cases h2; exact ⟨i, _, _, hlive, hg, h3⟩
        · exact ⟨x, bx, gx, q3, by rw [← hνo x q1]; exact h2, h3⟩
      old := fun _ _ _ => rfl }
  have hc' : Conc n I ν env ((j, some blk) :: (i, none) :: st) ids' a w :=
    { imm := hc.imm
      blk := fun k bk hk => by
        rcases hst k bk hk with ⟨rfl, rfl⟩ | ⟨q1, _, q3⟩
        · exact ⟨g, hνj, hr.mono (Imm.le_refl I) hle⟩
        · obtain ⟨g', h1, h2⟩ := hc.blk k bk q3
          exact ⟨g', hle _ _ h1, h2.mono (Imm.le_refl I) hle⟩
      apart := fun k bk gk m hk hgk hm => by
        rcases hst k bk hk with ⟨rfl, rfl⟩ | ⟨q1, _, q3⟩
        · rw [hνj] at hgk; cases hgk; exact hc.apart i _ _ m hlive hg hm
        · exact hc.apart k bk gk m q3 (by rw [← hνo k q1]; exact hgk) hm
      inj := fun k k' bk bk' gk gk' m hk hk' hgk hgk' hm hm' => by
        rcases hst k bk hk with ⟨rfl, rfl⟩ | ⟨q1, p1, q3⟩ <;> rcases hst k' bk' hk' with ⟨rfl, rfl⟩ | ⟨q1', p1', q3'⟩
        · rfl
        · rw [hνj] at hgk; cases hgk
          exact absurd (hc.inj k' i bk' _ gk' _ m q3' hlive (by rw [← hνo k' q1']; exact hgk') hg hm' hm) p1'
        · rw [hνj] at hgk'; cases hgk'
          exact absurd (hc.inj k i bk _ gk _ m q3 hlive (by rw [← hνo k q1]; exact hgk) hg hm hm') p1
        · exact hc.inj k k' bk bk' gk gk' m q3 q3' (by rw [← hνo k q1]; exact hgk) (by rw [← hνo k' q1']; exact hgk') hm hm'
      nodup := nodupB_spec hj2
      idsFree := fun k hk => by
        have h1 := hc.idsFree k (allIn_spec hj3 k hk)
        have : k ≠ j := fun e => by rw [← e] at hj4; rw [memN_iff.2 hk] at hj4; cases hj4
        rw [hνo k this]; exact h1
      size := hc.size
      env := fun t d hlt => (hc.env t d hlt).mono (Imm.le_refl I) hle
      defers := hc.defers.ext hE }
  exact (h b cs I ν a w items hd hc').mono fun e' a' w' hp => hp.back (.of_le hle) hE

/-- The calls of yield of an iterator. 'r': whether the last one has said that it goes on. -/
inductive Yields (P : Program) : List D → Bun → Bool → Bun → Prop where
  | nil (S : Bun) : Yields P [] S true S
  | cons {d : D} {l : List D} {S S1 S2 : Bun} {r : Bool} (h : EffY P [d] S true S1) (h1 : Yields P l S1 r S2) : Yields P (d :: l) S r S2
  | stop {d : D} {l : List D} {S S1 : Bun} (h : EffY P [d] S false S1) : Yields P (d :: l) S false S1

theorem Yields.split {l m : List D} {S S2 : Bun} {r : Bool} (h : Yields P (l ++ m) S r S2) : (∃ S1, Yields P l S true S1 ∧ Yields P m S1 r S2) ∨ (r = false ∧ Yields P l S false S2) := by
  induction l generalizing S with
  | nil => exact .inl ⟨S, .nil S, h⟩
  | cons d l ih =>
    cases h with
    | cons h h1 =>
      rcases ih h1 with ⟨S1, q1, q2⟩ | ⟨q1, q2⟩
      · exact .inl ⟨S1, .cons h q1, q2⟩
      · exact .inr ⟨q1, .cons h q2⟩
    | stop h => exact .inr ⟨rfl, .stop h⟩

theorem Yields.nilInv {S S2 : Bun} {r : Bool} (h : Yields P [] S r S2) : r = true ∧ S2 = S := by
  cases h; exact ⟨rfl, rfl⟩

/-- What goes on at every item. -/
theorem Yields.all {l : List D} (S : Nat → Bun) (h : ∀ i d, l[i]? = some d → EffY P [d] (S i) true (S (i + 1))) : Yields P l (S 0) true (S l.length) := by
  have : ∀ (l : List D) (k : Nat), (∀ i d, l[i]? = some d → EffY P [d] (S (k + i)) true (S (k + i + 1))) → Yields P l (S k) true (S (k + l.length)) := by
    intro l
    induction l with
    | nil => intro k _; exact .nil _
    | cons d l ih =>
      intro k h
      have := ih (k + 1) fun i d hi => by
        have := h (i + 1) d (by simpa using hi)
        rwa [show k + 1 + i = k + (i + 1) by omega]
      rw [show k + 1 + l.length = k + (d :: l).length by simp; omega] at this
      exact .cons (h 0 d rfl) this
  have := this l 0 fun i d hi => by simpa using h i d hi
  simpa using this

end
end Go.Hk

/- Contracts of term: the names of a pattern, gone through by a function (names), and as a slice (Names). -/
namespace Go.Hk
open Go.Proofs

def ttN : TT := ttA ++ [
  (95, ⟨.ptr 49, false, 1, 8, [.imm .nilp]⟩),
  (96, ⟨.ptr 9, false, 1, 8, [.imm .nilp]⟩),
  (93, ⟨.func, false, 1, 8, [.imm .nilfn]⟩),
  (92, ⟨.func, false, 1, 8, [.imm .nilfn]⟩),
  (141, ⟨.func, false, 1, 8, [.imm .nilfn]⟩),
  (142, ⟨.func, false, 1, 8, [.imm .nilfn]⟩),
  (87, ⟨.ptr 26, false, 1, 8, [.imm .nilp]⟩)]
theorem ttN_ok : TTok Tryz.prog ttN := .of_eq (l := [4, 3, 9, 26, 53, 49, 22, 24, 5, 51, 50, 29, 23, 47, 113, 66, 150, 63, 64, 111, 109, 30, 173, 101, 1, 79, 176, 121, 114, 116, 118, 55, 153, 122, 95, 96, 93, 92, 141, 142, 87]) (by kernel_rfl)

section
variable {n : Nat} {F : List Nat} {Q : DQ} {env env' : Env} {st st' : St} {ids ids' : List Nat} {k todo : List DI} {ob : List Prop}
theorem nd (path : List Pt) (h : run ttN n 300 path todo env st ids [] = .at k env' st' ids' ob) (hob : allP ob) (hd : G Tryz.prog n F Q k env' st' ids') : DGo Tryz.prog n F Q todo env st ids := d_run ttN_ok mixed 300 path h hob hd
theorem ng (path : List Pt) (h : run ttN n 300 path todo env st ids [] = .at k env' st' ids' ob) (hob : allP ob) (hd : G Tryz.prog n F Q k env' st' ids') : G Tryz.prog n F Q todo env st ids := g_run ttN_ok mixed 300 path h hob hd
theorem ni {es : List (List V)} {m : Int} {sz : Nat} {e : TypeId} {g : Option (Bool × Bool)} {ob : List Prop} {t : Nat} {todo' : List DI} {c : List V} (h : pidx ttN n env todo = some ⟨es, m, sz, e, g, ob, some t, todo'⟩)
    (hc : cxOf g → 0 ≤ m ∧ es[m.toNat]? = some c ∧ c.length = sz) (hob : allP ob) (hk : G Tryz.prog n F Q todo' ((t, gD g (.ip e c 0)) :: env) st ids) : G Tryz.prog n F Q todo env st ids := g_index ttN_ok h hc hob hk
end

/-! ### Names of patterns -/
mutual
def pitems : Ty → List D
  | .mk s n x ps => (if s = 2 then [.ip 49 (dTyc (.mk s n x ps)) 2] else []) ++ pitemss ps
def pitemss : List Ty → List D
  | [] => []
  | t :: r => pitems t ++ pitemss r
end

def fromSt (r : St) : St := (1, some (.cells 141 1 [.yld 3])) :: (2, some (.cells 142 1 [.fn (.func 98) [] [.ref 1 0, .ref 2 0]])) :: r
def fromC (t : Ty) (b : Bool) (S S' : Bun) : Prop := EffC Tryz.prog 98 [.ip 49 (dTyc t) 0, .ref 1 0, .ref 2 0]
  (fromSt [(3, some .pin), (4, some (.bun 3 S))]) (.ret (.imm (.bool b)) (fromSt [(3, some .pin), (5, some (.bun 3 S'))]))

theorem pitemss_append (a b : List Ty) : pitemss (a ++ b) = pitemss a ++ pitemss b := by
  induction a with
  | nil => rfl
  | cons t r ih => simp [pitemss, ih]

set_option maxRecDepth 100000 in
theorem from_tail (s n : Int) (x : Str) (ps : List Ty) (IH : ∀ t ∈ ps, ∀ {b : Bool} {S S' : Bun}, Yields Tryz.prog (pitems t) S b S' → fromC t b S S') {b : Bool} {S S' : Bun} (hY : Yields Tryz.prog (pitemss ps) S b S') :
    DGo Tryz.prog Tryz.f98.ntmps [1, 2, 3, 4] (RetQ ttN Tryz.f98.results.toList (.ret (.imm (.bool b)) (fromSt [(3, some .pin), (5, some (.bun 3 S'))])))
      [.code (tailC Tryz.f98 2)] [(0, .ip 49 (dTyc (.mk s n x ps)) 0), (1, .ref 1 0), (2, .ref 2 0)] (fromSt [(3, some .pin), (6, some (.bun 3 S))]) [7, 8, 5] := by
  refine nd [] rfl (by simp [cxOf]) ?_
  refine dgo_fact (t := 22) rfl fun hv => ?_
  have hlen : ps.length ≤ 9223372036854775807 := by simp [vOk, maxLen] at hv; omega
  refine dgo_enter (fun y : Nat × Bun => [(24, .imm (.int .i64 y.1)), (23, .imm (.int .i64 ps.length)), (0, .ip 49 (dTyc (.mk s n x ps)) 0), (1, .ref 1 0), (2, .ref 2 0)])
    (fun y => fromSt [(3, some .pin), (6, some (.bun 3 y.2))]) [7, 8, 5] (fun y => ps.length - y.1)
    (fun y => y.1 ≤ ps.length ∧ Yields Tryz.prog (pitemss (ps.drop y.1)) y.2 b S') (0, S) ⟨Nat.zero_le _, hY⟩ ⟨rfl, tInt (by simp), rfl, rfl, rfl, trivial⟩ ⟨rfl, rfl, rfl, rfl, trivial⟩ rfl fun y hi ih => ?_
  obtain ⟨i, S0⟩ := y
  obtain ⟨hi1, hi2⟩ := hi
  simp only at hi1 hi2
  refine nd [] rfl (by simp [cxOf]) ?_
  refine dgo_cond rfl (fun h => ?_) (fun h => ?_)
  · simp at h
    obtain ⟨t, ht⟩ := has_get h
    have hd : ps.drop i = t :: ps.drop (i + 1) := get_drop ht
    rw [hd] at hi2
    refine nd [] rfl (by simp [cxOf]) ?_
    refine ni rfl (c := dTyc t) (fun _ => ⟨by simp, by simpa using dTys_get ht, by simp⟩) (by simp) ?_
    refine ng [] rfl (by simp [cxOf]) ?_
    rcases Yields.split hi2 with ⟨S1, q1, q2⟩ | ⟨q1, q2⟩
    · refine g_call (fr := [7]) [(1, 1), (2, 2), (3, 3), (6, 4)] [(5, 7)] rfl (by simp) (IH t (List.mem_of_getElem? ht) q1) ⟨⟨rfl, rfl, rfl⟩, ⟨rfl, rfl, rfl⟩, ⟨rfl, rfl, rfl⟩, ⟨rfl, rfl, rfl⟩, trivial⟩ rfl rfl rfl rfl ?_
      refine ng [] rfl (by simp [cxOf]; rfl) ?_
      refine dgo_cond rfl (fun h => by simp at h) (fun h => ?_)
      refine nd [] rfl (by simp) ?_
      refine dgo_swap 6 7 rfl ?_
      exact dgo_again (ih (i + 1, S1) (by simp only; omega) ⟨by simp only; omega, q2⟩) ⟨tInt (w64 (by simp only; omega) (by simp only; omega)), rfl, rfl, rfl, rfl, trivial⟩ ⟨rfl, rfl, rfl, rfl, trivial⟩ rfl
    · subst q1
      refine g_call (fr := [7]) [(1, 1), (2, 2), (3, 3), (6, 4)] [(5, 7)] rfl (by simp) (IH t (List.mem_of_getElem? ht) q2) ⟨⟨rfl, rfl, rfl⟩, ⟨rfl, rfl, rfl⟩, ⟨rfl, rfl, rfl⟩, ⟨rfl, rfl, rfl⟩, trivial⟩ rfl rfl rfl rfl ?_
      refine ng [] rfl (by simp [cxOf]; rfl) ?_
      refine dgo_cond rfl (fun h => ?_) (fun h => by simp at h)
      refine nd [] rfl (by simp) ?_
      refine dgo_alias (ids' := []) 7 5 rfl rfl ?_
      exact dgo_ret ⟨_, rfl, tV rfl, rfl, rfl, rfl, rfl, trivial⟩
  · simp at h
    have hd : ps.drop i = [] := List.drop_eq_nil_of_le (by omega)
    rw [hd] at hi2
    obtain ⟨rfl, rfl⟩ := hi2.nilInv
    refine dgo_exit rfl ?_
    refine nd [] rfl (by simp) ?_
    refine dgo_alias (ids' := []) 6 5 rfl rfl ?_
    exact dgo_ret ⟨_, rfl, tV rfl, rfl, rfl, rfl, rfl, trivial⟩

set_option maxRecDepth 100000 in
theorem from_ok : ∀ (t : Ty) {b : Bool} {S S' : Bun}, Yields Tryz.prog (pitems t) S b S' → fromC t b S S'
  | .mk s n x ps, b, S, S', hY => by
    have IH : ∀ t ∈ ps, ∀ {b : Bool} {S S' : Bun}, Yields Tryz.prog (pitems t) S b S' → fromC t b S S' := fun t ht {b S S'} h => from_ok t h
    refine effc_of ttN_ok Tryz.func98 (by decide +kernel) rfl [6, 7, 8, 5] rfl rfl ?_
    refine ng [] rfl (by simp [cxOf]) ?_
    simp only [pitems] at hY
    by_cases hs : s = 2
    · rw [if_pos hs] at hY
      cases hY with
      | cons h h1 =>
        refine g_ycall (j := 4) (j2 := 6) rfl (by simp [cxOf]) (by simp [cxOf, hs]) h rfl rfl rfl rfl rfl ?_
        refine ng [] rfl (by simp [cxOf]; rfl) ?_
        refine dgo_cond rfl (fun h => by simp [hs] at h) (fun h => ?_)
        refine dgo_skip ?_
        exact dgo_again (from_tail s n x ps IH h1) ⟨rfl, rfl, rfl, trivial⟩ ⟨rfl, rfl, rfl, rfl, trivial⟩ rfl
      | stop h =>
        refine g_ycall (j := 4) (j2 := 6) rfl (by simp [cxOf]) (by simp [cxOf, hs]) h rfl rfl rfl rfl rfl ?_
        refine ng [] rfl (by simp [cxOf]; rfl) ?_
        refine dgo_cond rfl (fun h => ?_) (fun h => by simp [hs] at h)
        refine nd [] rfl (by simp) ?_
        refine dgo_alias (ids' := []) 6 5 rfl rfl ?_
        exact dgo_ret ⟨_, rfl, tV rfl, rfl, rfl, rfl, rfl, trivial⟩
    · rw [if_neg hs] at hY
      refine g_ncall (.imm (.bool true)) rfl (by simp [cxOf, hs]) ?_
      refine ng [] rfl (by simp [cxOf]; rfl) ?_
      refine dgo_cond rfl (fun h => by simp [hs] at h) (fun h => ?_)
      refine dgo_skip ?_
      refine dgo_alias (ids' := [7, 8, 5]) 4 6 rfl rfl ?_
      exact dgo_again (from_tail s n x ps IH hY) ⟨rfl, rfl, rfl, trivial⟩ ⟨rfl, rfl, rfl, rfl, trivial⟩ rfl
termination_by t => SizeOf.sizeOf t
decreasing_by
  all_goals
    have := List.sizeOf_lt_of_mem ht
    simp_wf
    omega

def boxP (t : Ty) : St := [(6, some (.cells 95 1 [.ip 49 (dTyc t) 0]))]

set_option maxRecDepth 100000 in
theorem names1_ok (t : Ty) {b : Bool} {S S' : Bun} (hY : Yields Tryz.prog (pitems t) S b S') :
    EffC Tryz.prog 97 [.yld 3, .ref 6 0] ((3, some .pin) :: (4, some (.bun 3 S)) :: boxP t) (.ret (.tup []) ((3, some .pin) :: (5, some (.bun 3 S')) :: boxP t)) := by
  refine effc_of ttN_ok Tryz.func97 (by decide +kernel) rfl [1, 2, 7, 5] rfl rfl ?_
  refine ng [] rfl (by simp [cxOf]) ?_
  refine g_call (fr := [7]) [(1, 1), (2, 2), (3, 3), (4, 4)] [(5, 7)] rfl (by simp) (from_ok t hY) ⟨⟨rfl, rfl, rfl⟩, ⟨rfl, rfl, rfl⟩, ⟨rfl, rfl, rfl⟩, ⟨rfl, rfl, rfl⟩, trivial⟩ rfl rfl rfl rfl ?_
  refine ng [] rfl (by simp [cxOf]) ?_
  refine dgo_alias (ids' := []) 7 5 rfl rfl ?_
  exact dgo_end ⟨[], rfl, rfl, rfl, rfl, rfl, trivial⟩

set_option maxRecDepth 100000 in
theorem names_ok (t : Ty) : EffC Tryz.prog 63 [.ip 49 (dTyc t) 0] [] (.ret (.fn (.func 97) [] [.ref 6 0]) (boxP t)) := by
  refine effc_of ttN_ok Tryz.func63 (by decide +kernel) rfl [6] rfl rfl ?_
  refine ng [] rfl (by simp [cxOf]) ?_
  exact dgo_ret ⟨_, rfl, rfl, rfl, trivial⟩

mutual
def pnodes : Ty → List Ty
  | .mk s n x ps => (if s = 2 then [.mk s n x ps] else []) ++ pnodess ps
def pnodess : List Ty → List Ty
  | [] => []
  | t :: r => pnodes t ++ pnodess r
end
mutual
theorem pitems_eq : ∀ t : Ty, pitems t = (pnodes t).map fun u => .ip 49 (dTyc u) 2
  | .mk s n x ps => by
    simp only [pitems, pnodes, List.map_append, pitemss_eq ps]
    by_cases h : s = 2 <;> simp [h]
theorem pitemss_eq : ∀ ts : List Ty, pitemss ts = (pnodess ts).map fun u => .ip 49 (dTyc u) 2
  | [] => rfl
  | t :: r => by simp only [pitemss, pnodess, List.map_append, pitems_eq t, pitemss_eq r]
end

def textT : Ty → Str
  | .mk _ _ x _ => x
def pnames (t : Ty) : List Str := (pnodes t).map textT

def stN (l : List Str) : Nat → St
  | 0 => [(2, some (.cells 29 1 [.nils]))]
  | k + 1 => [(2, some (.cells 29 1 [.own 4 (dStr (l.take (k + 1))).length])), (4, some (.row 9 1 (dStr (l.take (k + 1)))))]

/-- The assignment and the body of the first range over a function in a body. -/
def rfAB : Code → Option (Code × Code)
  | .rangeFunc _ _ a b => some (a, b)
  | .seq x y => match rfAB x with
    | some r => some r
    | none => rfAB y
  | .block _ c => rfAB c
  | _ => none
def rfAsg (f : Func) : Code := match rfAB (tailC f 0) with
  | some (a, _) => a
  | none => .skip
def rfBody (f : Func) : Code := match rfAB (tailC f 0) with
  | some (_, b) => b
  | none => .skip

set_option maxRecDepth 100000 in
theorem Names_round (l : List Str) (hlen : l.length ≤ 1000000) (i : Nat) (u : Ty) (hu : l[i]? = some (textT u)) {L : LoopI} (h1 : Tryz.prog.funcs[L.fn]?.isSome) (h2 : L.tmps.size = Tryz.f26.ntmps) (h3 : L.ps = #[10]) (h4 : L.asg = rfAsg Tryz.f26)
    (h5 : L.body = rfBody Tryz.f26) (h6 : L.E = [(4, .ref 2 0)]) (h7 : L.F = []) : EffY Tryz.prog [.ip 49 (dTyc u) 2] (bunOf L (stN l i) none) true (bunOf L (stN l (i + 1)) none) := by
  obtain ⟨fc, hf⟩ := Option.isSome_iff_exists.1 h1
  obtain ⟨fs, fm, x, ps⟩ := u
  have hlt : i < l.length := (List.getElem?_eq_some_iff.1 hu).1
  refine effy_of (pend := none) (d := .ip 49 (dTyc (.mk fs fm x ps)) 2) (ids := [7, 8]) (t := 5) (p := 10) hf h3 (h4.trans rfl) h2 rfl rfl rfl rfl (by decide) (by decide) ?_ ?_
  · rw [h6, h7]
    cases i <;> refine ⟨by decide, ?_⟩ <;> simp [stN, nmE, nmD, nmSt, nmB, nmL]
  · rw [h5, h6, h7]
    cases i with
    | zero =>
      refine nd [] rfl (by simp [cxOf]) ?_
      refine g_append ttN_ok rfl ⟨by simp, by simp [maxLen], by simp, trivial⟩ ?_
      refine ng [] rfl (by simp [cxOf]; rfl) ?_
      refine dgo_swap 4 7 rfl ?_
      refine dgo_end (?_ : subSt _ (stN l (0 + 1)))
      have e : dStr (l.take (0 + 1)) = [] ++ [[.str x]] := by
        rw [get_take hu]; rfl
      simp only [stN, e]
      exact ⟨rfl, rfl, trivial⟩
    | succ i =>
      refine nd [] rfl (by simp [cxOf]) ?_
      refine g_append ttN_ok rfl ⟨by simp, by simp [maxLen]; omega, by simp; omega, trivial⟩ ?_
      refine ng [] rfl (by simp [cxOf]; rfl) ?_
      refine dgo_swap 4 7 rfl ?_
      refine dgo_end (?_ : subSt _ (stN l (i + 1 + 1)))
      have e : dStr (l.take (i + 1 + 1)) = dStr (l.take (i + 1)) ++ [[.str x]] := by
        rw [get_take hu, dStr_append]; rfl
      simp only [stN, e]
      exact ⟨by simp only [List.length_append]; rfl, rfl, trivial⟩

set_option maxRecDepth 100000 in
theorem Names_ok (t : Ty) (hN : (pnames t).length ≤ 1000000) : PureC Tryz.prog 26 [.agg (dTyc t)] (if checkPatB t then .tup [.sl (dStr (pnames t)), .int .i64 0] else .tup [.sl [], .int .i64 2]) := by
  refine effc_of ttN_ok Tryz.func26 (by decide +kernel) rfl [1, 2, 6, 7, 8, 9] rfl rfl ?_
  refine ng [] rfl (by simp [cxOf]) ?_
  refine g_pcall rfl (fun _ => CheckPat_ok t) (by simp [cxOf]) ?_
  refine ng [] rfl (by simp [cxOf]) ?_
  refine dgo_cond rfl (fun h => ?_) (fun h => ?_)
  · refine nd [] rfl (by simp [cxOf]) ?_
    have hc : checkPatB t = false := by
      cases hc : checkPatB t with
      | false => rfl
      | true => rw [hc] at h; simp at h
    rw [hc]
    exact dgo_ret ⟨_, rfl, tV rfl, trivial⟩
  · have hc : checkPatB t = true := by
      cases hc : checkPatB t with
      | false => rw [hc] at h; simp at h
      | true => rfl
    rw [hc]
    refine nd [] rfl (by simp [cxOf]) ?_
    refine dgo_freezeP 1 rfl rfl ?_
    refine nd [] rfl (by simp [cxOf]) ?_
    refine g_call (st0 := []) (fr := [6]) [] [(6, 6)] rfl (by simp) (names_ok t) trivial rfl rfl rfl rfl ?_
    refine nd [] rfl (by simp [cxOf]) ?_
    refine dgo_range (y := 3) (j := 4) (j2 := 5) (stc := boxP t) (stc' := boxP t) (stx := stN (pnames t) 0) (stB := stN (pnames t) (pnames t).length) (pend := none) (E := [(4, .ref 2 0)]) (ids' := [7, 8, 9]) (d := .tup []) rfl Tryz.func97 (by decide +kernel) rfl (by decide) ⟨rfl, trivial⟩
      (subSt_live ⟨rfl, rfl, trivial⟩) (fun L h1 h2 h3 h4 h5 h6 h7 => names1_ok (b := true) t ?_) ?_ ?_ ?_ ?_ ?_
    · have := Yields.all (P := Tryz.prog) (l := pitems t) (fun i => bunOf L (stN (pnames t) i) none) fun i d hi => by
        rw [pitems_eq, List.getElem?_map] at hi
        cases hu : (pnodes t)[i]? with
        | none => rw [hu] at hi; cases hi
        | some u =>
          rw [hu] at hi
          cases hi
          exact Names_round (pnames t) hN i u (by simp [pnames, hu]) h1 h2 h3 h4 h5 h6 h7
      have hl : (pitems t).length = (pnames t).length := by simp [pitems_eq, pnames]
      rw [hl] at this
      exact this
    · simp [boxP, stN, nms]
    · simp [boxP, nms]
    · intro i hi
      have e : nmL (renL (look (swapL [] ++ [(6, 6)])) [] ++ renL (look (swapL [] ++ [(6, 6)])) [.ref 6 0]) = [6] := rfl
      rw [e] at hi
      simpa [boxP, nms, nmSt, nmB, nmL, nmD] using hi
    · refine ⟨by decide, ?_⟩
      cases (pnames t).length <;> simp [stN, nmE, nmD, nmSt, nmB, nmL, nms]
    · cases hm : pnames t with
      | nil =>
        refine nd [] rfl (by simp [cxOf]) ?_
        exact dgo_ret ⟨_, rfl, tV rfl, trivial⟩
      | cons x r =>
        have e : dStr ((x :: r).take ((x :: r).length)) = dStr (x :: r) := by rw [List.take_of_length_le (Nat.le_refl _)]
        have e2 : stN (x :: r) (x :: r).length = [(2, some (.cells 29 1 [.own 4 (dStr (x :: r)).length])), (4, some (.row 9 1 (dStr (x :: r))))] := by
          simp only [List.length_cons, stN] at e ⊢
          rw [e]
        rw [e2]
        refine dgo_freeze 4 rfl ?_
        refine nd [] rfl (by simp [cxOf]) ?_
        exact dgo_ret ⟨_, rfl, tV rfl, trivial⟩

end Go.Hk

/- Contracts of term: all strings of letters, gone through by a function; the first name that is none of some. -/
namespace Go.Hk
open Go.Proofs

def ttL : TT := [
  (3, ⟨.int .i64, false, 1, 8, [.imm (.int .i64 0)]⟩),
  (9, ⟨.str, false, 1, 16, [.imm (.str [])]⟩),
  (4, ⟨.bool, false, 1, 1, [.imm (.bool false)]⟩),
  (79, ⟨.map 9 4, false, 1, 8, [.imm .nilmap]⟩),
  (163, ⟨.func, false, 1, 8, [.imm .nilfn]⟩),
  (2, ⟨.int .i64, false, 1, 8, [.imm (.int .i64 0)]⟩),
  (126, ⟨.func, false, 1, 8, [.imm .nilfn]⟩),
  (77, ⟨.func, false, 1, 8, [.imm .nilfn]⟩),
  (21, ⟨.int .i32, false, 1, 4, [.imm (.int .i32 0)]⟩),
  (29, ⟨.sl 9, false, 1, 24, [.nils]⟩),
  (125, ⟨.func, false, 1, 8, [.imm .nilfn]⟩)]
theorem ttL_ok : TTok Tryz.prog ttL := .of_eq (l := [3, 9, 4, 79, 163, 2, 126, 77, 21, 29, 125]) (by kernel_rfl)

section
variable {n : Nat} {F : List Nat} {Q : DQ} {env env' : Env} {st st' : St} {ids ids' : List Nat} {k todo : List DI} {ob : List Prop}
theorem ld (path : List Pt) (h : run ttL n 300 path todo env st ids [] = .at k env' st' ids' ob) (hob : allP ob) (hd : G Tryz.prog n F Q k env' st' ids') : DGo Tryz.prog n F Q todo env st ids := d_run ttL_ok mixed 300 path h hob hd
theorem lg (path : List Pt) (h : run ttL n 300 path todo env st ids [] = .at k env' st' ids' ob) (hob : allP ob) (hd : G Tryz.prog n F Q k env' st' ids') : G Tryz.prog n F Q todo env st ids := g_run ttL_ok mixed 300 path h hob hd
theorem li {es : List (List V)} {m : Int} {sz : Nat} {e : TypeId} {g : Option (Bool × Bool)} {ob : List Prop} {t : Nat} {todo' : List DI} {c : List V} (h : pidx ttL n env todo = some ⟨es, m, sz, e, g, ob, some t, todo'⟩)
    (hc : cxOf g → 0 ≤ m ∧ es[m.toNat]? = some c ∧ c.length = sz) (hob : allP ob) (hk : G Tryz.prog n F Q todo' ((t, gD g (.ip e c 0)) :: env) st ids) : G Tryz.prog n F Q todo env st ids := g_index ttL_ok h hc hob hk
end

/-! ### Strings of letters, by their length, and sorted -/
def runK (f : Nat → List Str) : Nat → Nat → List Str
  | _, 0 => []
  | k, n + 1 => f k ++ runK f (k + 1) n
def itemsS : Nat → Str → List Str
  | 0, b => [b]
  | m + 1, b => runK (fun k => itemsS m (b ++ [UInt8.ofNat (97 + k)])) 0 26
def dS (l : List Str) : List D := l.map fun s => .imm (.str s)

def putSt (r : St) : St := (1, some (.cells 77 1 [.yld 3])) :: (2, some (.cells 163 1 [.fn (.func 125) [] [.ref 1 0, .ref 2 0]])) :: r
def putC (b : Str) (m : Int) (r : Bool) (S S' : Bun) : Prop := EffC Tryz.prog 125 [.imm (.str b), .imm (.int .i64 m), .ref 1 0, .ref 2 0]
  (putSt [(3, some .pin), (4, some (.bun 3 S))]) (.ret (.imm (.bool r)) (putSt [(3, some .pin), (5, some (.bun 3 S'))]))

theorem runK_cons (f : Nat → List Str) (k n : Nat) : runK f k (n + 1) = f k ++ runK f (k + 1) n := rfl
theorem dS_app (a b : List Str) : dS (a ++ b) = dS a ++ dS b := by simp [dS]

set_option maxRecDepth 100000 in
theorem put_ok : ∀ (m : Nat) (b : Str) {r : Bool} {S S' : Bun}, m ≤ 1000 → b.length + m ≤ 1000000 → Yields Tryz.prog (dS (itemsS m b)) S r S' → putC b m r S S'
  | 0, b, r, S, S', _, hb, hY => by
    refine effc_of ttL_ok Tryz.func125 (by decide +kernel) rfl [6, 7, 8, 5] rfl rfl ?_
    refine lg [] rfl (by simp [cxOf]) ?_
    refine dgo_cond rfl (fun h => ?_) (fun h => by simp at h)
    refine ld [] rfl (by simp [cxOf]) ?_
    cases hY with
    | cons h h1 =>
      obtain ⟨rfl, rfl⟩ := h1.nilInv
      refine g_ycall (j := 4) (j2 := 6) rfl (by simp [cxOf]) trivial h rfl rfl rfl rfl rfl ?_
      refine lg [] rfl (by simp [cxOf]) ?_
      refine dgo_alias (ids' := []) 6 5 rfl rfl ?_
      exact dgo_ret ⟨_, rfl, tV rfl, rfl, rfl, rfl, rfl, trivial⟩
    | stop h =>
      refine g_ycall (j := 4) (j2 := 6) rfl (by simp [cxOf]) trivial h rfl rfl rfl rfl rfl ?_
      refine lg [] rfl (by simp [cxOf]) ?_
      refine dgo_alias (ids' := []) 6 5 rfl rfl ?_
      exact dgo_ret ⟨_, rfl, tV rfl, rfl, rfl, rfl, rfl, trivial⟩
  | m + 1, b, r, S, S', hm, hb, hY => by
    refine effc_of ttL_ok Tryz.func125 (by decide +kernel) rfl [6, 7, 8, 5] rfl rfl ?_
    refine lg [] rfl (by simp [cxOf]) ?_
    refine dgo_cond rfl (fun h => by simp at h; omega) (fun h => ?_)
    refine ld [] rfl (by simp [cxOf]) ?_
    refine dgo_alias (ids' := [7, 8, 5]) 4 6 rfl rfl ?_
    refine dgo_enter (fun y : Nat × Bun => [(13, .imm (.int .i64 y.1)), (0, .imm (.str b)), (1, .imm (.int .i64 ((m + 1 : Nat) : Int))), (2, .ref 1 0), (3, .ref 2 0)])
      (fun y => putSt [(3, some .pin), (6, some (.bun 3 y.2))]) [7, 8, 5] (fun y => 26 - y.1)
      (fun y => y.1 ≤ 26 ∧ Yields Tryz.prog (dS (runK (fun k => itemsS m (b ++ [UInt8.ofNat (97 + k)])) y.1 (26 - y.1))) y.2 r S') (0, S) ⟨Nat.zero_le _, hY⟩ ⟨rfl, rfl, rfl, rfl, rfl, trivial⟩ ⟨rfl, rfl, rfl, rfl, trivial⟩ rfl fun y hi ih => ?_
    obtain ⟨k, S0⟩ := y
    obtain ⟨hi1, hi2⟩ := hi
    simp only at hi1 hi2
    refine ld [] rfl (by simp [cxOf]) ?_
    refine dgo_cond rfl (fun h => ?_) (fun h => ?_)
    · simp at h
      have hk : 26 - k = (26 - (k + 1)) + 1 := by omega
      rw [hk, runK_cons, dS_app] at hi2
      have w1 : IntKind.i64.wrap (97 + (k : Int)) = 97 + k := w64 (by omega) (by omega)
      have w2 : IntKind.i32.wrap (97 + (k : Int)) = 97 + k := by
        simp only [IntKind.wrap, IntKind.bits, IntKind.signed]
        simp
        omega
      have w4 : (97 + (k : Int)).toNat = 97 + k := by omega
      have w3 : IntKind.i64.wrap (((m + 1 : Nat) : Int) - 1) = m := by rw [w64 (by omega) (by omega)]; omega
      refine ld [] rfl (by simp only [w1, w2]; simp [cxOf]; omega) ?_
      have hcall : ∀ (x : Str) (y : Int) (r1 : Bool) (S1 : Bun), x = b ++ [UInt8.ofNat (97 + k)] → y = m → Yields Tryz.prog (dS (itemsS m (b ++ [UInt8.ofNat (97 + k)]))) S0 r1 S1 → putC x y r1 S0 S1 := fun x y r1 S1 hx hy h => by
        rw [hx, hy]
        exact put_ok m _ (by omega) (by simp; omega) h
      rcases Yields.split hi2 with ⟨S1, q1, q2⟩ | ⟨q1, q2⟩
      · refine g_call (fr := [7]) [(1, 1), (2, 2), (3, 3), (6, 4)] [(5, 7)] rfl (by simp) (hcall _ _ true S1 (by rw [w1, w2, w4]) (by rw [w3]) q1) ⟨⟨rfl, rfl, rfl⟩, ⟨rfl, rfl, rfl⟩, ⟨rfl, rfl, rfl⟩, ⟨rfl, rfl, rfl⟩, trivial⟩ rfl rfl rfl rfl ?_
        refine lg [] rfl (by simp [cxOf]) ?_
        refine dgo_cond rfl (fun h => by simp at h) (fun h => ?_)
        refine ld [] rfl (by simp) ?_
        refine dgo_swap 6 7 rfl ?_
        exact dgo_again (ih (k + 1, S1) (by simp only; omega) ⟨by simp only; omega, q2⟩) ⟨tInt (w64 (by simp only; omega) (by simp only; omega)), rfl, rfl, rfl, rfl, trivial⟩ ⟨rfl, rfl, rfl, rfl, trivial⟩ rfl
      · subst q1
        refine g_call (fr := [7]) [(1, 1), (2, 2), (3, 3), (6, 4)] [(5, 7)] rfl (by simp) (hcall _ _ false S' (by rw [w1, w2, w4]) (by rw [w3]) q2) ⟨⟨rfl, rfl, rfl⟩, ⟨rfl, rfl, rfl⟩, ⟨rfl, rfl, rfl⟩, ⟨rfl, rfl, rfl⟩, trivial⟩ rfl rfl rfl rfl ?_
        refine lg [] rfl (by simp [cxOf]) ?_
        refine dgo_cond rfl (fun h => ?_) (fun h => by simp at h)
        refine ld [] rfl (by simp) ?_
        refine dgo_alias (ids' := []) 7 5 rfl rfl ?_
        exact dgo_ret ⟨_, rfl, tV rfl, rfl, rfl, rfl, rfl, trivial⟩
    · simp at h
      have hk : 26 - k = 0 := by omega
      rw [hk] at hi2
      obtain ⟨rfl, rfl⟩ := hi2.nilInv
      refine dgo_exit rfl ?_
      refine ld [] rfl (by simp) ?_
      refine dgo_alias (ids' := []) 6 5 rfl rfl ?_
      exact dgo_ret ⟨_, rfl, tV rfl, rfl, rfl, rfl, rfl, trivial⟩

set_option maxRecDepth 100000 in
theorem strings1_ok {S S' : Bun} (hY : Yields Tryz.prog (dS (itemsS 1 [] ++ itemsS 2 [])) S false S') :
    EffC Tryz.prog 124 [.yld 3] [(3, some .pin), (4, some (.bun 3 S))] (.ret (.tup []) [(3, some .pin), (5, some (.bun 3 S'))]) := by
  refine effc_of ttL_ok Tryz.func124 (by decide +kernel) rfl [1, 2, 6, 7, 8, 5] rfl rfl ?_
  refine lg [] rfl (by simp [cxOf]) ?_
  refine dgo_alias (ids' := [7, 8, 5]) 4 6 rfl rfl ?_
  refine dgo_enter (fun y : Nat × Bun => [(3, .imm (.int .i64 y.1)), (1, .ref 1 0), (2, .ref 2 0)])
    (fun y => putSt [(3, some .pin), (6, some (.bun 3 y.2))]) [7, 8, 5] (fun y => 3 - y.1)
    (fun y => (y.1 = 1 ∧ Yields Tryz.prog (dS (itemsS 1 [] ++ itemsS 2 [])) y.2 false S') ∨ (y.1 = 2 ∧ Yields Tryz.prog (dS (itemsS 2 [])) y.2 false S')) (1, S) (.inl ⟨rfl, hY⟩) ⟨rfl, rfl, rfl, trivial⟩ ⟨rfl, rfl, rfl, rfl, trivial⟩ rfl fun y hi ih => ?_
  obtain ⟨k, S0⟩ := y
  simp only at hi
  refine ld [] rfl (by simp [cxOf]) ?_
  have hcall : ∀ (n : Nat) (y : Int) (r1 : Bool) (S1 : Bun), n ≤ 2 → y = n → Yields Tryz.prog (dS (itemsS n [])) S0 r1 S1 → putC [] y r1 S0 S1 := fun n y r1 S1 hn hy h => by
    rw [hy]
    exact put_ok n _ (by omega) (by simp; omega) h
  rcases hi with ⟨hk, hi⟩ | ⟨hk, hi⟩
  · rw [dS_app] at hi
    rcases Yields.split hi with ⟨S1, q1, q2⟩ | ⟨_, q2⟩
    · refine g_call (fr := [7]) [(1, 1), (2, 2), (3, 3), (6, 4)] [(5, 7)] rfl (by simp) (hcall 1 _ true S1 (by omega) (by rw [hk]) q1) ⟨⟨rfl, rfl, rfl⟩, ⟨rfl, rfl, rfl⟩, ⟨rfl, rfl, rfl⟩, ⟨rfl, rfl, rfl⟩, trivial⟩ rfl rfl rfl rfl ?_
      refine lg [] rfl (by simp [cxOf]) ?_
      refine dgo_cond rfl (fun h => ?_) (fun h => by simp at h)
      refine ld [] rfl (by simp) ?_
      refine dgo_swap 6 7 rfl ?_
      exact dgo_again (ih (k + 1, S1) (by simp only; omega) (.inr ⟨by simp only; omega, q2⟩)) ⟨tInt (w64 (by simp only; omega) (by simp only; omega)), rfl, rfl, trivial⟩ ⟨rfl, rfl, rfl, rfl, trivial⟩ rfl
    · refine g_call (fr := [7]) [(1, 1), (2, 2), (3, 3), (6, 4)] [(5, 7)] rfl (by simp) (hcall 1 _ false S' (by omega) (by rw [hk]) q2) ⟨⟨rfl, rfl, rfl⟩, ⟨rfl, rfl, rfl⟩, ⟨rfl, rfl, rfl⟩, ⟨rfl, rfl, rfl⟩, trivial⟩ rfl rfl rfl rfl ?_
      refine lg [] rfl (by simp [cxOf]) ?_
      refine dgo_cond rfl (fun h => by simp at h) (fun h => ?_)
      refine dgo_exit rfl ?_
      refine dgo_alias (ids' := []) 7 5 rfl rfl ?_
      exact dgo_end ⟨[], rfl, rfl, rfl, rfl, trivial⟩
  · refine g_call (fr := [7]) [(1, 1), (2, 2), (3, 3), (6, 4)] [(5, 7)] rfl (by simp) (hcall 2 _ false S' (by omega) (by rw [hk]) hi) ⟨⟨rfl, rfl, rfl⟩, ⟨rfl, rfl, rfl⟩, ⟨rfl, rfl, rfl⟩, ⟨rfl, rfl, rfl⟩, trivial⟩ rfl rfl rfl rfl ?_
    refine lg [] rfl (by simp [cxOf]) ?_
    refine dgo_cond rfl (fun h => by simp at h) (fun h => ?_)
    refine dgo_exit rfl ?_
    refine dgo_alias (ids' := []) 7 5 rfl rfl ?_
    exact dgo_end ⟨[], rfl, rfl, rfl, rfl, trivial⟩

set_option maxRecDepth 100000 in
theorem strings_ok : PureC Tryz.prog 86 [] (.fn (.func 124)) := by
  refine effc_of ttL_ok Tryz.func86 (by decide +kernel) rfl [] rfl rfl ?_
  refine lg [] rfl (by simp [cxOf]) ?_
  exact dgo_ret ⟨_, rfl, tV rfl, trivial⟩

/-! ### The first name that is none of some -/
def addS (l : List Str) (s : Str) : List Str := if hasS l s then l else l ++ [s]
theorem setK_add (l : List Str) (s : Str) : setM (setK l) (.str s) (.bool true) = setK (addS l s) := by
  unfold addS
  by_cases h : hasS l s = true
  · rw [if_pos h]
    induction l with
    | nil => simp [hasS] at h
    | cons x r ih =>
      simp only [hasS, Bool.or_eq_true] at h
      simp only [setK, List.map_cons, setM, eqK]
      by_cases hx : s = x
      · subst hx; simp
      · have h2 : hasS r s = true := by
          rcases h with h | h
          · exact absurd (by simpa using h) (fun e : x = s => hx e.symm)
          · exact h
        have := ih h2
        simp only [setK] at this
        simp [hx, this]
  · rw [if_neg h]
    exact setK_new l s (by simpa using h)
theorem hasS_app (l m : List Str) (x : Str) : hasS (l ++ m) x = (hasS l x || hasS m x) := by
  induction l with
  | nil => simp [hasS]
  | cons y r ih => simp [hasS, ih, Bool.or_assoc]
theorem hasS_add (l : List Str) (s x : Str) : hasS (addS l s) x = hasS (l ++ [s]) x := by
  unfold addS
  by_cases h : hasS l s = true
  · rw [if_pos h, hasS_app]
    by_cases hx : s = x
    · subst hx; rw [h]; rfl
    · simp [hasS, hx]
  · rw [if_neg h]

theorem dgo_fnD {P : Program} {n : Nat} {F : List Nat} {Q : DQ} {env : Env} {st : St} {ids : List Nat} {todo : List DI} (t : Nat) {f : Fn} (he : lk env t = some (.imm (.fn f))) (h : DGo P n F Q todo ((t, .fn f [] []) :: env) st ids) : DGo P n F Q todo env st ids := by
  intro b cs I μ a w items hd hc
  refine h b cs I μ a w items hd { hc with env := fun t' d hl => ?_ }
  by_cases ht : t = t'
  · subst ht
    rw [lk_cons_self] at hl; cases hl
    rw [(hc.env t _ he).immInv.fnInv]
    exact .fn _ #[] #[] [] [] rfl rfl (fun i v d h => by simp at h) (fun i v d h => by simp at h)
  · rw [lk_cons_ne _ _ ht] at hl; exact hc.env t' d hl

theorem Yields.pre {P : Program} {l : List D} {d : D} {m : List D} {S S' : Bun} (h : ∀ x ∈ l, EffY P [x] S true S) (h1 : EffY P [d] S false S') : Yields P (l ++ d :: m) S false S' := by
  induction l with
  | nil => exact .stop h1
  | cons x r ih => exact .cons (h x (by simp)) (ih fun y hy => h y (by simp [hy]))

def stF (met : List Str) (s : Str) : St := [(1, some (.immb 9 1 [.str s])), (2, some (.map (setK met))), (3, some (.cells 79 1 [.mapr 2]))]


def rfAB2 : Code → Option (Code × Code)
  | .rangeFunc _ _ a b => some (a, b)
  | .seq x y => match rfAB2 x with
    | some r => some r
    | none => rfAB2 y
  | .block _ c => rfAB2 c
  | _ => none
def rfAsg2 (f : Func) : Code := match rfAB2 (tailC f 0) with
  | some (a, _) => a
  | none => .skip
def rfBody2 (f : Func) : Code := match rfAB2 (tailC f 0) with
  | some (_, b) => b
  | none => .skip

/-- Whether a string is what is looked for. -/
def freshB (l : List Str) (s : Str) : Bool := nameS s && !hasS l s

set_option maxRecDepth 100000 in
theorem Fresh_on (met : List Str) (u : Str) (hu : freshB met u = false) {L : LoopI} (h1 : Tryz.prog.funcs[L.fn]?.isSome) (h2 : L.tmps.size = Tryz.f47.ntmps) (h3 : L.ps = #[18]) (h4 : L.asg = rfAsg2 Tryz.f47)
    (h5 : L.body = rfBody2 Tryz.f47) (h6 : L.E = [(2, .ref 1 0), (3, .ref 3 0)]) (h7 : L.F = []) : EffY Tryz.prog [.imm (.str u)] (bunOf L (stF met []) none) true (bunOf L (stF met []) none) := by
  obtain ⟨fc, hf⟩ := Option.isSome_iff_exists.1 h1
  refine effy_of (pend := none) (d := .imm (.str u)) (ids := [7, 8]) (t := 6) (p := 18) hf h3 (h4.trans rfl) h2 rfl rfl rfl rfl (by decide) (by decide) ?_ ?_
  · rw [h6, h7]
    refine ⟨by decide, ?_⟩
    simp [stF, nmE, nmD, nmSt, nmB, nmL]
  · rw [h5, h6, h7]
    refine ld [] rfl (by simp [cxOf]) ?_
    refine g_pcall rfl (fun _ => tName_ok u) (by simp [cxOf]) ?_
    refine lg [] rfl (by simp [cxOf]) ?_
    refine g_mlook ttL_ok 2 rfl rfl rfl (setK_keys met) (by simp [cxOf]) (z := .bool false) rfl (fun _ => .bool _) (setK_look met u) ?_
    refine lg [] rfl (by simp [cxOf]) ?_
    have hu' : (nameS u && !hasS met u) = false := hu
    refine dgo_cond rfl (fun h => ?_) (fun h => ?_)
    · exfalso
      cases hn : nameS u <;> cases hh : hasS met u <;> simp [hn, hh] at h hu'
    · refine ld [] rfl (by simp [cxOf]) ?_
      refine dgo_end (?_ : subSt _ (stF met []))
      exact ⟨rfl, rfl, rfl, trivial⟩

set_option maxRecDepth 100000 in
theorem Fresh_stop (met : List Str) (u : Str) (hu : freshB met u = true) {L : LoopI} (h1 : Tryz.prog.funcs[L.fn]?.isSome) (h2 : L.tmps.size = Tryz.f47.ntmps) (h3 : L.ps = #[18]) (h4 : L.asg = rfAsg2 Tryz.f47)
    (h5 : L.body = rfBody2 Tryz.f47) (h6 : L.E = [(2, .ref 1 0), (3, .ref 3 0)]) (h7 : L.F = []) : EffY Tryz.prog [.imm (.str u)] (bunOf L (stF met []) none) false (bunOf L (stF met u) (some .ret)) := by
  obtain ⟨fc, hf⟩ := Option.isSome_iff_exists.1 h1
  refine effy_of (pend := some .ret) (d := .imm (.str u)) (ids := [7, 8]) (t := 6) (p := 18) hf h3 (h4.trans rfl) h2 rfl rfl rfl rfl (by decide) (by decide) ?_ ?_
  · rw [h6, h7]
    refine ⟨by decide, ?_⟩
    simp [stF, nmE, nmD, nmSt, nmB, nmL]
  · rw [h5, h6, h7]
    refine ld [] rfl (by simp [cxOf]) ?_
    refine g_pcall rfl (fun _ => tName_ok u) (by simp [cxOf]) ?_
    refine lg [] rfl (by simp [cxOf]) ?_
    refine g_mlook ttL_ok 2 rfl rfl rfl (setK_keys met) (by simp [cxOf]) (z := .bool false) rfl (fun _ => .bool _) (setK_look met u) ?_
    refine lg [] rfl (by simp [cxOf]) ?_
    have hu' : (nameS u && !hasS met u) = true := hu
    refine dgo_cond rfl (fun h => ?_) (fun h => ?_)
    · refine ld [] rfl (by simp [cxOf]) ?_
      refine dgo_ret (?_ : subSt _ (stF met u))
      exact ⟨rfl, rfl, rfl, trivial⟩
    · exfalso
      cases hn : nameS u <;> cases hh : hasS met u <;> simp [hn, hh] at h hu'

set_option maxRecDepth 100000 in
theorem Fresh_ok (l : List Str) (s : Str) (pre post : List Str) (hl : l.length ≤ 1000000) (hsp : itemsS 1 [] ++ itemsS 2 [] = pre ++ s :: post) (hpre : ∀ x ∈ pre, freshB l x = false) (hs : freshB l s = true) :
    PureC Tryz.prog 47 [.sl (dStr l)] (.str s) := by
  refine effc_of ttL_ok Tryz.func47 (by decide +kernel) rfl [1, 2, 3, 4, 7, 8] rfl rfl ?_
  refine lg [] rfl (by simp [cxOf]) ?_
  refine g_mkmap rfl ?_
  refine lg [] rfl (by simp [cxOf]) ?_
  refine dgo_enter (fun y : Nat × List Str => [(10, .imm (.int .i64 y.1)), (9, .imm (.int .i64 l.length)), (8, .imm (.sl (dStr l))), (2, .ref 1 0), (3, .ref 3 0)]) (fun y => stF y.2 []) [7, 8] (fun y => l.length - y.1)
    (fun y => y.1 ≤ l.length ∧ ∀ x, hasS y.2 x = hasS (l.take y.1) x) (0, []) ⟨Nat.zero_le _, fun _ => rfl⟩ ⟨rfl, tInt (by simp), rfl, rfl, rfl, trivial⟩ ⟨rfl, rfl, rfl, trivial⟩ rfl fun y hi ih => ?_
  obtain ⟨i, met⟩ := y
  obtain ⟨hi1, hi2⟩ := hi
  simp only at hi1 hi2
  refine ld [] rfl (by simp [cxOf]) ?_
  refine dgo_cond rfl (fun h => ?_) (fun h => ?_)
  · simp at h
    obtain ⟨x, hx⟩ := has_get h
    refine ld [] rfl (by simp) ?_
    refine li rfl (c := [.str x]) (fun _ => ⟨by simp, by simpa using dStr_get hx, rfl⟩) (by simp) ?_
    refine lg [] rfl (by simp) ?_
    refine g_mset ttL_ok rfl rfl rfl (setK_keys met) ?_
    refine lg [] rfl (by simp) ?_
    rw [setK_add]
    exact dgo_again (ih (i + 1, addS met x) (by simp only; omega) ⟨by simp only; omega, fun y => by simp only; rw [hasS_add, hasS_app, hi2 y, get_take hx, hasS_app]⟩) ⟨tInt (w64 (by simp only; omega) (by simp only; omega)), rfl, rfl, rfl, rfl, trivial⟩ ⟨rfl, rfl, rfl, trivial⟩ rfl
  · simp at h
    have hi3 : ∀ x, freshB met x = freshB l x := fun x => by
      have := hi2 x
      rw [List.take_of_length_le (by omega)] at this
      simp only [freshB, this]
    refine dgo_exit rfl ?_
    refine ld [] rfl (by simp) ?_
    refine g_pcall rfl (fun _ => strings_ok) (by simp) ?_
    refine ld [] rfl (by simp) ?_
    refine dgo_fnD 17 rfl ?_
    refine dgo_range (y := 3) (j := 4) (j2 := 5) (stc := []) (stc' := []) (stx := stF met []) (stB := stF met s) (pend := some .ret) (E := [(2, .ref 1 0), (3, .ref 3 0)]) (ids' := [7, 8, 9]) (d := .tup []) rfl Tryz.func124 (by decide +kernel) rfl (by decide) ⟨rfl, rfl, trivial⟩
      (subSt_live ⟨rfl, rfl, rfl, trivial⟩) (fun L h1 h2 h3 h4 h5 h6 h7 => strings1_ok ?_) ?_ ?_ ?_ ?_ ?_
    · rw [hsp, dS_app]
      refine Yields.pre (fun x hx => ?_) (Fresh_stop met s (by rw [hi3]; exact hs) h1 h2 h3 h4 h5 h6 h7)
      obtain ⟨u, hu, rfl⟩ := List.mem_map.1 hx
      exact Fresh_on met u (by rw [hi3]; exact hpre u hu) h1 h2 h3 h4 h5 h6 h7
    · simp [nms]
    · simp [nms]
    · intro i hi
      have e : nmL (([] : List D) ++ []) = [] := rfl
      rw [e] at hi
      simp [nmSt] at hi
    · refine ⟨by decide, ?_⟩
      simp [stF, nmE, nmD, nmSt, nmB, nmL, nms]
    · exact dgo_ret ⟨_, rfl, tV rfl, trivial⟩

end Go.Hk

/- Contracts of term: the names that a term binds in a part (bound, list). -/
namespace Go.Hk
open Go.Proofs

def boxT (t : Tm) : St := [(6, some (.cells 87 1 [.ip 26 (dTmc t) 0]))]

/-- Whether a term binds its own text in a part. -/
def ownB1 (op kid : Int) : Bool := op == 5 || op == 27 || (op == 7 && kid == 1)

set_option maxRecDepth 100000 in
theorem bound_text (op n : Int) (x : Str) (ks : List Tm) (ps : List Ty) (kid : Int) (h : ownB1 op kid = true) :
    EffC Tryz.prog 117 [.ip 26 (dTmc (.mk op n x ks ps)) 0, .imm (.int .i64 kid)] [] (.ret (.fn (.func 137) [] [.ref 6 0]) (boxT (.mk op n x ks ps))) := by
  refine effc_of ttN_ok Tryz.func117 (by decide +kernel) rfl [6] rfl rfl ?_
  refine ng [] rfl (by simp [cxOf]) ?_
  have h' : (op == 5 || op == 27 || (op == 7 && kid == 1)) = true := h
  refine dgo_cond rfl (fun h1 => ?_) (fun h1 => ?_)
  · refine nd [] rfl (by simp [cxOf]) ?_
    refine dgo_cond rfl (fun _ => ?_) (fun h2 => by rw [h1] at h2; cases h2)
    refine nd [] rfl (by simp [cxOf]) ?_
    exact dgo_ret ⟨_, rfl, rfl, rfl, trivial⟩
  · refine nd [] rfl (by simp [cxOf]) ?_
    refine dgo_cond rfl (fun h2 => ?_) (fun h2 => ?_)
    · refine nd [] rfl (by simp [cxOf]) ?_
      refine dgo_cond rfl (fun _ => ?_) (fun h3 => by rw [h2] at h3; cases h3)
      refine nd [] rfl (by simp [cxOf]) ?_
      exact dgo_ret ⟨_, rfl, rfl, rfl, trivial⟩
    · refine nd [] rfl (by simp [cxOf]) ?_
      refine dgo_cond rfl (fun _ => ?_) (fun h3 => ?_)
      · refine nd [] rfl (by simp [cxOf]) ?_
        exact dgo_ret ⟨_, rfl, rfl, rfl, trivial⟩
      · exfalso
        rw [h1, h2] at h'
        cases e1 : (op == 7) <;> cases e2 : (kid == 1) <;> simp [e1, e2] at h' h3

/-- Whether a term binds the names of a pattern in a part. -/
def patB1 (op kid : Int) : Bool := op == 15 && decide (0 < kid)

set_option maxRecDepth 100000 in
theorem bound_pat (op n : Int) (x : Str) (ks : List Tm) (ps : List Ty) (kid : Int) (h : ownB1 op kid = false) (h2 : patB1 op kid = true) (p : Ty) (hp : ps[(kid - 1).toNat]? = some p) (hk : kid ≤ 1000000) :
    EffC Tryz.prog 117 [.ip 26 (dTmc (.mk op n x ks ps)) 0, .imm (.int .i64 kid)] [] (.ret (.fn (.func 97) [] [.ref 6 0]) (boxP p)) := by
  refine effc_of ttN_ok Tryz.func117 (by decide +kernel) rfl [7, 6] rfl rfl ?_
  refine ng [] rfl (by simp [cxOf]) ?_
  have h' : (op == 5 || op == 27 || (op == 7 && kid == 1)) = false := h
  have h2' : (op == 15 && decide (0 < kid)) = true := h2
  simp only [Bool.or_eq_false_iff] at h'
  obtain ⟨⟨e1, e2⟩, e3⟩ := h'
  simp only [Bool.and_eq_true, decide_eq_true_eq] at h2'
  refine dgo_cond rfl (fun h1 => by rw [e1] at h1; cases h1) (fun h1 => ?_)
  refine nd [] rfl (by simp [cxOf]) ?_
  refine dgo_cond rfl (fun h1 => by rw [e2] at h1; cases h1) (fun h1 => ?_)
  refine nd [] rfl (by simp [cxOf]) ?_
  refine dgo_cond rfl (fun h3 => ?_) (fun h3 => ?_)
  · exfalso
    cases q1 : (op == 7) <;> cases q2 : (kid == 1) <;> simp [q1, q2] at e3 h3
  refine nd [] rfl (by simp [cxOf]) ?_
  refine dgo_cond rfl (fun h4 => ?_) (fun h4 => by simp [h2'.1, h2'.2] at h4)
  refine nd [] rfl (by simp [cxOf]) ?_
  refine ni rfl (c := dTyc p) (fun _ => ⟨by rw [w64 (by omega) (by omega)]; omega, by rw [w64 (by omega) (by omega)]; exact dTys_get hp, by simp⟩) (by simp) ?_
  refine ng [] rfl (by simp [cxOf]) ?_
  refine g_call (st0 := []) (fr := [6]) [] [(6, 6)] rfl (by simp) (names_ok p) trivial rfl rfl rfl rfl ?_
  refine ng [] rfl (by simp [cxOf]) ?_
  exact dgo_ret ⟨_, rfl, rfl, rfl, trivial⟩

set_option maxRecDepth 100000 in
theorem bound_none (op n : Int) (x : Str) (ks : List Tm) (ps : List Ty) (kid : Int) (h : ownB1 op kid = false) (h2 : patB1 op kid = false) :
    EffC Tryz.prog 117 [.ip 26 (dTmc (.mk op n x ks ps)) 0, .imm (.int .i64 kid)] [] (.ret (.imm (.fn (.func 138))) []) := by
  refine effc_of ttN_ok Tryz.func117 (by decide +kernel) rfl [7, 6] rfl rfl ?_
  refine ng [] rfl (by simp [cxOf]) ?_
  have h' : (op == 5 || op == 27 || (op == 7 && kid == 1)) = false := h
  have h2' : (op == 15 && decide (0 < kid)) = false := h2
  simp only [Bool.or_eq_false_iff] at h'
  obtain ⟨⟨e1, e2⟩, e3⟩ := h'
  refine dgo_cond rfl (fun h1 => by rw [e1] at h1; cases h1) (fun h1 => ?_)
  refine nd [] rfl (by simp [cxOf]) ?_
  refine dgo_cond rfl (fun h1 => by rw [e2] at h1; cases h1) (fun h1 => ?_)
  refine nd [] rfl (by simp [cxOf]) ?_
  refine dgo_cond rfl (fun h3 => ?_) (fun h3 => ?_)
  · exfalso
    cases q1 : (op == 7) <;> cases q2 : (kid == 1) <;> simp [q1, q2] at e3 h3
  refine nd [] rfl (by simp [cxOf]) ?_
  refine dgo_cond rfl (fun h4 => ?_) (fun h4 => ?_)
  · exfalso
    cases q1 : (op == 15) <;> cases q2 : decide (0 < kid) <;> simp [q1, q2] at h2' h4 <;> simp_all
  refine nd [] rfl (by simp [cxOf]) ?_
  exact dgo_ret ⟨_, rfl, tV rfl, trivial⟩

/-! ### What they go through -/
set_option maxRecDepth 100000 in
theorem bound1_ok (t : Tm) {r : Bool} {S S' : Bun} (hY : Yields Tryz.prog [.ip 26 (dTmc t) 2] S r S') :
    EffC Tryz.prog 137 [.yld 3, .ref 6 0] ((3, some .pin) :: (4, some (.bun 3 S)) :: boxT t) (.ret (.tup []) ((3, some .pin) :: (5, some (.bun 3 S')) :: boxT t)) := by
  obtain ⟨op, n, x, ks, ps⟩ := t
  refine effc_of ttN_ok Tryz.func137 (by decide +kernel) rfl [7, 5] rfl rfl ?_
  refine ng [] rfl (by simp [cxOf]) ?_
  cases hY with
  | cons h h1 =>
    obtain ⟨rfl, rfl⟩ := h1.nilInv
    refine g_ycall (j := 4) (j2 := 7) rfl (by simp [cxOf]) trivial h rfl rfl rfl rfl rfl ?_
    refine ng [] rfl (by simp [cxOf]) ?_
    refine dgo_alias (ids' := []) 7 5 rfl rfl ?_
    exact dgo_end ⟨[], rfl, rfl, rfl, rfl, rfl, trivial⟩
  | stop h =>
    refine g_ycall (j := 4) (j2 := 7) rfl (by simp [cxOf]) trivial h rfl rfl rfl rfl rfl ?_
    refine ng [] rfl (by simp [cxOf]) ?_
    refine dgo_alias (ids' := []) 7 5 rfl rfl ?_
    exact dgo_end ⟨[], rfl, rfl, rfl, rfl, rfl, trivial⟩

set_option maxRecDepth 100000 in
theorem bound2_ok {S : Bun} : EffC Tryz.prog 138 [.yld 3] [(3, some .pin), (4, some (.bun 3 S))] (.ret (.tup []) [(3, some .pin), (5, some (.bun 3 S))]) := by
  refine effc_of ttN_ok Tryz.func138 (by decide +kernel) rfl [7, 5] rfl rfl ?_
  refine ng [] rfl (by simp [cxOf]) ?_
  refine dgo_alias (ids' := []) 4 5 rfl rfl ?_
  exact dgo_end ⟨[], rfl, rfl, rfl, rfl, trivial⟩

/-! ### list -/
def stL (l : List Str) : Nat → St
  | 0 => [(1, some (.cells 29 1 [.nils]))]
  | k + 1 => [(1, some (.cells 29 1 [.own 4 (dStr (l.take (k + 1))).length])), (4, some (.row 9 1 (dStr (l.take (k + 1)))))]

set_option maxRecDepth 100000 in
theorem list_roundT (l : List Str) (hlen : l.length ≤ 1000000) (i : Nat) (u : Tm) (hu : l[i]? = some (match u with | .mk _ _ x _ _ => x)) {L : LoopI} (h1 : Tryz.prog.funcs[L.fn]?.isSome) (h2 : L.tmps.size = Tryz.f89.ntmps) (h3 : L.ps = #[10]) (h4 : L.asg = rfAsg Tryz.f89)
    (h5 : L.body = rfBody Tryz.f89) (h6 : L.E = [(5, .ref 1 0)]) (h7 : L.F = []) : EffY Tryz.prog [.ip 26 (dTmc u) 2] (bunOf L (stL l i) none) true (bunOf L (stL l (i + 1)) none) := by
  obtain ⟨fc, hf⟩ := Option.isSome_iff_exists.1 h1
  obtain ⟨fs, fm, x, ks, ps⟩ := u
  have hlt : i < l.length := (List.getElem?_eq_some_iff.1 hu).1
  refine effy_of (pend := none) (d := .ip 26 (dTmc (.mk fs fm x ks ps)) 2) (ids := [7, 8]) (t := 6) (p := 10) hf h3 (h4.trans rfl) h2 rfl rfl rfl rfl (by decide) (by decide) ?_ ?_
  · rw [h6, h7]
    cases i <;> refine ⟨by decide, ?_⟩ <;> simp [stL, nmE, nmD, nmSt, nmB, nmL]
  · rw [h5, h6, h7]
    cases i with
    | zero =>
      refine nd [] rfl (by simp [cxOf]) ?_
      refine g_append ttN_ok rfl ⟨by simp, by simp [maxLen], by simp, trivial⟩ ?_
      refine ng [] rfl (by simp [cxOf]; rfl) ?_
      refine dgo_swap 4 7 rfl ?_
      refine dgo_end (?_ : subSt _ (stL l (0 + 1)))
      have e : dStr (l.take (0 + 1)) = [] ++ [[.str x]] := by
        rw [get_take hu]; rfl
      simp only [stL, e]
      exact ⟨rfl, rfl, trivial⟩
    | succ i =>
      refine nd [] rfl (by simp [cxOf]) ?_
      refine g_append ttN_ok rfl ⟨by simp, by simp [maxLen]; omega, by simp; omega, trivial⟩ ?_
      refine ng [] rfl (by simp [cxOf]; rfl) ?_
      refine dgo_swap 4 7 rfl ?_
      refine dgo_end (?_ : subSt _ (stL l (i + 1 + 1)))
      have e : dStr (l.take (i + 1 + 1)) = dStr (l.take (i + 1)) ++ [[.str x]] := by
        rw [get_take hu, dStr_append]; rfl
      simp only [stL, e]
      exact ⟨by simp only [List.length_append]; rfl, rfl, trivial⟩

set_option maxRecDepth 100000 in
theorem list_roundP (l : List Str) (hlen : l.length ≤ 1000000) (i : Nat) (u : Ty) (hu : l[i]? = some (textT u)) {L : LoopI} (h1 : Tryz.prog.funcs[L.fn]?.isSome) (h2 : L.tmps.size = Tryz.f89.ntmps) (h3 : L.ps = #[10]) (h4 : L.asg = rfAsg Tryz.f89)
    (h5 : L.body = rfBody Tryz.f89) (h6 : L.E = [(5, .ref 1 0)]) (h7 : L.F = []) : EffY Tryz.prog [.ip 49 (dTyc u) 2] (bunOf L (stL l i) none) true (bunOf L (stL l (i + 1)) none) := by
  obtain ⟨fc, hf⟩ := Option.isSome_iff_exists.1 h1
  obtain ⟨fs, fm, x, ps⟩ := u
  have hlt : i < l.length := (List.getElem?_eq_some_iff.1 hu).1
  refine effy_of (pend := none) (d := .ip 49 (dTyc (.mk fs fm x ps)) 2) (ids := [7, 8]) (t := 6) (p := 10) hf h3 (h4.trans rfl) h2 rfl rfl rfl rfl (by decide) (by decide) ?_ ?_
  · rw [h6, h7]
    cases i <;> refine ⟨by decide, ?_⟩ <;> simp [stL, nmE, nmD, nmSt, nmB, nmL]
  · rw [h5, h6, h7]
    cases i with
    | zero =>
      refine nd [] rfl (by simp [cxOf]) ?_
      refine g_append ttN_ok rfl ⟨by simp, by simp [maxLen], by simp, trivial⟩ ?_
      refine ng [] rfl (by simp [cxOf]; rfl) ?_
      refine dgo_swap 4 7 rfl ?_
      refine dgo_end (?_ : subSt _ (stL l (0 + 1)))
      have e : dStr (l.take (0 + 1)) = [] ++ [[.str x]] := by
        rw [get_take hu]; rfl
      simp only [stL, e]
      exact ⟨rfl, rfl, trivial⟩
    | succ i =>
      refine nd [] rfl (by simp [cxOf]) ?_
      refine g_append ttN_ok rfl ⟨by simp, by simp [maxLen]; omega, by simp; omega, trivial⟩ ?_
      refine ng [] rfl (by simp [cxOf]; rfl) ?_
      refine dgo_swap 4 7 rfl ?_
      refine dgo_end (?_ : subSt _ (stL l (i + 1 + 1)))
      have e : dStr (l.take (i + 1 + 1)) = dStr (l.take (i + 1)) ++ [[.str x]] := by
        rw [get_take hu, dStr_append]; rfl
      simp only [stL, e]
      exact ⟨by simp only [List.length_append]; rfl, rfl, trivial⟩

set_option maxRecDepth 100000 in
/-- What stands behind the loop. -/
theorem list_tail (l : List Str) : DGo Tryz.prog Tryz.f89.ntmps [] (RetQ ttN Tryz.f89.results.toList (.ret (.imm (.sl (dStr l))) [])) [.inBlock 0, .code (tailC Tryz.f89 3)] [(5, .ref 1 0)] (stL l l.length) [7, 8, 9] := by
  cases l with
  | nil =>
    refine nd [] rfl (by simp [cxOf]) ?_
    exact dgo_ret ⟨_, rfl, tV rfl, trivial⟩
  | cons x r =>
    have e : dStr ((x :: r).take ((x :: r).length)) = dStr (x :: r) := by rw [List.take_of_length_le (Nat.le_refl _)]
    have e2 : stL (x :: r) (x :: r).length = [(1, some (.cells 29 1 [.own 4 (dStr (x :: r)).length])), (4, some (.row 9 1 (dStr (x :: r))))] := by
      simp only [List.length_cons, stL] at e ⊢
      rw [e]
    rw [e2]
    refine dgo_freeze 4 rfl ?_
    refine nd [] rfl (by simp [cxOf]) ?_
    exact dgo_ret ⟨_, rfl, tV rfl, trivial⟩

def boundN : Tm → Int → List Str
  | .mk op _ x _ ps, kid => if ownB1 op kid then [x] else if patB1 op kid then (match ps[(kid - 1).toNat]? with | some p => pnames p | none => []) else []

set_option maxRecDepth 100000 in
theorem list_ok (op n : Int) (x : Str) (ks : List Tm) (ps : List Ty) (kid : Int) (hk : kid ≤ 1000000) (hp : ownB1 op kid = false → patB1 op kid = true → ∃ p, ps[(kid - 1).toNat]? = some p ∧ (pnames p).length ≤ 1000000) :
    PureC Tryz.prog 89 [.ip 26 (dTmc (.mk op n x ks ps)) 0, .int .i64 kid] (.sl (dStr (boundN (.mk op n x ks ps) kid))) := by
  refine effc_of ttN_ok Tryz.func89 (by decide +kernel) rfl [1, 6, 7, 8, 9] rfl rfl ?_
  refine dgo_ipD 0 rfl ?_
  refine nd [] rfl (by simp [cxOf]) ?_
  cases h : ownB1 op kid with
  | true =>
    have e : boundN (.mk op n x ks ps) kid = [x] := by simp [boundN, h]
    rw [e]
    refine g_call (st0 := []) (fr := [6]) [] [(6, 6)] rfl (by simp) (bound_text op n x ks ps kid h) trivial rfl rfl rfl rfl ?_
    refine nd [] rfl (by simp [cxOf]) ?_
    refine dgo_range (y := 3) (j := 4) (j2 := 5) (stc := boxT (.mk op n x ks ps)) (stc' := boxT (.mk op n x ks ps)) (stx := stL [x] 0) (stB := stL [x] 1) (pend := none) (E := [(5, .ref 1 0)]) (ids' := [7, 8, 9]) (d := .tup []) rfl Tryz.func137 (by decide +kernel) rfl (by decide) ⟨rfl, trivial⟩
      (subSt_live ⟨rfl, rfl, trivial⟩) (fun L h1 h2 h3 h4 h5 h6 h7 => bound1_ok (r := true) (.mk op n x ks ps) (.cons (list_roundT [x] (by simp) 0 (.mk op n x ks ps) rfl h1 h2 h3 h4 h5 h6 h7) (.nil _))) ?_ ?_ ?_ ?_ (list_tail [x])
    · simp [boxT, stL, nms]
    · simp [boxT, nms]
    · intro i hi
      have e : nmL (renL (look (swapL [] ++ [(6, 6)])) [] ++ renL (look (swapL [] ++ [(6, 6)])) [.ref 6 0]) = [6] := rfl
      rw [e] at hi
      simpa [boxT, nms, nmSt, nmB, nmL, nmD] using hi
    · refine ⟨by decide, ?_⟩
      simp [stL, nmE, nmD, nmSt, nmB, nmL, nms]
  | false =>
    cases h2 : patB1 op kid with
    | true =>
      obtain ⟨p, hp1, hp2⟩ := hp h h2
      have e : boundN (.mk op n x ks ps) kid = pnames p := by
        show (if ownB1 op kid then [x] else if patB1 op kid then (match ps[(kid - 1).toNat]? with | some p => pnames p | none => []) else []) = pnames p
        rw [h, h2, hp1]
        rfl
      rw [e]
      refine g_call (st0 := []) (fr := [6]) [] [(6, 6)] rfl (by simp) (bound_pat op n x ks ps kid h h2 p hp1 hk) trivial rfl rfl rfl rfl ?_
      refine nd [] rfl (by simp [cxOf]) ?_
      refine dgo_range (y := 3) (j := 4) (j2 := 5) (stc := boxP p) (stc' := boxP p) (stx := stL (pnames p) 0) (stB := stL (pnames p) (pnames p).length) (pend := none) (E := [(5, .ref 1 0)]) (ids' := [7, 8, 9]) (d := .tup []) rfl Tryz.func97 (by decide +kernel) rfl (by decide) ⟨rfl, trivial⟩
        (subSt_live ⟨rfl, rfl, trivial⟩) (fun L h1 h2 h3 h4 h5 h6 h7 => names1_ok (b := true) p ?_) ?_ ?_ ?_ ?_ (list_tail (pnames p))
      · have := Yields.all (P := Tryz.prog) (l := pitems p) (fun i => bunOf L (stL (pnames p) i) none) fun i d hi => by
          rw [pitems_eq, List.getElem?_map] at hi
          cases hu : (pnodes p)[i]? with
          | none => rw [hu] at hi; cases hi
          | some u =>
            rw [hu] at hi
            cases hi
            exact list_roundP (pnames p) hp2 i u (by simp [pnames, hu]) h1 h2 h3 h4 h5 h6 h7
        have hl : (pitems p).length = (pnames p).length := by simp [pitems_eq, pnames]
        rw [hl] at this
        exact this
      · cases (pnames p).length <;> simp [boxP, stL, nms]
      · simp [boxP, nms]
      · intro i hi
        have e : nmL (renL (look (swapL [] ++ [(6, 6)])) [] ++ renL (look (swapL [] ++ [(6, 6)])) [.ref 6 0]) = [6] := rfl
        rw [e] at hi
        simpa [boxP, nms, nmSt, nmB, nmL, nmD] using hi
      · refine ⟨by decide, ?_⟩
        cases (pnames p).length <;> simp [stL, nmE, nmD, nmSt, nmB, nmL, nms]
    | false =>
      have e : boundN (.mk op n x ks ps) kid = [] := by simp [boundN, h, h2]
      rw [e]
      refine g_call (st0 := []) (fr := []) [] [] rfl (by simp) (bound_none op n x ks ps kid h h2) trivial rfl rfl rfl rfl ?_
      refine nd [] rfl (by simp [cxOf]) ?_
      refine dgo_fnD 9 rfl ?_
      refine dgo_range (y := 3) (j := 4) (j2 := 5) (stc := []) (stc' := []) (stx := stL [] 0) (stB := stL [] 0) (pend := none) (E := [(5, .ref 1 0)]) (ids' := [7, 8, 9]) (d := .tup []) rfl Tryz.func138 (by decide +kernel) rfl (by decide) ⟨rfl, trivial⟩
        (subSt_live ⟨rfl, trivial⟩) (fun L h1 h2 h3 h4 h5 h6 h7 => bound2_ok) ?_ ?_ ?_ ?_ (list_tail [])
      · simp [nms]
      · simp [nms]
      · intro i hi
        have e : nmL (([] : List D) ++ []) = [] := rfl
        rw [e] at hi
        simp [nmSt] at hi
      · refine ⟨by decide, ?_⟩
        simp [stL, nmE, nmD, nmSt, nmB, nmL, nms]

end Go.Hk

/- Contracts of term: scopes (look, with), the names that are free in a term. -/
namespace Go.Hk
open Go.Proofs

def ttF : TT := ttN ++ [
  (128, ⟨.ptr 167, false, 1, 8, [.imm .nilp]⟩),
  (165, ⟨.struct [(0, 9), (1, 9)], true, 2, 32, [.imm (.str []), .imm (.str [])]⟩),
  (167, ⟨.struct [(0, 165), (2, 128)], true, 3, 40, [.imm (.str []), .imm (.str []), .imm .nilp]⟩)]
theorem ttF_ok : TTok Tryz.prog ttF := .of_eq (l := [4, 3, 9, 26, 53, 49, 22, 24, 5, 51, 50, 29, 23, 47, 113, 66, 150, 63, 64, 111, 109, 30, 173, 101, 1, 79, 176, 121, 114, 116, 118, 55, 153, 122, 95, 96, 93, 92, 141, 142, 87, 128, 165, 167]) (by kernel_rfl)

section
variable {n : Nat} {F : List Nat} {Q : DQ} {env env' : Env} {st st' : St} {ids ids' : List Nat} {k todo : List DI} {ob : List Prop}
theorem fd_ (path : List Pt) (h : run ttF n 300 path todo env st ids [] = .at k env' st' ids' ob) (hob : allP ob) (hd : G Tryz.prog n F Q k env' st' ids') : DGo Tryz.prog n F Q todo env st ids := d_run ttF_ok mixed 300 path h hob hd
theorem fg_ (path : List Pt) (h : run ttF n 300 path todo env st ids [] = .at k env' st' ids' ob) (hob : allP ob) (hd : G Tryz.prog n F Q k env' st' ids') : G Tryz.prog n F Q todo env st ids := g_run ttF_ok mixed 300 path h hob hd
theorem fi_ {es : List (List V)} {m : Int} {sz : Nat} {e : TypeId} {g : Option (Bool × Bool)} {ob : List Prop} {t : Nat} {todo' : List DI} {c : List V} (h : pidx ttF n env todo = some ⟨es, m, sz, e, g, ob, some t, todo'⟩)
    (hc : cxOf g → 0 ≤ m ∧ es[m.toNat]? = some c ∧ c.length = sz) (hob : allP ob) (hk : G Tryz.prog n F Q todo' ((t, gD g (.ip e c 0)) :: env) st ids) : G Tryz.prog n F Q todo env st ids := g_index ttF_ok h hc hob hk
end

/-- A scope: its names, the last one first. -/
def scopeV : List Str → V
  | [] => .nilp
  | x :: r => .ip 167 [.str x, .str x, scopeV r] 0

set_option maxRecDepth 100000 in
theorem look_ok (l : List Str) (s : Str) : PureC Tryz.prog 87 [scopeV l, .str s] (.tup [.str (if hasS l s then s else []), .bool (hasS l s)]) := by
  refine effc_of ttF_ok Tryz.func87 (by decide +kernel) rfl [1] rfl rfl ?_
  refine fg_ [] rfl (by simp) ?_
  refine dgo_enter (fun r : List Str => [(0, .imm (scopeV r)), (1, .imm (.str s))]) (fun _ => []) [1] (fun r => r.length) (fun r => hasS l s = hasS r s) l rfl ⟨rfl, rfl, trivial⟩ trivial rfl fun r hi ih => ?_
  cases r with
  | nil =>
    refine fd_ [] rfl (by simp) ?_
    refine dgo_cond rfl (fun h => by simp at h) (fun h => ?_)
    refine dgo_exit rfl ?_
    refine fd_ [] rfl (by simp) ?_
    refine dgo_ret ⟨_, rfl, tV (congrArg _ ?_), trivial⟩
    rw [hi]
    rfl
  | cons x r =>
    refine dgo_ipD 0 rfl ?_
    refine fd_ [] rfl (by simp) ?_
    refine dgo_cond rfl (fun h => ?_) (fun h => by simp at h)
    refine fd_ [] rfl (by simp) ?_
    refine dgo_cond rfl (fun h2 => ?_) (fun h2 => ?_)
    · refine fd_ [] rfl (by simp) ?_
      refine dgo_ret ⟨_, rfl, tV (congrArg _ ?_), trivial⟩
      have e : x = s := by simpa using h2
      subst e
      have : hasS l x = true := by rw [hi]; simp [hasS]
      rw [this]
      rfl
    · refine fd_ [] rfl (by simp) ?_
      have e : hasS (x :: r) s = hasS r s := by simp [hasS, h2]
      exact dgo_again (ih r (by simp) (by rw [hi, e])) ⟨rfl, rfl, trivial⟩ trivial rfl

set_option maxRecDepth 100000 in
theorem with_ok (l ns : List Str) : PureC Tryz.prog 88 [scopeV l, .sl (dStr ns)] (scopeV (ns.reverse ++ l)) := by
  refine pureC_ok fun hv => ?_
  have hlen : ns.length ≤ 9223372036854775807 := by
    simp [vOkL, vOk, maxLen] at hv; omega
  refine effc_of ttF_ok Tryz.func88 (by decide +kernel) rfl [1] rfl rfl ?_
  refine fg_ [] rfl (by simp) ?_
  refine dgo_enter (fun y : Nat × List Str => [(9, .imm (.int .i64 y.1)), (8, .imm (.int .i64 ns.length)), (7, .imm (.sl (dStr ns))), (0, .imm (scopeV y.2))]) (fun _ => []) [1] (fun y => ns.length - y.1) (fun y => y.1 ≤ ns.length ∧ y.2 = (ns.take y.1).reverse ++ l) (0, l)
    ⟨Nat.zero_le _, rfl⟩ ⟨rfl, tInt (by simp), rfl, rfl, trivial⟩ trivial rfl fun y hi ih => ?_
  obtain ⟨i, r⟩ := y
  obtain ⟨hi1, hi2⟩ := hi
  simp only at hi1 hi2
  refine fd_ [] rfl (by simp) ?_
  refine dgo_cond rfl (fun h => ?_) (fun h => ?_)
  · simp at h
    obtain ⟨x, hx⟩ := has_get h
    have hnext : x :: r = (ns.take (i + 1)).reverse ++ l := by rw [get_take hx, List.reverse_append, hi2]; rfl
    refine fd_ [] rfl (by simp) ?_
    refine fi_ rfl (c := [.str x]) (fun _ => ⟨by simp, by simpa using dStr_get hx, rfl⟩) (by simp) ?_
    cases r with
    | nil =>
      refine fg_ [] rfl (by simp) ?_
      refine dgo_freezeP 0 rfl rfl ?_
      exact dgo_again (ih (i + 1, [x]) (by simp only; omega) ⟨by simp only; omega, hnext⟩) ⟨tInt (w64 (by simp only; omega) (by simp only; omega)), rfl, rfl, rfl, trivial⟩ trivial rfl
    | cons y r =>
      refine fg_ [] rfl (by simp) ?_
      refine dgo_freezeP 0 rfl rfl ?_
      exact dgo_again (ih (i + 1, x :: y :: r) (by simp only; omega) ⟨by simp only; omega, hnext⟩) ⟨tInt (w64 (by simp only; omega) (by simp only; omega)), rfl, rfl, rfl, trivial⟩ trivial rfl
  · simp at h
    refine dgo_exit rfl ?_
    refine fd_ [] rfl (by simp) ?_
    refine dgo_ret ⟨_, rfl, tV ?_, trivial⟩
    rw [hi2, List.take_of_length_le (by omega)]

end Go.Hk

/- Contracts of term: the names that are free in a term, added to a set (free). -/
namespace Go.Hk
open Go.Proofs

mutual
def freeT : Tm → List Str → List Str → List Str
  | .mk op n x ks ps, s, m => if op = 4 then (if hasS s x then m else addS m x) else freeKs (.mk op n x ks ps) 0 ks s m
def freeKs (t : Tm) : Nat → List Tm → List Str → List Str → List Str
  | _, [], _, m => m
  | i, k :: r, s, m => freeKs t (i + 1) r s (freeT k ((boundN t i).reverse ++ s) m)
end

mutual
/-- Patterns for every part but the first one of a match. -/
def patsOk : Tm → Prop
  | .mk op _ _ ks ps => ks.length ≤ 1000000 ∧ (∀ i : Nat, i < ks.length → ownB1 op i = false → patB1 op i = true → ∃ p, ps[((i : Int) - 1).toNat]? = some p ∧ (pnames p).length ≤ 1000000) ∧ patsOks ks
def patsOks : List Tm → Prop
  | [] => True
  | k :: r => patsOk k ∧ patsOks r
end
theorem patsOks_mem : ∀ {l : List Tm} {t : Tm}, patsOks l → t ∈ l → patsOk t
  | [], _, _, h => by simp at h
  | k :: r, t, h, hm => by
    rcases List.mem_cons.1 hm with rfl | hm
    · exact h.1
    · exact patsOks_mem h.2 hm

def freeC (t : Tm) (s m : List Str) : Prop := EffC Tryz.prog 48 [.imm (.agg (dTmc t)), .imm (scopeV s), .mapr 1] [(1, some (.map (setK m)))] (.ret (.tup []) [(1, some (.map (setK (freeT t s m))))])

set_option maxRecDepth 100000 in
theorem free_ok : ∀ (t : Tm) (s m : List Str), patsOk t → freeC t s m
  | .mk op n x ks ps, s, m, hok => by
    obtain ⟨hk1, hk2, hk3⟩ := hok
    refine effc_of ttF_ok Tryz.func48 (by decide +kernel) rfl [2, 3, 4, 5] rfl rfl ?_
    refine fg_ [] rfl (by simp) ?_
    refine dgo_cond rfl (fun h => ?_) (fun h => ?_)
    · have e : op = 4 := by simpa using h
      refine fd_ [] rfl (by simp) ?_
      refine g_pcall rfl (fun _ => look_ok s x) (by simp) ?_
      refine fg_ [] rfl (by simp) ?_
      refine dgo_cond rfl (fun h2 => ?_) (fun h2 => ?_)
      · refine fd_ [] rfl (by simp) ?_
        refine g_mset ttF_ok rfl rfl rfl (setK_keys m) ?_
        refine fg_ [] rfl (by simp) ?_
        rw [setK_add]
        have e2 : freeT (.mk op n x ks ps) s m = addS m x := by simp at h2; simp [freeT, e, h2]
        rw [e2]
        exact dgo_ret ⟨[], rfl, rfl, rfl, trivial⟩
      · refine fd_ [] rfl (by simp) ?_
        have e2 : freeT (.mk op n x ks ps) s m = m := by simp at h2; simp [freeT, e, h2]
        rw [e2]
        exact dgo_ret ⟨[], rfl, rfl, rfl, trivial⟩
    · have e : ¬ op = 4 := by simpa using h
      have e2 : freeT (.mk op n x ks ps) s m = freeKs (.mk op n x ks ps) 0 ks s m := by simp [freeT, e]
      rw [e2]
      refine fd_ [] rfl (by simp) ?_
      refine dgo_freezeP 3 rfl rfl ?_
      refine dgo_enter (fun y : Nat × List Str => [(28, .imm (.int .i64 y.1)), (27, .imm (.int .i64 ks.length)), (26, .imm (.sl (dTms ks))), (1, .imm (scopeV s)), (2, .mapr 1), (3, .ip 26 (dTmc (.mk op n x ks ps)) 0)])
        (fun y => [(1, some (.map (setK y.2)))]) [3, 4, 5] (fun y => ks.length - y.1) (fun y => y.1 ≤ ks.length ∧ freeKs (.mk op n x ks ps) 0 ks s m = freeKs (.mk op n x ks ps) y.1 (ks.drop y.1) s y.2) (0, m)
        ⟨Nat.zero_le _, rfl⟩ ⟨rfl, tInt (by simp), rfl, rfl, rfl, rfl, trivial⟩ ⟨rfl, trivial⟩ rfl fun y hi ih => ?_
      obtain ⟨i, m1⟩ := y
      obtain ⟨hi1, hi2⟩ := hi
      simp only at hi1 hi2
      refine fd_ [] rfl (by simp) ?_
      refine dgo_cond rfl (fun h => ?_) (fun h => ?_)
      · simp at h
        obtain ⟨k, hk⟩ := has_get h
        rw [get_drop hk] at hi2
        refine fd_ [] rfl (by simp) ?_
        refine fi_ rfl (c := dTmc k) (fun _ => ⟨by simp, by simpa using dTms_get hk, by simp⟩) (by simp) ?_
        refine fg_ [] rfl (by simp) ?_
        refine g_pcall rfl (fun _ => list_ok op n x ks ps i (by omega) (hk2 i h)) (by simp) ?_
        refine fg_ [] rfl (by simp) ?_
        refine g_pcall rfl (fun _ => with_ok s _) (by simp) ?_
        refine fg_ [] rfl (by simp) ?_
        refine g_call (fr := []) [(1, 1)] [] rfl (by simp) (free_ok k _ m1 (patsOks_mem hk3 (List.mem_of_getElem? hk))) ⟨⟨rfl, rfl, rfl⟩, trivial⟩ rfl rfl rfl rfl ?_
        refine fg_ [] rfl (by simp; rfl) ?_
        exact dgo_again (ih (i + 1, freeT k ((boundN (.mk op n x ks ps) i).reverse ++ s) m1) (by simp only; omega) ⟨by simp only; omega, hi2⟩) ⟨tInt (w64 (by simp only; omega) (by simp only; omega)), rfl, rfl, rfl, rfl, rfl, trivial⟩ ⟨rfl, trivial⟩ rfl
      · simp at h
        rw [List.drop_eq_nil_of_le (by omega)] at hi2
        refine dgo_exit rfl ?_
        refine fd_ [] rfl (by simp) ?_
        rw [hi2]
        exact dgo_end ⟨[], rfl, rfl, rfl, trivial⟩
termination_by t => SizeOf.sizeOf t
decreasing_by
  all_goals
    have := List.sizeOf_lt_of_mem (List.mem_of_getElem? hk)
    simp_wf
    omega

end Go.Hk

/- Contracts of hearthref01: the names that a term binds in a part (Binds). -/
namespace Go.Hk
open Go.Proofs

def bindsR : Tm → Int → List Str
  | .mk op _ x _ ps, kid => if ownB1 op kid then [x] else if patB1 op kid then (match ps[(kid - 1).toNat]? with | some p => namesTy p | none => []) else []

set_option maxRecDepth 100000 in
theorem Binds_ok (op n : Int) (x : Str) (ks : List Tm) (ps : List Ty) (kid : Int) (hk : kid ≤ 1000000) (hp : ownB1 op kid = false → patB1 op kid = true → ∃ p, ps[(kid - 1).toNat]? = some p ∧ nodesTy p ≤ 1000000) :
    PureC Tryz.prog 51 [.agg (dTmc (.mk op n x ks ps)), .int .i64 kid] (.sl (dStr (bindsR (.mk op n x ks ps) kid))) := by
  refine effc_of ttF_ok Tryz.func51 (by decide +kernel) rfl [1, 2, 3] rfl rfl ?_
  refine fg_ [] rfl (by simp) ?_
  by_cases e5 : op = 5
  · have e : bindsR (.mk op n x ks ps) kid = [x] := by simp [bindsR, ownB1, e5]
    rw [e]
    refine dgo_cond rfl (fun h => ?_) (fun h => by simp [e5] at h)
    refine fd_ [] rfl (by simp) ?_
    refine dgo_cond rfl (fun h => ?_) (fun h => by simp [e5] at h)
    refine fd_ [] rfl (by simp) ?_
    exact dgo_ret ⟨_, rfl, tV rfl, trivial⟩
  refine dgo_cond rfl (fun h => by simp at h; exact absurd h e5) (fun h => ?_)
  refine fd_ [] rfl (by simp) ?_
  by_cases e27 : op = 27
  · have e : bindsR (.mk op n x ks ps) kid = [x] := by simp [bindsR, ownB1, e27]
    rw [e]
    refine dgo_cond rfl (fun h => ?_) (fun h => by simp [e27] at h)
    refine fd_ [] rfl (by simp) ?_
    exact dgo_ret ⟨_, rfl, tV rfl, trivial⟩
  refine dgo_cond rfl (fun h => by simp at h; exact absurd h e27) (fun h => ?_)
  refine fd_ [] rfl (by simp) ?_
  by_cases e7 : op = 7
  · refine dgo_cond rfl (fun h => ?_) (fun h => by simp [e7] at h)
    refine fd_ [] rfl (by simp) ?_
    by_cases k1 : kid = 1
    · have e : bindsR (.mk op n x ks ps) kid = [x] := by simp [bindsR, ownB1, e7, k1]
      rw [e]
      refine dgo_cond rfl (fun h => ?_) (fun h => by simp [k1] at h)
      refine fd_ [] rfl (by simp) ?_
      exact dgo_ret ⟨_, rfl, tV rfl, trivial⟩
    · have e : bindsR (.mk op n x ks ps) kid = [] := by simp [bindsR, ownB1, patB1, e7, k1]
      rw [e]
      refine dgo_cond rfl (fun h => by simp at h; exact absurd h k1) (fun h => ?_)
      refine fd_ [] rfl (by simp) ?_
      exact dgo_ret ⟨_, rfl, tV rfl, trivial⟩
  refine dgo_cond rfl (fun h => by simp at h; exact absurd h e7) (fun h => ?_)
  refine fd_ [] rfl (by simp) ?_
  have o : ownB1 op kid = false := by simp [ownB1, e5, e27, e7]
  by_cases e15 : op = 15
  · refine dgo_cond rfl (fun h => ?_) (fun h => by simp [e15] at h)
    refine fd_ [] rfl (by simp) ?_
    by_cases k0 : 0 < kid
    · have pb : patB1 op kid = true := by simp [patB1, e15, k0]
      obtain ⟨p, hp1, hp2⟩ := hp o pb
      have e : bindsR (.mk op n x ks ps) kid = namesTy p := by
        show (if ownB1 op kid then [x] else if patB1 op kid then (match ps[(kid - 1).toNat]? with | some p => namesTy p | none => []) else []) = namesTy p
        rw [o, pb, hp1]
        rfl
      rw [e]
      refine dgo_cond rfl (fun h => ?_) (fun h => by simp at h; omega)
      refine fd_ [] rfl (by simp) ?_
      refine fi_ rfl (c := dTyc p) (fun _ => ⟨by rw [w64 (by omega) (by omega)]; omega, by rw [w64 (by omega) (by omega)]; exact dTys_get hp1, by simp⟩) (by simp) ?_
      refine fg_ [] rfl (by simp) ?_
      refine g_pcall rfl (fun _ => PatNames_ok p hp2) (by simp) ?_
      refine fg_ [] rfl (by simp) ?_
      exact dgo_ret ⟨_, rfl, tV rfl, trivial⟩
    · have e : bindsR (.mk op n x ks ps) kid = [] := by simp [bindsR, o, patB1, k0]
      rw [e]
      refine dgo_cond rfl (fun h => by simp at h; omega) (fun h => ?_)
      refine fd_ [] rfl (by simp) ?_
      exact dgo_ret ⟨_, rfl, tV rfl, trivial⟩
  · have e : bindsR (.mk op n x ks ps) kid = [] := by simp [bindsR, o, patB1, e15]
    rw [e]
    refine dgo_cond rfl (fun h => by simp at h; exact absurd h e15) (fun h => ?_)
    refine fd_ [] rfl (by simp) ?_
    exact dgo_ret ⟨_, rfl, tV rfl, trivial⟩

end Go.Hk

/- Contracts of hearthref01: a sorted list with one more (put). -/
namespace Go.Hk
open Go.Proofs

def putS : List Str → Str → List Str
  | [], s => [s]
  | x :: r, s => if Op.bytesLess x s then x :: putS r s else if x == s then x :: r else s :: x :: r

theorem putS_at (s : Str) : ∀ (l : List Str) (i : Nat), i ≤ l.length → (∀ x ∈ l.take i, Op.bytesLess x s = true) → (∀ x, l[i]? = some x → Op.bytesLess x s = false) →
    putS l s = if l[i]? = some s then l else l.take i ++ [s] ++ l.drop i
  | [], i, hi, _, _ => by
    have : i = 0 := by simpa using hi
    subst this; rfl
  | x :: r, 0, _, _, h2 => by
    have := h2 x rfl
    simp only [putS, this]
    by_cases e : x = s
    · subst e; simp
    · simp [e]
  | x :: r, i + 1, hi, h1, h2 => by
    have hx : Op.bytesLess x s = true := h1 x (by simp)
    have := putS_at s r i (by simpa using hi) (fun y hy => h1 y (by simp [hy])) (fun y hy => h2 y (by simpa using hy))
    simp only [putS, hx, if_true, this, List.getElem?_cons_succ]
    by_cases e : r[i]? = some s
    · rw [if_pos e, if_pos e]
    · rw [if_neg e, if_neg e]; simp

set_option maxRecDepth 100000 in
theorem put_ref_ok (l : List Str) (s : Str) (hlen : l.length ≤ 1000000) : PureC Tryz.prog 53 [.sl (dStr l), .str s] (.sl (dStr (putS l s))) := by
  refine effc_of ttF_ok Tryz.func53 (by decide +kernel) rfl [1, 2, 3, 4] rfl rfl ?_
  refine fg_ [] rfl (by simp) ?_
  refine dgo_enter (fun i : Nat => [(5, .imm (.int .i64 i)), (0, .imm (.sl (dStr l))), (1, .imm (.str s))]) (fun _ => []) [1, 2, 3, 4] (fun i => l.length - i) (fun i => i ≤ l.length ∧ ∀ x ∈ l.take i, Op.bytesLess x s = true) 0
    ⟨Nat.zero_le _, fun x hx => by simp at hx⟩ ⟨rfl, rfl, rfl, trivial⟩ trivial rfl fun i hi ih => ?_
  obtain ⟨hi1, hi2⟩ := hi
  have out : (∀ x, l[i]? = some x → Op.bytesLess x s = false) → DGo Tryz.prog Tryz.f53.ntmps (nms []) (RetQ ttF Tryz.f53.results.toList (.ret (.imm (.sl (dStr (putS l s)))) []))
      [.code (tailC Tryz.f53 3)] [(5, .imm (.int .i64 i)), (0, .imm (.sl (dStr l))), (1, .imm (.str s))] [] [1, 2, 3, 4] := fun h2 => by
    rw [putS_at s l i hi1 hi2 h2]
    have one : ∀ c ∈ dStr l, c.length = 1 := dStr_one l
    refine fd_ [] rfl (by simp) ?_
    have add : ¬ l[i]? = some s → DGo Tryz.prog Tryz.f53.ntmps (nms []) (RetQ ttF Tryz.f53.results.toList (.ret (.imm (.sl (dStr (l.take i ++ [s] ++ l.drop i)))) []))
        [.code (tailC Tryz.f53 4)] [(5, .imm (.int .i64 i)), (0, .imm (.sl (dStr l))), (1, .imm (.str s))] [] [1, 2, 3, 4] := fun hne => by
      refine fd_ [] rfl ⟨fun _ => ⟨by omega, by simp; omega⟩, one, trivial⟩ ?_
      refine g_append ttF_ok rfl ⟨fun c hc => one c (List.mem_of_mem_take hc), by simp [maxLen]; omega, by simp; omega, trivial⟩ ?_
      have ht : (dStr l).take ((i : Int)).toNat = dStr (l.take i) := by rw [dStr_take]; rfl
      have hd : (dStr l).drop ((i : Int)).toNat = dStr (l.drop i) := by simp [dStr, List.map_drop]
      refine fg_ [] rfl (by simp) ?_
      refine g_append ttF_ok rfl ⟨by simp, by simp [maxLen]; omega, by simp; omega, trivial⟩ ?_
      refine fg_ [] rfl ⟨fun _ => ⟨by omega, by simp; omega⟩, one, trivial⟩ ?_
      refine g_append ttF_ok rfl ⟨fun c hc => one c (List.mem_of_mem_drop hc), by simp [maxLen]; omega, by simp; omega, trivial⟩ ?_
      refine fg_ [] rfl ⟨rfl, trivial⟩ ?_
      refine dgo_freeze 3 rfl ?_
      refine dgo_ret ⟨_, rfl, tV (congrArg _ ?_), trivial⟩
      rw [dStr_append, dStr_append, ← ht, ← hd]
      rfl
    by_cases hlt : i < l.length
    · obtain ⟨x, hx⟩ := has_get hlt
      refine fi_ rfl (c := [.str x]) (fun _ => ⟨by simp, by simpa using dStr_get hx, rfl⟩) (by simp [cxOf]) ?_
      refine fg_ [] rfl (by simp [cxOf]) ?_
      refine dgo_cond rfl (fun h => ?_) (fun h => ?_)
      · have hl : x = s := by simpa [hlt] using h
        subst hl
        rw [if_pos hx]
        refine fd_ [] rfl (by simp) ?_
        exact dgo_ret ⟨_, rfl, tV rfl, trivial⟩
      · have hl : ¬ x = s := by simpa [hlt] using h
        have hne : ¬ l[i]? = some s := fun e => by rw [hx] at e; cases e; exact hl rfl
        rw [if_neg hne]
        refine dgo_skip ?_
        exact dgo_again (add hne) ⟨rfl, rfl, rfl, trivial⟩ trivial rfl
    · have hne : ¬ l[i]? = some s := fun e => by rw [List.getElem?_eq_none (by omega)] at e; cases e
      rw [if_neg hne]
      refine fi_ rfl (c := [.str []]) (fun h => by simp [cxOf] at h; omega) (by simp [cxOf]) ?_
      refine fg_ [] rfl (by simp [cxOf]) ?_
      refine dgo_cond rfl (fun h => by simp [hlt] at h) (fun h => ?_)
      refine dgo_skip ?_
      exact dgo_again (add hne) ⟨rfl, rfl, rfl, trivial⟩ trivial rfl
  refine fd_ [] rfl (by simp) ?_
  by_cases hlt : i < l.length
  · obtain ⟨x, hx⟩ := has_get hlt
    refine fi_ rfl (c := [.str x]) (fun _ => ⟨by simp, by simpa using dStr_get hx, rfl⟩) (by simp [cxOf]) ?_
    refine fg_ [] rfl (by simp [cxOf]) ?_
    refine dgo_cond rfl (fun h => ?_) (fun h => ?_)
    · have hl : Op.bytesLess x s = true := by simpa [hlt] using h
      refine fd_ [] rfl (by simp) ?_
      refine dgo_again (ih (i + 1) (by omega) ⟨by omega, fun y hy => ?_⟩) ⟨tInt (w64 (by omega) (by omega)), rfl, rfl, trivial⟩ trivial rfl
      rw [get_take hx] at hy
      rcases List.mem_append.1 hy with hy | hy
      · exact hi2 y hy
      · simp at hy; subst hy; exact hl
    · have hl : Op.bytesLess x s = false := by simpa [hlt] using h
      refine dgo_exit rfl ?_
      exact dgo_again (out fun y hy => by rw [hx] at hy; cases hy; exact hl) ⟨rfl, rfl, rfl, trivial⟩ trivial rfl
  · refine fi_ rfl (c := [.str []]) (fun h => by simp [cxOf] at h; omega) (by simp [cxOf]) ?_
    refine fg_ [] rfl (by simp [cxOf]) ?_
    refine dgo_cond rfl (fun h => by simp [hlt] at h) (fun h => ?_)
    refine dgo_exit rfl ?_
    exact dgo_again (out fun y hy => by rw [List.getElem?_eq_none (by omega)] at hy; cases hy) ⟨rfl, rfl, rfl, trivial⟩ trivial rfl

end Go.Hk

/- Contracts of hearthref01: the names that are free in a term (Free). -/
namespace Go.Hk
open Go.Proofs

def addAll (b : List Str) : List Str → List Str → List Str
  | [], out => out
  | x :: r, out => addAll b r (if hasS b x then out else putS out x)

mutual
def rfree : Tm → List Str
  | .mk op n x ks ps => if op = 4 then [x] else rfreeKs (.mk op n x ks ps) 0 ks []
def rfreeKs (t : Tm) : Nat → List Tm → List Str → List Str
  | _, [], out => out
  | i, k :: r, out => rfreeKs t (i + 1) r (addAll (bindsR t i) (rfree k) out)
end
mutual
def cntT : Tm → Nat
  | .mk _ _ _ ks _ => 1 + cntTs ks
def cntTs : List Tm → Nat
  | [] => 0
  | k :: r => cntT k + cntTs r
end
mutual
def patsOk2 : Tm → Prop
  | .mk op _ _ ks ps => ks.length ≤ 1000000 ∧ (∀ i : Nat, i < ks.length → ownB1 op i = false → patB1 op i = true → ∃ p, ps[((i : Int) - 1).toNat]? = some p ∧ nodesTy p ≤ 1000000) ∧ patsOk2s ks
def patsOk2s : List Tm → Prop
  | [] => True
  | k :: r => patsOk2 k ∧ patsOk2s r
end
theorem patsOk2s_mem : ∀ {l : List Tm} {t : Tm}, patsOk2s l → t ∈ l → patsOk2 t
  | [], _, _, h => by simp at h
  | k :: r, t, h, hm => by
    rcases List.mem_cons.1 hm with rfl | hm
    · exact h.1
    · exact patsOk2s_mem h.2 hm

theorem putS_len : ∀ (l : List Str) (s : Str), (putS l s).length ≤ l.length + 1
  | [], s => by simp [putS]
  | x :: r, s => by
    have := putS_len r s
    simp only [putS]
    split
    · simp only [List.length_cons]; omega
    · split <;> simp
theorem addAll_len (b : List Str) : ∀ (l out : List Str), (addAll b l out).length ≤ out.length + l.length
  | [], out => by simp [addAll]
  | x :: r, out => by
    simp only [addAll]
    have h1 := addAll_len b r (if hasS b x then out else putS out x)
    have h2 := putS_len out x
    have h3 : (if hasS b x then out else putS out x).length ≤ out.length + 1 := by split <;> omega
    simp only [List.length_cons]; omega
mutual
theorem rfree_len : ∀ t : Tm, (rfree t).length ≤ cntT t
  | .mk op n x ks ps => by
    simp only [rfree, cntT]
    split
    · simp
    · have := rfreeKs_len (.mk op n x ks ps) 0 ks []
      simp at this; omega
theorem rfreeKs_len (t : Tm) : ∀ (i : Nat) (ks : List Tm) (out : List Str), (rfreeKs t i ks out).length ≤ out.length + cntTs ks
  | _, [], out => by simp [rfreeKs, cntTs]
  | i, k :: r, out => by
    simp only [rfreeKs, cntTs]
    have h1 := rfreeKs_len t (i + 1) r (addAll (bindsR t i) (rfree k) out)
    have h2 := addAll_len (bindsR t i) (rfree k) out
    have h3 := rfree_len k
    omega
end

set_option maxRecDepth 100000 in
theorem rFree_ok : ∀ (t : Tm), patsOk2 t → cntT t ≤ 1000000 → PureC Tryz.prog 13 [.agg (dTmc t)] (.sl (dStr (rfree t)))
  | .mk op n x ks ps, hok, hc => by
    obtain ⟨hk1, hk2, hk3⟩ := hok
    refine effc_of ttF_ok Tryz.func13 (by decide +kernel) rfl [1, 2, 3] rfl rfl ?_
    refine fg_ [] rfl (by simp) ?_
    refine dgo_cond rfl (fun h => ?_) (fun h => ?_)
    · have e : op = 4 := by simpa using h
      have e2 : rfree (.mk op n x ks ps) = [x] := by simp [rfree, e]
      rw [e2]
      refine fd_ [] rfl (by simp) ?_
      exact dgo_ret ⟨_, rfl, tV rfl, trivial⟩
    · have e : ¬ op = 4 := by simpa using h
      have e2 : rfree (.mk op n x ks ps) = rfreeKs (.mk op n x ks ps) 0 ks [] := by simp [rfree, e]
      rw [e2]
      refine fd_ [] rfl (by simp) ?_
      refine dgo_enter (fun y : Nat × List Str => [(4, .imm (.int .i64 y.1)), (3, .imm (.sl (dStr y.2))), (1, .ref 1 0)]) (fun _ => [(1, some (.immb 26 5 (dTmc (.mk op n x ks ps))))]) [2, 3] (fun y => ks.length - y.1)
        (fun y => y.1 ≤ ks.length ∧ rfreeKs (.mk op n x ks ps) 0 ks [] = rfreeKs (.mk op n x ks ps) y.1 (ks.drop y.1) y.2 ∧ y.2.length + cntTs (ks.drop y.1) ≤ 1000000) (0, [])
        ⟨Nat.zero_le _, rfl, by simp only [cntT] at hc; simp; omega⟩ ⟨rfl, rfl, rfl, trivial⟩ ⟨rfl, trivial⟩ rfl fun y hi ih => ?_
      obtain ⟨i, out⟩ := y
      obtain ⟨hi1, hi2, hi3⟩ := hi
      simp only at hi1 hi2 hi3
      refine fd_ [] rfl (by simp) ?_
      refine dgo_cond rfl (fun h => ?_) (fun h => ?_)
      · simp at h
        obtain ⟨k, hk⟩ := has_get h
        rw [get_drop hk] at hi2 hi3
        simp only [cntTs] at hi3
        have hkc := rfree_len k
        refine fd_ [] rfl (by simp) ?_
        refine fi_ rfl (c := dTmc k) (fun _ => ⟨by simp, by simpa using dTms_get hk, by simp⟩) (by simp) ?_
        refine fg_ [] rfl (by simp) ?_
        refine g_pcall rfl (fun _ => rFree_ok k (patsOk2s_mem hk3 (List.mem_of_getElem? hk)) (by omega)) (by simp) ?_
        refine fg_ [] rfl (by simp) ?_
        refine g_pcall rfl (fun _ => Binds_ok op n x ks ps i (by omega) (hk2 i h)) (by simp) ?_
        refine fg_ [] rfl (by simp; rfl) ?_
        have hbnd : out.length + (rfree k).length ≤ 1000000 := by omega
        refine dgo_enter (fun z : Nat × List Str => [(7, .imm (.int .i64 z.1)), (6, .imm (.sl (dStr (bindsR (.mk op n x ks ps) i)))), (5, .imm (.sl (dStr (rfree k)))), (3, .imm (.sl (dStr z.2))), (4, .imm (.int .i64 i)), (1, .ref 1 0)])
          (fun _ => [(1, some (.immb 26 5 (dTmc (.mk op n x ks ps))))]) [2, 3] (fun z => (rfree k).length - z.1)
          (fun z => z.1 ≤ (rfree k).length ∧ addAll (bindsR (.mk op n x ks ps) i) (rfree k) out = addAll (bindsR (.mk op n x ks ps) i) ((rfree k).drop z.1) z.2 ∧ z.2.length ≤ out.length + z.1) (0, out)
          ⟨Nat.zero_le _, rfl, by simp⟩ ⟨rfl, rfl, rfl, rfl, rfl, rfl, trivial⟩ ⟨rfl, trivial⟩ rfl fun z hz ihz => ?_
        obtain ⟨j, o⟩ := z
        obtain ⟨hj1, hj2, hj3⟩ := hz
        simp only at hj1 hj2 hj3
        refine fd_ [] rfl (by simp) ?_
        refine dgo_cond rfl (fun h4 => ?_) (fun h4 => ?_)
        · simp at h4
          obtain ⟨s, hs⟩ := has_get h4
          rw [get_drop hs] at hj2
          simp only [addAll] at hj2
          refine fd_ [] rfl (by simp) ?_
          refine fi_ rfl (c := [.str s]) (fun _ => ⟨by simp, by simpa using dStr_get hs, rfl⟩) (by simp) ?_
          refine fg_ [] rfl (by simp) ?_
          refine g_pcall rfl (fun _ => Has_ok (bindsR (.mk op n x ks ps) i) s) (by simp) ?_
          refine fg_ [] rfl (by simp) ?_
          refine dgo_cond rfl (fun h5 => ?_) (fun h5 => ?_)
          · have hh : hasS (bindsR (.mk op n x ks ps) i) s = false := by simpa using h5
            rw [hh] at hj2
            refine fd_ [] rfl (by simp) ?_
            refine fi_ rfl (c := [.str s]) (fun _ => ⟨by simp, by simpa using dStr_get hs, rfl⟩) (by simp) ?_
            refine fg_ [] rfl (by simp) ?_
            refine g_pcall rfl (fun _ => put_ref_ok o s (by omega)) (by simp) ?_
            refine fg_ [] rfl (by simp) ?_
            have := putS_len o s
            exact dgo_again (ihz (j + 1, putS o s) (by simp only; omega) ⟨by simp only; omega, hj2, by simp only; omega⟩) ⟨tInt (w64 (by simp only; omega) (by simp only; omega)), rfl, rfl, rfl, rfl, rfl, trivial⟩ ⟨rfl, trivial⟩ rfl
          · have hh : hasS (bindsR (.mk op n x ks ps) i) s = true := by simpa using h5
            rw [hh] at hj2
            refine fd_ [] rfl (by simp) ?_
            exact dgo_again (ihz (j + 1, o) (by simp only; omega) ⟨by simp only; omega, hj2, by simp only; omega⟩) ⟨tInt (w64 (by simp only; omega) (by simp only; omega)), rfl, rfl, rfl, rfl, rfl, trivial⟩ ⟨rfl, trivial⟩ rfl
        · simp at h4
          rw [List.drop_eq_nil_of_le (by omega)] at hj2
          have hj2 : addAll (bindsR (.mk op n x ks ps) i) (rfree k) out = o := hj2
          refine dgo_exit rfl ?_
          refine fd_ [] rfl (by simp) ?_
          exact dgo_again (ih (i + 1, o) (by simp only; omega) ⟨by simp only; omega, by simp only; rw [hi2]; simp only [rfreeKs]; rw [hj2], by simp only; omega⟩) ⟨tInt (w64 (by omega) (by omega)), rfl, rfl, trivial⟩ ⟨rfl, trivial⟩ rfl
      · simp at h
        rw [List.drop_eq_nil_of_le (by omega)] at hi2
        refine dgo_exit rfl ?_
        refine fd_ [] rfl (by simp) ?_
        refine dgo_ret ⟨_, rfl, tV ?_, trivial⟩
        rw [hi2]; rfl
termination_by t => SizeOf.sizeOf t
decreasing_by
  all_goals
    have := List.sizeOf_lt_of_mem (List.mem_of_getElem? hk)
    simp_wf
    omega

end Go.Hk

/- Plain laws of layer 1: what the program asks of types, patterns, terms and modules is what the document asks. -/
namespace Go.Hk

mutual
theorem weighTy_of : ∀ (t : Ty) (l : Int), (nodesTy t : Int) ≤ l → 0 ≤ weighTy t l
  | .mk _ _ _ ps, l, h => by
    simp only [nodesTy] at h
    simp only [weighTy]
    rw [if_neg (by omega)]
    exact weighTys_of ps (l - 1) (by omega)
theorem weighTys_of : ∀ (ts : List Ty) (l : Int), (nodesTys ts : Int) ≤ l → 0 ≤ weighTys ts l
  | [], l, h => by simpa [weighTys, nodesTys] using h
  | t :: r, l, h => by
    simp only [nodesTys] at h
    simp only [weighTys]
    rw [if_pos (by omega)]
    have h1 := weighTy_of t l (by omega)
    have h2 := weighTy_nodes t l h1
    exact weighTys_of r _ (by omega)
end

theorem weigh_iff (t : Ty) (l : Nat) : decide (0 ≤ weighTy t l) = decide (nodesTy t ≤ l) := by
  by_cases h : nodesTy t ≤ l
  · rw [decide_eq_true h, decide_eq_true (weighTy_of t l (by omega))]
  · rw [decide_eq_false h]
    refine decide_eq_false fun h1 => h ?_
    have := weighTy_nodes t l h1
    omega

theorem formed_type (t : Ty) : formedB true t = typeB t := by
  simp only [formedB, typeB]; rw [← weigh_iff t 12]; rfl
theorem formed_whole (t : Ty) : formedB false t = wholeB t := by
  simp only [formedB, wholeB]; rw [← weigh_iff t 12]; rfl
theorem check_pat (t : Ty) : checkPatB t = patOkB t := by
  simp only [checkPatB, patOkB]; rw [← weigh_iff t 12, Bool.and_assoc]; rfl

theorem integer_in (n : Int) : integerB n = inI n (-1000000000) 1000000000 := rfl

theorem wrap_small (p : Nat) (h : p ≤ 1000) : IntKind.i64.wrap (1 + (p : Int)) = 1 + (p : Int) := w64 (by omega) (by omega)

theorem nodeT_eq (op n : Int) (x : Str) (k : Nat) (ps : List Ty) (hp : ps.length ≤ 1000) : nodeT op n x k ps = (nodeB op n x k ps.length && ps.all patOkB) := by
  have hc : checkPatB = patOkB := funext check_pat
  have hw := wrap_small ps.length hp
  by_cases h1 : op = 1
  · subst h1
    cases ps <;> simp [nodeT, headB, extraB, lastB, nodeB, shapeH, spareB, inI, integerB] <;> grind
  by_cases h2 : op = 2
  · subst h2
    cases ps <;> simp [nodeT, headB, extraB, lastB, nodeB, shapeH, spareB, inI, integerB] <;> grind
  by_cases h3 : op = 3
  · subst h3
    cases ps <;> simp [nodeT, headB, extraB, lastB, nodeB, shapeH, spareB, inI, integerB] <;> grind
  by_cases h4 : op = 4
  · subst h4
    cases ps <;> simp [nodeT, headB, extraB, lastB, nodeB, shapeH, spareB, inI, integerB] <;> grind
  by_cases h5 : op = 5
  · subst h5
    cases ps <;> simp [nodeT, headB, extraB, lastB, nodeB, shapeH, spareB, inI, integerB] <;> grind
  by_cases h6 : op = 6
  · subst h6
    cases ps <;> simp [nodeT, headB, extraB, lastB, nodeB, shapeH, spareB, inI, integerB] <;> grind
  by_cases h7 : op = 7
  · subst h7
    cases ps <;> simp [nodeT, headB, extraB, lastB, nodeB, shapeH, spareB, inI, integerB] <;> grind
  by_cases h8 : op = 8
  · subst h8
    cases ps <;> simp [nodeT, headB, extraB, lastB, nodeB, shapeH, spareB, inI, integerB] <;> grind
  by_cases h9 : op = 9
  · subst h9
    cases ps <;> simp [nodeT, headB, extraB, lastB, nodeB, shapeH, spareB, inI, integerB] <;> grind
  by_cases h10 : op = 10
  · subst h10
    cases ps <;> simp [nodeT, headB, extraB, lastB, nodeB, shapeH, spareB, inI, integerB] <;> grind
  by_cases h11 : op = 11
  · subst h11
    cases ps <;> simp [nodeT, headB, extraB, lastB, nodeB, shapeH, spareB, inI, integerB] <;> grind
  by_cases h12 : op = 12
  · subst h12
    cases ps <;> simp [nodeT, headB, extraB, lastB, nodeB, shapeH, spareB, inI, integerB] <;> grind
  by_cases h13 : op = 13
  · subst h13
    cases ps <;> simp [nodeT, headB, extraB, lastB, nodeB, shapeH, spareB, inI, integerB] <;> grind
  by_cases h14 : op = 14
  · subst h14
    have hk : (if (3 : Int) < k then 3 else (k : Int)) = k ↔ (k : Int) ≤ 3 := by split <;> omega
    cases ps <;> simp [nodeT, headB, extraB, lastB, nodeB, shapeH, spareB] <;> grind
  by_cases h15 : op = 15
  · subst h15
    simp only [nodeT, headB, extraB, lastB, nodeB, shapeH, spareB, inI, hc]
    simp [hw]
    grind
  by_cases h16 : op = 16
  · subst h16
    cases ps <;> simp [nodeT, headB, extraB, lastB, nodeB, shapeH, spareB, inI, integerB] <;> grind
  by_cases h17 : op = 17
  · subst h17
    cases ps <;> simp [nodeT, headB, extraB, lastB, nodeB, shapeH, spareB, inI, integerB] <;> grind
  by_cases h18 : op = 18
  · subst h18
    cases ps <;> simp [nodeT, headB, extraB, lastB, nodeB, shapeH, spareB, inI, integerB] <;> grind
  by_cases h19 : op = 19
  · subst h19
    cases ps <;> simp [nodeT, headB, extraB, lastB, nodeB, shapeH, spareB, inI, integerB] <;> grind
  by_cases h20 : op = 20
  · subst h20
    cases ps <;> simp [nodeT, headB, extraB, lastB, nodeB, shapeH, spareB, inI, integerB] <;> grind
  by_cases h21 : op = 21
  · subst h21
    cases ps <;> simp [nodeT, headB, extraB, lastB, nodeB, shapeH, spareB, inI, integerB] <;> grind
  by_cases h22 : op = 22
  · subst h22
    cases ps <;> simp [nodeT, headB, extraB, lastB, nodeB, shapeH, spareB, inI, integerB] <;> grind
  by_cases h23 : op = 23
  · subst h23
    cases ps <;> simp [nodeT, headB, extraB, lastB, nodeB, shapeH, spareB, inI, integerB] <;> grind
  by_cases h24 : op = 24
  · subst h24
    cases ps <;> simp [nodeT, headB, extraB, lastB, nodeB, shapeH, spareB, inI, integerB] <;> grind
  by_cases h25 : op = 25
  · subst h25
    cases ps <;> simp [nodeT, headB, extraB, lastB, nodeB, shapeH, spareB, inI, integerB] <;> grind
  by_cases h26 : op = 26
  · subst h26
    cases ps <;> simp [nodeT, headB, extraB, lastB, nodeB, shapeH, spareB, inI, integerB] <;> grind
  by_cases h27 : op = 27
  · subst h27
    cases ps <;> simp [nodeT, headB, extraB, lastB, nodeB, shapeH, spareB, inI, integerB] <;> grind
  by_cases h28 : op = 28
  · subst h28
    cases ps <;> simp [nodeT, headB, extraB, lastB, nodeB, shapeH, spareB, inI, integerB] <;> grind
  simp [nodeT, headB, nodeB, shapeH, h1, h2, h3, h4, h5, h6, h7, h8, h9, h10, h11, h12, h13, h14, h15, h16, h17, h18, h19, h20, h21, h22, h23, h24, h25, h26, h27, h28]

mutual
theorem nodesTT_eq : ∀ (t : Tm), smallTm t = true → nodesTT t = nodesTm t
  | .mk op n x ks ps, h => by
    simp only [smallTm, Bool.and_eq_true, decide_eq_true_eq] at h
    simp only [nodesTT, nodesTm]
    rw [nodeT_eq op n x ks.length ps (by omega), nodesTTs_eq ks h.2]
theorem nodesTTs_eq : ∀ (ts : List Tm), smallTms ts = true → nodesTTs ts = nodesTms ts
  | [], _ => rfl
  | t :: r, h => by
    simp only [smallTms, Bool.and_eq_true] at h
    simp only [nodesTTs, nodesTms]
    rw [nodesTT_eq t h.1, nodesTTs_eq r h.2]
end

theorem check_term (t : Tm) (h : smallTermB t = true) : checkB t = termB t := by
  simp only [smallTermB, Bool.and_eq_true] at h
  simp only [checkB, termB]
  rw [nodesTT_eq t h.2]

theorem conB_eq (c : Cd) : conB2 c = conB c := by
  simp only [conB2, conB]
  rw [show formedB false = wholeB from funext formed_whole]
theorem dataB_eq (d : Dt) : dataB2 d = dataB d := by
  simp only [dataB2, dataB, inI]
  rw [show conB2 = conB from funext conB_eq]
  simp only [Bool.and_assoc]
theorem funB_eq (f : Fd) (h : smallFunB f = true) : funB2 f = funB f := by
  simp only [smallFunB, Bool.and_eq_true] at h
  simp only [funB2, funB, formed_whole, check_term f.body h.2]

theorem modB_eq (m : Md) (h : smallModuleB m = true) : modB2 m = moduleB m := by
  simp only [smallModuleB, Bool.and_eq_true] at h
  have hf : m.funs.all funB2 = m.funs.all funB := by
    rw [Bool.eq_iff_iff]
    simp only [List.all_eq_true]
    exact ⟨fun q f hf => by rw [← funB_eq f (List.all_eq_true.1 h.2 f hf)]; exact q f hf, fun q f hf => by rw [funB_eq f (List.all_eq_true.1 h.2 f hf)]; exact q f hf⟩
  simp only [modB2, moduleB, inI]
  rw [show dataB2 = dataB from funext dataB_eq, hf]
  simp only [Bool.and_assoc]

end Go.Hk

/- Contracts of hearthref01: names that are the same; the plain law of the names of a pattern. -/
namespace Go.Hk
open Go.Proofs

def sameS (l m : List Str) : Bool := decide (l = m)

theorem dStr_inj {a b : List Str} (h : dStr a = dStr b) : a = b := by
  simp only [dStr] at h
  exact (List.map_inj_right (fun x y h => by simpa using h)).1 h

set_option maxRecDepth 100000 in
theorem SameNames_ok (l m : List Str) : PureC Tryz.prog 12 [.sl (dStr l), .sl (dStr m)] (.bool (sameS l m)) := by
  refine pureC_ok fun hv => ?_
  simp [vOkL, vOk, maxLen] at hv
  refine effc_of ttK_ok Tryz.func12 (by decide +kernel) rfl [1, 2] rfl rfl ?_
  refine kg [] rfl (by simp) ?_
  refine dgo_cond rfl (fun h => ?_) (fun h => ?_)
  · refine kd [] rfl (by simp) ?_
    refine dgo_ret ⟨_, rfl, tV (congrArg _ ?_), trivial⟩
    simp at h
    simp only [sameS]
    symm
    rw [decide_eq_false_iff_not]
    exact fun e => h (by rw [e])
  simp at h
  refine kd [] rfl (by simp) ?_
  refine dgo_enter (fun i : Nat => [(5, .imm (.int .i64 i)), (0, .imm (.sl (dStr l))), (1, .imm (.sl (dStr m)))]) (fun _ => []) [1] (fun i => l.length - i) (fun i => i ≤ l.length ∧ l.take i = m.take i) 0
    ⟨Nat.zero_le _, rfl⟩ ⟨rfl, rfl, rfl, trivial⟩ trivial rfl fun i hi ih => ?_
  refine kd [] rfl (by simp) ?_
  refine dgo_cond rfl (fun h1 => ?_) (fun h1 => ?_)
  · simp at h1
    obtain ⟨s, hs⟩ := has_get h1
    obtain ⟨u, hu⟩ := has_get (l := m) (i := i) (by omega)
    refine kd [] rfl (by simp) ?_
    refine ki rfl (c := [.str s]) (fun _ => ⟨by simp, by simpa using dStr_get hs, rfl⟩) (by simp) ?_
    refine kg [] rfl (by simp) ?_
    refine ki rfl (c := [.str u]) (fun _ => ⟨by simp, by simpa using dStr_get hu, rfl⟩) (by simp) ?_
    refine kg [] rfl (by simp; rfl) ?_
    refine dgo_cond rfl (fun h2 => ?_) (fun h2 => ?_)
    · refine kd [] rfl (by simp) ?_
      refine dgo_ret ⟨_, rfl, tV (congrArg _ ?_), trivial⟩
      simp only [sameS]
      symm
      rw [decide_eq_false_iff_not]
      intro e
      rw [e, hu] at hs
      cases hs
      simp at h2
    · refine kd [] rfl (by simp) ?_
      have e : s = u := by simpa using h2
      refine dgo_again (ih (i + 1) (by omega) ⟨by omega, by rw [get_take hs, get_take hu, hi.2, e]⟩) ⟨tInt (w64 (by omega) (by omega)), rfl, rfl, trivial⟩ trivial rfl
  · refine kd [] rfl (by simp) ?_
    refine dgo_ret ⟨_, rfl, tV (congrArg _ ?_), trivial⟩
    simp at h1
    have := hi.2
    rw [List.take_of_length_le (by omega), List.take_of_length_le (by omega)] at this
    simp [sameS, this]

/-! ### The plain law -/
theorem pnodess_append (a b : List Ty) : pnodess (a ++ b) = pnodess a ++ pnodess b := by
  induction a with
  | nil => rfl
  | cons t r ih => simp [pnodess, ih]

mutual
theorem pnodes_le : ∀ t : Ty, (pnodes t).length ≤ nodesTy t
  | .mk s n x ps => by
    have := pnodess_le ps
    simp only [pnodes, nodesTy, List.length_append]
    split <;> simp <;> omega
theorem pnodess_le : ∀ ts : List Ty, (pnodess ts).length ≤ nodesTys ts
  | [] => by simp [pnodess]
  | t :: r => by
    have h1 := pnodes_le t
    have h2 := pnodess_le r
    simp only [pnodess, nodesTys, List.length_append]; omega
end

mutual
theorem pnames_eq : ∀ t : Ty, patsTy t = true → (pnodes t).map textT = namesTy t
  | .mk s n x ps, h => by
    simp only [patsTy, Bool.and_eq_true] at h
    have h2 := pnamess_eq ps h.2
    simp only [pnodes, namesTy, List.map_append, h2]
    by_cases hs : s = 2
    · have h1 := h.1
      simp [patB, hs] at h1
      have : ps = [] := by
        cases ps with
        | nil => rfl
        | cons => simp at h1
      subst this
      simp [hs, textT, namesTys]
    · simp [hs]
theorem pnamess_eq : ∀ ts : List Ty, patsTys ts = true → (pnodess ts).map textT = namesTys ts
  | [], _ => rfl
  | t :: r, h => by
    simp only [patsTys, Bool.and_eq_true] at h
    simp only [pnodess, namesTys, List.map_append, pnames_eq t h.1, pnamess_eq r h.2]
end

set_option maxRecDepth 100000 in
theorem Names_ok2 (t : Ty) (h : smallTypeB t = true) : PureC Tryz.prog 26 [.agg (dTyc t)] (.tup [.sl (dStr (bif patOkB t then namesTy t else [])), .int .i64 (bif patOkB t then 0 else 2)]) := by
  simp only [smallTypeB, Bool.and_eq_true, decide_eq_true_eq] at h
  have h1 := weighTy_nodes t 16 h.1
  have h2 := pnodes_le t
  have := Names_ok t (by simp only [pnames, List.length_map]; omega)
  rw [check_pat] at this
  cases hp : patOkB t with
  | false => rw [hp, if_neg (by simp)] at this; exact this
  | true =>
    rw [hp] at this
    have hn : pnames t = namesTy t := by
      simp only [patOkB, Bool.and_eq_true] at hp
      exact pnames_eq t hp.1.2
    rw [hn, if_pos rfl] at this
    exact this

end Go.Hk

/- The plain law of free names: what the program's names and the reference's have in common. -/
namespace Go.Hk
open Go.Proofs

theorem bound_binds (op n : Int) (x : Str) (ks : List Tm) (ps : List Ty) (kid : Int) (h : ∀ p ∈ ps, patsTy p = true) : boundN (.mk op n x ks ps) kid = bindsR (.mk op n x ks ps) kid := by
  show (if ownB1 op kid then [x] else if patB1 op kid then (match ps[(kid - 1).toNat]? with | some p => pnames p | none => []) else []) = (if ownB1 op kid then [x] else if patB1 op kid then (match ps[(kid - 1).toNat]? with | some p => namesTy p | none => []) else [])
  cases hp : ps[(kid - 1).toNat]? with
  | none => rfl
  | some p => simp only [pnames, pnames_eq p (h p (List.mem_of_getElem? hp))]

/-- The members of a sorted list with one more. -/
theorem putS_mem (l : List Str) (s x : Str) : x ∈ putS l s ↔ x = s ∨ x ∈ l := by
  induction l with
  | nil => simp [putS]
  | cons y r ih =>
    simp only [putS]
    split
    · simp only [List.mem_cons, ih]
      constructor
      · rintro (h | h | h)
        · exact .inr (.inl h)
        · exact .inl h
        · exact .inr (.inr h)
      · rintro (h | h | h)
        · exact .inr (.inl h)
        · exact .inl h
        · exact .inr (.inr h)
    · split
      · rename_i h
        have e : y = s := by simpa using h
        subst e
        simp only [List.mem_cons]
        constructor
        · intro h; exact .inr h
        · rintro (h | h)
          · exact .inl h
          · exact h
      · simp only [List.mem_cons]

theorem addAll_mem (b : List Str) (x : Str) : ∀ (l out : List Str), x ∈ addAll b l out ↔ x ∈ out ∨ (x ∈ l ∧ hasS b x = false)
  | [], out => by simp [addAll]
  | y :: r, out => by
    simp only [addAll]
    rw [addAll_mem b x r]
    cases h : hasS b y with
    | true =>
      simp only [if_true, List.mem_cons]
      constructor
      · rintro (h1 | ⟨h1, h2⟩)
        · exact .inl h1
        · exact .inr ⟨.inr h1, h2⟩
      · rintro (h1 | ⟨h1 | h1, h2⟩)
        · exact .inl h1
        · subst h1; rw [h] at h2; cases h2
        · exact .inr ⟨h1, h2⟩
    | false =>
      simp only [Bool.false_eq_true, if_false, putS_mem, List.mem_cons]
      constructor
      · rintro ((h1 | h1) | ⟨h1, h2⟩)
        · subst h1; exact .inr ⟨.inl rfl, h⟩
        · exact .inl h1
        · exact .inr ⟨.inr h1, h2⟩
      · rintro (h1 | ⟨h1 | h1, h2⟩)
        · exact .inl (.inr h1)
        · exact .inl (.inl h1)
        · exact .inr ⟨h1, h2⟩

mutual
def inT : Tm → Str → Prop
  | .mk op n x ks ps, y => if op = 4 then y = x else inKs (.mk op n x ks ps) 0 ks y
def inKs (t : Tm) : Nat → List Tm → Str → Prop
  | _, [], _ => False
  | i, k :: r, y => (inT k y ∧ hasS (bindsR t i) y = false) ∨ inKs t (i + 1) r y
end

mutual
theorem rfree_in : ∀ (t : Tm) (y : Str), y ∈ rfree t ↔ inT t y
  | .mk op n x ks ps, y => by
    simp only [rfree, inT]
    split
    · simp
    · rw [rfreeKs_in (.mk op n x ks ps) 0 ks [] y]; simp
theorem rfreeKs_in (t : Tm) : ∀ (i : Nat) (ks : List Tm) (out : List Str) (y : Str), y ∈ rfreeKs t i ks out ↔ y ∈ out ∨ inKs t i ks y
  | _, [], out, y => by simp [rfreeKs, inKs]
  | i, k :: r, out, y => by
    simp only [rfreeKs, inKs]
    rw [rfreeKs_in t (i + 1) r _ y, addAll_mem, rfree_in k y]
    constructor
    · rintro ((h | h) | h)
      · exact .inl h
      · exact .inr (.inl h)
      · exact .inr (.inr h)
    · rintro (h | h | h)
      · exact .inl (.inl h)
      · exact .inl (.inr h)
      · exact .inr h
end

theorem hasS_mem2 {l : List Str} {s : Str} : hasS l s = true ↔ s ∈ l := by
  induction l with
  | nil => simp [hasS]
  | cons x r ih =>
    simp only [hasS, Bool.or_eq_true, beq_iff_eq, List.mem_cons, ih]
    constructor
    · rintro (h | h)
      · exact .inl h.symm
      · exact .inr h
    · rintro (h | h)
      · exact .inl h.symm
      · exact .inr h

theorem addS_mem (m : List Str) (x y : Str) : y ∈ addS m x ↔ y ∈ m ∨ y = x := by
  rw [← hasS_mem2, hasS_add, hasS_mem2]; simp

theorem hasS_rev (a s : List Str) (y : Str) : hasS (a.reverse ++ s) y = (hasS a y || hasS s y) := by
  rw [Bool.eq_iff_iff, Bool.or_eq_true, hasS_mem2, hasS_mem2, hasS_mem2]; simp

mutual
def patsAll : Tm → Prop
  | .mk _ _ _ ks ps => (∀ p ∈ ps, patsTy p = true) ∧ patsAlls ks
def patsAlls : List Tm → Prop
  | [] => True
  | k :: r => patsAll k ∧ patsAlls r
end

mutual
theorem freeT_in : ∀ (t : Tm) (s m : List Str) (y : Str), patsAll t → (y ∈ freeT t s m ↔ y ∈ m ∨ (inT t y ∧ hasS s y = false))
  | .mk op n x ks ps, s, m, y, h => by
    simp only [freeT, inT]
    split
    · cases hs : hasS s x with
      | true =>
        simp only [if_true]
        constructor
        · exact .inl
        · rintro (h1 | ⟨h1, h2⟩)
          · exact h1
          · subst h1; rw [hs] at h2; cases h2
      | false =>
        simp only [Bool.false_eq_true, if_false, addS_mem]
        constructor
        · rintro (h1 | h1)
          · exact .inl h1
          · subst h1; exact .inr ⟨rfl, hs⟩
        · rintro (h1 | ⟨h1, _⟩)
          · exact .inl h1
          · exact .inr h1
    · exact freeKs_in op n x ks ps h.1 0 ks s m y h.2
theorem freeKs_in (op n : Int) (x : Str) (ks0 : List Tm) (ps : List Ty) (hp : ∀ p ∈ ps, patsTy p = true) : ∀ (i : Nat) (ks : List Tm) (s m : List Str) (y : Str), patsAlls ks →
    (y ∈ freeKs (.mk op n x ks0 ps) i ks s m ↔ y ∈ m ∨ (inKs (.mk op n x ks0 ps) i ks y ∧ hasS s y = false))
  | _, [], s, m, y, _ => by simp [freeKs, inKs]
  | i, k :: r, s, m, y, h => by
    simp only [freeKs, inKs]
    rw [freeKs_in op n x ks0 ps hp (i + 1) r s _ y h.2, freeT_in k _ m y h.1, hasS_rev, bound_binds op n x ks0 ps i hp]
    cases h1 : hasS (bindsR (.mk op n x ks0 ps) i) y <;> cases h2 : hasS s y <;> simp [h1, h2, or_assoc]
end

end Go.Hk

/- The plain law of free names: order. -/
namespace Go.Hk
open Go.Proofs

theorem str_tri {a b : Str} (h : ¬ a < b) (hne : a ≠ b) : b < a := by
  have h1 : b ≤ a := List.not_lt.1 h
  rcases Std.le_iff_lt_or_eq.1 h1 with h2 | h2
  · exact h2
  · exact absurd h2.symm hne

theorem putS_sorted : ∀ (l : List Str) (s : Str), l.Pairwise (· < ·) → (putS l s).Pairwise (· < ·)
  | [], s, _ => by simp [putS]
  | y :: r, s, h => by
    obtain ⟨h1, h2⟩ := List.pairwise_cons.1 h
    simp only [putS, _root_.Go.Proofs.bytesLess_eq]
    by_cases hl : y < s
    · simp only [hl, decide_true, if_true]
      refine List.pairwise_cons.2 ⟨fun z hz => ?_, putS_sorted r s h2⟩
      rcases (putS_mem r s z).1 hz with h | h
      · rw [h]; exact hl
      · exact h1 z h
    · simp only [hl, decide_false, Bool.false_eq_true, if_false]
      by_cases he : y = s
      · subst he; simp only [beq_self_eq_true, if_true]; exact h
      · have : (y == s) = false := by simpa using he
        simp only [this, Bool.false_eq_true, if_false]
        have hs := str_tri hl he
        refine List.pairwise_cons.2 ⟨fun z hz => ?_, h⟩
        rcases List.mem_cons.1 hz with h3 | h3
        · rw [h3]; exact hs
        · exact List.lt_trans hs (h1 z h3)

theorem addAll_sorted (b : List Str) : ∀ (l out : List Str), out.Pairwise (· < ·) → (addAll b l out).Pairwise (· < ·)
  | [], _, h => h
  | y :: r, out, h => by
    simp only [addAll]
    refine addAll_sorted b r _ ?_
    split
    · exact h
    · exact putS_sorted out y h

theorem rfreeKs_sorted (t : Tm) : ∀ (i : Nat) (ks : List Tm) (out : List Str), out.Pairwise (· < ·) → (rfreeKs t i ks out).Pairwise (· < ·)
  | _, [], _, h => by simpa [rfreeKs] using h
  | i, k :: r, out, h => by
    simp only [rfreeKs]
    exact rfreeKs_sorted t (i + 1) r _ (addAll_sorted _ _ _ h)

theorem rfree_sorted : ∀ t : Tm, (rfree t).Pairwise (· < ·)
  | .mk op n x ks ps => by
    simp only [rfree]
    split
    · simp
    · exact rfreeKs_sorted _ 0 ks [] .nil

/-- Two lists in strict order with the same members are one. -/
theorem sorted_unique : ∀ (a b : List Str), a.Pairwise (· < ·) → b.Pairwise (· < ·) → (∀ x, x ∈ a ↔ x ∈ b) → a = b
  | [], [], _, _, _ => rfl
  | [], y :: r, _, _, h => by have := (h y).2 (by simp); simp at this
  | x :: r, [], _, _, h => by have := (h x).1 (by simp); simp at this
  | x :: r, y :: t, ha, hb, h => by
    obtain ⟨a1, a2⟩ := List.pairwise_cons.1 ha
    obtain ⟨b1, b2⟩ := List.pairwise_cons.1 hb
    have e : x = y := by
      have hx := (h x).1 (by simp)
      have hy := (h y).2 (by simp)
      rcases List.mem_cons.1 hx with h1 | h1
      · exact h1
      · rcases List.mem_cons.1 hy with h2 | h2
        · exact h2.symm
        · exact absurd (List.lt_trans (b1 x h1) (a1 y h2)) (List.lt_irrefl _)
    subst e
    have : r = t := sorted_unique r t a2 b2 fun z => by
      constructor
      · intro hz
        rcases List.mem_cons.1 ((h z).1 (by simp [hz])) with h1 | h1
        · subst h1; exact absurd (a1 z hz) (List.lt_irrefl _)
        · exact h1
      · intro hz
        rcases List.mem_cons.1 ((h z).2 (by simp [hz])) with h1 | h1
        · subst h1; exact absurd (b1 z hz) (List.lt_irrefl _)
        · exact h1
    rw [this]

theorem merge_strict (l : List Str) (h : l.Nodup) : (l.mergeSort (fun x y => decide (x ≤ y))).Pairwise (· < ·) := by
  have h1 : (l.mergeSort (fun x y => decide (x ≤ y))).Pairwise (fun a b => decide (a ≤ b) = true) := List.pairwise_mergeSort (fun a b c hab hbc => by simp only [decide_eq_true_eq] at *; exact List.le_trans hab hbc) (fun a b => by simp only [Bool.or_eq_true, decide_eq_true_eq]; exact List.le_total a b) l
  have h2 : (l.mergeSort (fun x y => decide (x ≤ y))).Nodup := (List.mergeSort_perm l _).nodup_iff.2 h
  refine (h1.and h2).imp fun {a b} hab => ?_
  have h3 : a ≤ b := by simpa using hab.1
  rcases Std.le_iff_lt_or_eq.1 h3 with h4 | h4
  · exact h4
  · exact absurd h4 hab.2

theorem addS_nodup {m : List Str} (h : m.Nodup) (x : Str) : (addS m x).Nodup := by
  unfold addS
  split
  · exact h
  · rename_i hs
    have : x ∉ m := fun hm => hs (hasS_mem2.2 hm)
    refine List.nodup_append.2 ⟨h, by simp, fun a ha b hb => ?_⟩
    simp at hb
    subst hb
    exact fun e => this (e ▸ ha)

mutual
theorem freeT_nodup : ∀ (t : Tm) (s m : List Str), m.Nodup → (freeT t s m).Nodup
  | .mk op n x ks ps, s, m, h => by
    simp only [freeT]
    split
    · split
      · exact h
      · exact addS_nodup h x
    · exact freeKs_nodup _ 0 ks s m h
theorem freeKs_nodup (t : Tm) : ∀ (i : Nat) (ks : List Tm) (s m : List Str), m.Nodup → (freeKs t i ks s m).Nodup
  | _, [], _, _, h => by simpa [freeKs] using h
  | i, k :: r, s, m, h => by
    simp only [freeKs]
    exact freeKs_nodup t (i + 1) r s _ (freeT_nodup k _ m h)
end

/-- The program's names, sorted, are the reference's. -/
theorem free_law (t : Tm) (h : patsAll t) : (freeT t [] []).mergeSort (fun x y => decide (x ≤ y)) = rfree t :=
  sorted_unique _ _ (merge_strict _ (freeT_nodup t [] [] .nil)) (rfree_sorted t) fun x => by
    rw [List.mem_mergeSort, freeT_in t [] [] x h, rfree_in]; simp [hasS]

end Go.Hk

/- What a formed term has: patterns that are formed. -/
namespace Go.Hk
open Go.Proofs

mutual
theorem nodes_patsAll : ∀ t : Tm, nodesTm t = true → patsAll t
  | .mk op n x ks ps, h => by
    simp only [nodesTm, Bool.and_eq_true] at h
    simp only [patsAll]
    refine ⟨fun p hp => ?_, nodess_patsAll ks h.2⟩
    have h1 : ps.all patOkB = true := by
      first
        | exact h.1.2
        | exact h.1.1
    have h2 := List.all_eq_true.1 h1 p hp
    simp only [patOkB, Bool.and_eq_true] at h2
    exact h2.1.2
theorem nodess_patsAll : ∀ ts : List Tm, nodesTms ts = true → patsAlls ts
  | [], _ => trivial
  | t :: r, h => by
    simp only [nodesTms, Bool.and_eq_true] at h
    exact ⟨nodes_patsAll t h.1, nodess_patsAll r h.2⟩
end

theorem cnt_pos (t : Tm) : 1 ≤ cntT t := by obtain ⟨_, _, _, _, _⟩ := t; simp [cntT]
theorem len_cnt : ∀ ks : List Tm, ks.length ≤ cntTs ks
  | [] => by simp [cntTs]
  | k :: r => by have := len_cnt r; have := cnt_pos k; simp only [List.length_cons, cntTs]; omega

theorem pat_small {p : Ty} (h : patOkB p = true) : nodesTy p ≤ 12 := by
  simp only [patOkB, Bool.and_eq_true, decide_eq_true_eq] at h
  have := weighTy_nodes p 12 h.1.1
  omega

theorem node_match {op n : Int} {x : Str} {k p : Nat} (h : nodeB op n x k p = true) {i : Nat} (hp : patB1 op i = true) (hi : i < k) : ((i : Int) - 1).toNat < p := by
  simp only [patB1, Bool.and_eq_true, beq_iff_eq, decide_eq_true_eq] at hp
  obtain ⟨rfl, h0⟩ := hp
  simp [nodeB] at h
  omega

mutual
theorem nodes_pats2 : ∀ t : Tm, nodesTm t = true → cntT t ≤ 1000000 → patsOk2 t ∧ patsOk t
  | .mk op n x ks ps, h, hc => by
    simp only [nodesTm, Bool.and_eq_true] at h
    obtain ⟨⟨h1, h2⟩, h3⟩ := h
    simp only [cntT] at hc
    have hl := len_cnt ks
    obtain ⟨q1, q2⟩ := nodess_pats2 ks h3 (by omega)
    have get : ∀ i : Nat, i < ks.length → patB1 op i = true → ∃ p, ps[((i : Int) - 1).toNat]? = some p ∧ nodesTy p ≤ 12 := fun i hi hp => by
      have hlt := node_match h1 hp hi
      exact ⟨ps[((i : Int) - 1).toNat], by simp [hlt], pat_small (List.all_eq_true.1 h2 _ (by simp))⟩
    refine ⟨⟨by omega, fun i hi _ hp => ?_, q1⟩, ⟨by omega, fun i hi _ hp => ?_, q2⟩⟩
    · obtain ⟨p, e1, e2⟩ := get i hi hp
      exact ⟨p, e1, by omega⟩
    · obtain ⟨p, e1, e2⟩ := get i hi hp
      have := pnodes_le p
      exact ⟨p, e1, by simp only [pnames, List.length_map]; omega⟩
theorem nodess_pats2 : ∀ ts : List Tm, nodesTms ts = true → cntTs ts ≤ 1000000 → patsOk2s ts ∧ patsOks ts
  | [], _, _ => ⟨trivial, trivial⟩
  | t :: r, h, hc => by
    simp only [nodesTms, Bool.and_eq_true] at h
    simp only [cntTs] at hc
    obtain ⟨a1, a2⟩ := nodes_pats2 t h.1 (by omega)
    obtain ⟨b1, b2⟩ := nodess_pats2 r h.2 (by omega)
    exact ⟨⟨a1, b1⟩, ⟨a2, b2⟩⟩
end

mutual
theorem weigh_cnt : ∀ (t : Tm) (l d : Int), 0 ≤ weighTm t l d → weighTm t l d + cntT t ≤ l
  | .mk _ _ _ ks _, l, d, h => by
    simp only [weighTm] at h ⊢
    by_cases h0 : l < 1 ∨ d < 1
    · rw [if_pos h0] at h; omega
    · rw [if_neg h0] at h ⊢
      have := weighs_cnt ks (l - 1) (d - 1) h
      simp only [cntT]; omega
theorem weighs_cnt : ∀ (ts : List Tm) (l d : Int), 0 ≤ weighTms ts l d → weighTms ts l d + cntTs ts ≤ l
  | [], l, _, h => by simp [weighTms, cntTs]
  | t :: r, l, d, h => by
    simp only [weighTms] at h ⊢
    by_cases h0 : 0 ≤ l
    · rw [if_pos h0] at h ⊢
      have h1 := weighs_cnt r (weighTm t l d) d h
      by_cases h2 : 0 ≤ weighTm t l d
      · have := weigh_cnt t l d h2
        simp only [cntTs]; omega
      · have := (weighTms_le r (weighTm t l d) d (weighTm_le t l d).1).2
        omega
    · rw [if_neg h0] at h; omega
end

theorem termB_all (t : Tm) (h : termB t = true) : patsAll t ∧ patsOk t ∧ patsOk2 t ∧ cntT t ≤ 60 := by
  simp only [termB, Bool.and_eq_true, decide_eq_true_eq] at h
  have hc := weigh_cnt t 60 14 h.1
  have hc2 : cntT t ≤ 60 := by omega
  obtain ⟨a, b⟩ := nodes_pats2 t h.2 (by omega)
  exact ⟨nodes_patsAll t h.2, b, a, hc2⟩

end Go.Hk

/-
  DERIVED: THE SHELF's CONTRACTS AT THIS DUMP, IN PLAIN WORDS (tools/lay-plain.mjs out of 'YtkkdjkidlgnagaaGreatSrt0.lean', which tools/lay-shelf.mjs wrote): THE SAME DECLARATIONS UNDER THE SAME NAMES: 'import', 'namespace', 'open', 'def', 'theorem' AND NOTHING ELSE: no command of the shelf's: FOR A HAND-IN. Each laying: the table of numbers ('.._ren') and one theorem, a field a fact of the dump's own or the kernel's comparison; each contract: ONE APPLICATION.
-/
namespace Go.Proofs
open Go.Shelf
def Tryz.mSort_ren : Go.Shelf.Ren := ⟨fun | 6 => 90 | 8 => 127 | 9 => 126 | 19 => 149 | 20 => 150 | 21 => 140 | 22 => 141 | 23 => 142 | 24 => 143 | 25 => 144 | 26 => 145 | 27 => 146 | 28 => 147 | 29 => 148 | 36 => 153 | 31 => 154 | 32 => 155 | 37 => 156 | 38 => 157 | 39 => 158 | 41 => 159 | n => n, fun | 27 => 29 | 29 => 9 | 3 => 3 | 32 => 170 | 26 => 29 | 0 => 0 | 44 => 193 | 46 => 195 | 4 => 4 | 36 => 185 | 35 => 184 | 41 => 190 | 5 => 5 | 9 => 9 | 53 => 198 | 57 => 202 | 63 => 204 | 64 => 205 | n => n, fun | n => n⟩
theorem Tryz.mSort : Go.Proofs.SlLaysM.n6 Tryz.prog Tryz.mSort_ren := {
  mixed := by kernel_rfl
  f6 := ⟨Tryz.f90.name, by decide, Tryz.func90.trans (congrArg some (by kernel_rfl))⟩
  f8 := Tryz.func127.trans (congrArg some (by kernel_rfl))
  f9 := ⟨Tryz.f126.name, by decide, Tryz.func126.trans (congrArg some (by kernel_rfl))⟩
  f19 := Tryz.func149.trans (congrArg some (by kernel_rfl))
  f20 := Tryz.func150.trans (congrArg some (by kernel_rfl))
  f21 := ⟨Tryz.f140.name, by decide, Tryz.func140.trans (congrArg some (by kernel_rfl))⟩
  f22 := ⟨Tryz.f141.name, by decide, Tryz.func141.trans (congrArg some (by kernel_rfl))⟩
  f23 := ⟨Tryz.f142.name, by decide, Tryz.func142.trans (congrArg some (by kernel_rfl))⟩
  f24 := ⟨Tryz.f143.name, by decide, Tryz.func143.trans (congrArg some (by kernel_rfl))⟩
  f25 := ⟨Tryz.f144.name, by decide, Tryz.func144.trans (congrArg some (by kernel_rfl))⟩
  f26 := ⟨Tryz.f145.name, by decide, Tryz.func145.trans (congrArg some (by kernel_rfl))⟩
  f27 := ⟨Tryz.f146.name, by decide, Tryz.func146.trans (congrArg some (by kernel_rfl))⟩
  f28 := ⟨Tryz.f147.name, by decide, Tryz.func147.trans (congrArg some (by kernel_rfl))⟩
  f29 := ⟨Tryz.f148.name, by decide, Tryz.func148.trans (congrArg some (by kernel_rfl))⟩
  f31 := Tryz.func154.trans (congrArg some (by kernel_rfl))
  f32 := Tryz.func155.trans (congrArg some (by kernel_rfl))
  f36 := ⟨Tryz.f153.name, by decide, Tryz.func153.trans (congrArg some (by kernel_rfl))⟩
  f37 := ⟨Tryz.f156.name, by decide, Tryz.func156.trans (congrArg some (by kernel_rfl))⟩
  f38 := ⟨Tryz.f157.name, by decide, Tryz.func157.trans (congrArg some (by kernel_rfl))⟩
  f39 := ⟨Tryz.f158.name, by decide, Tryz.func158.trans (congrArg some (by kernel_rfl))⟩
  f41 := ⟨Tryz.f159.name, by decide, Tryz.func159.trans (congrArg some (by kernel_rfl))⟩
  t0 := Tryz.underlying0
  a0 := Tryz.isAgg0
  z0 := Tryz.sizeOf0
  v0 := Tryz.zeroValue0
  t3 := Tryz.underlying3
  a3 := Tryz.isAgg3
  z3 := Tryz.sizeOf3
  v3 := Tryz.zeroValue3
  t4 := Tryz.underlying4
  a4 := Tryz.isAgg4
  z4 := Tryz.sizeOf4
  v4 := Tryz.zeroValue4
  t5 := Tryz.underlying5
  a5 := Tryz.isAgg5
  z5 := Tryz.sizeOf5
  v5 := Tryz.zeroValue5
  t9 := Tryz.underlying9
  a9 := Tryz.isAgg9
  z9 := Tryz.sizeOf9
  v9 := Tryz.zeroValue9
  t26 := Tryz.underlying29
  a26 := Tryz.isAgg29
  z26 := Tryz.sizeOf29
  v26 := Tryz.zeroValue29
  t27 := Tryz.underlying29
  a27 := Tryz.isAgg29
  z27 := Tryz.sizeOf29
  v27 := Tryz.zeroValue29
  t29 := Tryz.underlying9
  a29 := Tryz.isAgg9
  z29 := Tryz.sizeOf9
  v29 := Tryz.zeroValue9
  t32 := Tryz.underlying170
  a32 := Tryz.isAgg170
  z32 := Tryz.sizeOf170
  v32 := Tryz.zeroValue170
  t35 := Tryz.underlying184
  a35 := Tryz.isAgg184
  z35 := Tryz.sizeOf184
  v35 := Tryz.zeroValue184
  t36 := Tryz.underlying185
  a36 := Tryz.isAgg185
  z36 := Tryz.sizeOf185
  v36 := Tryz.zeroValue185
  t41 := Tryz.underlying190
  a41 := Tryz.isAgg190
  z41 := Tryz.sizeOf190
  v41 := Tryz.zeroValue190
  t44 := Tryz.underlying193
  a44 := Tryz.isAgg193
  z44 := Tryz.sizeOf193
  v44 := Tryz.zeroValue193
  t46 := Tryz.underlying195
  a46 := Tryz.isAgg195
  z46 := Tryz.sizeOf195
  v46 := Tryz.zeroValue195
  t53 := Tryz.underlying198
  a53 := Tryz.isAgg198
  z53 := Tryz.sizeOf198
  v53 := Tryz.zeroValue198
  t57 := Tryz.underlying202
  a57 := Tryz.isAgg202
  z57 := Tryz.sizeOf202
  v57 := Tryz.zeroValue202
  t63 := Tryz.underlying204
  a63 := Tryz.isAgg204
  z63 := Tryz.sizeOf204
  v63 := Tryz.zeroValue204
  t64 := Tryz.underlying205
  a64 := Tryz.isAgg205
  z64 := Tryz.sizeOf205
  v64 := Tryz.zeroValue205 }
end Go.Proofs

/- The walk of term.sorted: the names of a set, sorted, in a new slice. -/
namespace Go.Hk
open Go.Proofs Go.RowKit Go.Maps Go.Sort

theorem keyedStr : Keyed Tryz.prog 9 := string_keyed Tryz.underlying9
theorem infoStr : (Tryz.prog.info? 9).map (fun i => (i.zero, i.size, i.bytes)) = some (some (.string ⟨#[]⟩), 1, 16) := by kernel_rfl

theorem sortStr (m : Nat) (blk off cap : Nat) (ss : List (List UInt8)) (W : World) (hH : Holds encStr W blk off ss.toArray) (hblk : blk < W.heap.size) (hsz : ss.length < 4611686018427387904) :
    CallsIn Fence.wide m Tryz.prog 90 #[.slice (some ⟨blk, off, none⟩) ss.length cap] W fun e w' => e = .returned (.tuple #[]) ∧ ∃ k os, w' = grow (putRow encStr (Sort.ahead W k) blk off (ss.mergeSort fun x y => decide (x ≤ y)).toArray) os :=
  callsIn_wide.2 (AnyM.slices_Sort_string Tryz.mSort blk off cap ss W hH hblk hsz)
theorem sortNone (m : Nat) (p : Option Addr) (cap : Nat) (W : World) : CallsIn Fence.wide m Tryz.prog 90 #[.slice p 0 cap] W fun e w' => e = .returned (.tuple #[]) ∧ w' = W :=
  callsIn_wide.2 (AnyM.slices_Sort_string_none Tryz.mSort p cap W)

set_option maxRecDepth 100000 in
set_option maxHeartbeats 1000000 in
theorem sorted_anyIn {H : Type} (b n : Nat) (D0 : DataW H) (w : World) (hown : w.ownsMap Tryz.prog 9 (plainElem Tryz.prog 4) b n D0) (hmax : Maps.size D0 ≤ maxLen) (hbytes : 16 * Maps.size D0 ≤ 140737488355328) :
    CallsIn Fence.wide 68 Tryz.prog 49 #[.map (some b)] w fun e w' => ∃ (v : Value) (ss : List (List UInt8)), e = .returned v ∧ ss.Perm (strKeys D0) ∧
      w'.ownsRow w.heap.size 9 1 v ss.length ((ss.mergeSort (fun x y => decide (x ≤ y))).map encStr) ∧ (v = .slice none 0 0 ↔ ss = []) ∧ Below w.heap.size w w' := by
  obtain ⟨i0, hi, hz0, hz1, hz2⟩ := info_parts infoStr
  have hbl := hown.lt
  have hfn : Fence.wide.fn 90 := trivial
  refine callsIn_of_wp Tryz.func49 rfl trivial ?_ rfl
  simp only [Tryz.ntmps49, List.size_toArray, List.length_cons, List.length_nil, Nat.reduceAdd, Nat.reduceSub, Array.replicate_succ, Array.replicate_zero, List.push_toArray, List.append_toArray, List.nil_append, List.cons_append]
  gi_wp2_with (first
    | (gi_at_range; refine wpListIn_range_own _ rfl _ 79 rfl 9 4 keyedStr Tryz.underlying79 _ b n _ rfl hown ?_; intro w0 hrg0 hg0 hs0)
    | gi_in)
  go_frame
  gi_loopw [3] (fun v wr => ∃ (left : Lit → Bool) (cnt : Nat) (ss : List (List UInt8)), wr.ranges Tryz.prog 9 (plainElem Tryz.prog 4) b w.heap.size n D0 left cnt ∧ ss.length + cnt ≤ Maps.size D0 ∧
      wr.ownsRow w.heap.size 9 1 v ss.length (ss.map encStr) ∧ (v = .slice none 0 0 ↔ ss = []) ∧ Collected D0 left ss ∧ Below w.heap.size w wr)
    (fun _ wr => wr.rangeLeft b w.heap.size)
  case atStart =>
    exact ⟨_, _, [], hrg0, by simp, World.ownsRow_nil _ _ _ _, by simp, Collected.start D0, (Below.refl _ _).grown hg0 (Nat.le_refl _) (fun j hj => by cases hj)⟩
  case round =>
    obtain ⟨left, cnt, ss, hrg, hcs, hrow, hnn, hC, hnx⟩ := hrel
    gi_wp2_with (first
      | (gi_at_next; refine wpListIn_next_ranges _ rfl _ rfl 9 keyedStr (plainElem Tryz.prog 4) encStr (fun v : Value => v) (fun key kl hk => by obtain ⟨x, hx, _⟩ := Maps.keyOf_str Tryz.underlying9 hk; exact ⟨x, hx⟩) (fun v y hv => ⟨v, rfl⟩) b w.heap.size n _ _ _ rfl hrg ?_ ?_)
      | gi_in)
    · intro hc0 hl0
      rcases hrow.2 with ⟨hnil, hz⟩ | ⟨g, cap, cur, hv, hbase, hb, h1, h2, h3, h4⟩
      · have hss : ss = [] := List.eq_nil_of_length_eq_zero hz
        subst hss
        subst hnil
        gi_wp2_with (gi_at_call 90; refine (sortNone _ none 0 _).mono ?_; rintro e w' ⟨rfl, rfl⟩)
        go_ret
        exact ⟨_, [], rfl, hC.perm hown keyedStr Tryz.underlying9 hl0, by simpa using hrow, by simp, hnx⟩
      · subst hv
        have hH : Holds encStr wr g 0 ss.toArray := holds_of_block hb (by simpa using h4)
        have hgl : g < wr.heap.size := (Array.getElem?_eq_some_iff.1 hb).1
        have hc := sortStr 67 g 0 cap ss wr hH hgl (by omega)
        gi_wp2_with (gi_at_call 90; refine hc.mono ?_; rintro e w' ⟨rfl, nn, os, rfl⟩)
        go_ret
        exact ⟨_, ss, rfl, hC.perm hown keyedStr Tryz.underlying9 hl0, ownsRow_sorted (by simp) hbase hb h1 h2 h3, hnn, hnx.grown (grownBy_sorted _) hnx.size (fun j hj => by cases hj; exact hbase)⟩
    · intro x c kl yd yp w2 cnt2 hkey hlk hv hat hrg2 hlt hg2 hs2 hen
      obtain ⟨x', ex, rfl, _⟩ := Maps.keyOf_str Tryz.underlying9 hkey
      obtain rfl : x = x' := encStr_inj ex
      have hrow2 := hrow.kept hg2 (Or.inr (row_ne_iter hrow hrg).symm)
      clear hs2
      gi_wp2_with (first
        | (gi_at_builtin; refine wpListIn_append_own _ rfl _ _ 29 rfl w.heap.size 9 i0 (.string ⟨#[]⟩) 1 16 Tryz.underlying29 hi hz0 hz1 hz2 rfl (by decide) _ _ _ rfl (hrow2.alloc _) ⟨w2.heap.size, 0, none⟩ 1 1 [encStr x] rfl rfl (cell_one_new _ _ _) (by simp [Value.oneCell', encStr]) (by unfold maxLen at *; omega) (by omega) (by have := hnx.size; have := hg2.size; simp; omega) ?_; intro v' w3 hown' hg3 hnil3; go_frame)
        | gi_in)
      have hrg3 := (hrg2.alloc _).kept hg3 (row_ne_low hrow2 hbl) (row_ne_iter hrow2 hrg2)
      go_roundw
      case rel =>
        refine ⟨_, cnt2, ss ++ [x], hrg3, by simp; omega, by simpa using hown', ⟨fun hv' => by have := (hnil3.1 hv').2; omega, fun h => by simp at h⟩, hC.step hlk hat, ?_⟩
        exact ((hnx.grown hg2 hnx.size (fun j hj => by cases hj; exact Nat.le_refl _)).alloc (by have := hnx.size; have := hg2.size; omega) _).grown hg3 (by have := hnx.size; have := hg2.size; simp; omega) (fun j hj => (hrow2.lt j hj).1)
      case measure => rw [hrg3.left_eq, hrg.left_eq]; exact hlt
end Go.Hk

/- Values, blocks and frames of the ghost machine, which computes closed programs; how they stand for those of a world. -/
namespace Go.Gx

inductive G where
  | undef
  | bool (b : Bool)
  | int (k : IntKind) (n : Int)
  | str (len n : Nat)
  | nilp
  | ptr (b o : Nat)
  | nils
  | sl (b o len cap : Nat) (ex : Option Nat)
  | nilm
  | map (b : Nat)
  | nili
  | if_ (t : TypeId) (g : G)
  | nilf
  | fn (f : FuncId) (fi ca : List G)
  | yield (b : Nat)
  | agg (l : List G)
  | tup (l : List G)

/-! ### Strings as numbers -/
def pk : List UInt8 → Nat
  | [] => 0
  | b :: r => b.toNat + 256 * pk r

theorem pk_lt : ∀ l : List UInt8, pk l < 256 ^ l.length
  | [] => by simp [pk]
  | b :: r => by
    have := pk_lt r
    have hb := b.toNat_lt
    simp only [pk, List.length_cons, Nat.pow_succ]
    omega

theorem pk_inj : ∀ {a b : List UInt8}, a.length = b.length → pk a = pk b → a = b
  | [], [], _, _ => rfl
  | x :: a, y :: b, hl, h => by
    have hx := x.toNat_lt
    have hy := y.toNat_lt
    simp only [pk] at h
    have h1 : x.toNat = y.toNat := by omega
    have h2 : pk a = pk b := by omega
    rw [UInt8.toNat_inj.1 h1, pk_inj (by simpa using hl) h2]
  | [], _ :: _, hl, _ => by simp at hl
  | _ :: _, [], hl, _ => by simp at hl

theorem pk_append : ∀ (a b : List UInt8), pk (a ++ b) = pk a + 256 ^ a.length * pk b
  | [], b => by simp [pk]
  | x :: a, b => by
    simp only [List.cons_append, pk, pk_append a b, List.length_cons, Nat.pow_succ]
    rw [Nat.mul_add, Nat.mul_comm (256 ^ a.length) 256, Nat.mul_assoc]
    omega

theorem pk_take_drop (l : List UInt8) (k : Nat) (h : k ≤ l.length) : pk (l.take k) = pk l % 256 ^ k ∧ pk (l.drop k) = pk l / 256 ^ k := by
  have e := pk_append (l.take k) (l.drop k)
  rw [List.take_append_drop, List.length_take, Nat.min_eq_left h] at e
  have hlt := pk_lt (l.take k)
  rw [List.length_take, Nat.min_eq_left h] at hlt
  rw [e]
  constructor
  · rw [Nat.add_mul_mod_self_left, Nat.mod_eq_of_lt hlt]
  · rw [Nat.add_mul_div_left _ _ (Nat.pow_pos (by omega)), Nat.div_eq_of_lt hlt, Nat.zero_add]

theorem pow_256 (k : Nat) : 256 ^ k = 2 ^ (8 * k) := by
  rw [Nat.pow_mul]

/-- The byte at a place. -/
def byteAt (n i : Nat) : Nat := Nat.mod (Nat.shiftRight n (Nat.mul 8 i)) 256

theorem byteAt_pk (l : List UInt8) (i : Nat) (h : i < l.length) : byteAt (pk l) i = (l[i]).toNat := by
  unfold byteAt
  have h1 := (pk_take_drop l i (by omega)).2
  have e : Nat.shiftRight (pk l) (Nat.mul 8 i) = pk l / 256 ^ i := by
    rw [pow_256]
    exact Nat.shiftRight_eq_div_pow _ _
  rw [e, ← h1, List.drop_eq_getElem_cons h]
  have := l[i].toNat_lt
  show (_ + 256 * _) % 256 = _
  omega

/-! ### Blocks and frames -/
abbrev S := Nat → G

def getS (t : Nat) (s : S) : G := s t
noncomputable def setS (t : Nat) (s : S) (v : G) : S := fun u => Bool.rec (motive := fun _ => G) (s u) v (Nat.beq u t)
def S0 : S := fun _ => .undef

theorem getS_setS (t u : Nat) (s : S) (v : G) : getS t (setS u s v) = if t = u then v else getS t s := by
  by_cases h : t = u
  · subst h
    rw [if_pos rfl]
    show Bool.rec (motive := fun _ => G) (s t) v (Nat.beq t t) = v
    rw [Nat.beq_refl]
  · rw [if_neg h]
    have : Nat.beq t u = false := by
      cases hb : Nat.beq t u with
      | false => rfl
      | true => exact absurd (Nat.eq_of_beq_eq_true hb) h
    show Bool.rec (motive := fun _ => G) (s t) v (Nat.beq t u) = s t
    rw [this]

theorem getS_S0 (t : Nat) : getS t S0 = .undef := rfl

end Go.Gx

/- The ghost machine's memory, and how it stands for a world's. -/
namespace Go.Gx

inductive GB where
  | dead
  | cells (l : List G)
  | map (ver : Nat) (kv : List (G × G))
  | siter (len n pos : Nat)
  | miter (m ver : Nat) (cur : Option (G × G)) (rem : List (G × G))
  | minone
  | loop (st : LoopState) (pend : Option Code) (fn : FuncId) (s : S) (n : Nat) (ps : Array Tmp) (asg body : Code) (db : Nat)
  | defd

inductive T where
  | e
  | n (v : GB) (l r : T)

noncomputable def T.get (t : T) : Nat → GB :=
  T.rec (motive := fun _ => Nat → GB) (fun _ => .dead)
    (fun v _ _ ihl ihr k => Nat.rec (motive := fun _ => GB) v (fun m _ => Nat.rec (motive := fun _ => GB) (ihl (Nat.div m 2)) (fun _ _ => ihr (Nat.div m 2)) (Nat.mod m 2)) k) t

noncomputable def T.setK {β : Type} (t : T) : Nat → GB → (T → β) → β → β :=
  T.rec (motive := fun _ => Nat → GB → (T → β) → β → β)
    (fun k x c f => Nat.rec (motive := fun _ => β) (c (.n x .e .e)) (fun _ _ => f) k)
    (fun v l r ihl ihr k x c f => Nat.rec (motive := fun _ => β) (c (.n x l r))
      (fun m _ => Nat.rec (motive := fun _ => β) (ihl (Nat.div m 2) x (fun l' => c (.n v l' r)) f) (fun _ _ => ihr (Nat.div m 2) x (fun r' => c (.n v l r')) f) (Nat.mod m 2)) k) t

noncomputable def T.set? (t : T) (k : Nat) (x : GB) : Option T := t.setK k x some none

theorem T.setK_eq {β : Type} : ∀ (t : T) (k : Nat) (x : GB) (c : T → β) (f : β), t.setK k x c f = match t.set? k x with | some t' => c t' | none => f
  | .e, 0, x, c, f => rfl
  | .e, k + 1, x, c, f => rfl
  | .n v l r, 0, x, c, f => rfl
  | .n v l r, k + 1, x, c, f => by
    have hl := fun c f => T.setK_eq (β := β) l (k / 2) x c f
    have hr := fun c f => T.setK_eq (β := β) r (k / 2) x c f
    have hl' := fun c f => T.setK_eq (β := Option T) l (k / 2) x c f
    have hr' := fun c f => T.setK_eq (β := Option T) r (k / 2) x c f
    have e1 : (T.n v l r).setK (k + 1) x c f = Nat.rec (motive := fun _ => β) (l.setK (k / 2) x (fun l' => c (.n v l' r)) f) (fun _ _ => r.setK (k / 2) x (fun r' => c (.n v l r')) f) (k % 2) := rfl
    have e2 : (T.n v l r).set? (k + 1) x = Nat.rec (motive := fun _ => Option T) (l.setK (k / 2) x (fun l' => some (.n v l' r)) none) (fun _ _ => r.setK (k / 2) x (fun r' => some (.n v l r')) none) (k % 2) := rfl
    rw [e1, e2]
    cases k % 2 with
    | zero =>
      show l.setK (k / 2) x (fun l' => c (.n v l' r)) f = match l.setK (k / 2) x (fun l' => some (T.n v l' r)) none with | some t' => c t' | none => f
      rw [hl, hl']
      cases l.set? (k / 2) x <;> rfl
    | succ n =>
      show r.setK (k / 2) x (fun r' => c (.n v l r')) f = match r.setK (k / 2) x (fun r' => some (T.n v l r')) none with | some t' => c t' | none => f
      rw [hr, hr']
      cases r.set? (k / 2) x <;> rfl

theorem T.get_set : ∀ {t t' : T} {k : Nat} {x : GB}, t.set? k x = some t' → ∀ j, t'.get j = if j = k then x else t.get j
  | .e, t', 0, x, h, j => by
    cases h
    cases j with
    | zero => rfl
    | succ j =>
      rw [if_neg (by simp)]
      show Nat.rec (motive := fun _ => GB) (T.e.get (j / 2)) (fun _ _ => T.e.get (j / 2)) (j % 2) = .dead
      cases j % 2 <;> rfl
  | .e, t', k + 1, x, h, j => by cases h
  | .n v l r, t', 0, x, h, j => by
    cases h
    cases j with
    | zero => rfl
    | succ j => rw [if_neg (by simp)]; rfl
  | .n v l r, t', k + 1, x, h, j => by
    have e2 : (T.n v l r).set? (k + 1) x = Nat.rec (motive := fun _ => Option T) (l.setK (k / 2) x (fun l' => some (.n v l' r)) none) (fun _ _ => r.setK (k / 2) x (fun r' => some (.n v l r')) none) (k % 2) := rfl
    rw [e2] at h
    have hj : ∀ (a b : T) (j : Nat), (T.n v a b).get (j + 1) = Nat.rec (motive := fun _ => GB) (a.get (j / 2)) (fun _ _ => b.get (j / 2)) (j % 2) := fun _ _ _ => rfl
    have hk2 : k % 2 = 0 ∨ k % 2 = 1 := by omega
    rcases hk2 with hk2 | hk2
    · rw [hk2] at h
      have h : l.setK (k / 2) x (fun l' => some (T.n v l' r)) none = some t' := h
      rw [T.setK_eq] at h
      cases hs : l.set? (k / 2) x with
      | none => rw [hs] at h; cases h
      | some l' =>
        rw [hs] at h
        cases h
        cases j with
        | zero => simp; rfl
        | succ j =>
          rw [hj, hj]
          have hj2 : j % 2 = 0 ∨ j % 2 = 1 := by omega
          rcases hj2 with hj2 | hj2
          · rw [hj2]
            show l'.get (j / 2) = if j + 1 = k + 1 then x else l.get (j / 2)
            rw [T.get_set hs]
            have : j / 2 = k / 2 ↔ j + 1 = k + 1 := by omega
            simp only [this]
          · rw [hj2]
            have : j + 1 ≠ k + 1 := by omega
            simp only [this, if_false]
            rfl
    · rw [hk2] at h
      have h : r.setK (k / 2) x (fun r' => some (T.n v l r')) none = some t' := h
      rw [T.setK_eq] at h
      cases hs : r.set? (k / 2) x with
      | none => rw [hs] at h; cases h
      | some r' =>
        rw [hs] at h
        cases h
        cases j with
        | zero => simp; rfl
        | succ j =>
          rw [hj, hj]
          have hj2 : j % 2 = 0 ∨ j % 2 = 1 := by omega
          rcases hj2 with hj2 | hj2
          · rw [hj2]
            have : j + 1 ≠ k + 1 := by omega
            simp only [this, if_false]
            rfl
          · rw [hj2]
            show r'.get (j / 2) = if j + 1 = k + 1 then x else r.get (j / 2)
            rw [T.get_set hs]
            have : j / 2 = k / 2 ↔ j + 1 = k + 1 := by omega
            simp only [this]

structure GH where
  size : Nat
  t : T

noncomputable def GH.get (h : GH) (b : Nat) : GB := h.t.get b

/-! ### What stands for what -/
/-- The world's block that a block of the ghost stands for, and how many cells it has. -/
abbrev Rho := Nat → Option (Nat × Nat)

def Rho.le (ρ ρ' : Rho) : Prop := ∀ b x, ρ b = some x → ρ' b = some x
theorem Rho.le_refl (ρ : Rho) : ρ.le ρ := fun _ _ h => h
theorem Rho.le_trans {a b c : Rho} (h : a.le b) (k : b.le c) : a.le c := fun i x hx => k i x (h i x hx)

inductive RepG (ρ : Rho) : Value → G → Prop where
  | undef (v : Value) : RepG ρ v .undef
  | bool (b : Bool) : RepG ρ (.bool b) (.bool b)
  | int (k : IntKind) (n : Int) : RepG ρ (.int k n) (.int k n)
  | str (s : ByteArray) (len n : Nat) (hl : s.size = len) (hn : pk s.data.toList = n) : RepG ρ (.string s) (.str len n)
  | nilp : RepG ρ (.pointer none) .nilp
  | ptr (b r z o : Nat) (h : ρ b = some (r, z)) : RepG ρ (.pointer (some ⟨r, o, none⟩)) (.ptr b o)
  | nils : RepG ρ (.slice none 0 0) .nils
  | sl (b r z o len cap cap' : Nat) (ex : Option Nat) (h : ρ b = some (r, z)) (hl : len ≤ cap) (hc : cap ≤ cap') (hm : cap' ≤ maxLen)
      (hx : match ex with | none => cap' = cap | some sz => o + cap' * sz = z) : RepG ρ (.slice (some ⟨r, o, none⟩) len cap') (.sl b o len cap ex)
  | sl0 (a : Addr) (b o : Nat) (ex : Option Nat) : RepG ρ (.slice (some a) 0 0) (.sl b o 0 0 ex)
  | nilm : RepG ρ (.map none) .nilm
  | map (b r z : Nat) (h : ρ b = some (r, z)) : RepG ρ (.map (some r)) (.map b)
  | nili : RepG ρ .nilIface .nili
  | if_ (t : TypeId) (v : Value) (g : G) (h : RepG ρ v g) : RepG ρ (.iface t v) (.if_ t g)
  | nilf : RepG ρ .nilFunc .nilf
  | fn (f : FuncId) (first cap : Array Value) (fi ca : List G) (hf : first.size = fi.length) (hc : cap.size = ca.length)
      (h1 : ∀ (i : Nat) (v : Value) (g : G), first[i]? = some v → fi[i]? = some g → RepG ρ v g) (h2 : ∀ (i : Nat) (v : Value) (g : G), cap[i]? = some v → ca[i]? = some g → RepG ρ v g) :
      RepG ρ (.func (.func f) first cap) (.fn f fi ca)
  | yield (b l z : Nat) (h : ρ b = some (l, z)) : RepG ρ (.func (.yield l) #[] #[]) (.yield b)
  | agg (cs : Array Value) (l : List G) (hl : cs.size = l.length) (h1 : ∀ c ∈ cs.toList, c.oneCell' = true) (h : ∀ (i : Nat) (v : Value) (g : G), cs[i]? = some v → l[i]? = some g → RepG ρ v g) : RepG ρ (.agg cs) (.agg l)
  | tup (cs : Array Value) (l : List G) (hl : cs.size = l.length) (h : ∀ (i : Nat) (v : Value) (g : G), cs[i]? = some v → l[i]? = some g → RepG ρ v g) : RepG ρ (.tuple cs) (.tup l)

theorem RepG.mapρ {ρ : Rho} {v : Value} {b : Nat} (h : RepG ρ v (.map b)) : ∃ r z, ρ b = some (r, z) := by cases h with | map _ r z h => exact ⟨r, z, h⟩

theorem RepG.mono {ρ ρ' : Rho} (hρ : ρ.le ρ') {v : Value} {g : G} (h : RepG ρ v g) : RepG ρ' v g := by
  induction h with
  | undef v => exact .undef v
  | bool b => exact .bool b
  | int k n => exact .int k n
  | str s len n hl hn => exact .str s len n hl hn
  | nilp => exact .nilp
  | ptr b r z o h => exact .ptr b r z o (hρ _ _ h)
  | nils => exact .nils
  | sl b r z o len cap cap' ex h hl hc hm hx => exact .sl b r z o len cap cap' ex (hρ _ _ h) hl hc hm hx
  | sl0 a b o ex => exact .sl0 a b o ex
  | nilm => exact .nilm
  | map b r z h => exact .map b r z (hρ _ _ h)
  | nili => exact .nili
  | if_ t v g _ ih => exact .if_ t v g ih
  | nilf => exact .nilf
  | fn f first cap fi ca hf hc _ _ ih1 ih2 => exact .fn f first cap fi ca hf hc ih1 ih2
  | yield b l z h => exact .yield b l z (hρ _ _ h)
  | agg cs l hl h1 _ ih => exact .agg cs l hl h1 ih
  | tup cs l hl _ ih => exact .tup cs l hl ih

/-- Values that take one cell. -/
def G.one : G → Bool
  | .agg _ | .tup _ | .undef => false
  | _ => true
theorem RepG.one {ρ : Rho} {v : Value} {g : G} (h : RepG ρ v g) (hx : g.one = true) : v.oneCell' = true := by
  cases h <;> first | rfl | (simp [G.one] at hx)

def RepGs (ρ : Rho) (vs : List Value) (gs : List G) : Prop := vs.length = gs.length ∧ ∀ (i : Nat) (v : Value) (g : G), vs[i]? = some v → gs[i]? = some g → RepG ρ v g

theorem RepGs.mono {ρ ρ' : Rho} (hρ : ρ.le ρ') {vs : List Value} {gs : List G} (h : RepGs ρ vs gs) : RepGs ρ' vs gs := ⟨h.1, fun i v g a b => (h.2 i v g a b).mono hρ⟩
theorem RepGs.nil {ρ : Rho} : RepGs ρ [] [] := ⟨rfl, fun i v g h => by simp at h⟩
theorem RepGs.mk {ρ : Rho} {v : Value} {vs : List Value} {g : G} {gs : List G} (h : RepG ρ v g) (hs : RepGs ρ vs gs) : RepGs ρ (v :: vs) (g :: gs) :=
  ⟨by simp [hs.1], fun i u y h1 h2 => by
    cases i with
    | zero => simp at h1 h2; subst h1; subst h2; exact h
    | succ i => exact hs.2 i u y (by simpa using h1) (by simpa using h2)⟩
theorem RepGs.cons {ρ : Rho} {v : Value} {vs : List Value} {g : G} {gs : List G} (h : RepGs ρ (v :: vs) (g :: gs)) : RepG ρ v g ∧ RepGs ρ vs gs :=
  ⟨h.2 0 v g rfl rfl, by simpa using h.1, fun i v g h1 h2 => h.2 (i + 1) v g (by simpa using h1) (by simpa using h2)⟩
theorem RepGs.append {ρ : Rho} : ∀ {vs us : List Value} {gs ys : List G}, RepGs ρ vs gs → RepGs ρ us ys → RepGs ρ (vs ++ us) (gs ++ ys)
  | [], _, [], _, _, k => k
  | [], _, _ :: _, _, h, _ => by simp [RepGs] at h
  | _ :: _, _, [], _, h, _ => by simp [RepGs] at h
  | v :: vs, us, g :: gs, ys, h, k => .mk h.cons.1 (RepGs.append h.cons.2 k)
theorem RepGs.take {ρ : Rho} {vs : List Value} {gs : List G} (h : RepGs ρ vs gs) (n : Nat) : RepGs ρ (vs.take n) (gs.take n) :=
  ⟨by simp [h.1], fun i v g a b => by
    rw [List.getElem?_take] at a b
    split at a
    · rw [if_pos (by assumption)] at b; exact h.2 i v g a b
    · cases a⟩
theorem RepGs.drop {ρ : Rho} {vs : List Value} {gs : List G} (h : RepGs ρ vs gs) (n : Nat) : RepGs ρ (vs.drop n) (gs.drop n) :=
  ⟨by simp [h.1], fun i v g a b => by
    rw [List.getElem?_drop] at a b; exact h.2 _ v g a b⟩

/-- The slots of a frame. -/
def SRep (ρ : Rho) (s : S) (tmps : Array Value) : Prop := tmps.size ≤ 256 ∧ ∀ t, RepG ρ (tmps.getD t Go.undef) (getS t s)

theorem SRep.mono {ρ ρ' : Rho} (hρ : ρ.le ρ') {s : S} {tmps : Array Value} (h : SRep ρ s tmps) : SRep ρ' s tmps := ⟨h.1, fun t => (h.2 t).mono hρ⟩

def loopKeep (r : Go.Loop) (st : LoopState) (pend : Option Code) (fn : FuncId) (ps : Array Tmp) (asg body : Code) : Prop :=
  r.state = st ∧ r.pending = pend ∧ r.fn = fn ∧ r.params = ps ∧ r.assign = asg ∧ r.body = body

/-- The entries of a map, in any order. -/
def KvRep (ρ : Rho) (es : List MapEntry) (kv : List (G × G)) : Prop :=
  ∃ l : List MapEntry, l.Perm es ∧ l.length = kv.length ∧ ∀ (i : Nat) (e : MapEntry) (p : G × G), l[i]? = some e → kv[i]? = some p → RepG ρ e.key p.1 ∧ RepG ρ e.val p.2

/-- What an iterator over a map has come to. -/
def CurRep (ρ : Rho) (es : List MapEntry) (seen : Array Nat) : Option (G × G) → Prop
  | none => True
  | some p => ∃ (e : MapEntry) (s0 : Array Nat), e ∈ es ∧ seen = s0.push e.born ∧ RepG ρ e.key p.1 ∧ RepG ρ e.val p.2

def GB.isDead : GB → Bool
  | .dead => true
  | _ => false

def BRep (ρ : Rho) (h : GH) (w : World) (r z : Nat) : GB → Prop
  | .dead => True
  | .cells l => ∃ vs t, w.heap[r]? = some (.cells vs t (0, 0)) ∧ vs.size = z ∧ l.length ≤ z ∧ RepGs ρ (vs.toList.take l.length) l ∧ ∀ v ∈ vs.toList.take l.length, v.oneCell' = true
  | .map _ kv => ∃ es clock, w.heap[r]? = some (.map es clock) ∧ KvRep ρ es.toList kv ∧ (kv.map (·.1)).Nodup ∧ kv.length ≤ maxLen ∧ (∀ e ∈ es.toList, e.born < clock) ∧ (es.toList.map (·.born)).Nodup
  | .siter len n pos => ∃ s : ByteArray, w.heap[r]? = some (.stringIter s pos) ∧ s.size = len ∧ pk s.data.toList = n
  | .miter m ver cur rem => ∃ rm zm since seen stepped, ρ m = some (rm, zm) ∧ w.heap[r]? = some (.mapIter (some rm) since seen stepped) ∧
      (∀ v kv, h.get m = .map v kv → ver ≤ v ∧ (v = ver → ∀ es clock, w.heap[rm]? = some (.map es clock) → since = clock ∧ stepped = clock ∧ KvRep ρ (es.toList.filter fun e => !seen.contains e.born) rem ∧ CurRep ρ es.toList seen cur))
  | .minone => ∃ a b c, w.heap[r]? = some (.mapIter none a b c)
  | .loop st pend fn s n ps asg body db => ∃ rl rd zd, w.heap[r]? = some (.loop rl) ∧ loopKeep rl st pend fn ps asg body ∧ SRep ρ s rl.tmps ∧ rl.tmps.size = n ∧ ρ db = some (rd, zd) ∧ rl.defers = rd
  | .defd => w.heap[r]? = some (.deferred (some []))

/-- What stays as it is: blocks of the world; names of the ghost that stand for nothing yet. -/
structure Bl where
  r : Nat → Prop
  p : Nat → Prop
instance : CoeFun Bl (fun _ => Nat → Prop) := ⟨Bl.r⟩

structure HRep (B : Bl) (ρ : Rho) (h : GH) (w : World) : Prop where
  blk : ∀ b r z, (h.get b).isDead = false → ρ b = some (r, z) → BRep ρ h w r z (h.get b)
  inj : ∀ b b' r z z', (h.get b).isDead = false → (h.get b').isDead = false → ρ b = some (r, z) → ρ b' = some (r, z') → b = b'
  lo : ∀ b r z, ρ b = some (r, z) → ¬ B r ∧ r < w.heap.size
  dom : ∀ b x, ρ b = some x → b < h.size
  top : ∀ r, B r → r < w.heap.size
  pl : ∀ b x, ρ b = some x → ¬ B.p b
  pt : ∀ b, B.p b → b < h.size

/-- What stays as it is: all blocks of B, and what lies outside of memory. -/
structure Kept (B : Bl) (w w' : World) : Prop where
  os : w'.os = w.os
  tape : w'.tape = w.tape
  output : w'.output = w.output
  size : w.heap.size ≤ w'.heap.size
  block : ∀ b, B b → w'.heap[b]? = w.heap[b]?

theorem Kept.refl (B : Bl) (w : World) : Kept B w w := ⟨rfl, rfl, rfl, Nat.le_refl _, fun _ _ => rfl⟩
theorem Kept.trans {B : Bl} {w x y : World} (h : Kept B w x) (k : Kept B x y) : Kept B w y :=
  ⟨k.os.trans h.os, k.tape.trans h.tape, k.output.trans h.output, Nat.le_trans h.size k.size, fun b hb => (k.block b hb).trans (h.block b hb)⟩
theorem Kept.drew (B : Bl) (w : World) : Kept B w { w with drawn := w.drawn + 1 } := ⟨rfl, rfl, rfl, Nat.le_refl _, fun _ _ => rfl⟩

end Go.Gx

/- The ghost machine's operations that change nothing. -/
namespace Go.Gx
open Go.Hk (TT TTok TyI Sh lk TyOk ShOk)

/-! ### Lists, for the kernel -/
noncomputable def gnth (l : List G) : Nat → Option G :=
  List.rec (motive := fun _ => Nat → Option G) (fun _ => none) (fun x _ ih n => Nat.rec (motive := fun _ => Option G) (some x) (fun m _ => ih m) n) l
theorem gnth_eq : ∀ (l : List G) (n : Nat), gnth l n = l[n]?
  | [], n => by simp [gnth]
  | x :: l, 0 => by
    show some x = _
    simp
  | x :: l, n + 1 => by
    show gnth l n = _
    rw [gnth_eq l n]; simp

noncomputable def gdrop (l : List G) : Nat → Option (List G) :=
  List.rec (motive := fun _ => Nat → Option (List G)) (fun o => Nat.rec (motive := fun _ => Option (List G)) (some []) (fun _ _ => none) o)
    (fun x r ih o => Nat.rec (motive := fun _ => Option (List G)) (some (x :: r)) (fun m _ => ih m) o) l
theorem gdrop_eq : ∀ (l : List G) (o : Nat), gdrop l o = if o ≤ l.length then some (l.drop o) else none
  | [], 0 => rfl
  | [], o + 1 => by simp [gdrop]
  | x :: l, 0 => rfl
  | x :: l, o + 1 => by
    show gdrop l o = _
    rw [gdrop_eq l o]; simp

noncomputable def gtake (n : Nat) : List G → Option (List G) :=
  Nat.rec (motive := fun _ => List G → Option (List G)) (fun _ => some [])
    (fun _ ih l => List.rec (motive := fun _ => Option (List G)) none (fun x r _ => Option.rec (motive := fun _ => Option (List G)) none (fun t => some (x :: t)) (ih r)) l) n
theorem gtake_eq : ∀ (n : Nat) (l : List G), gtake n l = if n ≤ l.length then some (l.take n) else none
  | 0, l => by
    show some [] = _
    simp
  | n + 1, [] => by simp [gtake]
  | n + 1, x :: l => by
    show Option.rec (motive := fun _ => Option (List G)) none (fun t => some (x :: t)) (gtake n l) = _
    rw [gtake_eq n l]
    by_cases h : n ≤ l.length <;> simp [h]

noncomputable def gsub (l : List G) (o n : Nat) : Option (List G) := Option.rec (motive := fun _ => Option (List G)) none (gtake n) (gdrop l o)
theorem gsub_eq {l r : List G} {o n : Nat} (h : gsub l o n = some r) : r = (l.drop o).take n ∧ o + n ≤ l.length := by
  unfold gsub at h
  rw [gdrop_eq] at h
  by_cases ho : o ≤ l.length
  · rw [if_pos ho] at h
    have h : gtake n (l.drop o) = some r := h
    rw [gtake_eq] at h
    split at h
    · rename_i hn
      cases h
      simp at hn
      exact ⟨rfl, by omega⟩
    · cases h
  · rw [if_neg ho] at h; cases h

/-- A list with other elements from a place on. -/
noncomputable def gover (ys : List G) : List G → Option (List G) :=
  List.rec (motive := fun _ => List G → Option (List G)) (fun l => some l)
    (fun y _ ih l => List.rec (motive := fun _ => Option (List G)) none (fun _ r _ => Option.rec (motive := fun _ => Option (List G)) none (fun t => some (y :: t)) (ih r)) l) ys
noncomputable def gsplice (l : List G) : Nat → List G → Option (List G) :=
  List.rec (motive := fun _ => Nat → List G → Option (List G)) (fun o ys => Nat.rec (motive := fun _ => Option (List G)) (gover ys []) (fun _ _ => none) o)
    (fun x r ih o ys => Nat.rec (motive := fun _ => Option (List G)) (gover ys (x :: r)) (fun m _ => Option.rec (motive := fun _ => Option (List G)) none (fun t => some (x :: t)) (ih m ys)) o) l
theorem gover_eq : ∀ (ys l : List G), gover ys l = if ys.length ≤ l.length then some (ys ++ l.drop ys.length) else none
  | [], l => by simp [gover]
  | y :: ys, [] => by simp [gover]
  | y :: ys, x :: l => by
    show Option.rec (motive := fun _ => Option (List G)) none (fun t => some (y :: t)) (gover ys l) = _
    rw [gover_eq ys l]
    by_cases h : ys.length ≤ l.length <;> simp [h]
theorem gsplice_eq : ∀ {l : List G} {o : Nat} {ys r : List G}, gsplice l o ys = some r → r = l.take o ++ ys ++ l.drop (o + ys.length) ∧ o + ys.length ≤ l.length
  | [], 0, ys, r, h => by
    have h : gover ys [] = some r := h
    rw [gover_eq] at h
    split at h
    · rename_i hl; cases h; simp at hl; subst hl; simp
    · cases h
  | [], o + 1, ys, r, h => by cases h
  | x :: l, 0, ys, r, h => by
    have h : gover ys (x :: l) = some r := h
    rw [gover_eq] at h
    split at h
    · rename_i hl; cases h; simp; simpa using hl
    · cases h
  | x :: l, o + 1, ys, r, h => by
    have h : Option.rec (motive := fun _ => Option (List G)) none (fun t => some (x :: t)) (gsplice l o ys) = some r := h
    cases hs : gsplice l o ys with
    | none => rw [hs] at h; cases h
    | some t =>
      rw [hs] at h; cases h
      obtain ⟨h1, h2⟩ := gsplice_eq hs
      refine ⟨?_, by simp; omega⟩
      rw [h1, show o + 1 + ys.length = (o + ys.length) + 1 by omega]
      simp

/-! ### Operands -/
def ofValue : Value → Option G
  | .bool b => some (.bool b)
  | .int k n => some (.int k n)
  | .string s => some (.str s.size (pk s.data.toList))
  | .pointer none => some .nilp
  | .slice none 0 0 => some .nils
  | .map none => some .nilm
  | .nilFunc => some .nilf
  | .nilIface => some .nili
  | _ => none

def evA (x : Operand) (s : S) : G := match x with
  | .tmp t => getS t s
  | .const v => match ofValue v with
    | some g => g
    | none => .undef
  | .func f => .fn f [] []
  | .global _ => .undef

theorem ofValue_rep {ρ : Rho} {v : Value} {g : G} (h : ofValue v = some g) : RepG ρ v g := by
  unfold ofValue at h
  split at h <;> first
    | (cases h; exact .bool _)
    | (cases h; exact .int _ _)
    | (cases h; exact .str _ _ _ rfl rfl)
    | (cases h; exact .nilp)
    | (cases h; exact .nils)
    | (cases h; exact .nilm)
    | (cases h; exact .nilf)
    | (cases h; exact .nili)
    | cases h

theorem evA_rep {ρ : Rho} {s : S} {a : Act} (h : SRep ρ s a.tmps) (x : Operand) : RepG ρ (a.eval x) (evA x s) := by
  cases x with
  | tmp t =>
    exact h.2 t
  | const v =>
    show RepG ρ v (match ofValue v with | some g => g | none => .undef)
    cases hv : ofValue v with
    | none => exact .undef _
    | some g => exact ofValue_rep hv
  | func f => exact .fn f #[] #[] [] [] rfl rfl (fun i v g h => by simp at h) (fun i v g h => by simp at h)
  | global g => exact .undef _

end Go.Gx

/- The ghost machine's memory under writes and new blocks. -/
namespace Go.Gx
open Go.Hk (TT TTok TyI Sh lk TyOk ShOk)

theorem getD_set {tmps : Array Value} {d t : Nat} {v : Value} : (tmps.setIfInBounds d v).getD t Go.undef = if d = t ∧ d < tmps.size then v else tmps.getD t Go.undef := by
  simp only [Array.getD_eq_getD_getElem?]
  by_cases h : d = t
  · subst h
    by_cases hd : d < tmps.size
    · simp [hd]
    · simp [hd]
  · rw [Array.getElem?_setIfInBounds_ne h, if_neg (fun hh => h hh.1)]

theorem SRep.set {ρ : Rho} {s : S} {tmps : Array Value} (h : SRep ρ s tmps) {d : Nat} {v : Value} {g : G} (hd : d < tmps.size) (hv : RepG ρ v g) : SRep ρ (setS d s g) (tmps.setIfInBounds d v) := by
  refine ⟨by simpa using h.1, fun t => ?_⟩
  rw [getD_set, getS_setS t d s g]
  by_cases hdt : d = t
  · subst hdt; simpa [hd] using hv
  · rw [if_neg (fun hh => hdt hh.1), if_neg (fun hh => hdt hh.symm)]
    exact h.2 t

theorem SRep.put {ρ : Rho} {s : S} {a : Act} (h : SRep ρ s a.tmps) {d : Nat} {v : Value} {g : G} (hd : d < a.tmps.size) (hv : RepG ρ v g) : SRep ρ (setS d s g) (a.put (some d) v).tmps := h.set hd hv

/-! ### Memory -/
theorem GB.isDead_iff {g : GB} : g.isDead = true ↔ g = .dead := by cases g <;> simp [GB.isDead]

theorem KvRep.mono {ρ ρ' : Rho} (hρ : ρ.le ρ') {es : List MapEntry} {kv : List (G × G)} (h : KvRep ρ es kv) : KvRep ρ' es kv := by
  obtain ⟨l, h1, h2, h3⟩ := h
  exact ⟨l, h1, h2, fun i e p a b => ⟨(h3 i e p a b).1.mono hρ, (h3 i e p a b).2.mono hρ⟩⟩

theorem CurRep.mono {ρ ρ' : Rho} (hρ : ρ.le ρ') {es : List MapEntry} {seen : Array Nat} {cur : Option (G × G)} (h : CurRep ρ es seen cur) : CurRep ρ' es seen cur := by
  cases cur with
  | none => trivial
  | some p =>
    obtain ⟨e, s0, h1, h2, h3, h4⟩ := h
    exact ⟨e, s0, h1, h2, h3.mono hρ, h4.mono hρ⟩

/-- A block is as it was, in a later world. -/
theorem BRep.frame {ρ ρ' : Rho} {h h' : GH} {w w' : World} {r z : Nat} {g : GB} (hr : BRep ρ h w r z g) (hρ : ρ.le ρ') (hw : w'.heap[r]? = w.heap[r]?)
    (hm : ∀ m ver cur rem v kv rm zm, g = .miter m ver cur rem → ρ m = some (rm, zm) → h'.get m = .map v kv → (∃ kv0, h.get m = .map v kv0 ∧ w'.heap[rm]? = w.heap[rm]?) ∨ (∃ v0 kv0, h.get m = .map v0 kv0 ∧ v0 < v)) : BRep ρ' h' w' r z g := by
  cases g with
  | dead => trivial
  | cells l => obtain ⟨vs, t, h1, h2, h3, h4, h5⟩ := hr; exact ⟨vs, t, hw.trans h1, h2, h3, h4.mono hρ, h5⟩
  | map ver kv => obtain ⟨es, clock, h1, h2, h3⟩ := hr; exact ⟨es, clock, hw.trans h1, h2.mono hρ, h3⟩
  | siter len n pos => obtain ⟨s, h1, h2⟩ := hr; exact ⟨s, hw.trans h1, h2⟩
  | miter m ver cur rem =>
    obtain ⟨rm, zm, since, seen, stepped, h1, h2, h3⟩ := hr
    refine ⟨rm, zm, since, seen, stepped, hρ _ _ h1, hw.trans h2, fun v kv hk => ?_⟩
    rcases hm m ver cur rem v kv rm zm rfl h1 hk with ⟨kv0, q1, q2⟩ | ⟨v0, kv0, q1, q2⟩
    · obtain ⟨q3, q4⟩ := h3 v kv0 q1
      refine ⟨q3, fun e es clock he => ?_⟩
      obtain ⟨q5, q6, q7, q8⟩ := q4 e es clock (by rw [← q2]; exact he)
      exact ⟨q5, q6, q7.mono hρ, q8.mono hρ⟩
    · obtain ⟨q3, _⟩ := h3 v0 kv0 q1
      exact ⟨by omega, fun e => by omega⟩
  | minone => obtain ⟨a, b, c, h1⟩ := hr; exact ⟨a, b, c, hw.trans h1⟩
  | loop st pend fn s n ps asg body db =>
    obtain ⟨rl, rd, zd, h1, h2, h3, h4, h5, h6⟩ := hr
    exact ⟨rl, rd, zd, hw.trans h1, h2, h3.mono hρ, h4, hρ _ _ h5, h6⟩
  | defd => exact hw.trans hr

section
variable {B : Bl} {ρ : Rho} {h h' : GH} {w : World}

theorem HRep.atρ (hr : HRep B ρ h w) {b r z : Nat} {g : GB} (hg : h.get b = g) (hd : g.isDead = false) (hρ : ρ b = some (r, z)) : BRep ρ h w r z g := by
  subst hg; exact hr.blk b r z hd hρ

noncomputable def GH.set? (h : GH) (b : Nat) (x : GB) : Option GH := match h.t.set? b x with
  | some t => some ⟨h.size, t⟩
  | none => none

theorem GH.get_set {x : GB} {b : Nat} (hs : h.set? b x = some h') : h'.size = h.size ∧ ∀ j, h'.get j = if j = b then x else h.get j := by
  unfold GH.set? at hs
  split at hs
  · rename_i t ht
    cases hs
    exact ⟨rfl, T.get_set ht⟩
  · cases hs

/-- A live block is written: the world's block holds another object. -/
theorem HRep.write (hr : HRep B ρ h w) {b r z : Nat} {x : GB} {o : Obj} (hs : h.set? b x = some h') (hlive : (h.get b).isDead = false) (hρ : ρ b = some (r, z))
    (hx : BRep ρ h' { w with heap := w.heap.setIfInBounds r o } r z x) (hver : ∀ v kv, x = .map v kv → ∃ v0 kv0, h.get b = .map v0 kv0 ∧ v0 < v) :
    HRep B ρ h' { w with heap := w.heap.setIfInBounds r o } := by
  obtain ⟨hsz, hget⟩ := GH.get_set hs
  have hrlt := (hr.lo b r z hρ).2
  refine { blk := fun j rj zj hj hρj => ?_, inj := fun i j ri zi zj hi hj hρi hρj => ?_, lo := fun j r' z' hj => by simpa using hr.lo j r' z' hj, dom := fun j x hj => by rw [hsz]; exact hr.dom j x hj, top := fun r hb => by simpa using hr.top r hb, pl := hr.pl, pt := fun b hb => by rw [hsz]; exact hr.pt b hb }
  · rw [hget] at hj ⊢
    by_cases hjb : j = b
    · subst hjb
      rw [if_pos rfl]
      rw [hρ] at hρj; cases hρj
      exact hx
    · rw [if_neg hjb] at hj ⊢
      have h2 := hr.blk j rj zj hj hρj
      have hne : rj ≠ r := fun e => by subst e; exact hjb (hr.inj j b rj zj z hj hlive hρj hρ)
      refine h2.frame (Rho.le_refl ρ) (by simp [Array.getElem?_setIfInBounds_ne (Ne.symm hne)]) ?_
      intro m ver cur rem v kv rm zm hg hm hk
      rw [hget] at hk
      by_cases hmb : m = b
      · subst hmb
        rw [if_pos rfl] at hk
        exact .inr (hver v kv hk)
      · rw [if_neg hmb] at hk
        have hmlive : (h.get m).isDead = false := by rw [hk]; rfl
        have hne2 : rm ≠ r := fun e => by subst e; exact hmb (hr.inj m b rm zm z hmlive hlive hm hρ)
        exact .inl ⟨kv, hk, by simp [Array.getElem?_setIfInBounds_ne (Ne.symm hne2)]⟩
  · rw [hget] at hi hj
    have hi' : (h.get i).isDead = false := by
      by_cases e : i = b
      · rw [e]; exact hlive
      · rwa [if_neg e] at hi
    have hj' : (h.get j).isDead = false := by
      by_cases e : j = b
      · rw [e]; exact hlive
      · rwa [if_neg e] at hj
    exact hr.inj i j ri zi zj hi' hj' hρi hρj

/-- The same where the new block is no map. -/
theorem HRep.write1 (hr : HRep B ρ h w) {b r z : Nat} {x : GB} {o : Obj} (hs : h.set? b x = some h') (hlive : (h.get b).isDead = false) (hρ : ρ b = some (r, z))
    (hx : BRep ρ h' { w with heap := w.heap.setIfInBounds r o } r z x) (hn : ∀ ver kv, x ≠ .map ver kv) : HRep B ρ h' { w with heap := w.heap.setIfInBounds r o } :=
  hr.write hs hlive hρ hx (fun v kv hx => absurd hx (hn v kv))

theorem Kept.write {r : Nat} {o : Obj} (hr : ¬ B r) : Kept B w { w with heap := w.heap.setIfInBounds r o } :=
  ⟨rfl, rfl, rfl, by simp, fun b hb => by simp [Array.getElem?_setIfInBounds_ne (show r ≠ b from fun e => hr (e ▸ hb))]⟩

noncomputable def GH.push? (h : GH) (x : GB) : Option GH := match h.t.set? h.size x with
  | some t => some ⟨h.size + 1, t⟩
  | none => none

theorem GH.get_push {x : GB} (hs : h.push? x = some h') : h'.size = h.size + 1 ∧ ∀ j, h'.get j = if j = h.size then x else h.get j := by
  unfold GH.push? at hs
  split at hs
  · rename_i t ht
    cases hs
    exact ⟨rfl, T.get_set ht⟩
  · cases hs

def Rho.add (ρ : Rho) (b : Nat) (x : Nat × Nat) : Rho := fun i => if i = b then some x else ρ i

theorem HRep.fresh (hr : HRep B ρ h w) : ρ h.size = none := by
  cases hx : ρ h.size with
  | none => rfl
  | some x => have := hr.dom _ _ hx; omega

theorem HRep.le_add (hr : HRep B ρ h w) (x : Nat × Nat) : ρ.le (ρ.add h.size x) := by
  intro i y hy
  unfold Rho.add
  rw [if_neg (fun e => by rw [e, hr.fresh] at hy; cases hy)]
  exact hy

/-- A new block. -/
theorem HRep.push (hr : HRep B ρ h w) {x : GB} {o : Obj} {z : Nat} (hs : h.push? x = some h')
    (hx : BRep (ρ.add h.size (w.heap.size, z)) h' { w with heap := w.heap.push o } w.heap.size z x) :
    HRep B (ρ.add h.size (w.heap.size, z)) h' { w with heap := w.heap.push o } := by
  obtain ⟨hsz, hget⟩ := GH.get_push hs
  have hle := hr.le_add (w.heap.size, z)
  have hold : ∀ j r' z', j ≠ h.size → ρ.add h.size (w.heap.size, z) j = some (r', z') → ρ j = some (r', z') := fun j r' z' hj hh => by
    unfold Rho.add at hh; rwa [if_neg hj] at hh
  refine { blk := fun j rj zj hj hρj => ?_, inj := fun i j ri zi zj hi hj hρi hρj => ?_, lo := fun j r' z' hj => ?_, dom := fun j x hj => ?_, top := fun r hb => by have := hr.top r hb; simp; omega, pl := fun j x hj => ?_, pt := fun b hb => by have := hr.pt b hb; omega }
  · rw [hget] at hj ⊢
    by_cases hjb : j = h.size
    · subst hjb
      rw [if_pos rfl]
      unfold Rho.add at hρj; rw [if_pos rfl] at hρj; cases hρj
      exact hx
    · rw [if_neg hjb] at hj ⊢
      have h1 := hold _ _ _ hjb hρj
      have h2 := hr.blk j rj zj hj h1
      have hlt := (hr.lo _ _ _ h1).2
      refine h2.frame hle (by simp [Array.getElem?_push, Nat.ne_of_lt hlt]) ?_
      intro m ver cur rem v kv rm zm hg hm hk
      rw [hget] at hk
      have hmne : m ≠ h.size := fun e => by rw [e, hr.fresh] at hm; cases hm
      rw [if_neg hmne] at hk
      have hlt2 := (hr.lo _ _ _ hm).2
      exact .inl ⟨kv, hk, by simp [Array.getElem?_push, Nat.ne_of_lt hlt2]⟩
  · rw [hget] at hi hj
    by_cases hie : i = h.size
    · by_cases hje : j = h.size
      · rw [hie, hje]
      · have := (hr.lo _ _ _ (hold _ _ _ hje hρj)).2
        unfold Rho.add at hρi; rw [if_pos hie] at hρi; cases hρi; omega
    · by_cases hje : j = h.size
      · have := (hr.lo _ _ _ (hold _ _ _ hie hρi)).2
        unfold Rho.add at hρj; rw [if_pos hje] at hρj; cases hρj; omega
      · rw [if_neg hie] at hi; rw [if_neg hje] at hj
        exact hr.inj i j ri zi zj hi hj (hold _ _ _ hie hρi) (hold _ _ _ hje hρj)
  · by_cases hje : j = h.size
    · unfold Rho.add at hj; rw [if_pos hje] at hj; cases hj
      exact ⟨fun hb => absurd (hr.top _ hb) (Nat.lt_irrefl _), by simp⟩
    · have := hr.lo _ _ _ (hold _ _ _ hje hj)
      exact ⟨this.1, by simp; omega⟩
  · by_cases hje : j = h.size
    · omega
    · cases hx : x with
      | mk r' z' => rw [hx] at hj; have := hr.dom _ _ (hold _ _ _ hje hj); omega
  · by_cases hje : j = h.size
    · exact fun hb => absurd (hr.pt _ hb) (by omega)
    · cases hx : x with
      | mk r' z' => rw [hx] at hj; exact hr.pl _ _ (hold _ _ _ hje hj)

theorem Kept.push {o : Obj} (hB : ∀ r, B r → r < w.heap.size) : Kept B w { w with heap := w.heap.push o } :=
  ⟨rfl, rfl, rfl, by simp, fun b hb => by
    have : b ≠ w.heap.size := Nat.ne_of_lt (hB b hb)
    simp [Array.getElem?_push, this]⟩

theorem HRep.drew (hr : HRep B ρ h w) : HRep B ρ h { w with drawn := w.drawn + 1 } :=
  { blk := fun b r z hb h1 => (hr.blk b r z hb h1).frame (Rho.le_refl ρ) rfl fun _ _ _ _ _ kv _ _ _ _ hk => .inl ⟨kv, hk, rfl⟩,
    inj := hr.inj, lo := hr.lo, dom := hr.dom, top := hr.top, pl := hr.pl, pt := hr.pt }

end
end Go.Gx

/- The ghost machine's operations that change nothing: what they yield. -/
namespace Go.Gx
open Go.Hk (TT TTok TyI Sh lk TyOk ShOk nth nth_eq)

def wrapF (k : IntKind) (n : Int) : Int := match k, n with
  | .i64, .ofNat m => match Nat.ble m 9223372036854775807 with
    | true => .ofNat m
    | false => IntKind.wrap .i64 (.ofNat m)
  | .i64, .negSucc m => match Nat.ble m 9223372036854775807 with
    | true => .negSucc m
    | false => IntKind.wrap .i64 (.negSucc m)
  | k, n => k.wrap n

theorem wrap_same (n : Int) (h1 : -9223372036854775808 ≤ n) (h2 : n ≤ 9223372036854775807) : IntKind.wrap .i64 n = n := by
  simp only [IntKind.wrap, IntKind.bits, IntKind.signed]
  simp
  omega

theorem wrapF_eq (k : IntKind) (n : Int) : wrapF k n = k.wrap n := by
  unfold wrapF
  split
  · rename_i m
    split
    · rename_i h
      rw [Nat.ble_eq] at h
      exact (wrap_same _ (by have : Int.ofNat m = (m : Int) := rfl; omega) (by have : Int.ofNat m = (m : Int) := rfl; omega)).symm
    · rfl
  · rename_i m
    split
    · rename_i h
      rw [Nat.ble_eq] at h
      exact (wrap_same _ (by omega) (by omega)).symm
    · rfl
  · rfl

def intEq (a b : Int) : Bool := match a, b with
  | .ofNat x, .ofNat y => Nat.beq x y
  | .negSucc x, .negSucc y => Nat.beq x y
  | _, _ => false
theorem intEq_eq (a b : Int) : intEq a b = (a == b) := by
  rw [Bool.eq_iff_iff]
  cases a <;> cases b <;> simp [intEq]
  all_goals omega
def intLe (a b : Int) : Bool := match a, b with
  | .ofNat x, .ofNat y => Nat.ble x y
  | .negSucc x, .negSucc y => Nat.ble y x
  | .negSucc _, .ofNat _ => true
  | .ofNat _, .negSucc _ => false
theorem intLe_eq (a b : Int) : intLe a b = decide (a ≤ b) := by
  rw [Bool.eq_iff_iff]
  cases a <;> cases b <;> simp [intLe] <;> omega

def kEq (a b : IntKind) : Bool := decide (a = b)

def ibin (op : BinOp) (k : IntKind) (a b : Int) : Option G := match op with
  | .add => some (.int k (wrapF k (a + b)))
  | .sub => some (.int k (wrapF k (a - b)))
  | .mul => some (.int k (wrapF k (a * b)))
  | .quo => match intEq b 0 with
    | true => none
    | false => some (.int k (wrapF k (a.tdiv b)))
  | .rem => match intEq b 0 with
    | true => none
    | false => some (.int k (a.tmod b))
  | .eql => some (.bool (intEq a b))
  | .neq => some (.bool (!intEq a b))
  | .lss => some (.bool (!intLe b a))
  | .leq => some (.bool (intLe a b))
  | .gtr => some (.bool (!intLe a b))
  | .geq => some (.bool (intLe b a))
  | _ => none

def sbin (op : BinOp) (la a lb b : Nat) : Option G := match op with
  | .add => match Nat.ble (Nat.add la lb) 9223372036854775807 with
    | true => some (.str (Nat.add la lb) (Nat.add a (Nat.mul (Nat.pow 256 la) b)))
    | false => none
  | .eql => some (.bool (Nat.beq la lb && Nat.beq a b))
  | .neq => some (.bool (!(Nat.beq la lb && Nat.beq a b)))
  | _ => none

/-- Where a comparison with nil is made: what it says. -/
def nilEq (x y : G) : Option Bool := match x, y with
  | .ptr .., .nilp => some false
  | .nilp, .ptr .. => some false
  | .nilp, .nilp => some true
  | .if_ .., .nili => some false
  | .nili, .if_ .. => some false
  | .sl .., .nils => some false
  | .nils, .nils => some true
  | _, _ => none

def nilSh (x : G) (sh : Sh) : Bool := match x, sh with
  | .ptr .., .ptr _ => true
  | .nilp, .ptr _ => true
  | .if_ .., .iface => true
  | .nili, .iface => true
  | .sl .., .sl _ => true
  | .nils, .sl _ => true
  | _, _ => false

def evNil (tt : TT) (op : BinOp) (t : TypeId) (x y : G) : Option G := match nilEq x y with
  | some b => match lk tt t with
    | some ti => match nilSh x ti.sh with
      | true => match op with
        | .eql => some (.bool b)
        | .neq => some (.bool (!b))
        | _ => none
      | false => none
    | none => none
  | none => none

def evBin (tt : TT) (op : BinOp) (t : TypeId) (yo : Operand) (x y : G) : Option G := match x with
  | .int k a => match y with
    | .int k' b => match kEq k k' with
      | true => ibin op k a b
      | false => none
    | _ => none
  | .str la a => match y with
    | .str lb b => sbin op la a lb b
    | _ => none
  | .bool a => match y with
    | .bool b => match lk tt t with
      | some { sh := .bool, .. } => match op with
        | .eql => some (.bool (a == b))
        | .neq => some (.bool (!(a == b)))
        | _ => none
      | _ => none
    | _ => none
  | .nili => match y with
    | .nili => match lk tt t, yo with
      | some { sh := .iface, .. }, .const _ => match op with
        | .eql => some (.bool true)
        | .neq => some (.bool false)
        | _ => none
      | _, _ => none
    | y => evNil tt op t .nili y
  | x => evNil tt op t x y

section
variable {P : Program} {w : World} {tt : TT} {ρ : Rho}

theorem RepG.intInv {v : Value} {k : IntKind} {n : Int} (h : RepG ρ v (.int k n)) : v = .int k n := by cases h; rfl
theorem RepG.boolInv {v : Value} {b : Bool} (h : RepG ρ v (.bool b)) : v = .bool b := by cases h; rfl
theorem RepG.strInv {v : Value} {l n : Nat} (h : RepG ρ v (.str l n)) : ∃ s : ByteArray, v = .string s ∧ s.size = l ∧ pk s.data.toList = n := by
  cases h with | str s _ _ h1 h2 => exact ⟨s, rfl, h1, h2⟩

theorem size_length (s : ByteArray) : s.data.toList.length = s.size := by simp

theorem str_eq {s s' : ByteArray} : (Nat.beq s.size s'.size && Nat.beq (pk s.data.toList) (pk s'.data.toList)) = (s.data.toList == s'.data.toList) := by
  rw [Bool.eq_iff_iff]
  simp only [Bool.and_eq_true, Nat.beq_eq, beq_iff_eq]
  constructor
  · rintro ⟨h1, h2⟩
    exact pk_inj (by rw [size_length, size_length, h1]) h2
  · intro h
    exact ⟨by rw [← size_length, ← size_length, h], by rw [h]⟩

theorem bool_step {op : BinOp} {t : TypeId} {xo yo : Operand} {x y r : Value} (h1 : ∀ cs, x ≠ .agg cs) (h2 : x ≠ .nilIface) (h : (binOp op t x y).run P w = .ok r w) :
    (do eqGuard op t xo yo x y; binOp op t x y : Sem Value).run P w = .ok r w := by
  simp only [Sem.run_bind, Hk.eqGuard_ok op t xo yo x y h1 h2, Result.andThen_ok, h]

theorem ibin_ok {op : BinOp} {k : IntKind} {a b : Int} {g : G} (t : TypeId) (xo yo : Operand) (h : ibin op k a b = some g) :
    ∃ v, (do eqGuard op t xo yo (.int k a) (.int k b); binOp op t (.int k a) (.int k b) : Sem Value).run P w = .ok v w ∧ RepG ρ v g := by
  have hle : ∀ x y : Int, (!decide (x ≤ y)) = decide (y < x) := fun x y => by rw [Bool.eq_iff_iff]; simp
  have fin : ∀ (v : Value), (binOp op t (.int k a) (.int k b)).run P w = .ok v w → RepG ρ v g →
      ∃ v, (do eqGuard op t xo yo (.int k a) (.int k b); binOp op t (.int k a) (.int k b) : Sem Value).run P w = .ok v w ∧ RepG ρ v g :=
    fun v h1 h2 => ⟨v, bool_step (by simp) (by simp) h1, h2⟩
  cases op <;> simp only [ibin, Option.some.injEq, reduceCtorEq] at h
  case quo =>
    split at h <;> simp only [Option.some.injEq, reduceCtorEq] at h
    rename_i hz
    rw [intEq_eq] at hz
    have hb : b ≠ 0 := by simpa using hz
    subst h
    exact fin (.int k (k.wrap (a.tdiv b))) (by simp [binOp, Op.intDiv, hb]) (by rw [wrapF_eq]; exact .int _ _)
  case rem =>
    split at h <;> simp only [Option.some.injEq, reduceCtorEq] at h
    rename_i hz
    rw [intEq_eq] at hz
    have hb : b ≠ 0 := by simpa using hz
    subst h
    exact fin (.int k (a.tmod b)) (by simp [binOp, Op.intDiv, hb]) (.int _ _)
  all_goals
    subst h
    simp only [intEq_eq, intLe_eq, wrapF_eq, hle] at fin ⊢
  case add => exact fin _ (by simp [binOp, Op.intArith]) (.int _ _)
  case sub => exact fin _ (by simp [binOp, Op.intArith]) (.int _ _)
  case mul => exact fin _ (by simp [binOp, Op.intArith]) (.int _ _)
  case eql => exact fin (.bool (a == b)) (by simp [binOp, Op.intCmp]) (.bool _)
  case neq => exact fin (.bool (!(a == b))) (by simp [binOp, Op.intCmp, bne]) (.bool _)
  case lss => exact fin (.bool (decide (a < b))) (by simp [binOp, Op.intCmp]) (.bool _)
  case leq => exact fin (.bool (decide (a ≤ b))) (by simp [binOp, Op.intCmp]) (.bool _)
  case gtr => exact fin (.bool (decide (b < a))) (by simp [binOp, Op.intCmp]) (.bool _)
  case geq => exact fin (.bool (decide (b ≤ a))) (by simp [binOp, Op.intCmp]) (.bool _)

theorem sbin_ok {op : BinOp} {s s' : ByteArray} {g : G} (t : TypeId) (xo yo : Operand) (h : sbin op s.size (pk s.data.toList) s'.size (pk s'.data.toList) = some g) :
    ∃ v, (do eqGuard op t xo yo (.string s) (.string s'); binOp op t (.string s) (.string s') : Sem Value).run P w = .ok v w ∧ RepG ρ v g := by
  have fin : ∀ (v : Value), (binOp op t (.string s) (.string s')).run P w = .ok v w → RepG ρ v g →
      ∃ v, (do eqGuard op t xo yo (.string s) (.string s'); binOp op t (.string s) (.string s') : Sem Value).run P w = .ok v w ∧ RepG ρ v g :=
    fun v h1 h2 => ⟨v, bool_step (by simp) (by simp) h1, h2⟩
  cases op <;> simp only [sbin, Option.some.injEq, reduceCtorEq] at h
  case add =>
    split at h <;> simp only [Option.some.injEq, reduceCtorEq] at h
    rename_i hl
    rw [Nat.ble_eq] at hl
    subst h
    have hl : s.size + s'.size ≤ 9223372036854775807 := hl
    refine fin (.string (s ++ s')) ?_ ?_
    · have : ¬ ((s.size + s'.size : Nat) : Int) > IntKind.i64.max := by
        simp only [IntKind.max]
        simp [IntKind.signed, IntKind.bits]
        omega
      simp only [binOp, Op.stringOp, this, if_false, Sem.run_pure]
    · refine .str _ _ _ (by simp) ?_
      have : (s ++ s').data.toList = s.data.toList ++ s'.data.toList := by simp [ByteArray.data_append]
      rw [this, pk_append, size_length]
      rfl
  case eql =>
    subst h
    refine fin (.bool (s.data.toList == s'.data.toList)) ?_ ?_
    · simp only [binOp, Op.stringOp, ByteArray.toList_eq, Sem.run_pure]
    · rw [str_eq]; exact .bool _
  case neq =>
    subst h
    refine fin (.bool (!(s.data.toList == s'.data.toList))) ?_ ?_
    · simp only [binOp, Op.stringOp, ByteArray.toList_eq, Sem.run_pure]
    · rw [str_eq]; exact .bool _

theorem eqIn_ptr_nil (n : Nat) {t e : TypeId} (hu : P.underlying t = some (.pointer e)) (a : Addr) : (Op.equalIn (n + 1) t (.pointer (some a)) (.pointer none)).run P w = .ok false w := by simp [Op.equalIn, run_underlying hu]
theorem eqIn_nil_ptr (n : Nat) {t e : TypeId} (hu : P.underlying t = some (.pointer e)) (a : Addr) : (Op.equalIn (n + 1) t (.pointer none) (.pointer (some a))).run P w = .ok false w := by simp [Op.equalIn, run_underlying hu]
theorem eqIn_nil_nil (n : Nat) {t e : TypeId} (hu : P.underlying t = some (.pointer e)) : (Op.equalIn (n + 1) t (.pointer none) (.pointer none)).run P w = .ok true w := by simp [Op.equalIn, run_underlying hu]
theorem eqIn_if_nil (n : Nat) {t : TypeId} {ms : Array (String × TypeId)} (hu : P.underlying t = some (.interface ms)) (u : TypeId) (v : Value) : (Op.equalIn (n + 1) t (.iface u v) .nilIface).run P w = .ok false w := by simp [Op.equalIn, run_underlying hu]
theorem eqIn_nil_if (n : Nat) {t : TypeId} {ms : Array (String × TypeId)} (hu : P.underlying t = some (.interface ms)) (u : TypeId) (v : Value) : (Op.equalIn (n + 1) t .nilIface (.iface u v)).run P w = .ok false w := by simp [Op.equalIn, run_underlying hu]
theorem eqIn_ni_ni (n : Nat) {t : TypeId} {ms : Array (String × TypeId)} (hu : P.underlying t = some (.interface ms)) : (Op.equalIn (n + 1) t .nilIface .nilIface).run P w = .ok true w := by simp [Op.equalIn, run_underlying hu]
theorem eqIn_sl_nil (n : Nat) {t e : TypeId} (hu : P.underlying t = some (.slice e)) (a : Addr) (l c : Nat) : (Op.equalIn (n + 1) t (.slice (some a) l c) (.slice none 0 0)).run P w = .ok false w := by simp [Op.equalIn, run_underlying hu]
theorem eqIn_sn_nil (n : Nat) {t e : TypeId} (hu : P.underlying t = some (.slice e)) : (Op.equalIn (n + 1) t (.slice none 0 0) (.slice none 0 0)).run P w = .ok true w := by simp [Op.equalIn, run_underlying hu]

theorem nilEq_ok {x y : G} {b : Bool} {t : TypeId} {ti : TyI} {vx vy : Value} (xo yo : Operand) (hx : RepG ρ vx x) (hy : RepG ρ vy y) (h : nilEq x y = some b) (hs : nilSh x ti.sh = true) (ht : ShOk P t ti.sh) :
    (do eqGuard .eql t xo yo vx vy; binOp .eql t vx vy : Sem Value).run P w = .ok (.bool b) w ∧ (do eqGuard .neq t xo yo vx vy; binOp .neq t vx vy : Sem Value).run P w = .ok (.bool !b) w := by
  have fin : ∀ (hne1 : ∀ cs, vx ≠ .agg cs) (hne2 : vx ≠ .nilIface ∨ ∃ t v, vy = .iface t v), (binOp .eql t vx vy = do pure (.bool (← Op.equal t vx vy))) → (binOp .neq t vx vy = do pure (.bool (!(← Op.equal t vx vy)))) →
      (Op.equal t vx vy).run P w = .ok b w →
      (do eqGuard .eql t xo yo vx vy; binOp .eql t vx vy : Sem Value).run P w = .ok (.bool b) w ∧ (do eqGuard .neq t xo yo vx vy; binOp .neq t vx vy : Sem Value).run P w = .ok (.bool !b) w := by
    intro h1 h2 h4 h5 h3
    have hg : ∀ op, (eqGuard op t xo yo vx vy).run P w = .ok () w := by
      intro op
      rcases h2 with h2 | ⟨t', v, rfl⟩
      · exact Hk.eqGuard_ok op t xo yo vx vy h1 h2
      · by_cases hn : vx = .nilIface
        · subst hn
          unfold eqGuard
          cases op <;> simp
        · exact Hk.eqGuard_ok op t xo yo vx _ h1 hn
    simp only [Sem.run_bind, hg, Result.andThen_ok, h4, h5, h3, Sem.run_pure, and_self]
  unfold nilEq at h
  split at h <;> simp only [Option.some.injEq, reduceCtorEq] at h <;> subst h
  all_goals
    cases hx <;> cases hy <;> cases hsh : ti.sh <;> rw [hsh] at hs ht <;> simp only [nilSh, reduceCtorEq] at hs
  all_goals
    refine fin (by simp) (by simp) rfl rfl ?_
  · exact eqIn_ptr_nil 9999 ht _
  · exact eqIn_nil_ptr 9999 ht _
  · exact eqIn_nil_nil 9999 ht
  · obtain ⟨ms, hu⟩ := ht; exact eqIn_if_nil 9999 hu _ _
  · obtain ⟨ms, hu⟩ := ht; exact eqIn_nil_if 9999 hu _ _
  · exact eqIn_sl_nil 9999 ht _ _ _
  · exact eqIn_sl_nil 9999 ht _ _ _
  · exact eqIn_sn_nil 9999 ht

theorem evNil_ok (htt : TTok P tt) {op : BinOp} {t : TypeId} {xo yo : Operand} {x y g : G} {vx vy : Value} (hx : RepG ρ vx x) (hy : RepG ρ vy y) (h : evNil tt op t x y = some g) :
    ∃ v, (do eqGuard op t xo yo vx vy; binOp op t vx vy : Sem Value).run P w = .ok v w ∧ RepG ρ v g := by
  unfold evNil at h
  cases hn : nilEq x y with
  | none => rw [hn] at h; cases h
  | some b =>
    rw [hn] at h
    cases hl : lk tt t with
    | none => rw [hl] at h; cases h
    | some ti =>
      rw [hl] at h
      simp only at h
      cases hs : nilSh x ti.sh with
      | false => rw [hs] at h; cases h
      | true =>
        rw [hs] at h
        have := nilEq_ok (P := P) (w := w) xo yo hx hy hn hs (htt t _ hl).sh
        cases op <;> simp only [Option.some.injEq, reduceCtorEq] at h <;> subst h
        · exact ⟨_, this.1, .bool _⟩
        · exact ⟨_, this.2, .bool _⟩

theorem evBin_ok (htt : TTok P tt) {op : BinOp} {t : TypeId} {xo yo : Operand} {x y g : G} {vx vy : Value} (hx : RepG ρ vx x) (hy : RepG ρ vy y) (h : evBin tt op t yo x y = some g) :
    ∃ v, (do eqGuard op t xo yo vx vy; binOp op t vx vy : Sem Value).run P w = .ok v w ∧ RepG ρ v g := by
  unfold evBin at h
  split at h
  · split at h
    · split at h
      · rename_i hk
        have : _ = _ := of_decide_eq_true hk
        subst this
        obtain rfl := hx.intInv
        obtain rfl := hy.intInv
        exact ibin_ok t xo yo h
      · cases h
    · cases h
  · split at h
    · obtain ⟨s, rfl, rfl, rfl⟩ := hx.strInv
      obtain ⟨s', rfl, rfl, rfl⟩ := hy.strInv
      exact sbin_ok t xo yo h
    · cases h
  · split at h
    · rename_i p _ q
      obtain rfl := hx.boolInv
      obtain rfl := hy.boolInv
      split at h
      · rename_i hl
        have hs : P.underlying t = some .bool := (htt t _ hl).sh
        cases op <;> simp only [Option.some.injEq, reduceCtorEq] at h <;> subst h
        · exact ⟨_, bool_step (by simp) (by simp) (run_eql_bool w t p q hs), .bool _⟩
        · exact ⟨_, bool_step (by simp) (by simp) (run_neq_bool w t p q hs), .bool _⟩
      · cases h
    · cases h
  · split at h
    · cases hx
      cases hy
      split at h
      · rename_i hl
        obtain ⟨ms, hu⟩ : ∃ ms, P.underlying t = some (.interface ms) := (htt t _ hl).sh
        have he : (Op.equal t .nilIface .nilIface).run P w = .ok true w := eqIn_ni_ni 9999 hu
        cases op <;> simp only [Option.some.injEq, reduceCtorEq] at h <;> subst h
        · refine ⟨.bool true, ?_, .bool _⟩
          simp [eqGuard, binOp, he]
        · refine ⟨.bool false, ?_, .bool _⟩
          simp [eqGuard, binOp, he]
      · cases h
    · exact evNil_ok htt hx hy h
  · exact evNil_ok htt hx hy h

end
end Go.Gx

/- The ghost machine's operations that change nothing: loads, parts, composites, looks into maps. -/
namespace Go.Gx
open Go.Hk (TT TTok TyI Sh lk TyOk ShOk nth nth_eq)

/-! ### Zero values -/
def zOf : Hk.D → Option G
  | .imm (.bool b) => some (.bool b)
  | .imm (.int k n) => some (.int k n)
  | .imm (.str []) => some (.str 0 0)
  | .imm .nilp => some .nilp
  | .imm .nilmap => some .nilm
  | .imm .nilfn => some .nilf
  | .imm .niliface => some .nili
  | .nils => some .nils
  | _ => none
def zsOf : List Hk.D → Option (List G)
  | [] => some []
  | d :: r => match zOf d, zsOf r with
    | some g, some gs => some (g :: gs)
    | _, _ => none

def zOkB (P : Program) : TT → Bool
  | [] => true
  | (t, i) :: r => (match P.info? t with
    | some inf => match inf.zero with
      | some (.agg _) => i.agg
      | some z => !i.agg && z.oneCell'
      | none => false
    | none => false) && zOkB P r

def TTz (P : Program) (tt : TT) : Prop := ∀ t i, lk tt t = some i → ∃ inf z, P.info? t = some inf ∧ inf.zero = some z ∧ (i.agg = true → ∃ cs, z = .agg cs) ∧ (i.agg = false → z.oneCell' = true)

theorem zOkB_ok {P : Program} : ∀ {tt : TT}, zOkB P tt = true → TTz P tt
  | [], _, t, i, h => by simp [lk] at h
  | (x, j) :: r, hz, t, i, h => by
    simp only [zOkB, Bool.and_eq_true] at hz
    by_cases hx : x = t
    · subst hx
      rw [Hk.lk_cons_self] at h; cases h
      obtain ⟨h1, _⟩ := hz
      split at h1
      · rename_i inf hinf
        split at h1
        · rename_i cs hc
          exact ⟨inf, _, hinf, hc, fun _ => ⟨cs, rfl⟩, fun hf => (by rw [h1] at hf; cases hf)⟩
        · rename_i z hn hz'
          simp only [Bool.and_eq_true, Bool.not_eq_true'] at h1
          exact ⟨inf, z, hinf, hz', fun ht => (by rw [h1.1] at ht; cases ht), fun _ => h1.2⟩
        · cases h1
      · cases h1
    · rw [Hk.lk_cons_ne _ _ hx] at h
      exact zOkB_ok hz.2 t i h

section
variable {P : Program} {w : World} {tt : TT} {ρ : Rho}

theorem zOf_rep {d : Hk.D} {g : G} {v : Value} (h : zOf d = some g) (hr : Hk.RepD (fun _ => none) (fun _ => none) v d) : RepG ρ v g := by
  unfold zOf at h
  split at h <;> simp only [Option.some.injEq, reduceCtorEq] at h <;> subst h
  · have := hr.immInv; cases this; exact .bool _
  · have := hr.immInv; cases this; exact .int _ _
  · have := hr.immInv
    cases this with
    | str s l hs =>
      refine .str _ _ _ ?_ (by rw [hs]; rfl)
      rw [← size_length, hs]; rfl
  · have := hr.immInv; cases this; exact .nilp
  · have := hr.immInv; cases this; exact .nilm
  · have := hr.immInv; cases this; exact .nilf
  · have := hr.immInv; cases this; exact .nili
  · cases hr; exact .nils

theorem zsOf_rep : ∀ {ds : List Hk.D} {gs : List G} {vs : List Value}, zsOf ds = some gs → Hk.RepL (fun _ => none) (fun _ => none) vs ds → RepGs ρ vs gs
  | [], gs, vs, h, hr => by
    cases h
    have : vs = [] := List.eq_nil_of_length_eq_zero hr.1
    subst this
    exact .nil
  | d :: r, gs, [], h, hr => by simp [Hk.RepL] at hr
  | d :: r, gs, v :: vs, h, hr => by
    simp only [zsOf] at h
    split at h
    · rename_i g gs' h1 h2
      cases h
      exact .mk (zOf_rep h1 hr.cons.1) (zsOf_rep h2 hr.cons.2)
    · cases h

/-- The zero value of a type. -/
def zeroG (i : TyI) : Option G := match zsOf i.zero with
  | some gs => match i.agg with
    | true => some (.agg gs)
    | false => match gs with
      | [g] => some g
      | _ => none
  | none => none

theorem zeroG_ok (htt : TTok P tt) (hz : TTz P tt) {t : TypeId} {i : TyI} {g : G} (hl : lk tt t = some i) (h : zeroG i = some g) :
    ∃ v, (zeroValue t).run P w = .ok v w ∧ RepG ρ v g ∧ ∃ gs, zsOf i.zero = some gs ∧ RepGs ρ v.cells.toList gs ∧ (∀ u ∈ v.cells.toList, u.oneCell' = true) ∧ v.cells.size = gs.length := by
  obtain ⟨inf, z, h1, _, _, h4, h5, h6⟩ := (htt t i hl).info
  obtain ⟨inf', z', k1, k2, k3, k4⟩ := hz t i hl
  rw [h1] at k1; cases k1
  rw [h4] at k2; cases k2
  have hrun : (zeroValue t).run P w = .ok z w := by simp [zeroValue, typeInfo, h1, h4]
  unfold zeroG at h
  split at h
  · rename_i gs hgs
    have hr := zsOf_rep (ρ := ρ) hgs (h5 _ _)
    refine ⟨z, hrun, ?_, gs, hgs, hr, h6, by have := hr.1; simpa using this⟩
    cases ha : i.agg with
    | true =>
      rw [ha] at h; cases h
      obtain ⟨cs, rfl⟩ := k3 ha
      exact .agg _ _ (by have := hr.1; simpa [Value.cells] using this) h6 (fun i v g a b => hr.2 i v g (by simpa [Value.cells] using a) b)
    | false =>
      rw [ha] at h
      have hc := Hk.cells_one (k4 ha)
      rw [hc] at hr
      match gs, h, hr with
      | [g'], h, hr => cases h; exact hr.2 0 _ _ rfl rfl
  · cases h

/-! ### Loads -/
noncomputable def ldG (i : TyI) (l : List G) (off : Nat) : Option G := match i.agg with
  | true => match gsub l off i.size with
    | some r => some (.agg r)
    | none => none
  | false => gnth l off

theorem cell_of {r : Nat} {vs : Array Value} {t : TypeId} {fr : Nat × Nat} (h : w.heap[r]? = some (.cells vs t fr)) (j : Nat) (v : Value) (hv : vs.toList[j]? = some v) : w.cell? ⟨r, j, none⟩ = some v :=
  Hk.cell_of_heap h j v hv

theorem agg_rep {vs : List Value} {gs : List G} (h : RepGs ρ vs gs) (h1 : ∀ v ∈ vs, v.oneCell' = true) : RepG ρ (.agg vs.toArray) (.agg gs) :=
  .agg _ _ (by simpa using h.1) (by simpa using h1) (fun i v g a b => h.2 i v g (by simpa using a) b)

/-- Cells that are known, by place. -/
theorem ldG_ok {t : TypeId} {i : TyI} (hi : TyOk P t i) {r off : Nat} {l : List G} {g : G} {vs : Array Value} {bt : TypeId} (hh : w.heap[r]? = some (.cells vs bt (0, 0))) (hl : l.length ≤ vs.size)
    (hr : RepGs ρ (vs.toList.take l.length) l) (h1 : ∀ v ∈ vs.toList.take l.length, v.oneCell' = true) (h : ldG i l off = some g) :
    ∃ v, (Instr.loadAt t (.pointer (some ⟨r, off, none⟩))).run P w = .ok v w ∧ RepG ρ v g := by
  unfold ldG at h
  have hget : ∀ j, j < l.length → ∃ v, vs.toList[j]? = some v ∧ (vs.toList.take l.length)[j]? = some v := fun j hj => by
    have hlt : j < vs.toList.length := by simp; omega
    exact ⟨_, List.getElem?_eq_getElem hlt, by rw [List.getElem?_take, if_pos hj]; exact List.getElem?_eq_getElem hlt⟩
  cases ha : i.agg with
  | true =>
    rw [ha] at h
    cases hs : gsub l off i.size with
    | none => rw [hs] at h; cases h
    | some q =>
      rw [hs] at h; cases h
      obtain ⟨e, hle⟩ := gsub_eq hs
      have hrun := Hk.loadAt_ok (P := P) (w := w) hi r off (fun j => vs.toList.getD (off + j) Go.undef) (fun j hj => by
        obtain ⟨v, hv, _⟩ := hget (off + j) (by omega)
        rw [cell_of hh _ v hv]
        simp only [List.getD, hv, Option.getD_some]) (fun hf => by rw [ha] at hf; cases hf)
      rw [if_pos ha] at hrun
      refine ⟨_, hrun, ?_⟩
      have e2 : (List.range i.size).map (fun j => vs.toList.getD (off + j) Go.undef) = ((vs.toList.take l.length).drop off).take i.size := by
        apply List.ext_getElem?
        intro j
        by_cases hj : j < i.size
        · obtain ⟨v, hv, hv2⟩ := hget (off + j) (by omega)
          rw [List.getElem?_take, if_pos hj, List.getElem?_drop, hv2, List.getElem?_map, List.getElem?_range hj]
          simp only [Option.map_some, List.getD, hv, Option.getD_some]
        · rw [List.getElem?_eq_none (by simp; omega), List.getElem?_eq_none (by simp; omega)]
      rw [e2, e]
      exact agg_rep ((hr.drop off).take _) (fun v hv => h1 v (List.mem_of_mem_drop (List.mem_of_mem_take hv)))
  | false =>
    rw [ha] at h
    have h : gnth l off = some g := h
    rw [gnth_eq] at h
    have hlt := (List.getElem?_eq_some_iff.1 h).1
    obtain ⟨v, hv, hv2⟩ := hget off hlt
    refine ⟨v, ?_, hr.2 off v g hv2 h⟩
    simp only [Instr.loadAt, Instr.sureAddr, Sem.run_bind, Sem.run_pure, Result.andThen_ok, loadVar, hi.isAgg w, ha]
    simp [run_load, cell_of hh _ v hv]

/-- A part of a value. -/
theorem partG_ok {t : TypeId} {i : TyI} (hi : TyOk P t i) {vs : Array Value} {l : List G} {off : Nat} {g : G} (h1 : ∀ v ∈ vs.toList, v.oneCell' = true) (hr : RepGs ρ vs.toList l) (h : ldG i l off = some g) :
    ∃ v, (Go.part t vs off).run P w = .ok v w ∧ RepG ρ v g := by
  have hlen := hr.1
  unfold ldG at h
  cases ha : i.agg with
  | true =>
    rw [ha] at h
    cases hs : gsub l off i.size with
    | none => rw [hs] at h; cases h
    | some q =>
      rw [hs] at h; cases h
      obtain ⟨e, hle⟩ := gsub_eq hs
      obtain ⟨v, hv, he⟩ := Hk.part_ok (P := P) (w := w) hi (vs := vs) (off := off) (fun hf => by rw [ha] at hf; cases hf)
      refine ⟨v, hv, ?_⟩
      rw [he, if_pos ha, e]
      have e2 : vs.extract off (off + i.size) = ((vs.toList.drop off).take i.size).toArray := by
        apply Array.ext'
        simp [List.extract_eq_take_drop]
      rw [e2]
      exact agg_rep ((hr.drop off).take _) (fun v hv => h1 v (List.mem_of_mem_drop (List.mem_of_mem_take hv)))
  | false =>
    rw [ha] at h
    have h : gnth l off = some g := h
    rw [gnth_eq] at h
    have hlt := (List.getElem?_eq_some_iff.1 h).1
    have hv : vs.toList[off]? = some (vs.toList[off]'(by omega)) := List.getElem?_eq_getElem (by omega)
    have hv' : vs[off]? = some (vs.toList[off]'(by omega)) := by rw [← Array.getElem?_toList]; exact hv
    obtain ⟨v, hv2, he⟩ := Hk.part_ok (P := P) (w := w) hi (vs := vs) (off := off) (fun _ => ⟨_, hv'⟩)
    refine ⟨v, hv2, ?_⟩
    rw [he, ha, hv']
    exact hr.2 _ _ _ hv h

theorem RepG.aggInv {v : Value} {l : List G} (h : RepG ρ v (.agg l)) : ∃ cs : Array Value, v = .agg cs ∧ RepGs ρ cs.toList l ∧ ∀ c ∈ cs.toList, c.oneCell' = true := by
  cases h with
  | agg cs _ hl h1 h => exact ⟨cs, rfl, ⟨by simpa using hl, fun i v g a b => h i v g (by simpa using a) b⟩, h1⟩
theorem RepG.tupInv {v : Value} {l : List G} (h : RepG ρ v (.tup l)) : ∃ cs : Array Value, v = .tuple cs ∧ RepGs ρ cs.toList l := by
  cases h with
  | tup cs _ hl h => exact ⟨cs, rfl, ⟨by simpa using hl, fun i v g a b => h i v g (by simpa using a) b⟩⟩
theorem RepG.ptrInv {v : Value} {b o : Nat} (h : RepG ρ v (.ptr b o)) : ∃ r z, v = .pointer (some ⟨r, o, none⟩) ∧ ρ b = some (r, z) := by
  cases h with | ptr _ r z _ h => exact ⟨r, z, rfl, h⟩

theorem tup_rep {vs : List Value} {gs : List G} (h : RepGs ρ vs gs) : RepG ρ (.tuple vs.toArray) (.tup gs) :=
  .tup _ _ (by simpa using h.1) (fun i v g a b => h.2 i v g (by simpa using a) b)

/-! ### The cells of a value -/
def gcells : G → Option (List G)
  | .agg l => some l
  | .undef => none
  | .tup _ => none
  | g => some [g]

theorem gcells_rep {g : G} {l : List G} {v : Value} (h : gcells g = some l) (hr : RepG ρ v g) : RepGs ρ v.cells.toList l ∧ ∀ u ∈ v.cells.toList, u.oneCell' = true := by
  have one : g.one = true → l = [g] → RepGs ρ v.cells.toList l ∧ ∀ u ∈ v.cells.toList, u.oneCell' = true := by
    rintro h1 rfl
    have hv := hr.one h1
    rw [Hk.cells_one hv]
    exact ⟨.mk hr .nil, by simpa using hv⟩
  cases g <;> simp only [gcells, Option.some.injEq, reduceCtorEq] at h <;> first
    | exact one rfl h.symm
    | (subst h; obtain ⟨cs, rfl, h1, h2⟩ := hr.aggInv; exact ⟨h1, h2⟩)

noncomputable def buildG (tt : TT) (fs : List (Nat × TypeId)) (s : S) : List (Nat × Operand) → List G → Option (List G)
  | [], z => some z
  | (i, x) :: r, z => match nth fs i with
    | some (off, ft) => match lk tt ft, gcells (evA x s) with
      | some ti, some cs => match Nat.beq cs.length ti.size with
        | true => match gsplice z off cs with
          | some z' => buildG tt fs s r z'
          | none => none
        | false => none
      | _, _ => none
    | none => none

theorem splice_rep {vs us : List Value} {gs hs qs : List G} {o : Nat} (h : RepGs ρ vs gs) (k : RepGs ρ us hs) (hq : gsplice gs o hs = some qs) :
    RepGs ρ (vs.take o ++ us ++ vs.drop (o + us.length)) qs ∧ o + us.length ≤ vs.length := by
  obtain ⟨e, hle⟩ := gsplice_eq hq
  rw [e, ← k.1]
  refine ⟨((h.take o).append k).append (h.drop _), by rw [h.1, k.1]; exact hle⟩

theorem fill_ok {place : Nat → Option (Nat × Nat)} {fs : List (Nat × TypeId)} {s : S} {a : Act} (hs : SRep ρ s a.tmps) (htt : TTok P tt)
    (hp : ∀ i off ft ti, nth fs i = some (off, ft) → lk tt ft = some ti → place i = some (off, ti.size)) :
    ∀ (parts : List (Nat × Operand)) (z q : List G) (vs : List Value), buildG tt fs s parts z = some q → RepGs ρ vs z → (∀ v ∈ vs, v.oneCell' = true) →
      ∃ us : List Value, Instr.fill place vs.toArray (parts.map fun p => (p.1, a.eval p.2)) = some us.toArray ∧ RepGs ρ us q ∧ ∀ v ∈ us, v.oneCell' = true
  | [], z, q, vs, h, hz, h1 => by cases h; exact ⟨vs, rfl, hz, h1⟩
  | (i, x) :: r, z, q, vs, h, hz, h1 => by
    simp only [buildG] at h
    split at h
    · rename_i off ft hn
      split at h
      · rename_i ti cs hl hc
        split at h
        · rename_i hb
          split at h
          · rename_i z' hsp
            have hb := Nat.eq_of_beq_eq_true hb
            obtain ⟨c1, c2⟩ := gcells_rep hc (evA_rep hs x)
            have hlen := c1.1
            obtain ⟨s1, s2⟩ := splice_rep hz c1 hsp
            have hstep : (a.eval x).cells.zipIdx.foldl (fun cs (p : Value × Nat) => cs.setIfInBounds (off + p.2) p.1) vs.toArray = (vs.take off ++ (a.eval x).cells.toList ++ vs.drop (off + (a.eval x).cells.toList.length)).toArray := by
              apply Array.ext'
              rw [← Array.foldl_toList, Array.toList_zipIdx]
              have := Hk.foldl_set off (a.eval x).cells.toList 0 vs.toArray (by simpa using s2)
              simp only [Nat.add_zero] at this
              rw [this]
            obtain ⟨us, u1, u2, u3⟩ := fill_ok hs htt hp r z' q _ h s1 (fun v hv => by
              rcases List.mem_append.1 hv with hv | hv
              · rcases List.mem_append.1 hv with hv | hv
                · exact h1 v (List.mem_of_mem_take hv)
                · exact c2 v hv
              · exact h1 v (List.mem_of_mem_drop hv))
            refine ⟨us, ?_, u2, u3⟩
            rw [List.map_cons]
            unfold Instr.fill
            simp only [hp i off ft ti hn hl]
            have hsz : (a.eval x).cells.size = ti.size := by rw [← hb, ← hlen]; simp
            have hle : off + (a.eval x).cells.size ≤ vs.length := by simpa using s2
            rw [if_neg (by simp [hsz]; omega), hstep]
            exact u1
          · cases h
        · cases h
      · cases h
    · cases h

end
end Go.Gx

/- The ghost machine's looks into maps; slice expressions; equality of structs. -/
namespace Go.Gx
open Go.Hk (TT TTok TyI Sh lk TyOk ShOk nth nth_eq)

/-! ### Keys -/
def keyEq (x y : G) : Option Bool := match x with
  | .int k a => match y with
    | .int k' b => match kEq k k' with
      | true => some (intEq a b)
      | false => none
    | _ => none
  | .str la a => match y with
    | .str lb b => some (Nat.beq la lb && Nat.beq a b)
    | _ => none
  | .bool a => match y with
    | .bool b => some (a == b)
    | _ => none
  | _ => none

def keySh (x : G) (sh : Sh) : Bool := match x, sh with
  | .int .., .int _ => true
  | .str .., .str => true
  | .bool .., .bool => true
  | _, _ => false

theorem keyEq_true {x y : G} (h : keyEq x y = some true) : x = y := by
  cases x <;> simp only [keyEq, reduceCtorEq] at h <;> cases y <;> simp only [Option.some.injEq, reduceCtorEq] at h
  · simp only [beq_iff_eq] at h; rw [h]
  · rename_i k a k' b
    cases hk : kEq k k' with
    | false => rw [hk] at h; cases h
    | true =>
      rw [hk] at h
      have hkk : k = k' := of_decide_eq_true hk
      simp only [Option.some.injEq, intEq_eq, beq_iff_eq] at h
      rw [hkk, h]
  · simp only [Bool.and_eq_true, Nat.beq_eq] at h
    rw [h.1, h.2]

/-- The value that a map has for a key; all keys are looked at. -/
def kvFind (k : G) : List (G × G) → Option (Option G)
  | [] => some none
  | (k', v) :: r => match keyEq k k' with
    | none => none
    | some true => match kvFind k r with
      | none => none
      | some _ => some (some v)
    | some false => kvFind k r

section
variable {P : Program} {w : World} {tt : TT} {ρ : Rho}

def descOf (sh : Sh) (d : TypeDesc) : Prop := match sh with
  | .int k => d = .int k
  | .str => d = .string
  | .bool => d = .bool
  | _ => True

theorem sameNow_ok {x y : G} {vx vy : Value} {b : Bool} {d : TypeDesc} {sh : Sh} (hx : RepG ρ vx x) (hy : RepG ρ vy y) (h : keyEq x y = some b) (hs : keySh x sh = true)
    (hd : descOf sh d) : Instr.sameNow d vx vy = some b := by
  cases x <;> simp only [keyEq, reduceCtorEq] at h <;> cases y <;> simp only [Option.some.injEq, reduceCtorEq] at h
  · cases hx; cases hy
    cases sh <;> simp only [keySh, reduceCtorEq] at hs
    have hd : d = _ := hd
    subst hd
    simp [Instr.sameNow, ← h]
  · rename_i k a k' b'
    cases hk : kEq k k' with
    | false => rw [hk] at h; cases h
    | true =>
      rw [hk] at h
      have hkk : k = k' := of_decide_eq_true hk
      subst hkk
      cases hx; cases hy
      cases sh <;> simp only [keySh, reduceCtorEq] at hs
      have hd : d = _ := hd
      subst hd
      simp only [Option.some.injEq, intEq_eq] at h
      simp [Instr.sameNow, ← h]
  · obtain ⟨s, rfl, rfl, rfl⟩ := hx.strInv
    obtain ⟨s', rfl, rfl, rfl⟩ := hy.strInv
    cases sh <;> simp only [keySh, reduceCtorEq] at hs
    have hd : d = _ := hd
    subst hd
    rw [str_eq] at h
    simp only [Instr.sameNow, beq_toListBytes, ByteArray.toList_eq, h]

theorem findNow_spec {d : TypeDesc} {k : Value} : ∀ (es : List MapEntry) (i : Nat), (∀ e ∈ es, ∃ b, Instr.sameNow d k e.key = some b) →
    (Instr.findNow d k es i = some none ∧ ∀ e ∈ es, Instr.sameNow d k e.key = some false) ∨
    ∃ j e, Instr.findNow d k es i = some (some (i + j, e.val)) ∧ es[j]? = some e ∧ Instr.sameNow d k e.key = some true
  | [], i, _ => .inl ⟨rfl, by simp⟩
  | e :: es, i, h => by
    obtain ⟨b, hb⟩ := h e (by simp)
    cases b with
    | true => exact .inr ⟨0, e, by simp [Instr.findNow, hb], rfl, hb⟩
    | false =>
      rcases findNow_spec es (i + 1) (fun e' he' => h e' (by simp [he'])) with ⟨h1, h2⟩ | ⟨j, e', h1, h2, h3⟩
      · exact .inl ⟨by simp [Instr.findNow, hb, h1], fun e' he' => (List.mem_cons.1 he').elim (fun q => q ▸ hb) (h2 e')⟩
      · refine .inr ⟨j + 1, e', ?_, by simpa using h2, h3⟩
        simp only [Instr.findNow, hb, h1]
        rw [show i + 1 + j = i + (j + 1) by omega]

theorem kvFind_all {k : G} : ∀ {kv : List (G × G)} {r : Option G}, kvFind k kv = some r → ∀ p ∈ kv, ∃ b, keyEq k p.1 = some b
  | [], _, _, p, hp => by simp at hp
  | (k', v) :: kv, r, h, p, hp => by
    simp only [kvFind] at h
    cases hk : keyEq k k' with
    | none => rw [hk] at h; cases h
    | some b =>
      rcases List.mem_cons.1 hp with rfl | hp
      · exact ⟨b, hk⟩
      · rw [hk] at h
        cases b with
        | false => exact kvFind_all h p hp
        | true =>
          simp only at h
          cases hr : kvFind k kv with
          | none => rw [hr] at h; cases h
          | some r' => exact kvFind_all hr p hp

theorem kvFind_none {k : G} : ∀ {kv : List (G × G)}, kvFind k kv = some none → ∀ p ∈ kv, keyEq k p.1 = some false
  | [], _, p, hp => by simp at hp
  | (k', v) :: kv, h, p, hp => by
    simp only [kvFind] at h
    cases hk : keyEq k k' with
    | none => rw [hk] at h; cases h
    | some b =>
      rw [hk] at h
      cases b with
      | true =>
        simp only at h
        cases hr : kvFind k kv with
        | none => rw [hr] at h; cases h
        | some r' => rw [hr] at h; cases h
      | false =>
        rcases List.mem_cons.1 hp with rfl | hp
        · exact hk
        · exact kvFind_none h p hp

theorem kvFind_some {k v : G} : ∀ {kv : List (G × G)}, kvFind k kv = some (some v) → (k, v) ∈ kv
  | [], h => by cases h
  | (k', v') :: kv, h => by
    simp only [kvFind] at h
    cases hk : keyEq k k' with
    | none => rw [hk] at h; cases h
    | some b =>
      rw [hk] at h
      cases b with
      | true =>
        simp only at h
        cases hr : kvFind k kv with
        | none => rw [hr] at h; cases h
        | some r' =>
          rw [hr] at h; cases h
          rw [keyEq_true hk]; simp
      | false => exact List.mem_cons_of_mem _ (kvFind_some h)

theorem nodup_key {k v v' : G} : ∀ {kv : List (G × G)}, (kv.map (·.1)).Nodup → (k, v) ∈ kv → (k, v') ∈ kv → v = v'
  | [], _, h, _ => by simp at h
  | (a, b) :: kv, hn, h, h' => by
    simp only [List.map_cons, List.nodup_cons] at hn
    rcases List.mem_cons.1 h with e | e <;> rcases List.mem_cons.1 h' with e' | e'
    · cases e; cases e'; rfl
    · cases e; exact absurd (List.mem_map.2 ⟨_, e', rfl⟩) hn.1
    · cases e'; exact absurd (List.mem_map.2 ⟨_, e, rfl⟩) hn.1
    · exact nodup_key hn.2 e e'

/-- An entry of the real map and the pair that stands for it. -/
theorem KvRep.of_mem {es : List MapEntry} {kv : List (G × G)} (h : KvRep ρ es kv) {e : MapEntry} (he : e ∈ es) : ∃ p ∈ kv, RepG ρ e.key p.1 ∧ RepG ρ e.val p.2 := by
  obtain ⟨l, h1, h2, h3⟩ := h
  obtain ⟨i, hi⟩ := List.getElem?_of_mem (h1.mem_iff.2 he)
  have hlt : i < l.length := (List.getElem?_eq_some_iff.1 hi).1
  have hp : kv[i]? = some (kv[i]'(by omega)) := List.getElem?_eq_getElem (by omega)
  exact ⟨_, List.getElem_mem _, h3 i e _ hi hp⟩
theorem KvRep.of_mem' {es : List MapEntry} {kv : List (G × G)} (h : KvRep ρ es kv) {p : G × G} (hp : p ∈ kv) : ∃ e ∈ es, RepG ρ e.key p.1 ∧ RepG ρ e.val p.2 := by
  obtain ⟨l, h1, h2, h3⟩ := h
  obtain ⟨i, hi⟩ := List.getElem?_of_mem hp
  have hlt : i < kv.length := (List.getElem?_eq_some_iff.1 hi).1
  have he : l[i]? = some (l[i]'(by omega)) := List.getElem?_eq_getElem (by omega)
  exact ⟨_, h1.mem_iff.1 (List.getElem_mem _), h3 i _ p he hi⟩
theorem KvRep.length {es : List MapEntry} {kv : List (G × G)} (h : KvRep ρ es kv) : es.length = kv.length := by
  obtain ⟨l, h1, h2, _⟩ := h
  rw [← h2, h1.length_eq]

/-- What a key leads to in the real map. -/
theorem find_ok {kt : TypeId} {ti : TyI} (hty : TyOk P kt ti) {k : G} {vk : Value} {es : List MapEntry} {kv : List (G × G)} {r : Option G} (hk : RepG ρ vk k) (hs : keySh k ti.sh = true) (hkv : KvRep ρ es kv) (hn : (kv.map (·.1)).Nodup)
    (h : kvFind k kv = some r) :
    (r = none ∧ (Instr.findKey kt vk es).run P w = .ok none w ∧ ∀ p ∈ kv, keyEq k p.1 = some false) ∨
    ∃ g j e, r = some g ∧ (Instr.findKey kt vk es).run P w = .ok (some (j, e.val)) w ∧ es[j]? = some e ∧ RepG ρ e.key k ∧ RepG ρ e.val g ∧ (k, g) ∈ kv := by
  obtain ⟨d, hu, hd⟩ : ∃ d, P.underlying kt = some d ∧ descOf ti.sh d := by
    have := hty.sh
    cases hsh : ti.sh <;> rw [hsh] at hs this <;> cases k <;> simp only [keySh, reduceCtorEq] at hs
    all_goals exact ⟨_, this, rfl⟩
  have hsame : ∀ e ∈ es, ∀ p, RepG ρ e.key p → ∀ b, keyEq k p = some b → Instr.sameNow d vk e.key = some b := fun e _ p hp b hb => sameNow_ok hk hp hb hs hd
  have hall : ∀ e ∈ es, ∃ b, Instr.sameNow d vk e.key = some b := fun e he => by
    obtain ⟨p, hp, h1, _⟩ := hkv.of_mem he
    obtain ⟨b, hb⟩ := kvFind_all h p hp
    exact ⟨b, hsame e he _ h1 b hb⟩
  have hrun : ∀ q, Instr.findNow d vk es 0 = some q → (Instr.findKey kt vk es).run P w = .ok q w := fun q hq => by
    simp [Instr.findKey, run_underlying hu, hq]
  rcases findNow_spec es 0 hall with ⟨h1, h2⟩ | ⟨j, e, h1, h2, h3⟩
  · cases r with
    | none => exact .inl ⟨rfl, hrun _ h1, kvFind_none h⟩
    | some g =>
      obtain ⟨e, he, q1, _⟩ := hkv.of_mem' (kvFind_some h)
      have := hsame e he k q1 true (by
        obtain ⟨b, hb⟩ := kvFind_all h _ (kvFind_some h)
        simp only at hb
        have : b = true := by
          cases k <;> simp only [keyEq, reduceCtorEq] at hb <;> first
            | (rw [show (_ == _) = true from by simp] at hb; cases hb; rfl)
            | (simp [kEq, intEq_eq] at hb; first | exact hb | exact hb.symm)
            | (simp at hb; first | exact hb | exact hb.symm)
        rw [hb, this])
      rw [h2 e he] at this; cases this
  · have he : e ∈ es := List.mem_of_getElem? h2
    obtain ⟨p, hp, q1, q2⟩ := hkv.of_mem he
    obtain ⟨b, hb⟩ := kvFind_all h p hp
    have hb' := hsame e he _ q1 b hb
    rw [h3] at hb'; cases hb'
    have hkp := keyEq_true hb
    cases r with
    | none => rw [kvFind_none h p hp] at hb; cases hb
    | some g =>
      have hg : g = p.2 := nodup_key hn (kvFind_some h) (by rw [hkp]; exact hp)
      rw [Nat.zero_add] at h1
      exact .inr ⟨g, j, e, rfl, hrun _ h1, h2, by rw [hkp]; exact q1, by rw [hg]; exact q2, kvFind_some h⟩

theorem checkKey_ok {kt : TypeId} {ti : TyI} (hty : TyOk P kt ti) {k : G} (hs : keySh k ti.sh = true) (b : Bool) (n : Nat) (v : Value) : (Instr.checkKey b (n + 1) kt v).run P w = .ok () w := by
  have := hty.sh
  cases hsh : ti.sh <;> rw [hsh] at hs this <;> cases k <;> simp only [keySh, reduceCtorEq] at hs
  all_goals
    have hu : P.underlying kt = some _ := this
    simp [Instr.checkKey, run_underlying hu]

def pairG (ok : Bool) (v : G) (b : Bool) : G := match ok with
  | true => .tup [v, .bool b]
  | false => v

def zeroPair (ei : TyI) (ok : Bool) : Option G := match zeroG ei with
  | some z => some (pairG ok z false)
  | none => none

noncomputable def lookG (tt : TT) (h : GH) (m k : G) (kt et : TypeId) (ok : Bool) : Option G := match lk tt kt, lk tt et with
  | some ki, some ei => match keySh k ki.sh with
    | true => match m with
      | .nilm => zeroPair ei ok
      | .map b => match h.get b with
        | .map _ kv => match kvFind k kv with
          | some (some v) => some (pairG ok v true)
          | some none => zeroPair ei ok
          | none => none
        | _ => none
      | _ => none
    | false => none
  | _, _ => none

theorem tup2_rep {v u : Value} {g k : G} (h : RepG ρ v g) (h' : RepG ρ u k) : RepG ρ (.tuple #[v, u]) (.tup [g, k]) := tup_rep (.mk h (.mk h' .nil))

theorem pairG_rep {v : Value} {g : G} {b : Bool} (h : RepG ρ v g) (ok : Bool) : RepG ρ (if ok then .tuple #[v, .bool b] else v) (pairG ok g b) := by
  cases ok with
  | true => exact tup2_rep h (.bool _)
  | false => exact h

theorem zeroPair_ok (htt : TTok P tt) (hz : TTz P tt) {t : TypeId} {i : TyI} {ok : Bool} {g : G} (hl : lk tt t = some i) (h : zeroPair i ok = some g) :
    ∃ v, (zeroValue t).run P w = .ok v w ∧ RepG ρ (if ok then .tuple #[v, .bool false] else v) g := by
  unfold zeroPair at h
  cases hz' : zeroG i with
  | none => rw [hz'] at h; cases h
  | some z =>
    rw [hz'] at h; cases h
    obtain ⟨zv, z1, z2, _⟩ := zeroG_ok (P := P) (w := w) (ρ := ρ) htt hz hl hz'
    exact ⟨zv, z1, pairG_rep z2 ok⟩

theorem lookG_ok (htt : TTok P tt) (hz : TTz P tt) {B : Bl} {h : GH} (hr : HRep B ρ h w) {t kt et : TypeId} (hu : P.underlying t = some (.map kt et)) {m k g : G} {vm vk : Value} {ok : Bool} (hm : RepG ρ vm m) (hk : RepG ρ vk k)
    (hg : lookG tt h m k kt et ok = some g) : ∃ v, (Instr.lookup t vm vk ok).run P w = .ok v w ∧ RepG ρ v g := by
  unfold lookG at hg
  cases hki : lk tt kt with
  | none => rw [hki] at hg; cases hg
  | some ki =>
  cases hei : lk tt et with
  | none => rw [hki, hei] at hg; cases hg
  | some ei =>
  rw [hki, hei] at hg
  simp only at hg
  cases hs : keySh k ki.sh with
  | false => rw [hs] at hg; cases hg
  | true =>
  rw [hs] at hg
  have hck := fun b => checkKey_ok (P := P) (w := w) (htt kt ki hki) hs b 9999 vk
  cases m <;> simp only [reduceCtorEq] at hg
  · cases hm
    obtain ⟨zv, z1, z2⟩ := zeroPair_ok (P := P) (w := w) (ρ := ρ) htt hz hei hg
    have hd : ∃ d, P.underlying kt = some d := by
      have := (htt kt ki hki).sh
      cases hsh : ki.sh <;> rw [hsh] at hs this <;> cases k <;> simp only [keySh, reduceCtorEq] at hs
      all_goals exact ⟨_, this⟩
    obtain ⟨d, hd⟩ := hd
    refine ⟨_, ?_, z2⟩
    simp [Instr.lookup, run_underlying hu, hck, Instr.findKey, run_underlying hd, Instr.findNow, z1]
  · rename_i b
    cases hb : h.get b <;> rw [hb] at hg <;> simp only [reduceCtorEq] at hg
    rename_i ver kv
    obtain ⟨r, z, hρ⟩ := hm.mapρ
    have hrep := hr.atρ hb rfl hρ
    obtain ⟨es, clock, e1, e2, e3, _⟩ := hrep
    cases hm with
    | map _ r' z' hρ' =>
      rw [hρ] at hρ'; cases hρ'
      cases hf : kvFind k kv with
      | none => rw [hf] at hg; cases hg
      | some q =>
        rw [hf] at hg
        rcases find_ok (w := w) (htt kt ki hki) hk hs e2 e3 hf with ⟨rfl, q2, _⟩ | ⟨g', j, e, rfl, q2, q3, q4, q5, _⟩
        · obtain ⟨zv, z1, z2⟩ := zeroPair_ok (P := P) (w := w) (ρ := ρ) htt hz hei hg
          refine ⟨_, ?_, z2⟩
          simp [Instr.lookup, run_underlying hu, getObj, Sem.run, e1, hck, q2, z1]
        · cases hg
          refine ⟨_, ?_, pairG_rep q5 ok⟩
          simp [Instr.lookup, run_underlying hu, getObj, Sem.run, e1, hck, q2]

end
end Go.Gx

/- The ghost machine: equality of structs, slice expressions, indices, lengths. -/
namespace Go.Gx
open Go.Hk (TT TTok TyI Sh lk TyOk ShOk nth nth_eq)

/-! ### Equality of structs -/
/-- A struct whose fields all count and that the model compares field by field. -/
def seqB (P : Program) (t : TypeId) : Bool := (match P.underlying t with
  | some (.struct fs) => fs.toList.all fun f => f.name != "_"
  | _ => false) && !P.stoodInHeld t && !P.eqGuardType P.depth t

def gsEq (tt : TT) : Nat → List (Nat × TypeId) → List G → List G → Option Bool
  | _, [], [], [] => some true
  | i, (off, ft) :: fs, x :: xs, y :: ys => match Nat.beq off i, lk tt ft with
    | true, some ti => match keySh x ti.sh, keyEq x y with
      | true, some b => match gsEq tt (i + 1) fs xs ys with
        | some b' => some (b && b')
        | none => none
      | _, _ => none
    | _, _ => none
  | _, _, _, _ => none

section
variable {P : Program} {w : World} {tt : TT} {ρ : Rho}

theorem notAgg_of_key {t : TypeId} {ti : TyI} (hty : TyOk P t ti) {x : G} (hs : keySh x ti.sh = true) : (Go.isAgg t).run P w = .ok false w := by
  have := hty.sh
  cases hsh : ti.sh <;> rw [hsh] at hs this <;> cases x <;> simp only [keySh, reduceCtorEq] at hs
  all_goals
    have hu : P.underlying t = some _ := this
    simp [Go.isAgg, run_underlying hu]

theorem keyEq_run {x y : G} {vx vy : Value} {b : Bool} {t : TypeId} {ti : TyI} (hty : TyOk P t ti) (n : Nat) (hx : RepG ρ vx x) (hy : RepG ρ vy y) (h : keyEq x y = some b) (hs : keySh x ti.sh = true) :
    (Op.equalIn (n + 1) t vx vy).run P w = .ok b w := by
  have := hty.sh
  cases x <;> simp only [keyEq, reduceCtorEq] at h <;> cases y <;> simp only [Option.some.injEq, reduceCtorEq] at h
  · cases hx; cases hy
    cases hsh : ti.sh <;> rw [hsh] at hs this <;> simp only [keySh, reduceCtorEq] at hs
    rw [run_equalIn_bool' w n t _ _ this, h]
  · rename_i k a k' b'
    cases hk : kEq k k' with
    | false => rw [hk] at h; cases h
    | true =>
      rw [hk] at h
      have hkk : k = k' := of_decide_eq_true hk
      subst hkk
      cases hx; cases hy
      cases hsh : ti.sh <;> rw [hsh] at hs this <;> simp only [keySh, reduceCtorEq] at hs
      simp only [Option.some.injEq, intEq_eq] at h
      rw [run_equalIn_int w n t _ _ _ _ this, h]
  · obtain ⟨s, rfl, rfl, rfl⟩ := hx.strInv
    obtain ⟨s', rfl, rfl, rfl⟩ := hy.strInv
    cases hsh : ti.sh <;> rw [hsh] at hs this <;> simp only [keySh, reduceCtorEq] at hs
    rw [str_eq] at h
    rw [run_equalIn_string w n t _ _ this, ByteArray.toList_eq, ByteArray.toList_eq, h]

theorem eqFields_ok (htt : TTok P tt) {xs ys : Array Value} (n : Nat) : ∀ (fs : List Field) (i : Nat) (gx gy : List G) (b : Bool), (∀ f ∈ fs, f.name ≠ "_") →
    RepGs ρ (xs.toList.drop i) gx → RepGs ρ (ys.toList.drop i) gy → gsEq tt i (fs.map fun f => (f.offset, f.type)) gx gy = some b → (Op.eqFields (n + 1) xs ys fs).run P w = .ok b w
  | [], i, gx, gy, b, _, _, _, h => by
    cases gx <;> cases gy <;> simp only [List.map_nil, gsEq, Option.some.injEq, reduceCtorEq] at h
    simp [Op.eqFields, ← h]
  | f :: fs, i, gx, gy, b, hn, hx, hy, h => by
    cases gx with
    | nil => simp [gsEq] at h
    | cons x gx =>
      cases gy with
      | nil => simp [gsEq] at h
      | cons y gy =>
        simp only [List.map_cons, gsEq] at h
        cases ho : Nat.beq f.offset i with
        | false => rw [ho] at h; cases h
        | true =>
        cases hl : lk tt f.type with
        | none => rw [ho, hl] at h; cases h
        | some ti =>
        rw [ho, hl] at h
        simp only at h
        cases hs : keySh x ti.sh with
        | false => rw [hs] at h; cases h
        | true =>
        cases hk : keyEq x y with
        | none => rw [hs, hk] at h; cases h
        | some b1 =>
        rw [hs, hk] at h
        simp only at h
        cases hr : gsEq tt (i + 1) (fs.map fun f => (f.offset, f.type)) gx gy with
        | none => rw [hr] at h; cases h
        | some b2 =>
        rw [hr] at h
        cases h
        have ho := Nat.eq_of_beq_eq_true ho
        have get : ∀ {vs : Array Value} {g : G} {gs : List G}, RepGs ρ (vs.toList.drop i) (g :: gs) → ∃ v, vs[i]? = some v ∧ RepG ρ v g ∧ RepGs ρ (vs.toList.drop (i + 1)) gs := by
          intro vs g gs hr
          cases hd : vs.toList.drop i with
          | nil => rw [hd] at hr; simp [RepGs] at hr
          | cons v vs' =>
            rw [hd] at hr
            have h0 : vs.toList[i]? = some v := by
              have : (vs.toList.drop i)[0]? = some v := by rw [hd]; rfl
              rw [List.getElem?_drop] at this; simpa using this
            refine ⟨v, by rw [← Array.getElem?_toList]; exact h0, hr.cons.1, ?_⟩
            have : vs.toList.drop (i + 1) = vs' := by
              have := congrArg List.tail hd
              simpa [List.tail_drop] using this
            rw [this]; exact hr.cons.2
        obtain ⟨vx, x1, x2, x3⟩ := get hx
        obtain ⟨vy, y1, y2, y3⟩ := get hy
        have ih := eqFields_ok htt n fs (i + 1) gx gy b2 (fun f hf => hn f (by simp [hf])) x3 y3 hr
        have hagg := notAgg_of_key (w := w) (htt _ _ hl) hs
        have hpart : ∀ (vs : Array Value) (v : Value), vs[i]? = some v → (part f.type vs f.offset).run P w = .ok v w := fun vs v hv => by
          simp [part, hagg, ho, hv]
        have he := keyEq_run (w := w) (htt _ _ hl) n x2 y2 hk hs
        simp only [Op.eqFields, hn f (by simp), ne_eq, not_false_eq_true, if_true, Sem.run_bind, hpart _ _ x1, hpart _ _ y1, Result.andThen_ok, he]
        cases b1 with
        | true => simpa using ih
        | false => simp

noncomputable def evAgg (tt : TT) (eqs : List Nat) (op : BinOp) (t : TypeId) (xs ys : List G) : Option G := match Hk.memN eqs t, lk tt t with
  | true, some { sh := .struct fs, .. } => match gsEq tt 0 fs xs ys with
    | some b => match op with
      | .eql => some (.bool b)
      | .neq => some (.bool (!b))
      | _ => none
    | none => none
  | _, _ => none

theorem evAgg_ok (htt : TTok P tt) {eqs : List Nat} (heq : ∀ t ∈ eqs, seqB P t = true) {op : BinOp} {t : TypeId} {xo yo : Operand} {xs ys : List G} {g : G} {vx vy : Value} (hx : RepG ρ vx (.agg xs)) (hy : RepG ρ vy (.agg ys))
    (h : evAgg tt eqs op t xs ys = some g) : ∃ v, (do eqGuard op t xo yo vx vy; binOp op t vx vy : Sem Value).run P w = .ok v w ∧ RepG ρ v g := by
  unfold evAgg at h
  split at h
  · rename_i fs _ _ _ _ hm hl
    have hs := heq t (Hk.memN_iff.1 hm)
    simp only [seqB, Bool.and_eq_true, Bool.not_eq_true'] at hs
    obtain ⟨⟨h1, h2⟩, h3⟩ := hs
    obtain ⟨fields, hu, hmap, _⟩ : ∃ fields, P.underlying t = some (.struct fields) ∧ fields.toList.map (fun f => (f.offset, f.type)) = fs ∧ ∀ f ∈ fields.toList, 0 < P.cellsOf f.type := (htt t _ hl).sh
    rw [hu] at h1
    simp only [List.all_eq_true, bne_iff_ne] at h1
    obtain ⟨cx, rfl, rx, _⟩ := hx.aggInv
    obtain ⟨cy, rfl, ry, _⟩ := hy.aggInv
    cases hg : gsEq tt 0 fs xs ys with
    | none => rw [hg] at h; cases h
    | some b =>
      rw [hg] at h
      rw [← hmap] at hg
      have hf := eqFields_ok (w := w) htt 9998 fields.toList 0 xs ys b h1 (by simpa using rx) (by simpa using ry) hg
      have hfo : P.fieldsOf t = fields := by simp [Program.fieldsOf, hu]
      have he : (Op.equalIn 10000 t (.agg cx) (.agg cy)).run P w = .ok b w := by
        have := run_equalIn_struct (P := P) w 9999 t cx cy (by rw [hfo]; exact hu) h2
        rw [this, hfo]; exact hf
      cases op <;> simp only [Option.some.injEq, reduceCtorEq] at h <;> subst h
      · exact ⟨_, by simp only [Sem.run_bind, run_eqGuard_agg w _ _ _ _ _ _ h3, Result.andThen_ok, run_eql_struct w, he], .bool _⟩
      · exact ⟨_, by simp only [Sem.run_bind, run_eqGuard_agg w _ _ _ _ _ _ h3, Result.andThen_ok, run_neq_struct w, he], .bool _⟩
  · cases h

/-! ### Slice expressions -/
def natG : G → Option Nat
  | .int _ (.ofNat n) => some n
  | _ => none

theorem natG_rep {g : G} {n : Nat} {v : Value} (h : natG g = some n) (hr : RepG ρ v g) : ∃ k, v = .int k n := by
  cases g <;> simp only [natG, reduceCtorEq] at h
  rename_i k m
  cases m <;> simp only [Option.some.injEq, reduceCtorEq] at h
  cases hr
  exact ⟨k, by rw [← h]; rfl⟩

theorem bound_ok {k : IntKind} {x y : Nat} (c : BoundsCode) (h : x ≤ y) : (Instr.sliceBound (.int k x) y c).run P w = .ok x w := by
  simp [Instr.sliceBound, asIntOf, h]

def optN (s : S) (d : Nat) : Option Operand → Option Nat
  | none => some d
  | some x => natG (evA x s)

/-- Bounds that hold. -/
theorem bounds_ok {isSlice : Bool} {len cap : Nat} {a : Act} {s : S} (hs : SRep ρ s a.tmps) {lo hi : Option Operand} {l h : Nat} (hl : optN s 0 lo = some l) (hh : optN s len hi = some h) (h1 : l ≤ h) (h2 : h ≤ cap) :
    (Instr.sliceBounds isSlice len cap (lo.map a.eval) (hi.map a.eval) none).run P w = .ok (l, h, cap) w := by
  have hlo : ∀ m, l ≤ m → ∀ c, (match lo.map a.eval with | some v => Instr.sliceBound v m c | none => pure 0 : Sem Nat).run P w = .ok l w := by
    intro m hm c
    cases lo with
    | none => simp only [optN, Option.some.injEq] at hl; simp [hl]
    | some x => obtain ⟨k, hk⟩ := natG_rep hl (evA_rep hs x); simp only [Option.map_some, hk]; exact bound_ok c hm
  cases hi with
  | none =>
    simp only [optN, Option.some.injEq] at hh
    subst hh
    have := hlo len h1
    simp only [Instr.sliceBounds, Option.map_none, Sem.run_bind, Sem.run_pure, Result.andThen_ok]
    cases lo with
    | none => simp only [optN, Option.some.injEq] at hl; simp [hl]
    | some x =>
      have := this .sliceB
      simp only [Option.map_some] at this
      simp [this]
  | some y =>
    obtain ⟨k, hk⟩ := natG_rep hh (evA_rep hs y)
    have hb := fun c => bound_ok (P := P) (w := w) (k := k) c h2
    simp only [Instr.sliceBounds, Option.map_none, Option.map_some, Sem.run_bind, Sem.run_pure, Result.andThen_ok, hk, hb]
    cases lo with
    | none => simp only [optN, Option.some.injEq] at hl; simp [hl]
    | some x =>
      have := hlo h h1 .sliceB
      simp only [Option.map_some] at this
      simp [this]

theorem bounds3_ok {len cap : Nat} {a : Act} {s : S} (hs : SRep ρ s a.tmps) {lo : Option Operand} {y m : Operand} {l h n : Nat} (hl : optN s 0 lo = some l) (hh : natG (evA y s) = some h) (hm : natG (evA m s) = some n) (h1 : l ≤ h) (h2 : h ≤ n) (h3 : n ≤ cap) :
    (Instr.sliceBounds true len cap (lo.map a.eval) (some (a.eval y)) (some (a.eval m))).run P w = .ok (l, h, n) w := by
  obtain ⟨k, hk⟩ := natG_rep hh (evA_rep hs y)
  obtain ⟨k', hk'⟩ := natG_rep hm (evA_rep hs m)
  have hb := fun c => bound_ok (P := P) (w := w) (k := k) c h2
  have hb' := fun c => bound_ok (P := P) (w := w) (k := k') c h3
  simp only [Instr.sliceBounds, Sem.run_bind, Sem.run_pure, Result.andThen_ok, hk, hb, hk', hb']
  cases lo with
  | none => simp only [optN, Option.some.injEq] at hl; simp [hl]
  | some x =>
    obtain ⟨k2, hk2⟩ := natG_rep hl (evA_rep hs x)
    have hb2 := fun c => bound_ok (P := P) (w := w) (k := k2) c h1
    simp [hk2, hb2]

noncomputable def sliceG (tt : TT) (t : TypeId) (s : S) (x : G) (lo hi mx : Option Operand) : Option G := match x with
  | .str len n => match lk tt t, optN s 0 lo, optN s len hi, mx with
    | some { sh := .str, .. }, some l, some h, none => match Nat.ble l h, Nat.ble h len with
      | true, true => some (.str (Nat.sub h l) (Nat.mod (Nat.shiftRight n (Nat.mul 8 l)) (Nat.pow 256 (Nat.sub h l))))
      | _, _ => none
    | _, _, _, _ => none
  | .sl b o len cap ex => match lk tt t, optN s 0 lo, mx with
    | some { sh := .sl e, .. }, some l, none => match lk tt e, optN s len hi with
      | some ie, some h => match Nat.ble l h, Nat.ble h cap, ex with
        | true, true, none => some (.sl b (Nat.add o (Nat.mul l ie.size)) (Nat.sub h l) (Nat.sub cap l) none)
        | true, true, some sz => match Nat.beq sz ie.size with
          | true => some (.sl b (Nat.add o (Nat.mul l ie.size)) (Nat.sub h l) (Nat.sub cap l) (some sz))
          | false => none
        | _, _, _ => none
      | _, _ => none
    | some { sh := .sl e, .. }, some l, some m => match lk tt e, hi with
      | some ie, some y => match natG (evA y s), natG (evA m s) with
        | some h, some n => match Nat.ble l h, Nat.ble h n, Nat.ble n cap with
          | true, true, true => some (.sl b (Nat.add o (Nat.mul l ie.size)) (Nat.sub h l) (Nat.sub n l) none)
          | _, _, _ => none
        | _, _ => none
      | _, _ => none
    | _, _, _ => none
  | .nils => match lk tt t, optN s 0 lo, optN s 0 hi with
    | some { sh := .sl e, .. }, some 0, some 0 => match lk tt e with
      | some _ => match mx with
        | none => some .nils
        | some m => match hi, natG (evA m s) with
          | some _, some 0 => some .nils
          | _, _ => none
      | none => none
    | _, _, _ => none
  | _ => none

theorem sliceG_ok (htt : TTok P tt) {t : TypeId} {s : S} {a : Act} (hs : SRep ρ s a.tmps) {x g : G} {vx : Value} {lo hi mx : Option Operand} (hx : RepG ρ vx x) (h : sliceG tt t s x lo hi mx = some g) :
    ∃ v, (Instr.sliceAt t vx (lo.map a.eval) (hi.map a.eval) (mx.map a.eval)).run P w = .ok v w ∧ RepG ρ v g := by
  cases x <;> simp only [sliceG, reduceCtorEq] at h
  · rename_i len n
    split at h
    · rename_i l h' hl ho hh
      split at h
      · rename_i b1 b2
        rw [Nat.ble_eq] at b1 b2
        cases h
        obtain ⟨sb, rfl, e1, e2⟩ := hx.strInv
        have hu : P.underlying t = some .string := (htt t _ hl).sh
        refine ⟨.string (sb.extract l h'), ?_, ?_⟩
        · have := bounds_ok (P := P) (w := w) (isSlice := false) (len := sb.size) (cap := sb.size) hs ho (by rw [e1]; exact hh) b1 (by omega)
          simp [Instr.sliceAt, run_underlying hu, Instr.slice, this]
        · have e3 : (sb.extract l h').data.toList = (sb.data.toList.drop l).take (h' - l) := by
            simp [ByteArray.data_extract, List.extract_eq_take_drop]
          have hlen : sb.data.toList.length = len := by rw [size_length, e1]
          refine .str _ _ _ (by rw [← size_length, e3]; simp; omega) ?_
          rw [e3, (pk_take_drop _ _ (by simp; omega)).1, (pk_take_drop _ _ (by omega)).2, e2]
          show _ = (n >>> (8 * l)) % 256 ^ (h' - l)
          rw [Nat.shiftRight_eq_div_pow, ← pow_256]
      · cases h
    · cases h
  · split at h
    · rename_i e _ _ _ _ hl ho hh
      cases hle : lk tt e with
      | none => rw [hle] at h; cases h
      | some ie =>
        rw [hle] at h
        simp only at h
        have hu : P.underlying t = some (.slice e) := (htt t _ hl).sh
        cases mx with
        | none =>
          cases h
          cases hx
          have := bounds_ok (P := P) (w := w) (isSlice := true) (len := 0) (cap := 0) hs ho hh (Nat.le_refl _) (Nat.le_refl _)
          refine ⟨.slice none 0 0, ?_, .nils⟩
          simp [Instr.sliceAt, run_underlying hu, Instr.slice, this, (htt e _ hle).sizeOf w]
        | some m =>
          simp only at h
          split at h
          · rename_i y hn
            cases h
            cases hx
            have := bounds3_ok (P := P) (w := w) (len := 0) (cap := 0) hs ho hh hn (Nat.le_refl _) (Nat.le_refl _) (Nat.le_refl _)
            refine ⟨.slice none 0 0, ?_, .nils⟩
            simp [Instr.sliceAt, run_underlying hu, Instr.slice, this, (htt e _ hle).sizeOf w]
          · cases h
    · cases h
  · rename_i b o len cap ex
    have key : ∀ {e : TypeId} {ie : TyI} {l h' n : Nat} {ex' : Option Nat} (m' : Nat → Nat), P.underlying t = some (.slice e) → lk tt e = some ie → l ≤ h' → h' ≤ cap →
        (∀ cap', cap ≤ cap' → (ex = none → cap' = cap) → (Instr.sliceBounds true len cap' (lo.map a.eval) (hi.map a.eval) (mx.map a.eval)).run P w = .ok (l, h', m' cap') w) →
        (∀ cap', cap ≤ cap' → h' ≤ m' cap' ∧ n + l ≤ m' cap' ∧ h' ≤ n + l ∧ m' cap' ≤ cap') →
        (∀ cap' z, cap ≤ cap' → (match ex with | none => cap' = cap | some sz => o + cap' * sz = z) → l ≤ m' cap' → (match ex' with | none => m' cap' - l = n | some sz => o + l * ie.size + (m' cap' - l) * sz = z)) →
        ∃ v, (Instr.sliceAt t vx (lo.map a.eval) (hi.map a.eval) (mx.map a.eval)).run P w = .ok v w ∧ RepG ρ v (.sl b (o + l * ie.size) (h' - l) n ex') := by
      intro e ie l h' n ex' m' hu hie h1 h2 hb hm hx'
      cases hx with
      | sl _ r z _ _ _ cap' _ hρ hlen hc hmax hex =>
        have hbb := hb cap' hc (fun e => by subst e; exact hex)
        obtain ⟨m1, m2, m3, m4⟩ := hm cap' hc
        have hrun : (Instr.sliceAt t (.slice (some ⟨r, o, none⟩) len cap') (lo.map a.eval) (hi.map a.eval) (mx.map a.eval)).run P w =
            .ok (.slice (if m' cap' = l then some ⟨r, o, none⟩ else some ((⟨r, o, none⟩ : Addr).add (l * ie.size))) (h' - l) (m' cap' - l)) w := by
          simp [Instr.sliceAt, run_underlying hu, Instr.slice, hbb, (htt e _ hie).sizeOf w]
        refine ⟨_, hrun, ?_⟩
        by_cases hml : m' cap' = l
        · rw [if_pos hml]
          have e1 : h' - l = 0 := by omega
          have e2 : n = 0 := by omega
          have e3 : m' cap' - l = 0 := by omega
          rw [e1, e2, e3]
          exact .sl0 _ _ _ _
        · rw [if_neg hml, Hk.addr_add]
          exact .sl b r z _ _ _ _ _ hρ (by omega) (by omega) (by omega) (hx' cap' z hc hex (by omega))
      | sl0 ad _ _ _ =>
        have hl0 : l = 0 := by omega
        have hh0 : h' = 0 := by omega
        subst hl0; subst hh0
        have hbb := hb 0 (Nat.le_refl _) (fun _ => rfl)
        obtain ⟨m1, m2, m3, m4⟩ := hm 0 (Nat.le_refl _)
        have e0 : m' 0 = 0 := by omega
        have e2 : n = 0 := by omega
        rw [e0] at hbb
        refine ⟨.slice (some ad) 0 0, ?_, by rw [e2]; exact .sl0 _ _ _ _⟩
        simp [Instr.sliceAt, run_underlying hu, Instr.slice, hbb, (htt e _ hie).sizeOf w]
    split at h
    · rename_i e _ _ _ _ l hl ho
      have hu : P.underlying t = some (.slice e) := (htt t _ hl).sh
      split at h
      · rename_i ie h' hie hh
        split at h
        · rename_i b1 b2
          rw [Nat.ble_eq] at b1 b2
          cases h
          show ∃ v, _ ∧ RepG ρ v (.sl b (o + l * ie.size) (h' - l) (cap - l) none)
          refine key (fun c => c) hu hie b1 b2 (fun cap' hc he => ?_) (fun cap' hc => ⟨by omega, by omega, by omega, by omega⟩) (fun cap' z hc he _ => ?_)
          · exact bounds_ok hs ho hh b1 (by omega)
          · have he : cap' = cap := he
            show cap' - l = cap - l
            omega
        · rename_i b1 b2
          split at h
          · rename_i hsz
            rw [Nat.ble_eq] at b1 b2
            have hsz := Nat.eq_of_beq_eq_true hsz
            cases h
            show ∃ v, _ ∧ RepG ρ v (.sl b (o + l * ie.size) (h' - l) (cap - l) (some _))
            refine key (fun c => c) hu hie b1 b2 (fun cap' hc he => ?_) (fun cap' hc => ⟨by omega, by omega, by omega, by omega⟩) (fun cap' z hc he hlm => ?_)
            · exact bounds_ok hs ho hh b1 (by omega)
            · have he : o + cap' * _ = z := he
              show o + l * ie.size + (cap' - l) * _ = z
              rw [← he, hsz, Nat.add_assoc, ← Nat.add_mul]
              congr 2
              omega
          · cases h
        · cases h
      · cases h
    · rename_i e _ _ _ _ l m hl ho
      have hu : P.underlying t = some (.slice e) := (htt t _ hl).sh
      split at h
      · rename_i ie y hie
        split at h
        · rename_i h' n hh hn
          split at h
          · rename_i b1 b2 b3
            rw [Nat.ble_eq] at b1 b2 b3
            cases h
            show ∃ v, _ ∧ RepG ρ v (.sl b (o + l * ie.size) (h' - l) (n - l) none)
            refine key (fun _ => n) hu hie b1 (by omega) (fun cap' hc he => ?_) (fun cap' hc => ⟨by omega, by omega, by omega, by omega⟩) (fun cap' z hc he hlm => ?_)
            · exact bounds3_ok hs ho hh hn b1 b2 (by omega)
            · show n - l = n - l
              rfl
          · cases h
        · cases h
      · cases h
    · cases h

end
end Go.Gx

/- The ghost machine: the operations that change nothing, together. -/
namespace Go.Gx
open Go.Hk (TT TTok TyI Sh lk TyOk ShOk nth nth_eq)

/-- What is known of a program. -/
structure Ctx (P : Program) (tt : TT) (eqs : List Nat) : Prop where
  ty : TTok P tt
  tz : TTz P tt
  eqs : ∀ t ∈ eqs, seqB P t = true
  mixed : P.follows .mixedOrders = true

noncomputable def evBinA (tt : TT) (eqs : List Nat) (op : BinOp) (t : TypeId) (yo : Operand) (x y : G) : Option G := match x with
  | .agg a => match y with
    | .agg b => evAgg tt eqs op t a b
    | _ => none
  | x => evBin tt op t yo x y

noncomputable def indexG (tt : TT) (t : TypeId) (x y : G) : Option G := match natG y with
  | some i => match x with
    | .str len n => match lk tt t, Nat.blt i len with
      | some { sh := .str, .. }, true => some (.int .u8 (.ofNat (byteAt n i)))
      | _, _ => none
    | .agg l => match lk tt t with
      | some { sh := .arr n e, .. } => match lk tt e, Nat.blt i n with
        | some ie, true => ldG ie l (Nat.mul i ie.size)
        | _, _ => none
      | _ => none
    | _ => none
  | none => none

def indexAddrG (tt : TT) (t : TypeId) (x y : G) : Option G := match natG y with
  | some i => match x with
    | .sl b o len _ _ => match lk tt t with
      | some { sh := .sl e, .. } => match lk tt e, Nat.blt i len with
        | some ie, true => some (.ptr b (Nat.add o (Nat.mul i ie.size)))
        | _, _ => none
      | _ => none
    | .ptr b o => match lk tt t with
      | some { sh := .arr n e, .. } => match lk tt e, Nat.blt i n with
        | some ie, true => some (.ptr b (Nat.add o (Nat.mul i ie.size)))
        | _, _ => none
      | _ => none
    | _ => none
  | none => none

noncomputable def lenG (tt : TT) (h : GH) (t : TypeId) (x : G) : Option G := match lk tt t with
  | some ti => match x, ti.sh with
    | .sl _ _ len _ _, .sl _ => some (.int .i64 (.ofNat len))
    | .nils, .sl _ => some (.int .i64 (.ofNat 0))
    | .str len _, .str => some (.int .i64 (.ofNat len))
    | .nilm, .map _ _ => some (.int .i64 (.ofNat 0))
    | .map b, .map _ _ => match h.get b with
      | .map _ kv => some (.int .i64 (.ofNat kv.length))
      | _ => none
    | _, _ => none
  | none => none

def intsG : List Operand → S → Option (IntKind × List Int)
  | [], _ => none
  | [x], s => match evA x s with
    | .int k n => some (k, [n])
    | _ => none
  | x :: r, s => match evA x s, intsG r s with
    | .int k n, some (k', l) => match kEq k k' with
      | true => some (k, n :: l)
      | false => none
    | _, _ => none

def concSh : Sh → Bool
  | .iface => false
  | .other => false
  | _ => true

def assert1 (ti : TyI) (t : TypeId) (x : G) (ok : Bool) : Option G := match x with
  | .if_ u g => match Nat.beq u t with
    | true => some (pairG ok g true)
    | false => match ok with
      | true => zeroPair ti true
      | false => none
  | .nili => match ok with
    | true => zeroPair ti true
    | false => none
  | _ => none

def assertG (tt : TT) (t : TypeId) (x : G) (ok : Bool) : Option G := match lk tt t with
  | some ti => match concSh ti.sh with
    | true => assert1 ti t x ok
    | false => none
  | none => none

def mkIfG (tt : TT) (t : TypeId) (x : G) : Option G := match lk tt t with
  | some ti => match concSh ti.sh with
    | true => some (.if_ t x)
    | false => none
  | none => none

/-- An array's places, as those of a struct's fields. -/
def arrFs (e : TypeId) (sz : Nat) : Nat → Nat → List (Nat × TypeId)
  | 0, _ => []
  | n + 1, off => (off, e) :: arrFs e sz n (off + sz)

theorem arrFs_nth {e : TypeId} {sz : Nat} : ∀ {n off i o : Nat} {ft : TypeId}, nth (arrFs e sz n off) i = some (o, ft) → o = off + i * sz ∧ ft = e
  | 0, _, i, _, _, h => by cases i <;> cases h
  | n + 1, off, 0, o, ft, h => by cases h; exact ⟨by omega, rfl⟩
  | n + 1, off, i + 1, o, ft, h => by
    have h : nth (arrFs e sz n (off + sz)) i = some (o, ft) := h
    obtain ⟨h1, h2⟩ := arrFs_nth h
    exact ⟨by rw [h1, Nat.add_mul, Nat.one_mul]; omega, h2⟩


noncomputable def evQ (tt : TT) (eqs : List Nat) (op : Op) (s : S) (h : GH) : Option G := match op with
  | .move x => some (evA x s)
  | .assign x => some (evA x s)
  | .pick c a b => match evA c s with
    | .bool true => some (evA a s)
    | .bool false => some (evA b s)
    | _ => none
  | .nilCheck x => match evA x s with
    | .ptr b o => some (.ptr b o)
    | .fn f a b => some (.fn f a b)
    | .yield b => some (.yield b)
    | .if_ t g => some (.if_ t g)
    | _ => none
  | .binOp op t x y _ => evBinA tt eqs op t y (evA x s) (evA y s)
  | .unOp op _ x => match op, evA x s with
    | .not, .bool b => some (.bool (!b))
    | .neg, .int k n => some (.int k (wrapF k (0 - n)))
    | _, _ => none
  | .convert a b x => match lk tt a, lk tt b, evA x s with
    | some { sh := .int _, .. }, some { sh := .int k, .. }, .int _ n => some (.int k (wrapF k n))
    | some { sh := .int _, .. }, some { sh := .str, .. }, .int _ n => match n with
      | .ofNat m => match Nat.blt m 128 with
        | true => some (.str 1 m)
        | false => none
      | .negSucc _ => none
    | _, _, _ => none
  | .fieldAddr st x f => match evA x s, lk tt st with
    | .ptr b o, some { sh := .struct fs, .. } => match nth fs f with
      | some (fo, _) => some (.ptr b (Nat.add o fo))
      | none => none
    | _, _ => none
  | .load t x => match evA x s, lk tt t with
    | .ptr b o, some i => match h.get b with
      | .cells l => ldG i l o
      | _ => none
    | _, _ => none
  | .field t x f => match evA x s, lk tt t with
    | .agg l, some { sh := .struct fs, .. } => match nth fs f with
      | some (fo, ft) => match lk tt ft with
        | some i => ldG i l fo
        | none => none
      | none => none
    | _, _ => none
  | .extract x i => match evA x s with
    | .tup l => gnth l i
    | _ => none
  | .index t x y => indexG tt t (evA x s) (evA y s)
  | .indexAddr t x y => indexAddrG tt t (evA x s) (evA y s)
  | .slice t x lo hi mx => sliceG tt t s (evA x s) lo hi mx
  | .build t ⟨ps⟩ => match lk tt t with
    | some { sh := .struct fs, zero := z, .. } => match zsOf z with
      | some zs => match buildG tt fs s ps zs with
        | some l => some (.agg l)
        | none => none
      | none => none
    | some { sh := .arr n e, zero := z, .. } => match zsOf z, lk tt e with
      | some zs, some i => match Nat.blt 0 i.size, buildG tt (arrFs e i.size n 0) s ps zs with
        | true, some l => some (.agg l)
        | _, _ => none
      | _, _ => none
    | _ => none
  | .makeInterface t x => mkIfG tt t (evA x s)
  | .makeFunc (.func f) ⟨a⟩ ⟨b⟩ => some (.fn f (a.map (evA · s)) (b.map (evA · s)))
  | .lookup t m k ok => match lk tt t with
    | some { sh := .map kt et, .. } => lookG tt h (evA m s) (evA k s) kt et ok
    | _ => none
  | .typeAssert x _ t ok => assertG tt t (evA x s) ok
  | .call { callee := .builtin .len, args := ⟨[x]⟩, argTypes := ⟨[t]⟩ } => lenG tt h t (evA x s)
  | .call { callee := .builtin .cap, args := ⟨[x]⟩, argTypes := ⟨[t]⟩ } => match evA x s, lk tt t with
    | .sl _ _ _ cap none, some { sh := .sl _, .. } => some (.int .i64 (.ofNat cap))
    | .nils, some { sh := .sl _, .. } => some (.int .i64 (.ofNat 0))
    | _, _ => none
  | .call { callee := .builtin .max, args := ⟨[x, y]⟩, .. } => match evA x s, evA y s with
    | .int k a, .int k' b => match kEq k k' with
      | true => some (.int k (match intLe b a with | true => a | false => b))
      | false => none
    | _, _ => none
  | .call { callee := .builtin .min, args := ⟨[x, y]⟩, .. } => match evA x s, evA y s with
    | .int k a, .int k' b => match kEq k k' with
      | true => some (.int k (match intLe a b with | true => a | false => b))
      | false => none
    | _, _ => none
  | _ => none

section
variable {P : Program} {w : World} {tt : TT} {eqs : List Nat} {ρ : Rho} {B : Bl} {h : GH} {s : S} {a : Act} {g : G}

/-- What is shown of an operation that changes nothing. -/
def Quiet (P : Program) (ρ : Rho) (w : World) (g : G) (r : Result Next) : Prop := ∃ v, r = .ok (.value v) w ∧ RepG ρ v g

theorem quiet_of {e : Sem Value} {v : Value} (h1 : e.run P w = .ok v w) (h2 : RepG ρ v g) : Quiet P ρ w g ((do pure (.value (← e)) : Sem Next).run P w) :=
  ⟨v, by simp [h1], h2⟩

theorem evBinA_ok (hc : Ctx P tt eqs) {op : BinOp} {t : TypeId} {xo yo : Operand} {x y : G} {vx vy : Value} (hx : RepG ρ vx x) (hy : RepG ρ vy y) (h : evBinA tt eqs op t yo x y = some g) :
    ∃ v, (do eqGuard op t xo yo vx vy; binOp op t vx vy : Sem Value).run P w = .ok v w ∧ RepG ρ v g := by
  unfold evBinA at h
  split at h
  · split at h
    · exact evAgg_ok hc.ty hc.eqs hx hy h
    · cases h
  · exact evBin_ok hc.ty hx hy h

theorem indexG_ok (hc : Ctx P tt eqs) {t : TypeId} {x y : G} {vx vy : Value} (hx : RepG ρ vx x) (hy : RepG ρ vy y) (h : indexG tt t x y = some g) : ∃ v, (Instr.index t vx vy).run P w = .ok v w ∧ RepG ρ v g := by
  unfold indexG at h
  cases hn : natG y with
  | none => rw [hn] at h; cases h
  | some i =>
  rw [hn] at h
  obtain ⟨k, rfl⟩ := natG_rep hn hy
  cases x <;> simp only [reduceCtorEq] at h
  · split at h
    · rename_i hl hb
      cases h
      rw [Nat.blt_eq] at hb
      obtain ⟨sb, rfl, e1, e2⟩ := hx.strInv
      have hu : P.underlying t = some .string := (hc.ty t _ hl).sh
      have hlt : i < sb.size := by omega
      have hg : sb[i]? = some sb[i] := ByteArray.getElem?_lt' sb _ hlt
      refine ⟨.int .u8 sb[i].toNat, ?_, ?_⟩
      · have h0 : (0 : Int) ≤ (i : Int) := by omega
        simp only [Instr.index, Sem.run_bind, asIntOf, Sem.run_pure, Result.andThen_ok, run_underlying hu, h0, if_true, Int.toNat_natCast, hg]
      · have hlt' : i < sb.data.toList.length := by rw [size_length]; exact hlt
        have : byteAt _ i = (sb.data.toList[i]).toNat := e2 ▸ byteAt_pk sb.data.toList i hlt'
        rw [this]
        have e : sb.data.toList[i] = sb[i] := by simp; rfl
        rw [e]
        exact .int _ _
    · cases h
  · split at h
    · rename_i n e _ _ _ _ hl
      split at h
      · rename_i ie hle hb
        rw [Nat.blt_eq] at hb
        obtain ⟨cs, rfl, r1, r2⟩ := hx.aggInv
        have hu : P.underlying t = some (.array n e) := (hc.ty t _ hl).sh
        obtain ⟨v, hv, hr⟩ := partG_ok (P := P) (w := w) (hc.ty e _ hle) r2 r1 h
        refine ⟨v, ?_, hr⟩
        have h0 : (0 : Int) ≤ (i : Int) ∧ (i : Int) < n := by omega
        simp only [Instr.index, Sem.run_bind, asIntOf, Sem.run_pure, Result.andThen_ok, run_underlying hu, h0, and_self, if_true, Int.toNat_natCast, (hc.ty e _ hle).sizeOf w]
        exact hv
      · cases h
    · cases h

theorem indexAddrG_ok (hc : Ctx P tt eqs) {t : TypeId} {x y : G} {vx vy : Value} (hx : RepG ρ vx x) (hy : RepG ρ vy y) (h : indexAddrG tt t x y = some g) : ∃ v, (Instr.indexAt t vx vy).run P w = .ok v w ∧ RepG ρ v g := by
  unfold indexAddrG at h
  cases hn : natG y with
  | none => rw [hn] at h; cases h
  | some i =>
  rw [hn] at h
  obtain ⟨k, rfl⟩ := natG_rep hn hy
  cases x <;> simp only [reduceCtorEq] at h
  · rename_i b o
    split at h
    · rename_i n e _ _ _ _ hl
      split at h
      · rename_i ie hle hb
        rw [Nat.blt_eq] at hb
        cases h
        have hu : P.underlying t = some (.array n e) := (hc.ty t _ hl).sh
        obtain ⟨r, z, rfl, hρ⟩ := hx.ptrInv
        refine ⟨.pointer (some ⟨r, o + i * ie.size, none⟩), ?_, .ptr _ r z _ hρ⟩
        have h0 : (0 : Int) ≤ (i : Int) ∧ (i : Int) < n := by omega
        simp [Instr.indexAt, asIntOf, run_underlying hu, Instr.sureAddr, h0, (hc.ty e _ hle).sizeOf w, Hk.addr_add, hb]
      · cases h
    · cases h
  · rename_i b o len cap ex
    split at h
    · rename_i e _ _ _ _ hl
      split at h
      · rename_i ie hle hb
        rw [Nat.blt_eq] at hb
        cases h
        have hu : P.underlying t = some (.slice e) := (hc.ty t _ hl).sh
        cases hx with
        | sl _ r z _ _ _ cap' _ hρ =>
          refine ⟨.pointer (some ⟨r, o + i * ie.size, none⟩), ?_, .ptr _ r z _ hρ⟩
          have h0 : (0 : Int) ≤ (i : Int) ∧ (i : Int) < len := by omega
          simp [Instr.indexAt, asIntOf, run_underlying hu, (hc.ty e _ hle).sizeOf w, Hk.addr_add, hb]
        | sl0 => omega
      · cases h
    · cases h

theorem lenG_ok (hc : Ctx P tt eqs) (hr : HRep B ρ h w) {t : TypeId} {x : G} {vx : Value} (hx : RepG ρ vx x) (hg : lenG tt h t x = some g) (ty : TypeId) : ∃ v, (Builtin.len_ #[t] ty #[vx]).run P w = .ok v w ∧ RepG ρ v g := by
  unfold lenG at hg
  cases hl : lk tt t with
  | none => rw [hl] at hg; cases hg
  | some ti =>
  rw [hl] at hg
  simp only at hg
  have hsh := (hc.ty t _ hl).sh
  cases hs : ti.sh <;> rw [hs] at hg hsh <;> cases x <;> simp only [Option.some.injEq, reduceCtorEq] at hg
  · have hu : P.underlying t = some .string := hsh
    obtain ⟨sb, rfl, e1, e2⟩ := hx.strInv
    subst hg
    refine ⟨.int .i64 (sb.size : Int), by simp [Builtin.len_, run_underlying hu, goInt], ?_⟩
    rw [e1]; exact .int _ _
  · have hu : P.underlying t = some (.slice _) := hsh
    cases hx
    subst hg
    exact ⟨.int .i64 0, by simp [Builtin.len_, run_underlying hu, goInt], .int _ _⟩
  · have hu : P.underlying t = some (.slice _) := hsh
    subst hg
    cases hx with
    | sl => refine ⟨_, ?_, .int .i64 (Int.ofNat _)⟩; simp [Builtin.len_, run_underlying hu, goInt]
    | sl0 => exact ⟨.int .i64 0, by simp [Builtin.len_, run_underlying hu, goInt], .int _ _⟩
  · have hu : P.underlying t = some (.map _ _) := hsh
    cases hx
    subst hg
    exact ⟨.int .i64 0, by simp [Builtin.len_, run_underlying hu, goInt], .int _ _⟩
  · have hu : P.underlying t = some (.map _ _) := hsh
    rename_i b
    cases hb : h.get b <;> rw [hb] at hg <;> simp only [Option.some.injEq, reduceCtorEq] at hg
    subst hg
    obtain ⟨r, z, hρ⟩ := hx.mapρ
    have hrep := hr.atρ hb rfl hρ
    obtain ⟨es, clock, e1, e2, _⟩ := hrep
    cases hx with
    | map _ r' z' hρ' =>
      rw [hρ] at hρ'; cases hρ'
      have hlen := e2.length
      refine ⟨.int .i64 (es.size : Int), by simp [Builtin.len_, run_underlying hu, goInt, getObj, Sem.run, e1], ?_⟩
      have : es.size = es.toList.length := by simp
      rw [this, hlen]
      exact .int _ _

theorem conc_ne {sh : Sh} (h : concSh sh = true) : sh ≠ .iface ∧ sh ≠ .other := by cases sh <;> simp [concSh] at h ⊢

theorem notIface_run {t : TypeId} {ti : TyI} (hty : TyOk P t ti) (h1 : ti.sh ≠ .iface) (h2 : ti.sh ≠ .other) : ∃ d, P.underlying t = some d ∧ ∀ ms, d ≠ .interface ms := by
  have hs := hty.sh
  cases hsh : ti.sh <;> rw [hsh] at hs <;> first
    | exact absurd hsh h1
    | exact absurd hsh h2
    | (obtain ⟨x, hu, _⟩ := hs; exact ⟨_, hu, by simp⟩)
    | (obtain ⟨x, y, z, hu⟩ := hs; exact ⟨_, hu, by simp⟩)
    | (have hu : P.underlying t = some _ := hs; exact ⟨_, hu, by simp⟩)

theorem assertG_ok (hc : Ctx P tt eqs) {t xt : TypeId} {x : G} {vx : Value} {ok : Bool} (hx : RepG ρ vx x) (h : assertG tt t x ok = some g) : ∃ v, (Instr.typeAssert vx xt t ok).run P w = .ok v w ∧ RepG ρ v g := by
  unfold assertG at h
  cases hl : lk tt t with
  | none => rw [hl] at h; cases h
  | some ti =>
  rw [hl] at h
  simp only at h
  cases hcs : concSh ti.sh with
  | false => rw [hcs] at h; cases h
  | true =>
  rw [hcs] at h
  have h : assert1 ti t x ok = some g := h
  obtain ⟨h1, h2⟩ := conc_ne hcs
  obtain ⟨d, hu, hd⟩ := notIface_run (hc.ty t ti hl) h1 h2
  have fails : zeroPair ti true = some g → ok = true → (∀ v, vx = .iface t v → False) → (vx = .nilIface ∨ ∃ u v, vx = .iface u v) → ∃ v, (Instr.typeAssert vx xt t ok).run P w = .ok v w ∧ RepG ρ v g := by
    rintro hz rfl hne hv
    obtain ⟨zv, z1, z2⟩ := zeroPair_ok (P := P) (w := w) (ρ := ρ) hc.ty hc.tz hl hz
    refine ⟨_, ?_, z2⟩
    rcases hv with rfl | ⟨u, v, rfl⟩
    · cases d <;> first
        | exact absurd rfl (hd _)
        | simp [Instr.typeAssert, run_underlying hu, z1]
    · have hut : ¬ u = t := fun e => hne v (by rw [e])
      cases d <;> first
        | exact absurd rfl (hd _)
        | simp [Instr.typeAssert, run_underlying hu, z1, hut]
  unfold assert1 at h
  cases x <;> simp only [reduceCtorEq] at h
  case nili =>
    cases hx
    cases ok <;> simp only [reduceCtorEq] at h
    exact fails h rfl (by simp) (.inl rfl)
  case if_ u g' _ =>
    cases hx with
    | if_ _ v _ hv =>
      cases hb : Nat.beq u t with
      | true =>
        rw [hb] at h
        cases h
        have := Nat.eq_of_beq_eq_true hb
        subst this
        refine ⟨_, ?_, pairG_rep hv ok⟩
        cases d <;> first
          | exact absurd rfl (hd _)
          | (simp [Instr.typeAssert, run_underlying hu])
      | false =>
        rw [hb] at h
        have hne : u ≠ t := fun e => by rw [e] at hb; simp at hb
        cases ok <;> simp only [reduceCtorEq] at h
        exact fails h rfl (fun v hv => by cases hv; exact hne rfl) (.inr ⟨_, _, rfl⟩)

theorem mkIfG_ok (hc : Ctx P tt eqs) {t : TypeId} {x : G} {vx : Value} (hx : RepG ρ vx x) (h : mkIfG tt t x = some g) : ∃ v, (Instr.makeInterface t vx).run P w = .ok v w ∧ RepG ρ v g := by
  unfold mkIfG at h
  cases hl : lk tt t with
  | none => rw [hl] at h; cases h
  | some ti =>
  rw [hl] at h
  simp only at h
  cases hcs : concSh ti.sh with
  | false => rw [hcs] at h; cases h
  | true =>
  rw [hcs] at h
  cases h
  obtain ⟨h1, h2⟩ := conc_ne hcs
  exact ⟨_, Hk.concrete_of_sh (hc.ty t ti hl) h1 h2 vx, .if_ _ _ _ hx⟩

theorem evAs_rep (hs : SRep ρ s a.tmps) : ∀ l : List Operand, RepGs ρ (l.map a.eval) (l.map (evA · s))
  | [] => .nil
  | x :: l => .mk (evA_rep hs x) (evAs_rep hs l)

end
end Go.Gx

namespace Go.Gx
open Go.Hk (TT TTok TyI Sh lk TyOk ShOk nth nth_eq)

section
variable {P : Program} {w : World} {tt : TT} {eqs : List Nat} {ρ : Rho} {B : Bl} {h : GH} {s : S} {a : Act} {g : G}

theorem build_ok (hc : Ctx P tt eqs) (hs : SRep ρ s a.tmps) {t : TypeId} {fs : List (Nat × TypeId)} {agg : Bool} {sz by_ : Nat} {z : List Hk.D} {ps : List (Nat × Operand)} {zs l : List G} (hl : lk tt t = some ⟨.struct fs, agg, sz, by_, z⟩)
    (hz : zsOf z = some zs) (hb : buildG tt fs s ps zs = some l) : ∃ v, (Instr.build t (ps.toArray.map fun p => (p.1, a.eval p.2))).run P w = .ok v w ∧ RepG ρ v (.agg l) := by
  obtain ⟨inf, zv, h1, _, _, h4, h5, h6⟩ := (hc.ty t _ hl).info
  have hzr := zsOf_rep (ρ := ρ) hz (h5 _ _)
  have hzrun : (zeroValue t).run P w = .ok zv w := by simp [zeroValue, typeInfo, h1, h4]
  obtain ⟨fields, hu, hmap, hpos⟩ : ∃ fields, P.underlying t = some (.struct fields) ∧ fields.toList.map (fun f => (f.offset, f.type)) = fs ∧ ∀ f ∈ fields.toList, 0 < P.cellsOf f.type := (hc.ty t _ hl).sh
  have hsz : ∀ f ∈ fields.toList, (do pure (f.offset, ← sizeOf f.type) : Sem (Nat × Nat)).run P w = .ok (f.offset, P.cellsOf f.type) w := fun f hf => by
    simp only [Sem.run_bind, Hk.sizeOf_of_pos (hpos f hf), Result.andThen_ok, Sem.run_pure]
  have hplaces := Hk.run_mapM_array (P := P) (w := w) (fun f : Field => (do pure (f.offset, ← sizeOf f.type) : Sem (Nat × Nat))) (fun f => (f.offset, P.cellsOf f.type)) fields hsz
  obtain ⟨us, u1, u2, u3⟩ := fill_ok (P := P) (place := fun i => (fields.map fun f => (f.offset, P.cellsOf f.type))[i]?) hs hc.ty (fun i off ft ti hn hti => by
    rw [nth_eq, ← hmap, List.getElem?_map, Option.map_eq_some_iff] at hn
    obtain ⟨f, hf, he⟩ := hn
    simp only [Prod.mk.injEq] at he
    have hf' : fields[i]? = some f := by rw [← Array.getElem?_toList]; exact hf
    simp only [Array.getElem?_map, hf', Option.map_some, he.1, he.2, (hc.ty ft ti hti).cellsOf]) ps zs l zv.cells.toList hb hzr h6
  refine ⟨.agg us.toArray, ?_, agg_rep u2 u3⟩
  simp only [Instr.build, Sem.run_bind, hzrun, Result.andThen_ok, run_underlying hu]
  refine (congrArg (Result.andThen · _) hplaces).trans ?_
  simp only [Result.andThen_ok]
  have : (ps.toArray.map fun p => (p.1, a.eval p.2)).toList = ps.map fun p => (p.1, a.eval p.2) := by simp
  rw [this]
  have u1' : Instr.fill (fun x => (fields.map fun f => (f.offset, P.cellsOf f.type))[x]?) zv.cells (ps.map fun p => (p.1, a.eval p.2)) = some us.toArray := by simpa using u1
  simp only [u1', Sem.run_pure]

theorem buildA_ok (hc : Ctx P tt eqs) (hs : SRep ρ s a.tmps) {t e : TypeId} {n : Nat} {agg : Bool} {sz by_ : Nat} {z : List Hk.D} {ps : List (Nat × Operand)} {zs l : List G} {i : TyI} (hl : lk tt t = some ⟨.arr n e, agg, sz, by_, z⟩)
    (hz : zsOf z = some zs) (hi : lk tt e = some i) (hpos : 0 < i.size) (hb : buildG tt (arrFs e i.size n 0) s ps zs = some l) : ∃ v, (Instr.build t (ps.toArray.map fun p => (p.1, a.eval p.2))).run P w = .ok v w ∧ RepG ρ v (.agg l) := by
  obtain ⟨inf, zv, h1, _, _, h4, h5, h6⟩ := (hc.ty t _ hl).info
  have hzr := zsOf_rep (ρ := ρ) hz (h5 _ _)
  have hzrun : (zeroValue t).run P w = .ok zv w := by simp [zeroValue, typeInfo, h1, h4]
  have hu : P.underlying t = some (.array n e) := (hc.ty t _ hl).sh
  have hce : P.cellsOf e = i.size := (hc.ty e i hi).cellsOf
  obtain ⟨us, u1, u2, u3⟩ := fill_ok (P := P) (place := fun k => some (k * i.size, i.size)) hs hc.ty (fun k off ft ti hn hti => by
    obtain ⟨q1, q2⟩ := arrFs_nth hn
    subst q2
    rw [hi] at hti; cases hti
    rw [q1, Nat.zero_add]) ps zs l zv.cells.toList hb hzr h6
  refine ⟨.agg us.toArray, ?_, agg_rep u2 u3⟩
  have hso := Hk.sizeOf_of_pos (P := P) (w := w) (t := e) (by rw [hce]; exact hpos)
  rw [hce] at hso
  simp only [Instr.build, Sem.run_bind, hzrun, Result.andThen_ok, run_underlying hu, hso]
  have : (ps.toArray.map fun p => (p.1, a.eval p.2)).toList = ps.map fun p => (p.1, a.eval p.2) := by simp
  rw [this]
  have u1' : Instr.fill (fun k => some (k * i.size, i.size)) zv.cells (ps.map fun p => (p.1, a.eval p.2)) = some us.toArray := by simpa using u1
  simp only [u1', Sem.run_pure]

theorem kEq_iff {k k' : IntKind} (h : kEq k k' = true) : k = k' := of_decide_eq_true h

theorem evQ_ok (hc : Ctx P tt eqs) (hr : HRep B ρ h w) (hs : SRep ρ s a.tmps) {o : Oper} (hg : evQ tt eqs o.op s h = some g) : Quiet P ρ w g ((execOp a.eval o).run P w) := by
  have hA := evA_rep hs
  unfold evQ at hg
  split at hg
  · rename_i x ho
    cases hg
    simp only [execOp, ho]
    exact ⟨_, rfl, hA x⟩
  · rename_i x ho
    cases hg
    simp only [execOp, ho]
    exact ⟨_, rfl, hA x⟩
  · rename_i c x y ho
    simp only [execOp, ho]
    have hcr := hA c
    split at hg
    · rename_i hb
      cases hg
      rw [hb] at hcr
      rw [hcr.boolInv]
      exact ⟨a.eval x, by simp [asBool], hA x⟩
    · rename_i hb
      cases hg
      rw [hb] at hcr
      rw [hcr.boolInv]
      exact ⟨a.eval y, by simp [asBool], hA y⟩
    · cases hg
  · rename_i x ho
    simp only [execOp, ho]
    have hxr := hA x
    generalize a.eval x = v at hxr
    split at hg <;> simp only [Option.some.injEq, reduceCtorEq] at hg
    all_goals
      rename_i hx
      rw [hx] at hxr
      subst hg
      have hk := hxr
      cases hxr
      exact ⟨_, rfl, hk⟩
  · rename_i op t x y yt ho
    simp only [execOp, ho]
    obtain ⟨v, hv, hr'⟩ := evBinA_ok (P := P) (w := w) (xo := x) hc (hA x) (hA y) hg
    exact quiet_of hv hr'
  · rename_i op t x ho
    simp only [execOp, ho]
    have hxr := hA x
    split at hg <;> simp only [Option.some.injEq, reduceCtorEq] at hg
    · rename_i hx
      rw [hx] at hxr
      subst hg
      rw [hxr.boolInv]
      exact quiet_of (v := .bool _) (by simp [Op.unary]) (.bool _)
    · rename_i hx
      rw [hx] at hxr
      subst hg
      rw [hxr.intInv, wrapF_eq]
      exact quiet_of (v := .int _ _) (by simp [Op.unary, Op.intArith]) (.int _ _)
  · rename_i t1 t2 x ho
    simp only [execOp, ho]
    have hxr := hA x
    split at hg
    · simp only [Option.some.injEq] at hg
      rename_i h1 h2 hx
      rw [hx] at hxr
      subst hg
      have u1 : P.underlying t1 = some (.int _) := (hc.ty t1 _ h1).sh
      have u2 : P.underlying t2 = some (.int _) := (hc.ty t2 _ h2).sh
      rw [hxr.intInv, wrapF_eq]
      exact quiet_of (v := .int _ _) (by simp [convert, run_underlying u1, run_underlying u2, Conv.intToInt]) (.int _ _)
    · rename_i h1 h2 hx
      rw [hx] at hxr
      split at hg
      · rename_i m
        split at hg
        · rename_i hm
          rw [Nat.blt_eq] at hm
          cases hg
          have u1 : P.underlying t1 = some (.int _) := (hc.ty t1 _ h1).sh
          have u2 : P.underlying t2 = some .string := (hc.ty t2 _ h2).sh
          rw [hxr.intInv]
          have henc : Utf8.encode (Int.ofNat m) = ⟨#[UInt8.ofNat m]⟩ := by
            have hv : Utf8.valid (m : Int) = true := by simp [Utf8.valid]; omega
            simp [Utf8.encode, hv, hm]
          exact quiet_of (v := .string (Utf8.encode (Int.ofNat m))) (by simp [convert, run_underlying u1, run_underlying u2, Conv.intToString]) (.str _ _ _ (by rw [henc]; rfl) (by rw [henc]; simp [pk]; omega))
        · cases hg
      · cases hg
    · cases hg
  · rename_i st x f ho
    simp only [execOp, ho]
    have hxr := hA x
    split at hg
    · rename_i b o' fs _ _ _ _ hx hl
      rw [hx] at hxr
      split at hg <;> simp only [Option.some.injEq, reduceCtorEq] at hg
      rename_i fo ft hn
      subst hg
      obtain ⟨r, z, e1, hρ⟩ := hxr.ptrInv
      rw [e1]
      exact quiet_of (Hk.fieldAt_ok (P := P) (w := w) (hc.ty st _ hl).sh hn r o') (.ptr _ r z _ hρ)
    · cases hg
  · rename_i t x ho
    simp only [execOp, ho]
    have hxr := hA x
    split at hg
    · rename_i b o' i hx hl
      rw [hx] at hxr
      split at hg
      · rename_i l hb
        obtain ⟨r, z, e1, hρ⟩ := hxr.ptrInv
        obtain ⟨vs, bt, q1, q2, q3, q4, q5⟩ := hr.atρ hb rfl hρ
        rw [e1]
        obtain ⟨v, hv, hr'⟩ := ldG_ok (P := P) (hc.ty t i hl) q1 (by omega) q4 q5 hg
        exact quiet_of hv hr'
      · cases hg
    · cases hg
  · rename_i t x f ho
    simp only [execOp, ho]
    have hxr := hA x
    split at hg
    · rename_i l fs _ _ _ _ hx hl
      rw [hx] at hxr
      split at hg
      · rename_i fo ft hn
        split at hg
        · rename_i i hi
          obtain ⟨cs, e1, r1, r2⟩ := hxr.aggInv
          obtain ⟨fields, hu, hmap, _⟩ : ∃ fields, P.underlying t = some (.struct fields) ∧ fields.toList.map (fun f => (f.offset, f.type)) = fs ∧ ∀ f ∈ fields.toList, 0 < P.cellsOf f.type := (hc.ty t _ hl).sh
          rw [nth_eq, ← hmap, List.getElem?_map, Option.map_eq_some_iff] at hn
          obtain ⟨fld, hfl, he⟩ := hn
          simp only [Prod.mk.injEq] at he
          have hfl' : fields[f]? = some fld := by rw [← Array.getElem?_toList]; exact hfl
          obtain ⟨v, hv, hr'⟩ := partG_ok (P := P) (w := w) (hc.ty ft i hi) r2 r1 hg
          rw [e1]
          refine quiet_of ?_ hr'
          simp only [Instr.field, Sem.run_bind, run_underlying hu, Result.andThen_ok, hfl', asAgg, Sem.run_pure, he.1, he.2, hv]
        · cases hg
      · cases hg
    · cases hg
  · rename_i x i ho
    simp only [execOp, ho]
    have hxr := hA x
    split at hg
    · rename_i l hx
      rw [hx] at hxr
      obtain ⟨cs, e1, r1⟩ := hxr.tupInv
      rw [gnth_eq] at hg
      have hlt := (List.getElem?_eq_some_iff.1 hg).1
      have hlen := r1.1
      have hv : cs.toList[i]? = some (cs.toList[i]'(by omega)) := List.getElem?_eq_getElem (by omega)
      have hv' : cs[i]? = some (cs.toList[i]'(by omega)) := by rw [← Array.getElem?_toList]; exact hv
      rw [e1]
      exact quiet_of (v := cs.toList[i]'(by omega)) (by simp only [Instr.extract, hv', Sem.run_pure]) (r1.2 i _ _ hv hg)
    · cases hg
  · rename_i t x y ho
    simp only [execOp, ho]
    obtain ⟨v, hv, hr'⟩ := indexG_ok (P := P) (w := w) hc (hA x) (hA y) hg
    exact quiet_of hv hr'
  · rename_i t x y ho
    simp only [execOp, ho]
    obtain ⟨v, hv, hr'⟩ := indexAddrG_ok (P := P) (w := w) hc (hA x) (hA y) hg
    exact quiet_of hv hr'
  · rename_i t x lo hi mx ho
    simp only [execOp, ho]
    obtain ⟨v, hv, hr'⟩ := sliceG_ok (P := P) (w := w) hc.ty hs (hA x) hg
    exact quiet_of hv hr'
  · rename_i t ps ho
    simp only [execOp, ho]
    split at hg
    · rename_i hl
      split at hg
      · rename_i zs hz
        split at hg
        · rename_i l hb
          cases hg
          obtain ⟨v, hv, hr'⟩ := build_ok (P := P) (w := w) hc hs hl hz hb
          exact quiet_of hv hr'
        · cases hg
      · cases hg
    · rename_i hl
      split at hg
      · rename_i zs i hz hi
        split at hg
        · rename_i l hpos hb
          cases hg
          rw [Nat.blt_eq] at hpos
          obtain ⟨v, hv, hr'⟩ := buildA_ok (P := P) (w := w) hc hs hl hz hi hpos hb
          exact quiet_of hv hr'
        · cases hg
      · cases hg
    · cases hg
  · rename_i t x ho
    simp only [execOp, ho]
    obtain ⟨v, hv, hr'⟩ := mkIfG_ok (P := P) (w := w) hc (hA x) hg
    exact quiet_of hv hr'
  · rename_i f xs ys ho
    cases hg
    simp only [execOp, ho]
    have r1 := evAs_rep hs xs
    have r2 := evAs_rep hs ys
    refine quiet_of (v := .func (.func f) (xs.map a.eval).toArray (ys.map a.eval).toArray) (by simp [Instr.makeFunc]) ?_
    exact .fn f _ _ _ _ (by simp) (by simp) (fun i v g p q => r1.2 i v g (by simpa using p) q) (fun i v g p q => r2.2 i v g (by simpa using p) q)
  · rename_i t m k ok ho
    simp only [execOp, ho]
    split at hg
    · rename_i kt et _ _ _ _ hl
      have hu : P.underlying t = some (.map kt et) := (hc.ty t _ hl).sh
      obtain ⟨v, hv, hr'⟩ := lookG_ok (P := P) hc.ty hc.tz hr hu (hA m) (hA k) hg
      exact quiet_of hv hr'
    · cases hg
  · rename_i x xt t ok ho
    simp only [execOp, ho]
    obtain ⟨v, hv, hr'⟩ := assertG_ok (P := P) (w := w) (xt := xt) hc (hA x) hg
    exact quiet_of hv hr'
  · rename_i x t ho
    simp only [execOp, ho]
    obtain ⟨v, hv, hr'⟩ := lenG_ok (P := P) hc hr (hA x) hg o.type
    exact ⟨v, by simp [resolve, invoke, builtin, hv], hr'⟩
  · rename_i x t ho
    simp only [execOp, ho]
    have hxr := hA x
    generalize hv : a.eval x = v at hxr
    split at hg <;> simp only [Option.some.injEq, reduceCtorEq] at hg
    · rename_i hx hl
      rw [hx] at hxr
      subst hg
      have hu : P.underlying t = some (.slice _) := (hc.ty t _ hl).sh
      cases hxr with
      | sl =>
        rename_i hex
        have hex : _ = _ := hex
        subst hex
        refine ⟨_, ?_, .int .i64 (Int.ofNat _)⟩
        simp [resolve, invoke, builtin, hv, Builtin.cap_, run_underlying hu, goInt]
      | sl0 => exact ⟨.int .i64 0, by simp [resolve, invoke, builtin, hv, Builtin.cap_, run_underlying hu, goInt], .int _ _⟩
    · rename_i hx hl
      rw [hx] at hxr
      subst hg
      have hu : P.underlying t = some (.slice _) := (hc.ty t _ hl).sh
      cases hxr
      exact ⟨.int .i64 0, by simp [resolve, invoke, builtin, hv, Builtin.cap_, run_underlying hu, goInt], .int _ _⟩
  · rename_i x y ts ho
    simp only [execOp, ho]
    have hxr := hA x
    have hyr := hA y
    split at hg
    · rename_i k p k' q hx hy
      split at hg <;> simp only [Option.some.injEq, reduceCtorEq] at hg
      rename_i hk
      have := kEq_iff hk
      subst this
      rw [hx] at hxr; rw [hy] at hyr
      subst hg
      refine ⟨.int k (if q > p then q else p), by simp [resolve, invoke, builtin, hxr.intInv, hyr.intInv, run_max_int2], ?_⟩
      rw [intLe_eq]
      by_cases hle : q ≤ p
      · have : ¬ q > p := by omega
        simp only [hle, decide_true, this, if_false]; exact .int _ _
      · have : q > p := by omega
        simp only [hle, decide_false, this, if_true]; exact .int _ _
    · cases hg
  · rename_i x y ts ho
    simp only [execOp, ho]
    have hxr := hA x
    have hyr := hA y
    split at hg
    · rename_i k p k' q hx hy
      split at hg <;> simp only [Option.some.injEq, reduceCtorEq] at hg
      rename_i hk
      have := kEq_iff hk
      subst this
      rw [hx] at hxr; rw [hy] at hyr
      subst hg
      refine ⟨.int k (if q < p then q else p), by simp [resolve, invoke, builtin, hxr.intInv, hyr.intInv, run_min_int2], ?_⟩
      rw [intLe_eq]
      by_cases hle : p ≤ q
      · have : ¬ q < p := by omega
        simp only [hle, decide_true, this, if_false]; exact .int _ _
      · have : q < p := by omega
        simp only [hle, decide_false, this, if_true]; exact .int _ _
    · cases hg
  · cases hg

end
end Go.Gx
