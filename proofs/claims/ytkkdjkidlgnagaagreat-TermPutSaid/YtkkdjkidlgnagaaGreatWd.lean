/- The ghost machine: maps are made and written; slices are made. (And what it stands on.) -/
import Derived.Test.YtkkdjkidlgnagaaGreatWc
import Derived.AtR
import Derived.Orders
import Derived.KernelRfl
import Derived.Laws.AppendOwn
import Derived.Test.YtkkdjkidlgnagaaGreatWa
import Derived.Test.YtkkdjkidlgnagaaGreatWb
import Derived.Laws.StructEq
set_option linter.unusedSimpArgs false
set_option linter.unusedVariables false

/- A block of cells that is owned by name is owned by address from then on. -/
namespace Go.Hk

/-- Cells in a block of their own. -/
def CellsA (b : Nat) (t : TypeId) (ds : List D) : Asn where
  P := fun _ I w bs => bs = [b] ∧ ∃ vs, w.heap[b]? = some (.cells vs t (0, 0)) ∧ RepL I noMu vs.toList ds ∧ ∀ v ∈ vs.toList, v.oneCell' = true
  mono := fun h ⟨h1, vs, h2, h3, h4⟩ => ⟨h1, vs, h2, h3.mono h (Mu.le_refl _), h4⟩
  loc := fun h ⟨h1, vs, h2, h3⟩ => ⟨h1, vs, (h b (by simp [h1])).trans h2, h3⟩

mutual
def refD (id b : Nat) : D → D
  | .ref i off => bif Nat.beq i id then .raw (.pointer (some ⟨b, off, none⟩)) else .ref i off
  | .agg cs => .agg (refL id b cs)
  | .tup cs => .tup (refL id b cs)
  | d => d
def refL (id b : Nat) : List D → List D
  | [] => []
  | d :: r => refD id b d :: refL id b r
end
def refE (id b : Nat) : Env → Env
  | [] => []
  | (t, d) :: r => (t, refD id b d) :: refE id b r
def refB (id b : Nat) : Blk → Blk
  | .cells t sz cs => .cells t sz (refL id b cs)
  | x => x
def refS (id b : Nat) : St → St
  | [] => []
  | (i, some x) :: r => (i, some (refB id b x)) :: refS id b r
  | (i, none) :: r => (i, none) :: refS id b r

theorem refL_eq (id b : Nat) : ∀ l : List D, refL id b l = l.map (refD id b)
  | [] => rfl
  | d :: r => by simp [refL, refL_eq id b r]

section
variable {P : Program} {n : Nat} {F : List Nat} {Q : DQ} {tt : TT} {env env' : Env} {st st' : St} {ids ids' : List Nat} {todo : List DI} {I J : Imm} {μ : Mu} {w : World} {a : Act} {d : D}

theorem RepD.refd {id b : Nat} (hm : μ id = some (.pointer (some ⟨b, 0, none⟩))) {v : Value} (h : RepD I μ v d) : RepD I μ v (refD id b d) := by
  have at_ : ∀ {l : List D} {i : Nat} {x : D}, (refL id b l)[i]? = some x → ∃ y, l[i]? = some y ∧ x = refD id b y := by
    intro l i x hx
    rw [refL_eq, List.getElem?_map] at hx
    cases hl : l[i]? with
    | none => rw [hl] at hx; cases hx
    | some y => rw [hl] at hx; cases hx; exact ⟨y, rfl, rfl⟩
  induction h with
  | ref b' i off h =>
    simp only [refD]
    cases hb : Nat.beq i id with
    | false => exact .ref b' i off h
    | true =>
      rw [Nat.eq_of_beq_eq_true hb, hm] at h
      cases h
      exact .raw _ rfl
  | agg cs ds hl h1 _ ih =>
    refine .agg cs _ (by rw [refL_eq, List.length_map, hl]) h1 fun i c x hc hx => ?_
    obtain ⟨y, hy, rfl⟩ := at_ hx
    exact ih i c y hc hy
  | tup cs ds hl _ ih =>
    refine .tup cs _ (by rw [refL_eq, List.length_map, hl]) fun i c x hc hx => ?_
    obtain ⟨y, hy, rfl⟩ := at_ hx
    exact ih i c y hc hy
  | undef v => exact .undef v
  | imm v x hx => exact .imm v x hx
  | nils => exact .nils
  | own i len a cap hm => exact .own i len a cap hm
  | ip b o t cs off vs hcell hrep => exact .ip b o t cs off vs hcell hrep
  | elp b i len cap k sz f hm => exact .elp b i len cap k sz f hm
  | mapr i b hm => exact .mapr i b hm
  | iter i b hm => exact .iter i b hm
  | fn f first cap df dc hf hc h1 h2 _ _ => exact .fn f first cap df dc hf hc h1 h2
  | iface t v d h _ => exact .iface t v d h
  | guard c want v d h hu _ => exact .guard c want v d h hu
  | clip a len es hr => exact .clip a len es hr
  | slc b i off len cap hm hl hx => exact .slc b i off len cap hm hl hx
  | yld b i hm => exact .yld b i hm
  | raw v h => exact .raw v h
  | hv v i k us cs h hi h1 => exact .hv v i k us cs h hi h1

theorem refE_lk {id b : Nat} : ∀ {env : Env} {t : Nat} {d : D}, lk (refE id b env) t = some d → ∃ d0, lk env t = some d0 ∧ d = refD id b d0
  | [], t, d, h => by simp [refE, lk] at h
  | (s, x) :: r, t, d, h => by
    simp only [refE] at h
    by_cases hs : s = t
    · subst hs; rw [lk_cons_self] at h ⊢; cases h; exact ⟨x, rfl, rfl⟩
    · rw [lk_cons_ne _ _ hs] at h ⊢; exact refE_lk h

theorem refS_live {id b i : Nat} {x : Blk} : ∀ {st : St}, live (refS id b st) i x → ∃ b0, live st i b0 ∧ x = refB id b b0
  | [], h => by simp [refS, live, lk] at h
  | (k, some y) :: r, h => by
    simp only [refS] at h
    rcases live_cons.1 h with ⟨h1, h2⟩ | ⟨h1, h2⟩
    · exact ⟨y, by unfold live; rw [h1, lk_cons_self], h2⟩
    · obtain ⟨b0, q1, q2⟩ := refS_live h2
      exact ⟨b0, live_cons.2 (.inr ⟨h1, q1⟩), q2⟩
  | (k, none) :: r, h => by
    simp only [refS] at h
    obtain ⟨h1, h2⟩ := live_del.1 h
    obtain ⟨b0, q1, q2⟩ := refS_live h2
    exact ⟨b0, live_del.2 ⟨h1, q1⟩, q2⟩

theorem live_refS {id b i : Nat} {x : Blk} : ∀ {st : St}, live st i x → live (refS id b st) i (refB id b x)
  | [], h => by simp [live, lk] at h
  | (k, some y) :: r, h => by
    simp only [refS]
    rcases live_cons.1 h with ⟨h1, h2⟩ | ⟨h1, h2⟩
    · exact live_cons.2 (.inl ⟨h1, by rw [h2]⟩)
    · exact live_cons.2 (.inr ⟨h1, live_refS h2⟩)
  | (k, none) :: r, h => by
    simp only [refS]
    obtain ⟨h1, h2⟩ := live_del.1 h
    exact live_del.2 ⟨h1, live_refS h2⟩

theorem dgo_cells2hp (id j : Nat) {t : TypeId} {sz : Nat} {ds : List D} (hl : lk st id = some (some (.cells t sz ds))) (hnm : nmL ds = [])
    (h : ∀ b, DGo P n F Q todo (refE id b env) ((j, some (.hp (CellsA b t ds))) :: (id, none) :: refS id b st) ids') : DGo P n F Q todo env st (j :: ids') := by
  refine dgo_sem fun I μ a w hc => ?_
  obtain ⟨g, hg, hs, b, us, rfl, hheap, hrep, hone⟩ := hc.blk id _ hl
  obtain ⟨p1, p2⟩ := hc.toStRep.retell (st1 := refS id b st) (fun i x hlb => by
    obtain ⟨b0, q1, rfl⟩ := refS_live hlb
    refine ⟨b0, q1, fun gb hb => ?_⟩
    cases b0 with
    | cells t sz cs =>
      obtain ⟨hs, b', us, e1, e2, e3, e4⟩ := hb
      exact ⟨by rw [refL_eq, List.length_map, hs], b', us, e1, e2, ⟨by rw [refL_eq, List.length_map, e3.1], fun i v y hv hy => by
        rw [refL_eq, List.getElem?_map] at hy
        cases hc' : cs[i]? with
        | none => rw [hc'] at hy; cases hy
        | some z => rw [hc'] at hy; cases hy; exact (e3.2 i v z hv hc').refd hg⟩, e4⟩
    | _ => exact hb)
  obtain ⟨q1, q2, q3⟩ := StRep.relay (R := [id]) (new := [(j, hpG [] [b], .hp (CellsA b t ds))]) (ids' := ids') p1
    (fun p hp b' hb => by
      rw [List.mem_singleton.1 hp] at hb
      have := ownB_hp.1 hb
      rw [List.mem_singleton.1 this]
      exact ⟨id, _, _, by simp, live_refS hl, hg, rfl⟩)
    (fun p hp q hq b _ _ => by rw [List.mem_singleton.1 hp, List.mem_singleton.1 hq]) (Imm.le_refl I) hc.imm (fun b o h => .inl h)
    (fun _ p hp => by rw [List.mem_singleton.1 hp]; exact ⟨[], [b], rfl, rfl, us, hheap, hrep.sub (fun j hj => by rw [hnm] at hj; cases hj), hone⟩)
  refine ⟨I, _, refE id b env, _, ids', q2, fun t d hd => ?_, p2.trans q3, .of_le q1, h b⟩
  obtain ⟨d0, h0, rfl⟩ := refE_lk hd
  exact ((hc.env t d0 h0).refd hg).mono (Imm.le_refl I) q1

/-- What is owned becomes immutable; a slot says what it is from then on. -/
theorem dgo_hpFreezeD (id t : Nat) {A : Asn} {d : D} (d' : D) (hl : lk st id = some (some (.hp A))) (ht : lk env t = some d)
    (hA : ∀ vs I J μ w bs, A.P vs I w bs → I.le J → (∀ b ∈ bs, J b = w.heap[b]?) → ∀ v, RepD J μ v d → RepD J μ v d')
    (h : DGo P n F Q todo ((t, d') :: env) ((id, none) :: st) ids) : DGo P n F Q todo env st ids := by
  refine dgo_sem fun I μ a w hc => ?_
  obtain ⟨g, hg, vs, bs, rfl, hP⟩ := hc.blk id _ hl
  have hbs : ∀ b ∈ bs, I b = none ∧ b < w.heap.size := fun b hb => hc.apart id _ _ b hl hg (ownB_hp.2 hb)
  have hle : I.le (I.plus bs w) := fun b o h => by
    have : memN bs b = false := by
      cases hm : memN bs b with
      | false => rfl
      | true => rw [(hbs b (memN_iff.1 hm)).1] at h; cases h
    simp [Imm.plus, this, h]
  have hJb : ∀ b ∈ bs, I.plus bs w b = w.heap[b]? := fun b hb => by simp [Imm.plus, memN_iff.2 hb]
  obtain ⟨q1, q2, q3⟩ := StRep.relay (R := [id]) (new := []) (ids' := ids) (J := I.plus bs w) hc.toStRep (fun p hp => by cases hp) (fun p hp => by cases hp) hle
    (fun b o h => by
      unfold Imm.plus at h
      split at h
      · exact h
      · exact hc.imm b o h)
    (fun b o h => by
      unfold Imm.plus at h
      split at h
      · rename_i hm; exact .inr ⟨⟨id, _, _, by simp, hl, hg, ownB_hp.2 (memN_iff.1 hm)⟩, fun p hp => by cases hp⟩
      · exact .inl h)
    (fun _ p hp => by cases hp)
  refine ⟨_, _, (t, d') :: env, _, ids, q2, fun t' d hd => ?_, q3, .of_le q1, h⟩
  by_cases e : t = t'
  · subst e
    rw [lk_cons_self] at hd
    cases hd
    exact hA vs I _ _ w bs hP hle hJb _ ((hc.env t _ ht).mono hle q1)
  · rw [lk_cons_ne _ _ e] at hd
    exact (hc.env t' d hd).mono hle q1

end
end Go.Hk

/- Trees that are owned: their nodes by path, and nodes that are changed. -/
namespace Go.Hk
open Go.Proofs

/-- Steps: which row (true: the second one), and which of its nodes. -/
abbrev Stps := List (Bool × Nat)

def kidA : An → Bool × Nat → Option (An × Nat × Nat)
  | .mk s _ _ _ v ks u ps, (r, k) => match r with
    | false => (ks[k]?).map fun c => (c, blkOf v, k * szA s)
    | true => match s with
      | true => (ps[k]?).map fun c => (c, blkOf u, k * szA false)
      | false => none
/-- The node to which steps lead, and where it lies. -/
def locA (a : An) (b off : Nat) : Stps → Option (An × Nat × Nat)
  | [] => some (a, b, off)
  | p :: r => match kidA a p with
    | some (c, b', off') => locA c b' off' r
    | none => none
def setA : An → Bool × Nat → An → An
  | .mk s o n x v ks u ps, (r, k), c => match r with
    | false => .mk s o n x v (ks.set k c) u ps
    | true => .mk s o n x v ks u (ps.set k c)
/-- A tree with another node there. -/
def putA (a : An) : Stps → An → An
  | [], a2 => a2
  | p :: r, a2 => match kidA a p with
    | some (c, _, _) => setA a p (putA c r a2)
    | none => a

/-- One world and a later one, in which only the cells of one node are others. -/
structure Upd (w w' : World) (b off sz : Nat) : Prop where
  other : ∀ k, k ≠ b → w'.heap[k]? = w.heap[k]?
  same : ∀ cur ty k, w.heap[b]? = some (.cells cur ty k) → ∃ cur', w'.heap[b]? = some (.cells cur' ty k) ∧ cur'.size = cur.size ∧ ∀ i, (i < off ∨ off + sz ≤ i) → cur'[i]? = cur[i]?

theorem Upd.row {w w' : World} {b off sz : Nat} (h : Upd w w' b off sz) {ty : TypeId} {s : Nat} {v : Value} {len : Nat} (hr : rowW w ty s v len) : rowW w' ty s v len := by
  rcases hr with hr | ⟨h0, b', cap, cur, rfl, h1, h2, h3, h4⟩
  · exact .inl hr
  · by_cases e : b' = b
    · subst e
      obtain ⟨cur', q1, q2, _⟩ := h.same cur ty (0, 0) h1
      exact .inr ⟨h0, b', cap, cur', rfl, q1, h2, h3, by rw [q2, h4]⟩
    · exact .inr ⟨h0, b', cap, cur, rfl, (h.other b' e).trans h1, h2, h3, h4⟩

theorem Upd.at {w w' : World} {b off sz : Nat} (h : Upd w w' b off sz) {b1 off1 : Nat} {cs : List Value} (ha : atW w b1 off1 cs) (hd : b1 = b → off1 + cs.length ≤ off ∨ off + sz ≤ off1) : atW w' b1 off1 cs := by
  obtain ⟨cur, ty, k, h1, h2⟩ := ha
  by_cases e : b1 = b
  · subst e
    obtain ⟨cur', q1, q2, q3⟩ := h.same cur ty k h1
    refine ⟨cur', ty, k, q1, fun j c hj => ?_⟩
    have hlt := (List.getElem?_eq_some_iff.1 hj).1
    rw [q3 (off1 + j) (by rcases hd rfl with h | h <;> omega)]
    exact h2 j c hj
  · exact ⟨cur, ty, k, (h.other b1 e).trans h1, h2⟩

theorem upd_setRow {w : World} {b off : Nat} {cur : Array Value} {ty : TypeId} {k : Nat × Nat} {cs : List Value} {off0 sz : Nat} (h : w.heap[b]? = some (.cells cur ty k)) (hf : off + cs.length ≤ cur.size) (h0 : off0 ≤ off ∧ off + cs.length ≤ off0 + sz) :
    Upd w (w.setRow b (cur.toList.take off ++ cs ++ cur.toList.drop (off + cs.length)).toArray) b off0 sz := by
  refine ⟨fun k hk => setRow_other w b k _ hk, fun cur1 ty1 k1 h1 => ?_⟩
  rw [h] at h1; cases h1
  refine ⟨_, setRow_at h, ?_, fun i hi => ?_⟩
  · have hl2 : cur.toList.length = cur.size := Array.length_toList
    show (cur.toList.take off ++ cs ++ cur.toList.drop (off + cs.length)).length = cur.size
    rw [List.length_append, List.length_append, List.length_take, List.length_drop]
    omega
  · have := splice_get (cur := cur.toList) (off := off) (cs := cs) (by simpa using hf) i
    rcases hi with hi | hi
    · rw [if_pos (by omega)] at this; simpa using this
    · rw [if_neg (by omega), if_neg (by omega)] at this; simpa using this

/-- The blocks of a node's place, and of what hangs below it. -/
theorem kidA_blk {a c : An} {p : Bool × Nat} {b off : Nat} (h : kidA a p = some (c, b, off)) : b ∈ anB a ∧ (∀ k ∈ anB c, k ∈ anB a) ∧ ((anB a).Nodup → (anB c).Nodup ∧ b ∉ anB c) := by
  obtain ⟨s, o, n, x, v, ks, u, ps⟩ := a
  obtain ⟨r, k⟩ := p
  have mem : ∀ {l : List An} {i : Nat} {c : An}, l[i]? = some c → ∀ k ∈ anB c, k ∈ ansB l := by
    intro l
    induction l with
    | nil => intro i c h; simp at h
    | cons y r ih =>
      intro i c h k hk
      simp only [ansB, List.mem_append]
      cases i with
      | zero => simp at h; subst h; exact .inl hk
      | succ i => exact .inr (ih (by simpa using h) k hk)
  have nd : ∀ {l : List An} {i : Nat} {c : An}, l[i]? = some c → (ansB l).Nodup → (anB c).Nodup := by
    intro l
    induction l with
    | nil => intro i c h; simp at h
    | cons y r ih =>
      intro i c h hn
      simp only [ansB] at hn
      have hn := List.nodup_append.1 hn
      cases i with
      | zero => simp at h; subst h; exact hn.1
      | succ i => exact ih (by simpa using h) hn.2.1
  have bl : ∀ {l : List An} {v : Value} {i : Nat} {c : An}, l[i]? = some c → rowBl v l.length = [blkOf v] := by
    intro l v i c h
    cases l with
    | nil => simp at h
    | cons => rfl
  cases r with
  | false =>
    simp only [kidA, Option.map_eq_some_iff, Prod.mk.injEq] at h
    obtain ⟨c', hc, rfl, rfl, rfl⟩ := h
    simp only [anB, bl hc]
    refine ⟨by simp, fun k hk => by simp [mem hc k hk], fun hn => ?_⟩
    have h1 := (List.nodup_append.1 hn).1
    have h2 := List.nodup_append.1 h1
    exact ⟨nd hc h2.2.1, fun hb => h2.2.2 _ (by simp) _ (mem hc _ hb) rfl⟩
  | true =>
    cases s with
    | false => simp [kidA] at h
    | true =>
      simp only [kidA, Option.map_eq_some_iff, Prod.mk.injEq] at h
      obtain ⟨c', hc, rfl, rfl, rfl⟩ := h
      simp only [anB, bl hc]
      refine ⟨by simp, fun k hk => by simp [mem hc k hk], fun hn => ?_⟩
      have h1 := (List.nodup_append.1 hn).2.1
      have h2 := List.nodup_append.1 h1
      exact ⟨nd hc h2.2.1, fun hb => h2.2.2 _ (by simp) _ (mem hc _ hb) rfl⟩

theorem kidA_at {w : World} {a c : An} {p : Bool × Nat} {b off : Nat} (h : kidA a p = some (c, b, off)) (hw : anW w a) : atW w b off (cA c) ∧ anW w c := by
  obtain ⟨s, o, n, x, v, ks, u, ps⟩ := a
  obtain ⟨r, k⟩ := p
  simp only [anW] at hw
  cases r with
  | false =>
    simp only [kidA, Option.map_eq_some_iff, Prod.mk.injEq] at h
    obtain ⟨c', hc, rfl, rfl, rfl⟩ := h
    obtain ⟨_, h2, h3⟩ := ansW_get hw.1.2 hc
    rw [Nat.zero_add] at h2
    exact ⟨h2, h3⟩
  | true =>
    cases s with
    | false => simp [kidA] at h
    | true =>
      simp only [kidA, Option.map_eq_some_iff, Prod.mk.injEq] at h
      obtain ⟨c', hc, rfl, rfl, rfl⟩ := h
      obtain ⟨_, h2, h3⟩ := ansW_get (hw.2 rfl).2 hc
      rw [Nat.zero_add] at h2
      exact ⟨h2, h3⟩

theorem locA_at {w : World} : ∀ {p : Stps} {a : An} {b off : Nat} {a' : An} {b' off' : Nat}, locA a b off p = some (a', b', off') → atW w b off (cA a) → anW w a → atW w b' off' (cA a') ∧ anW w a'
  | [], a, b, off, a', b', off', h, h1, h2 => by
    simp only [locA, Option.some.injEq, Prod.mk.injEq] at h
    obtain ⟨rfl, rfl, rfl⟩ := h
    exact ⟨h1, h2⟩
  | q :: r, a, b, off, a', b', off', h, h1, h2 => by
    simp only [locA] at h
    split at h
    · rename_i c b1 off1 hk
      obtain ⟨q1, q2⟩ := kidA_at hk h2
      exact locA_at h q1 q2
    · cases h

theorem locA_append : ∀ {p : Stps} {a : An} {b off : Nat} {a' : An} {b' off' : Nat} {q : Stps}, locA a b off p = some (a', b', off') → locA a b off (p ++ q) = locA a' b' off' q
  | [], a, b, off, a', b', off', q, h => by
    simp only [locA, Option.some.injEq, Prod.mk.injEq] at h
    obtain ⟨rfl, rfl, rfl⟩ := h
    rfl
  | s :: r, a, b, off, a', b', off', q, h => by
    simp only [locA, List.cons_append] at h ⊢
    split at h
    · exact locA_append h
    · cases h

/-- Where the changed node lies: in the block of the root's place, or below. -/
theorem locA_blk : ∀ {p : Stps} {a : An} {b off : Nat} {a' : An} {b' off' : Nat}, locA a b off p = some (a', b', off') → (p = [] ∧ b' = b ∧ off' = off ∧ a' = a) ∨ (p ≠ [] ∧ b' ∈ anB a)
  | [], a, b, off, a', b', off', h => by
    simp only [locA, Option.some.injEq, Prod.mk.injEq] at h
    obtain ⟨rfl, rfl, rfl⟩ := h
    exact .inl ⟨rfl, rfl, rfl, rfl⟩
  | q :: r, a, b, off, a', b', off', h => by
    simp only [locA] at h
    split at h
    · rename_i c b1 off1 hk
      obtain ⟨k1, k2, _⟩ := kidA_blk hk
      refine .inr ⟨by simp, ?_⟩
      rcases locA_blk h with ⟨_, rfl, _⟩ | ⟨_, h⟩
      · exact k1
      · exact k2 _ h
    · cases h

theorem cA_setA (a c : An) (p : Bool × Nat) : cA (setA a p c) = cA a := by
  obtain ⟨s, o, n, x, v, ks, u, ps⟩ := a
  obtain ⟨r, k⟩ := p
  cases r <;> cases s <;> rfl

/-- A row in which one node is another one. -/
theorem ansW_set {w w' : World} {s : Bool} {b b' off' sz : Nat} (hu : Upd w w' b' off' sz) {c c' : An} : ∀ {l : List An} {i k : Nat}, ansW w s b i l → l[k]? = some c → sortA c' = s → atW w' b ((i + k) * szA s) (cA c') → anW w' c' →
    (∀ x ∈ ansB l, x = b' → x ∈ anB c) → (ansB l).Nodup → (b' = b → off' = (i + k) * szA s ∧ sz = szA s) → ansW w' s b i (l.set k c')
  | [], i, k, _, h, _, _, _, _, _, _ => by simp at h
  | y :: r, i, 0, hw, h, h1, h2, h3, h4, h5, h6 => by
    simp at h; subst h
    simp only [ansW] at hw
    simp only [List.set_cons_zero, ansW]
    simp only [ansB] at h4 h5
    have hnd := List.nodup_append.1 h5
    refine ⟨⟨h1, h2, h3⟩, ?_⟩
    have hne : ∀ x ∈ ansB r, x ≠ b' := fun x hx e => by
      subst e
      exact hnd.2.2 x (h4 x (List.mem_append_right _ hx) rfl) x hx rfl
    have : ∀ {l : List An} {j : Nat}, i + 1 ≤ j → (∀ x ∈ ansB l, x ≠ b') → ansW w s b j l → ansW w' s b j l := by
      intro l
      induction l with
      | nil => intro j _ _ _; simp [ansW]
      | cons z q ih =>
        intro j hj hb hw
        simp only [ansW] at hw ⊢
        simp only [ansB, List.mem_append] at hb
        refine ⟨⟨hw.1.1, hu.at hw.1.2.1 fun e => ?_, anW_loc (fun k hk => hu.other k (hb k (.inl hk))) hw.1.2.2⟩, ih (by omega) (fun x hx => hb x (.inr hx)) hw.2⟩
        obtain ⟨e1, e2⟩ := h6 e.symm
        right
        rw [e1, e2, Nat.add_zero, ← Nat.succ_mul]
        exact Nat.mul_le_mul_right _ hj
    exact this (Nat.le_refl _) hne hw.2
  | y :: r, i, k + 1, hw, h, h1, h2, h3, h4, h5, h6 => by
    simp only [ansW] at hw
    simp only [List.set_cons_succ, ansW]
    simp only [ansB] at h4 h5
    have hnd := List.nodup_append.1 h5
    have hc : r[k]? = some c := by simpa using h
    have mem : ∀ x ∈ anB c, x ∈ ansB r := by
      have : ∀ {l : List An} {i : Nat}, l[i]? = some c → ∀ k ∈ anB c, k ∈ ansB l := by
        intro l
        induction l with
        | nil => intro i h; simp at h
        | cons y r ih =>
          intro i h k hk
          simp only [ansB, List.mem_append]
          cases i with
          | zero => simp at h; subst h; exact .inl hk
          | succ i => exact .inr (ih (by simpa using h) k hk)
      exact this hc
    refine ⟨⟨hw.1.1, hu.at hw.1.2.1 fun e => ?_, anW_loc (fun x hx => hu.other x fun e => ?_) hw.1.2.2⟩, ansW_set hu hw.2 hc h1 (by rwa [show i + 1 + k = i + (k + 1) by omega]) h3 (fun x hx e => h4 x (List.mem_append_right _ hx) e) hnd.2.1 (fun e => by rw [show i + 1 + k = i + (k + 1) by omega]; exact h6 e)⟩
    · obtain ⟨e1, e2⟩ := h6 e.symm
      left
      rw [e1, cA_length, hw.1.1, ← Nat.succ_mul]
      exact Nat.mul_le_mul_right _ (by omega)
    · subst e
      exact hnd.2.2 x hx x (mem x (h4 x (List.mem_append_left _ hx) rfl)) rfl

/-- A tree in which one node is another one. -/
theorem upd_tree {w w' : World} : ∀ {p : Stps} {a : An} {b off : Nat} {a' : An} {b' off' : Nat} {a2 : An}, locA a b off p = some (a', b', off') → Upd w w' b' off' (szA (sortA a')) → sortA a2 = sortA a' → atW w' b' off' (cA a2) → anW w' a2 →
    atW w b off (cA a) → anW w a → b ∉ anB a → (anB a).Nodup → atW w' b off (cA (putA a p a2)) ∧ anW w' (putA a p a2) ∧ sortA (putA a p a2) = sortA a
  | [], a, b, off, a', b', off', a2, h, hu, hs, h1, h2, _, _, _, _ => by
    simp only [locA, Option.some.injEq, Prod.mk.injEq] at h
    obtain ⟨rfl, rfl, rfl⟩ := h
    exact ⟨h1, h2, hs⟩
  | q :: r, a, b, off, a', b', off', a2, h, hu, hs, h1, h2, h3, h4, hb, hnd => by
    have hblk := locA_blk h
    simp only [locA] at h
    simp only [putA]
    split at h
    · rename_i c b1 off1 hk
      obtain ⟨k1, k2, k3⟩ := kidA_blk hk
      obtain ⟨k4, k5⟩ := k3 hnd
      obtain ⟨k6, k7⟩ := kidA_at hk h4
      obtain ⟨i1, i2, i3⟩ := upd_tree h hu hs h1 h2 k6 k7 k5 k4
      have hbb : b' ∈ anB a := by
        rcases hblk with ⟨h, _⟩ | ⟨_, h⟩
        · cases h
        · exact h
      have hne : b ≠ b' := fun e => hb (e ▸ hbb)
      rw [cA_setA]
      refine ⟨hu.at h3 fun e => absurd e hne, ?_, ?_⟩
      · obtain ⟨s, o, n, x, v, ks, u, ps⟩ := a
        obtain ⟨rr, k⟩ := q
        have hin : b' = b1 ∨ b' ∈ anB c := by
          rcases locA_blk h with ⟨_, e, _⟩ | ⟨_, h⟩
          · exact .inl e
          · exact .inr h
        have hoff : b' = b1 → off' = off1 ∧ a' = c := fun e => by
          rcases locA_blk h with ⟨_, _, e1, e2⟩ | ⟨_, h⟩
          · exact ⟨e1, e2⟩
          · exact absurd (e ▸ h) k5
        simp only [anW] at h4
        simp only [anB] at hnd
        cases rr with
        | false =>
          simp only [kidA, Option.map_eq_some_iff, Prod.mk.injEq] at hk
          obtain ⟨c', hc, rfl, rfl, rfl⟩ := hk
          simp only [setA, anW, List.length_set]
          have hn1 := List.nodup_append.1 hnd
          have hn2 := List.nodup_append.1 hn1.1
          have hbl : rowBl v ks.length = [blkOf v] := by cases ks with | nil => simp at hc | cons => rfl
          have hsrt : sortA c' = s := (ansW_get h4.1.2 hc).1
          have hmem : ∀ x ∈ anB c', x ∈ ansB ks := fun x hx => by
            have : ∀ {l : List An} {i : Nat}, l[i]? = some c' → ∀ k ∈ anB c', k ∈ ansB l := by
              intro l
              induction l with
              | nil => intro i h; simp at h
              | cons y r ih =>
                intro i h k hk
                simp only [ansB, List.mem_append]
                cases i with
                | zero => simp at h; subst h; exact .inl hk
                | succ i => exact .inr (ih (by simpa using h) k hk)
            exact this hc x hx
          have hb1n : blkOf v ∉ ansB ks := fun h => hn2.2.2 _ (by rw [hbl]; simp) _ h rfl
          refine ⟨⟨hu.row h4.1.1, ?_⟩, fun hs => ?_⟩
          · refine ansW_set hu h4.1.2 hc (i3.trans hsrt) (by rw [Nat.zero_add]; exact i1) i2 (fun x hx e => ?_) hn2.2.1 (fun e => ?_)
            · rcases hin with e2 | h
              · exact absurd (by rw [← e2, ← e]; exact hx) hb1n
              · rw [e]; exact h
            · rw [Nat.zero_add]
              obtain ⟨e1, e2⟩ := hoff e
              exact ⟨e1, by rw [e2, hsrt]⟩
          · subst hs
            obtain ⟨m1, m2⟩ := h4.2 rfl
            have hno : ∀ x ∈ rowBl u ps.length ++ ansB ps, x ≠ b' := fun x hx e => by
              subst e
              refine hn1.2.2 x ?_ x hx rfl
              rcases hin with e2 | h
              · rw [e2, hbl]; simp
              · simp [hmem _ h]
            refine ⟨hu.row m1, ansW_loc (fun hne => hu.other _ fun e => ?_) (fun x hx => hu.other x fun e => hno x (by simp [hx]) e) m2⟩
            exact hno _ (by cases ps with | nil => exact absurd rfl hne | cons => simp [rowBl]) e
        | true =>
          cases s with
          | false => simp [kidA] at hk
          | true =>
            simp only [kidA, Option.map_eq_some_iff, Prod.mk.injEq] at hk
            obtain ⟨c', hc, rfl, rfl, rfl⟩ := hk
            simp only [setA, anW, List.length_set]
            have hn1 := List.nodup_append.1 hnd
            have hn2 := List.nodup_append.1 hn1.2.1
            have hbl : rowBl u ps.length = [blkOf u] := by cases ps with | nil => simp at hc | cons => rfl
            obtain ⟨m1, m2⟩ := h4.2 rfl
            have hsrt : sortA c' = false := (ansW_get m2 hc).1
            have hmem : ∀ x ∈ anB c', x ∈ ansB ps := fun x hx => by
              have : ∀ {l : List An} {i : Nat}, l[i]? = some c' → ∀ k ∈ anB c', k ∈ ansB l := by
                intro l
                induction l with
                | nil => intro i h; simp at h
                | cons y r ih =>
                  intro i h k hk
                  simp only [ansB, List.mem_append]
                  cases i with
                  | zero => simp at h; subst h; exact .inl hk
                  | succ i => exact .inr (ih (by simpa using h) k hk)
              exact this hc x hx
            have hb1n : blkOf u ∉ ansB ps := fun h => hn2.2.2 _ (by rw [hbl]; simp) _ h rfl
            have hno : ∀ x ∈ rowBl v ks.length ++ ansB ks, x ≠ b' := fun x hx e => by
              subst e
              refine hn1.2.2 x hx x ?_ rfl
              rcases hin with e2 | h
              · rw [e2, hbl]; simp
              · simp [hmem _ h]
            refine ⟨⟨hu.row h4.1.1, ansW_loc (fun hne => hu.other _ fun e => hno _ (by cases ks with | nil => exact absurd rfl hne | cons => simp [rowBl]) e) (fun x hx => hu.other x fun e => hno x (by simp [hx]) e) h4.1.2⟩, fun _ => ⟨hu.row m1, ?_⟩⟩
            refine ansW_set hu m2 hc (i3.trans hsrt) (by rw [Nat.zero_add]; exact i1) i2 (fun x hx e => ?_) hn2.2.1 (fun e => ?_)
            · rcases hin with e2 | h
              · exact absurd (by rw [← e2, ← e]; exact hx) hb1n
              · rw [e]; exact h
            · rw [Nat.zero_add]
              obtain ⟨e1, e2⟩ := hoff e
              exact ⟨e1, by rw [e2, hsrt]⟩
      · obtain ⟨s, o, n, x, v, ks, u, ps⟩ := a
        obtain ⟨rr, k⟩ := q
        cases rr <;> rfl
    · cases h

end Go.Hk

/- Contracts of term and hearthref01: the part at a path. -/
namespace Go.Hk
open Go.Proofs

def dInts (l : List Int) : List (List V) := l.map fun x => [.int .i64 x]
theorem dInts_get {l : List Int} {i : Nat} {x : Int} (h : l[i]? = some x) : (dInts l)[i]? = some [.int .i64 x] := by simp [dInts, h]
@[simp] theorem dInts_length (l : List Int) : (dInts l).length = l.length := by simp [dInts]

def zTm : Tm := .mk 0 0 [] [] []

def kidT : Tm → Int → Option Tm
  | .mk _ _ _ ks _, k => if 0 ≤ k then ks[k.toNat]? else none
def leadsT : Tm → List Int → Option Tm
  | t, [] => some t
  | t, k :: r => match kidT t k with
    | some c => leadsT c r
    | none => none

set_option maxRecDepth 100000 in
set_option maxHeartbeats 1000000 in
theorem leads_ok (t : Tm) (path : List Int) (hw : wideT t) : PureC Tryz.prog 55 [.agg (dTmc t), .sl (dInts path)] (.tup [.agg (dTmc ((leadsT t path).getD zTm)), .bool (leadsT t path).isSome]) := by
  refine effc_of ttP2_ok Tryz.func55 (by decide +kernel) rfl [1, 2, 3, 4] rfl rfl ?_
  refine qg [] rfl (by simp) ?_
  refine dgo_enter (fun y : Tm × List Int => [(2, .ref 1 0), (4, .ref 2 0), (1, .imm (.sl (dInts y.2))), (5, .imm (.bool false))])
    (fun y => [(1, some (.immb 26 5 (dTmc y.1))), (2, some (.cells 26 5 [.imm (.int .i64 0), .imm (.int .i64 0), .imm (.str []), .nils, .nils]))]) [3, 4] (fun y => y.2.length) (fun y => leadsT y.1 y.2 = leadsT t path ∧ wideT y.1) (t, path)
    ⟨rfl, hw⟩ ⟨rfl, rfl, rfl, rfl, trivial⟩ ⟨rfl, rfl, trivial⟩ rfl fun y hi ih => ?_
  obtain ⟨t1, p1⟩ := y
  obtain ⟨hi1, hi2⟩ := hi
  simp only at hi1 hi2
  refine qd [] rfl (by simp) ?_
  refine dgo_cond rfl (fun h => ?_) (fun h => ?_)
  · simp at h
    cases p1 with
    | nil => simp at h
    | cons p r =>
      obtain ⟨o, n, x, ks, ps⟩ := t1
      have hks := hi2.1
      refine qd [] rfl (by simp) ?_
      refine dgo_enter (fun i : Nat => [(14, .imm (.int .i64 i)), (13, .imm (.int .i64 ks.length)), (12, .imm (.sl (dTms ks))), (2, .ref 1 0), (4, .ref 2 0), (1, .imm (.sl (dInts (p :: r)))), (5, .imm (.bool false))])
        (fun _ => [(1, some (.immb 26 5 (dTmc (.mk o n x ks ps)))), (2, some (.cells 26 5 [.imm (.int .i64 0), .imm (.int .i64 0), .imm (.str []), .nils, .nils]))]) [3, 4] (fun i => ks.length - i) (fun i => i ≤ ks.length ∧ ∀ j : Nat, j < i → (j : Int) ≠ p) 0
        ⟨Nat.zero_le _, fun j h => by omega⟩ ⟨rfl, tInt (by simp), rfl, rfl, rfl, rfl, rfl, trivial⟩ ⟨rfl, rfl, trivial⟩ rfl fun i hj ih2 => ?_
      obtain ⟨hj1, hj2⟩ := hj
      refine qd [] rfl (by simp) ?_
      refine dgo_cond rfl (fun h => ?_) (fun h => ?_)
      · simp at h
        obtain ⟨k, hk⟩ := has_get h
        refine qd [] rfl (by simp) ?_
        refine qi_ rfl (c := dTmc k) (fun _ => ⟨by simp, by simpa using dTms_get hk, by simp⟩) (by simp) ?_
        refine qg [] rfl (by simp) ?_
        refine qi_ rfl (c := [.int .i64 p]) (fun _ => ⟨by simp, by simp [dInts], rfl⟩) (by simp) ?_
        refine qg [] rfl (by simp) ?_
        refine dgo_cond rfl (fun h2 => ?_) (fun h2 => ?_)
        · have e : (i : Int) = p := by simpa using h2
          subst e
          refine qd [] rfl (by refine ⟨rfl, ?_⟩; simp [allP, dInts] <;> omega) ?_
          have hkid : kidT (.mk o n x ks ps) (i : Int) = some k := by simp [kidT, hk]
          refine dgo_again (ih (k, r) (by simp) ⟨?_, wideTs_mem hi2.2.2.2 (List.mem_of_getElem? hk)⟩) ⟨rfl, rfl, rfl, rfl, trivial⟩ ⟨rfl, rfl, trivial⟩ rfl
          rw [← hi1]
          simp only [leadsT, hkid]
        · have e : (i : Int) ≠ p := by simpa using h2
          refine qd [] rfl (by simp) ?_
          exact dgo_again (ih2 (i + 1) (by omega) ⟨by omega, fun j hlt => by
            by_cases hji : j = i
            · rw [hji]; exact e
            · exact hj2 j (by omega)⟩) ⟨tInt (w64 (by omega) (by omega)), rfl, rfl, rfl, rfl, rfl, rfl, trivial⟩ ⟨rfl, rfl, trivial⟩ rfl
      · simp at h
        refine dgo_exit rfl ?_
        refine qd [] rfl (by simp) ?_
        have hkid : kidT (.mk o n x ks ps) p = none := by
          simp only [kidT]
          by_cases h0 : 0 ≤ p
          · rw [if_pos h0]
            rw [List.getElem?_eq_none_iff]
            by_cases hlt : p.toNat < ks.length
            · exact absurd (by omega) (hj2 p.toNat (by omega))
            · omega
          · rw [if_neg h0]
        have e : leadsT t path = none := by rw [← hi1]; simp only [leadsT, hkid]
        rw [e]
        exact dgo_ret ⟨_, rfl, rfl, trivial⟩
  · simp at h
    have hp : p1 = [] := by
      cases p1 with
      | nil => rfl
      | cons => simp at h
    subst hp
    refine dgo_exit rfl ?_
    refine qd [] rfl (by simp) ?_
    have e : leadsT t path = some t1 := by rw [← hi1]; rfl
    rw [e]
    exact dgo_ret ⟨_, rfl, tV rfl, trivial⟩

/-! ### What parts of formed terms are -/
mutual
theorem wideP_of : ∀ p : Ty, nodesTy p ≤ 1000000 → wideP p
  | .mk s n x ps, h => by
    simp only [nodesTy] at h
    have h1 := widePs_of ps (by omega)
    exact ⟨by have := h1.1; omega, h1.2⟩
theorem widePs_of : ∀ l : List Ty, nodesTys l ≤ 1000000 → l.length ≤ nodesTys l ∧ widePs l
  | [], _ => ⟨by simp [nodesTys], trivial⟩
  | p :: r, h => by
    simp only [nodesTys] at h
    have h1 := wideP_of p (by omega)
    have h2 := widePs_of r (by omega)
    have h3 : 1 ≤ nodesTy p := by obtain ⟨_, _, _, _⟩ := p; simp only [nodesTy]; omega
    exact ⟨by have := h2.1; simp only [List.length_cons, nodesTys]; omega, h1, h2.2⟩
end

theorem node_pats {op n : Int} {x : Str} {k p : Nat} (h : nodeB op n x k p = true) : p ≤ 5 := by
  have sp : ∀ {n : Int} {x : Str} {p : Nat} {a b : Bool}, spareB n x p a b false = true → p ≤ 5 := by
    intro n x p a b h
    simp only [spareB, Bool.false_or, Bool.and_eq_true, beq_iff_eq] at h
    have := h.2
    omega
  unfold nodeB at h
  by_cases h15 : op = 15
  · subst h15
    simp [inI] at h
    omega
  · by_cases e0 : op = 1
    · rw [if_pos e0] at h; simp only [Bool.and_eq_true] at h; first | exact sp h.2 | exact sp h.1.2
    rw [if_neg e0] at h
    by_cases e1 : op = 2
    · rw [if_pos e1] at h; simp only [Bool.and_eq_true] at h; first | exact sp h.2 | exact sp h.1.2
    rw [if_neg e1] at h
    by_cases e2 : op = 3 ∨ op = 21 ∨ op = 25 ∨ op = 28
    · rw [if_pos e2] at h; simp only [Bool.and_eq_true] at h; first | exact sp h.2 | exact sp h.1.2
    rw [if_neg e2] at h
    by_cases e3 : op = 4
    · rw [if_pos e3] at h; simp only [Bool.and_eq_true] at h; first | exact sp h.2 | exact sp h.1.2
    rw [if_neg e3] at h
    by_cases e4 : op = 5 ∨ op = 27
    · rw [if_pos e4] at h; simp only [Bool.and_eq_true] at h; first | exact sp h.2 | exact sp h.1.2
    rw [if_neg e4] at h
    by_cases e5 : op = 7
    · rw [if_pos e5] at h; simp only [Bool.and_eq_true] at h; first | exact sp h.2 | exact sp h.1.2
    rw [if_neg e5] at h
    by_cases e6 : op = 8
    · rw [if_pos e6] at h; simp only [Bool.and_eq_true] at h; first | exact sp h.2 | exact sp h.1.2
    rw [if_neg e6] at h
    by_cases e7 : op = 14
    · rw [if_pos e7] at h; simp only [Bool.and_eq_true] at h; first | exact sp h.2 | exact sp h.1.2
    rw [if_neg e7] at h
    rw [if_neg h15] at h
    by_cases e9 : op = 16 ∨ op = 17 ∨ op = 19 ∨ op = 20 ∨ op = 23 ∨ op = 26
    · rw [if_pos e9] at h; simp only [Bool.and_eq_true] at h; first | exact sp h.2 | exact sp h.1.2
    rw [if_neg e9] at h
    by_cases e10 : op = 24
    · rw [if_pos e10] at h; simp only [Bool.and_eq_true] at h; first | exact sp h.2 | exact sp h.1.2
    rw [if_neg e10] at h
    by_cases e11 : op = 6 ∨ op = 9 ∨ op = 10 ∨ op = 11 ∨ op = 12 ∨ op = 13 ∨ op = 18 ∨ op = 22
    · rw [if_pos e11] at h; simp only [Bool.and_eq_true] at h; first | exact sp h.2 | exact sp h.1.2
    rw [if_neg e11] at h
    cases h

mutual
theorem wide_of : ∀ t : Tm, nodesTm t = true → cntT t ≤ 1000000 → wideT t
  | .mk op n x ks ps, h, hc => by
    simp only [nodesTm, Bool.and_eq_true] at h
    obtain ⟨⟨h1, h2⟩, h3⟩ := h
    simp only [cntT] at hc
    have hl := len_cnt ks
    have hp := node_pats h1
    refine ⟨by omega, by omega, fun p hp => ?_, wides_of ks h3 (by omega)⟩
    have := pat_small (List.all_eq_true.1 h2 p hp)
    exact wideP_of p (by omega)
theorem wides_of : ∀ ts : List Tm, nodesTms ts = true → cntTs ts ≤ 1000000 → wideTs ts
  | [], _, _ => trivial
  | t :: r, h, hc => by
    simp only [nodesTms, Bool.and_eq_true] at h
    simp only [cntTs] at hc
    exact ⟨wide_of t h.1 (by omega), wides_of r h.2 (by omega)⟩
end

theorem kidT_mem {t c : Tm} {k : Int} (h : kidT t k = some c) : ∃ o n x ks ps, t = .mk o n x ks ps ∧ c ∈ ks := by
  obtain ⟨o, n, x, ks, ps⟩ := t
  refine ⟨o, n, x, ks, ps, rfl, ?_⟩
  simp only [kidT] at h
  split at h
  · exact List.mem_of_getElem? h
  · cases h

theorem nodesTms_mem : ∀ {ts : List Tm} {t : Tm}, nodesTms ts = true → t ∈ ts → nodesTm t = true
  | [], _, _, h => by cases h
  | x :: r, t, hn, h => by
    simp only [nodesTms, Bool.and_eq_true] at hn
    rcases List.mem_cons.1 h with rfl | h
    · exact hn.1
    · exact nodesTms_mem hn.2 h

theorem leadsT_sub : ∀ {path : List Int} {t r : Tm}, leadsT t path = some r → nodesTm t = true → nodesTm r = true ∧ cntT r ≤ cntT t
  | [], t, r, h, hn => by
    simp only [leadsT, Option.some.injEq] at h
    subst h
    exact ⟨hn, Nat.le_refl _⟩
  | k :: p, t, r, h, hn => by
    simp only [leadsT] at h
    split at h
    · rename_i c hk
      obtain ⟨o, n, x, ks, ps, rfl, hm⟩ := kidT_mem hk
      simp only [nodesTm, Bool.and_eq_true] at hn
      have h1 := leadsT_sub h (nodesTms_mem hn.2 hm)
      have h2 := cntTs_mem hm
      exact ⟨h1.1, by simp only [cntT]; omega⟩
    · cases h

theorem wide_termB {t : Tm} (h : termB t = true) : wideT t := by
  obtain ⟨_, _, _, h4⟩ := termB_all t h
  simp only [termB, Bool.and_eq_true] at h
  exact wide_of t h.2 (by omega)

end Go.Hk

/- Contracts of hearthref01: terms that are the same, parts, parts that are put. Contract of term.At. -/
namespace Go.Hk
open Go.Proofs

mutual
def eqTy : Ty → Ty → Bool
  | .mk s n x ps, .mk s' n' x' ps' => s == s' && n == n' && x == x' && eqTys ps ps'
def eqTys : List Ty → List Ty → Bool
  | [], [] => true
  | a :: r, b :: q => eqTy a b && eqTys r q
  | _, _ => false
end
mutual
theorem eqTy_iff : ∀ a b : Ty, eqTy a b = true ↔ a = b
  | .mk s n x ps, .mk s' n' x' ps' => by
    simp only [eqTy, Bool.and_eq_true, beq_iff_eq, Ty.mk.injEq, eqTys_iff ps ps', and_assoc]
theorem eqTys_iff : ∀ a b : List Ty, eqTys a b = true ↔ a = b
  | [], [] => by simp [eqTys]
  | a :: r, b :: q => by simp only [eqTys, Bool.and_eq_true, eqTy_iff a b, eqTys_iff r q, List.cons.injEq]
  | [], _ :: _ => by simp [eqTys]
  | _ :: _, [] => by simp [eqTys]
end
mutual
def eqTm : Tm → Tm → Bool
  | .mk o n x ks ps, .mk o' n' x' ks' ps' => o == o' && n == n' && x == x' && eqTys ps ps' && eqTms ks ks'
def eqTms : List Tm → List Tm → Bool
  | [], [] => true
  | a :: r, b :: q => eqTm a b && eqTms r q
  | _, _ => false
end
mutual
theorem eqTm_iff : ∀ a b : Tm, eqTm a b = true ↔ a = b
  | .mk o n x ks ps, .mk o' n' x' ks' ps' => by
    simp only [eqTm, Bool.and_eq_true, beq_iff_eq, Tm.mk.injEq, eqTys_iff ps ps', eqTms_iff ks ks', and_assoc]
    constructor
    · rintro ⟨a, b, c, d, e⟩; exact ⟨a, b, c, e, d⟩
    · rintro ⟨a, b, c, d, e⟩; exact ⟨a, b, c, e, d⟩
theorem eqTms_iff : ∀ a b : List Tm, eqTms a b = true ↔ a = b
  | [], [] => by simp [eqTms]
  | a :: r, b :: q => by simp only [eqTms, Bool.and_eq_true, eqTm_iff a b, eqTms_iff r q, List.cons.injEq]
  | [], _ :: _ => by simp [eqTms]
  | _ :: _, [] => by simp [eqTms]
end
theorem eqTys_len {a b : List Ty} (h : a.length ≠ b.length) : eqTys a b = false := by
  cases he : eqTys a b with
  | false => rfl
  | true => exact absurd (congrArg List.length ((eqTys_iff a b).1 he)) h
theorem eqTms_len {a b : List Tm} (h : a.length ≠ b.length) : eqTms a b = false := by
  cases he : eqTms a b with
  | false => rfl
  | true => exact absurd (congrArg List.length ((eqTms_iff a b).1 he)) h

set_option maxRecDepth 100000 in
theorem SamePat_ok : ∀ a b : Ty, wideP a → PureC Tryz.prog 58 [.agg (dTyc a), .agg (dTyc b)] (.bool (eqTy a b))
  | .mk s n x ps, .mk s' n' x' qs, hw => by
    obtain ⟨hw1, hw2⟩ := hw
    refine effc_of ttP2_ok Tryz.func58 (by decide +kernel) rfl [1, 2, 3] rfl rfl ?_
    refine qg [] rfl (by simp [cxOf]) ?_
    refine dgo_cond rfl (fun h => ?_) (fun h => ?_)
    · refine qd [] rfl (by simp) ?_
      refine dgo_ret ⟨_, rfl, tV (congrArg _ ?_), trivial⟩
      symm
      simp only [eqTy]
      by_cases hl : ps.length = qs.length
      · simp [hl] at h
        cases he : eqTys ps qs <;> grind
      · rw [eqTys_len hl, Bool.and_false]
    have hl : s = s' ∧ n = n' ∧ x = x' ∧ ps.length = qs.length := by
      simp at h
      grind
    obtain ⟨rfl, rfl, rfl, hl⟩ := hl
    refine qd [] rfl (by simp) ?_
    refine dgo_enter (fun i : Nat => [(5, .imm (.int .i64 i)), (2, .ref 1 0), (3, .ref 2 0)]) (fun _ => [(1, some (.immb 49 4 (dTyc (.mk s n x ps)))), (2, some (.immb 49 4 (dTyc (.mk s n x qs))))]) [3] (fun i => ps.length - i) (fun i => i ≤ ps.length ∧ eqTys ps qs = eqTys (ps.drop i) (qs.drop i)) 0
      ⟨Nat.zero_le _, rfl⟩ ⟨rfl, rfl, rfl, trivial⟩ ⟨rfl, rfl, trivial⟩ rfl fun i hi ih => ?_
    obtain ⟨hi1, hi2⟩ := hi
    refine qd [] rfl (by simp) ?_
    refine dgo_cond rfl (fun h1 => ?_) (fun h1 => ?_)
    · simp at h1
      obtain ⟨p, hp⟩ := has_get h1
      obtain ⟨q, hq⟩ := has_get (l := qs) (i := i) (by omega)
      rw [get_drop hp, get_drop hq] at hi2
      simp only [eqTys] at hi2
      refine qd [] rfl (by simp) ?_
      refine qi_ rfl (c := dTyc p) (fun _ => ⟨by simp, by simpa using dTys_get hp, by simp⟩) (by simp) ?_
      refine qg [] rfl (by simp) ?_
      refine qi_ rfl (c := dTyc q) (fun _ => ⟨by simp, by simpa using dTys_get hq, by simp⟩) (by simp) ?_
      refine qg [] rfl (by simp) ?_
      refine g_pcall rfl (fun _ => SamePat_ok p q (widePs_mem hw2 (List.mem_of_getElem? hp))) (by simp) ?_
      refine qg [] rfl (by simp; rfl) ?_
      refine dgo_cond rfl (fun h2 => ?_) (fun h2 => ?_)
      · refine qd [] rfl (by simp) ?_
        refine dgo_ret ⟨_, rfl, tV (congrArg _ ?_), trivial⟩
        have : eqTy p q = false := by simpa using h2
        simp [eqTy, hi2, this]
      · refine qd [] rfl (by simp) ?_
        have : eqTy p q = true := by simpa using h2
        rw [this, Bool.true_and] at hi2
        exact dgo_again (ih (i + 1) (by omega) ⟨by omega, hi2⟩) ⟨tInt (w64 (by omega) (by omega)), rfl, rfl, trivial⟩ ⟨rfl, rfl, trivial⟩ rfl
    · simp at h1
      rw [List.drop_eq_nil_of_le (by omega), List.drop_eq_nil_of_le (by omega)] at hi2
      refine dgo_exit rfl ?_
      refine qd [] rfl (by simp) ?_
      refine dgo_ret ⟨_, rfl, tV (congrArg _ ?_), trivial⟩
      simp [eqTy, hi2, eqTys]
termination_by a => SizeOf.sizeOf a
decreasing_by
  all_goals
    have := List.sizeOf_lt_of_mem (List.mem_of_getElem? hp)
    simp_wf
    omega

set_option maxRecDepth 100000 in
set_option maxHeartbeats 1000000 in
theorem Same_ok : ∀ a b : Tm, wideT a → PureC Tryz.prog 22 [.agg (dTmc a), .agg (dTmc b)] (.bool (eqTm a b))
  | .mk s n x ks ps, .mk s' n' x' js qs, hw => by
    obtain ⟨hw1, hw2, hw3, hw4⟩ := hw
    refine effc_of ttP2_ok Tryz.func22 (by decide +kernel) rfl [1, 2, 3] rfl rfl ?_
    refine qg [] rfl (by simp [cxOf]) ?_
    refine dgo_cond rfl (fun h => ?_) (fun h => ?_)
    · refine qd [] rfl (by simp) ?_
      refine dgo_ret ⟨_, rfl, tV (congrArg _ ?_), trivial⟩
      symm
      simp only [eqTm]
      by_cases hl : ps.length = qs.length
      · by_cases hk : ks.length = js.length
        · simp [hl, hk] at h
          cases he : eqTys ps qs <;> cases he2 : eqTms ks js <;> grind
        · rw [eqTms_len hk, Bool.and_false]
      · rw [eqTys_len hl, Bool.and_false, Bool.false_and]
    have hl : s = s' ∧ n = n' ∧ x = x' ∧ ks.length = js.length ∧ ps.length = qs.length := by
      simp at h
      grind
    clear h
    obtain ⟨rfl, rfl, rfl, hk, hl⟩ := hl
    refine qd [] rfl (by simp) ?_
    refine dgo_enter (fun i : Nat => [(5, .imm (.int .i64 i)), (2, .ref 1 0), (3, .ref 2 0)]) (fun _ => [(1, some (.immb 26 5 (dTmc (.mk s n x ks ps)))), (2, some (.immb 26 5 (dTmc (.mk s n x js qs))))]) [3] (fun i => ps.length - i) (fun i => i ≤ ps.length ∧ eqTys ps qs = eqTys (ps.drop i) (qs.drop i)) 0
      ⟨Nat.zero_le _, rfl⟩ ⟨rfl, rfl, rfl, trivial⟩ ⟨rfl, rfl, trivial⟩ rfl fun i hi ih => ?_
    obtain ⟨hi1, hi2⟩ := hi
    refine qd [] rfl (by simp) ?_
    refine dgo_cond rfl (fun h1 => ?_) (fun h1 => ?_)
    · simp at h1
      obtain ⟨p, hp⟩ := has_get h1
      obtain ⟨q, hq⟩ := has_get (l := qs) (i := i) (by omega)
      rw [get_drop hp, get_drop hq] at hi2
      simp only [eqTys] at hi2
      refine qd [] rfl (by simp) ?_
      refine qi_ rfl (c := dTyc p) (fun _ => ⟨by simp, by simpa using dTys_get hp, by simp⟩) (by simp) ?_
      refine qg [] rfl (by simp) ?_
      refine qi_ rfl (c := dTyc q) (fun _ => ⟨by simp, by simpa using dTys_get hq, by simp⟩) (by simp) ?_
      refine qg [] rfl (by simp) ?_
      refine g_pcall rfl (fun _ => SamePat_ok p q (hw3 _ (List.mem_of_getElem? hp))) (by simp) ?_
      refine qg [] rfl (by simp; rfl) ?_
      refine dgo_cond rfl (fun h2 => ?_) (fun h2 => ?_)
      · refine qd [] rfl (by simp) ?_
        refine dgo_ret ⟨_, rfl, tV (congrArg _ ?_), trivial⟩
        have : eqTy p q = false := by simpa using h2
        simp [eqTm, hi2, this]
      · refine qd [] rfl (by simp) ?_
        have : eqTy p q = true := by simpa using h2
        rw [this, Bool.true_and] at hi2
        exact dgo_again (ih (i + 1) (by omega) ⟨by omega, hi2⟩) ⟨tInt (w64 (by omega) (by omega)), rfl, rfl, trivial⟩ ⟨rfl, rfl, trivial⟩ rfl
    simp at h1
    rw [List.drop_eq_nil_of_le (by omega), List.drop_eq_nil_of_le (by omega)] at hi2
    clear ih
    refine dgo_exit rfl ?_
    refine qd [] rfl (by simp) ?_
    refine dgo_enter (fun i : Nat => [(6, .imm (.int .i64 i)), (2, .ref 1 0), (3, .ref 2 0)]) (fun _ => [(1, some (.immb 26 5 (dTmc (.mk s n x ks ps)))), (2, some (.immb 26 5 (dTmc (.mk s n x js qs))))]) [3] (fun i => ks.length - i) (fun i => i ≤ ks.length ∧ eqTms ks js = eqTms (ks.drop i) (js.drop i)) 0
      ⟨Nat.zero_le _, rfl⟩ ⟨rfl, rfl, rfl, trivial⟩ ⟨rfl, rfl, trivial⟩ rfl fun i hj ih => ?_
    obtain ⟨hj1, hj2⟩ := hj
    refine qd [] rfl (by simp) ?_
    refine dgo_cond rfl (fun h1 => ?_) (fun h1 => ?_)
    · simp at h1
      obtain ⟨p, hp⟩ := has_get h1
      obtain ⟨q, hq⟩ := has_get (l := js) (i := i) (by omega)
      rw [get_drop hp, get_drop hq] at hj2
      simp only [eqTms] at hj2
      refine qd [] rfl (by simp) ?_
      refine qi_ rfl (c := dTmc p) (fun _ => ⟨by simp, by simpa using dTms_get hp, by simp⟩) (by simp) ?_
      refine qg [] rfl (by simp) ?_
      refine qi_ rfl (c := dTmc q) (fun _ => ⟨by simp, by simpa using dTms_get hq, by simp⟩) (by simp) ?_
      refine qg [] rfl (by simp) ?_
      refine g_pcall rfl (fun _ => Same_ok p q (wideTs_mem hw4 (List.mem_of_getElem? hp))) (by simp) ?_
      refine qg [] rfl (by simp; rfl) ?_
      refine dgo_cond rfl (fun h2 => ?_) (fun h2 => ?_)
      · refine qd [] rfl (by simp) ?_
        refine dgo_ret ⟨_, rfl, tV (congrArg _ ?_), trivial⟩
        have : eqTm p q = false := by simpa using h2
        simp [eqTm, hj2, this]
      · refine qd [] rfl (by simp) ?_
        have : eqTm p q = true := by simpa using h2
        rw [this, Bool.true_and] at hj2
        exact dgo_again (ih (i + 1) (by omega) ⟨by omega, hj2⟩) ⟨tInt (w64 (by omega) (by omega)), rfl, rfl, trivial⟩ ⟨rfl, rfl, trivial⟩ rfl
    · simp at h1
      rw [List.drop_eq_nil_of_le (by omega), List.drop_eq_nil_of_le (by omega)] at hj2
      refine dgo_exit rfl ?_
      refine qd [] rfl (by simp) ?_
      refine dgo_ret ⟨_, rfl, tV (congrArg _ ?_), trivial⟩
      simp [eqTm, hi2, hj2, eqTys, eqTms]
termination_by a => SizeOf.sizeOf a
decreasing_by
  all_goals
    have := List.sizeOf_lt_of_mem (List.mem_of_getElem? hp)
    simp_wf
    omega

end Go.Hk

/- Contracts: the part at a path (the reference's, and term.At), and the reference's term with another part there. -/
namespace Go.Hk
open Go.Proofs

/-- A copy's values are named. -/
theorem copy_open {vs : List Value} {I : Imm} {w : World} {bs : List Nat} {o n : Int} {x : Str} {ks : List Tm} {ps : List Ty} (h : (CopyA true (dTmc (.mk o n x ks ps))).P vs I w bs) :
    ∃ y : { y : Value × List An × Value × List An // vAs y.2.1 = dTms ks ∧ vAs y.2.2.2 = dTys ps }, vs = [y.1.1, y.1.2.2.1] ∧ (SubA (.mk true o n x y.1.1 y.1.2.1 y.1.2.2.1 y.1.2.2.2)).P [] I w bs := by
  obtain ⟨⟨s, o', n', x', v, js, u, qs⟩, h1, h2, h3, h4⟩ := h
  simp only [sortA] at h1
  subst h1
  simp only [vA, dTmc, List.cons.injEq, V.int.injEq, V.str.injEq, V.sl.injEq, true_and, and_true] at h2
  obtain ⟨rfl, rfl, rfl, h5, h6⟩ := h2
  exact ⟨⟨(v, js, u, qs), h5, h6⟩, h3, h4⟩

/-- What is owned below a node becomes immutable. -/
theorem sub_frz {o n : Int} {x : Str} {v u : Value} {js qs : List An} {ks : List Tm} {ps : List Ty} (h5 : vAs js = dTms ks) (h6 : vAs qs = dTys ps) {vs : List Value} {I J : Imm} {w : World} {bs : List Nat}
    (h : (SubA (.mk true o n x v js u qs)).P vs I w bs) (_ : I.le J) (hJ : ∀ b ∈ bs, J b = w.heap[b]?) (cs : List Value) (hc : RepL J noMu cs [.imm (.int .i64 o), .imm (.int .i64 n), .imm (.str x), .raw v, .raw u]) : RepVL J cs (dTmc (.mk o n x ks ps)) := by
  obtain ⟨h1, _, h3⟩ := h
  have hf := an_frz h3 (fun k hk => hJ k (by rw [h1]; exact hk))
  have e : cs = cA (.mk true o n x v js u qs) := by
    have hl := hc.1
    match cs, hl with
    | [c0, c1, c2, c3, c4], _ =>
      have e0 := (hc.2 0 _ _ rfl rfl).immInv.intInv
      have e1 := (hc.2 1 _ _ rfl rfl).immInv.intInv
      have e2 := (hc.2 2 _ _ rfl rfl).immInv.strEq
      have e3 := (hc.2 3 _ _ rfl rfl).rawInv
      have e4 := (hc.2 4 _ _ rfl rfl).rawInv
      rw [e0, e1, e2, e3, e4]; rfl
  rw [e]
  simpa [vA, dTmc, h5, h6] using hf

def atR (t : Tm) (path : List Int) : Tm × Int := bif termB t then (match leadsT t path with | some r => (r, 0) | none => (zTm, 2)) else (zTm, 2)

set_option maxRecDepth 100000 in
theorem At_ok (t : Tm) (path : List Int) (h : checkB t = termB t) : PureC Tryz.prog 16 [.agg (dTmc t), .sl (dInts path)] (.tup [.agg (dTmc (atR t path).1), .int .i64 (atR t path).2]) := by
  refine effc_of ttP2_ok Tryz.func16 (by decide +kernel) rfl [1, 2, 3, 4, 5] rfl rfl ?_
  refine qg [] rfl (by simp) ?_
  refine g_pcall rfl (fun _ => Check_ok t) (by simp) ?_
  rw [h]
  cases ht : termB t with
  | false =>
    refine qg [] rfl (by simp) ?_
    refine dgo_cond rfl (fun h => ?_) (fun h => by simp [errI] at h)
    refine qd [] rfl (by simp) ?_
    have e : atR t path = (zTm, 2) := by simp [atR, ht]
    rw [e]
    exact dgo_ret ⟨_, rfl, tV rfl, trivial⟩
  | true =>
    have hw := wide_termB ht
    refine qg [] rfl (by simp) ?_
    refine dgo_cond rfl (fun h => by simp [errI] at h) (fun h => ?_)
    refine qd [] rfl (by simp) ?_
    refine g_pcall rfl (fun _ => leads_ok t path hw) (by simp) ?_
    cases hl : leadsT t path with
    | none =>
      refine qg [] rfl (by simp) ?_
      refine dgo_cond rfl (fun h => ?_) (fun h => by simp at h)
      refine qd [] rfl (by simp) ?_
      have e : atR t path = (zTm, 2) := by simp [atR, ht, hl]
      rw [e]
      exact dgo_ret ⟨_, rfl, tV rfl, trivial⟩
    | some r =>
      have hr : nodesTm r = true ∧ cntT r ≤ cntT t := leadsT_sub hl (by simp only [termB, Bool.and_eq_true] at ht; exact ht.2)
      have hc := (termB_all t ht).2.2.2
      have hwr := wide_of r hr.1 (by omega)
      have e : atR t path = (r, 0) := by simp [atR, ht, hl]
      rw [e]
      obtain ⟨o, n, x, ks, ps⟩ := r
      refine qg [] rfl (by simp) ?_
      refine dgo_cond rfl (fun h => by simp at h) (fun h => ?_)
      refine qd [] rfl (by simp) ?_
      refine g_call (fr := [4]) [] [(1, 4)] rfl (by simp) (copied_ok (.mk o n x ks ps) hwr) trivial rfl rfl rfl rfl ?_
      refine qg [] rfl (by simp) ?_
      refine dgo_open (ids' := []) 4 5 (fun y : { y : Value × List An × Value × List An // vAs y.2.1 = dTms ks ∧ vAs y.2.2.2 = dTys ps } => [y.1.1, y.1.2.2.1]) (fun y => SubA (.mk true o n x y.1.1 y.1.2.1 y.1.2.2.1 y.1.2.2.2)) rfl (fun vs I w bs h => copy_open h) fun y => ?_
      obtain ⟨⟨v, js, u, qs⟩, h5, h6⟩ := y
      refine dgo_hpFreeze 5 2 (dTmc (.mk o n x ks ps)) rfl rfl (fun vs I J w bs h1 h2 h3 cs hc => sub_frz h5 h6 h1 h2 h3 cs hc) rfl ?_
      exact dgo_ret ⟨_, rfl, tV rfl, trivial⟩

def putT : Tm → List Int → Tm → Tm
  | _, [], p => p
  | .mk o n x ks ps, k :: r, p => .mk o n x (match ks[k.toNat]? with | some c => ks.set k.toNat (putT c r p) | none => ks) ps

theorem dTms_set (l : List Tm) (i : Nat) (t : Tm) : dTms (l.set i t) = (dTms l).set i (dTmc t) := by simp [dTms_eq, List.map_set]

end Go.Hk

/- Contract of term.Put. -/
namespace Go.Hk
open Go.Proofs

/-- A term that is owned, its node as well. -/
def RootA (b : Nat) (a : An) : Asn where
  P := fun _ _ w bs => bs = b :: anB a ∧ bs.Nodup ∧ sortA a = true ∧ (∃ cur, w.heap[b]? = some (.cells cur 26 (0, 0)) ∧ cur.size = 5) ∧ atW w b 0 (cA a) ∧ anW w a
  mono := fun _ h => h
  loc := fun h ⟨h1, h2, h3, ⟨cur, h4, h5⟩, h6, h7⟩ => ⟨h1, h2, h3, ⟨cur, (h b (by simp [h1])).trans h4, h5⟩, atW_loc (h b (by simp [h1])) h6, anW_loc (fun k hk => h k (by simp [h1, hk])) h7⟩

def PutE (b : Nat) (a : An) (p : Stps) (e : List V) : Asn where
  P := fun vs I w bs => ∃ a2, vA a2 = e ∧ (RootA b (putA a p a2)).P vs I w bs
  mono := fun _ h => h
  loc := fun h ⟨a2, h1, h2⟩ => ⟨a2, h1, (RootA b (putA a p a2)).loc h h2⟩

def stps (l : List Int) : Stps := l.map fun k => (false, k.toNat)

theorem anB_put : ∀ {p : Stps} {a a' a2 : An} {b off b' off' : Nat}, locA a b off p = some (a', b', off') → ∀ k ∈ anB (putA a p a2), k ∈ anB a ∨ k ∈ anB a2
  | [], a, a', a2, b, off, b', off', h, k, hk => .inr hk
  | q :: r, a, a', a2, b, off, b', off', h, k, hk => by
    simp only [locA] at h
    simp only [putA] at hk
    split at h
    · rename_i c b1 off1 hkid
      simp only [hkid] at hk
      obtain ⟨s, o, n, x, v, ks, u, ps⟩ := a
      obtain ⟨rr, i⟩ := q
      have hs : ∀ {l : List An} {j : Nat}, l[j]? = some c → ∀ k ∈ ansB (l.set j (putA c r a2)), k ∈ ansB l ∨ k ∈ anB a2 := by
        intro l
        induction l with
        | nil => intro j hj; simp at hj
        | cons y q ih =>
          intro j hj k hk
          cases j with
          | zero =>
            simp at hj; subst hj
            simp only [List.set_cons_zero, ansB, List.mem_append] at hk ⊢
            rcases hk with hk | hk
            · rcases anB_put h k hk with h | h
              · exact .inl (.inl h)
              · exact .inr h
            · exact .inl (.inr hk)
          | succ j =>
            simp only [List.set_cons_succ, ansB, List.mem_append] at hk ⊢
            rcases hk with hk | hk
            · exact .inl (.inl hk)
            · rcases ih (by simpa using hj) k hk with h | h
              · exact .inl (.inr h)
              · exact .inr h
      cases rr with
      | false =>
        simp only [kidA, Option.map_eq_some_iff, Prod.mk.injEq] at hkid
        obtain ⟨c', hc, rfl, _, _⟩ := hkid
        simp only [setA, anB, List.length_set, List.mem_append] at hk ⊢
        rcases hk with (hk | hk) | hk
        · exact .inl (.inl (.inl hk))
        · rcases hs hc k hk with h | h
          · exact .inl (.inl (.inr h))
          · exact .inr h
        · exact .inl (.inr hk)
      | true =>
        cases s with
        | false => simp [kidA] at hkid
        | true =>
          simp only [kidA, Option.map_eq_some_iff, Prod.mk.injEq] at hkid
          obtain ⟨c', hc, rfl, _, _⟩ := hkid
          simp only [setA, anB, List.length_set, List.mem_append] at hk ⊢
          rcases hk with hk | (hk | hk)
          · exact .inl (.inl hk)
          · exact .inl (.inr (.inl hk))
          · rcases hs hc k hk with h | h
            · exact .inl (.inr (.inr h))
            · exact .inr h
    · cases h

theorem nodup_set {l : List An} {i : Nat} {c c' : An} (h : l[i]? = some c) (hn : (ansB l).Nodup) (hc : (anB c').Nodup) (hd : ∀ k ∈ anB c', k ∈ anB c ∨ k ∉ ansB l) : (ansB (l.set i c')).Nodup ∧ ∀ k ∈ ansB (l.set i c'), k ∈ ansB l ∨ k ∈ anB c' := by
  induction l generalizing i with
  | nil => simp at h
  | cons y r ih =>
    simp only [ansB] at hn
    have hn := List.nodup_append.1 hn
    cases i with
    | zero =>
      simp at h; subst h
      simp only [List.set_cons_zero, ansB]
      refine ⟨List.nodup_append.2 ⟨hc, hn.2.1, fun a ha b hb e => ?_⟩, fun k hk => ?_⟩
      · subst e
        rcases hd a ha with h | h
        · exact hn.2.2 a h a hb rfl
        · exact h (by simp [ansB, hb])
      · rcases List.mem_append.1 hk with h | h
        · exact .inr h
        · exact .inl (by simp [h])
    | succ i =>
      simp only [List.set_cons_succ, ansB]
      have hm : ∀ k ∈ anB c, k ∈ ansB r := fun k hk => by
        have : ∀ {l : List An} {i : Nat}, l[i]? = some c → ∀ k ∈ anB c, k ∈ ansB l := by
          intro l
          induction l with
          | nil => intro i h; simp at h
          | cons y r ih =>
            intro i h k hk
            simp only [ansB, List.mem_append]
            cases i with
            | zero => simp at h; subst h; exact .inl hk
            | succ i => exact .inr (ih (by simpa using h) k hk)
        exact this (by simpa using h) k hk
      obtain ⟨i1, i2⟩ := ih (i := i) (by simpa using h) hn.2.1 (fun k hk => (hd k hk).imp id fun h => fun h2 => h (by simp [ansB, h2]))
      refine ⟨List.nodup_append.2 ⟨hn.1, i1, fun a ha b hb e => ?_⟩, fun k hk => ?_⟩
      · subst e
        rcases i2 a hb with h | h
        · exact hn.2.2 a ha a h rfl
        · rcases hd a h with h | h
          · exact hn.2.2 a ha a (hm a h) rfl
          · exact h (by simp [ansB, ha])
      · rcases List.mem_append.1 hk with h | h
        · exact .inl (by simp [h])
        · rcases i2 k h with h | h
          · exact .inl (by simp [h])
          · exact .inr h

theorem nodup_put : ∀ {p : Stps} {a a' a2 : An} {b off b' off' : Nat}, locA a b off p = some (a', b', off') → (anB a).Nodup → (anB a2).Nodup → (∀ k ∈ anB a2, k ∉ anB a) → (anB (putA a p a2)).Nodup
  | [], a, a', a2, b, off, b', off', h, _, h2, _ => h2
  | q :: r, a, a', a2, b, off, b', off', h, h1, h2, h3 => by
    have hloc := h
    simp only [locA] at h
    simp only [putA]
    split at h
    · rename_i c b1 off1 hkid
      obtain ⟨k1, k2, k3⟩ := kidA_blk hkid
      obtain ⟨k4, k5⟩ := k3 h1
      have hc := nodup_put h k4 h2 (fun k hk hk2 => h3 k hk (k2 k hk2))
      have hmem := anB_put (a2 := a2) h
      obtain ⟨s, o, n, x, v, ks, u, ps⟩ := a
      obtain ⟨rr, i⟩ := q
      simp only [anB] at h1 h3
      cases rr with
      | false =>
        simp only [kidA, Option.map_eq_some_iff, Prod.mk.injEq] at hkid
        obtain ⟨c', hcc, rfl, _, _⟩ := hkid
        simp only [setA, anB, List.length_set]
        have n1 := List.nodup_append.1 h1
        have n2 := List.nodup_append.1 n1.1
        obtain ⟨i1, i2⟩ := nodup_set hcc n2.2.1 hc (fun k hk => (hmem k hk).imp id fun h => fun h4 => h3 k h (by simp [h4]))
        have hsub : ∀ k ∈ ansB (ks.set i (putA c' r a2)), k ∈ ansB ks ∨ k ∈ anB a2 := fun k hk => by
          rcases i2 k hk with h | h
          · exact .inl h
          · rcases hmem k h with h | h
            · left
              have : ∀ {l : List An} {i : Nat}, l[i]? = some c' → ∀ k ∈ anB c', k ∈ ansB l := by
                intro l
                induction l with
                | nil => intro i h; simp at h
                | cons y r ih =>
                  intro i h k hk
                  simp only [ansB, List.mem_append]
                  cases i with
                  | zero => simp at h; subst h; exact .inl hk
                  | succ i => exact .inr (ih (by simpa using h) k hk)
              exact this hcc k h
            · exact .inr h
        refine List.nodup_append.2 ⟨List.nodup_append.2 ⟨n2.1, i1, fun a ha b hb e => ?_⟩, n1.2.1, fun a ha b hb e => ?_⟩
        · subst e
          rcases hsub a hb with h | h
          · exact n2.2.2 a ha a h rfl
          · exact h3 a h (by simp [ha])
        · subst e
          rcases List.mem_append.1 ha with ha | ha
          · exact n1.2.2 a (by simp [ha]) a hb rfl
          · rcases hsub a ha with h | h
            · exact n1.2.2 a (by simp [h]) a hb rfl
            · exact h3 a h (by simp [hb])
      | true =>
        cases s with
        | false => simp [kidA] at hkid
        | true =>
          simp only [kidA, Option.map_eq_some_iff, Prod.mk.injEq] at hkid
          obtain ⟨c', hcc, rfl, _, _⟩ := hkid
          simp only [setA, anB, List.length_set]
          have n1 := List.nodup_append.1 h1
          have n2 := List.nodup_append.1 n1.2.1
          obtain ⟨i1, i2⟩ := nodup_set hcc n2.2.1 hc (fun k hk => (hmem k hk).imp id fun h => fun h4 => h3 k h (by simp [h4]))
          have hsub : ∀ k ∈ ansB (ps.set i (putA c' r a2)), k ∈ ansB ps ∨ k ∈ anB a2 := fun k hk => by
            rcases i2 k hk with h | h
            · exact .inl h
            · rcases hmem k h with h | h
              · left
                have : ∀ {l : List An} {i : Nat}, l[i]? = some c' → ∀ k ∈ anB c', k ∈ ansB l := by
                  intro l
                  induction l with
                  | nil => intro i h; simp at h
                  | cons y r ih =>
                    intro i h k hk
                    simp only [ansB, List.mem_append]
                    cases i with
                    | zero => simp at h; subst h; exact .inl hk
                    | succ i => exact .inr (ih (by simpa using h) k hk)
                exact this hcc k h
              · exact .inr h
          refine List.nodup_append.2 ⟨n1.1, List.nodup_append.2 ⟨n2.1, i1, fun a ha b hb e => ?_⟩, fun a ha b hb e => ?_⟩
          · subst e
            rcases hsub a hb with h | h
            · exact n2.2.2 a ha a h rfl
            · exact h3 a h (by simp [ha])
          · subst e
            rcases List.mem_append.1 hb with hb | hb
            · exact n1.2.2 a ha a (by simp [hb]) rfl
            · rcases hsub a hb with h | h
              · exact n1.2.2 a ha a (by simp [h]) rfl
              · exact h3 a h (List.mem_append.2 (.inl ha))
    · cases h

theorem root_block {I : Imm} {w : World} {vs : List Value} {bs : List Nat} {b : Nat} {a : An} {p : Stps} {a' : An} {b' off' : Nat} (h : (RootA b a).P vs I w bs) (hl : locA a b 0 p = some (a', b', off')) (hs : sortA a' = true) :
    b' ∈ bs ∧ ∃ cur ty, w.heap[b']? = some (.cells cur ty (0, 0)) ∧ off' + 5 ≤ cur.size := by
  obtain ⟨h1, h2, h3, ⟨cur, h4, h5⟩, h6, h7⟩ := h
  rcases locA_blk hl with ⟨_, rfl, rfl, rfl⟩ | ⟨hne, hb⟩
  · exact ⟨by simp [h1], cur, _, h4, by omega⟩
  · refine ⟨by simp [h1, hb], ?_⟩
    -- the row in which it stands
    have : ∀ {p : Stps} {a : An} {b off : Nat}, locA a b off p = some (a', b', off') → p ≠ [] → anW w a → ∃ cur ty, w.heap[b']? = some (.cells cur ty (0, 0)) ∧ off' + 5 ≤ cur.size := by
      intro p
      induction p with
      | nil => intro a b off _ h; exact absurd rfl h
      | cons q r ih =>
        intro a b off h _ hw
        simp only [locA] at h
        split at h
        · rename_i c b1 off1 hk
          by_cases hr : r = []
          · subst hr
            simp only [locA, Option.some.injEq, Prod.mk.injEq] at h
            obtain ⟨rfl, rfl, rfl⟩ := h
            obtain ⟨s, o, n, x, v, ks, u, ps⟩ := a
            obtain ⟨rr, i⟩ := q
            simp only [anW] at hw
            cases rr with
            | false =>
              simp only [kidA, Option.map_eq_some_iff, Prod.mk.injEq] at hk
              obtain ⟨c', hc, rfl, rfl, rfl⟩ := hk
              have hsrt : sortA c' = s := (ansW_get hw.1.2 hc).1
              have hlt := (List.getElem?_eq_some_iff.1 hc).1
              rcases hw.1.1 with ⟨h0, _⟩ | ⟨_, b0, cap, cur, rfl, q1, q2, q3, q4⟩
              · omega
              · refine ⟨cur, _, q1, ?_⟩
                have hs5 : szA s = 5 := by rw [← hsrt, hs]; rfl
                have : (i + 1) * szA s ≤ cap * szA s := Nat.mul_le_mul_right _ (by omega)
                rw [Nat.succ_mul, ← q4, hs5] at this
                rw [hs5]; exact this
            | true =>
              cases s with
              | false => simp [kidA] at hk
              | true =>
                simp only [kidA, Option.map_eq_some_iff, Prod.mk.injEq] at hk
                obtain ⟨c', hc, rfl, rfl, rfl⟩ := hk
                have hsrt : sortA c' = false := (ansW_get (hw.2 rfl).2 hc).1
                rw [hs] at hsrt; cases hsrt
          · exact ih h hr (kidA_at hk hw).2
        · cases h
    exact this hl hne h7

theorem put_store {b : Nat} {a : An} {p : Stps} {a' : An} {b' off' : Nat} {e : List V} {j : Nat} (hl : locA a b 0 p = some (a', b', off')) (hs : sortA a' = true) : StoreAtJ (RootA b a) (CopyA true e) (PutE b a p e) j b' off' (dsA j true e) := by
  intro us vs I w b1 b2 hP ⟨a2, k1, k2, k3, k4, k5, k6⟩ hdis
  obtain ⟨r1, cur, ty, r2, r3⟩ := root_block hP hl hs
  obtain ⟨h1, h2, h3, ⟨cur0, h4, h5⟩, h6, h7⟩ := hP
  subst k2; subst k3
  have hdl : (dsA j true (vA a2)).length = 5 := by have := @dsA_length j a2; rw [k1] at this; exact this
  refine ⟨r1, cur, ty, r2, by rw [hdl]; exact r3, fun cs hcl hcs hone => ?_⟩
  have hcA : cs = cA a2 := by
    refine cells_of (I := I) (j := j) ?_ ?_
    · rw [k1]; exact hcl
    · rw [k1]; exact hcs
  have hc5 : cs.length = 5 := by rw [hcl, hdl]
  have hf : off' + cs.length ≤ cur.size := by rw [hc5]; exact r3
  rw [hdl, ← hc5]
  have hu := upd_setRow (off0 := off') (sz := szA (sortA a')) r2 hf ⟨Nat.le_refl _, by rw [hs, hc5]; exact Nat.le_refl _⟩
  have hnd : b ∉ anB a ∧ (anB a).Nodup := by rw [h1] at h2; exact List.nodup_cons.1 h2
  have hdis2 : ∀ k ∈ anB a2, k ∉ b :: anB a := fun k hk hk2 => hdis k (by rw [h1]; exact hk2) (by rw [k4]; exact hk)
  have hb'2 : b' ∉ anB a2 := fun hb => hdis b' r1 (by rw [k4]; exact hb)
  obtain ⟨q1, q2, q3⟩ := upd_tree (a2 := a2) hl hu (k1.trans hs.symm) (by rw [← hcA]; exact atW_hit r2 hf) (anW_loc (fun k hk => hu.other k fun e => hb'2 (e ▸ hk)) k6) h6 h7 hnd.1 hnd.2
  refine ⟨b :: anB (putA a p a2), fun k hk => ?_, a2, rfl, rfl, ?_, by rw [q3]; exact h3, ?_, q1, q2⟩
  · rcases List.mem_cons.1 hk with rfl | hk
    · exact .inl (by simp [h1])
    · rcases anB_put hl k hk with h | h
      · exact .inl (by simp [h1, h])
      · exact .inr (by rw [k4]; exact h)
  · refine List.nodup_cons.2 ⟨fun hk => ?_, nodup_put hl hnd.2 (by rw [← k4]; exact k5) (fun k hk hk2 => hdis2 k hk (by simp [hk2]))⟩
    rcases anB_put hl _ hk with h | h
    · exact hnd.1 h
    · exact hdis2 _ h (by simp)
  · by_cases e : b = b'
    · subst e
      obtain ⟨cur', z1, z2, _⟩ := hu.same cur0 _ _ h4
      exact ⟨cur', z1, by rw [z2, h5]⟩
    · exact ⟨cur0, (hu.other b e).trans h4, h5⟩

end Go.Hk

/- Contract of term.Put: a term with another part at a path. -/
namespace Go.Hk
open Go.Proofs

theorem vAs_get {l : List An} {i : Nat} {a : An} (h : l[i]? = some a) : (vAs l)[i]? = some (vA a) := by simp [vAs_eq, h]

/-- The owned node at a path, and the term that it stands for. -/
theorem loc_step {o n : Int} {x : Str} {v u : Value} {js qs : List An} {ks : List Tm} (h : vAs js = dTms ks) {p : Int} {c : Tm} (hp : kidT (.mk o n x ks []) p = some c) : ∃ a, js[p.toNat]? = some a ∧ vA a = dTmc c ∧ 0 ≤ p ∧ ks[p.toNat]? = some c ∧ p.toNat < js.length := by
  simp only [kidT] at hp
  split at hp
  · rename_i h0
    have hlt := (List.getElem?_eq_some_iff.1 hp).1
    have hl : js.length = ks.length := by have := congrArg List.length h; simpa using this
    obtain ⟨a, ha⟩ := has_get (l := js) (i := p.toNat) (by omega)
    have h1 := vAs_get ha
    rw [h, dTms_get hp] at h1
    exact ⟨a, ha, (Option.some.inj h1).symm, h0, hp, by omega⟩
  · cases hp

theorem vA_mk {a : An} {o n : Int} {x : Str} {ks : List Tm} {ps : List Ty} (h : vA a = dTmc (.mk o n x ks ps)) : ∃ v js u qs, a = .mk true o n x v js u qs ∧ vAs js = dTms ks ∧ vAs qs = dTys ps := by
  obtain ⟨s, o', n', x', v, js, u, qs⟩ := a
  cases s with
  | false => simp [vA, dTmc] at h
  | true =>
    simp only [vA, dTmc, List.cons.injEq, V.int.injEq, V.str.injEq, V.sl.injEq, true_and, and_true] at h
    obtain ⟨rfl, rfl, rfl, h5, h6⟩ := h
    exact ⟨v, js, u, qs, rfl, h5, h6⟩

theorem putA_v : ∀ {path : List Int} {t : Tm} {a a2 : An} {part : Tm}, vA a = dTmc t → vA a2 = dTmc part → (leadsT t path).isSome = true → vA (putA a (stps path) a2) = dTmc (putT t path part)
  | [], t, a, a2, part, _, h2, _ => by
    cases t; exact h2
  | p :: r, t, a, a2, part, h1, h2, hl => by
    obtain ⟨o, n, x, ks, ps⟩ := t
    obtain ⟨v, js, u, qs, rfl, h5, h6⟩ := vA_mk h1
    simp only [leadsT] at hl
    cases hk : kidT (.mk o n x ks ps) p with
    | none => simp [hk] at hl
    | some c =>
      simp only [hk] at hl
      obtain ⟨ac, q1, q2, q3, q4, _⟩ := loc_step (o := o) (n := n) (x := x) (v := v) (u := u) (qs := qs) h5 hk
      have ih := putA_v (a := ac) (a2 := a2) (part := part) q2 h2 hl
      have hkid : kidA (.mk true o n x v js u qs) (false, p.toNat) = some (ac, blkOf v, p.toNat * szA true) := by simp [kidA, q1]
      simp only [stps, List.map_cons, putA]
      rw [hkid]
      simp only [setA, putT, q4, vA, dTmc, dTms_set]
      have : vAs (js.set p.toNat (putA ac (stps r) a2)) = (vAs js).set p.toNat (vA (putA ac (stps r) a2)) := by simp [vAs_eq, List.map_set]
      simp only [stps] at this ih
      rw [this, ih, h5, h6]

theorem nodesTms_set : ∀ {l : List Tm} {i : Nat} {c : Tm}, nodesTms l = true → nodesTm c = true → nodesTms (l.set i c) = true
  | [], i, c, h, _ => h
  | t :: r, 0, c, h, hc => by
    simp only [nodesTms, Bool.and_eq_true, List.set_cons_zero] at h ⊢
    exact ⟨hc, h.2⟩
  | t :: r, i + 1, c, h, hc => by
    simp only [nodesTms, Bool.and_eq_true, List.set_cons_succ] at h ⊢
    exact ⟨h.1, nodesTms_set h.2 hc⟩

theorem nodesTm_put : ∀ {path : List Int} {t part : Tm}, nodesTm t = true → nodesTm part = true → nodesTm (putT t path part) = true
  | [], t, part, _, h => by cases t; exact h
  | p :: r, .mk o n x ks ps, part, h, hp => by
    simp only [putT]
    split
    · rename_i c hc
      simp only [nodesTm, Bool.and_eq_true, List.length_set] at h ⊢
      exact ⟨h.1, nodesTms_set h.2 (nodesTm_put (nodesTms_mem h.2 (List.mem_of_getElem? hc)) hp)⟩
    · exact h

mutual
theorem nodesTT_of : ∀ t : Tm, nodesTm t = true → nodesTT t = true
  | .mk op n x ks ps, h => by
    simp only [nodesTm, Bool.and_eq_true] at h
    have := node_pats h.1.1
    simp only [nodesTT, nodeT_eq op n x ks.length ps (by omega), Bool.and_eq_true]
    exact ⟨h.1, nodesTTs_of ks h.2⟩
theorem nodesTTs_of : ∀ ts : List Tm, nodesTms ts = true → nodesTTs ts = true
  | [], _ => rfl
  | t :: r, h => by
    simp only [nodesTms, Bool.and_eq_true] at h
    simp only [nodesTTs, Bool.and_eq_true]
    exact ⟨nodesTT_of t h.1, nodesTTs_of r h.2⟩
end
theorem check_nodes {t : Tm} (h : nodesTm t = true) : checkB t = termB t := by
  simp only [checkB, termB, h, nodesTT_of t h]

def putR (t : Tm) (path : List Int) (part : Tm) : Tm × Int :=
  bif termB t && termB part && (leadsT t path).isSome then (bif termB (putT t path part) then (putT t path part, 0) else (zTm, 3)) else (zTm, 2)

set_option maxRecDepth 100000 in
set_option maxHeartbeats 1000000 in
theorem Put_ok (t : Tm) (path : List Int) (part : Tm) (h : checkB t = termB t) (hq : checkB part = termB part) (hp : path.length ≤ 1000000) :
    PureC Tryz.prog 17 [.agg (dTmc t), .sl (dInts path), .agg (dTmc part)] (.tup [.agg (dTmc (putR t path part).1), .int .i64 (putR t path part).2]) := by
  refine effc_of ttP2_ok Tryz.func17 (by decide +kernel) rfl [1, 2, 3, 4, 5, 6, 7, 8, 9, 10, 11, 12] rfl rfl ?_
  refine qg [] rfl (by simp) ?_
  refine g_pcall rfl (fun _ => Check_ok t) (by simp) ?_
  rw [h]
  refine qg [] rfl (by simp) ?_
  refine g_pcall rfl (fun _ => Check_ok part) (by simp [cxOf]) ?_
  rw [hq]
  refine qg [] rfl (by simp [cxOf]) ?_
  cases ht : termB t with
  | false =>
    refine dgo_cond rfl (fun h => ?_) (fun h => by simp [errI] at h)
    refine qd [] rfl (by simp) ?_
    have e : putR t path part = (zTm, 2) := by simp [putR, ht]
    rw [e]
    exact dgo_ret ⟨_, rfl, tV rfl, trivial⟩
  | true =>
  cases hu : termB part with
  | false =>
    refine dgo_cond rfl (fun h => ?_) (fun h => by simp [errI] at h)
    refine qd [] rfl (by simp) ?_
    have e : putR t path part = (zTm, 2) := by simp [putR, hu]
    rw [e]
    exact dgo_ret ⟨_, rfl, tV rfl, trivial⟩
  | true =>
  have hw := wide_termB ht
  have hwp := wide_termB hu
  refine dgo_cond rfl (fun h => by simp [errI] at h) (fun h => ?_)
  refine qd [] rfl (by simp) ?_
  refine g_pcall rfl (fun _ => leads_ok t path hw) (by simp) ?_
  cases hl : leadsT t path with
  | none =>
    refine qg [] rfl (by simp) ?_
    refine dgo_cond rfl (fun h => ?_) (fun h => by simp at h)
    refine qd [] rfl (by simp) ?_
    have e : putR t path part = (zTm, 2) := by simp [putR, hl]
    rw [e]
    exact dgo_ret ⟨_, rfl, tV rfl, trivial⟩
  | some r0 =>
    obtain ⟨o, n, x, ks, ps⟩ := t
    refine qg [] rfl (by simp) ?_
    refine dgo_cond rfl (fun h => by simp at h) (fun h => ?_)
    refine qd [] rfl (by simp) ?_
    refine g_call (fr := [5]) [] [(1, 5)] rfl (by simp) (copied_ok (.mk o n x ks ps) hw) trivial rfl rfl rfl rfl ?_
    refine qg [] rfl (by simp) ?_
    refine dgo_open (ids' := [8, 9, 10, 11, 12]) 5 7 (fun y : { y : Value × List An × Value × List An // vAs y.2.1 = dTms ks ∧ vAs y.2.2.2 = dTys ps } => [y.1.1, y.1.2.2.1]) (fun y => SubA (.mk true o n x y.1.1 y.1.2.1 y.1.2.2.1 y.1.2.2.2)) rfl (fun vs I w bs h => copy_open h) fun y => ?_
    obtain ⟨⟨v, js, u, qs⟩, h5, h6⟩ := y
    refine dgo_cells2hp (ids' := [9, 10, 11, 12]) 6 8 rfl rfl fun b => ?_
    refine dgo_hpj (ids' := [10, 11, 12]) 7 8 9 (fun _ : Unit => RootA b (.mk true o n x v js u qs)) rfl rfl (by decide) (fun vs us I w b1 b2 h1 h2 hd => ⟨(), b :: b1, fun k hk => ?_, ?_⟩) fun _ => ?_
    · obtain ⟨e, _⟩ := h2
      rcases List.mem_cons.1 hk with rfl | hk
      · right; simp [e]
      · exact .inl hk
    · obtain ⟨e1, e2, e3⟩ := h1
      obtain ⟨e, cur, z1, z2, z3⟩ := h2
      have hcs : cur.toList = cA (.mk true o n x v js u qs) := by
        obtain ⟨cur⟩ := cur
        have hl := z2.1
        match cur, hl with
        | [c0, c1, c2, c3, c4], _ =>
          have e0 := (z2.2 0 _ _ rfl rfl).immInv.intInv
          have e1 := (z2.2 1 _ _ rfl rfl).immInv.intInv
          have e2 := (z2.2 2 _ _ rfl rfl).immInv.strEq
          have e3 := (z2.2 3 _ _ rfl rfl).rawInv
          have e4 := (z2.2 4 _ _ rfl rfl).rawInv
          rw [e0, e1, e2, e3, e4]; rfl
      refine ⟨by rw [e1], List.nodup_cons.2 ⟨fun hb => hd b hb (by simp [e]), e2⟩, rfl, ⟨cur, z1, ?_⟩, ⟨cur, _, _, z1, fun j c hj => ?_⟩, e3⟩
      · have := congrArg List.length hcs; simpa [cA] using this
      · rw [← hcs] at hj; simpa using hj
    have hnT : nodesTm (.mk o n x ks ps) = true := by simp only [termB, Bool.and_eq_true] at ht; exact ht.2
    have hnP : nodesTm part = true := by simp only [termB, Bool.and_eq_true] at hu; exact hu.2
    have hva : vA (.mk true o n x v js u qs) = dTmc (.mk o n x ks ps) := by simp [vA, dTmc, h5, h6]
    generalize hA : An.mk true o n x v js u qs = A at hva
    generalize hT : Tm.mk o n x ks ps = T at *
    refine dgo_enter (fun y : Nat × Nat × Nat => [(36, .imm (.int .i64 y.1)), (35, .imm (.int .i64 path.length)), (34, .imm (.sl (dInts path))), (11, .raw (.pointer (some ⟨y.2.1, y.2.2, none⟩))), (10, .raw (.pointer (some ⟨b, 0, none⟩))), (3, .ref 1 0), (5, .ref 2 0), (6, .ref 3 0)])
      (fun _ => [(1, some (.immb 26 5 (dTmc T))), (2, some (.immb 26 5 (dTmc part))), (3, some (.cells 26 5 [.imm (.int .i64 0), .imm (.int .i64 0), .imm (.str []), .nils, .nils])), (9, some (.hp (RootA b A)))]) [10, 11, 12]
      (fun y => path.length - y.1) (fun y => y.1 ≤ path.length ∧ ∃ (a' : An) (t' : Tm), locA A b 0 (stps (path.take y.1)) = some (a', y.2.1, y.2.2) ∧ vA a' = dTmc t' ∧ leadsT t' (path.drop y.1) = some r0) (0, b, 0)
      ⟨Nat.zero_le _, A, T, rfl, hva, hl⟩ ⟨rfl, tInt (by simp), rfl, rfl, rfl, rfl, rfl, rfl, trivial⟩ ⟨by subst hT; rfl, rfl, rfl, by subst hA; rfl, trivial⟩ rfl fun y hi ih => ?_
    obtain ⟨i, b1, off1⟩ := y
    obtain ⟨hi1, a1, t1, hi2, hi3, hi4⟩ := hi
    simp only at hi1 hi2 hi4
    obtain ⟨o1, n1, x1, ks1, ps1⟩ := t1
    obtain ⟨v1, js1, u1, qs1, rfl, g5, g6⟩ := vA_mk hi3
    refine qd [] rfl (by simp) ?_
    refine dgo_cond rfl (fun h => ?_) (fun h => ?_)
    · simp at h
      obtain ⟨p, hpp⟩ := has_get h
      rw [get_drop hpp] at hi4
      simp only [leadsT] at hi4
      cases hkid : kidT (.mk o1 n1 x1 ks1 ps1) p with
      | none => simp [hkid] at hi4
      | some c =>
        simp only [hkid] at hi4
        obtain ⟨ac, q1, q2, q3, q4, q5⟩ := loc_step (o := o1) (n := n1) (x := x1) (v := v1) (u := u1) (qs := qs1) g5 hkid
        refine dgo_hpx 9 (fun _ : { y : Nat × Nat // v1 = .slice (some ⟨y.1, 0, none⟩) js1.length y.2 } => RootA b A) rfl (fun vs I w bs h => ?_) fun z => ?_
        · have hw := (locA_at hi2 h.2.2.2.2.1 h.2.2.2.2.2).2
          simp only [anW] at hw
          rcases hw.1.1 with ⟨h0, _⟩ | ⟨_, kb, cap, cur, e, _⟩
          · omega
          · exact ⟨⟨(kb, cap), e⟩, h⟩
        obtain ⟨⟨kb, cap⟩, rfl⟩ := z
        refine qd [] rfl (by simp) ?_
        refine qi_ rfl (c := [.int .i64 p]) (fun _ => ⟨by simp, by simpa using dInts_get hpp, rfl⟩) (by simp) ?_
        refine qg [] rfl (by simp) ?_
        refine g_rload ttP2_ok 9 [.raw (.slice (some ⟨kb, 0, none⟩) js1.length cap)] rfl rfl (fun _ vs I w bs h => ?_) rfl rfl (by simp) ?_
        · obtain ⟨⟨cur, ty, k, z1, z2⟩, _⟩ := locA_at hi2 h.2.2.2.2.1 h.2.2.2.2.2
          refine ⟨cur, ty, k, z1, fun j d hd => ?_⟩
          cases j with
          | zero =>
            simp at hd; subst hd
            refine ⟨.slice (some ⟨kb, 0, none⟩) js1.length cap, ?_, rfl, .raw _ rfl⟩
            show cur[addOff off1 3 + 0]? = _
            rw [addOff_eq]
            exact z2 3 _ rfl
          | succ j => simp at hd
        refine qg [] rfl (by simp) ?_
        refine g_rindex ttP2_ok rfl rfl (fun _ => ⟨q3, by simp only; omega⟩) (by simp) ?_
        refine qg [] rfl (by simp) ?_
        refine dgo_again (ih (i + 1, kb, 0 + p.toNat * 5) (by simp only; omega) ⟨by simp only; omega, ac, c, ?_, q2, hi4⟩) ⟨tInt (w64 (by simp only; omega) (by simp only; omega)), rfl, rfl, rfl, rfl, rfl, rfl, rfl, trivial⟩ ⟨rfl, rfl, rfl, rfl, trivial⟩ rfl
        simp only
        rw [get_take hpp]
        simp only [stps, List.map_append, List.map_cons, List.map_nil] at hi2 ⊢
        rw [locA_append hi2]
        simp [locA, kidA, q1, blkOf, szA]
    · simp at h
      have hie : i = path.length := by omega
      subst hie
      rw [List.take_of_length_le (Nat.le_refl _)] at hi2
      rw [List.drop_eq_nil_of_le (Nat.le_refl _)] at hi4
      clear ih
      obtain ⟨po, pn, px, pk, pp⟩ := part
      refine dgo_exit rfl ?_
      refine qd [] rfl (by simp) ?_
      refine g_call (fr := [10]) [] [(1, 10)] rfl (by simp) (copied_ok (.mk po pn px pk pp) hwp) trivial rfl rfl rfl rfl ?_
      refine qg [] rfl (by simp) ?_
      refine g_rstoreJ ttP2_ok 9 10 11 (PutE b A (stps path) (dTmc (.mk po pn px pk pp))) rfl rfl rfl (by decide) (put_store hi2 rfl) ?_
      refine qg [] rfl (by simp) ?_
      refine dgo_hpx 11 (fun y : { a2 : An // vA a2 = dTmc (.mk po pn px pk pp) } => RootA b (putA A (stps path) y.1)) rfl (fun vs I w bs h => ?_) fun z => ?_
      · obtain ⟨a2, z1, z2⟩ := h
        exact ⟨⟨a2, z1⟩, z2⟩
      obtain ⟨a2, ha2⟩ := z
      have hput := putA_v hva ha2 (path := path) (by rw [hl]; rfl)
      generalize hP : putT T path (.mk po pn px pk pp) = R at hput
      have hnR : nodesTm R = true := by rw [← hP]; exact nodesTm_put hnT hnP
      refine dgo_hpFreezeD 11 10 (.ip 26 (dTmc R) 0) rfl rfl (fun vs I J μ w bs h1 h2 h3 c hc => ?_) ?_
      · have := hc.rawInv
        subst this
        obtain ⟨z1, z2, z3, ⟨cur, z4, z5⟩, ⟨cur', ty, k, z6, z7⟩, z8⟩ := h1
        rw [z4] at z6; cases z6
        have hf := an_frz z8 (J := J) (fun k hk => h3 k (by rw [z1]; simp [hk]))
        have hJb : J b = some (.cells cur 26 (0, 0)) := by rw [h3 b (by rw [z1]; simp), z4]
        have hlen : (cA (putA A (stps path) a2)).length = (dTmc R).length := by rw [hf.1, hput]
        refine .ip b 0 _ _ 0 (fun j => (cur[j]?).getD undef) (fun j y hj => ?_) (fun j y hj => ?_)
        · have hlt : j < (cA (putA A (stps path) a2)).length := by rw [hlen]; exact (List.getElem?_eq_some_iff.1 hj).1
          have hc1 := List.getElem?_eq_getElem hlt
          have hc2 := z7 j _ hc1
          rw [Nat.zero_add] at hc2 ⊢
          simp [Imm.cell, hJb, hc2, cA_one z8 _ (List.mem_of_getElem? hc1)]
        · have hlt : j < (cA (putA A (stps path) a2)).length := by rw [hlen]; exact (List.getElem?_eq_some_iff.1 hj).1
          have hc1 := List.getElem?_eq_getElem hlt
          have hc2 := z7 j _ hc1
          rw [Nat.zero_add] at hc2
          have := hf.2 j _ y hc1 (by rw [hput]; exact hj)
          simpa [hc2] using this
      refine qd [] rfl (by simp) ?_
      refine g_pcall rfl (fun _ => Check_ok R) (by simp) ?_
      rw [check_nodes hnR]
      refine qg [] rfl (by simp) ?_
      cases hR : termB R with
      | false =>
        refine dgo_cond rfl (fun h => ?_) (fun h => by simp [errI] at h)
        refine qd [] rfl (by simp) ?_
        have e : putR T path (.mk po pn px pk pp) = (zTm, 3) := by simp [putR, ht, hu, hl, hP, hR]
        rw [e]
        exact dgo_ret ⟨_, rfl, tV rfl, trivial⟩
      | true =>
        refine dgo_cond rfl (fun h => by simp [errI] at h) (fun h => ?_)
        refine qd [] rfl (by simp) ?_
        have e : putR T path (.mk po pn px pk pp) = (R, 0) := by simp [putR, ht, hu, hl, hP, hR]
        rw [e]
        exact dgo_ret ⟨_, rfl, tV rfl, trivial⟩

end Go.Hk

/- Plain laws of parts: what is put is found, what was there can be put back, nodes add up; parts of formed terms are formed. -/
namespace Go.Hk
open Go.Proofs

theorem kidT_set {o n : Int} {x : Str} {ks : List Tm} {ps : List Ty} {p : Int} {c : Tm} (h : kidT (.mk o n x ks ps) p = some c) : 0 ≤ p ∧ ks[p.toNat]? = some c := by
  simp only [kidT] at h
  split at h
  · exact ⟨by assumption, h⟩
  · cases h

theorem leads_put : ∀ {path : List Int} {t part : Tm}, (leadsT t path).isSome = true → leadsT (putT t path part) path = some part
  | [], t, part, _ => by cases t; rfl
  | p :: r, .mk o n x ks ps, part, h => by
    simp only [leadsT] at h
    cases hk : kidT (.mk o n x ks ps) p with
    | none => simp [hk] at h
    | some c =>
      simp only [hk] at h
      obtain ⟨h0, hc⟩ := kidT_set hk
      have hlt := (List.getElem?_eq_some_iff.1 hc).1
      simp only [putT, hc, leadsT, kidT, if_pos h0]
      rw [List.getElem?_set_self hlt]
      exact leads_put h

theorem put_back : ∀ {path : List Int} {t part was : Tm}, leadsT t path = some was → putT (putT t path part) path was = t
  | [], t, part, was, h => by
    simp only [leadsT, Option.some.injEq] at h
    subst h
    cases t; cases part; rfl
  | p :: r, .mk o n x ks ps, part, was, h => by
    simp only [leadsT] at h
    cases hk : kidT (.mk o n x ks ps) p with
    | none => simp [hk] at h
    | some c =>
      simp only [hk] at h
      obtain ⟨h0, hc⟩ := kidT_set hk
      have hlt := (List.getElem?_eq_some_iff.1 hc).1
      simp only [putT, hc]
      rw [List.getElem?_set_self hlt]
      simp only [putT]
      rw [put_back h, List.set_set]
      have : ks.set p.toNat c = ks := by
        apply List.ext_getElem?
        intro i
        by_cases e : p.toNat = i
        · subst e; rw [List.getElem?_set_self hlt, hc]
        · rw [List.getElem?_set_ne e]
      rw [this]

theorem cntTs_set : ∀ {l : List Tm} {i : Nat} {c d : Tm}, l[i]? = some c → cntTs (l.set i d) + cntT c = cntTs l + cntT d
  | [], i, c, d, h => by simp at h
  | t :: r, 0, c, d, h => by
    simp at h; subst h
    simp only [List.set_cons_zero, cntTs]; omega
  | t :: r, i + 1, c, d, h => by
    have := cntTs_set (l := r) (i := i) (c := c) (d := d) (by simpa using h)
    simp only [List.set_cons_succ, cntTs]; omega

theorem cnt_put : ∀ {path : List Int} {t part was : Tm}, leadsT t path = some was → cntT (putT t path part) + cntT was = cntT t + cntT part
  | [], t, part, was, h => by
    simp only [leadsT, Option.some.injEq] at h
    subst h
    cases t; simp only [putT]; omega
  | p :: r, .mk o n x ks ps, part, was, h => by
    simp only [leadsT] at h
    cases hk : kidT (.mk o n x ks ps) p with
    | none => simp [hk] at h
    | some c =>
      simp only [hk] at h
      obtain ⟨h0, hc⟩ := kidT_set hk
      have ih := cnt_put (part := part) h
      have hs := cntTs_set (d := putT c r part) hc
      simp only [putT, hc, cntT]
      omega

mutual
/-- Weighing, in words. -/
theorem tweigh_iff : ∀ (t : Tm) (l d : Int), (0 ≤ weighTm t l d ↔ (cntT t : Int) ≤ l ∧ (dpT t : Int) ≤ d) ∧ ((cntT t : Int) ≤ l → (dpT t : Int) ≤ d → weighTm t l d = l - cntT t)
  | .mk o n x ks ps, l, d => by
    have h := tweighs_iff ks (l - 1) (d - 1) 0
    have hd := dpTs_le ks 0
    have hk : (0 : Int) ≤ cntTs ks := by omega
    simp only [weighTm, cntT, dpT]
    by_cases h0 : l < 1 ∨ d < 1
    · rw [if_pos h0]
      refine ⟨⟨fun h => by omega, fun ⟨h1, h2⟩ => by omega⟩, fun h1 h2 => by omega⟩
    · rw [if_neg h0]
      obtain ⟨h1, h2⟩ := h (by omega) (by omega)
      refine ⟨⟨fun q => ?_, fun ⟨q1, q2⟩ => h1.2 ⟨by omega, by omega⟩⟩, fun q1 q2 => by rw [h2 (by omega) (by omega)]; omega⟩
      obtain ⟨a, b⟩ := h1.1 q
      exact ⟨by omega, by omega⟩
theorem tweighs_iff : ∀ (ts : List Tm) (l d : Int) (m : Nat), 0 ≤ l → (m : Int) ≤ d → (0 ≤ weighTms ts l d ↔ (cntTs ts : Int) ≤ l ∧ (dpTs ts m : Int) ≤ d) ∧ ((cntTs ts : Int) ≤ l → (dpTs ts m : Int) ≤ d → weighTms ts l d = l - cntTs ts)
  | [], l, d, m, h0, hm => by simp [weighTms, cntTs, dpTs]; omega
  | t :: r, l, d, m, h0, hm => by
    obtain ⟨t1, t2⟩ := tweigh_iff t l d
    simp only [weighTms, if_pos h0, cntTs, dpTs]
    have hle := dpTs_le r (max m (dpT t))
    by_cases hw : 0 ≤ weighTm t l d
    · obtain ⟨c1, c2⟩ := t1.1 hw
      have e := t2 c1 c2
      obtain ⟨r1, r2⟩ := tweighs_iff r (weighTm t l d) d (max m (dpT t)) hw (by omega)
      rw [e] at r1 r2 ⊢
      refine ⟨⟨fun q => ?_, fun ⟨q1, q2⟩ => r1.2 ⟨by omega, q2⟩⟩, fun q1 q2 => by rw [r2 (by omega) q2]; omega⟩
      obtain ⟨a, b⟩ := r1.1 q
      exact ⟨by omega, b⟩
    · have hneg : ∀ (ts : List Tm) (l : Int), l < 0 → weighTms ts l d = l := by
        intro ts l hl
        cases ts with
        | nil => rfl
        | cons => simp only [weighTms]; rw [if_neg (by omega)]
      rw [hneg r _ (by omega)]
      have hnot : ¬ ((cntT t : Int) ≤ l ∧ (dpT t : Int) ≤ d) := fun h => hw (t1.2 h)
      have hc := cnt_pos t
      refine ⟨⟨fun q => absurd q hw, fun ⟨q1, q2⟩ => absurd ⟨by omega, by omega⟩ hnot⟩, fun q1 q2 => absurd ⟨by omega, by omega⟩ hnot⟩
end

theorem dpTs_mem : ∀ {ts : List Tm} {t : Tm} {m : Nat}, t ∈ ts → dpT t ≤ dpTs ts m
  | x :: r, t, m, h => by
    simp only [dpTs]
    rcases List.mem_cons.1 h with rfl | h
    · have := dpTs_le r (max m (dpT t)); omega
    · exact dpTs_mem h

theorem leads_dp : ∀ {path : List Int} {t r : Tm}, leadsT t path = some r → dpT r ≤ dpT t
  | [], t, r, h => by
    simp only [leadsT, Option.some.injEq] at h
    subst h; exact Nat.le_refl _
  | p :: q, t, r, h => by
    simp only [leadsT] at h
    split at h
    · rename_i c hk
      obtain ⟨o, n, x, ks, ps, rfl, hm⟩ := kidT_mem hk
      have h1 := leads_dp h
      have h2 : dpT c ≤ dpTs ks 0 := dpTs_mem hm
      simp only [dpT]; omega
    · cases h

theorem termB_iff (t : Tm) : termB t = true ↔ nodesTm t = true ∧ cntT t ≤ 60 ∧ dpT t ≤ 14 := by
  simp only [termB, Bool.and_eq_true, decide_eq_true_eq, (tweigh_iff t 60 14).1]
  constructor
  · rintro ⟨⟨a, b⟩, c⟩; exact ⟨c, by omega, by omega⟩
  · rintro ⟨a, b, c⟩; exact ⟨⟨by omega, by omega⟩, a⟩

theorem termB_sub {t r : Tm} {path : List Int} (h : termB t = true) (hl : leadsT t path = some r) : termB r = true := by
  rw [termB_iff] at h ⊢
  obtain ⟨h1, h2, h3⟩ := h
  obtain ⟨q1, q2⟩ := leadsT_sub hl h1
  have := leads_dp hl
  exact ⟨q1, by omega, by omega⟩

theorem termB_check {t : Tm} (h : termB t = true) : checkB t = termB t := check_nodes (by simp only [termB, Bool.and_eq_true] at h; exact h.2)

end Go.Hk

/- Values, blocks and frames of the ghost machine, which computes closed programs; how they stand for those of a world. -/
namespace Go.Gx

inductive G where
  | undef
  | bool (b : Bool)
  | int (k : IntKind) (n : Int)
  | str (len n : Nat)
  | nilp
  | ptr (b o : Nat)
  | nils
  | sl (b o len cap : Nat) (ex : Option Nat)
  | nilm
  | map (b : Nat)
  | nili
  | if_ (t : TypeId) (g : G)
  | nilf
  | fn (f : FuncId) (fi ca : List G)
  | yield (b : Nat)
  | agg (l : List G)
  | tup (l : List G)

/-! ### Strings as numbers -/
def pk : List UInt8 → Nat
  | [] => 0
  | b :: r => b.toNat + 256 * pk r

theorem pk_lt : ∀ l : List UInt8, pk l < 256 ^ l.length
  | [] => by simp [pk]
  | b :: r => by
    have := pk_lt r
    have hb := b.toNat_lt
    simp only [pk, List.length_cons, Nat.pow_succ]
    omega

theorem pk_inj : ∀ {a b : List UInt8}, a.length = b.length → pk a = pk b → a = b
  | [], [], _, _ => rfl
  | x :: a, y :: b, hl, h => by
    have hx := x.toNat_lt
    have hy := y.toNat_lt
    simp only [pk] at h
    have h1 : x.toNat = y.toNat := by omega
    have h2 : pk a = pk b := by omega
    rw [UInt8.toNat_inj.1 h1, pk_inj (by simpa using hl) h2]
  | [], _ :: _, hl, _ => by simp at hl
  | _ :: _, [], hl, _ => by simp at hl

theorem pk_append : ∀ (a b : List UInt8), pk (a ++ b) = pk a + 256 ^ a.length * pk b
  | [], b => by simp [pk]
  | x :: a, b => by
    simp only [List.cons_append, pk, pk_append a b, List.length_cons, Nat.pow_succ]
    rw [Nat.mul_add, Nat.mul_comm (256 ^ a.length) 256, Nat.mul_assoc]
    omega

theorem pk_take_drop (l : List UInt8) (k : Nat) (h : k ≤ l.length) : pk (l.take k) = pk l % 256 ^ k ∧ pk (l.drop k) = pk l / 256 ^ k := by
  have e := pk_append (l.take k) (l.drop k)
  rw [List.take_append_drop, List.length_take, Nat.min_eq_left h] at e
  have hlt := pk_lt (l.take k)
  rw [List.length_take, Nat.min_eq_left h] at hlt
  rw [e]
  constructor
  · rw [Nat.add_mul_mod_self_left, Nat.mod_eq_of_lt hlt]
  · rw [Nat.add_mul_div_left _ _ (Nat.pow_pos (by omega)), Nat.div_eq_of_lt hlt, Nat.zero_add]

theorem pow_256 (k : Nat) : 256 ^ k = 2 ^ (8 * k) := by
  rw [Nat.pow_mul]

/-- The byte at a place. -/
def byteAt (n i : Nat) : Nat := Nat.mod (Nat.shiftRight n (Nat.mul 8 i)) 256

theorem byteAt_pk (l : List UInt8) (i : Nat) (h : i < l.length) : byteAt (pk l) i = (l[i]).toNat := by
  unfold byteAt
  have h1 := (pk_take_drop l i (by omega)).2
  have e : Nat.shiftRight (pk l) (Nat.mul 8 i) = pk l / 256 ^ i := by
    rw [pow_256]
    exact Nat.shiftRight_eq_div_pow _ _
  rw [e, ← h1, List.drop_eq_getElem_cons h]
  have := l[i].toNat_lt
  show (_ + 256 * _) % 256 = _
  omega

/-! ### Blocks and frames -/
abbrev S := Nat → G

def getS (t : Nat) (s : S) : G := s t
noncomputable def setS (t : Nat) (s : S) (v : G) : S := fun u => Bool.rec (motive := fun _ => G) (s u) v (Nat.beq u t)
def S0 : S := fun _ => .undef

theorem getS_setS (t u : Nat) (s : S) (v : G) : getS t (setS u s v) = if t = u then v else getS t s := by
  by_cases h : t = u
  · subst h
    rw [if_pos rfl]
    show Bool.rec (motive := fun _ => G) (s t) v (Nat.beq t t) = v
    rw [Nat.beq_refl]
  · rw [if_neg h]
    have : Nat.beq t u = false := by
      cases hb : Nat.beq t u with
      | false => rfl
      | true => exact absurd (Nat.eq_of_beq_eq_true hb) h
    show Bool.rec (motive := fun _ => G) (s t) v (Nat.beq t u) = s t
    rw [this]

theorem getS_S0 (t : Nat) : getS t S0 = .undef := rfl

end Go.Gx

/- The ghost machine's memory, and how it stands for a world's. -/
namespace Go.Gx

inductive GB where
  | dead
  | cells (l : List G)
  | map (ver : Nat) (kv : List (G × G))
  | siter (len n pos : Nat)
  | miter (m ver : Nat) (cur : Option (G × G)) (rem : List (G × G))
  | minone
  | loop (st : LoopState) (pend : Option Code) (fn : FuncId) (s : S) (n : Nat) (ps : Array Tmp) (asg body : Code) (db : Nat)
  | defd

inductive T where
  | e
  | n (v : GB) (l r : T)

noncomputable def T.get (t : T) : Nat → GB :=
  T.rec (motive := fun _ => Nat → GB) (fun _ => .dead)
    (fun v _ _ ihl ihr k => Nat.rec (motive := fun _ => GB) v (fun m _ => Nat.rec (motive := fun _ => GB) (ihl (Nat.div m 2)) (fun _ _ => ihr (Nat.div m 2)) (Nat.mod m 2)) k) t

noncomputable def T.setK {β : Type} (t : T) : Nat → GB → (T → β) → β → β :=
  T.rec (motive := fun _ => Nat → GB → (T → β) → β → β)
    (fun k x c f => Nat.rec (motive := fun _ => β) (c (.n x .e .e)) (fun _ _ => f) k)
    (fun v l r ihl ihr k x c f => Nat.rec (motive := fun _ => β) (c (.n x l r))
      (fun m _ => Nat.rec (motive := fun _ => β) (ihl (Nat.div m 2) x (fun l' => c (.n v l' r)) f) (fun _ _ => ihr (Nat.div m 2) x (fun r' => c (.n v l r')) f) (Nat.mod m 2)) k) t

noncomputable def T.set? (t : T) (k : Nat) (x : GB) : Option T := t.setK k x some none

theorem T.setK_eq {β : Type} : ∀ (t : T) (k : Nat) (x : GB) (c : T → β) (f : β), t.setK k x c f = match t.set? k x with | some t' => c t' | none => f
  | .e, 0, x, c, f => rfl
  | .e, k + 1, x, c, f => rfl
  | .n v l r, 0, x, c, f => rfl
  | .n v l r, k + 1, x, c, f => by
    have hl := fun c f => T.setK_eq (β := β) l (k / 2) x c f
    have hr := fun c f => T.setK_eq (β := β) r (k / 2) x c f
    have hl' := fun c f => T.setK_eq (β := Option T) l (k / 2) x c f
    have hr' := fun c f => T.setK_eq (β := Option T) r (k / 2) x c f
    have e1 : (T.n v l r).setK (k + 1) x c f = Nat.rec (motive := fun _ => β) (l.setK (k / 2) x (fun l' => c (.n v l' r)) f) (fun _ _ => r.setK (k / 2) x (fun r' => c (.n v l r')) f) (k % 2) := rfl
    have e2 : (T.n v l r).set? (k + 1) x = Nat.rec (motive := fun _ => Option T) (l.setK (k / 2) x (fun l' => some (.n v l' r)) none) (fun _ _ => r.setK (k / 2) x (fun r' => some (.n v l r')) none) (k % 2) := rfl
    rw [e1, e2]
    cases k % 2 with
    | zero =>
      show l.setK (k / 2) x (fun l' => c (.n v l' r)) f = match l.setK (k / 2) x (fun l' => some (T.n v l' r)) none with | some t' => c t' | none => f
      rw [hl, hl']
      cases l.set? (k / 2) x <;> rfl
    | succ n =>
      show r.setK (k / 2) x (fun r' => c (.n v l r')) f = match r.setK (k / 2) x (fun r' => some (T.n v l r')) none with | some t' => c t' | none => f
      rw [hr, hr']
      cases r.set? (k / 2) x <;> rfl

theorem T.get_set : ∀ {t t' : T} {k : Nat} {x : GB}, t.set? k x = some t' → ∀ j, t'.get j = if j = k then x else t.get j
  | .e, t', 0, x, h, j => by
    cases h
    cases j with
    | zero => rfl
    | succ j =>
      rw [if_neg (by simp)]
      show Nat.rec (motive := fun _ => GB) (T.e.get (j / 2)) (fun _ _ => T.e.get (j / 2)) (j % 2) = .dead
      cases j % 2 <;> rfl
  | .e, t', k + 1, x, h, j => by cases h
  | .n v l r, t', 0, x, h, j => by
    cases h
    cases j with
    | zero => rfl
    | succ j => rw [if_neg (by simp)]; rfl
  | .n v l r, t', k + 1, x, h, j => by
    have e2 : (T.n v l r).set? (k + 1) x = Nat.rec (motive := fun _ => Option T) (l.setK (k / 2) x (fun l' => some (.n v l' r)) none) (fun _ _ => r.setK (k / 2) x (fun r' => some (.n v l r')) none) (k % 2) := rfl
    rw [e2] at h
    have hj : ∀ (a b : T) (j : Nat), (T.n v a b).get (j + 1) = Nat.rec (motive := fun _ => GB) (a.get (j / 2)) (fun _ _ => b.get (j / 2)) (j % 2) := fun _ _ _ => rfl
    have hk2 : k % 2 = 0 ∨ k % 2 = 1 := by omega
    rcases hk2 with hk2 | hk2
    · rw [hk2] at h
      have h : l.setK (k / 2) x (fun l' => some (T.n v l' r)) none = some t' := h
      rw [T.setK_eq] at h
      cases hs : l.set? (k / 2) x with
      | none => rw [hs] at h; cases h
      | some l' =>
        rw [hs] at h
        cases h
        cases j with
        | zero => simp; rfl
        | succ j =>
          rw [hj, hj]
          have hj2 : j % 2 = 0 ∨ j % 2 = 1 := by omega
          rcases hj2 with hj2 | hj2
          · rw [hj2]
            show l'.get (j / 2) = if j + 1 = k + 1 then x else l.get (j / 2)
            rw [T.get_set hs]
            have : j / 2 = k / 2 ↔ j + 1 = k + 1 := by omega
            simp only [this]
          · rw [hj2]
            have : j + 1 ≠ k + 1 := by omega
            simp only [this, if_false]
            rfl
    · rw [hk2] at h
      have h : r.setK (k / 2) x (fun r' => some (T.n v l r')) none = some t' := h
      rw [T.setK_eq] at h
      cases hs : r.set? (k / 2) x with
      | none => rw [hs] at h; cases h
      | some r' =>
        rw [hs] at h
        cases h
        cases j with
        | zero => simp; rfl
        | succ j =>
          rw [hj, hj]
          have hj2 : j % 2 = 0 ∨ j % 2 = 1 := by omega
          rcases hj2 with hj2 | hj2
          · rw [hj2]
            have : j + 1 ≠ k + 1 := by omega
            simp only [this, if_false]
            rfl
          · rw [hj2]
            show r'.get (j / 2) = if j + 1 = k + 1 then x else r.get (j / 2)
            rw [T.get_set hs]
            have : j / 2 = k / 2 ↔ j + 1 = k + 1 := by omega
            simp only [this]

structure GH where
  size : Nat
  t : T

noncomputable def GH.get (h : GH) (b : Nat) : GB := h.t.get b

/-! ### What stands for what -/
/-- The world's block that a block of the ghost stands for, and how many cells it has. -/
abbrev Rho := Nat → Option (Nat × Nat)

def Rho.le (ρ ρ' : Rho) : Prop := ∀ b x, ρ b = some x → ρ' b = some x
theorem Rho.le_refl (ρ : Rho) : ρ.le ρ := fun _ _ h => h
theorem Rho.le_trans {a b c : Rho} (h : a.le b) (k : b.le c) : a.le c := fun i x hx => k i x (h i x hx)

inductive RepG (ρ : Rho) : Value → G → Prop where
  | undef (v : Value) : RepG ρ v .undef
  | bool (b : Bool) : RepG ρ (.bool b) (.bool b)
  | int (k : IntKind) (n : Int) : RepG ρ (.int k n) (.int k n)
  | str (s : ByteArray) (len n : Nat) (hl : s.size = len) (hn : pk s.data.toList = n) : RepG ρ (.string s) (.str len n)
  | nilp : RepG ρ (.pointer none) .nilp
  | ptr (b r z o : Nat) (h : ρ b = some (r, z)) : RepG ρ (.pointer (some ⟨r, o, none⟩)) (.ptr b o)
  | nils : RepG ρ (.slice none 0 0) .nils
  | sl (b r z o len cap cap' : Nat) (ex : Option Nat) (h : ρ b = some (r, z)) (hl : len ≤ cap) (hc : cap ≤ cap') (hm : cap' ≤ maxLen)
      (hx : match ex with | none => cap' = cap | some sz => o + cap' * sz = z) : RepG ρ (.slice (some ⟨r, o, none⟩) len cap') (.sl b o len cap ex)
  | sl0 (a : Addr) (b o : Nat) (ex : Option Nat) : RepG ρ (.slice (some a) 0 0) (.sl b o 0 0 ex)
  | nilm : RepG ρ (.map none) .nilm
  | map (b r z : Nat) (h : ρ b = some (r, z)) : RepG ρ (.map (some r)) (.map b)
  | nili : RepG ρ .nilIface .nili
  | if_ (t : TypeId) (v : Value) (g : G) (h : RepG ρ v g) : RepG ρ (.iface t v) (.if_ t g)
  | nilf : RepG ρ .nilFunc .nilf
  | fn (f : FuncId) (first cap : Array Value) (fi ca : List G) (hf : first.size = fi.length) (hc : cap.size = ca.length)
      (h1 : ∀ (i : Nat) (v : Value) (g : G), first[i]? = some v → fi[i]? = some g → RepG ρ v g) (h2 : ∀ (i : Nat) (v : Value) (g : G), cap[i]? = some v → ca[i]? = some g → RepG ρ v g) :
      RepG ρ (.func (.func f) first cap) (.fn f fi ca)
  | yield (b l z : Nat) (h : ρ b = some (l, z)) : RepG ρ (.func (.yield l) #[] #[]) (.yield b)
  | agg (cs : Array Value) (l : List G) (hl : cs.size = l.length) (h1 : ∀ c ∈ cs.toList, c.oneCell' = true) (h : ∀ (i : Nat) (v : Value) (g : G), cs[i]? = some v → l[i]? = some g → RepG ρ v g) : RepG ρ (.agg cs) (.agg l)
  | tup (cs : Array Value) (l : List G) (hl : cs.size = l.length) (h : ∀ (i : Nat) (v : Value) (g : G), cs[i]? = some v → l[i]? = some g → RepG ρ v g) : RepG ρ (.tuple cs) (.tup l)

theorem RepG.mapρ {ρ : Rho} {v : Value} {b : Nat} (h : RepG ρ v (.map b)) : ∃ r z, ρ b = some (r, z) := by cases h with | map _ r z h => exact ⟨r, z, h⟩

theorem RepG.mono {ρ ρ' : Rho} (hρ : ρ.le ρ') {v : Value} {g : G} (h : RepG ρ v g) : RepG ρ' v g := by
  induction h with
  | undef v => exact .undef v
  | bool b => exact .bool b
  | int k n => exact .int k n
  | str s len n hl hn => exact .str s len n hl hn
  | nilp => exact .nilp
  | ptr b r z o h => exact .ptr b r z o (hρ _ _ h)
  | nils => exact .nils
  | sl b r z o len cap cap' ex h hl hc hm hx => exact .sl b r z o len cap cap' ex (hρ _ _ h) hl hc hm hx
  | sl0 a b o ex => exact .sl0 a b o ex
  | nilm => exact .nilm
  | map b r z h => exact .map b r z (hρ _ _ h)
  | nili => exact .nili
  | if_ t v g _ ih => exact .if_ t v g ih
  | nilf => exact .nilf
  | fn f first cap fi ca hf hc _ _ ih1 ih2 => exact .fn f first cap fi ca hf hc ih1 ih2
  | yield b l z h => exact .yield b l z (hρ _ _ h)
  | agg cs l hl h1 _ ih => exact .agg cs l hl h1 ih
  | tup cs l hl _ ih => exact .tup cs l hl ih

/-- Values that take one cell. -/
def G.one : G → Bool
  | .agg _ | .tup _ | .undef => false
  | _ => true
theorem RepG.one {ρ : Rho} {v : Value} {g : G} (h : RepG ρ v g) (hx : g.one = true) : v.oneCell' = true := by
  cases h <;> first | rfl | (simp [G.one] at hx)

def RepGs (ρ : Rho) (vs : List Value) (gs : List G) : Prop := vs.length = gs.length ∧ ∀ (i : Nat) (v : Value) (g : G), vs[i]? = some v → gs[i]? = some g → RepG ρ v g

theorem RepGs.mono {ρ ρ' : Rho} (hρ : ρ.le ρ') {vs : List Value} {gs : List G} (h : RepGs ρ vs gs) : RepGs ρ' vs gs := ⟨h.1, fun i v g a b => (h.2 i v g a b).mono hρ⟩
theorem RepGs.nil {ρ : Rho} : RepGs ρ [] [] := ⟨rfl, fun i v g h => by simp at h⟩
theorem RepGs.mk {ρ : Rho} {v : Value} {vs : List Value} {g : G} {gs : List G} (h : RepG ρ v g) (hs : RepGs ρ vs gs) : RepGs ρ (v :: vs) (g :: gs) :=
  ⟨by simp [hs.1], fun i u y h1 h2 => by
    cases i with
    | zero => simp at h1 h2; subst h1; subst h2; exact h
    | succ i => exact hs.2 i u y (by simpa using h1) (by simpa using h2)⟩
theorem RepGs.cons {ρ : Rho} {v : Value} {vs : List Value} {g : G} {gs : List G} (h : RepGs ρ (v :: vs) (g :: gs)) : RepG ρ v g ∧ RepGs ρ vs gs :=
  ⟨h.2 0 v g rfl rfl, by simpa using h.1, fun i v g h1 h2 => h.2 (i + 1) v g (by simpa using h1) (by simpa using h2)⟩
theorem RepGs.append {ρ : Rho} : ∀ {vs us : List Value} {gs ys : List G}, RepGs ρ vs gs → RepGs ρ us ys → RepGs ρ (vs ++ us) (gs ++ ys)
  | [], _, [], _, _, k => k
  | [], _, _ :: _, _, h, _ => by simp [RepGs] at h
  | _ :: _, _, [], _, h, _ => by simp [RepGs] at h
  | v :: vs, us, g :: gs, ys, h, k => .mk h.cons.1 (RepGs.append h.cons.2 k)
theorem RepGs.take {ρ : Rho} {vs : List Value} {gs : List G} (h : RepGs ρ vs gs) (n : Nat) : RepGs ρ (vs.take n) (gs.take n) :=
  ⟨by simp [h.1], fun i v g a b => by
    rw [List.getElem?_take] at a b
    split at a
    · rw [if_pos (by assumption)] at b; exact h.2 i v g a b
    · cases a⟩
theorem RepGs.drop {ρ : Rho} {vs : List Value} {gs : List G} (h : RepGs ρ vs gs) (n : Nat) : RepGs ρ (vs.drop n) (gs.drop n) :=
  ⟨by simp [h.1], fun i v g a b => by
    rw [List.getElem?_drop] at a b; exact h.2 _ v g a b⟩

/-- The slots of a frame. -/
def SRep (ρ : Rho) (s : S) (tmps : Array Value) : Prop := tmps.size ≤ 256 ∧ ∀ t, RepG ρ (tmps.getD t Go.undef) (getS t s)

theorem SRep.mono {ρ ρ' : Rho} (hρ : ρ.le ρ') {s : S} {tmps : Array Value} (h : SRep ρ s tmps) : SRep ρ' s tmps := ⟨h.1, fun t => (h.2 t).mono hρ⟩

def loopKeep (r : Go.Loop) (st : LoopState) (pend : Option Code) (fn : FuncId) (ps : Array Tmp) (asg body : Code) : Prop :=
  r.state = st ∧ r.pending = pend ∧ r.fn = fn ∧ r.params = ps ∧ r.assign = asg ∧ r.body = body

/-- The entries of a map, in any order. -/
def KvRep (ρ : Rho) (es : List MapEntry) (kv : List (G × G)) : Prop :=
  ∃ l : List MapEntry, l.Perm es ∧ l.length = kv.length ∧ ∀ (i : Nat) (e : MapEntry) (p : G × G), l[i]? = some e → kv[i]? = some p → RepG ρ e.key p.1 ∧ RepG ρ e.val p.2

/-- What an iterator over a map has come to. -/
def CurRep (ρ : Rho) (es : List MapEntry) (seen : Array Nat) : Option (G × G) → Prop
  | none => True
  | some p => ∃ (e : MapEntry) (s0 : Array Nat), e ∈ es ∧ seen = s0.push e.born ∧ RepG ρ e.key p.1 ∧ RepG ρ e.val p.2

def GB.isDead : GB → Bool
  | .dead => true
  | _ => false

def BRep (ρ : Rho) (h : GH) (w : World) (r z : Nat) : GB → Prop
  | .dead => True
  | .cells l => ∃ vs t, w.heap[r]? = some (.cells vs t (0, 0)) ∧ vs.size = z ∧ l.length ≤ z ∧ RepGs ρ (vs.toList.take l.length) l ∧ ∀ v ∈ vs.toList.take l.length, v.oneCell' = true
  | .map _ kv => ∃ es clock, w.heap[r]? = some (.map es clock) ∧ KvRep ρ es.toList kv ∧ (kv.map (·.1)).Nodup ∧ kv.length ≤ maxLen ∧ (∀ e ∈ es.toList, e.born < clock) ∧ (es.toList.map (·.born)).Nodup
  | .siter len n pos => ∃ s : ByteArray, w.heap[r]? = some (.stringIter s pos) ∧ s.size = len ∧ pk s.data.toList = n
  | .miter m ver cur rem => ∃ rm zm since seen stepped, ρ m = some (rm, zm) ∧ w.heap[r]? = some (.mapIter (some rm) since seen stepped) ∧
      (∀ v kv, h.get m = .map v kv → ver ≤ v ∧ (v = ver → ∀ es clock, w.heap[rm]? = some (.map es clock) → since = clock ∧ stepped = clock ∧ KvRep ρ (es.toList.filter fun e => !seen.contains e.born) rem ∧ CurRep ρ es.toList seen cur))
  | .minone => ∃ a b c, w.heap[r]? = some (.mapIter none a b c)
  | .loop st pend fn s n ps asg body db => ∃ rl rd zd, w.heap[r]? = some (.loop rl) ∧ loopKeep rl st pend fn ps asg body ∧ SRep ρ s rl.tmps ∧ rl.tmps.size = n ∧ ρ db = some (rd, zd) ∧ rl.defers = rd
  | .defd => w.heap[r]? = some (.deferred (some []))

/-- What stays as it is: blocks of the world; names of the ghost that stand for nothing yet. -/
structure Bl where
  r : Nat → Prop
  p : Nat → Prop
instance : CoeFun Bl (fun _ => Nat → Prop) := ⟨Bl.r⟩

structure HRep (B : Bl) (ρ : Rho) (h : GH) (w : World) : Prop where
  blk : ∀ b r z, (h.get b).isDead = false → ρ b = some (r, z) → BRep ρ h w r z (h.get b)
  inj : ∀ b b' r z z', (h.get b).isDead = false → (h.get b').isDead = false → ρ b = some (r, z) → ρ b' = some (r, z') → b = b'
  lo : ∀ b r z, ρ b = some (r, z) → ¬ B r ∧ r < w.heap.size
  dom : ∀ b x, ρ b = some x → b < h.size
  top : ∀ r, B r → r < w.heap.size
  pl : ∀ b x, ρ b = some x → ¬ B.p b
  pt : ∀ b, B.p b → b < h.size

/-- What stays as it is: all blocks of B, and what lies outside of memory. -/
structure Kept (B : Bl) (w w' : World) : Prop where
  os : w'.os = w.os
  tape : w'.tape = w.tape
  output : w'.output = w.output
  size : w.heap.size ≤ w'.heap.size
  block : ∀ b, B b → w'.heap[b]? = w.heap[b]?

theorem Kept.refl (B : Bl) (w : World) : Kept B w w := ⟨rfl, rfl, rfl, Nat.le_refl _, fun _ _ => rfl⟩
theorem Kept.trans {B : Bl} {w x y : World} (h : Kept B w x) (k : Kept B x y) : Kept B w y :=
  ⟨k.os.trans h.os, k.tape.trans h.tape, k.output.trans h.output, Nat.le_trans h.size k.size, fun b hb => (k.block b hb).trans (h.block b hb)⟩
theorem Kept.drew (B : Bl) (w : World) : Kept B w { w with drawn := w.drawn + 1 } := ⟨rfl, rfl, rfl, Nat.le_refl _, fun _ _ => rfl⟩

end Go.Gx

/- The ghost machine's operations that change nothing. -/
namespace Go.Gx
open Go.Hk (TT TTok TyI Sh lk TyOk ShOk)

/-! ### Lists, for the kernel -/
noncomputable def gnth (l : List G) : Nat → Option G :=
  List.rec (motive := fun _ => Nat → Option G) (fun _ => none) (fun x _ ih n => Nat.rec (motive := fun _ => Option G) (some x) (fun m _ => ih m) n) l
theorem gnth_eq : ∀ (l : List G) (n : Nat), gnth l n = l[n]?
  | [], n => by simp [gnth]
  | x :: l, 0 => by
    show some x = _
    simp
  | x :: l, n + 1 => by
    show gnth l n = _
    rw [gnth_eq l n]; simp

noncomputable def gdrop (l : List G) : Nat → Option (List G) :=
  List.rec (motive := fun _ => Nat → Option (List G)) (fun o => Nat.rec (motive := fun _ => Option (List G)) (some []) (fun _ _ => none) o)
    (fun x r ih o => Nat.rec (motive := fun _ => Option (List G)) (some (x :: r)) (fun m _ => ih m) o) l
theorem gdrop_eq : ∀ (l : List G) (o : Nat), gdrop l o = if o ≤ l.length then some (l.drop o) else none
  | [], 0 => rfl
  | [], o + 1 => by simp [gdrop]
  | x :: l, 0 => rfl
  | x :: l, o + 1 => by
    show gdrop l o = _
    rw [gdrop_eq l o]; simp

noncomputable def gtake (n : Nat) : List G → Option (List G) :=
  Nat.rec (motive := fun _ => List G → Option (List G)) (fun _ => some [])
    (fun _ ih l => List.rec (motive := fun _ => Option (List G)) none (fun x r _ => Option.rec (motive := fun _ => Option (List G)) none (fun t => some (x :: t)) (ih r)) l) n
theorem gtake_eq : ∀ (n : Nat) (l : List G), gtake n l = if n ≤ l.length then some (l.take n) else none
  | 0, l => by
    show some [] = _
    simp
  | n + 1, [] => by simp [gtake]
  | n + 1, x :: l => by
    show Option.rec (motive := fun _ => Option (List G)) none (fun t => some (x :: t)) (gtake n l) = _
    rw [gtake_eq n l]
    by_cases h : n ≤ l.length <;> simp [h]

noncomputable def gsub (l : List G) (o n : Nat) : Option (List G) := Option.rec (motive := fun _ => Option (List G)) none (gtake n) (gdrop l o)
theorem gsub_eq {l r : List G} {o n : Nat} (h : gsub l o n = some r) : r = (l.drop o).take n ∧ o + n ≤ l.length := by
  unfold gsub at h
  rw [gdrop_eq] at h
  by_cases ho : o ≤ l.length
  · rw [if_pos ho] at h
    have h : gtake n (l.drop o) = some r := h
    rw [gtake_eq] at h
    split at h
    · rename_i hn
      cases h
      simp at hn
      exact ⟨rfl, by omega⟩
    · cases h
  · rw [if_neg ho] at h; cases h

/-- A list with other elements from a place on. -/
noncomputable def gover (ys : List G) : List G → Option (List G) :=
  List.rec (motive := fun _ => List G → Option (List G)) (fun l => some l)
    (fun y _ ih l => List.rec (motive := fun _ => Option (List G)) none (fun _ r _ => Option.rec (motive := fun _ => Option (List G)) none (fun t => some (y :: t)) (ih r)) l) ys
noncomputable def gsplice (l : List G) : Nat → List G → Option (List G) :=
  List.rec (motive := fun _ => Nat → List G → Option (List G)) (fun o ys => Nat.rec (motive := fun _ => Option (List G)) (gover ys []) (fun _ _ => none) o)
    (fun x r ih o ys => Nat.rec (motive := fun _ => Option (List G)) (gover ys (x :: r)) (fun m _ => Option.rec (motive := fun _ => Option (List G)) none (fun t => some (x :: t)) (ih m ys)) o) l
theorem gover_eq : ∀ (ys l : List G), gover ys l = if ys.length ≤ l.length then some (ys ++ l.drop ys.length) else none
  | [], l => by simp [gover]
  | y :: ys, [] => by simp [gover]
  | y :: ys, x :: l => by
    show Option.rec (motive := fun _ => Option (List G)) none (fun t => some (y :: t)) (gover ys l) = _
    rw [gover_eq ys l]
    by_cases h : ys.length ≤ l.length <;> simp [h]
theorem gsplice_eq : ∀ {l : List G} {o : Nat} {ys r : List G}, gsplice l o ys = some r → r = l.take o ++ ys ++ l.drop (o + ys.length) ∧ o + ys.length ≤ l.length
  | [], 0, ys, r, h => by
    have h : gover ys [] = some r := h
    rw [gover_eq] at h
    split at h
    · rename_i hl; cases h; simp at hl; subst hl; simp
    · cases h
  | [], o + 1, ys, r, h => by cases h
  | x :: l, 0, ys, r, h => by
    have h : gover ys (x :: l) = some r := h
    rw [gover_eq] at h
    split at h
    · rename_i hl; cases h; simp; simpa using hl
    · cases h
  | x :: l, o + 1, ys, r, h => by
    have h : Option.rec (motive := fun _ => Option (List G)) none (fun t => some (x :: t)) (gsplice l o ys) = some r := h
    cases hs : gsplice l o ys with
    | none => rw [hs] at h; cases h
    | some t =>
      rw [hs] at h; cases h
      obtain ⟨h1, h2⟩ := gsplice_eq hs
      refine ⟨?_, by simp; omega⟩
      rw [h1, show o + 1 + ys.length = (o + ys.length) + 1 by omega]
      simp

/-! ### Operands -/
def ofValue : Value → Option G
  | .bool b => some (.bool b)
  | .int k n => some (.int k n)
  | .string s => some (.str s.size (pk s.data.toList))
  | .pointer none => some .nilp
  | .slice none 0 0 => some .nils
  | .map none => some .nilm
  | .nilFunc => some .nilf
  | .nilIface => some .nili
  | _ => none

def evA (x : Operand) (s : S) : G := match x with
  | .tmp t => getS t s
  | .const v => match ofValue v with
    | some g => g
    | none => .undef
  | .func f => .fn f [] []
  | .global _ => .undef

theorem ofValue_rep {ρ : Rho} {v : Value} {g : G} (h : ofValue v = some g) : RepG ρ v g := by
  unfold ofValue at h
  split at h <;> first
    | (cases h; exact .bool _)
    | (cases h; exact .int _ _)
    | (cases h; exact .str _ _ _ rfl rfl)
    | (cases h; exact .nilp)
    | (cases h; exact .nils)
    | (cases h; exact .nilm)
    | (cases h; exact .nilf)
    | (cases h; exact .nili)
    | cases h

theorem evA_rep {ρ : Rho} {s : S} {a : Act} (h : SRep ρ s a.tmps) (x : Operand) : RepG ρ (a.eval x) (evA x s) := by
  cases x with
  | tmp t =>
    exact h.2 t
  | const v =>
    show RepG ρ v (match ofValue v with | some g => g | none => .undef)
    cases hv : ofValue v with
    | none => exact .undef _
    | some g => exact ofValue_rep hv
  | func f => exact .fn f #[] #[] [] [] rfl rfl (fun i v g h => by simp at h) (fun i v g h => by simp at h)
  | global g => exact .undef _

end Go.Gx

/- The ghost machine's memory under writes and new blocks. -/
namespace Go.Gx
open Go.Hk (TT TTok TyI Sh lk TyOk ShOk)

theorem getD_set {tmps : Array Value} {d t : Nat} {v : Value} : (tmps.setIfInBounds d v).getD t Go.undef = if d = t ∧ d < tmps.size then v else tmps.getD t Go.undef := by
  simp only [Array.getD_eq_getD_getElem?]
  by_cases h : d = t
  · subst h
    by_cases hd : d < tmps.size
    · simp [hd]
    · simp [hd]
  · rw [Array.getElem?_setIfInBounds_ne h, if_neg (fun hh => h hh.1)]

theorem SRep.set {ρ : Rho} {s : S} {tmps : Array Value} (h : SRep ρ s tmps) {d : Nat} {v : Value} {g : G} (hd : d < tmps.size) (hv : RepG ρ v g) : SRep ρ (setS d s g) (tmps.setIfInBounds d v) := by
  refine ⟨by simpa using h.1, fun t => ?_⟩
  rw [getD_set, getS_setS t d s g]
  by_cases hdt : d = t
  · subst hdt; simpa [hd] using hv
  · rw [if_neg (fun hh => hdt hh.1), if_neg (fun hh => hdt hh.symm)]
    exact h.2 t

theorem SRep.put {ρ : Rho} {s : S} {a : Act} (h : SRep ρ s a.tmps) {d : Nat} {v : Value} {g : G} (hd : d < a.tmps.size) (hv : RepG ρ v g) : SRep ρ (setS d s g) (a.put (some d) v).tmps := h.set hd hv

/-! ### Memory -/
theorem KvRep.mono {ρ ρ' : Rho} (hρ : ρ.le ρ') {es : List MapEntry} {kv : List (G × G)} (h : KvRep ρ es kv) : KvRep ρ' es kv := by
  obtain ⟨l, h1, h2, h3⟩ := h
  exact ⟨l, h1, h2, fun i e p a b => ⟨(h3 i e p a b).1.mono hρ, (h3 i e p a b).2.mono hρ⟩⟩

theorem CurRep.mono {ρ ρ' : Rho} (hρ : ρ.le ρ') {es : List MapEntry} {seen : Array Nat} {cur : Option (G × G)} (h : CurRep ρ es seen cur) : CurRep ρ' es seen cur := by
  cases cur with
  | none => trivial
  | some p =>
    obtain ⟨e, s0, h1, h2, h3, h4⟩ := h
    exact ⟨e, s0, h1, h2, h3.mono hρ, h4.mono hρ⟩

/-- A block is as it was, in a later world. -/
theorem BRep.frame {ρ ρ' : Rho} {h h' : GH} {w w' : World} {r z : Nat} {g : GB} (hr : BRep ρ h w r z g) (hρ : ρ.le ρ') (hw : w'.heap[r]? = w.heap[r]?)
    (hm : ∀ m ver cur rem v kv rm zm, g = .miter m ver cur rem → ρ m = some (rm, zm) → h'.get m = .map v kv → (∃ kv0, h.get m = .map v kv0 ∧ w'.heap[rm]? = w.heap[rm]?) ∨ (∃ v0 kv0, h.get m = .map v0 kv0 ∧ v0 < v)) : BRep ρ' h' w' r z g := by
  cases g with
  | dead => trivial
  | cells l => obtain ⟨vs, t, h1, h2, h3, h4, h5⟩ := hr; exact ⟨vs, t, hw.trans h1, h2, h3, h4.mono hρ, h5⟩
  | map ver kv => obtain ⟨es, clock, h1, h2, h3⟩ := hr; exact ⟨es, clock, hw.trans h1, h2.mono hρ, h3⟩
  | siter len n pos => obtain ⟨s, h1, h2⟩ := hr; exact ⟨s, hw.trans h1, h2⟩
  | miter m ver cur rem =>
    obtain ⟨rm, zm, since, seen, stepped, h1, h2, h3⟩ := hr
    refine ⟨rm, zm, since, seen, stepped, hρ _ _ h1, hw.trans h2, fun v kv hk => ?_⟩
    rcases hm m ver cur rem v kv rm zm rfl h1 hk with ⟨kv0, q1, q2⟩ | ⟨v0, kv0, q1, q2⟩
    · obtain ⟨q3, q4⟩ := h3 v kv0 q1
      refine ⟨q3, fun e es clock he => ?_⟩
      obtain ⟨q5, q6, q7, q8⟩ := q4 e es clock (by rw [← q2]; exact he)
      exact ⟨q5, q6, q7.mono hρ, q8.mono hρ⟩
    · obtain ⟨q3, _⟩ := h3 v0 kv0 q1
      exact ⟨by omega, fun e => by omega⟩
  | minone => obtain ⟨a, b, c, h1⟩ := hr; exact ⟨a, b, c, hw.trans h1⟩
  | loop st pend fn s n ps asg body db =>
    obtain ⟨rl, rd, zd, h1, h2, h3, h4, h5, h6⟩ := hr
    exact ⟨rl, rd, zd, hw.trans h1, h2, h3.mono hρ, h4, hρ _ _ h5, h6⟩
  | defd => exact hw.trans hr

section
variable {B : Bl} {ρ : Rho} {h h' : GH} {w : World}

theorem HRep.atρ (hr : HRep B ρ h w) {b r z : Nat} {g : GB} (hg : h.get b = g) (hd : g.isDead = false) (hρ : ρ b = some (r, z)) : BRep ρ h w r z g := by
  subst hg; exact hr.blk b r z hd hρ

noncomputable def GH.set? (h : GH) (b : Nat) (x : GB) : Option GH := match h.t.set? b x with
  | some t => some ⟨h.size, t⟩
  | none => none

theorem GH.get_set {x : GB} {b : Nat} (hs : h.set? b x = some h') : h'.size = h.size ∧ ∀ j, h'.get j = if j = b then x else h.get j := by
  unfold GH.set? at hs
  split at hs
  · rename_i t ht
    cases hs
    exact ⟨rfl, T.get_set ht⟩
  · cases hs

/-- A live block is written: the world's block holds another object. -/
theorem HRep.write (hr : HRep B ρ h w) {b r z : Nat} {x : GB} {o : Obj} (hs : h.set? b x = some h') (hlive : (h.get b).isDead = false) (hρ : ρ b = some (r, z))
    (hx : BRep ρ h' { w with heap := w.heap.setIfInBounds r o } r z x) (hver : ∀ v kv, x = .map v kv → ∃ v0 kv0, h.get b = .map v0 kv0 ∧ v0 < v) :
    HRep B ρ h' { w with heap := w.heap.setIfInBounds r o } := by
  obtain ⟨hsz, hget⟩ := GH.get_set hs
  have hrlt := (hr.lo b r z hρ).2
  refine { blk := fun j rj zj hj hρj => ?_, inj := fun i j ri zi zj hi hj hρi hρj => ?_, lo := fun j r' z' hj => by simpa using hr.lo j r' z' hj, dom := fun j x hj => by rw [hsz]; exact hr.dom j x hj, top := fun r hb => by simpa using hr.top r hb, pl := hr.pl, pt := fun b hb => by rw [hsz]; exact hr.pt b hb }
  · rw [hget] at hj ⊢
    by_cases hjb : j = b
    · subst hjb
      rw [if_pos rfl]
      rw [hρ] at hρj; cases hρj
      exact hx
    · rw [if_neg hjb] at hj ⊢
      have h2 := hr.blk j rj zj hj hρj
      have hne : rj ≠ r := fun e => by subst e; exact hjb (hr.inj j b rj zj z hj hlive hρj hρ)
      refine h2.frame (Rho.le_refl ρ) (by simp [Array.getElem?_setIfInBounds_ne (Ne.symm hne)]) ?_
      intro m ver cur rem v kv rm zm hg hm hk
      rw [hget] at hk
      by_cases hmb : m = b
      · subst hmb
        rw [if_pos rfl] at hk
        exact .inr (hver v kv hk)
      · rw [if_neg hmb] at hk
        have hmlive : (h.get m).isDead = false := by rw [hk]; rfl
        have hne2 : rm ≠ r := fun e => by subst e; exact hmb (hr.inj m b rm zm z hmlive hlive hm hρ)
        exact .inl ⟨kv, hk, by simp [Array.getElem?_setIfInBounds_ne (Ne.symm hne2)]⟩
  · rw [hget] at hi hj
    have hi' : (h.get i).isDead = false := by
      by_cases e : i = b
      · rw [e]; exact hlive
      · rwa [if_neg e] at hi
    have hj' : (h.get j).isDead = false := by
      by_cases e : j = b
      · rw [e]; exact hlive
      · rwa [if_neg e] at hj
    exact hr.inj i j ri zi zj hi' hj' hρi hρj

/-- The same where the new block is no map. -/
theorem HRep.write1 (hr : HRep B ρ h w) {b r z : Nat} {x : GB} {o : Obj} (hs : h.set? b x = some h') (hlive : (h.get b).isDead = false) (hρ : ρ b = some (r, z))
    (hx : BRep ρ h' { w with heap := w.heap.setIfInBounds r o } r z x) (hn : ∀ ver kv, x ≠ .map ver kv) : HRep B ρ h' { w with heap := w.heap.setIfInBounds r o } :=
  hr.write hs hlive hρ hx (fun v kv hx => absurd hx (hn v kv))

theorem Kept.write {r : Nat} {o : Obj} (hr : ¬ B r) : Kept B w { w with heap := w.heap.setIfInBounds r o } :=
  ⟨rfl, rfl, rfl, by simp, fun b hb => by simp [Array.getElem?_setIfInBounds_ne (show r ≠ b from fun e => hr (e ▸ hb))]⟩

noncomputable def GH.push? (h : GH) (x : GB) : Option GH := match h.t.set? h.size x with
  | some t => some ⟨h.size + 1, t⟩
  | none => none

theorem GH.get_push {x : GB} (hs : h.push? x = some h') : h'.size = h.size + 1 ∧ ∀ j, h'.get j = if j = h.size then x else h.get j := by
  unfold GH.push? at hs
  split at hs
  · rename_i t ht
    cases hs
    exact ⟨rfl, T.get_set ht⟩
  · cases hs

def Rho.add (ρ : Rho) (b : Nat) (x : Nat × Nat) : Rho := fun i => if i = b then some x else ρ i

theorem HRep.fresh (hr : HRep B ρ h w) : ρ h.size = none := by
  cases hx : ρ h.size with
  | none => rfl
  | some x => have := hr.dom _ _ hx; omega

theorem HRep.le_add (hr : HRep B ρ h w) (x : Nat × Nat) : ρ.le (ρ.add h.size x) := by
  intro i y hy
  unfold Rho.add
  rw [if_neg (fun e => by rw [e, hr.fresh] at hy; cases hy)]
  exact hy

/-- A new block. -/
theorem HRep.push (hr : HRep B ρ h w) {x : GB} {o : Obj} {z : Nat} (hs : h.push? x = some h')
    (hx : BRep (ρ.add h.size (w.heap.size, z)) h' { w with heap := w.heap.push o } w.heap.size z x) :
    HRep B (ρ.add h.size (w.heap.size, z)) h' { w with heap := w.heap.push o } := by
  obtain ⟨hsz, hget⟩ := GH.get_push hs
  have hle := hr.le_add (w.heap.size, z)
  have hold : ∀ j r' z', j ≠ h.size → ρ.add h.size (w.heap.size, z) j = some (r', z') → ρ j = some (r', z') := fun j r' z' hj hh => by
    unfold Rho.add at hh; rwa [if_neg hj] at hh
  refine { blk := fun j rj zj hj hρj => ?_, inj := fun i j ri zi zj hi hj hρi hρj => ?_, lo := fun j r' z' hj => ?_, dom := fun j x hj => ?_, top := fun r hb => by have := hr.top r hb; simp; omega, pl := fun j x hj => ?_, pt := fun b hb => by have := hr.pt b hb; omega }
  · rw [hget] at hj ⊢
    by_cases hjb : j = h.size
    · subst hjb
      rw [if_pos rfl]
      unfold Rho.add at hρj; rw [if_pos rfl] at hρj; cases hρj
      exact hx
    · rw [if_neg hjb] at hj ⊢
      have h1 := hold _ _ _ hjb hρj
      have h2 := hr.blk j rj zj hj h1
      have hlt := (hr.lo _ _ _ h1).2
      refine h2.frame hle (by simp [Array.getElem?_push, Nat.ne_of_lt hlt]) ?_
      intro m ver cur rem v kv rm zm hg hm hk
      rw [hget] at hk
      have hmne : m ≠ h.size := fun e => by rw [e, hr.fresh] at hm; cases hm
      rw [if_neg hmne] at hk
      have hlt2 := (hr.lo _ _ _ hm).2
      exact .inl ⟨kv, hk, by simp [Array.getElem?_push, Nat.ne_of_lt hlt2]⟩
  · rw [hget] at hi hj
    by_cases hie : i = h.size
    · by_cases hje : j = h.size
      · rw [hie, hje]
      · have := (hr.lo _ _ _ (hold _ _ _ hje hρj)).2
        unfold Rho.add at hρi; rw [if_pos hie] at hρi; cases hρi; omega
    · by_cases hje : j = h.size
      · have := (hr.lo _ _ _ (hold _ _ _ hie hρi)).2
        unfold Rho.add at hρj; rw [if_pos hje] at hρj; cases hρj; omega
      · rw [if_neg hie] at hi; rw [if_neg hje] at hj
        exact hr.inj i j ri zi zj hi hj (hold _ _ _ hie hρi) (hold _ _ _ hje hρj)
  · by_cases hje : j = h.size
    · unfold Rho.add at hj; rw [if_pos hje] at hj; cases hj
      exact ⟨fun hb => absurd (hr.top _ hb) (Nat.lt_irrefl _), by simp⟩
    · have := hr.lo _ _ _ (hold _ _ _ hje hj)
      exact ⟨this.1, by simp; omega⟩
  · by_cases hje : j = h.size
    · omega
    · cases hx : x with
      | mk r' z' => rw [hx] at hj; have := hr.dom _ _ (hold _ _ _ hje hj); omega
  · by_cases hje : j = h.size
    · exact fun hb => absurd (hr.pt _ hb) (by omega)
    · cases hx : x with
      | mk r' z' => rw [hx] at hj; exact hr.pl _ _ (hold _ _ _ hje hj)

theorem Kept.push {o : Obj} (hB : ∀ r, B r → r < w.heap.size) : Kept B w { w with heap := w.heap.push o } :=
  ⟨rfl, rfl, rfl, by simp, fun b hb => by
    have : b ≠ w.heap.size := Nat.ne_of_lt (hB b hb)
    simp [Array.getElem?_push, this]⟩

theorem HRep.drew (hr : HRep B ρ h w) : HRep B ρ h { w with drawn := w.drawn + 1 } :=
  { blk := fun b r z hb h1 => (hr.blk b r z hb h1).frame (Rho.le_refl ρ) rfl fun _ _ _ _ _ kv _ _ _ _ hk => .inl ⟨kv, hk, rfl⟩,
    inj := hr.inj, lo := hr.lo, dom := hr.dom, top := hr.top, pl := hr.pl, pt := hr.pt }

end
end Go.Gx

/- The ghost machine's operations that change nothing: what they yield. -/
namespace Go.Gx
open Go.Hk (TT TTok TyI Sh lk TyOk ShOk nth nth_eq)

def wrapF (k : IntKind) (n : Int) : Int := match k, n with
  | .i64, .ofNat m => match Nat.ble m 9223372036854775807 with
    | true => .ofNat m
    | false => IntKind.wrap .i64 (.ofNat m)
  | .i64, .negSucc m => match Nat.ble m 9223372036854775807 with
    | true => .negSucc m
    | false => IntKind.wrap .i64 (.negSucc m)
  | k, n => k.wrap n

theorem wrap_same (n : Int) (h1 : -9223372036854775808 ≤ n) (h2 : n ≤ 9223372036854775807) : IntKind.wrap .i64 n = n := by
  simp only [IntKind.wrap, IntKind.bits, IntKind.signed]
  simp
  omega

theorem wrapF_eq (k : IntKind) (n : Int) : wrapF k n = k.wrap n := by
  unfold wrapF
  split
  · rename_i m
    split
    · rename_i h
      rw [Nat.ble_eq] at h
      exact (wrap_same _ (by have : Int.ofNat m = (m : Int) := rfl; omega) (by have : Int.ofNat m = (m : Int) := rfl; omega)).symm
    · rfl
  · rename_i m
    split
    · rename_i h
      rw [Nat.ble_eq] at h
      exact (wrap_same _ (by omega) (by omega)).symm
    · rfl
  · rfl

def intEq (a b : Int) : Bool := match a, b with
  | .ofNat x, .ofNat y => Nat.beq x y
  | .negSucc x, .negSucc y => Nat.beq x y
  | _, _ => false
theorem intEq_eq (a b : Int) : intEq a b = (a == b) := by
  rw [Bool.eq_iff_iff]
  cases a <;> cases b <;> simp [intEq]
  all_goals omega
def intLe (a b : Int) : Bool := match a, b with
  | .ofNat x, .ofNat y => Nat.ble x y
  | .negSucc x, .negSucc y => Nat.ble y x
  | .negSucc _, .ofNat _ => true
  | .ofNat _, .negSucc _ => false
theorem intLe_eq (a b : Int) : intLe a b = decide (a ≤ b) := by
  rw [Bool.eq_iff_iff]
  cases a <;> cases b <;> simp [intLe] <;> omega

def kEq (a b : IntKind) : Bool := decide (a = b)

def ibin (op : BinOp) (k : IntKind) (a b : Int) : Option G := match op with
  | .add => some (.int k (wrapF k (a + b)))
  | .sub => some (.int k (wrapF k (a - b)))
  | .mul => some (.int k (wrapF k (a * b)))
  | .quo => match intEq b 0 with
    | true => none
    | false => some (.int k (wrapF k (a.tdiv b)))
  | .rem => match intEq b 0 with
    | true => none
    | false => some (.int k (a.tmod b))
  | .eql => some (.bool (intEq a b))
  | .neq => some (.bool (!intEq a b))
  | .lss => some (.bool (!intLe b a))
  | .leq => some (.bool (intLe a b))
  | .gtr => some (.bool (!intLe a b))
  | .geq => some (.bool (intLe b a))
  | _ => none

def sbin (op : BinOp) (la a lb b : Nat) : Option G := match op with
  | .add => match Nat.ble (Nat.add la lb) 9223372036854775807 with
    | true => some (.str (Nat.add la lb) (Nat.add a (Nat.mul (Nat.pow 256 la) b)))
    | false => none
  | .eql => some (.bool (Nat.beq la lb && Nat.beq a b))
  | .neq => some (.bool (!(Nat.beq la lb && Nat.beq a b)))
  | _ => none

/-- Where a comparison with nil is made: what it says. -/
def nilEq (x y : G) : Option Bool := match x, y with
  | .ptr .., .nilp => some false
  | .nilp, .ptr .. => some false
  | .nilp, .nilp => some true
  | .if_ .., .nili => some false
  | .nili, .if_ .. => some false
  | .sl .., .nils => some false
  | .nils, .nils => some true
  | _, _ => none

def nilSh (x : G) (sh : Sh) : Bool := match x, sh with
  | .ptr .., .ptr _ => true
  | .nilp, .ptr _ => true
  | .if_ .., .iface => true
  | .nili, .iface => true
  | .sl .., .sl _ => true
  | .nils, .sl _ => true
  | _, _ => false

def evNil (tt : TT) (op : BinOp) (t : TypeId) (x y : G) : Option G := match nilEq x y with
  | some b => match lk tt t with
    | some ti => match nilSh x ti.sh with
      | true => match op with
        | .eql => some (.bool b)
        | .neq => some (.bool (!b))
        | _ => none
      | false => none
    | none => none
  | none => none

def evBin (tt : TT) (op : BinOp) (t : TypeId) (yo : Operand) (x y : G) : Option G := match x with
  | .int k a => match y with
    | .int k' b => match kEq k k' with
      | true => ibin op k a b
      | false => none
    | _ => none
  | .str la a => match y with
    | .str lb b => sbin op la a lb b
    | _ => none
  | .bool a => match y with
    | .bool b => match lk tt t with
      | some { sh := .bool, .. } => match op with
        | .eql => some (.bool (a == b))
        | .neq => some (.bool (!(a == b)))
        | _ => none
      | _ => none
    | _ => none
  | .nili => match y with
    | .nili => match lk tt t, yo with
      | some { sh := .iface, .. }, .const _ => match op with
        | .eql => some (.bool true)
        | .neq => some (.bool false)
        | _ => none
      | _, _ => none
    | y => evNil tt op t .nili y
  | x => evNil tt op t x y

section
variable {P : Program} {w : World} {tt : TT} {ρ : Rho}

theorem RepG.intInv {v : Value} {k : IntKind} {n : Int} (h : RepG ρ v (.int k n)) : v = .int k n := by cases h; rfl
theorem RepG.boolInv {v : Value} {b : Bool} (h : RepG ρ v (.bool b)) : v = .bool b := by cases h; rfl
theorem RepG.strInv {v : Value} {l n : Nat} (h : RepG ρ v (.str l n)) : ∃ s : ByteArray, v = .string s ∧ s.size = l ∧ pk s.data.toList = n := by
  cases h with | str s _ _ h1 h2 => exact ⟨s, rfl, h1, h2⟩

theorem size_length (s : ByteArray) : s.data.toList.length = s.size := by simp

theorem str_eq {s s' : ByteArray} : (Nat.beq s.size s'.size && Nat.beq (pk s.data.toList) (pk s'.data.toList)) = (s.data.toList == s'.data.toList) := by
  rw [Bool.eq_iff_iff]
  simp only [Bool.and_eq_true, Nat.beq_eq, beq_iff_eq]
  constructor
  · rintro ⟨h1, h2⟩
    exact pk_inj (by rw [size_length, size_length, h1]) h2
  · intro h
    exact ⟨by rw [← size_length, ← size_length, h], by rw [h]⟩

theorem bool_step {op : BinOp} {t : TypeId} {xo yo : Operand} {x y r : Value} (h1 : ∀ cs, x ≠ .agg cs) (h2 : x ≠ .nilIface) (h : (binOp op t x y).run P w = .ok r w) :
    (do eqGuard op t xo yo x y; binOp op t x y : Sem Value).run P w = .ok r w := by
  simp only [Sem.run_bind, Hk.eqGuard_ok op t xo yo x y h1 h2, Result.andThen_ok, h]

theorem ibin_ok {op : BinOp} {k : IntKind} {a b : Int} {g : G} (t : TypeId) (xo yo : Operand) (h : ibin op k a b = some g) :
    ∃ v, (do eqGuard op t xo yo (.int k a) (.int k b); binOp op t (.int k a) (.int k b) : Sem Value).run P w = .ok v w ∧ RepG ρ v g := by
  have hle : ∀ x y : Int, (!decide (x ≤ y)) = decide (y < x) := fun x y => by rw [Bool.eq_iff_iff]; simp
  have fin : ∀ (v : Value), (binOp op t (.int k a) (.int k b)).run P w = .ok v w → RepG ρ v g →
      ∃ v, (do eqGuard op t xo yo (.int k a) (.int k b); binOp op t (.int k a) (.int k b) : Sem Value).run P w = .ok v w ∧ RepG ρ v g :=
    fun v h1 h2 => ⟨v, bool_step (by simp) (by simp) h1, h2⟩
  cases op <;> simp only [ibin, Option.some.injEq, reduceCtorEq] at h
  case quo =>
    split at h <;> simp only [Option.some.injEq, reduceCtorEq] at h
    rename_i hz
    rw [intEq_eq] at hz
    have hb : b ≠ 0 := by simpa using hz
    subst h
    exact fin (.int k (k.wrap (a.tdiv b))) (by simp [binOp, Op.intDiv, hb]) (by rw [wrapF_eq]; exact .int _ _)
  case rem =>
    split at h <;> simp only [Option.some.injEq, reduceCtorEq] at h
    rename_i hz
    rw [intEq_eq] at hz
    have hb : b ≠ 0 := by simpa using hz
    subst h
    exact fin (.int k (a.tmod b)) (by simp [binOp, Op.intDiv, hb]) (.int _ _)
  all_goals
    subst h
    simp only [intEq_eq, intLe_eq, wrapF_eq, hle] at fin ⊢
  case add => exact fin _ (by simp [binOp, Op.intArith]) (.int _ _)
  case sub => exact fin _ (by simp [binOp, Op.intArith]) (.int _ _)
  case mul => exact fin _ (by simp [binOp, Op.intArith]) (.int _ _)
  case eql => exact fin (.bool (a == b)) (by simp [binOp, Op.intCmp]) (.bool _)
  case neq => exact fin (.bool (!(a == b))) (by simp [binOp, Op.intCmp, bne]) (.bool _)
  case lss => exact fin (.bool (decide (a < b))) (by simp [binOp, Op.intCmp]) (.bool _)
  case leq => exact fin (.bool (decide (a ≤ b))) (by simp [binOp, Op.intCmp]) (.bool _)
  case gtr => exact fin (.bool (decide (b < a))) (by simp [binOp, Op.intCmp]) (.bool _)
  case geq => exact fin (.bool (decide (b ≤ a))) (by simp [binOp, Op.intCmp]) (.bool _)

theorem sbin_ok {op : BinOp} {s s' : ByteArray} {g : G} (t : TypeId) (xo yo : Operand) (h : sbin op s.size (pk s.data.toList) s'.size (pk s'.data.toList) = some g) :
    ∃ v, (do eqGuard op t xo yo (.string s) (.string s'); binOp op t (.string s) (.string s') : Sem Value).run P w = .ok v w ∧ RepG ρ v g := by
  have fin : ∀ (v : Value), (binOp op t (.string s) (.string s')).run P w = .ok v w → RepG ρ v g →
      ∃ v, (do eqGuard op t xo yo (.string s) (.string s'); binOp op t (.string s) (.string s') : Sem Value).run P w = .ok v w ∧ RepG ρ v g :=
    fun v h1 h2 => ⟨v, bool_step (by simp) (by simp) h1, h2⟩
  cases op <;> simp only [sbin, Option.some.injEq, reduceCtorEq] at h
  case add =>
    split at h <;> simp only [Option.some.injEq, reduceCtorEq] at h
    rename_i hl
    rw [Nat.ble_eq] at hl
    subst h
    have hl : s.size + s'.size ≤ 9223372036854775807 := hl
    refine fin (.string (s ++ s')) ?_ ?_
    · have : ¬ ((s.size + s'.size : Nat) : Int) > IntKind.i64.max := by
        simp only [IntKind.max]
        simp [IntKind.signed, IntKind.bits]
        omega
      simp only [binOp, Op.stringOp, this, if_false, Sem.run_pure]
    · refine .str _ _ _ (by simp) ?_
      have : (s ++ s').data.toList = s.data.toList ++ s'.data.toList := by simp [ByteArray.data_append]
      rw [this, pk_append, size_length]
      rfl
  case eql =>
    subst h
    refine fin (.bool (s.data.toList == s'.data.toList)) ?_ ?_
    · simp only [binOp, Op.stringOp, ByteArray.toList_eq, Sem.run_pure]
    · rw [str_eq]; exact .bool _
  case neq =>
    subst h
    refine fin (.bool (!(s.data.toList == s'.data.toList))) ?_ ?_
    · simp only [binOp, Op.stringOp, ByteArray.toList_eq, Sem.run_pure]
    · rw [str_eq]; exact .bool _

theorem eqIn_ptr_nil (n : Nat) {t e : TypeId} (hu : P.underlying t = some (.pointer e)) (a : Addr) : (Op.equalIn (n + 1) t (.pointer (some a)) (.pointer none)).run P w = .ok false w := by simp [Op.equalIn, run_underlying hu]
theorem eqIn_nil_ptr (n : Nat) {t e : TypeId} (hu : P.underlying t = some (.pointer e)) (a : Addr) : (Op.equalIn (n + 1) t (.pointer none) (.pointer (some a))).run P w = .ok false w := by simp [Op.equalIn, run_underlying hu]
theorem eqIn_nil_nil (n : Nat) {t e : TypeId} (hu : P.underlying t = some (.pointer e)) : (Op.equalIn (n + 1) t (.pointer none) (.pointer none)).run P w = .ok true w := by simp [Op.equalIn, run_underlying hu]
theorem eqIn_if_nil (n : Nat) {t : TypeId} {ms : Array (String × TypeId)} (hu : P.underlying t = some (.interface ms)) (u : TypeId) (v : Value) : (Op.equalIn (n + 1) t (.iface u v) .nilIface).run P w = .ok false w := by simp [Op.equalIn, run_underlying hu]
theorem eqIn_nil_if (n : Nat) {t : TypeId} {ms : Array (String × TypeId)} (hu : P.underlying t = some (.interface ms)) (u : TypeId) (v : Value) : (Op.equalIn (n + 1) t .nilIface (.iface u v)).run P w = .ok false w := by simp [Op.equalIn, run_underlying hu]
theorem eqIn_ni_ni (n : Nat) {t : TypeId} {ms : Array (String × TypeId)} (hu : P.underlying t = some (.interface ms)) : (Op.equalIn (n + 1) t .nilIface .nilIface).run P w = .ok true w := by simp [Op.equalIn, run_underlying hu]
theorem eqIn_sl_nil (n : Nat) {t e : TypeId} (hu : P.underlying t = some (.slice e)) (a : Addr) (l c : Nat) : (Op.equalIn (n + 1) t (.slice (some a) l c) (.slice none 0 0)).run P w = .ok false w := by simp [Op.equalIn, run_underlying hu]
theorem eqIn_sn_nil (n : Nat) {t e : TypeId} (hu : P.underlying t = some (.slice e)) : (Op.equalIn (n + 1) t (.slice none 0 0) (.slice none 0 0)).run P w = .ok true w := by simp [Op.equalIn, run_underlying hu]

theorem nilEq_ok {x y : G} {b : Bool} {t : TypeId} {ti : TyI} {vx vy : Value} (xo yo : Operand) (hx : RepG ρ vx x) (hy : RepG ρ vy y) (h : nilEq x y = some b) (hs : nilSh x ti.sh = true) (ht : ShOk P t ti.sh) :
    (do eqGuard .eql t xo yo vx vy; binOp .eql t vx vy : Sem Value).run P w = .ok (.bool b) w ∧ (do eqGuard .neq t xo yo vx vy; binOp .neq t vx vy : Sem Value).run P w = .ok (.bool !b) w := by
  have fin : ∀ (hne1 : ∀ cs, vx ≠ .agg cs) (hne2 : vx ≠ .nilIface ∨ ∃ t v, vy = .iface t v), (binOp .eql t vx vy = do pure (.bool (← Op.equal t vx vy))) → (binOp .neq t vx vy = do pure (.bool (!(← Op.equal t vx vy)))) →
      (Op.equal t vx vy).run P w = .ok b w →
      (do eqGuard .eql t xo yo vx vy; binOp .eql t vx vy : Sem Value).run P w = .ok (.bool b) w ∧ (do eqGuard .neq t xo yo vx vy; binOp .neq t vx vy : Sem Value).run P w = .ok (.bool !b) w := by
    intro h1 h2 h4 h5 h3
    have hg : ∀ op, (eqGuard op t xo yo vx vy).run P w = .ok () w := by
      intro op
      rcases h2 with h2 | ⟨t', v, rfl⟩
      · exact Hk.eqGuard_ok op t xo yo vx vy h1 h2
      · by_cases hn : vx = .nilIface
        · subst hn
          unfold eqGuard
          cases op <;> simp
        · exact Hk.eqGuard_ok op t xo yo vx _ h1 hn
    simp only [Sem.run_bind, hg, Result.andThen_ok, h4, h5, h3, Sem.run_pure, and_self]
  unfold nilEq at h
  split at h <;> simp only [Option.some.injEq, reduceCtorEq] at h <;> subst h
  all_goals
    cases hx <;> cases hy <;> cases hsh : ti.sh <;> rw [hsh] at hs ht <;> simp only [nilSh, reduceCtorEq] at hs
  all_goals
    refine fin (by simp) (by simp) rfl rfl ?_
  · exact eqIn_ptr_nil 9999 ht _
  · exact eqIn_nil_ptr 9999 ht _
  · exact eqIn_nil_nil 9999 ht
  · obtain ⟨ms, hu⟩ := ht; exact eqIn_if_nil 9999 hu _ _
  · obtain ⟨ms, hu⟩ := ht; exact eqIn_nil_if 9999 hu _ _
  · exact eqIn_sl_nil 9999 ht _ _ _
  · exact eqIn_sl_nil 9999 ht _ _ _
  · exact eqIn_sn_nil 9999 ht

theorem evNil_ok (htt : TTok P tt) {op : BinOp} {t : TypeId} {xo yo : Operand} {x y g : G} {vx vy : Value} (hx : RepG ρ vx x) (hy : RepG ρ vy y) (h : evNil tt op t x y = some g) :
    ∃ v, (do eqGuard op t xo yo vx vy; binOp op t vx vy : Sem Value).run P w = .ok v w ∧ RepG ρ v g := by
  unfold evNil at h
  cases hn : nilEq x y with
  | none => rw [hn] at h; cases h
  | some b =>
    rw [hn] at h
    cases hl : lk tt t with
    | none => rw [hl] at h; cases h
    | some ti =>
      rw [hl] at h
      simp only at h
      cases hs : nilSh x ti.sh with
      | false => rw [hs] at h; cases h
      | true =>
        rw [hs] at h
        have := nilEq_ok (P := P) (w := w) xo yo hx hy hn hs (htt t _ hl).sh
        cases op <;> simp only [Option.some.injEq, reduceCtorEq] at h <;> subst h
        · exact ⟨_, this.1, .bool _⟩
        · exact ⟨_, this.2, .bool _⟩

theorem evBin_ok (htt : TTok P tt) {op : BinOp} {t : TypeId} {xo yo : Operand} {x y g : G} {vx vy : Value} (hx : RepG ρ vx x) (hy : RepG ρ vy y) (h : evBin tt op t yo x y = some g) :
    ∃ v, (do eqGuard op t xo yo vx vy; binOp op t vx vy : Sem Value).run P w = .ok v w ∧ RepG ρ v g := by
  unfold evBin at h
  split at h
  · split at h
    · split at h
      · rename_i hk
        have : _ = _ := of_decide_eq_true hk
        subst this
        obtain rfl := hx.intInv
        obtain rfl := hy.intInv
        exact ibin_ok t xo yo h
      · cases h
    · cases h
  · split at h
    · obtain ⟨s, rfl, rfl, rfl⟩ := hx.strInv
      obtain ⟨s', rfl, rfl, rfl⟩ := hy.strInv
      exact sbin_ok t xo yo h
    · cases h
  · split at h
    · rename_i p _ q
      obtain rfl := hx.boolInv
      obtain rfl := hy.boolInv
      split at h
      · rename_i hl
        have hs : P.underlying t = some .bool := (htt t _ hl).sh
        cases op <;> simp only [Option.some.injEq, reduceCtorEq] at h <;> subst h
        · exact ⟨_, bool_step (by simp) (by simp) (run_eql_bool w t p q hs), .bool _⟩
        · exact ⟨_, bool_step (by simp) (by simp) (run_neq_bool w t p q hs), .bool _⟩
      · cases h
    · cases h
  · split at h
    · cases hx
      cases hy
      split at h
      · rename_i hl
        obtain ⟨ms, hu⟩ : ∃ ms, P.underlying t = some (.interface ms) := (htt t _ hl).sh
        have he : (Op.equal t .nilIface .nilIface).run P w = .ok true w := eqIn_ni_ni 9999 hu
        cases op <;> simp only [Option.some.injEq, reduceCtorEq] at h <;> subst h
        · refine ⟨.bool true, ?_, .bool _⟩
          simp [eqGuard, binOp, he]
        · refine ⟨.bool false, ?_, .bool _⟩
          simp [eqGuard, binOp, he]
      · cases h
    · exact evNil_ok htt hx hy h
  · exact evNil_ok htt hx hy h

end
end Go.Gx

/- The ghost machine's operations that change nothing: loads, parts, composites, looks into maps. -/
namespace Go.Gx
open Go.Hk (TT TTok TyI Sh lk TyOk ShOk nth nth_eq)

/-! ### Zero values -/
def zOf : Hk.D → Option G
  | .imm (.bool b) => some (.bool b)
  | .imm (.int k n) => some (.int k n)
  | .imm (.str []) => some (.str 0 0)
  | .imm .nilp => some .nilp
  | .imm .nilmap => some .nilm
  | .imm .nilfn => some .nilf
  | .imm .niliface => some .nili
  | .nils => some .nils
  | _ => none
def zsOf : List Hk.D → Option (List G)
  | [] => some []
  | d :: r => match zOf d, zsOf r with
    | some g, some gs => some (g :: gs)
    | _, _ => none

def zOkB (P : Program) : TT → Bool
  | [] => true
  | (t, i) :: r => (match P.info? t with
    | some inf => match inf.zero with
      | some (.agg _) => i.agg
      | some z => !i.agg && z.oneCell'
      | none => false
    | none => false) && zOkB P r

def TTz (P : Program) (tt : TT) : Prop := ∀ t i, lk tt t = some i → ∃ inf z, P.info? t = some inf ∧ inf.zero = some z ∧ (i.agg = true → ∃ cs, z = .agg cs) ∧ (i.agg = false → z.oneCell' = true)

theorem zOkB_ok {P : Program} : ∀ {tt : TT}, zOkB P tt = true → TTz P tt
  | [], _, t, i, h => by simp [lk] at h
  | (x, j) :: r, hz, t, i, h => by
    simp only [zOkB, Bool.and_eq_true] at hz
    by_cases hx : x = t
    · subst hx
      rw [Hk.lk_cons_self] at h; cases h
      obtain ⟨h1, _⟩ := hz
      split at h1
      · rename_i inf hinf
        split at h1
        · rename_i cs hc
          exact ⟨inf, _, hinf, hc, fun _ => ⟨cs, rfl⟩, fun hf => (by rw [h1] at hf; cases hf)⟩
        · rename_i z hn hz'
          simp only [Bool.and_eq_true, Bool.not_eq_true'] at h1
          exact ⟨inf, z, hinf, hz', fun ht => (by rw [h1.1] at ht; cases ht), fun _ => h1.2⟩
        · cases h1
      · cases h1
    · rw [Hk.lk_cons_ne _ _ hx] at h
      exact zOkB_ok hz.2 t i h

section
variable {P : Program} {w : World} {tt : TT} {ρ : Rho}

theorem zOf_rep {d : Hk.D} {g : G} {v : Value} (h : zOf d = some g) (hr : Hk.RepD (fun _ => none) (fun _ => none) v d) : RepG ρ v g := by
  unfold zOf at h
  split at h <;> simp only [Option.some.injEq, reduceCtorEq] at h <;> subst h
  · have := hr.immInv; cases this; exact .bool _
  · have := hr.immInv; cases this; exact .int _ _
  · have := hr.immInv
    cases this with
    | str s l hs =>
      refine .str _ _ _ ?_ (by rw [hs]; rfl)
      rw [← size_length, hs]; rfl
  · have := hr.immInv; cases this; exact .nilp
  · have := hr.immInv; cases this; exact .nilm
  · have := hr.immInv; cases this; exact .nilf
  · have := hr.immInv; cases this; exact .nili
  · cases hr; exact .nils

theorem zsOf_rep : ∀ {ds : List Hk.D} {gs : List G} {vs : List Value}, zsOf ds = some gs → Hk.RepL (fun _ => none) (fun _ => none) vs ds → RepGs ρ vs gs
  | [], gs, vs, h, hr => by
    cases h
    have : vs = [] := List.eq_nil_of_length_eq_zero hr.1
    subst this
    exact .nil
  | d :: r, gs, [], h, hr => by simp [Hk.RepL] at hr
  | d :: r, gs, v :: vs, h, hr => by
    simp only [zsOf] at h
    split at h
    · rename_i g gs' h1 h2
      cases h
      exact .mk (zOf_rep h1 hr.cons.1) (zsOf_rep h2 hr.cons.2)
    · cases h

/-- The zero value of a type. -/
def zeroG (i : TyI) : Option G := match zsOf i.zero with
  | some gs => match i.agg with
    | true => some (.agg gs)
    | false => match gs with
      | [g] => some g
      | _ => none
  | none => none

theorem zeroG_ok (htt : TTok P tt) (hz : TTz P tt) {t : TypeId} {i : TyI} {g : G} (hl : lk tt t = some i) (h : zeroG i = some g) :
    ∃ v, (zeroValue t).run P w = .ok v w ∧ RepG ρ v g ∧ ∃ gs, zsOf i.zero = some gs ∧ RepGs ρ v.cells.toList gs ∧ (∀ u ∈ v.cells.toList, u.oneCell' = true) ∧ v.cells.size = gs.length := by
  obtain ⟨inf, z, h1, _, _, h4, h5, h6⟩ := (htt t i hl).info
  obtain ⟨inf', z', k1, k2, k3, k4⟩ := hz t i hl
  rw [h1] at k1; cases k1
  rw [h4] at k2; cases k2
  have hrun : (zeroValue t).run P w = .ok z w := by simp [zeroValue, typeInfo, h1, h4]
  unfold zeroG at h
  split at h
  · rename_i gs hgs
    have hr := zsOf_rep (ρ := ρ) hgs (h5 _ _)
    refine ⟨z, hrun, ?_, gs, hgs, hr, h6, by have := hr.1; simpa using this⟩
    cases ha : i.agg with
    | true =>
      rw [ha] at h; cases h
      obtain ⟨cs, rfl⟩ := k3 ha
      exact .agg _ _ (by have := hr.1; simpa [Value.cells] using this) h6 (fun i v g a b => hr.2 i v g (by simpa [Value.cells] using a) b)
    | false =>
      rw [ha] at h
      have hc := Hk.cells_one (k4 ha)
      rw [hc] at hr
      match gs, h, hr with
      | [g'], h, hr => cases h; exact hr.2 0 _ _ rfl rfl
  · cases h

/-! ### Loads -/
noncomputable def ldG (i : TyI) (l : List G) (off : Nat) : Option G := match i.agg with
  | true => match gsub l off i.size with
    | some r => some (.agg r)
    | none => none
  | false => gnth l off

theorem cell_of {r : Nat} {vs : Array Value} {t : TypeId} {fr : Nat × Nat} (h : w.heap[r]? = some (.cells vs t fr)) (j : Nat) (v : Value) (hv : vs.toList[j]? = some v) : w.cell? ⟨r, j, none⟩ = some v :=
  Hk.cell_of_heap h j v hv

theorem agg_rep {vs : List Value} {gs : List G} (h : RepGs ρ vs gs) (h1 : ∀ v ∈ vs, v.oneCell' = true) : RepG ρ (.agg vs.toArray) (.agg gs) :=
  .agg _ _ (by simpa using h.1) (by simpa using h1) (fun i v g a b => h.2 i v g (by simpa using a) b)

/-- Cells that are known, by place. -/
theorem ldG_ok {t : TypeId} {i : TyI} (hi : TyOk P t i) {r off : Nat} {l : List G} {g : G} {vs : Array Value} {bt : TypeId} (hh : w.heap[r]? = some (.cells vs bt (0, 0))) (hl : l.length ≤ vs.size)
    (hr : RepGs ρ (vs.toList.take l.length) l) (h1 : ∀ v ∈ vs.toList.take l.length, v.oneCell' = true) (h : ldG i l off = some g) :
    ∃ v, (Instr.loadAt t (.pointer (some ⟨r, off, none⟩))).run P w = .ok v w ∧ RepG ρ v g := by
  unfold ldG at h
  have hget : ∀ j, j < l.length → ∃ v, vs.toList[j]? = some v ∧ (vs.toList.take l.length)[j]? = some v := fun j hj => by
    have hlt : j < vs.toList.length := by simp; omega
    exact ⟨_, List.getElem?_eq_getElem hlt, by rw [List.getElem?_take, if_pos hj]; exact List.getElem?_eq_getElem hlt⟩
  cases ha : i.agg with
  | true =>
    rw [ha] at h
    cases hs : gsub l off i.size with
    | none => rw [hs] at h; cases h
    | some q =>
      rw [hs] at h; cases h
      obtain ⟨e, hle⟩ := gsub_eq hs
      have hrun := Hk.loadAt_ok (P := P) (w := w) hi r off (fun j => vs.toList.getD (off + j) Go.undef) (fun j hj => by
        obtain ⟨v, hv, _⟩ := hget (off + j) (by omega)
        rw [cell_of hh _ v hv]
        simp only [List.getD, hv, Option.getD_some]) (fun hf => by rw [ha] at hf; cases hf)
      rw [if_pos ha] at hrun
      refine ⟨_, hrun, ?_⟩
      have e2 : (List.range i.size).map (fun j => vs.toList.getD (off + j) Go.undef) = ((vs.toList.take l.length).drop off).take i.size := by
        apply List.ext_getElem?
        intro j
        by_cases hj : j < i.size
        · obtain ⟨v, hv, hv2⟩ := hget (off + j) (by omega)
          rw [List.getElem?_take, if_pos hj, List.getElem?_drop, hv2, List.getElem?_map, List.getElem?_range hj]
          simp only [Option.map_some, List.getD, hv, Option.getD_some]
        · rw [List.getElem?_eq_none (by simp; omega), List.getElem?_eq_none (by simp; omega)]
      rw [e2, e]
      exact agg_rep ((hr.drop off).take _) (fun v hv => h1 v (List.mem_of_mem_drop (List.mem_of_mem_take hv)))
  | false =>
    rw [ha] at h
    have h : gnth l off = some g := h
    rw [gnth_eq] at h
    have hlt := (List.getElem?_eq_some_iff.1 h).1
    obtain ⟨v, hv, hv2⟩ := hget off hlt
    refine ⟨v, ?_, hr.2 off v g hv2 h⟩
    simp only [Instr.loadAt, Instr.sureAddr, Sem.run_bind, Sem.run_pure, Result.andThen_ok, loadVar, hi.isAgg w, ha]
    simp [run_load, cell_of hh _ v hv]

/-- A part of a value. -/
theorem partG_ok {t : TypeId} {i : TyI} (hi : TyOk P t i) {vs : Array Value} {l : List G} {off : Nat} {g : G} (h1 : ∀ v ∈ vs.toList, v.oneCell' = true) (hr : RepGs ρ vs.toList l) (h : ldG i l off = some g) :
    ∃ v, (Go.part t vs off).run P w = .ok v w ∧ RepG ρ v g := by
  have hlen := hr.1
  unfold ldG at h
  cases ha : i.agg with
  | true =>
    rw [ha] at h
    cases hs : gsub l off i.size with
    | none => rw [hs] at h; cases h
    | some q =>
      rw [hs] at h; cases h
      obtain ⟨e, hle⟩ := gsub_eq hs
      obtain ⟨v, hv, he⟩ := Hk.part_ok (P := P) (w := w) hi (vs := vs) (off := off) (fun hf => by rw [ha] at hf; cases hf)
      refine ⟨v, hv, ?_⟩
      rw [he, if_pos ha, e]
      have e2 : vs.extract off (off + i.size) = ((vs.toList.drop off).take i.size).toArray := by
        apply Array.ext'
        simp [List.extract_eq_take_drop]
      rw [e2]
      exact agg_rep ((hr.drop off).take _) (fun v hv => h1 v (List.mem_of_mem_drop (List.mem_of_mem_take hv)))
  | false =>
    rw [ha] at h
    have h : gnth l off = some g := h
    rw [gnth_eq] at h
    have hlt := (List.getElem?_eq_some_iff.1 h).1
    have hv : vs.toList[off]? = some (vs.toList[off]'(by omega)) := List.getElem?_eq_getElem (by omega)
    have hv' : vs[off]? = some (vs.toList[off]'(by omega)) := by rw [← Array.getElem?_toList]; exact hv
    obtain ⟨v, hv2, he⟩ := Hk.part_ok (P := P) (w := w) hi (vs := vs) (off := off) (fun _ => ⟨_, hv'⟩)
    refine ⟨v, hv2, ?_⟩
    rw [he, ha, hv']
    exact hr.2 _ _ _ hv h

theorem RepG.aggInv {v : Value} {l : List G} (h : RepG ρ v (.agg l)) : ∃ cs : Array Value, v = .agg cs ∧ RepGs ρ cs.toList l ∧ ∀ c ∈ cs.toList, c.oneCell' = true := by
  cases h with
  | agg cs _ hl h1 h => exact ⟨cs, rfl, ⟨by simpa using hl, fun i v g a b => h i v g (by simpa using a) b⟩, h1⟩
theorem RepG.tupInv {v : Value} {l : List G} (h : RepG ρ v (.tup l)) : ∃ cs : Array Value, v = .tuple cs ∧ RepGs ρ cs.toList l := by
  cases h with
  | tup cs _ hl h => exact ⟨cs, rfl, ⟨by simpa using hl, fun i v g a b => h i v g (by simpa using a) b⟩⟩
theorem RepG.ptrInv {v : Value} {b o : Nat} (h : RepG ρ v (.ptr b o)) : ∃ r z, v = .pointer (some ⟨r, o, none⟩) ∧ ρ b = some (r, z) := by
  cases h with | ptr _ r z _ h => exact ⟨r, z, rfl, h⟩

theorem tup_rep {vs : List Value} {gs : List G} (h : RepGs ρ vs gs) : RepG ρ (.tuple vs.toArray) (.tup gs) :=
  .tup _ _ (by simpa using h.1) (fun i v g a b => h.2 i v g (by simpa using a) b)

/-! ### The cells of a value -/
def gcells : G → Option (List G)
  | .agg l => some l
  | .undef => none
  | .tup _ => none
  | g => some [g]

theorem gcells_rep {g : G} {l : List G} {v : Value} (h : gcells g = some l) (hr : RepG ρ v g) : RepGs ρ v.cells.toList l ∧ ∀ u ∈ v.cells.toList, u.oneCell' = true := by
  have one : g.one = true → l = [g] → RepGs ρ v.cells.toList l ∧ ∀ u ∈ v.cells.toList, u.oneCell' = true := by
    rintro h1 rfl
    have hv := hr.one h1
    rw [Hk.cells_one hv]
    exact ⟨.mk hr .nil, by simpa using hv⟩
  cases g <;> simp only [gcells, Option.some.injEq, reduceCtorEq] at h <;> first
    | exact one rfl h.symm
    | (subst h; obtain ⟨cs, rfl, h1, h2⟩ := hr.aggInv; exact ⟨h1, h2⟩)

noncomputable def buildG (tt : TT) (fs : List (Nat × TypeId)) (s : S) : List (Nat × Operand) → List G → Option (List G)
  | [], z => some z
  | (i, x) :: r, z => match nth fs i with
    | some (off, ft) => match lk tt ft, gcells (evA x s) with
      | some ti, some cs => match Nat.beq cs.length ti.size with
        | true => match gsplice z off cs with
          | some z' => buildG tt fs s r z'
          | none => none
        | false => none
      | _, _ => none
    | none => none

theorem splice_rep {vs us : List Value} {gs hs qs : List G} {o : Nat} (h : RepGs ρ vs gs) (k : RepGs ρ us hs) (hq : gsplice gs o hs = some qs) :
    RepGs ρ (vs.take o ++ us ++ vs.drop (o + us.length)) qs ∧ o + us.length ≤ vs.length := by
  obtain ⟨e, hle⟩ := gsplice_eq hq
  rw [e, ← k.1]
  refine ⟨((h.take o).append k).append (h.drop _), by rw [h.1, k.1]; exact hle⟩

theorem fill_ok {place : Nat → Option (Nat × Nat)} {fs : List (Nat × TypeId)} {s : S} {a : Act} (hs : SRep ρ s a.tmps) (htt : TTok P tt)
    (hp : ∀ i off ft ti, nth fs i = some (off, ft) → lk tt ft = some ti → place i = some (off, ti.size)) :
    ∀ (parts : List (Nat × Operand)) (z q : List G) (vs : List Value), buildG tt fs s parts z = some q → RepGs ρ vs z → (∀ v ∈ vs, v.oneCell' = true) →
      ∃ us : List Value, Instr.fill place vs.toArray (parts.map fun p => (p.1, a.eval p.2)) = some us.toArray ∧ RepGs ρ us q ∧ ∀ v ∈ us, v.oneCell' = true
  | [], z, q, vs, h, hz, h1 => by cases h; exact ⟨vs, rfl, hz, h1⟩
  | (i, x) :: r, z, q, vs, h, hz, h1 => by
    simp only [buildG] at h
    split at h
    · rename_i off ft hn
      split at h
      · rename_i ti cs hl hc
        split at h
        · rename_i hb
          split at h
          · rename_i z' hsp
            have hb := Nat.eq_of_beq_eq_true hb
            obtain ⟨c1, c2⟩ := gcells_rep hc (evA_rep hs x)
            have hlen := c1.1
            obtain ⟨s1, s2⟩ := splice_rep hz c1 hsp
            have hstep : (a.eval x).cells.zipIdx.foldl (fun cs (p : Value × Nat) => cs.setIfInBounds (off + p.2) p.1) vs.toArray = (vs.take off ++ (a.eval x).cells.toList ++ vs.drop (off + (a.eval x).cells.toList.length)).toArray := by
              apply Array.ext'
              rw [← Array.foldl_toList, Array.toList_zipIdx]
              have := Hk.foldl_set off (a.eval x).cells.toList 0 vs.toArray (by simpa using s2)
              simp only [Nat.add_zero] at this
              rw [this]
            obtain ⟨us, u1, u2, u3⟩ := fill_ok hs htt hp r z' q _ h s1 (fun v hv => by
              rcases List.mem_append.1 hv with hv | hv
              · rcases List.mem_append.1 hv with hv | hv
                · exact h1 v (List.mem_of_mem_take hv)
                · exact c2 v hv
              · exact h1 v (List.mem_of_mem_drop hv))
            refine ⟨us, ?_, u2, u3⟩
            rw [List.map_cons]
            unfold Instr.fill
            simp only [hp i off ft ti hn hl]
            have hsz : (a.eval x).cells.size = ti.size := by rw [← hb, ← hlen]; simp
            have hle : off + (a.eval x).cells.size ≤ vs.length := by simpa using s2
            rw [if_neg (by simp [hsz]; omega), hstep]
            exact u1
          · cases h
        · cases h
      · cases h
    · cases h

end
end Go.Gx

/- The ghost machine's looks into maps; slice expressions; equality of structs. -/
namespace Go.Gx
open Go.Hk (TT TTok TyI Sh lk TyOk ShOk nth nth_eq)

/-! ### Keys -/
def keyEq (x y : G) : Option Bool := match x with
  | .int k a => match y with
    | .int k' b => match kEq k k' with
      | true => some (intEq a b)
      | false => none
    | _ => none
  | .str la a => match y with
    | .str lb b => some (Nat.beq la lb && Nat.beq a b)
    | _ => none
  | .bool a => match y with
    | .bool b => some (a == b)
    | _ => none
  | _ => none

def keySh (x : G) (sh : Sh) : Bool := match x, sh with
  | .int .., .int _ => true
  | .str .., .str => true
  | .bool .., .bool => true
  | _, _ => false

theorem keyEq_true {x y : G} (h : keyEq x y = some true) : x = y := by
  cases x <;> simp only [keyEq, reduceCtorEq] at h <;> cases y <;> simp only [Option.some.injEq, reduceCtorEq] at h
  · simp only [beq_iff_eq] at h; rw [h]
  · rename_i k a k' b
    cases hk : kEq k k' with
    | false => rw [hk] at h; cases h
    | true =>
      rw [hk] at h
      have hkk : k = k' := of_decide_eq_true hk
      simp only [Option.some.injEq, intEq_eq, beq_iff_eq] at h
      rw [hkk, h]
  · simp only [Bool.and_eq_true, Nat.beq_eq] at h
    rw [h.1, h.2]

/-- The value that a map has for a key; all keys are looked at. -/
def kvFind (k : G) : List (G × G) → Option (Option G)
  | [] => some none
  | (k', v) :: r => match keyEq k k' with
    | none => none
    | some true => match kvFind k r with
      | none => none
      | some _ => some (some v)
    | some false => kvFind k r

section
variable {P : Program} {w : World} {tt : TT} {ρ : Rho}

def descOf (sh : Sh) (d : TypeDesc) : Prop := match sh with
  | .int k => d = .int k
  | .str => d = .string
  | .bool => d = .bool
  | _ => True

theorem sameNow_ok {x y : G} {vx vy : Value} {b : Bool} {d : TypeDesc} {sh : Sh} (hx : RepG ρ vx x) (hy : RepG ρ vy y) (h : keyEq x y = some b) (hs : keySh x sh = true)
    (hd : descOf sh d) : Instr.sameNow d vx vy = some b := by
  cases x <;> simp only [keyEq, reduceCtorEq] at h <;> cases y <;> simp only [Option.some.injEq, reduceCtorEq] at h
  · cases hx; cases hy
    cases sh <;> simp only [keySh, reduceCtorEq] at hs
    have hd : d = _ := hd
    subst hd
    simp [Instr.sameNow, ← h]
  · rename_i k a k' b'
    cases hk : kEq k k' with
    | false => rw [hk] at h; cases h
    | true =>
      rw [hk] at h
      have hkk : k = k' := of_decide_eq_true hk
      subst hkk
      cases hx; cases hy
      cases sh <;> simp only [keySh, reduceCtorEq] at hs
      have hd : d = _ := hd
      subst hd
      simp only [Option.some.injEq, intEq_eq] at h
      simp [Instr.sameNow, ← h]
  · obtain ⟨s, rfl, rfl, rfl⟩ := hx.strInv
    obtain ⟨s', rfl, rfl, rfl⟩ := hy.strInv
    cases sh <;> simp only [keySh, reduceCtorEq] at hs
    have hd : d = _ := hd
    subst hd
    rw [str_eq] at h
    simp only [Instr.sameNow, beq_toListBytes, ByteArray.toList_eq, h]

theorem findNow_spec {d : TypeDesc} {k : Value} : ∀ (es : List MapEntry) (i : Nat), (∀ e ∈ es, ∃ b, Instr.sameNow d k e.key = some b) →
    (Instr.findNow d k es i = some none ∧ ∀ e ∈ es, Instr.sameNow d k e.key = some false) ∨
    ∃ j e, Instr.findNow d k es i = some (some (i + j, e.val)) ∧ es[j]? = some e ∧ Instr.sameNow d k e.key = some true
  | [], i, _ => .inl ⟨rfl, by simp⟩
  | e :: es, i, h => by
    obtain ⟨b, hb⟩ := h e (by simp)
    cases b with
    | true => exact .inr ⟨0, e, by simp [Instr.findNow, hb], rfl, hb⟩
    | false =>
      rcases findNow_spec es (i + 1) (fun e' he' => h e' (by simp [he'])) with ⟨h1, h2⟩ | ⟨j, e', h1, h2, h3⟩
      · exact .inl ⟨by simp [Instr.findNow, hb, h1], fun e' he' => (List.mem_cons.1 he').elim (fun q => q ▸ hb) (h2 e')⟩
      · refine .inr ⟨j + 1, e', ?_, by simpa using h2, h3⟩
        simp only [Instr.findNow, hb, h1]
        rw [show i + 1 + j = i + (j + 1) by omega]

theorem kvFind_all {k : G} : ∀ {kv : List (G × G)} {r : Option G}, kvFind k kv = some r → ∀ p ∈ kv, ∃ b, keyEq k p.1 = some b
  | [], _, _, p, hp => by simp at hp
  | (k', v) :: kv, r, h, p, hp => by
    simp only [kvFind] at h
    cases hk : keyEq k k' with
    | none => rw [hk] at h; cases h
    | some b =>
      rcases List.mem_cons.1 hp with rfl | hp
      · exact ⟨b, hk⟩
      · rw [hk] at h
        cases b with
        | false => exact kvFind_all h p hp
        | true =>
          simp only at h
          cases hr : kvFind k kv with
          | none => rw [hr] at h; cases h
          | some r' => exact kvFind_all hr p hp

theorem kvFind_none {k : G} : ∀ {kv : List (G × G)}, kvFind k kv = some none → ∀ p ∈ kv, keyEq k p.1 = some false
  | [], _, p, hp => by simp at hp
  | (k', v) :: kv, h, p, hp => by
    simp only [kvFind] at h
    cases hk : keyEq k k' with
    | none => rw [hk] at h; cases h
    | some b =>
      rw [hk] at h
      cases b with
      | true =>
        simp only at h
        cases hr : kvFind k kv with
        | none => rw [hr] at h; cases h
        | some r' => rw [hr] at h; cases h
      | false =>
        rcases List.mem_cons.1 hp with rfl | hp
        · exact hk
        · exact kvFind_none h p hp

theorem kvFind_some {k v : G} : ∀ {kv : List (G × G)}, kvFind k kv = some (some v) → (k, v) ∈ kv
  | [], h => by cases h
  | (k', v') :: kv, h => by
    simp only [kvFind] at h
    cases hk : keyEq k k' with
    | none => rw [hk] at h; cases h
    | some b =>
      rw [hk] at h
      cases b with
      | true =>
        simp only at h
        cases hr : kvFind k kv with
        | none => rw [hr] at h; cases h
        | some r' =>
          rw [hr] at h; cases h
          rw [keyEq_true hk]; simp
      | false => exact List.mem_cons_of_mem _ (kvFind_some h)

theorem nodup_key {k v v' : G} : ∀ {kv : List (G × G)}, (kv.map (·.1)).Nodup → (k, v) ∈ kv → (k, v') ∈ kv → v = v'
  | [], _, h, _ => by simp at h
  | (a, b) :: kv, hn, h, h' => by
    simp only [List.map_cons, List.nodup_cons] at hn
    rcases List.mem_cons.1 h with e | e <;> rcases List.mem_cons.1 h' with e' | e'
    · cases e; cases e'; rfl
    · cases e; exact absurd (List.mem_map.2 ⟨_, e', rfl⟩) hn.1
    · cases e'; exact absurd (List.mem_map.2 ⟨_, e, rfl⟩) hn.1
    · exact nodup_key hn.2 e e'

/-- An entry of the real map and the pair that stands for it. -/
theorem KvRep.of_mem {es : List MapEntry} {kv : List (G × G)} (h : KvRep ρ es kv) {e : MapEntry} (he : e ∈ es) : ∃ p ∈ kv, RepG ρ e.key p.1 ∧ RepG ρ e.val p.2 := by
  obtain ⟨l, h1, h2, h3⟩ := h
  obtain ⟨i, hi⟩ := List.getElem?_of_mem (h1.mem_iff.2 he)
  have hlt : i < l.length := (List.getElem?_eq_some_iff.1 hi).1
  have hp : kv[i]? = some (kv[i]'(by omega)) := List.getElem?_eq_getElem (by omega)
  exact ⟨_, List.getElem_mem _, h3 i e _ hi hp⟩
theorem KvRep.of_mem' {es : List MapEntry} {kv : List (G × G)} (h : KvRep ρ es kv) {p : G × G} (hp : p ∈ kv) : ∃ e ∈ es, RepG ρ e.key p.1 ∧ RepG ρ e.val p.2 := by
  obtain ⟨l, h1, h2, h3⟩ := h
  obtain ⟨i, hi⟩ := List.getElem?_of_mem hp
  have hlt : i < kv.length := (List.getElem?_eq_some_iff.1 hi).1
  have he : l[i]? = some (l[i]'(by omega)) := List.getElem?_eq_getElem (by omega)
  exact ⟨_, h1.mem_iff.1 (List.getElem_mem _), h3 i _ p he hi⟩
theorem KvRep.length {es : List MapEntry} {kv : List (G × G)} (h : KvRep ρ es kv) : es.length = kv.length := by
  obtain ⟨l, h1, h2, _⟩ := h
  rw [← h2, h1.length_eq]

/-- What a key leads to in the real map. -/
theorem find_ok {kt : TypeId} {ti : TyI} (hty : TyOk P kt ti) {k : G} {vk : Value} {es : List MapEntry} {kv : List (G × G)} {r : Option G} (hk : RepG ρ vk k) (hs : keySh k ti.sh = true) (hkv : KvRep ρ es kv) (hn : (kv.map (·.1)).Nodup)
    (h : kvFind k kv = some r) :
    (r = none ∧ (Instr.findKey kt vk es).run P w = .ok none w ∧ ∀ p ∈ kv, keyEq k p.1 = some false) ∨
    ∃ g j e, r = some g ∧ (Instr.findKey kt vk es).run P w = .ok (some (j, e.val)) w ∧ es[j]? = some e ∧ RepG ρ e.key k ∧ RepG ρ e.val g ∧ (k, g) ∈ kv := by
  obtain ⟨d, hu, hd⟩ : ∃ d, P.underlying kt = some d ∧ descOf ti.sh d := by
    have := hty.sh
    cases hsh : ti.sh <;> rw [hsh] at hs this <;> cases k <;> simp only [keySh, reduceCtorEq] at hs
    all_goals exact ⟨_, this, rfl⟩
  have hsame : ∀ e ∈ es, ∀ p, RepG ρ e.key p → ∀ b, keyEq k p = some b → Instr.sameNow d vk e.key = some b := fun e _ p hp b hb => sameNow_ok hk hp hb hs hd
  have hall : ∀ e ∈ es, ∃ b, Instr.sameNow d vk e.key = some b := fun e he => by
    obtain ⟨p, hp, h1, _⟩ := hkv.of_mem he
    obtain ⟨b, hb⟩ := kvFind_all h p hp
    exact ⟨b, hsame e he _ h1 b hb⟩
  have hrun : ∀ q, Instr.findNow d vk es 0 = some q → (Instr.findKey kt vk es).run P w = .ok q w := fun q hq => by
    simp [Instr.findKey, run_underlying hu, hq]
  rcases findNow_spec es 0 hall with ⟨h1, h2⟩ | ⟨j, e, h1, h2, h3⟩
  · cases r with
    | none => exact .inl ⟨rfl, hrun _ h1, kvFind_none h⟩
    | some g =>
      obtain ⟨e, he, q1, _⟩ := hkv.of_mem' (kvFind_some h)
      have := hsame e he k q1 true (by
        obtain ⟨b, hb⟩ := kvFind_all h _ (kvFind_some h)
        simp only at hb
        have : b = true := by
          cases k <;> simp only [keyEq, reduceCtorEq] at hb <;> first
            | (rw [show (_ == _) = true from by simp] at hb; cases hb; rfl)
            | (simp [kEq, intEq_eq] at hb; first | exact hb | exact hb.symm)
            | (simp at hb; first | exact hb | exact hb.symm)
        rw [hb, this])
      rw [h2 e he] at this; cases this
  · have he : e ∈ es := List.mem_of_getElem? h2
    obtain ⟨p, hp, q1, q2⟩ := hkv.of_mem he
    obtain ⟨b, hb⟩ := kvFind_all h p hp
    have hb' := hsame e he _ q1 b hb
    rw [h3] at hb'; cases hb'
    have hkp := keyEq_true hb
    cases r with
    | none => rw [kvFind_none h p hp] at hb; cases hb
    | some g =>
      have hg : g = p.2 := nodup_key hn (kvFind_some h) (by rw [hkp]; exact hp)
      rw [Nat.zero_add] at h1
      exact .inr ⟨g, j, e, rfl, hrun _ h1, h2, by rw [hkp]; exact q1, by rw [hg]; exact q2, kvFind_some h⟩

theorem checkKey_ok {kt : TypeId} {ti : TyI} (hty : TyOk P kt ti) {k : G} (hs : keySh k ti.sh = true) (b : Bool) (n : Nat) (v : Value) : (Instr.checkKey b (n + 1) kt v).run P w = .ok () w := by
  have := hty.sh
  cases hsh : ti.sh <;> rw [hsh] at hs this <;> cases k <;> simp only [keySh, reduceCtorEq] at hs
  all_goals
    have hu : P.underlying kt = some _ := this
    simp [Instr.checkKey, run_underlying hu]

def pairG (ok : Bool) (v : G) (b : Bool) : G := match ok with
  | true => .tup [v, .bool b]
  | false => v

def zeroPair (ei : TyI) (ok : Bool) : Option G := match zeroG ei with
  | some z => some (pairG ok z false)
  | none => none

noncomputable def lookG (tt : TT) (h : GH) (m k : G) (kt et : TypeId) (ok : Bool) : Option G := match lk tt kt, lk tt et with
  | some ki, some ei => match keySh k ki.sh with
    | true => match m with
      | .nilm => zeroPair ei ok
      | .map b => match h.get b with
        | .map _ kv => match kvFind k kv with
          | some (some v) => some (pairG ok v true)
          | some none => zeroPair ei ok
          | none => none
        | _ => none
      | _ => none
    | false => none
  | _, _ => none

theorem tup2_rep {v u : Value} {g k : G} (h : RepG ρ v g) (h' : RepG ρ u k) : RepG ρ (.tuple #[v, u]) (.tup [g, k]) := tup_rep (.mk h (.mk h' .nil))

theorem pairG_rep {v : Value} {g : G} {b : Bool} (h : RepG ρ v g) (ok : Bool) : RepG ρ (if ok then .tuple #[v, .bool b] else v) (pairG ok g b) := by
  cases ok with
  | true => exact tup2_rep h (.bool _)
  | false => exact h

theorem zeroPair_ok (htt : TTok P tt) (hz : TTz P tt) {t : TypeId} {i : TyI} {ok : Bool} {g : G} (hl : lk tt t = some i) (h : zeroPair i ok = some g) :
    ∃ v, (zeroValue t).run P w = .ok v w ∧ RepG ρ (if ok then .tuple #[v, .bool false] else v) g := by
  unfold zeroPair at h
  cases hz' : zeroG i with
  | none => rw [hz'] at h; cases h
  | some z =>
    rw [hz'] at h; cases h
    obtain ⟨zv, z1, z2, _⟩ := zeroG_ok (P := P) (w := w) (ρ := ρ) htt hz hl hz'
    exact ⟨zv, z1, pairG_rep z2 ok⟩

theorem lookG_ok (htt : TTok P tt) (hz : TTz P tt) {B : Bl} {h : GH} (hr : HRep B ρ h w) {t kt et : TypeId} (hu : P.underlying t = some (.map kt et)) {m k g : G} {vm vk : Value} {ok : Bool} (hm : RepG ρ vm m) (hk : RepG ρ vk k)
    (hg : lookG tt h m k kt et ok = some g) : ∃ v, (Instr.lookup t vm vk ok).run P w = .ok v w ∧ RepG ρ v g := by
  unfold lookG at hg
  cases hki : lk tt kt with
  | none => rw [hki] at hg; cases hg
  | some ki =>
  cases hei : lk tt et with
  | none => rw [hki, hei] at hg; cases hg
  | some ei =>
  rw [hki, hei] at hg
  simp only at hg
  cases hs : keySh k ki.sh with
  | false => rw [hs] at hg; cases hg
  | true =>
  rw [hs] at hg
  have hck := fun b => checkKey_ok (P := P) (w := w) (htt kt ki hki) hs b 9999 vk
  cases m <;> simp only [reduceCtorEq] at hg
  · cases hm
    obtain ⟨zv, z1, z2⟩ := zeroPair_ok (P := P) (w := w) (ρ := ρ) htt hz hei hg
    have hd : ∃ d, P.underlying kt = some d := by
      have := (htt kt ki hki).sh
      cases hsh : ki.sh <;> rw [hsh] at hs this <;> cases k <;> simp only [keySh, reduceCtorEq] at hs
      all_goals exact ⟨_, this⟩
    obtain ⟨d, hd⟩ := hd
    refine ⟨_, ?_, z2⟩
    simp [Instr.lookup, run_underlying hu, hck, Instr.findKey, run_underlying hd, Instr.findNow, z1]
  · rename_i b
    cases hb : h.get b <;> rw [hb] at hg <;> simp only [reduceCtorEq] at hg
    rename_i ver kv
    obtain ⟨r, z, hρ⟩ := hm.mapρ
    have hrep := hr.atρ hb rfl hρ
    obtain ⟨es, clock, e1, e2, e3, _⟩ := hrep
    cases hm with
    | map _ r' z' hρ' =>
      rw [hρ] at hρ'; cases hρ'
      cases hf : kvFind k kv with
      | none => rw [hf] at hg; cases hg
      | some q =>
        rw [hf] at hg
        rcases find_ok (w := w) (htt kt ki hki) hk hs e2 e3 hf with ⟨rfl, q2, _⟩ | ⟨g', j, e, rfl, q2, q3, q4, q5, _⟩
        · obtain ⟨zv, z1, z2⟩ := zeroPair_ok (P := P) (w := w) (ρ := ρ) htt hz hei hg
          refine ⟨_, ?_, z2⟩
          simp [Instr.lookup, run_underlying hu, getObj, Sem.run, e1, hck, q2, z1]
        · cases hg
          refine ⟨_, ?_, pairG_rep q5 ok⟩
          simp [Instr.lookup, run_underlying hu, getObj, Sem.run, e1, hck, q2]

end
end Go.Gx

/- The ghost machine: equality of structs, slice expressions, indices, lengths. -/
namespace Go.Gx
open Go.Hk (TT TTok TyI Sh lk TyOk ShOk nth nth_eq)

/-! ### Equality of structs -/
/-- A struct whose fields all count and that the model compares field by field. -/
def seqB (P : Program) (t : TypeId) : Bool := (match P.underlying t with
  | some (.struct fs) => fs.toList.all fun f => f.name != "_"
  | _ => false) && !P.stoodInHeld t && !P.eqGuardType P.depth t

def gsEq (tt : TT) : Nat → List (Nat × TypeId) → List G → List G → Option Bool
  | _, [], [], [] => some true
  | i, (off, ft) :: fs, x :: xs, y :: ys => match Nat.beq off i, lk tt ft with
    | true, some ti => match keySh x ti.sh, keyEq x y with
      | true, some b => match gsEq tt (i + 1) fs xs ys with
        | some b' => some (b && b')
        | none => none
      | _, _ => none
    | _, _ => none
  | _, _, _, _ => none

section
variable {P : Program} {w : World} {tt : TT} {ρ : Rho}

theorem notAgg_of_key {t : TypeId} {ti : TyI} (hty : TyOk P t ti) {x : G} (hs : keySh x ti.sh = true) : (Go.isAgg t).run P w = .ok false w := by
  have := hty.sh
  cases hsh : ti.sh <;> rw [hsh] at hs this <;> cases x <;> simp only [keySh, reduceCtorEq] at hs
  all_goals
    have hu : P.underlying t = some _ := this
    simp [Go.isAgg, run_underlying hu]

theorem keyEq_run {x y : G} {vx vy : Value} {b : Bool} {t : TypeId} {ti : TyI} (hty : TyOk P t ti) (n : Nat) (hx : RepG ρ vx x) (hy : RepG ρ vy y) (h : keyEq x y = some b) (hs : keySh x ti.sh = true) :
    (Op.equalIn (n + 1) t vx vy).run P w = .ok b w := by
  have := hty.sh
  cases x <;> simp only [keyEq, reduceCtorEq] at h <;> cases y <;> simp only [Option.some.injEq, reduceCtorEq] at h
  · cases hx; cases hy
    cases hsh : ti.sh <;> rw [hsh] at hs this <;> simp only [keySh, reduceCtorEq] at hs
    rw [run_equalIn_bool' w n t _ _ this, h]
  · rename_i k a k' b'
    cases hk : kEq k k' with
    | false => rw [hk] at h; cases h
    | true =>
      rw [hk] at h
      have hkk : k = k' := of_decide_eq_true hk
      subst hkk
      cases hx; cases hy
      cases hsh : ti.sh <;> rw [hsh] at hs this <;> simp only [keySh, reduceCtorEq] at hs
      simp only [Option.some.injEq, intEq_eq] at h
      rw [run_equalIn_int w n t _ _ _ _ this, h]
  · obtain ⟨s, rfl, rfl, rfl⟩ := hx.strInv
    obtain ⟨s', rfl, rfl, rfl⟩ := hy.strInv
    cases hsh : ti.sh <;> rw [hsh] at hs this <;> simp only [keySh, reduceCtorEq] at hs
    rw [str_eq] at h
    rw [run_equalIn_string w n t _ _ this, ByteArray.toList_eq, ByteArray.toList_eq, h]

theorem eqFields_ok (htt : TTok P tt) {xs ys : Array Value} (n : Nat) : ∀ (fs : List Field) (i : Nat) (gx gy : List G) (b : Bool), (∀ f ∈ fs, f.name ≠ "_") →
    RepGs ρ (xs.toList.drop i) gx → RepGs ρ (ys.toList.drop i) gy → gsEq tt i (fs.map fun f => (f.offset, f.type)) gx gy = some b → (Op.eqFields (n + 1) xs ys fs).run P w = .ok b w
  | [], i, gx, gy, b, _, _, _, h => by
    cases gx <;> cases gy <;> simp only [List.map_nil, gsEq, Option.some.injEq, reduceCtorEq] at h
    simp [Op.eqFields, ← h]
  | f :: fs, i, gx, gy, b, hn, hx, hy, h => by
    cases gx with
    | nil => simp [gsEq] at h
    | cons x gx =>
      cases gy with
      | nil => simp [gsEq] at h
      | cons y gy =>
        simp only [List.map_cons, gsEq] at h
        cases ho : Nat.beq f.offset i with
        | false => rw [ho] at h; cases h
        | true =>
        cases hl : lk tt f.type with
        | none => rw [ho, hl] at h; cases h
        | some ti =>
        rw [ho, hl] at h
        simp only at h
        cases hs : keySh x ti.sh with
        | false => rw [hs] at h; cases h
        | true =>
        cases hk : keyEq x y with
        | none => rw [hs, hk] at h; cases h
        | some b1 =>
        rw [hs, hk] at h
        simp only at h
        cases hr : gsEq tt (i + 1) (fs.map fun f => (f.offset, f.type)) gx gy with
        | none => rw [hr] at h; cases h
        | some b2 =>
        rw [hr] at h
        cases h
        have ho := Nat.eq_of_beq_eq_true ho
        have get : ∀ {vs : Array Value} {g : G} {gs : List G}, RepGs ρ (vs.toList.drop i) (g :: gs) → ∃ v, vs[i]? = some v ∧ RepG ρ v g ∧ RepGs ρ (vs.toList.drop (i + 1)) gs := by
          intro vs g gs hr
          cases hd : vs.toList.drop i with
          | nil => rw [hd] at hr; simp [RepGs] at hr
          | cons v vs' =>
            rw [hd] at hr
            have h0 : vs.toList[i]? = some v := by
              have : (vs.toList.drop i)[0]? = some v := by rw [hd]; rfl
              rw [List.getElem?_drop] at this; simpa using this
            refine ⟨v, by rw [← Array.getElem?_toList]; exact h0, hr.cons.1, ?_⟩
            have : vs.toList.drop (i + 1) = vs' := by
              have := congrArg List.tail hd
              simpa [List.tail_drop] using this
            rw [this]; exact hr.cons.2
        obtain ⟨vx, x1, x2, x3⟩ := get hx
        obtain ⟨vy, y1, y2, y3⟩ := get hy
        have ih := eqFields_ok htt n fs (i + 1) gx gy b2 (fun f hf => hn f (by simp [hf])) x3 y3 hr
        have hagg := notAgg_of_key (w := w) (htt _ _ hl) hs
        have hpart : ∀ (vs : Array Value) (v : Value), vs[i]? = some v → (part f.type vs f.offset).run P w = .ok v w := fun vs v hv => by
          simp [part, hagg, ho, hv]
        have he := keyEq_run (w := w) (htt _ _ hl) n x2 y2 hk hs
        simp only [Op.eqFields, hn f (by simp), ne_eq, not_false_eq_true, if_true, Sem.run_bind, hpart _ _ x1, hpart _ _ y1, Result.andThen_ok, he]
        cases b1 with
        | true => simpa using ih
        | false => simp

noncomputable def evAgg (tt : TT) (eqs : List Nat) (op : BinOp) (t : TypeId) (xs ys : List G) : Option G := match Hk.memN eqs t, lk tt t with
  | true, some { sh := .struct fs, .. } => match gsEq tt 0 fs xs ys with
    | some b => match op with
      | .eql => some (.bool b)
      | .neq => some (.bool (!b))
      | _ => none
    | none => none
  | _, _ => none

theorem evAgg_ok (htt : TTok P tt) {eqs : List Nat} (heq : ∀ t ∈ eqs, seqB P t = true) {op : BinOp} {t : TypeId} {xo yo : Operand} {xs ys : List G} {g : G} {vx vy : Value} (hx : RepG ρ vx (.agg xs)) (hy : RepG ρ vy (.agg ys))
    (h : evAgg tt eqs op t xs ys = some g) : ∃ v, (do eqGuard op t xo yo vx vy; binOp op t vx vy : Sem Value).run P w = .ok v w ∧ RepG ρ v g := by
  unfold evAgg at h
  split at h
  · rename_i fs _ _ _ _ hm hl
    have hs := heq t (Hk.memN_iff.1 hm)
    simp only [seqB, Bool.and_eq_true, Bool.not_eq_true'] at hs
    obtain ⟨⟨h1, h2⟩, h3⟩ := hs
    obtain ⟨fields, hu, hmap, _⟩ : ∃ fields, P.underlying t = some (.struct fields) ∧ fields.toList.map (fun f => (f.offset, f.type)) = fs ∧ ∀ f ∈ fields.toList, 0 < P.cellsOf f.type := (htt t _ hl).sh
    rw [hu] at h1
    simp only [List.all_eq_true, bne_iff_ne] at h1
    obtain ⟨cx, rfl, rx, _⟩ := hx.aggInv
    obtain ⟨cy, rfl, ry, _⟩ := hy.aggInv
    cases hg : gsEq tt 0 fs xs ys with
    | none => rw [hg] at h; cases h
    | some b =>
      rw [hg] at h
      rw [← hmap] at hg
      have hf := eqFields_ok (w := w) htt 9998 fields.toList 0 xs ys b h1 (by simpa using rx) (by simpa using ry) hg
      have hfo : P.fieldsOf t = fields := by simp [Program.fieldsOf, hu]
      have he : (Op.equalIn 10000 t (.agg cx) (.agg cy)).run P w = .ok b w := by
        have := run_equalIn_struct (P := P) w 9999 t cx cy (by rw [hfo]; exact hu) h2
        rw [this, hfo]; exact hf
      cases op <;> simp only [Option.some.injEq, reduceCtorEq] at h <;> subst h
      · exact ⟨_, by simp only [Sem.run_bind, run_eqGuard_agg w _ _ _ _ _ _ h3, Result.andThen_ok, run_eql_struct w, he], .bool _⟩
      · exact ⟨_, by simp only [Sem.run_bind, run_eqGuard_agg w _ _ _ _ _ _ h3, Result.andThen_ok, run_neq_struct w, he], .bool _⟩
  · cases h

/-! ### Slice expressions -/
def natG : G → Option Nat
  | .int _ (.ofNat n) => some n
  | _ => none

theorem natG_rep {g : G} {n : Nat} {v : Value} (h : natG g = some n) (hr : RepG ρ v g) : ∃ k, v = .int k n := by
  cases g <;> simp only [natG, reduceCtorEq] at h
  rename_i k m
  cases m <;> simp only [Option.some.injEq, reduceCtorEq] at h
  cases hr
  exact ⟨k, by rw [← h]; rfl⟩

theorem bound_ok {k : IntKind} {x y : Nat} (c : BoundsCode) (h : x ≤ y) : (Instr.sliceBound (.int k x) y c).run P w = .ok x w := by
  simp [Instr.sliceBound, asIntOf, h]

def optN (s : S) (d : Nat) : Option Operand → Option Nat
  | none => some d
  | some x => natG (evA x s)

/-- Bounds that hold. -/
theorem bounds_ok {isSlice : Bool} {len cap : Nat} {a : Act} {s : S} (hs : SRep ρ s a.tmps) {lo hi : Option Operand} {l h : Nat} (hl : optN s 0 lo = some l) (hh : optN s len hi = some h) (h1 : l ≤ h) (h2 : h ≤ cap) :
    (Instr.sliceBounds isSlice len cap (lo.map a.eval) (hi.map a.eval) none).run P w = .ok (l, h, cap) w := by
  have hlo : ∀ m, l ≤ m → ∀ c, (match lo.map a.eval with | some v => Instr.sliceBound v m c | none => pure 0 : Sem Nat).run P w = .ok l w := by
    intro m hm c
    cases lo with
    | none => simp only [optN, Option.some.injEq] at hl; simp [hl]
    | some x => obtain ⟨k, hk⟩ := natG_rep hl (evA_rep hs x); simp only [Option.map_some, hk]; exact bound_ok c hm
  cases hi with
  | none =>
    simp only [optN, Option.some.injEq] at hh
    subst hh
    have := hlo len h1
    simp only [Instr.sliceBounds, Option.map_none, Sem.run_bind, Sem.run_pure, Result.andThen_ok]
    cases lo with
    | none => simp only [optN, Option.some.injEq] at hl; simp [hl]
    | some x =>
      have := this .sliceB
      simp only [Option.map_some] at this
      simp [this]
  | some y =>
    obtain ⟨k, hk⟩ := natG_rep hh (evA_rep hs y)
    have hb := fun c => bound_ok (P := P) (w := w) (k := k) c h2
    simp only [Instr.sliceBounds, Option.map_none, Option.map_some, Sem.run_bind, Sem.run_pure, Result.andThen_ok, hk, hb]
    cases lo with
    | none => simp only [optN, Option.some.injEq] at hl; simp [hl]
    | some x =>
      have := hlo h h1 .sliceB
      simp only [Option.map_some] at this
      simp [this]

theorem bounds3_ok {len cap : Nat} {a : Act} {s : S} (hs : SRep ρ s a.tmps) {lo : Option Operand} {y m : Operand} {l h n : Nat} (hl : optN s 0 lo = some l) (hh : natG (evA y s) = some h) (hm : natG (evA m s) = some n) (h1 : l ≤ h) (h2 : h ≤ n) (h3 : n ≤ cap) :
    (Instr.sliceBounds true len cap (lo.map a.eval) (some (a.eval y)) (some (a.eval m))).run P w = .ok (l, h, n) w := by
  obtain ⟨k, hk⟩ := natG_rep hh (evA_rep hs y)
  obtain ⟨k', hk'⟩ := natG_rep hm (evA_rep hs m)
  have hb := fun c => bound_ok (P := P) (w := w) (k := k) c h2
  have hb' := fun c => bound_ok (P := P) (w := w) (k := k') c h3
  simp only [Instr.sliceBounds, Sem.run_bind, Sem.run_pure, Result.andThen_ok, hk, hb, hk', hb']
  cases lo with
  | none => simp only [optN, Option.some.injEq] at hl; simp [hl]
  | some x =>
    obtain ⟨k2, hk2⟩ := natG_rep hl (evA_rep hs x)
    have hb2 := fun c => bound_ok (P := P) (w := w) (k := k2) c h1
    simp [hk2, hb2]

noncomputable def sliceG (tt : TT) (t : TypeId) (s : S) (x : G) (lo hi mx : Option Operand) : Option G := match x with
  | .str len n => match lk tt t, optN s 0 lo, optN s len hi, mx with
    | some { sh := .str, .. }, some l, some h, none => match Nat.ble l h, Nat.ble h len with
      | true, true => some (.str (Nat.sub h l) (Nat.mod (Nat.shiftRight n (Nat.mul 8 l)) (Nat.pow 256 (Nat.sub h l))))
      | _, _ => none
    | _, _, _, _ => none
  | .sl b o len cap ex => match lk tt t, optN s 0 lo, mx with
    | some { sh := .sl e, .. }, some l, none => match lk tt e, optN s len hi with
      | some ie, some h => match Nat.ble l h, Nat.ble h cap, ex with
        | true, true, none => some (.sl b (Nat.add o (Nat.mul l ie.size)) (Nat.sub h l) (Nat.sub cap l) none)
        | true, true, some sz => match Nat.beq sz ie.size with
          | true => some (.sl b (Nat.add o (Nat.mul l ie.size)) (Nat.sub h l) (Nat.sub cap l) (some sz))
          | false => none
        | _, _, _ => none
      | _, _ => none
    | some { sh := .sl e, .. }, some l, some m => match lk tt e, hi with
      | some ie, some y => match natG (evA y s), natG (evA m s) with
        | some h, some n => match Nat.ble l h, Nat.ble h n, Nat.ble n cap with
          | true, true, true => some (.sl b (Nat.add o (Nat.mul l ie.size)) (Nat.sub h l) (Nat.sub n l) none)
          | _, _, _ => none
        | _, _ => none
      | _, _ => none
    | _, _, _ => none
  | .nils => match lk tt t, optN s 0 lo, optN s 0 hi with
    | some { sh := .sl e, .. }, some 0, some 0 => match lk tt e with
      | some _ => match mx with
        | none => some .nils
        | some m => match hi, natG (evA m s) with
          | some _, some 0 => some .nils
          | _, _ => none
      | none => none
    | _, _, _ => none
  | _ => none

theorem sliceG_ok (htt : TTok P tt) {t : TypeId} {s : S} {a : Act} (hs : SRep ρ s a.tmps) {x g : G} {vx : Value} {lo hi mx : Option Operand} (hx : RepG ρ vx x) (h : sliceG tt t s x lo hi mx = some g) :
    ∃ v, (Instr.sliceAt t vx (lo.map a.eval) (hi.map a.eval) (mx.map a.eval)).run P w = .ok v w ∧ RepG ρ v g := by
  cases x <;> simp only [sliceG, reduceCtorEq] at h
  · rename_i len n
    split at h
    · rename_i l h' hl ho hh
      split at h
      · rename_i b1 b2
        rw [Nat.ble_eq] at b1 b2
        cases h
        obtain ⟨sb, rfl, e1, e2⟩ := hx.strInv
        have hu : P.underlying t = some .string := (htt t _ hl).sh
        refine ⟨.string (sb.extract l h'), ?_, ?_⟩
        · have := bounds_ok (P := P) (w := w) (isSlice := false) (len := sb.size) (cap := sb.size) hs ho (by rw [e1]; exact hh) b1 (by omega)
          simp [Instr.sliceAt, run_underlying hu, Instr.slice, this]
        · have e3 : (sb.extract l h').data.toList = (sb.data.toList.drop l).take (h' - l) := by
            simp [ByteArray.data_extract, List.extract_eq_take_drop]
          have hlen : sb.data.toList.length = len := by rw [size_length, e1]
          refine .str _ _ _ (by rw [← size_length, e3]; simp; omega) ?_
          rw [e3, (pk_take_drop _ _ (by simp; omega)).1, (pk_take_drop _ _ (by omega)).2, e2]
          show _ = (n >>> (8 * l)) % 256 ^ (h' - l)
          rw [Nat.shiftRight_eq_div_pow, ← pow_256]
      · cases h
    · cases h
  · split at h
    · rename_i e _ _ _ _ hl ho hh
      cases hle : lk tt e with
      | none => rw [hle] at h; cases h
      | some ie =>
        rw [hle] at h
        simp only at h
        have hu : P.underlying t = some (.slice e) := (htt t _ hl).sh
        cases mx with
        | none =>
          cases h
          cases hx
          have := bounds_ok (P := P) (w := w) (isSlice := true) (len := 0) (cap := 0) hs ho hh (Nat.le_refl _) (Nat.le_refl _)
          refine ⟨.slice none 0 0, ?_, .nils⟩
          simp [Instr.sliceAt, run_underlying hu, Instr.slice, this, (htt e _ hle).sizeOf w]
        | some m =>
          simp only at h
          split at h
          · rename_i y hn
            cases h
            cases hx
            have := bounds3_ok (P := P) (w := w) (len := 0) (cap := 0) hs ho hh hn (Nat.le_refl _) (Nat.le_refl _) (Nat.le_refl _)
            refine ⟨.slice none 0 0, ?_, .nils⟩
            simp [Instr.sliceAt, run_underlying hu, Instr.slice, this, (htt e _ hle).sizeOf w]
          · cases h
    · cases h
  · rename_i b o len cap ex
    have key : ∀ {e : TypeId} {ie : TyI} {l h' n : Nat} {ex' : Option Nat} (m' : Nat → Nat), P.underlying t = some (.slice e) → lk tt e = some ie → l ≤ h' → h' ≤ cap →
        (∀ cap', cap ≤ cap' → (ex = none → cap' = cap) → (Instr.sliceBounds true len cap' (lo.map a.eval) (hi.map a.eval) (mx.map a.eval)).run P w = .ok (l, h', m' cap') w) →
        (∀ cap', cap ≤ cap' → h' ≤ m' cap' ∧ n + l ≤ m' cap' ∧ h' ≤ n + l ∧ m' cap' ≤ cap') →
        (∀ cap' z, cap ≤ cap' → (match ex with | none => cap' = cap | some sz => o + cap' * sz = z) → l ≤ m' cap' → (match ex' with | none => m' cap' - l = n | some sz => o + l * ie.size + (m' cap' - l) * sz = z)) →
        ∃ v, (Instr.sliceAt t vx (lo.map a.eval) (hi.map a.eval) (mx.map a.eval)).run P w = .ok v w ∧ RepG ρ v (.sl b (o + l * ie.size) (h' - l) n ex') := by
      intro e ie l h' n ex' m' hu hie h1 h2 hb hm hx'
      cases hx with
      | sl _ r z _ _ _ cap' _ hρ hlen hc hmax hex =>
        have hbb := hb cap' hc (fun e => by subst e; exact hex)
        obtain ⟨m1, m2, m3, m4⟩ := hm cap' hc
        have hrun : (Instr.sliceAt t (.slice (some ⟨r, o, none⟩) len cap') (lo.map a.eval) (hi.map a.eval) (mx.map a.eval)).run P w =
            .ok (.slice (if m' cap' = l then some ⟨r, o, none⟩ else some ((⟨r, o, none⟩ : Addr).add (l * ie.size))) (h' - l) (m' cap' - l)) w := by
          simp [Instr.sliceAt, run_underlying hu, Instr.slice, hbb, (htt e _ hie).sizeOf w]
        refine ⟨_, hrun, ?_⟩
        by_cases hml : m' cap' = l
        · rw [if_pos hml]
          have e1 : h' - l = 0 := by omega
          have e2 : n = 0 := by omega
          have e3 : m' cap' - l = 0 := by omega
          rw [e1, e2, e3]
          exact .sl0 _ _ _ _
        · rw [if_neg hml, Hk.addr_add]
          exact .sl b r z _ _ _ _ _ hρ (by omega) (by omega) (by omega) (hx' cap' z hc hex (by omega))
      | sl0 ad _ _ _ =>
        have hl0 : l = 0 := by omega
        have hh0 : h' = 0 := by omega
        subst hl0; subst hh0
        have hbb := hb 0 (Nat.le_refl _) (fun _ => rfl)
        obtain ⟨m1, m2, m3, m4⟩ := hm 0 (Nat.le_refl _)
        have e0 : m' 0 = 0 := by omega
        have e2 : n = 0 := by omega
        rw [e0] at hbb
        refine ⟨.slice (some ad) 0 0, ?_, by rw [e2]; exact .sl0 _ _ _ _⟩
        simp [Instr.sliceAt, run_underlying hu, Instr.slice, hbb, (htt e _ hie).sizeOf w]
    split at h
    · rename_i e _ _ _ _ l hl ho
      have hu : P.underlying t = some (.slice e) := (htt t _ hl).sh
      split at h
      · rename_i ie h' hie hh
        split at h
        · rename_i b1 b2
          rw [Nat.ble_eq] at b1 b2
          cases h
          show ∃ v, _ ∧ RepG ρ v (.sl b (o + l * ie.size) (h' - l) (cap - l) none)
          refine key (fun c => c) hu hie b1 b2 (fun cap' hc he => ?_) (fun cap' hc => ⟨by omega, by omega, by omega, by omega⟩) (fun cap' z hc he _ => ?_)
          · exact bounds_ok hs ho hh b1 (by omega)
          · have he : cap' = cap := he
            show cap' - l = cap - l
            omega
        · rename_i b1 b2
          split at h
          · rename_i hsz
            rw [Nat.ble_eq] at b1 b2
            have hsz := Nat.eq_of_beq_eq_true hsz
            cases h
            show ∃ v, _ ∧ RepG ρ v (.sl b (o + l * ie.size) (h' - l) (cap - l) (some _))
            refine key (fun c => c) hu hie b1 b2 (fun cap' hc he => ?_) (fun cap' hc => ⟨by omega, by omega, by omega, by omega⟩) (fun cap' z hc he hlm => ?_)
            · exact bounds_ok hs ho hh b1 (by omega)
            · have he : o + cap' * _ = z := he
              show o + l * ie.size + (cap' - l) * _ = z
              rw [← he, hsz, Nat.add_assoc, ← Nat.add_mul]
              congr 2
              omega
          · cases h
        · cases h
      · cases h
    · rename_i e _ _ _ _ l m hl ho
      have hu : P.underlying t = some (.slice e) := (htt t _ hl).sh
      split at h
      · rename_i ie y hie
        split at h
        · rename_i h' n hh hn
          split at h
          · rename_i b1 b2 b3
            rw [Nat.ble_eq] at b1 b2 b3
            cases h
            show ∃ v, _ ∧ RepG ρ v (.sl b (o + l * ie.size) (h' - l) (n - l) none)
            refine key (fun _ => n) hu hie b1 (by omega) (fun cap' hc he => ?_) (fun cap' hc => ⟨by omega, by omega, by omega, by omega⟩) (fun cap' z hc he hlm => ?_)
            · exact bounds3_ok hs ho hh hn b1 b2 (by omega)
            · show n - l = n - l
              rfl
          · cases h
        · cases h
      · cases h
    · cases h

end
end Go.Gx

/- The ghost machine: the operations that change nothing, together. -/
namespace Go.Gx
open Go.Hk (TT TTok TyI Sh lk TyOk ShOk nth nth_eq)

/-- What is known of a program. -/
structure Ctx (P : Program) (tt : TT) (eqs : List Nat) : Prop where
  ty : TTok P tt
  tz : TTz P tt
  eqs : ∀ t ∈ eqs, seqB P t = true
  mixed : P.follows .mixedOrders = true

noncomputable def evBinA (tt : TT) (eqs : List Nat) (op : BinOp) (t : TypeId) (yo : Operand) (x y : G) : Option G := match x with
  | .agg a => match y with
    | .agg b => evAgg tt eqs op t a b
    | _ => none
  | x => evBin tt op t yo x y

noncomputable def indexG (tt : TT) (t : TypeId) (x y : G) : Option G := match natG y with
  | some i => match x with
    | .str len n => match lk tt t, Nat.blt i len with
      | some { sh := .str, .. }, true => some (.int .u8 (.ofNat (byteAt n i)))
      | _, _ => none
    | .agg l => match lk tt t with
      | some { sh := .arr n e, .. } => match lk tt e, Nat.blt i n with
        | some ie, true => ldG ie l (Nat.mul i ie.size)
        | _, _ => none
      | _ => none
    | _ => none
  | none => none

def indexAddrG (tt : TT) (t : TypeId) (x y : G) : Option G := match natG y with
  | some i => match x with
    | .sl b o len _ _ => match lk tt t with
      | some { sh := .sl e, .. } => match lk tt e, Nat.blt i len with
        | some ie, true => some (.ptr b (Nat.add o (Nat.mul i ie.size)))
        | _, _ => none
      | _ => none
    | .ptr b o => match lk tt t with
      | some { sh := .arr n e, .. } => match lk tt e, Nat.blt i n with
        | some ie, true => some (.ptr b (Nat.add o (Nat.mul i ie.size)))
        | _, _ => none
      | _ => none
    | _ => none
  | none => none

noncomputable def lenG (tt : TT) (h : GH) (t : TypeId) (x : G) : Option G := match lk tt t with
  | some ti => match x, ti.sh with
    | .sl _ _ len _ _, .sl _ => some (.int .i64 (.ofNat len))
    | .nils, .sl _ => some (.int .i64 (.ofNat 0))
    | .str len _, .str => some (.int .i64 (.ofNat len))
    | .nilm, .map _ _ => some (.int .i64 (.ofNat 0))
    | .map b, .map _ _ => match h.get b with
      | .map _ kv => some (.int .i64 (.ofNat kv.length))
      | _ => none
    | _, _ => none
  | none => none

def concSh : Sh → Bool
  | .iface => false
  | .other => false
  | _ => true

def assert1 (ti : TyI) (t : TypeId) (x : G) (ok : Bool) : Option G := match x with
  | .if_ u g => match Nat.beq u t with
    | true => some (pairG ok g true)
    | false => match ok with
      | true => zeroPair ti true
      | false => none
  | .nili => match ok with
    | true => zeroPair ti true
    | false => none
  | _ => none

def assertG (tt : TT) (t : TypeId) (x : G) (ok : Bool) : Option G := match lk tt t with
  | some ti => match concSh ti.sh with
    | true => assert1 ti t x ok
    | false => none
  | none => none

def mkIfG (tt : TT) (t : TypeId) (x : G) : Option G := match lk tt t with
  | some ti => match concSh ti.sh with
    | true => some (.if_ t x)
    | false => none
  | none => none

/-- An array's places, as those of a struct's fields. -/
def arrFs (e : TypeId) (sz : Nat) : Nat → Nat → List (Nat × TypeId)
  | 0, _ => []
  | n + 1, off => (off, e) :: arrFs e sz n (off + sz)

theorem arrFs_nth {e : TypeId} {sz : Nat} : ∀ {n off i o : Nat} {ft : TypeId}, nth (arrFs e sz n off) i = some (o, ft) → o = off + i * sz ∧ ft = e
  | 0, _, i, _, _, h => by cases i <;> cases h
  | n + 1, off, 0, o, ft, h => by cases h; exact ⟨by omega, rfl⟩
  | n + 1, off, i + 1, o, ft, h => by
    have h : nth (arrFs e sz n (off + sz)) i = some (o, ft) := h
    obtain ⟨h1, h2⟩ := arrFs_nth h
    exact ⟨by rw [h1, Nat.add_mul, Nat.one_mul]; omega, h2⟩


noncomputable def evQ (tt : TT) (eqs : List Nat) (op : Op) (s : S) (h : GH) : Option G := match op with
  | .move x => some (evA x s)
  | .assign x => some (evA x s)
  | .pick c a b => match evA c s with
    | .bool true => some (evA a s)
    | .bool false => some (evA b s)
    | _ => none
  | .nilCheck x => match evA x s with
    | .ptr b o => some (.ptr b o)
    | .fn f a b => some (.fn f a b)
    | .yield b => some (.yield b)
    | .if_ t g => some (.if_ t g)
    | _ => none
  | .binOp op t x y _ => evBinA tt eqs op t y (evA x s) (evA y s)
  | .unOp op _ x => match op, evA x s with
    | .not, .bool b => some (.bool (!b))
    | .neg, .int k n => some (.int k (wrapF k (0 - n)))
    | _, _ => none
  | .convert a b x => match lk tt a, lk tt b, evA x s with
    | some { sh := .int _, .. }, some { sh := .int k, .. }, .int _ n => some (.int k (wrapF k n))
    | some { sh := .int _, .. }, some { sh := .str, .. }, .int _ n => match n with
      | .ofNat m => match Nat.blt m 128 with
        | true => some (.str 1 m)
        | false => none
      | .negSucc _ => none
    | _, _, _ => none
  | .fieldAddr st x f => match evA x s, lk tt st with
    | .ptr b o, some { sh := .struct fs, .. } => match nth fs f with
      | some (fo, _) => some (.ptr b (Nat.add o fo))
      | none => none
    | _, _ => none
  | .load t x => match evA x s, lk tt t with
    | .ptr b o, some i => match h.get b with
      | .cells l => ldG i l o
      | _ => none
    | _, _ => none
  | .field t x f => match evA x s, lk tt t with
    | .agg l, some { sh := .struct fs, .. } => match nth fs f with
      | some (fo, ft) => match lk tt ft with
        | some i => ldG i l fo
        | none => none
      | none => none
    | _, _ => none
  | .extract x i => match evA x s with
    | .tup l => gnth l i
    | _ => none
  | .index t x y => indexG tt t (evA x s) (evA y s)
  | .indexAddr t x y => indexAddrG tt t (evA x s) (evA y s)
  | .slice t x lo hi mx => sliceG tt t s (evA x s) lo hi mx
  | .build t ⟨ps⟩ => match lk tt t with
    | some { sh := .struct fs, zero := z, .. } => match zsOf z with
      | some zs => match buildG tt fs s ps zs with
        | some l => some (.agg l)
        | none => none
      | none => none
    | some { sh := .arr n e, zero := z, .. } => match zsOf z, lk tt e with
      | some zs, some i => match Nat.blt 0 i.size, buildG tt (arrFs e i.size n 0) s ps zs with
        | true, some l => some (.agg l)
        | _, _ => none
      | _, _ => none
    | _ => none
  | .makeInterface t x => mkIfG tt t (evA x s)
  | .makeFunc (.func f) ⟨a⟩ ⟨b⟩ => some (.fn f (a.map (evA · s)) (b.map (evA · s)))
  | .lookup t m k ok => match lk tt t with
    | some { sh := .map kt et, .. } => lookG tt h (evA m s) (evA k s) kt et ok
    | _ => none
  | .typeAssert x _ t ok => assertG tt t (evA x s) ok
  | .call { callee := .builtin .len, args := ⟨[x]⟩, argTypes := ⟨[t]⟩ } => lenG tt h t (evA x s)
  | .call { callee := .builtin .cap, args := ⟨[x]⟩, argTypes := ⟨[t]⟩ } => match evA x s, lk tt t with
    | .sl _ _ _ cap none, some { sh := .sl _, .. } => some (.int .i64 (.ofNat cap))
    | .nils, some { sh := .sl _, .. } => some (.int .i64 (.ofNat 0))
    | _, _ => none
  | .call { callee := .builtin .max, args := ⟨[x, y]⟩, .. } => match evA x s, evA y s with
    | .int k a, .int k' b => match kEq k k' with
      | true => some (.int k (match intLe b a with | true => a | false => b))
      | false => none
    | _, _ => none
  | .call { callee := .builtin .min, args := ⟨[x, y]⟩, .. } => match evA x s, evA y s with
    | .int k a, .int k' b => match kEq k k' with
      | true => some (.int k (match intLe a b with | true => a | false => b))
      | false => none
    | _, _ => none
  | _ => none

section
variable {P : Program} {w : World} {tt : TT} {eqs : List Nat} {ρ : Rho} {B : Bl} {h : GH} {s : S} {a : Act} {g : G}

/-- What is shown of an operation that changes nothing. -/
def Quiet (P : Program) (ρ : Rho) (w : World) (g : G) (r : Result Next) : Prop := ∃ v, r = .ok (.value v) w ∧ RepG ρ v g

theorem quiet_of {e : Sem Value} {v : Value} (h1 : e.run P w = .ok v w) (h2 : RepG ρ v g) : Quiet P ρ w g ((do pure (.value (← e)) : Sem Next).run P w) :=
  ⟨v, by simp [h1], h2⟩

theorem evBinA_ok (hc : Ctx P tt eqs) {op : BinOp} {t : TypeId} {xo yo : Operand} {x y : G} {vx vy : Value} (hx : RepG ρ vx x) (hy : RepG ρ vy y) (h : evBinA tt eqs op t yo x y = some g) :
    ∃ v, (do eqGuard op t xo yo vx vy; binOp op t vx vy : Sem Value).run P w = .ok v w ∧ RepG ρ v g := by
  unfold evBinA at h
  split at h
  · split at h
    · exact evAgg_ok hc.ty hc.eqs hx hy h
    · cases h
  · exact evBin_ok hc.ty hx hy h

theorem indexG_ok (hc : Ctx P tt eqs) {t : TypeId} {x y : G} {vx vy : Value} (hx : RepG ρ vx x) (hy : RepG ρ vy y) (h : indexG tt t x y = some g) : ∃ v, (Instr.index t vx vy).run P w = .ok v w ∧ RepG ρ v g := by
  unfold indexG at h
  cases hn : natG y with
  | none => rw [hn] at h; cases h
  | some i =>
  rw [hn] at h
  obtain ⟨k, rfl⟩ := natG_rep hn hy
  cases x <;> simp only [reduceCtorEq] at h
  · split at h
    · rename_i hl hb
      cases h
      rw [Nat.blt_eq] at hb
      obtain ⟨sb, rfl, e1, e2⟩ := hx.strInv
      have hu : P.underlying t = some .string := (hc.ty t _ hl).sh
      have hlt : i < sb.size := by omega
      have hg : sb[i]? = some sb[i] := ByteArray.getElem?_lt' sb _ hlt
      refine ⟨.int .u8 sb[i].toNat, ?_, ?_⟩
      · have h0 : (0 : Int) ≤ (i : Int) := by omega
        simp only [Instr.index, Sem.run_bind, asIntOf, Sem.run_pure, Result.andThen_ok, run_underlying hu, h0, if_true, Int.toNat_natCast, hg]
      · have hlt' : i < sb.data.toList.length := by rw [size_length]; exact hlt
        have : byteAt _ i = (sb.data.toList[i]).toNat := e2 ▸ byteAt_pk sb.data.toList i hlt'
        rw [this]
        have e : sb.data.toList[i] = sb[i] := by simp; rfl
        rw [e]
        exact .int _ _
    · cases h
  · split at h
    · rename_i n e _ _ _ _ hl
      split at h
      · rename_i ie hle hb
        rw [Nat.blt_eq] at hb
        obtain ⟨cs, rfl, r1, r2⟩ := hx.aggInv
        have hu : P.underlying t = some (.array n e) := (hc.ty t _ hl).sh
        obtain ⟨v, hv, hr⟩ := partG_ok (P := P) (w := w) (hc.ty e _ hle) r2 r1 h
        refine ⟨v, ?_, hr⟩
        have h0 : (0 : Int) ≤ (i : Int) ∧ (i : Int) < n := by omega
        simp only [Instr.index, Sem.run_bind, asIntOf, Sem.run_pure, Result.andThen_ok, run_underlying hu, h0, and_self, if_true, Int.toNat_natCast, (hc.ty e _ hle).sizeOf w]
        exact hv
      · cases h
    · cases h

theorem indexAddrG_ok (hc : Ctx P tt eqs) {t : TypeId} {x y : G} {vx vy : Value} (hx : RepG ρ vx x) (hy : RepG ρ vy y) (h : indexAddrG tt t x y = some g) : ∃ v, (Instr.indexAt t vx vy).run P w = .ok v w ∧ RepG ρ v g := by
  unfold indexAddrG at h
  cases hn : natG y with
  | none => rw [hn] at h; cases h
  | some i =>
  rw [hn] at h
  obtain ⟨k, rfl⟩ := natG_rep hn hy
  cases x <;> simp only [reduceCtorEq] at h
  · rename_i b o
    split at h
    · rename_i n e _ _ _ _ hl
      split at h
      · rename_i ie hle hb
        rw [Nat.blt_eq] at hb
        cases h
        have hu : P.underlying t = some (.array n e) := (hc.ty t _ hl).sh
        obtain ⟨r, z, rfl, hρ⟩ := hx.ptrInv
        refine ⟨.pointer (some ⟨r, o + i * ie.size, none⟩), ?_, .ptr _ r z _ hρ⟩
        have h0 : (0 : Int) ≤ (i : Int) ∧ (i : Int) < n := by omega
        simp [Instr.indexAt, asIntOf, run_underlying hu, Instr.sureAddr, h0, (hc.ty e _ hle).sizeOf w, Hk.addr_add, hb]
      · cases h
    · cases h
  · rename_i b o len cap ex
    split at h
    · rename_i e _ _ _ _ hl
      split at h
      · rename_i ie hle hb
        rw [Nat.blt_eq] at hb
        cases h
        have hu : P.underlying t = some (.slice e) := (hc.ty t _ hl).sh
        cases hx with
        | sl _ r z _ _ _ cap' _ hρ =>
          refine ⟨.pointer (some ⟨r, o + i * ie.size, none⟩), ?_, .ptr _ r z _ hρ⟩
          have h0 : (0 : Int) ≤ (i : Int) ∧ (i : Int) < len := by omega
          simp [Instr.indexAt, asIntOf, run_underlying hu, (hc.ty e _ hle).sizeOf w, Hk.addr_add, hb]
        | sl0 => omega
      · cases h
    · cases h

theorem lenG_ok (hc : Ctx P tt eqs) (hr : HRep B ρ h w) {t : TypeId} {x : G} {vx : Value} (hx : RepG ρ vx x) (hg : lenG tt h t x = some g) (ty : TypeId) : ∃ v, (Builtin.len_ #[t] ty #[vx]).run P w = .ok v w ∧ RepG ρ v g := by
  unfold lenG at hg
  cases hl : lk tt t with
  | none => rw [hl] at hg; cases hg
  | some ti =>
  rw [hl] at hg
  simp only at hg
  have hsh := (hc.ty t _ hl).sh
  cases hs : ti.sh <;> rw [hs] at hg hsh <;> cases x <;> simp only [Option.some.injEq, reduceCtorEq] at hg
  · have hu : P.underlying t = some .string := hsh
    obtain ⟨sb, rfl, e1, e2⟩ := hx.strInv
    subst hg
    refine ⟨.int .i64 (sb.size : Int), by simp [Builtin.len_, run_underlying hu, goInt], ?_⟩
    rw [e1]; exact .int _ _
  · have hu : P.underlying t = some (.slice _) := hsh
    cases hx
    subst hg
    exact ⟨.int .i64 0, by simp [Builtin.len_, run_underlying hu, goInt], .int _ _⟩
  · have hu : P.underlying t = some (.slice _) := hsh
    subst hg
    cases hx with
    | sl => refine ⟨_, ?_, .int .i64 (Int.ofNat _)⟩; simp [Builtin.len_, run_underlying hu, goInt]
    | sl0 => exact ⟨.int .i64 0, by simp [Builtin.len_, run_underlying hu, goInt], .int _ _⟩
  · have hu : P.underlying t = some (.map _ _) := hsh
    cases hx
    subst hg
    exact ⟨.int .i64 0, by simp [Builtin.len_, run_underlying hu, goInt], .int _ _⟩
  · have hu : P.underlying t = some (.map _ _) := hsh
    rename_i b
    cases hb : h.get b <;> rw [hb] at hg <;> simp only [Option.some.injEq, reduceCtorEq] at hg
    subst hg
    obtain ⟨r, z, hρ⟩ := hx.mapρ
    have hrep := hr.atρ hb rfl hρ
    obtain ⟨es, clock, e1, e2, _⟩ := hrep
    cases hx with
    | map _ r' z' hρ' =>
      rw [hρ] at hρ'; cases hρ'
      have hlen := e2.length
      refine ⟨.int .i64 (es.size : Int), by simp [Builtin.len_, run_underlying hu, goInt, getObj, Sem.run, e1], ?_⟩
      have : es.size = es.toList.length := by simp
      rw [this, hlen]
      exact .int _ _

theorem conc_ne {sh : Sh} (h : concSh sh = true) : sh ≠ .iface ∧ sh ≠ .other := by cases sh <;> simp [concSh] at h ⊢

theorem notIface_run {t : TypeId} {ti : TyI} (hty : TyOk P t ti) (h1 : ti.sh ≠ .iface) (h2 : ti.sh ≠ .other) : ∃ d, P.underlying t = some d ∧ ∀ ms, d ≠ .interface ms := by
  have hs := hty.sh
  cases hsh : ti.sh <;> rw [hsh] at hs <;> first
    | exact absurd hsh h1
    | exact absurd hsh h2
    | (obtain ⟨x, hu, _⟩ := hs; exact ⟨_, hu, by simp⟩)
    | (obtain ⟨x, y, z, hu⟩ := hs; exact ⟨_, hu, by simp⟩)
    | (have hu : P.underlying t = some _ := hs; exact ⟨_, hu, by simp⟩)

theorem assertG_ok (hc : Ctx P tt eqs) {t xt : TypeId} {x : G} {vx : Value} {ok : Bool} (hx : RepG ρ vx x) (h : assertG tt t x ok = some g) : ∃ v, (Instr.typeAssert vx xt t ok).run P w = .ok v w ∧ RepG ρ v g := by
  unfold assertG at h
  cases hl : lk tt t with
  | none => rw [hl] at h; cases h
  | some ti =>
  rw [hl] at h
  simp only at h
  cases hcs : concSh ti.sh with
  | false => rw [hcs] at h; cases h
  | true =>
  rw [hcs] at h
  have h : assert1 ti t x ok = some g := h
  obtain ⟨h1, h2⟩ := conc_ne hcs
  obtain ⟨d, hu, hd⟩ := notIface_run (hc.ty t ti hl) h1 h2
  have fails : zeroPair ti true = some g → ok = true → (∀ v, vx = .iface t v → False) → (vx = .nilIface ∨ ∃ u v, vx = .iface u v) → ∃ v, (Instr.typeAssert vx xt t ok).run P w = .ok v w ∧ RepG ρ v g := by
    rintro hz rfl hne hv
    obtain ⟨zv, z1, z2⟩ := zeroPair_ok (P := P) (w := w) (ρ := ρ) hc.ty hc.tz hl hz
    refine ⟨_, ?_, z2⟩
    rcases hv with rfl | ⟨u, v, rfl⟩
    · cases d <;> first
        | exact absurd rfl (hd _)
        | simp [Instr.typeAssert, run_underlying hu, z1]
    · have hut : ¬ u = t := fun e => hne v (by rw [e])
      cases d <;> first
        | exact absurd rfl (hd _)
        | simp [Instr.typeAssert, run_underlying hu, z1, hut]
  unfold assert1 at h
  cases x <;> simp only [reduceCtorEq] at h
  case nili =>
    cases hx
    cases ok <;> simp only [reduceCtorEq] at h
    exact fails h rfl (by simp) (.inl rfl)
  case if_ u g' _ =>
    cases hx with
    | if_ _ v _ hv =>
      cases hb : Nat.beq u t with
      | true =>
        rw [hb] at h
        cases h
        have := Nat.eq_of_beq_eq_true hb
        subst this
        refine ⟨_, ?_, pairG_rep hv ok⟩
        cases d <;> first
          | exact absurd rfl (hd _)
          | (simp [Instr.typeAssert, run_underlying hu])
      | false =>
        rw [hb] at h
        have hne : u ≠ t := fun e => by rw [e] at hb; simp at hb
        cases ok <;> simp only [reduceCtorEq] at h
        exact fails h rfl (fun v hv => by cases hv; exact hne rfl) (.inr ⟨_, _, rfl⟩)

theorem mkIfG_ok (hc : Ctx P tt eqs) {t : TypeId} {x : G} {vx : Value} (hx : RepG ρ vx x) (h : mkIfG tt t x = some g) : ∃ v, (Instr.makeInterface t vx).run P w = .ok v w ∧ RepG ρ v g := by
  unfold mkIfG at h
  cases hl : lk tt t with
  | none => rw [hl] at h; cases h
  | some ti =>
  rw [hl] at h
  simp only at h
  cases hcs : concSh ti.sh with
  | false => rw [hcs] at h; cases h
  | true =>
  rw [hcs] at h
  cases h
  obtain ⟨h1, h2⟩ := conc_ne hcs
  exact ⟨_, Hk.concrete_of_sh (hc.ty t ti hl) h1 h2 vx, .if_ _ _ _ hx⟩

theorem evAs_rep (hs : SRep ρ s a.tmps) : ∀ l : List Operand, RepGs ρ (l.map a.eval) (l.map (evA · s))
  | [] => .nil
  | x :: l => .mk (evA_rep hs x) (evAs_rep hs l)

end
end Go.Gx

/- The ghost machine: its word for operations that change nothing is sound. -/
namespace Go.Gx
open Go.Hk (TT TTok TyI Sh lk TyOk ShOk nth nth_eq)

section
variable {P : Program} {w : World} {tt : TT} {eqs : List Nat} {ρ : Rho} {B : Bl} {h : GH} {s : S} {a : Act} {g : G}

theorem build_ok (hc : Ctx P tt eqs) (hs : SRep ρ s a.tmps) {t : TypeId} {fs : List (Nat × TypeId)} {agg : Bool} {sz by_ : Nat} {z : List Hk.D} {ps : List (Nat × Operand)} {zs l : List G} (hl : lk tt t = some ⟨.struct fs, agg, sz, by_, z⟩)
    (hz : zsOf z = some zs) (hb : buildG tt fs s ps zs = some l) : ∃ v, (Instr.build t (ps.toArray.map fun p => (p.1, a.eval p.2))).run P w = .ok v w ∧ RepG ρ v (.agg l) := by
  obtain ⟨inf, zv, h1, _, _, h4, h5, h6⟩ := (hc.ty t _ hl).info
  have hzr := zsOf_rep (ρ := ρ) hz (h5 _ _)
  have hzrun : (zeroValue t).run P w = .ok zv w := by simp [zeroValue, typeInfo, h1, h4]
  obtain ⟨fields, hu, hmap, hpos⟩ : ∃ fields, P.underlying t = some (.struct fields) ∧ fields.toList.map (fun f => (f.offset, f.type)) = fs ∧ ∀ f ∈ fields.toList, 0 < P.cellsOf f.type := (hc.ty t _ hl).sh
  have hsz : ∀ f ∈ fields.toList, (do pure (f.offset, ← sizeOf f.type) : Sem (Nat × Nat)).run P w = .ok (f.offset, P.cellsOf f.type) w := fun f hf => by
    simp only [Sem.run_bind, Hk.sizeOf_of_pos (hpos f hf), Result.andThen_ok, Sem.run_pure]
  have hplaces := Hk.run_mapM_array (P := P) (w := w) (fun f : Field => (do pure (f.offset, ← sizeOf f.type) : Sem (Nat × Nat))) (fun f => (f.offset, P.cellsOf f.type)) fields hsz
  obtain ⟨us, u1, u2, u3⟩ := fill_ok (P := P) (place := fun i => (fields.map fun f => (f.offset, P.cellsOf f.type))[i]?) hs hc.ty (fun i off ft ti hn hti => by
    rw [nth_eq, ← hmap, List.getElem?_map, Option.map_eq_some_iff] at hn
    obtain ⟨f, hf, he⟩ := hn
    simp only [Prod.mk.injEq] at he
    have hf' : fields[i]? = some f := by rw [← Array.getElem?_toList]; exact hf
    simp only [Array.getElem?_map, hf', Option.map_some, he.1, he.2, (hc.ty ft ti hti).cellsOf]) ps zs l zv.cells.toList hb hzr h6
  refine ⟨.agg us.toArray, ?_, agg_rep u2 u3⟩
  simp only [Instr.build, Sem.run_bind, hzrun, Result.andThen_ok, run_underlying hu]
  refine (congrArg (Result.andThen · _) hplaces).trans ?_
  simp only [Result.andThen_ok]
  have : (ps.toArray.map fun p => (p.1, a.eval p.2)).toList = ps.map fun p => (p.1, a.eval p.2) := by simp
  rw [this]
  have u1' : Instr.fill (fun x => (fields.map fun f => (f.offset, P.cellsOf f.type))[x]?) zv.cells (ps.map fun p => (p.1, a.eval p.2)) = some us.toArray := by simpa using u1
  simp only [u1', Sem.run_pure]

theorem buildA_ok (hc : Ctx P tt eqs) (hs : SRep ρ s a.tmps) {t e : TypeId} {n : Nat} {agg : Bool} {sz by_ : Nat} {z : List Hk.D} {ps : List (Nat × Operand)} {zs l : List G} {i : TyI} (hl : lk tt t = some ⟨.arr n e, agg, sz, by_, z⟩)
    (hz : zsOf z = some zs) (hi : lk tt e = some i) (hpos : 0 < i.size) (hb : buildG tt (arrFs e i.size n 0) s ps zs = some l) : ∃ v, (Instr.build t (ps.toArray.map fun p => (p.1, a.eval p.2))).run P w = .ok v w ∧ RepG ρ v (.agg l) := by
  obtain ⟨inf, zv, h1, _, _, h4, h5, h6⟩ := (hc.ty t _ hl).info
  have hzr := zsOf_rep (ρ := ρ) hz (h5 _ _)
  have hzrun : (zeroValue t).run P w = .ok zv w := by simp [zeroValue, typeInfo, h1, h4]
  have hu : P.underlying t = some (.array n e) := (hc.ty t _ hl).sh
  have hce : P.cellsOf e = i.size := (hc.ty e i hi).cellsOf
  obtain ⟨us, u1, u2, u3⟩ := fill_ok (P := P) (place := fun k => some (k * i.size, i.size)) hs hc.ty (fun k off ft ti hn hti => by
    obtain ⟨q1, q2⟩ := arrFs_nth hn
    subst q2
    rw [hi] at hti; cases hti
    rw [q1, Nat.zero_add]) ps zs l zv.cells.toList hb hzr h6
  refine ⟨.agg us.toArray, ?_, agg_rep u2 u3⟩
  have hso := Hk.sizeOf_of_pos (P := P) (w := w) (t := e) (by rw [hce]; exact hpos)
  rw [hce] at hso
  simp only [Instr.build, Sem.run_bind, hzrun, Result.andThen_ok, run_underlying hu, hso]
  have : (ps.toArray.map fun p => (p.1, a.eval p.2)).toList = ps.map fun p => (p.1, a.eval p.2) := by simp
  rw [this]
  have u1' : Instr.fill (fun k => some (k * i.size, i.size)) zv.cells (ps.map fun p => (p.1, a.eval p.2)) = some us.toArray := by simpa using u1
  simp only [u1', Sem.run_pure]

theorem kEq_iff {k k' : IntKind} (h : kEq k k' = true) : k = k' := of_decide_eq_true h

theorem evQ_ok (hc : Ctx P tt eqs) (hr : HRep B ρ h w) (hs : SRep ρ s a.tmps) {o : Oper} (hg : evQ tt eqs o.op s h = some g) : Quiet P ρ w g ((execOp a.eval o).run P w) := by
  have hA := evA_rep hs
  unfold evQ at hg
  split at hg
  · rename_i x ho
    cases hg
    simp only [execOp, ho]
    exact ⟨_, rfl, hA x⟩
  · rename_i x ho
    cases hg
    simp only [execOp, ho]
    exact ⟨_, rfl, hA x⟩
  · rename_i c x y ho
    simp only [execOp, ho]
    have hcr := hA c
    split at hg
    · rename_i hb
      cases hg
      rw [hb] at hcr
      rw [hcr.boolInv]
      exact ⟨a.eval x, by simp [asBool], hA x⟩
    · rename_i hb
      cases hg
      rw [hb] at hcr
      rw [hcr.boolInv]
      exact ⟨a.eval y, by simp [asBool], hA y⟩
    · cases hg
  · rename_i x ho
    simp only [execOp, ho]
    have hxr := hA x
    generalize a.eval x = v at hxr
    split at hg <;> simp only [Option.some.injEq, reduceCtorEq] at hg
    all_goals
      rename_i hx
      rw [hx] at hxr
      subst hg
      have hk := hxr
      cases hxr
      exact ⟨_, rfl, hk⟩
  · rename_i op t x y yt ho
    simp only [execOp, ho]
    obtain ⟨v, hv, hr'⟩ := evBinA_ok (P := P) (w := w) (xo := x) hc (hA x) (hA y) hg
    exact quiet_of hv hr'
  · rename_i op t x ho
    simp only [execOp, ho]
    have hxr := hA x
    split at hg <;> simp only [Option.some.injEq, reduceCtorEq] at hg
    · rename_i hx
      rw [hx] at hxr
      subst hg
      rw [hxr.boolInv]
      exact quiet_of (v := .bool _) (by simp [Op.unary]) (.bool _)
    · rename_i hx
      rw [hx] at hxr
      subst hg
      rw [hxr.intInv, wrapF_eq]
      exact quiet_of (v := .int _ _) (by simp [Op.unary, Op.intArith]) (.int _ _)
  · rename_i t1 t2 x ho
    simp only [execOp, ho]
    have hxr := hA x
    split at hg
    · simp only [Option.some.injEq] at hg
      rename_i h1 h2 hx
      rw [hx] at hxr
      subst hg
      have u1 : P.underlying t1 = some (.int _) := (hc.ty t1 _ h1).sh
      have u2 : P.underlying t2 = some (.int _) := (hc.ty t2 _ h2).sh
      rw [hxr.intInv, wrapF_eq]
      exact quiet_of (v := .int _ _) (by simp [convert, run_underlying u1, run_underlying u2, Conv.intToInt]) (.int _ _)
    · rename_i h1 h2 hx
      rw [hx] at hxr
      split at hg
      · rename_i m
        split at hg
        · rename_i hm
          rw [Nat.blt_eq] at hm
          cases hg
          have u1 : P.underlying t1 = some (.int _) := (hc.ty t1 _ h1).sh
          have u2 : P.underlying t2 = some .string := (hc.ty t2 _ h2).sh
          rw [hxr.intInv]
          have henc : Utf8.encode (Int.ofNat m) = ⟨#[UInt8.ofNat m]⟩ := by
            have hv : Utf8.valid (m : Int) = true := by simp [Utf8.valid]; omega
            simp [Utf8.encode, hv, hm]
          exact quiet_of (v := .string (Utf8.encode (Int.ofNat m))) (by simp [convert, run_underlying u1, run_underlying u2, Conv.intToString]) (.str _ _ _ (by rw [henc]; rfl) (by rw [henc]; simp [pk]; omega))
        · cases hg
      · cases hg
    · cases hg
  · rename_i st x f ho
    simp only [execOp, ho]
    have hxr := hA x
    split at hg
    · rename_i b o' fs _ _ _ _ hx hl
      rw [hx] at hxr
      split at hg <;> simp only [Option.some.injEq, reduceCtorEq] at hg
      rename_i fo ft hn
      subst hg
      obtain ⟨r, z, e1, hρ⟩ := hxr.ptrInv
      rw [e1]
      exact quiet_of (Hk.fieldAt_ok (P := P) (w := w) (hc.ty st _ hl).sh hn r o') (.ptr _ r z _ hρ)
    · cases hg
  · rename_i t x ho
    simp only [execOp, ho]
    have hxr := hA x
    split at hg
    · rename_i b o' i hx hl
      rw [hx] at hxr
      split at hg
      · rename_i l hb
        obtain ⟨r, z, e1, hρ⟩ := hxr.ptrInv
        obtain ⟨vs, bt, q1, q2, q3, q4, q5⟩ := hr.atρ hb rfl hρ
        rw [e1]
        obtain ⟨v, hv, hr'⟩ := ldG_ok (P := P) (hc.ty t i hl) q1 (by omega) q4 q5 hg
        exact quiet_of hv hr'
      · cases hg
    · cases hg
  · rename_i t x f ho
    simp only [execOp, ho]
    have hxr := hA x
    split at hg
    · rename_i l fs _ _ _ _ hx hl
      rw [hx] at hxr
      split at hg
      · rename_i fo ft hn
        split at hg
        · rename_i i hi
          obtain ⟨cs, e1, r1, r2⟩ := hxr.aggInv
          obtain ⟨fields, hu, hmap, _⟩ : ∃ fields, P.underlying t = some (.struct fields) ∧ fields.toList.map (fun f => (f.offset, f.type)) = fs ∧ ∀ f ∈ fields.toList, 0 < P.cellsOf f.type := (hc.ty t _ hl).sh
          rw [nth_eq, ← hmap, List.getElem?_map, Option.map_eq_some_iff] at hn
          obtain ⟨fld, hfl, he⟩ := hn
          simp only [Prod.mk.injEq] at he
          have hfl' : fields[f]? = some fld := by rw [← Array.getElem?_toList]; exact hfl
          obtain ⟨v, hv, hr'⟩ := partG_ok (P := P) (w := w) (hc.ty ft i hi) r2 r1 hg
          rw [e1]
          refine quiet_of ?_ hr'
          simp only [Instr.field, Sem.run_bind, run_underlying hu, Result.andThen_ok, hfl', asAgg, Sem.run_pure, he.1, he.2, hv]
        · cases hg
      · cases hg
    · cases hg
  · rename_i x i ho
    simp only [execOp, ho]
    have hxr := hA x
    split at hg
    · rename_i l hx
      rw [hx] at hxr
      obtain ⟨cs, e1, r1⟩ := hxr.tupInv
      rw [gnth_eq] at hg
      have hlt := (List.getElem?_eq_some_iff.1 hg).1
      have hlen := r1.1
      have hv : cs.toList[i]? = some (cs.toList[i]'(by omega)) := List.getElem?_eq_getElem (by omega)
      have hv' : cs[i]? = some (cs.toList[i]'(by omega)) := by rw [← Array.getElem?_toList]; exact hv
      rw [e1]
      exact quiet_of (v := cs.toList[i]'(by omega)) (by simp only [Instr.extract, hv', Sem.run_pure]) (r1.2 i _ _ hv hg)
    · cases hg
  · rename_i t x y ho
    simp only [execOp, ho]
    obtain ⟨v, hv, hr'⟩ := indexG_ok (P := P) (w := w) hc (hA x) (hA y) hg
    exact quiet_of hv hr'
  · rename_i t x y ho
    simp only [execOp, ho]
    obtain ⟨v, hv, hr'⟩ := indexAddrG_ok (P := P) (w := w) hc (hA x) (hA y) hg
    exact quiet_of hv hr'
  · rename_i t x lo hi mx ho
    simp only [execOp, ho]
    obtain ⟨v, hv, hr'⟩ := sliceG_ok (P := P) (w := w) hc.ty hs (hA x) hg
    exact quiet_of hv hr'
  · rename_i t ps ho
    simp only [execOp, ho]
    split at hg
    · rename_i hl
      split at hg
      · rename_i zs hz
        split at hg
        · rename_i l hb
          cases hg
          obtain ⟨v, hv, hr'⟩ := build_ok (P := P) (w := w) hc hs hl hz hb
          exact quiet_of hv hr'
        · cases hg
      · cases hg
    · rename_i hl
      split at hg
      · rename_i zs i hz hi
        split at hg
        · rename_i l hpos hb
          cases hg
          rw [Nat.blt_eq] at hpos
          obtain ⟨v, hv, hr'⟩ := buildA_ok (P := P) (w := w) hc hs hl hz hi hpos hb
          exact quiet_of hv hr'
        · cases hg
      · cases hg
    · cases hg
  · rename_i t x ho
    simp only [execOp, ho]
    obtain ⟨v, hv, hr'⟩ := mkIfG_ok (P := P) (w := w) hc (hA x) hg
    exact quiet_of hv hr'
  · rename_i f xs ys ho
    cases hg
    simp only [execOp, ho]
    have r1 := evAs_rep hs xs
    have r2 := evAs_rep hs ys
    refine quiet_of (v := .func (.func f) (xs.map a.eval).toArray (ys.map a.eval).toArray) (by simp [Instr.makeFunc]) ?_
    exact .fn f _ _ _ _ (by simp) (by simp) (fun i v g p q => r1.2 i v g (by simpa using p) q) (fun i v g p q => r2.2 i v g (by simpa using p) q)
  · rename_i t m k ok ho
    simp only [execOp, ho]
    split at hg
    · rename_i kt et _ _ _ _ hl
      have hu : P.underlying t = some (.map kt et) := (hc.ty t _ hl).sh
      obtain ⟨v, hv, hr'⟩ := lookG_ok (P := P) hc.ty hc.tz hr hu (hA m) (hA k) hg
      exact quiet_of hv hr'
    · cases hg
  · rename_i x xt t ok ho
    simp only [execOp, ho]
    obtain ⟨v, hv, hr'⟩ := assertG_ok (P := P) (w := w) (xt := xt) hc (hA x) hg
    exact quiet_of hv hr'
  · rename_i x t ho
    simp only [execOp, ho]
    obtain ⟨v, hv, hr'⟩ := lenG_ok (P := P) hc hr (hA x) hg o.type
    exact ⟨v, by simp [resolve, invoke, builtin, hv], hr'⟩
  · rename_i x t ho
    simp only [execOp, ho]
    have hxr := hA x
    generalize hv : a.eval x = v at hxr
    split at hg <;> simp only [Option.some.injEq, reduceCtorEq] at hg
    · rename_i hx hl
      rw [hx] at hxr
      subst hg
      have hu : P.underlying t = some (.slice _) := (hc.ty t _ hl).sh
      cases hxr with
      | sl =>
        rename_i hex
        have hex : _ = _ := hex
        subst hex
        refine ⟨_, ?_, .int .i64 (Int.ofNat _)⟩
        simp [resolve, invoke, builtin, hv, Builtin.cap_, run_underlying hu, goInt]
      | sl0 => exact ⟨.int .i64 0, by simp [resolve, invoke, builtin, hv, Builtin.cap_, run_underlying hu, goInt], .int _ _⟩
    · rename_i hx hl
      rw [hx] at hxr
      subst hg
      have hu : P.underlying t = some (.slice _) := (hc.ty t _ hl).sh
      cases hxr
      exact ⟨.int .i64 0, by simp [resolve, invoke, builtin, hv, Builtin.cap_, run_underlying hu, goInt], .int _ _⟩
  · rename_i x y ts ho
    simp only [execOp, ho]
    have hxr := hA x
    have hyr := hA y
    split at hg
    · rename_i k p k' q hx hy
      split at hg <;> simp only [Option.some.injEq, reduceCtorEq] at hg
      rename_i hk
      have := kEq_iff hk
      subst this
      rw [hx] at hxr; rw [hy] at hyr
      subst hg
      refine ⟨.int k (if q > p then q else p), by simp [resolve, invoke, builtin, hxr.intInv, hyr.intInv, run_max_int2], ?_⟩
      rw [intLe_eq]
      by_cases hle : q ≤ p
      · have : ¬ q > p := by omega
        simp only [hle, decide_true, this, if_false]; exact .int _ _
      · have : q > p := by omega
        simp only [hle, decide_false, this, if_true]; exact .int _ _
    · cases hg
  · rename_i x y ts ho
    simp only [execOp, ho]
    have hxr := hA x
    have hyr := hA y
    split at hg
    · rename_i k p k' q hx hy
      split at hg <;> simp only [Option.some.injEq, reduceCtorEq] at hg
      rename_i hk
      have := kEq_iff hk
      subst this
      rw [hx] at hxr; rw [hy] at hyr
      subst hg
      refine ⟨.int k (if q < p then q else p), by simp [resolve, invoke, builtin, hxr.intInv, hyr.intInv, run_min_int2], ?_⟩
      rw [intLe_eq]
      by_cases hle : p ≤ q
      · have : ¬ q < p := by omega
        simp only [hle, decide_true, this, if_false]; exact .int _ _
      · have : q < p := by omega
        simp only [hle, decide_false, this, if_true]; exact .int _ _
    · cases hg
  · cases hg

end
end Go.Gx

/- The ghost machine: operations on memory. -/
namespace Go.Gx
open Go.Hk (TT TTok TyI Sh lk TyOk ShOk nth nth_eq)

section
variable {P : Program} {w : World} {tt : TT} {eqs : List Nat} {ρ : Rho} {B : Bl} {h h' : GH} {s : S} {a : Act} {g : G}

/-- A block is given up. -/
theorem HRep.kill (hr : HRep B ρ h w) {b : Nat} (hs : h.set? b .dead = some h') : HRep B ρ h' w := by
  obtain ⟨hsz, hget⟩ := GH.get_set hs
  have hne : ∀ j, (h'.get j).isDead = false → j ≠ b ∧ h'.get j = h.get j := by
    intro j hj
    have hjb : j ≠ b := fun e => by rw [hget, if_pos e] at hj; cases hj
    exact ⟨hjb, by rw [hget, if_neg hjb]⟩
  refine { blk := fun j rj zj hj hρj => ?_, inj := fun i j ri zi zj hi hj hρi hρj => ?_, lo := hr.lo, dom := fun j x hj => by rw [hsz]; exact hr.dom j x hj, top := hr.top, pl := hr.pl, pt := fun b hb => by rw [hsz]; exact hr.pt b hb }
  · obtain ⟨_, e⟩ := hne j hj
    rw [e] at hj ⊢
    refine (hr.blk j rj zj hj hρj).frame (Rho.le_refl ρ) rfl ?_
    intro m ver cur rem v kv rm zm _ _ hk
    have : (h'.get m).isDead = false := by rw [hk]; rfl
    obtain ⟨_, e2⟩ := hne m this
    exact .inl ⟨kv, by rw [← e2]; exact hk, rfl⟩
  · obtain ⟨_, ei⟩ := hne i hi
    obtain ⟨_, ej⟩ := hne j hj
    rw [ei] at hi; rw [ej] at hj
    exact hr.inj i j ri zi zj hi hj hρi hρj

/-- A new block of the ghost for a block of the world that no live block stands for. -/
theorem HRep.bind (hr : HRep B ρ h w) {x : GB} {o : Obj} {r z : Nat} (hs : h.push? x = some h') (hfree : ∀ j r' z', (h.get j).isDead = false → ρ j = some (r', z') → r' ≠ r) (hlo : ¬ B r) (hlt : r < w.heap.size)
    (hx : BRep (ρ.add h.size (r, z)) h' { w with heap := w.heap.setIfInBounds r o } r z x) : HRep B (ρ.add h.size (r, z)) h' { w with heap := w.heap.setIfInBounds r o } := by
  obtain ⟨hsz, hget⟩ := GH.get_push hs
  have hle := hr.le_add (r, z)
  have hold : ∀ j r' z', j ≠ h.size → ρ.add h.size (r, z) j = some (r', z') → ρ j = some (r', z') := fun j r' z' hj hh => by
    unfold Rho.add at hh; rwa [if_neg hj] at hh
  refine { blk := fun j rj zj hj hρj => ?_, inj := fun i j ri zi zj hi hj hρi hρj => ?_, lo := fun j r' z' hj => ?_, dom := fun j x hj => ?_, top := fun r hb => by simpa using hr.top r hb, pl := fun j x hj => ?_, pt := fun b hb => by have := hr.pt b hb; omega }
  · rw [hget] at hj ⊢
    by_cases hjb : j = h.size
    · subst hjb
      rw [if_pos rfl]
      unfold Rho.add at hρj; rw [if_pos rfl] at hρj; cases hρj
      exact hx
    · rw [if_neg hjb] at hj ⊢
      have h1 := hold _ _ _ hjb hρj
      have hne := hfree j rj zj hj h1
      refine (hr.blk j rj zj hj h1).frame hle (by simp [Array.getElem?_setIfInBounds_ne (Ne.symm hne)]) ?_
      intro m ver cur rem v kv rm zm hg hm hk
      rw [hget] at hk
      have hmne : m ≠ h.size := fun e => by rw [e, hr.fresh] at hm; cases hm
      rw [if_neg hmne] at hk
      have hne2 := hfree m rm zm (by rw [hk]; rfl) hm
      exact .inl ⟨kv, hk, by simp [Array.getElem?_setIfInBounds_ne (Ne.symm hne2)]⟩
  · rw [hget] at hi hj
    by_cases hie : i = h.size
    · by_cases hje : j = h.size
      · rw [hie, hje]
      · rw [if_neg hje] at hj
        have := hfree j _ _ hj (hold _ _ _ hje hρj)
        unfold Rho.add at hρi; rw [if_pos hie] at hρi; cases hρi; exact absurd rfl this
    · by_cases hje : j = h.size
      · rw [if_neg hie] at hi
        have := hfree i _ _ hi (hold _ _ _ hie hρi)
        unfold Rho.add at hρj; rw [if_pos hje] at hρj; cases hρj; exact absurd rfl this
      · rw [if_neg hie] at hi; rw [if_neg hje] at hj
        exact hr.inj i j ri zi zj hi hj (hold _ _ _ hie hρi) (hold _ _ _ hje hρj)
  · by_cases hje : j = h.size
    · unfold Rho.add at hj; rw [if_pos hje] at hj; cases hj
      simpa using ⟨hlo, hlt⟩
    · simpa using hr.lo _ _ _ (hold _ _ _ hje hj)
  · by_cases hje : j = h.size
    · omega
    · cases hx : x with
      | mk r' z' => rw [hx] at hj; have := hr.dom _ _ (hold _ _ _ hje hj); omega
  · by_cases hje : j = h.size
    · exact fun hb => absurd (hr.pt _ hb) (by omega)
    · cases hx : x with
      | mk r' z' => rw [hx] at hj; exact hr.pl _ _ (hold _ _ _ hje hj)

/-! ### What is shown of an operation on memory -/
def Eff (P : Program) (B : Bl) (o : Oper) (s : S) (h : GH) (g : G) (h' : GH) : Prop :=
  ∀ ρ w (a : Act), HRep B ρ h w → SRep ρ s a.tmps → ∃ v w' ρ', ((execOp a.eval o).run P w = .ok (.value v) w' ∨ ((execOp a.eval o).run P w = .ok .skip w' ∧ v = Go.undef)) ∧ HRep B ρ' h' w' ∧ ρ.le ρ' ∧ RepG ρ' v g ∧ Kept B w w'

noncomputable def nw {R : Type} (h : GH) (x : GB) (k : Nat → GH → R) (f : R) : R := h.t.setK h.size x (fun t => k h.size ⟨Nat.succ h.size, t⟩) f
noncomputable def wr {R : Type} (h : GH) (b : Nat) (x : GB) (k : GH → R) (f : R) : R := h.t.setK b x (fun t => k ⟨h.size, t⟩) f

theorem nw_eq {R : Type} (h : GH) (x : GB) (k : Nat → GH → R) (f : R) : nw h x k f = match h.push? x with | some h' => k h.size h' | none => f := by
  unfold nw GH.push?
  rw [T.setK_eq]
  cases h.t.set? h.size x <;> rfl
theorem wr_eq {R : Type} (h : GH) (b : Nat) (x : GB) (k : GH → R) (f : R) : wr h b x k f = match h.set? b x with | some h' => k h' | none => f := by
  unfold wr GH.set?
  rw [T.setK_eq]
  cases h.t.set? b x <;> rfl

theorem heap_push (o : Obj) : ({ w with heap := w.heap.push o } : World).heap[w.heap.size]? = some o := by simp

theorem alloc_eq (o : Obj) : w.alloc o = { w with heap := w.heap.push o } := rfl

theorem setRow_eq {r : Nat} {vs cs : Array Value} {t : TypeId} (hh : w.heap[r]? = some (.cells vs t (0, 0))) : w.setRow r cs = { w with heap := w.heap.setIfInBounds r (.cells cs t (0, 0)) } := by
  unfold World.setRow
  congr 1
  apply Array.ext_getElem?
  intro i
  rw [Array.getElem?_modify, Array.getElem?_setIfInBounds]
  by_cases hi : r = i
  · subst hi
    have hlt : r < w.heap.size := (Array.getElem?_eq_some_iff.1 hh).1
    have hv : w.heap[r] = .cells vs t (0, 0) := (Array.getElem?_eq_some_iff.1 hh).2
    simp [hlt, hv]
  · simp [hi]

/-- A new row. -/
theorem newRow_rep (hr : HRep B ρ h w) {l : List G} {t : TypeId} {vs : Array Value} (hs : h.push? (.cells l) = some h') (hv : RepGs ρ (vs.toList.take l.length) l) (hl : l.length ≤ vs.size) (h1 : ∀ v ∈ vs.toList, v.oneCell' = true) :
    HRep B (ρ.add h.size (w.heap.size, vs.size)) h' { w with heap := w.heap.push (.cells vs t) } :=
  hr.push hs ⟨vs, t, heap_push _, rfl, hl, hv.mono (hr.le_add _), fun v hv => h1 v (List.mem_of_mem_take hv)⟩

/-- A write into a row. -/
theorem splice_write (hr : HRep B ρ h w) {b r z off : Nat} {l q us : List G} {vs : Array Value} {t : TypeId} {ws : List Value} (hb : h.get b = .cells l) (hρ : ρ b = some (r, z)) (hh : w.heap[r]? = some (.cells vs t (0, 0)))
    (hq : gsplice l off us = some q) (hw : RepGs ρ ws us) (h1 : ∀ v ∈ ws, v.oneCell' = true) (hs : h.set? b (.cells q) = some h') :
    off + ws.length ≤ vs.size ∧ HRep B ρ h' (w.setRow r (vs.toList.take off ++ ws ++ vs.toList.drop (off + ws.length)).toArray) := by
  obtain ⟨vs', t', e1, e2, e3, e4, e5⟩ := hr.atρ hb rfl hρ
  rw [hh] at e1; cases e1
  obtain ⟨q1, q2⟩ := gsplice_eq hq
  have hwl := hw.1
  have hfit : off + ws.length ≤ vs.size := by omega
  refine ⟨hfit, ?_⟩
  rw [setRow_eq hh]
  have hlen : q.length = l.length := by rw [q1]; simp; omega
  refine hr.write1 hs (by rw [hb]; rfl) hρ ?_ (by simp)
  have hrlt := (Array.getElem?_eq_some_iff.1 hh).1
  have e6 : ((vs.toList.take off ++ ws ++ vs.toList.drop (off + ws.length)).toArray.toList.take q.length) = (vs.toList.take l.length).take off ++ ws ++ (vs.toList.take l.length).drop (off + ws.length) := by
    rw [hlen, List.toList_toArray, List.take_append, List.take_append]
    have a1 : (vs.toList.take off).take l.length = (vs.toList.take l.length).take off := by rw [List.take_take, List.take_take, Nat.min_comm]
    have a2 : ws.take (l.length - (vs.toList.take off).length) = ws := by
      rw [List.take_of_length_le]
      simp; omega
    have a3 : (vs.toList.drop (off + ws.length)).take (l.length - (vs.toList.take off ++ ws).length) = (vs.toList.take l.length).drop (off + ws.length) := by
      rw [List.drop_take]
      congr 1
      simp; omega
    rw [a1, a2, a3]
  refine ⟨(vs.toList.take off ++ ws ++ vs.toList.drop (off + ws.length)).toArray, t, by rw [Array.getElem?_setIfInBounds_self_of_lt hrlt], ?_, by rw [hlen]; exact e3, ?_, ?_⟩
  · simp; omega
  · rw [e6, q1, ← hwl]
    exact ((e4.take off).append hw).append (e4.drop _)
  · intro v hv
    rw [e6] at hv
    rcases List.mem_append.1 hv with hv | hv
    · rcases List.mem_append.1 hv with hv | hv
      · exact e5 v (List.mem_of_mem_take hv)
      · exact h1 v hv
    · exact e5 v (List.mem_of_mem_drop hv)

theorem Kept.setRow {r : Nat} {vs cs : Array Value} {t : TypeId} (hh : w.heap[r]? = some (.cells vs t (0, 0))) (hB : ¬ B r) : Kept B w (w.setRow r cs) := by
  rw [setRow_eq hh]; exact Kept.write hB

end
end Go.Gx

/- The ghost machine: new variables, stores, slices that are written out or made. -/
namespace Go.Gx
open Go.Hk (TT TTok TyI Sh lk TyOk ShOk nth nth_eq)

/-- The same, at once. -/
noncomputable def gappK {R : Type} (xs : List G) : List G → (List G → R) → R :=
  List.rec (motive := fun _ => List G → (List G → R) → R) (fun ys k => k ys) (fun x _ ih ys k => ih ys fun r => k (x :: r)) xs
theorem gappK_eq {R : Type} : ∀ (xs ys : List G) (k : List G → R), gappK xs ys k = k (xs ++ ys)
  | [], _, _ => rfl
  | x :: xs, ys, k => by
    show gappK xs ys (fun r => k (x :: r)) = _
    rw [gappK_eq xs ys]; rfl

noncomputable def repK {R : Type} (zs : List G) (n : Nat) : (List G → R) → R :=
  Nat.rec (motive := fun _ => (List G → R) → R) (fun k => k []) (fun _ ih k => ih fun r => gappK zs r k) n
theorem repK_eq {R : Type} (zs : List G) : ∀ (n : Nat) (k : List G → R), repK zs n k = k (List.replicate n zs).flatten
  | 0, _ => rfl
  | n + 1, k => by
    show repK zs n (fun r => gappK zs r k) = _
    rw [repK_eq zs n, gappK_eq]
    simp [List.replicate_succ]

/-- The cells of a slice that is written out: each element given, in order. -/
noncomputable def catG (sz : Nat) (s : S) : Nat → List (Nat × Operand) → Option (List G)
  | _, [] => some []
  | i, (j, x) :: r => match Nat.beq i j, gcells (evA x s), catG sz s (i + 1) r with
    | true, some cs, some rest => match Nat.beq cs.length sz with
      | true => some (gappK cs rest id)
      | false => none
    | _, _, _ => none

section
variable {P : Program} {w : World} {tt : TT} {eqs : List Nat} {ρ : Rho} {B : Bl} {h h' : GH} {s : S} {a : Act} {g : G}

/-! ### Variables -/
noncomputable def allocG {R : Type} (tt : TT) (t : TypeId) (h : GH) (k : G → GH → R) (f : R) : R := match lk tt t with
  | some i => match zsOf i.zero with
    | some zs => nw h (.cells zs) (fun b h' => k (.ptr b 0) h') f
    | none => f
  | none => f

theorem allocG_ok {R : Type} (hc : Ctx P tt eqs) {o : Oper} {t : TypeId} (ho : o.op = .alloc t) (k : G → GH → R) (f : R) :
    allocG tt t h k f = f ∨ ∃ g h', allocG tt t h k f = k g h' ∧ Eff P B o s h g h' := by
  unfold allocG
  cases hl : lk tt t with
  | none => exact .inl rfl
  | some i =>
  simp only
  cases hz : zsOf i.zero with
  | none => exact .inl rfl
  | some zs =>
  simp only
  rw [nw_eq]
  cases hp : h.push? (.cells zs) with
  | none => exact .inl rfl
  | some h' =>
    refine .inr ⟨_, h', rfl, fun ρ w a hr hs => ?_⟩
    obtain ⟨inf, zv, h1, _, _, h4, h5, h6⟩ := (hc.ty t i hl).info
    have hzr := zsOf_rep (ρ := ρ) hz (h5 _ _)
    have hrun : (execOp a.eval o).run P w = .ok (.value (.pointer (some ⟨w.heap.size, 0, none⟩))) (w.alloc (.cells zv.cells t)) := by
      simp [execOp, ho, Instr.alloc, newVar, newRow, zeroValue, typeInfo, h1, h4]
    have hlen := hzr.1
    have := newRow_rep (t := t) (vs := zv.cells) hr hp (by rw [← hlen, List.take_length]; exact hzr) (by simp at hlen; omega) h6
    exact ⟨_, _, _, .inl hrun, this, hr.le_add _, .ptr _ w.heap.size zv.cells.size 0 (by simp [Rho.add]), Kept.push hr.top⟩

noncomputable def boxG {R : Type} (x : Operand) (s : S) (h : GH) (k : G → GH → R) (f : R) : R := match gcells (evA x s) with
  | some cs => nw h (.cells cs) (fun b h' => k (.ptr b 0) h') f
  | none => f

theorem boxG_ok {R : Type} {o : Oper} {t : TypeId} {x : Operand} (ho : o.op = .box t x) (k : G → GH → R) (f : R) :
    boxG x s h k f = f ∨ ∃ g h', boxG x s h k f = k g h' ∧ Eff P B o s h g h' := by
  unfold boxG
  cases hcs : gcells (evA x s) with
  | none => exact .inl rfl
  | some cs =>
  simp only
  rw [nw_eq]
  cases hp : h.push? (.cells cs) with
  | none => exact .inl rfl
  | some h' =>
    refine .inr ⟨_, h', rfl, fun ρ w a hr hs => ?_⟩
    have hrun : (execOp a.eval o).run P w = .ok (.value (.pointer (some ⟨w.heap.size, 0, none⟩))) (w.alloc (.cells (a.eval x).cells t)) := by
      simp [execOp, ho, Instr.box, newVar, newRow]
    obtain ⟨r1, r2⟩ := gcells_rep hcs (evA_rep hs x)
    have hlen := r1.1
    have := newRow_rep (t := t) (vs := (a.eval x).cells) hr hp (by rw [← hlen, List.take_length]; exact r1) (by simp at hlen; omega) r2
    exact ⟨_, _, _, .inl hrun, this, hr.le_add _, .ptr _ w.heap.size (a.eval x).cells.size 0 (by simp [Rho.add]), Kept.push hr.top⟩

noncomputable def storeG {R : Type} (tt : TT) (t : TypeId) (p x : Operand) (s : S) (h : GH) (k : G → GH → R) (f : R) : R := match evA p s with
  | .ptr b o => match lk tt t, gcells (evA x s), h.get b with
    | some i, some cs, .cells l => match Nat.beq cs.length i.size with
      | true => match gsplice l o cs with
        | some q => wr h b (.cells q) (fun h' => k .undef h') f
        | none => f
      | false => f
    | _, _, _ => f
  | _ => f

theorem storeG_ok {R : Type} (hc : Ctx P tt eqs) {o : Oper} {t : TypeId} {p x : Operand} (ho : o.op = .store t p x) (k : G → GH → R) (f : R) :
    storeG tt t p x s h k f = f ∨ ∃ g h', storeG tt t p x s h k f = k g h' ∧ Eff P B o s h g h' := by
  unfold storeG
  split
  · rename_i b off hp
    split
    · rename_i i cs l hl hcs hb
      split
      · rename_i hlen
        have hlen := Nat.eq_of_beq_eq_true hlen
        split
        · rename_i q hq
          rw [wr_eq]
          cases hw : h.set? b (.cells q) with
          | none => exact .inl rfl
          | some h' =>
            refine .inr ⟨_, h', rfl, fun ρ w a hr hs => ?_⟩
            have hpr := evA_rep hs p
            rw [hp] at hpr
            obtain ⟨r, z, e1, hρ⟩ := hpr.ptrInv
            obtain ⟨vs, bt, q1, q2, q3, q4, q5⟩ := hr.atρ hb rfl hρ
            obtain ⟨c1, c2⟩ := gcells_rep hcs (evA_rep hs x)
            obtain ⟨s1, s2⟩ := splice_write hr hb hρ q1 hq c1 c2 hw
            have hcl := c1.1
            have hst := Hk.storeAt_ok (P := P) (w := w) (hc.ty t i hl) (b := r) (off := off) (v := a.eval x) q1 (by rw [← hlen, ← hcl]; simp) c2 s1
            have hrun : (execOp a.eval o).run P w = .ok .skip (w.setRow r (vs.toList.take off ++ (a.eval x).cells.toList ++ vs.toList.drop (off + (a.eval x).cells.toList.length)).toArray) := by
              simp only [execOp, ho, e1, Sem.run_bind, hst, Result.andThen_ok, Sem.run_pure]
            exact ⟨_, _, ρ, .inr ⟨hrun, rfl⟩, s2, Rho.le_refl ρ, .undef _, Kept.setRow q1 (hr.lo _ _ _ hρ).1⟩
        · exact .inl rfl
      · exact .inl rfl
    · exact .inl rfl
  · exact .inl rfl

/-! ### Slices -/
theorem fillCat_ok {sz : Nat} (hs : SRep ρ s a.tmps) : ∀ (parts : List (Nat × Operand)) (i : Nat) (l : List G) (pre zs : List Value), catG sz s i parts = some l → pre.length = i * sz → zs.length = parts.length * sz →
    ∃ us : List Value, Instr.fill (fun i => some (i * sz, sz)) (pre ++ zs).toArray (parts.map fun p => (p.1, a.eval p.2)) = some (pre ++ us).toArray ∧ RepGs ρ us l ∧ (∀ u ∈ us, u.oneCell' = true) ∧ us.length = parts.length * sz
  | [], i, l, pre, zs, h, _, hz => by
    cases h
    have : zs = [] := List.eq_nil_of_length_eq_zero (by simpa using hz)
    subst this
    exact ⟨[], rfl, .nil, by simp, by simp⟩
  | (j, x) :: r, i, l, pre, zs, h, hp, hz => by
    simp only [catG] at h
    split at h
    · rename_i cs rest hb hcs hrest
      split at h
      · rename_i hlen
        cases h
        have hj := Nat.eq_of_beq_eq_true hb
        subst hj
        have hlen := Nat.eq_of_beq_eq_true hlen
        obtain ⟨c1, c2⟩ := gcells_rep hcs (evA_rep hs x)
        have hcl := c1.1
        have hvl : (a.eval x).cells.toList.length = sz := by rw [hcl, hlen]
        have hz' : zs.length = sz + r.length * sz := by rw [hz]; simp [Nat.add_mul, Nat.add_comm]
        obtain ⟨us, u1, u2, u3, u4⟩ := fillCat_ok hs r (i + 1) rest (pre ++ (a.eval x).cells.toList) (zs.drop sz) hrest (by simp only [List.length_append, hp, hvl, Nat.add_mul, Nat.one_mul]) (by simp; omega)
        refine ⟨(a.eval x).cells.toList ++ us, ?_, ?_, ?_, ?_⟩
        · rw [List.map_cons]
          unfold Instr.fill
          simp only
          have hsz : (a.eval x).cells.size = sz := by rw [← hvl]; simp
          rw [if_neg (by simp [hsz, hp]; omega)]
          have hstep : (a.eval x).cells.zipIdx.foldl (fun cs (p : Value × Nat) => cs.setIfInBounds (i * sz + p.2) p.1) (pre ++ zs).toArray = (pre ++ (a.eval x).cells.toList ++ zs.drop sz).toArray := by
            apply Array.ext'
            rw [← Array.foldl_toList, Array.toList_zipIdx]
            have := Hk.foldl_set (i * sz) (a.eval x).cells.toList 0 (pre ++ zs).toArray (by simp [hsz, hp]; omega)
            simp only [Nat.add_zero] at this
            rw [this]
            simp only [List.toList_toArray]
            rw [← hp, hvl, List.take_left, List.drop_append, List.drop_eq_nil_of_le (by omega), List.nil_append, Nat.add_sub_cancel_left]
          rw [hstep, ← List.append_assoc]
          exact u1
        · rw [gappK_eq]; exact c1.append u2
        · intro u hu
          rcases List.mem_append.1 hu with hu | hu
          · exact c2 u hu
          · exact u3 u hu
        · rw [List.length_append, hvl, u4]; simp [Nat.add_mul, Nat.add_comm]
      · cases h
    · cases h

noncomputable def bslG {R : Type} (tt : TT) (t : TypeId) (n : Nat) (ps : List (Nat × Operand)) (s : S) (h : GH) (k : G → GH → R) (f : R) : R := match lk tt t with
  | some { sh := .sl e, .. } => match lk tt e with
    | some i => match catG i.size s 0 ps, Nat.beq n ps.length, Nat.ble (Nat.mul n i.size) 16777216 with
      | some l, true, true => match Nat.ble n 16777216 with
        | true => nw h (.cells l) (fun b h' => k (.sl b 0 n n none) h') f
        | false => f
      | _, _, _ => f
    | none => f
  | _ => f

theorem bslG_ok {R : Type} (hc : Ctx P tt eqs) {o : Oper} {t : TypeId} {n : Nat} {ps : List (Nat × Operand)} (ho : o.op = .buildSlice t n ⟨ps⟩) (k : G → GH → R) (f : R) :
    bslG tt t n ps s h k f = f ∨ ∃ g h', bslG tt t n ps s h k f = k g h' ∧ Eff P B o s h g h' := by
  unfold bslG
  split
  · rename_i e _ _ _ _ hl
    split
    · rename_i i hi
      split
      · rename_i l hcat hn hbig
        have hn := Nat.eq_of_beq_eq_true hn
        rw [Nat.ble_eq] at hbig
        split
        case h_2 => exact .inl rfl
        rename_i hnm
        rw [Nat.ble_eq] at hnm
        rw [nw_eq]
        cases hp : h.push? (.cells l) with
        | none => exact .inl rfl
        | some h' =>
          refine .inr ⟨_, h', rfl, fun ρ w a hr hs => ?_⟩
          have hu : P.underlying t = some (.slice e) := (hc.ty t _ hl).sh
          obtain ⟨inf, zv, h1, h2, _, h4, _, _⟩ := (hc.ty e i hi).info
          have hbig' : n * i.size ≤ 16777216 := hbig
          obtain ⟨A, hA, hA0, hA1⟩ : ∃ A : List Value, A.length = n * i.size ∧ (n * i.size = 0 → (Array.range (n * i.size)).map (fun k => (#[] : Array Value)[k % (#[] : Array Value).size]!) = A.toArray) ∧
              (n * i.size ≠ 0 → (Array.range (n * i.size)).map (fun k => zv.cells[k % zv.cells.size]!) = A.toArray) := by
            by_cases hz0 : n * i.size = 0
            · exact ⟨((Array.range (n * i.size)).map (fun k => (#[] : Array Value)[k % (#[] : Array Value).size]!)).toList, by simp, fun _ => rfl, fun h => absurd hz0 h⟩
            · exact ⟨((Array.range (n * i.size)).map (fun k => zv.cells[k % zv.cells.size]!)).toList, by simp, fun h => absurd h hz0, fun _ => rfl⟩
          obtain ⟨us, u1, u2, u3, u4⟩ := fillCat_ok (a := a) (ρ := ρ) hs ps 0 l [] A hcat (by simp) (by rw [hA, hn])
          simp only [List.nil_append] at u1
          have hus : us.length = n * i.size := by rw [u4, hn]
          have hrun : (execOp a.eval o).run P w = .ok (.value (.slice (some ⟨w.heap.size, 0, none⟩) n n)) (w.alloc (.cells us.toArray e)) := by
            simp only [execOp, ho]
            have hb : ¬ n * i.size > 2 ^ 24 := by omega
            by_cases hz0 : n * i.size = 0
            · simp only [Instr.buildSlice, Sem.run_bind, run_underlying hu, (hc.ty e i hi).sizeOf w, Result.andThen_ok, hb, if_false, Sem.run_pure, if_pos hz0]
              rw [hA0 hz0, List.map_toArray, u1]
              simp only [newRow, Sem.run_bind, run_newObj, Result.andThen_ok, Sem.run_pure]
              rfl
            · simp only [Instr.buildSlice, Sem.run_bind, run_underlying hu, (hc.ty e i hi).sizeOf w, Result.andThen_ok, hb, if_false, Sem.run_pure, if_neg hz0, zeroValue, typeInfo, run_program, h1, h4]
              rw [hA1 hz0, List.map_toArray, u1]
              simp only [newRow, Sem.run_bind, run_newObj, Result.andThen_ok, Sem.run_pure]
              rfl
          have hlen := u2.1
          have := newRow_rep (t := e) (vs := us.toArray) hr hp (by rw [List.toList_toArray, ← hlen, List.take_length]; exact u2) (by simp; omega) (by simpa using u3)
          refine ⟨_, _, _, .inl hrun, this, hr.le_add _, .sl _ w.heap.size us.toArray.size 0 n n n none (by simp [Rho.add]) (Nat.le_refl _) (Nat.le_refl _) (by unfold maxLen; omega) rfl, Kept.push hr.top⟩
      · exact .inl rfl
    · exact .inl rfl
  · exact .inl rfl

end
end Go.Gx

namespace Go.Gx
open Go.Hk (TT TTok TyI Sh lk TyOk ShOk nth nth_eq)

/-- An order of keys, so that maps with the same entries are the same. -/
def keyLt (x y : G) : Bool := match x, y with
  | .int _ a, .int _ b => !intLe b a
  | .str la a, .str lb b => Nat.blt la lb || Nat.beq la lb && Nat.blt a b
  | .bool a, .bool b => !a && b
  | _, _ => false

noncomputable def kvIns {R : Type} (k v : G) (kv : List (G × G)) : (List (G × G) → R) → R :=
  List.rec (motive := fun _ => (List (G × G) → R) → R) (fun c => c [(k, v)])
    (fun p r ih c => Bool.rec (motive := fun _ => R) (ih fun l => c (p :: l)) (c ((k, v) :: p :: r)) (keyLt k p.1)) kv
noncomputable def kvSet {R : Type} (k v : G) (kv : List (G × G)) : (List (G × G) → R) → R :=
  List.rec (motive := fun _ => (List (G × G) → R) → R) (fun c => c [])
    (fun p r ih c => Option.rec (motive := fun _ => R) (ih fun l => c (p :: l)) (fun b => Bool.rec (motive := fun _ => R) (ih fun l => c (p :: l)) (c ((k, v) :: r)) b) (keyEq k p.1)) kv

def kvInsL (k v : G) : List (G × G) → List (G × G)
  | [] => [(k, v)]
  | p :: r => if keyLt k p.1 then (k, v) :: p :: r else p :: kvInsL k v r
def kvSetL (k v : G) : List (G × G) → List (G × G)
  | [] => []
  | p :: r => if keyEq k p.1 = some true then (k, v) :: r else p :: kvSetL k v r

theorem kvIns_eq {R : Type} (k v : G) : ∀ (kv : List (G × G)) (c : List (G × G) → R), kvIns k v kv c = c (kvInsL k v kv)
  | [], _ => rfl
  | p :: r, c => by
    show Bool.rec (motive := fun _ => R) (kvIns k v r fun l => c (p :: l)) (c ((k, v) :: p :: r)) (keyLt k p.1) = _
    rw [kvIns_eq k v r]
    cases h : keyLt k p.1 <;> simp [kvInsL, h]
theorem kvSet_eq {R : Type} (k v : G) : ∀ (kv : List (G × G)) (c : List (G × G) → R), kvSet k v kv c = c (kvSetL k v kv)
  | [], _ => rfl
  | p :: r, c => by
    show Option.rec (motive := fun _ => R) (kvSet k v r fun l => c (p :: l)) (fun b => Bool.rec (motive := fun _ => R) (kvSet k v r fun l => c (p :: l)) (c ((k, v) :: r)) b) (keyEq k p.1) = _
    rw [kvSet_eq k v r]
    cases h : keyEq k p.1 with
    | none => simp [kvSetL, h]
    | some b => cases b <;> simp [kvSetL, h]

theorem kvInsL_split (k v : G) : ∀ kv : List (G × G), ∃ A C, kv = A ++ C ∧ kvInsL k v kv = A ++ (k, v) :: C
  | [] => ⟨[], [], rfl, rfl⟩
  | p :: r => by
    by_cases h : keyLt k p.1 = true
    · exact ⟨[], p :: r, rfl, by simp [kvInsL, h]⟩
    · obtain ⟨A, C, h1, h2⟩ := kvInsL_split k v r
      exact ⟨p :: A, C, by rw [h1]; rfl, by simp [kvInsL, h, h2]⟩

theorem kvSetL_split {k v g : G} : ∀ {kv : List (G × G)}, (k, g) ∈ kv → (kv.map (·.1)).Nodup → keyEq k k = some true → ∃ A C, kv = A ++ (k, g) :: C ∧ kvSetL k v kv = A ++ (k, v) :: C
  | [], h, _, _ => by simp at h
  | p :: r, h, hn, hk => by
    by_cases he : keyEq k p.1 = some true
    · have := keyEq_true he
      have hp : p = (k, g) := by
        rcases List.mem_cons.1 h with e | e
        · exact e.symm
        · simp only [List.map_cons, List.nodup_cons] at hn
          exact absurd (List.mem_map.2 ⟨_, e, this⟩) hn.1
      subst hp
      exact ⟨[], r, rfl, by simp [kvSetL, hk]⟩
    · rcases List.mem_cons.1 h with e | e
      · subst e; exact absurd hk he
      · simp only [List.map_cons, List.nodup_cons] at hn
        obtain ⟨A, C, h1, h2⟩ := kvSetL_split (v := v) e hn.2 hk
        exact ⟨p :: A, C, by rw [h1]; rfl, by simp [kvSetL, he, h2]⟩

def shDesc : Sh → TypeDesc
  | .int k => .int k
  | .str => .string
  | _ => .bool

section
variable {P : Program} {w : World} {tt : TT} {eqs : List Nat} {ρ : Rho} {B : Bl} {h h' : GH} {s : S} {a : Act} {g : G}

theorem keyEq_refl {k : G} {sh : Sh} (h : keySh k sh = true) : keyEq k k = some true := by
  cases k <;> cases sh <;> simp only [keySh, reduceCtorEq] at h <;> simp [keyEq, kEq, intEq_eq]

theorem scalar_rep {k : G} {sh : Sh} (h : keySh k sh = true) {v v' : Value} (h1 : RepG ρ v k) (h2 : RepG ρ v' k) : v = v' := by
  cases k <;> cases sh <;> simp only [keySh, reduceCtorEq] at h
  · rw [h1.boolInv, h2.boolInv]
  · rw [h1.intInv, h2.intInv]
  · obtain ⟨s, rfl, e1, e2⟩ := h1.strInv
    obtain ⟨s', rfl, e1', e2'⟩ := h2.strInv
    have := pk_inj (a := s.data.toList) (b := s'.data.toList) (by rw [size_length, size_length, e1, e1']) (by rw [e2, e2'])
    rw [ByteArray.ext (Array.toList_inj.1 this)]

theorem sameBits_self {k : G} {sh : Sh} (h : keySh k sh = true) {v : Value} (h1 : RepG ρ v k) (n : Nat) : Instr.sameBits (n + 1) v v = true := by
  cases k <;> cases sh <;> simp only [keySh, reduceCtorEq] at h
  · rw [h1.boolInv]; simp [Instr.sameBits]
  · rw [h1.intInv]; simp [Instr.sameBits]
  · obtain ⟨s, rfl, _⟩ := h1.strInv
    simp [Instr.sameBits, beq_toListBytes]

noncomputable def mkMapG {R : Type} (h : GH) (k : G → GH → R) (f : R) : R := nw h (.map 0 []) (fun b h' => k (.map b) h') f

theorem mkMapG_ok {R : Type} {o : Oper} {t : TypeId} (ho : o.op = .makeMap t none) (k : G → GH → R) (f : R) :
    mkMapG h k f = f ∨ ∃ g h', mkMapG h k f = k g h' ∧ Eff P B o s h g h' := by
  unfold mkMapG
  rw [nw_eq]
  cases hp : h.push? (.map 0 []) with
  | none => exact .inl rfl
  | some h' =>
    refine .inr ⟨_, h', rfl, fun ρ w a hr hs => ?_⟩
    have hrun : (execOp a.eval o).run P w = .ok (.value (.map (some w.heap.size))) { w with heap := w.heap.push (.map #[] 0) } := by
      simp [execOp, ho, Instr.makeMap, newObj, Sem.run]
    refine ⟨_, _, ρ.add h.size (w.heap.size, 0), .inl hrun, hr.push hp ?_, hr.le_add _, .map _ w.heap.size 0 (by simp [Rho.add]), Kept.push hr.top⟩
    exact ⟨#[], 0, heap_push _, ⟨[], by simp, rfl, by simp⟩, by simp, by simp, by simp, by simp⟩

noncomputable def mapSetG {R : Type} (tt : TT) (t : TypeId) (m k x : G) (h : GH) (c : G → GH → R) (f : R) : R := match m with
  | .map b => match lk tt t with
    | some { sh := .map kt _, .. } => match lk tt kt, h.get b with
      | some ki, .map ver kv => match keySh k ki.sh, kvFind k kv with
        | true, some (some _) => kvSet k x kv fun l => wr h b (.map (Nat.succ ver) l) (fun h' => c .undef h') f
        | true, some none => match Nat.ble kv.length 1000000 with
          | true => kvIns k x kv fun l => wr h b (.map (Nat.succ ver) l) (fun h' => c .undef h') f
          | false => f
        | _, _ => f
      | _, _ => f
    | _ => f
  | _ => f

theorem nodup_idx {α : Type} : ∀ {l : List α}, l.Nodup → ∀ {i j : Nat} {x : α}, l[i]? = some x → l[j]? = some x → i = j
  | [], _, i, j, x, h, _ => by simp at h
  | y :: l, hn, i, j, x, hi, hj => by
    obtain ⟨h1, h2⟩ := List.nodup_cons.1 hn
    cases i with
    | zero =>
      cases j with
      | zero => rfl
      | succ j =>
        simp at hi hj
        subst hi
        exact absurd (List.mem_of_getElem? hj) h1
    | succ i =>
      cases j with
      | zero =>
        simp at hi hj
        subst hj
        exact absurd (List.mem_of_getElem? hi) h1
      | succ j =>
        simp at hi hj
        rw [nodup_idx h2 hi hj]

/-- The value of one entry is changed. -/
theorem KvRep.set {es : List MapEntry} {kv : List (G × G)} {k v g0 : G} {vk vv : Value} {j : Nat} {e : MapEntry} {sh : Sh} (hkv : KvRep ρ es kv) (hn : (kv.map (·.1)).Nodup) (hb : (es.map (·.born)).Nodup) (hs : keySh k sh = true)
    (hk : RepG ρ vk k) (hv : RepG ρ vv v) (hj : es[j]? = some e) (he : RepG ρ e.key k) (hmem : (k, g0) ∈ kv) (hall : ∀ p ∈ kv, ∃ b, keyEq k p.1 = some b) :
    KvRep ρ (es.modify j fun e => { e with key := vk, val := vv }) (kvSetL k v kv) ∧ ((kvSetL k v kv).map (·.1)) = kv.map (·.1) := by
  obtain ⟨A, C, h1, h2⟩ := kvSetL_split (v := v) hmem hn (keyEq_refl hs)
  refine ⟨?_, by rw [h2, h1]; simp⟩
  obtain ⟨l, hp, hl, hr⟩ := hkv
  -- the entry of l in the place of the pair
  have hiA : kv[A.length]? = some (k, g0) := by rw [h1]; simp
  have hlt : A.length < l.length := by rw [hl]; exact (List.getElem?_eq_some_iff.1 hiA).1
  have hle : l[A.length]? = some l[A.length] := List.getElem?_eq_getElem hlt
  have hle2 := hr A.length _ _ hle hiA
  -- it is e
  have hee : l[A.length] = e := by
    have hm1 : l[A.length] ∈ es := hp.mem_iff.1 (List.getElem_mem _)
    have hm2 : e ∈ es := List.mem_of_getElem? hj
    obtain ⟨i, hi⟩ := List.getElem?_of_mem (hp.mem_iff.2 hm2)
    have hilt : i < kv.length := by rw [← hl]; exact (List.getElem?_eq_some_iff.1 hi).1
    have hki : kv[i]? = some kv[i] := List.getElem?_eq_getElem hilt
    have q := hr i e _ hi hki
    have hkey : kv[i].1 = k := by
      obtain ⟨b, hb'⟩ := hall kv[i] (List.getElem_mem _)
      have hsame : Instr.sameNow (shDesc sh) vk e.key = some b := sameNow_ok hk q.1 hb' hs (by cases sh <;> simp_all [descOf, keySh, shDesc])
      have hsame2 : Instr.sameNow (shDesc sh) vk e.key = some true := sameNow_ok hk he (keyEq_refl hs) hs (by cases sh <;> simp_all [descOf, keySh, shDesc])
      rw [hsame] at hsame2; cases hsame2
      exact (keyEq_true hb').symm
    have hidx : i = A.length := nodup_idx hn (x := k) (by rw [List.getElem?_map, hki, Option.map_some, hkey]) (by rw [List.getElem?_map, hiA]; rfl)
    subst hidx
    rw [hle] at hi; exact Option.some.inj hi
  let F : MapEntry → MapEntry := fun x => if x.born = e.born then { x with key := vk, val := vv } else x
  have hmod : es.modify j (fun e => { e with key := vk, val := vv }) = es.map F := by
    apply List.ext_getElem?
    intro i
    rw [List.getElem?_modify, List.getElem?_map]
    cases hi : es[i]? with
    | none => simp
    | some x =>
      by_cases hij : j = i
      · subst hij
        rw [hj] at hi; cases hi
        simp [F]
      · have : x.born ≠ e.born := fun hbe => hij (nodup_idx hb (x := e.born) (by rw [List.getElem?_map, hj]; rfl) (by rw [List.getElem?_map, hi, Option.map_some, hbe]))
        simp [F, this, hij]
  rw [hmod]
  refine ⟨l.map F, hp.map F, by rw [List.length_map, hl, h2, h1]; simp, fun i x p hx hp' => ?_⟩
  rw [List.getElem?_map, Option.map_eq_some_iff] at hx
  obtain ⟨y, hy, rfl⟩ := hx
  by_cases hi : i = A.length
  · subst hi
    rw [hle] at hy; cases hy
    rw [h2] at hp'
    simp at hp'
    subst hp'
    simp only [F, hee, if_true]
    exact ⟨hk, hv⟩
  · have hpk : kv[i]? = some p := by
      rw [h2] at hp'
      rw [h1]
      by_cases hlt2 : i < A.length
      · rw [List.getElem?_append_left hlt2] at hp' ⊢; exact hp'
      · rw [List.getElem?_append_right (by omega)] at hp' ⊢
        obtain ⟨m, hm⟩ : ∃ m, i - A.length = m + 1 := ⟨i - A.length - 1, by omega⟩
        rw [hm] at hp' ⊢
        simpa using hp'
    have q := hr i y p hy hpk
    have hne : y.born ≠ e.born := fun hbe => by
      have hb' : (l.map (·.born)).Nodup := (hp.map (·.born)).nodup_iff.2 hb
      rw [hee] at hle
      exact hi (nodup_idx hb' (x := e.born) (by rw [List.getElem?_map, hy, Option.map_some, hbe]) (by rw [List.getElem?_map, hle]; rfl))
    simp only [F, hne, if_false]
    exact q

/-- A new entry. -/
theorem KvRep.ins {es : List MapEntry} {kv : List (G × G)} {k v : G} {e : MapEntry} (hkv : KvRep ρ es kv) (hk : RepG ρ e.key k) (hv : RepG ρ e.val v) : KvRep ρ (es ++ [e]) (kvInsL k v kv) := by
  obtain ⟨A, C, h1, h2⟩ := kvInsL_split k v kv
  obtain ⟨l, hp, hl, hr⟩ := hkv
  have hlen : l.length = A.length + C.length := by rw [hl, h1]; simp
  refine ⟨l.take A.length ++ e :: l.drop A.length, ?_, by rw [h2]; simp; omega, fun i x p hx hp' => ?_⟩
  · have : (l.take A.length ++ e :: l.drop A.length).Perm (l ++ [e]) := by
      have h3 := (List.perm_middle (a := e) (l₁ := l.take A.length) (l₂ := l.drop A.length))
      rw [List.take_append_drop] at h3
      exact h3.trans (List.perm_append_singleton e l).symm
    exact this.trans (hp.append_right [e])
  · rw [h2] at hp'
    have hA : (l.take A.length).length = A.length := by simp; omega
    by_cases hi : i < A.length
    · rw [List.getElem?_append_left (by omega), List.getElem?_take, if_pos hi] at hx
      rw [List.getElem?_append_left hi] at hp'
      exact hr i x p hx (by rw [h1, List.getElem?_append_left hi]; exact hp')
    · rw [List.getElem?_append_right (by omega), hA] at hx
      rw [List.getElem?_append_right (by omega)] at hp'
      cases hm : i - A.length with
      | zero =>
        rw [hm] at hx hp'
        simp at hx hp'
        subst hx; subst hp'
        exact ⟨hk, hv⟩
      | succ m =>
        rw [hm] at hx hp'
        simp at hx hp'
        exact hr (A.length + m) x p hx (by rw [h1, List.getElem?_append_right (by omega), Nat.add_sub_cancel_left]; exact hp')

theorem kvInsL_keys {k v : G} {kv : List (G × G)} (hn : (kv.map (·.1)).Nodup) (hk : k ∉ kv.map (·.1)) : ((kvInsL k v kv).map (·.1)).Nodup ∧ (kvInsL k v kv).length = kv.length + 1 := by
  obtain ⟨A, C, h1, h2⟩ := kvInsL_split k v kv
  rw [h2]
  subst h1
  refine ⟨?_, by simp; omega⟩
  simp only [List.map_append, List.map_cons] at hn hk ⊢
  rw [List.perm_middle.nodup_iff]
  exact List.nodup_cons.2 ⟨hk, hn⟩

theorem mapSetG_ok {R : Type} (hc : Ctx P tt eqs) {o : Oper} {t : TypeId} {m k x : Operand} (ho : o.op = .mapUpdate t m k x ∨ o.op = .insert t m k x) (c : G → GH → R) (f : R) :
    mapSetG tt t (evA m s) (evA k s) (evA x s) h c f = f ∨ ∃ g h', mapSetG tt t (evA m s) (evA k s) (evA x s) h c f = c g h' ∧ Eff P B o s h g h' := by
  have hex : ∀ (a : Act), execOp a.eval o = (do Instr.mapUpdate t (a.eval m) (a.eval k) (a.eval x); pure .skip) := fun a => by
    rcases ho with ho | ho <;> simp [execOp, ho]
  unfold mapSetG
  split
  · rename_i b hm
    split
    · rename_i kt et _ _ _ _ hl
      have hu : P.underlying t = some (.map kt et) := (hc.ty t _ hl).sh
      split
      · rename_i ki ver kv hki hb
        split
        · rename_i v0 hks hf
          rw [kvSet_eq, wr_eq]
          cases hw : h.set? b (.map (Nat.succ ver) (kvSetL (evA k s) (evA x s) kv)) with
          | none => exact .inl rfl
          | some h' =>
            refine .inr ⟨_, h', rfl, fun ρ w a hr hs => ?_⟩
            have hmr := evA_rep hs m
            rw [hm] at hmr
            obtain ⟨r, z, hρ⟩ := hmr.mapρ
            have hrep := hr.atρ hb rfl hρ
            obtain ⟨es, clock, e1, e2, e3, e4, e5, e6⟩ := hrep
            have hmv : a.eval m = .map (some r) := by
              generalize a.eval m = vm at hmr
              cases hmr with
              | map _ r' z' h' => rw [hρ] at h'; cases h'; rfl
            have hck := checkKey_ok (P := P) (w := w) (hc.ty kt ki hki) hks false 9999 (a.eval k)
            rcases find_ok (w := w) (hc.ty kt ki hki) (evA_rep hs k) hks e2 e3 hf with ⟨q, _⟩ | ⟨g', j, e, q1, q2, q3, q4, q5, q6⟩
            · cases q
            · cases q1
              have hkey : e.key = a.eval k := scalar_rep hks q4 (evA_rep hs k)
              have hjl : j < es.size := by have := (List.getElem?_eq_some_iff.1 q3).1; simpa using this
              have hej : es[j]? = some e := by rw [← Array.getElem?_toList]; exact q3
              have hsb : Instr.sameBits 10000 e.key (a.eval k) = true := by rw [hkey]; exact sameBits_self hks (evA_rep hs k) 9999
              obtain ⟨s1, s2⟩ := e2.set e3 e6 hks (evA_rep hs k) (evA_rep hs x) q3 q4 q6 (kvFind_all hf)
              have hmodl : (es.modify j fun e => { e with key := a.eval k, val := a.eval x }).toList = es.toList.modify j (fun e => { e with key := a.eval k, val := a.eval x }) := by simp
              have hrun : (execOp a.eval o).run P w = .ok .skip { w with heap := w.heap.setIfInBounds r (.map (es.modify j fun e => { e with key := a.eval k, val := a.eval x }) clock) } := by
                rw [hex]
                simp [Instr.mapUpdate, hmv, run_underlying hu, getObj, setObj, Sem.run, e1, hck, q2, hej, Instr.keyThatStays, hsb]
              refine ⟨_, _, ρ, .inr ⟨hrun, rfl⟩, ?_, Rho.le_refl ρ, .undef _, Kept.write (hr.lo _ _ _ hρ).1⟩
              have hborn : ∀ e', e' ∈ es.toList.modify j (fun e => { e with key := a.eval k, val := a.eval x }) → ∃ e0 ∈ es.toList, e'.born = e0.born := by
                intro e' he'
                obtain ⟨i, hi⟩ := List.getElem?_of_mem he'
                rw [List.getElem?_modify] at hi
                cases hi2 : es.toList[i]? with
                | none => rw [hi2] at hi; simp at hi
                | some e0 =>
                  rw [hi2] at hi
                  simp only [Option.map_eq_map, Option.map_some, Option.some.injEq] at hi
                  refine ⟨e0, List.mem_of_getElem? hi2, ?_⟩
                  rw [← hi]; split <;> rfl
              have hborns : (es.toList.modify j (fun e => { e with key := a.eval k, val := a.eval x })).map (·.born) = es.toList.map (·.born) := by
                apply List.ext_getElem?
                intro i
                rw [List.getElem?_map, List.getElem?_map, List.getElem?_modify]
                cases es.toList[i]? with
                | none => simp
                | some e0 => simp only [Option.map_eq_map, Option.map_some, Option.some.injEq]; split <;> rfl
              have hx : BRep ρ h' { w with heap := w.heap.setIfInBounds r (.map (es.modify j fun e => { e with key := a.eval k, val := a.eval x }) clock) } r z (.map (Nat.succ ver) (kvSetL (evA k s) (evA x s) kv)) := by
                refine ⟨_, clock, by have := (Array.getElem?_eq_some_iff.1 e1).1; simp [this]; rfl, by rw [hmodl]; exact s1, by rw [s2]; exact e3, ?_, ?_, by rw [hmodl, hborns]; exact e6⟩
                · have := congrArg List.length s2; simp only [List.length_map] at this; omega
                · rw [hmodl]
                  intro e' he'
                  obtain ⟨e0, h0, hb0⟩ := hborn e' he'
                  rw [hb0]; exact e5 e0 h0
              exact hr.write hw (by rw [hb]; rfl) hρ hx (fun v kv' hx' => by cases hx'; exact ⟨ver, kv, hb, Nat.lt_succ_self _⟩)
        · rename_i hks hf
          split
          · rename_i hlen
            rw [Nat.ble_eq] at hlen
            rw [kvIns_eq, wr_eq]
            cases hw : h.set? b (.map (Nat.succ ver) (kvInsL (evA k s) (evA x s) kv)) with
            | none => exact .inl rfl
            | some h' =>
              refine .inr ⟨_, h', rfl, fun ρ w a hr hs => ?_⟩
              have hmr := evA_rep hs m
              rw [hm] at hmr
              obtain ⟨r, z, hρ⟩ := hmr.mapρ
              have hrep := hr.atρ hb rfl hρ
              obtain ⟨es, clock, e1, e2, e3, e4, e5, e6⟩ := hrep
              have hmv : a.eval m = .map (some r) := by
                generalize a.eval m = vm at hmr
                cases hmr with
                | map _ r' z' h' => rw [hρ] at h'; cases h'; rfl
              have hck := checkKey_ok (P := P) (w := w) (hc.ty kt ki hki) hks false 9999 (a.eval k)
              rcases find_ok (w := w) (hc.ty kt ki hki) (evA_rep hs k) hks e2 e3 hf with ⟨_, q2, q3⟩ | ⟨g', j, e, q1, _⟩
              · have hrun : (execOp a.eval o).run P w = .ok .skip { w with heap := w.heap.setIfInBounds r (.map (es.push { key := a.eval k, val := a.eval x, born := clock }) (clock + 1)) } := by
                  rw [hex]
                  simp [Instr.mapUpdate, hmv, run_underlying hu, getObj, setObj, Sem.run, e1, hck, q2]
                have hkn : evA k s ∉ kv.map (·.1) := fun hmem => by
                  obtain ⟨p, hp, he⟩ := List.mem_map.1 hmem
                  have := q3 p hp
                  rw [he, keyEq_refl hks] at this; cases this
                obtain ⟨n1, n2⟩ := kvInsL_keys (v := evA x s) e3 hkn
                refine ⟨_, _, ρ, .inr ⟨hrun, rfl⟩, ?_, Rho.le_refl ρ, .undef _, Kept.write (hr.lo _ _ _ hρ).1⟩
                have hins := e2.ins (e := { key := a.eval k, val := a.eval x, born := clock }) (evA_rep hs k) (evA_rep hs x)
                refine hr.write hw (by rw [hb]; rfl) hρ ⟨_, clock + 1, by have := (Array.getElem?_eq_some_iff.1 e1).1; simp [this]; rfl, by rw [Array.toList_push]; exact hins, n1, by rw [n2]; unfold maxLen; omega, ?_, ?_⟩ (fun v kv' hx' => by cases hx'; exact ⟨ver, kv, hb, Nat.lt_succ_self _⟩)
                · intro e he
                  rw [Array.toList_push] at he
                  rcases List.mem_append.1 he with he | he
                  · have := e5 e he; omega
                  · simp at he; subst he; simp
                · rw [Array.toList_push, List.map_append]
                  refine List.nodup_append.2 ⟨e6, by simp, ?_⟩
                  intro x hx y hy
                  simp at hy
                  obtain ⟨e, he, rfl⟩ := List.mem_map.1 hx
                  have := e5 e he
                  omega
              · cases q1
          · exact .inl rfl
        · exact .inl rfl
      · exact .inl rfl
    · exact .inl rfl
  · exact .inl rfl

end
end Go.Gx
