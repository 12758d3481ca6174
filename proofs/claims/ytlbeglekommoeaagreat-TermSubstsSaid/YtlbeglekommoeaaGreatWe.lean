/- Maps that are gone through, in an order that is drawn. (And what it stands on.) -/
import Derived.Test.YtlbeglekommoeaaGreatWd
import Derived.Test.YtlbeglekommoeaaGreatWc
import Derived.Laws.MakeOwn
import Derived.Shelf.SortM.Plain
import Derived.Shelf.SortM.SortNone
import Derived.Ground.SlgmProg
import Derived.Test.YtlbeglekommoeaaGreatProg
import Derived.Sort.MapsRangeIn
import Derived.Sort.KeysCollected
import Derived.Sort.OwnSorted
import Derived.Maps.AppendAt
import Derived.WalkKit
import Derived.OwnWalkIn
import Derived.TacticsInMore
import Derived.RegionIn
import Derived.LoopNIn
import Derived.LoopIn
import Derived.Maps.RangeRun
set_option linter.unusedSimpArgs false
set_option linter.unusedVariables false

/- Patterns that are zb6: what they stand for when the name at a place is another one. -/
namespace Go.Hk
open Go.Proofs
mutual
def zd2 : Ty → Nat → Str → Ty
  | .mk s n y ps, j, x => if s = 2 then (match j with | 0 => .mk s n x ps | j + 1 => .mk s n y (zeg ps j x)) else .mk s n y (zeg ps j x)
def zeg : List Ty → Nat → Str → List Ty
  | [], _, _ => []
  | t :: r, j, x => if j < (zcw t).length then zd2 t j x :: r else t :: zeg r (j - (zcw t).length) x
end
mutual
theorem zj3 : ∀ (a : An) (t : Ty), okP a → vA a = zb2 t → (ppaths a).length = (zcw t).length
  | .im _ _ _, _, h, _ => h.elim
  | .mk s o n x v ks u ps, .mk s' n' x' qs, hok, hv => by
    obtain ⟨rfl, _, _, hks⟩ := hok
    simp only [vA, zb2, List.cons.injEq, V.sl.injEq, V.int.injEq, true_and] at hv
    obtain ⟨rfl, _, _, he, _⟩ := hv
    have := zql ks qs 0 hks he
    simp only [ppaths, zcw, List.length_append, this]
    by_cases h : o = 2 <;> simp [h]
theorem zql : ∀ (l : List An) (ts : List Ty) (i : Nat), ybz l → vAs l = zcf ts → (ppaths.ppathss i l).length = (zbp ts).length
  | [], [], _, _, _ => rfl
  | [], _ :: _, _, _, h => by simp [vAs, zcf] at h
  | _ :: _, [], _, _, h => by simp [vAs, zcf] at h
  | a :: r, t :: q, i, hok, h => by
    simp only [vAs, zcf, List.cons.injEq] at h
    simp only [ppaths.ppathss, zbp, List.length_append, List.length_map, zj3 a t hok.1 h.1, zql r q (i + 1) hok.2 h.2]
end
mutual
theorem yl5 : ∀ (a : An) (t : Ty), okP a → vA a = zb2 t → ∀ (j : Nat) (p : zmx) (x : Str), (ppaths a)[j]? = some p → ∀ (b off : Nat) (a' : An) (b' off' : Nat), zen a b off p = some (a', b', off') → vA (zm8 a p (yf1 a' x)) = zb2 (zd2 t j x)
  | .im _ _ _, _, h, _, _, _, _, _, _, _, _, _, _, _ => h.elim
  | .mk s o n y v ks u ps, .mk s' n' y' qs, hok, hv, j, p, x, hp, b, off, a', b', off', hl => by
    obtain ⟨rfl, _, _, hks⟩ := hok
    have hv0 := hv
    simp only [vA, zb2, List.cons.injEq, V.sl.injEq, V.int.injEq, V.str.injEq, true_and] at hv
    obtain ⟨rfl, rfl, rfl, he, _⟩ := hv
    have deep : ∀ j, (ppaths.ppathss 0 ks)[j]? = some p → vA (zm8 (.mk false o n y v ks u ps) p (yf1 a' x)) = zb2 (.mk o n y (zeg qs j x)) := fun j hj => by
      obtain ⟨k, c, r, rfl, hc, hset⟩ := ygy ks qs 0 hks he j p x hj
      simp only [zen, zfi, Nat.zero_add, hc, Option.map_some] at hl
      have := hset _ _ _ _ _ hl
      simp only [zm8, zfi, Nat.zero_add, hc, Option.map_some, zxe, vA, zb2, this]
    simp only [ppaths] at hp
    by_cases ho : o = 2
    · rw [if_pos ho] at hp
      cases j with
      | zero =>
        simp at hp; subst hp
        simp only [zen, Option.some.injEq, Prod.mk.injEq] at hl
        obtain ⟨rfl, _, _⟩ := hl
        simp [zd2, ho, zm8, yf1, vA, zb2, he]
      | succ j =>
        simp only [List.singleton_append, List.getElem?_cons_succ] at hp
        rw [deep j hp]
        simp [zd2, ho]
    · rw [if_neg ho] at hp
      rw [deep j hp]
      simp [zd2, ho]
theorem ygy : ∀ (l : List An) (ts : List Ty) (i : Nat), ybz l → vAs l = zcf ts → ∀ (j : Nat) (p : zmx) (x : Str), (ppaths.ppathss i l)[j]? = some p → ∃ k c r, p = (false, i + k) :: r ∧ l[k]? = some c ∧
    ∀ (b off : Nat) (c' : An) (b' off' : Nat), zen c b off r = some (c', b', off') → vAs (l.set k (zm8 c r (yf1 c' x))) = zcf (zeg ts j x)
  | [], _, _, _, _, _, _, _, h => by simp [ppaths.ppathss] at h
  | _ :: _, [], _, _, h, _, _, _, _ => by simp [vAs, zcf] at h
  | a :: r, t :: q, i, hok, h, j, p, x, hp => by
    simp only [vAs, zcf, List.cons.injEq] at h
    have hlen := zj3 a t hok.1 h.1
    simp only [ppaths.ppathss] at hp
    by_cases hj : j < (ppaths a).length
    · rw [List.getElem?_append_left (by simpa using hj), List.getElem?_map] at hp
      obtain ⟨p', hp', rfl⟩ := Option.map_eq_some_iff.1 hp
      refine ⟨0, a, p', rfl, rfl, fun b off c' b' off' hl => ?_⟩
      have := yl5 a t hok.1 h.1 j p' x hp' b off c' b' off' hl
      simp only [List.set_cons_zero, vAs, zeg, if_pos (hlen ▸ hj), zcf, this, h.2]
    · rw [List.getElem?_append_right (by simp; omega)] at hp
      simp only [List.length_map] at hp
      obtain ⟨k, c, r', rfl, hc, hset⟩ := ygy r q (i + 1) hok.2 h.2 _ p x hp
      refine ⟨k + 1, c, r', by rw [show i + (k + 1) = i + 1 + k by omega], by simpa using hc, fun b off c' b' off' hl => ?_⟩
      have := hset b off c' b' off' hl
      simp only [List.set_cons_succ, vAs, zeg, h.1, ← hlen, this, if_neg hj, zcf]
end
end Go.Hk

/- Terms that are zb6 by address, whatever their texts: what is known of the tree is the term; the places of the names that it binds. -/
namespace Go.Hk
open Go.Proofs
mutual
def er : An → An
  | .mk s o n _ v ks u ps => .mk s o n [] v (ers ks) u (ers ps)
  | .im s _ _ => .im s [] []
def ers : List An → List An
  | [] => []
  | a :: r => er a :: ers r
end
theorem zil : ∀ l : List An, ers l = l.map er
  | [] => rfl
  | a :: r => by simp [ers, zil r]
theorem ze1 (l : List An) : (ers l).length = l.length := by rw [zil]; simp
theorem zld {l : List An} {i : Nat} {a : An} (h : l[i]? = some a) : (ers l)[i]? = some (er a) := by rw [zil, List.getElem?_map, h]; rfl
theorem ynt {l : List An} {i : Nat} {c : An} (h : (ers l)[i]? = some c) : ∃ a, l[i]? = some a ∧ er a = c := by
  rw [zil, List.getElem?_map] at h
  exact Option.map_eq_some_iff.1 h
mutual
theorem okP_er : ∀ a : An, okP (er a) ↔ okP a
  | .im _ _ _ => Iff.rfl
  | .mk s o n x v ks u ps => by
    have h : ers ks = [] ↔ ks = [] := by cases ks <;> simp [ers]
    simp only [er, okP, zl6 ks, ze1, h]
theorem zl6 : ∀ l : List An, ybz (ers l) ↔ ybz l
  | [] => Iff.rfl
  | a :: r => by simp only [ers, ybz, okP_er a, zl6 r]
end
mutual
theorem zj8 : ∀ a : An, zjk (er a) ↔ zjk a
  | .im _ _ _ => Iff.rfl
  | .mk s o n x v ks u ps => by simp only [er, zjk, ze0 ks, ze0 ps]
theorem ze0 : ∀ l : List An, zc1 (ers l) ↔ zc1 l
  | [] => Iff.rfl
  | a :: r => by simp only [ers, zc1, zj8 a, ze0 r]
end
mutual
theorem zxu : ∀ a : An, ppaths (er a) = ppaths a
  | .im _ _ _ => rfl
  | .mk s o n x v ks u ps => by simp only [er, ppaths, zqm ks 0]
theorem zqm : ∀ (l : List An) (i : Nat), ppaths.ppathss i (ers l) = ppaths.ppathss i l
  | [], _ => rfl
  | a :: r, i => by simp only [ers, ppaths.ppathss, zxu a, zqm r (i + 1)]
end
mutual
theorem yfz {I : Imm} {w : World} : ∀ (a : An) (b off : Nat), skW I w (er a) b off ↔ skW I w a b off
  | .im _ _ _, _, _ => Iff.rfl
  | .mk s o n x v ks u ps, b, off => by simp only [er, skW, ybk ks]
theorem ybk {I : Imm} {w : World} : ∀ (l : List An) (b i : Nat), ymv I w b i (ers l) ↔ ymv I w b i l
  | [], _, _ => Iff.rfl
  | a :: r, b, i => by simp only [ers, ymv, yfz a, ybk r]
end
mutual
theorem zza : ∀ a : An, anB (er a) = anB a
  | .im _ _ _ => rfl
  | .mk s o n x v ks u ps => by
    have h1 := zwc ks
    have h2 := zwc ps
    cases s <;> simp [er, anB, h1, h2, ze1]
theorem zwc : ∀ l : List An, zd4 (ers l) = zd4 l
  | [] => rfl
  | a :: r => by simp only [ers, zd4, zza a, zwc r]
end
theorem yng (a : An) (p : Bool × Nat) : zfi (er a) p = (zfi a p).map fun r => (er r.1, r.2.1, r.2.2) := by
  rcases a with ⟨s, o, n, x, v, ks, u, ps⟩ | ⟨s0, cs0, c0⟩
  case im => rfl
  obtain ⟨r, k⟩ := p
  cases r with
  | false =>
    simp only [er, zfi, zil, List.getElem?_map]
    cases ks[k]? <;> rfl
  | true =>
    cases s with
    | false => rfl
    | true =>
      simp only [er, zfi, zil, List.getElem?_map]
      cases ps[k]? <;> rfl
theorem zjc : ∀ (p : zmx) (a : An) (b off : Nat), zen (er a) b off p = (zen a b off p).map fun r => (er r.1, r.2.1, r.2.2)
  | [], a, b, off => rfl
  | q :: r, a, b, off => by
    simp only [zen, yng]
    cases zfi a q with
    | none => rfl
    | some y => exact zjc r y.1 y.2.1 y.2.2
theorem yij (a c d : An) (p : Bool × Nat) (b off : Nat) (h : zfi a p = some (c, b, off)) (hd : er d = er c) : er (zxe a p d) = er a := by
  have st : ∀ {l : List An} {k : Nat}, l[k]? = some c → ers (l.set k d) = ers l := by
    intro l k hk
    rw [zil, zil, List.map_set, hd]
    apply List.ext_getElem?
    intro i
    rw [List.getElem?_set]
    split
    · rename_i e; subst e
      rw [List.getElem?_map, hk]; simp
      exact (List.getElem?_eq_some_iff.1 hk).1
    · rfl
  rcases a with ⟨s, o, n, x, v, ks, u, ps⟩ | ⟨s0, cs0, c0⟩
  case im => simp [zfi] at h
  obtain ⟨r, k⟩ := p
  cases r with
  | false =>
    simp only [zfi, Option.map_eq_some_iff, Prod.mk.injEq] at h
    obtain ⟨c', hc, rfl, _, _⟩ := h
    simp only [zxe, er, st hc]
  | true =>
    cases s with
    | true =>
      simp only [zfi, Option.map_eq_some_iff, Prod.mk.injEq] at h
      obtain ⟨c', hc, rfl, _, _⟩ := h
      simp only [zxe, er, st hc]
    | false => simp [zfi] at h
theorem zro : ∀ (p : zmx) (a : An) (b off : Nat) (a' : An) (b' off' : Nat) (a2 : An), zen a b off p = some (a', b', off') → er a2 = er a' → er (zm8 a p a2) = er a
  | [], a, b, off, a', b', off', a2, h, hs => by
    simp only [zen, Option.some.injEq, Prod.mk.injEq] at h
    obtain ⟨rfl, _, _⟩ := h
    exact hs
  | q :: r, a, b, off, a', b', off', a2, h, hs => by
    simp only [zen] at h
    simp only [zm8]
    split at h
    · rename_i c b1 off1 hk
      exact yij a c _ q b1 off1 hk (zro r c b1 off1 a' b' off' a2 h hs)
    · cases h
mutual
theorem ymc : ∀ (a : An) (t : Ty), okP a → vA a = zb2 t → ∀ (j : Nat) (p : zmx), (ppaths a)[j]? = some p → ∀ (b off : Nat) (a' : An) (b' off' : Nat), zen a b off p = some (a', b', off') → ∃ s o n x v ks u ps, a' = .mk s o n x v ks u ps ∧ (za4 t)[j]? = some x
  | .im _ _ _, _, h, _, _, _, _, _, _, _, _, _, _ => h.elim
  | .mk s o n y v ks u ps, .mk s' n' y' qs, hok, hv, j, p, hp, b, off, a', b', off', hl => by
    obtain ⟨rfl, _, _, hks⟩ := hok
    simp only [vA, zb2, List.cons.injEq, V.sl.injEq, V.int.injEq, V.str.injEq, true_and] at hv
    obtain ⟨rfl, rfl, rfl, he, _⟩ := hv
    have deep : ∀ j, (ppaths.ppathss 0 ks)[j]? = some p → ∃ s o n x v ks u ps, a' = .mk s o n x v ks u ps ∧ ((zbp qs).map zgz)[j]? = some x := fun j hj => by
      obtain ⟨k, c, r, rfl, hc, hset⟩ := yh7 ks qs 0 hks he j p hj
      simp only [zen, zfi, Nat.zero_add, hc, Option.map_some] at hl
      exact hset _ _ _ _ _ hl
    simp only [ppaths] at hp
    simp only [za4, zcw]
    by_cases ho : o = 2
    · rw [if_pos ho] at hp
      have hb : (o == 2) = true := by simp [ho]
      simp only [ho, if_true, List.singleton_append, List.map_cons]
      cases j with
      | zero =>
        simp at hp; subst hp
        simp only [zen, Option.some.injEq, Prod.mk.injEq] at hl
        obtain ⟨rfl, _, _⟩ := hl
        exact ⟨_, _, _, _, _, _, _, _, rfl, by simp [zgz]⟩
      | succ j =>
        simp only [List.singleton_append, List.getElem?_cons_succ] at hp ⊢
        exact deep j hp
    · rw [if_neg ho] at hp
      simp only [ho, if_false, List.nil_append]
      exact deep j hp
theorem yh7 : ∀ (l : List An) (ts : List Ty) (i : Nat), ybz l → vAs l = zcf ts → ∀ (j : Nat) (p : zmx), (ppaths.ppathss i l)[j]? = some p → ∃ k c r, p = (false, i + k) :: r ∧ l[k]? = some c ∧
    ∀ (b off : Nat) (a' : An) (b' off' : Nat), zen c b off r = some (a', b', off') → ∃ s o n x v ks u ps, a' = .mk s o n x v ks u ps ∧ ((zbp ts).map zgz)[j]? = some x
  | [], _, _, _, _, _, _, h => by simp [ppaths.ppathss] at h
  | _ :: _, [], _, _, h, _, _, _ => by simp [vAs, zcf] at h
  | a :: r, t :: q, i, hok, h, j, p, hp => by
    simp only [vAs, zcf, List.cons.injEq] at h
    have hlen := zj3 a t hok.1 h.1
    simp only [ppaths.ppathss] at hp
    by_cases hj : j < (ppaths a).length
    · rw [List.getElem?_append_left (by simpa using hj), List.getElem?_map] at hp
      obtain ⟨p', hp', rfl⟩ := Option.map_eq_some_iff.1 hp
      refine ⟨0, a, p', rfl, rfl, fun b off a' b' off' hl => ?_⟩
      obtain ⟨s, o, n, x, v, ks, u, ps, h1, h2⟩ := ymc a t hok.1 h.1 j p' hp' b off a' b' off' hl
      refine ⟨s, o, n, x, v, ks, u, ps, h1, ?_⟩
      simp only [zbp, List.map_append]
      rw [List.getElem?_append_left (by simp; omega)]
      exact h2
    · rw [List.getElem?_append_right (by simp; omega)] at hp
      simp only [List.length_map] at hp
      obtain ⟨k, c, r', rfl, hc, hset⟩ := yh7 r q (i + 1) hok.2 h.2 _ p hp
      refine ⟨k + 1, c, r', by rw [show i + (k + 1) = i + 1 + k by omega], by simpa using hc, fun b off a' b' off' hl => ?_⟩
      obtain ⟨s, o, n, x, v, ks, u, ps, h1, h2⟩ := hset b off a' b' off' hl
      refine ⟨s, o, n, x, v, ks, u, ps, h1, ?_⟩
      simp only [zbp, List.map_append]
      rw [List.getElem?_append_right (by simp; omega)]
      simpa [← hlen] using h2
end
def bp : An → Int → List zmx
  | .mk _ o _ _ _ _ _ qs, i => bif zbo o i then [[]] else bif zb1 o i then (match qs[(i - 1).toNat]? with
    | some q => (ppaths q).map ((true, (i - 1).toNat) :: ·)
    | none => []) else []
  | .im _ _ _, _ => []
theorem zy5 (a : An) (i : Int) : bp (er a) i = bp a i := by
  rcases a with ⟨s, o, n, x, v, ks, u, ps⟩ | ⟨s0, cs0, c0⟩
  · simp only [er, bp, zil, List.getElem?_map]
    cases ps[(i - 1).toNat]? with
    | none => rfl
    | some q => simp [zxu]
  · rfl
def plD (b : Nat) (a : An) (p : zmx) : D := match zen a b 0 p with
  | some (_, b', off') => .raw (ptr b' (zdo off' 2))
  | none => .undef
def zdh : Tm → Int → Nat → Str → Tm
  | .mk op n y ks ps, i, j, x => if zbo op i then .mk op n x ks ps else if zb1 op i then (match ps[(i - 1).toNat]? with
    | some p => .mk op n y ks (ps.set (i - 1).toNat (zd2 p j x))
    | none => .mk op n y ks ps) else .mk op n y ks ps
def okQ : An → Prop
  | .mk s _ _ _ _ _ _ qs => s = true ∧ ybz qs
  | .im _ _ _ => False
theorem zhf (a : An) : okQ (er a) ↔ okQ a := by
  cases a with
  | mk s o n x v ks u ps => simp only [er, okQ, zl6]
  | im => exact Iff.rfl
theorem ycn {l : List Ty} {i : Nat} {c : Ty} : zcf (l.set i c) = (zcf l).set i (zb2 c) := by
  simp [zg3, List.map_set]
theorem zr2 {l : List Ty} {i : Nat} {c : Ty} (h : l[i]? = some c) : (zcf l)[i]? = some (zb2 c) := by simp [zg3, h]
theorem ztj {a : An} (hok : okP a) (b off : Nat) {j : Nat} {p : zmx} (h : (ppaths a)[j]? = some p) : ∃ a' b' off', zen a b off p = some (a', b', off') ∧ (ztm a b off)[j]? = some (.raw (ptr b' (zdo off' 2))) := by
  have hlt : j < (ztm a b off).length := by rw [zpg]; exact (List.getElem?_eq_some_iff.1 h).1
  obtain ⟨p', a', b', off', h1, h2, h3, _⟩ := yg5 a b off hok j _ (List.getElem?_eq_getElem hlt)
  rw [h] at h1; cases h1
  exact ⟨a', b', off', h2, by rw [List.getElem?_eq_getElem hlt, h3]⟩
theorem zsc {a : An} {t : Tm} (hok : okQ a) (hv : vA a = dTmc t) {i : Int} {j : Nat} {p : zmx} (hp : (bp a i)[j]? = some p) (b : Nat) :
    ∃ s o n x v ks u ps b' off', zen a b 0 p = some (.mk s o n x v ks u ps, b', off') ∧ (zad t i)[j]? = some x ∧ ∀ y, vA (zm8 a p (.mk s o n y v ks u ps)) = dTmc (zdh t i j y) := by
  rcases a with ⟨s, o, n, x, v, ks, u, qs⟩ | ⟨s0, cs0, c0⟩
  case im => exact hok.elim
  obtain ⟨op, tn, tx, tks, tps⟩ := t
  obtain ⟨rfl, hq⟩ := hok
  have hv0 := hv
  simp only [vA, dTmc, List.cons.injEq, V.int.injEq, V.str.injEq, V.sl.injEq, true_and, and_true] at hv
  obtain ⟨rfl, rfl, rfl, e1, e2⟩ := hv
  simp only [bp] at hp
  cases h1 : zbo o i with
  | true =>
    simp only [h1, cond_true] at hp
    cases j with
    | succ j => simp at hp
    | zero =>
      simp at hp; subst hp
      exact ⟨_, _, _, _, _, _, _, _, b, 0, rfl, by simp [zad, h1], fun y => by simp [zm8, vA, zdh, h1, dTmc, e1, e2]⟩
  | false =>
    cases h2 : zb1 o i with
    | false => simp [h1, h2] at hp
    | true =>
      simp only [h1, h2, cond_true, cond_false] at hp
      cases hg : qs[(i - 1).toNat]? with
      | none => simp only [hg] at hp; simp at hp
      | some q =>
        simp only [hg, List.getElem?_map] at hp
        obtain ⟨p', hp', rfl⟩ := Option.map_eq_some_iff.1 hp
        have hokq := zl5 hq hg
        obtain ⟨tp, htp⟩ : ∃ tp, tps[(i - 1).toNat]? = some tp := by
          have hl : qs.length = tps.length := by have := congrArg List.length e2; simpa using this
          exact zal (by rw [← hl]; exact (List.getElem?_eq_some_iff.1 hg).1)
        have hvq : vA q = zb2 tp := by
          have := congrArg (fun l => l[(i - 1).toNat]?) e2
          simp only [zzi hg, zr2 htp] at this
          exact Option.some.inj this
        obtain ⟨a', b', off', hl, _⟩ := ztj hokq (zce u) ((i - 1).toNat * 4) hp'
        obtain ⟨s, o', n', x', v', ks', u', ps', rfl, hx⟩ := ymc q tp hokq hvq j p' hp' _ _ _ _ _ hl
        refine ⟨s, o', n', x', v', ks', u', ps', b', off', ?_, ?_, fun y => ?_⟩
        · simp only [zen, zfi, hg, Option.map_some]
          exact hl
        · simp only [zad, h1, h2, htp, if_true, Bool.false_eq_true, if_false]; exact hx
        · have := yl5 q tp hokq hvq j p' y hp' _ _ _ _ _ hl
          simp only [yf1] at this
          simp only [zm8, zfi, hg, Option.map_some, zxe, vA, zdh, h1, h2, htp, if_true, Bool.false_eq_true, if_false, dTmc, e1]
          congr 5
          rw [zgs, List.map_set, ← zgs, this, e2, ycn]
def zcr (b : Nat) (sk : An) (t : Tm) : Asn where
  P := fun vs I w bs => ∃ a, er a = sk ∧ vA a = dTmc t ∧ (zir b a).P vs I w bs
  mono := fun h ⟨a, h1, h2, h3⟩ => ⟨a, h1, h2, (zir b a).mono h h3⟩
  loc := fun h ⟨a, h1, h2, h3⟩ => ⟨a, h1, h2, (zir b a).loc h h3⟩
theorem ztc {b : Nat} {sk : An} {t : Tm} (hok : okQ sk) {i : Int} {j : Nat} {p : zmx} (hp : (bp sk i)[j]? = some p) {a0 : An} {b' off' : Nat} (hl : zen sk b 0 p = some (a0, b', off')) {x : Str} (hx : (zad t i)[j]? = some x) :
    ∀ vs I w bs, (zcr b sk t).P vs I w bs → zda I w b' (zdo off' 2) [.imm (.str x)] := by
  rintro vs I w bs ⟨a, rfl, hv, hP⟩
  rw [zy5] at hp
  obtain ⟨s, o, n, x', v, ks, u, ps, b2, off2, h1, h2, _⟩ := zsc ((zhf a).1 hok) hv hp b
  rw [hx] at h2; cases h2
  rw [zjc, h1] at hl
  simp only [Option.map_some, Option.some.injEq, Prod.mk.injEq] at hl
  obtain ⟨_, rfl, rfl⟩ := hl
  have hat := (zvl h1 hP.2.2.2.2.1 hP.2.2.2.2.2).1
  exact ze5 hat (i := 2) (c := zwn x) (by cases s <;> rfl) rfl (.imm _ _ (.encStr _ _))
theorem zqe {b : Nat} {sk : An} {t : Tm} (hok : okQ sk) {i : Int} {j : Nat} {p : zmx} (hp : (bp sk i)[j]? = some p) {a0 : An} {b' off' : Nat} (hl : zen sk b 0 p = some (a0, b', off')) (x : Str) :
    zsj (zcr b sk t) (zcr b sk (zdh t i j x)) b' (zdo off' 2) [.imm (.str x)] := by
  rintro vs I w bs ⟨a, rfl, hv, hP⟩
  rw [zy5] at hp
  obtain ⟨s, o, n, x', v, ks, u, ps, b2, off2, h1, _, h3⟩ := zsc ((zhf a).1 hok) hv hp b
  rw [zjc, h1] at hl
  simp only [Option.map_some, Option.some.injEq, Prod.mk.injEq] at hl
  obtain ⟨_, rfl, rfl⟩ := hl
  obtain ⟨q1, cur, ty, q2, q3, q4⟩ := zs6 x h1 vs I w bs hP
  exact ⟨q1, cur, ty, q2, q3, fun cs hr ho => ⟨_, zro p a b 0 _ _ _ _ h1 (by simp [er]), h3 x, q4 cs hr ho⟩⟩
theorem zpd {b : Nat} {sk : An} {op n : Int} {x : Str} {ks : List Tm} {ps : List Ty} (hok : okQ sk) : ybm (zcr b sk (.mk op n x ks ps)) b op := by
  rintro vs I w bs ⟨a, rfl, hv, hP⟩
  have hok := (zhf a).1 hok
  rcases a with ⟨s, o, n, x, v, ks, u, qs⟩ | ⟨s0, cs0, c0⟩
  case im => exact hok.elim
  obtain ⟨rfl, _⟩ := hok
  simp only [vA, dTmc, List.cons.injEq, V.int.injEq, true_and] at hv
  obtain ⟨rfl, _⟩ := hv
  have := ze5 (I := I) hP.2.2.2.2.1 (i := 0) (c := .int .i64 o) rfl rfl (.imm _ _ (.int _ _))
  simpa [zeu] using this
theorem zei {b : Nat} {o n : Int} {x : Str} {v : Value} {ks : List An} {u : Value} {qs : List An} {t : Tm} {vs : List Value} {I : Imm} {w : World} {bs : List Nat} (h : (zcr b (.mk true o n x v ks u qs) t).P vs I w bs) : zda I w b 3 [.raw v] ∧ zda I w b 4 [.raw u] := by
  obtain ⟨a, he, hv, hP⟩ := h
  rcases a with ⟨s, o', n', x', v', ks', u', qs'⟩ | ⟨s0, cs0, c0⟩
  case im => simp [er] at he
  simp only [er, An.mk.injEq] at he
  obtain ⟨rfl, rfl, rfl, _, rfl, _, rfl, _⟩ := he
  have hw := hP.2.2.2.2.2
  simp only [anW] at hw
  have h1 := zj0 hw.1.1
  have h2 := zj0 (hw.2 trivial).1
  have e1 := ze5 (I := I) hP.2.2.2.2.1 (i := 3) (c := v') rfl h1 (.raw _ h1)
  have e2 := ze5 (I := I) hP.2.2.2.2.1 (i := 4) (c := u') rfl h2 (.raw _ h2)
  simp only [zeu, Nat.zero_add] at e1 e2
  exact ⟨e1, e2⟩
end Go.Hk

/- Contracts of hearthref01: strings of letters by number, the first name that is none of some; of hearthlaw01: short. -/
namespace Go.Hk
open Go.Proofs
def ttM : TT := ttL ++ [
  (5, ⟨.int .u8, false, 1, 1, [.imm (.int .u8 0)]⟩),
  (133, ⟨.sl 5, false, 1, 24, [.nils]⟩)]
theorem zw0 : TTok Tryz.prog ttM := .of_eq (l := [3, 9, 4, 61, 119, 2, 78, 32, 21, 36, 77, 5, 133]) (by kernel_rfl)
section
variable {n : Nat} {F : List Nat} {Q : DQ} {env env' : Env} {st st' : St} {ids ids' : List Nat} {k todo : List DI} {ob : List Prop}
theorem md (path : List Pt) (h : run ttM n 300 path todo env st ids [] = .at k env' st' ids' ob) (hob : zb3 ob) (hd : G Tryz.prog n F Q k env' st' ids') : DGo Tryz.prog n F Q todo env st ids := zo8 zw0 mixed 300 path h hob hd
theorem mg (path : List Pt) (h : run ttM n 300 path todo env st ids [] = .at k env' st' ids' ob) (hob : zb3 ob) (hd : G Tryz.prog n F Q k env' st' ids') : G Tryz.prog n F Q todo env st ids := zo6 zw0 mixed 300 path h hob hd
end
def zho (n : Nat) : Str := if n < 26 then [UInt8.ofNat (97 + n)] else [UInt8.ofNat (97 + (n / 26 - 1)), UInt8.ofNat (97 + n % 26)]
theorem wu8 (n : Nat) (h : n < 256) : IntKind.u8.wrap (n : Int) = n := by
  simp only [IntKind.wrap, IntKind.bits, IntKind.signed]
  simp
  omega
set_option maxRecDepth 100000 in
theorem zmd (n : Nat) (h : n < 26) : zau Tryz.prog 74 [.int .i64 n] (.str [UInt8.ofNat (97 + n)]) := by
  refine zaf zw0 Tryz.func74 (by decide +kernel) rfl [1, 2] rfl rfl ?_
  refine mg [] rfl (by simp [zai]) ?_
  refine zaa rfl (fun hc => ?_) (fun hc => by simp at hc; omega)
  refine md [] rfl (by simp [zai]) ?_
  refine zab ⟨_, rfl, tV (congrArg _ ?_), trivial⟩
  have w1 : IntKind.i64.wrap (97 + (n : Int)) = ((97 + n : Nat) : Int) := by rw [w64 (by omega) (by omega)]; omega
  rw [w1, wu8 _ (by omega)]
  rfl
set_option maxRecDepth 100000 in
theorem zz7 (n : Nat) (h : 26 ≤ n) (h2 : n < 702) : zau Tryz.prog 74 [.int .i64 n] (.str [UInt8.ofNat (97 + (n / 26 - 1)), UInt8.ofNat (97 + n % 26)]) := by
  have hL : ∀ y : Int, y = ((n / 26 - 1 : Nat) : Int) → zau Tryz.prog 74 [.int .i64 y] (.str [UInt8.ofNat (97 + (n / 26 - 1))]) := fun y hy => by
    rw [hy]; exact zmd _ (by omega)
  refine zaf zw0 Tryz.func74 (by decide +kernel) rfl [1, 2] rfl rfl ?_
  refine mg [] rfl (by simp [zai]) ?_
  refine zaa rfl (fun hc => by simp at hc; omega) (fun hc => ?_)
  refine md [] rfl (by simp [zai]) ?_
  refine zac rfl (fun _ => hL _ ?_) (by simp [zai]) ?_
  · have e : ((n : Int)).tdiv 26 = ((n / 26 : Nat) : Int) := rfl
    have w0 : IntKind.i64.wrap ((n / 26 : Nat) : Int) = ((n / 26 : Nat) : Int) := w64 (by omega) (by omega)
    rw [e, w0, w64 (by omega) (by omega)]
    omega
  refine mg [] rfl (by simp [zai]; rfl) ?_
  refine zab ⟨_, rfl, tV (congrArg _ ?_), trivial⟩
  have e : ((n : Int)).tmod 26 = ((n % 26 : Nat) : Int) := rfl
  have w1 : IntKind.i64.wrap (97 + ((n % 26 : Nat) : Int)) = ((97 + n % 26 : Nat) : Int) := by rw [w64 (by omega) (by omega)]; omega
  rw [e, w1, wu8 _ (by omega)]
  rfl
set_option maxRecDepth 100000 in
theorem znj (n : Nat) (h : n < 702) : zau Tryz.prog 74 [.int .i64 n] (.str (zho n)) := by
  unfold zho
  by_cases h2 : n < 26
  · rw [if_pos h2]; exact zmd n h2
  · rw [if_neg h2]; exact zz7 n (by omega) h
set_option maxRecDepth 100000 in
theorem ygw (l : List Str) (k : Nat) (hk : k < 702) (hpre : ∀ j < k, zc7 l (zho j) = false) (hs : zc7 l (zho k) = true) : zau Tryz.prog 44 [.sl (zbb l)] (.str (zho k)) := by
  refine zaf zw0 Tryz.func44 (by decide +kernel) rfl [1, 2] rfl rfl ?_
  refine mg [] rfl (by simp [zai]) ?_
  refine zaj (fun i : Nat => [(3, .imm (.int .i64 i)), (0, .imm (.sl (zbb l)))]) (fun _ => []) [1] (fun i => k - i) (fun i => i ≤ k) 0
    (Nat.zero_le _) ⟨rfl, rfl, trivial⟩ trivial rfl fun i hi ih => ?_
  refine md [] rfl (by simp [zai]) ?_
  refine zac rfl (fun _ => znj i (by omega)) (by simp [zai]) ?_
  refine mg [] rfl (by simp [zai]) ?_
  refine zac rfl (fun _ => zlm (zho i)) (by simp [zai]) ?_
  refine mg [] rfl (by simp [zai]) ?_
  refine zac rfl (fun _ => znj i (by omega)) (by simp [zai]) ?_
  refine mg [] rfl (by simp [zai]) ?_
  refine zac rfl (fun _ => zo0 l (zho i)) (by simp [zai]) ?_
  refine mg [] rfl (by simp [zai]) ?_
  refine zaa rfl (fun h => ?_) (fun h => ?_)
  · have hik : i < k := by
      by_cases e : i = k
      · subst e
        simp only [zc7, Bool.and_eq_true, Bool.not_eq_true'] at hs
        simp [hs.1, hs.2] at h
      · omega
    refine md [] rfl (by simp) ?_
    refine zae (ih (i + 1) (by omega) (by omega)) ⟨zcl (w64 (by omega) (by omega)), rfl, trivial⟩ trivial rfl
  · have hik : i = k := by
      by_cases e : i < k
      · have := hpre i e
        simp only [zc7] at this
        cases hn : zcp (zho i) <;> cases hh : zbq l (zho i) <;> simp [hn, hh] at h this
      · omega
    subst hik
    refine zav rfl ?_
    refine md [] rfl (by simp) ?_
    refine zac rfl (fun _ => znj i (by omega)) (by simp) ?_
    refine mg [] rfl (by simp) ?_
    exact zab ⟨_, rfl, tV rfl, trivial⟩
set_option maxRecDepth 100000 in
theorem yh3 : zgv 1 [] ++ zgv 2 [] = (List.range 702).map zho := by decide +kernel
def namesAt : List Nat := (List.range 702).filter fun n => zcp (zho n)
theorem ykm {a b : Nat} (ha : a < 702) (hb : b < 702) (h : zho a = zho b) : a = b := by
  have u : ∀ x y : Nat, x < 256 → y < 256 → UInt8.ofNat x = UInt8.ofNat y → x = y := fun x y hx hy e => by
    have := congrArg UInt8.toNat e
    simpa [Nat.mod_eq_of_lt hx, Nat.mod_eq_of_lt hy] using this
  unfold zho at h
  by_cases h1 : a < 26 <;> by_cases h2 : b < 26 <;> simp only [h1, h2, if_true, if_false, List.cons.injEq, and_true, reduceCtorEq, and_false] at h
  · have := u _ _ (by omega) (by omega) h; omega
  · have h3 := u _ _ (by omega) (by omega) h.1
    have h4 := u _ _ (by omega) (by omega) h.2
    omega
theorem zj7 {l : List Str} {s : Str} : zbq l s = true ↔ s ∈ l := by
  induction l with
  | nil => simp [zbq]
  | cons x r ih =>
    simp only [zbq, Bool.or_eq_true, beq_iff_eq, List.mem_cons, ih]
    constructor
    · rintro (h | h)
      · exact .inl h.symm
      · exact .inr h
    · rintro (h | h)
      · exact .inl h.symm
      · exact .inr h
theorem zme : ∀ (a : List Nat) (l : List Str), a.Nodup → (∀ n ∈ a, n < 702) → (∀ n ∈ a, zho n ∈ l) → a.length ≤ l.length
  | [], _, _, _, _ => by simp
  | n :: r, l, hn, hb, hm => by
    obtain ⟨h1, h2⟩ := List.nodup_cons.1 hn
    have hmem := hm n (by simp)
    have := zme r (l.erase (zho n)) h2 (fun x hx => hb x (by simp [hx])) fun x hx => by
      have hne : zho x ≠ zho n := fun e => h1 (ykm (hb x (by simp [hx])) (hb n (by simp)) e ▸ hx)
      exact (List.mem_erase_of_ne hne).2 (hm x (by simp [hx]))
    rw [List.length_erase_of_mem hmem] at this
    have hpos : 0 < l.length := List.length_pos_of_mem hmem
    simp only [List.length_cons]
    omega
end Go.Hk

/- The first name that is none of some, of up to 699. -/
namespace Go.Hk
open Go.Proofs
set_option maxRecDepth 100000 in
theorem yhf : decide (700 ≤ namesAt.length) = true := by decide +kernel
theorem yid (l : List Str) (hl : l.length ≤ 699) : ∃ k, k < 702 ∧ (∀ j < k, zc7 l (zho j) = false) ∧ zc7 l (zho k) = true := by
  have hex : ∃ k, k < 702 ∧ zc7 l (zho k) = true := by
    apply Classical.byContradiction
    intro hno
    have hall : ∀ n ∈ namesAt, zho n ∈ l := fun n hn => by
      simp only [namesAt, List.mem_filter, List.mem_range] at hn
      apply Classical.byContradiction
      intro hm
      refine hno ⟨n, hn.1, ?_⟩
      have : zbq l (zho n) = false := by
        cases hh : zbq l (zho n) with
        | false => rfl
        | true => exact absurd (zj7.1 hh) hm
      simp [zc7, hn.2, this]
    have := zme namesAt l (List.Pairwise.filter _ List.nodup_range) (fun n hn => by simp only [namesAt, List.mem_filter, List.mem_range] at hn; exact hn.1) hall
    have h2 := of_decide_eq_true yhf
    omega
  obtain ⟨k, hk1, hk2⟩ := hex
  induction k using Nat.strongRecOn with
  | _ k ih =>
    by_cases hall : ∀ j < k, zc7 l (zho j) = false
    · exact ⟨k, hk1, hall, hk2⟩
    · simp only [Classical.not_forall, Bool.not_eq_false] at hall
      obtain ⟨j, hj1, hj2⟩ := hall
      exact ih j hj1 (by omega) hj2
def za3 (l : List Str) : Str := zho (((List.range 702).find? fun k => zc7 l (zho k)).getD 0)
set_option maxRecDepth 100000 in
theorem yie {l : List Str} {k : Nat} (hk : k < 702) (hpre : ∀ j < k, zc7 l (zho j) = false) (hs : zc7 l (zho k) = true) : za3 l = zho k := by
  have hf : (List.range 702).find? (fun k => zc7 l (zho k)) = some k := by
    have e : List.range 702 = List.range k ++ k :: List.range' (k + 1) (701 - k) := by
      rw [List.range_eq_range', List.range_eq_range', ← List.range'_succ]
      have h2 := List.range'_append_1 (s := 0) (m := k) (n := 701 - k + 1)
      rw [Nat.zero_add] at h2
      rw [h2]
      congr 1
      omega
    rw [e, List.find?_append]
    have h1 : (List.range k).find? (fun k => zc7 l (zho k)) = none := by
      rw [List.find?_eq_none]
      intro j hj
      simp [hpre j (List.mem_range.1 hj)]
    rw [h1]
    simp [hs]
  rw [za3, hf]; rfl
theorem zlb (l : List Str) (hl : l.length ≤ 699) : ∃ k, k < 702 ∧ (∀ j < k, zc7 l (zho j) = false) ∧ zc7 l (zho k) = true ∧ za3 l = zho k := by
  obtain ⟨k, h1, h2, h3⟩ := yid l hl
  exact ⟨k, h1, h2, h3, yie h1 h2 h3⟩
theorem zfc (l : List Str) (hl : l.length ≤ 699) : zcp (za3 l) = true ∧ za3 l ∉ l := by
  obtain ⟨k, _, _, h3, h4⟩ := zlb l hl
  rw [← h4] at h3
  simp only [zc7, Bool.and_eq_true, Bool.not_eq_true'] at h3
  refine ⟨h3.1, fun hm => ?_⟩
  have := zj7.2 hm
  rw [h3.2] at this; cases this
theorem zop {l m : List Str} (h : ∀ s, s ∈ l ↔ s ∈ m) : za3 l = za3 m := by
  have e : ∀ s, zbq l s = zbq m s := fun s => by
    cases h1 : zbq l s with
    | true => exact (zj7.2 ((h s).1 (zj7.1 h1))).symm
    | false =>
      cases h2 : zbq m s with
      | false => rfl
      | true => rw [zj7.2 ((h s).2 (zj7.1 h2))] at h1; cases h1
  have e2 : (fun k => zc7 l (zho k)) = fun k => zc7 m (zho k) := by
    funext k; simp [zc7, e]
  simp only [za3, e2]
set_option maxRecDepth 100000 in
theorem zm2 (l : List Str) (hl : l.length ≤ 699) : zau Tryz.prog 34 [.sl (zbb l)] (.str (za3 l)) := by
  obtain ⟨k, hk, hpre, hs, e⟩ := zlb l hl
  rw [e]
  refine yls l (zho k) ((List.range k).map zho) ((List.range' (k + 1) (701 - k)).map zho) (by omega) ?_ (fun x hx => ?_) hs
  · rw [yh3]
    have : List.range 702 = List.range k ++ k :: List.range' (k + 1) (701 - k) := by
      rw [List.range_eq_range', List.range_eq_range', ← List.range'_succ]
      have h2 := List.range'_append_1 (s := 0) (m := k) (n := 701 - k + 1)
      rw [Nat.zero_add] at h2
      rw [h2]
      congr 1
      omega
    rw [this]; simp
  · obtain ⟨j, hj, rfl⟩ := List.mem_map.1 hx
    exact hpre j (List.mem_range.1 hj)
set_option maxRecDepth 100000 in
theorem ydl (l : List Str) (hl : l.length ≤ 699) : zau Tryz.prog 44 [.sl (zbb l)] (.str (za3 l)) := by
  obtain ⟨k, hk, hpre, hs, e⟩ := zlb l hl
  rw [e]
  exact ygw l k hk hpre hs
end Go.Hk

/- make of a slice; a store into an zb6 row of a pointer to a block that nobody writes any more. -/
namespace Go.Hk
structure PMs where
  e : TypeId
  z : V
  bytes : Nat
  m : Int
  m2 : Int
  id' : Nat
  ids' : List Nat
  dst : Option Nat
  todo : List DI
def pmks (tt : TT) (n : Nat) (env : Env) (ids : List Nat) (todo : List DI) : Option PMs :=
  match yfi todo, ids with
  | some o, id' :: ids' => match o.guard, o.op with
    | none, .makeSlice t l c => match lk tt t, evO env l, evO env c with
      | some { sh := .sl e, .. }, some (.imm (.int _ m)), some (.imm (.int _ m2)) => match lk tt e, zc8 n o.dst, zck todo ([], [id']) with
        | some ⟨_, _, 1, bytes, [.imm z]⟩, true, some (_, _, todo') => some ⟨e, z, bytes, m, m2, id', ids', o.dst, todo'⟩
        | _, _, _ => none
      | _, _, _ => none
    | _, _ => none
  | _, _ => none
structure PFs where
  id : Nat
  e : TypeId
  es : List (List V)
  k : Nat
  x : V
  j : Nat
  todo : List DI
def yg6 (tt : TT) (env : Env) (st : St) (todo : List DI) : Option PFs :=
  match yfi todo with
  | some o => match o.guard, o.dst, o.op with
    | none, none, .store t p x => match lk tt t, evO env p, evO env x with
      | some i, some (.elp id k 1 0), some (.ref j off) => match lk st id, lk st j, zck todo ([id, j], [id, j]), Nat.beq i.size 1, Nat.beq id j with
        | some (some (.row e 1 es)), some (some (.immb ty _ xs)), some (_, _, todo'), true, false => some ⟨id, e, es, k, .ip ty xs off, j, todo'⟩
        | _, _, _, _, _ => none
      | _, _, _ => none
    | _, _, _ => none
  | none => none
section
variable {P : Program} {n : Nat} {F : List Nat} {Q : DQ} {tt : TT} {env env' : Env} {st st' : St} {ids ids' : List Nat} {k todo todo' : List DI} {I : Imm} {μ : Mu} {w : World} {a : Act} {Pn : V → Prop} {d : D} {cx : Prop} {ob : List Prop}
theorem ykj (z : Array Value) (n : Nat) (c : Value) (h : z.toList = [c]) : madeCells z n = Array.replicate n c := by
  obtain ⟨z⟩ := z
  simp at h; subst h
  apply Array.ext
  · simp [madeCells]
  · intro i h1 h2
    simp [madeCells, Nat.mod_one]
theorem yia (htt : TTok P tt) {c : PMs} (h : pmks tt n env ids todo = some c) (hm : c.m2 = c.m) (h0 : 0 ≤ c.m) (h1 : (c.bytes : Int) * c.m ≤ 281474976710656) (h2 : c.m ≤ maxLen) (hz : V.one c.z = true)
    (hk : G P n F Q c.todo (zeb c.dst (.own c.id' (List.replicate c.m.toNat [c.z]).length) env) ((c.id', some (.row c.e 1 (List.replicate c.m.toNat [c.z]))) :: st) c.ids') : G P n F Q todo env st ids := by
  unfold pmks at h
  split at h
  · rename_i o id' ids' ho
    split at h
    · rename_i t l cc hg hop
      split at h
      · rename_i e _ _ _ _ k1 m k2 m2 ht hl hc
        split at h
        · rename_i sh ag bytes z all o' todo' hi hd hn1
          cases h
          have ho' : o' = o := zdv ho hn1
          subst ho'
          simp only at hm h0 h1 h2 hz hk
          have hm := hm.symm
          subst hm
          refine zc0 (fr := [id']) (wr := [(id', some (.row e 1 (List.replicate m.toNat [z])))]) (rd := []) hn1 ?_ hd (fun c hc => by rw [hop] at hc; cases hc) hk
          intro I μ st1 ids1 a w hag hst hon
          refine ⟨fun _ => ?_, fun hw => by rw [zaw hg] at hw; cases hw⟩
          have hops := zbm hon
          rw [hop] at hops
          have rl := hops l (by simp [Op.operands]) _ hl
          have rc := hops cc (by simp [Op.operands]) _ hc
          obtain ⟨inf, zv, i1, i2, i3, i4, i5, i6⟩ := (htt e _ hi).info
          have hz1 := i5 I μ
          have hzl : ∃ c0, zv.cells.toList = [c0] ∧ RepV I c0 z := by
            have hl := hz1.1
            match hcs : zv.cells.toList, hl with
            | [c0], _ => exact ⟨c0, rfl, (hz1.2 0 c0 _ (by rw [hcs]; rfl) rfl).immInv⟩
          obtain ⟨c0, hc0, hr0⟩ := hzl
          have hsz : inf.size = 1 := i2
          have hby : inf.bytes = bytes := i3
          have hrun : (execOp a.eval o').run P w = .ok (.value (.slice (some ⟨w.heap.size, 0, none⟩) m.toNat m.toNat)) (w.alloc (.cells (Array.replicate m.toNat c0) e)) := by
            have hs := (htt t _ ht).sh
            have hx := run_make (P := P) w t e inf zv hs i1 i4 k1 k2 m m h0 (Int.le_refl _) (by rw [hby]; exact h1) (by simpa [maxLen] using h2)
            rw [ykj _ _ c0 hc0, hsz, Nat.mul_one] at hx
            simp only [execOp, hop]
            generalize a.eval l = vl at rl
            generalize a.eval cc = vc at rc
            cases rl with
            | imm _ _ rl =>
            cases rc with
            | imm _ _ rc =>
            cases rl
            cases rc
            simp only [Sem.run_bind, hx, Result.andThen_ok, Sem.run_pure]
          rw [hrun]
          have hlen : (List.replicate m.toNat [z]).length = m.toNat := by simp
          have hone0 : c0.oneCell' = true := i6 c0 (by rw [hc0]; simp)
          obtain ⟨μ', q1, q2, q3, q4⟩ := hst.allocO (.cells (Array.replicate m.toNat c0) e) (.slice (some ⟨w.heap.size, 0, none⟩) m.toNat m.toNat) (fun _ h => Eq.symm h) (.row e 1 (List.replicate m.toNat [z])) (fun μ' _ =>
            ⟨(List.replicate m.toNat c0), ⟨by simp [hlen], .inr ⟨w.heap.size, m.toNat, Array.replicate m.toNat c0, by rw [hlen], Nat.zero_le _, zg1 w _, by rw [hlen]; exact Nat.le_refl _, by simp [maxLen] at h2 ⊢; omega, by simp, by rw [hlen]; simp⟩⟩, ⟨by simp, fun i v x hv hx => by
              have e1 : (List.replicate m.toNat [z]).flatten = List.replicate m.toNat z := by
                generalize m.toNat = q
                induction q with
                | zero => rfl
                | succ q ih => simp only [List.replicate_succ, List.flatten_cons, ih]; rfl
              rw [e1] at hx
              rw [List.getElem?_replicate] at hv hx
              split at hv
              · rename_i hq
                rw [if_pos hq] at hx
                cases hv; cases hx; exact hr0
              · cases hv⟩, fun c hc => by rw [List.eq_of_mem_replicate hc]; rfl, fun c hc y hy => by
              rw [List.eq_of_mem_replicate hc] at hy
              simp at hy; subst hy; exact hz, Nat.one_pos⟩)
          rw [hlen] at *
          exact ⟨I, μ', q3, .own _ _ _ _ q1, q2, q4⟩
        · cases h
      · cases h
    · cases h
  · cases h
theorem StRep.freezeI {id : Nat} {ty : TypeId} {sz : Nat} {xs : List V} (hst : StRep I μ st ids w) (hlive : zaq st id (.immb ty sz xs)) :
    ∃ J : Imm, I.le J ∧ StRep J μ ((id, none) :: st) ids w ∧ Ext I μ st w J μ ((id, none) :: st) w ∧ ∀ v off, RepD I μ v (.ref id off) → RepV J v (.ip ty xs off) := by
  obtain ⟨g, hg, hlen, gb, vs, rfl, hheap, hrep, hone⟩ := hst.blk id _ hlive
  obtain ⟨hno, hlt⟩ := hst.apart id _ _ gb hlive hg rfl
  obtain ⟨J, hJ⟩ : ∃ J : Imm, J = fun k => if k = gb then some (.cells vs ty (0, 0)) else I k := ⟨_, rfl⟩
  have hle : I.le J := fun k o h => by
    have : k ≠ gb := fun e => by rw [e, hno] at h; cases h
    rw [hJ]; simp [this, h]
  have hJo : ∀ k o, J k = some o → I k = some o ∨ (k = gb ∧ w.heap[k]? = some o) := fun k o h => by
    rw [hJ] at h
    by_cases hk : k = gb
    · subst hk; simp at h; subst h; exact .inr ⟨rfl, hheap⟩
    · simp [hk] at h; exact .inl h
  refine ⟨J, hle, ?_, ?_, ?_⟩
  · exact
      { imm := fun k o h => (hJo k o h).elim (fun h => hst.imm k o h) fun h => h.2
        blk := fun i bi hli => by
          obtain ⟨_, h2⟩ := za9.1 hli
          obtain ⟨gi, hgi, hr⟩ := hst.blk i bi h2
          exact ⟨gi, hgi, hr.mono hle (Mu.le_refl μ)⟩
        apart := fun i bi gi k hli hgi hk => by
          obtain ⟨h1, h2⟩ := za9.1 hli
          obtain ⟨q1, q2⟩ := hst.apart i bi gi k h2 hgi hk
          refine ⟨?_, q2⟩
          cases hJk : J k with
          | none => rfl
          | some o =>
            rcases hJo k o hJk with h | ⟨h, _⟩
            · rw [q1] at h; cases h
            · subst h
              exact absurd (hst.inj i id _ _ _ _ k h2 hlive hgi hg hk rfl) h1
        inj := fun i j bi bj gi gj b hi hj => hst.inj i j bi bj gi gj b (za9.1 hi).2 (za9.1 hj).2
        nodup := hst.nodup
        idsFree := hst.idsFree }
  · exact
      { imm := hle, os := rfl, tape := rfl, output := rfl, size := Nat.le_refl _
        block := fun _ _ _ => rfl
        fresh := fun k _ ⟨i, bi, gi, h1, h2, h3⟩ => ⟨i, bi, gi, (za9.1 h1).2, h2, h3⟩
        old := fun k _ ho => by
          have : k ≠ gb := fun e => ho (e ▸ ⟨id, _, _, hlive, hg, rfl⟩)
          rw [hJ]; simp [this] }
  · intro v off hv
    have hptr : v = .pointer (some ⟨gb, off, none⟩) := by
      cases hv with
      | ref b' _ _ hm => rw [hg] at hm; cases hm; rfl
    rw [hptr]
    have := RepV.ip (I := J) gb 0 ty xs off (fun j => (vs[j]?).getD undef) (fun j x hx => ?_) (fun j x hx => ?_)
    · simpa using this
    · have hj : j < vs.size := by have := hrep.1; have := (List.getElem?_eq_some_iff.1 hx).1; simp at *; omega
      rw [hJ]
      simp only [Imm.cell, if_true, Nat.zero_add, Array.getElem?_eq_getElem hj, Option.getD_some, true_and]
      exact hone _ (by simp)
    · have hj : j < vs.size := by have := hrep.1; have := (List.getElem?_eq_some_iff.1 hx).1; simp at *; omega
      simp only [Array.getElem?_eq_getElem hj, Option.getD_some]
      exact (hrep.2 j _ x (by simp [hj]) hx).mono hle
theorem yk0 (htt : TTok P tt) {c : PFs} {y : V} (h : yg6 tt env st todo = some c) (hc : c.es[c.k]? = some [y])
    (hk : G P n F Q c.todo env ((c.id, some (.row c.e 1 (c.es.set c.k [c.x]))) :: (c.j, none) :: st) ids) : G P n F Q todo env st ids := by
  unfold yg6 at h
  split at h
  · rename_i o ho
    split at h
    · rename_i t p x hgd hdst hop
      split at h
      · rename_i i id kk j off ht hp hx
        split at h
        · rename_i ty es ty2 sz2 xs all o' todo' hl hlj h1 hsz hne
          cases h
          have ho' : o' = o := zdv ho h1
          subst ho'
          have hs := Nat.eq_of_beq_eq_true hsz
          have hne : id ≠ j := fun e => by rw [e] at hne; simp at hne
          simp only at hc hk
          have hk : G P n F Q todo' (zeb o'.dst .undef env) ([(id, some (.row ty 1 (es.set kk [.ip ty2 xs off]))), (j, none)] ++ st) ids := by rw [hdst]; exact hk
          refine zc0 (fr := []) (wr := [(id, some (.row ty 1 (es.set kk [.ip ty2 xs off]))), (j, none)]) (rd := [id, j]) h1 ?_ (by simp [zc8, hdst]) (fun c hc => by rw [hop] at hc; cases hc) hk
          intro I μ st1 ids1 a w hag hst hon
          refine ⟨fun _ => ?_, fun hw => by rw [zaw hgd] at hw; cases hw⟩
          have hops := zbm hon
          rw [hop] at hops
          have rp := hops p (by simp [Op.operands]) _ hp
          have rx := hops x (by simp [Op.operands]) _ hx
          have hl1 : zaq st1 id (.row ty 1 es) := by unfold zaq; rw [hag id (by simp)]; exact hl
          have hl2 : zaq st1 j (.immb ty2 sz2 xs) := by unfold zaq; rw [hag j (by simp)]; exact hlj
          obtain ⟨J, f1, f2, f3, f4⟩ := hst.freezeI hl2
          have hl3 : zaq ((j, none) :: st1) id (.row ty 1 es) := za9.2 ⟨hne, hl1⟩
          have rv := f4 _ _ rx
          obtain ⟨b, cap, cur, hmu, hheap, hcap, hcm, hcs, hrep, hlen, hone, hpos⟩ := zxk f2 hl3 (by rintro rfl; simp at hc)
          have hkl := (List.getElem?_eq_some_iff.1 hc).1
          rw [Nat.mul_one] at hcs
          generalize hv : a.eval p = v at rp
          generalize hu : a.eval x = u at rx rv
          have hu1 : u.cells = #[u] ∧ u.oneCell' = true := by cases rx; exact ⟨rfl, rfl⟩
          cases rp with
          | elp _ _ ln cp _ _ _ hm =>
            rw [hm] at hmu; cases hmu
            have hfit : kk * 1 + 0 + u.cells.toList.length ≤ cur.size := by rw [hu1.1, hcs]; simp; omega
            have hrun : (execOp a.eval o').run P w = .ok .skip (w.setRow b (cur.toList.take (kk * 1 + 0) ++ u.cells.toList ++ cur.toList.drop (kk * 1 + 0 + u.cells.toList.length)).toArray) := by
              simp only [execOp, hop, hv, hu, Sem.run_bind, zf1 (htt t i ht) hheap (by rw [hu1.1, hs]; rfl) (fun z hz => by rw [hu1.1] at hz; simp at hz; subst hz; exact hu1.2) hfit, Result.andThen_ok, Sem.run_pure]
            rw [hrun]
            have hcl : cur.toList.length = cap := by simpa using hcs
            rw [hu1.1]
            simp only [Nat.mul_one, Nat.add_zero, List.length_singleton]
            simp only [Nat.mul_one] at hrep
            have hnew : BlkRep J μ (w.setRow b (cur.toList.take kk ++ [u] ++ cur.toList.drop (kk + 1)).toArray) (.slice (some ⟨b, 0, none⟩) es.length cap) (.row ty 1 (es.set kk [.ip ty2 xs off])) := by
              have e1 := zhw (sz := 1) (f := 0) (ys := [V.ip ty2 xs off]) es kk [y] hlen hc (by simp)
              simp only [List.take_zero, List.nil_append, List.length_singleton, Nat.zero_add, Nat.mul_one, Nat.add_zero] at e1
              have e1' : (es.set kk [V.ip ty2 xs off]).flatten = es.flatten.take kk ++ [V.ip ty2 xs off] ++ es.flatten.drop (kk + 1) := by simpa using e1
              have e2 : (cur.toList.take kk ++ [u] ++ cur.toList.drop (kk + 1)).take es.length = (cur.toList.take es.length).take kk ++ [u] ++ (cur.toList.take es.length).drop (kk + 1) := by
                rw [List.append_assoc, List.take_append, List.take_append, List.take_take, List.take_take, List.length_take, List.append_assoc]
                rw [Nat.min_eq_left (by omega : kk ≤ cur.toList.length), Nat.min_eq_right (by omega : kk ≤ es.length), Nat.min_eq_left (by omega : kk ≤ es.length)]
                rw [List.take_of_length_le (l := [u]) (by simp; omega), List.drop_take]
                congr 3
              have hR := RepVL.splice hrep (ns := [u]) (ys := [V.ip ty2 xs off]) ⟨rfl, fun q v z h1 h2 => by
                match q with
                | 0 => simp at h1 h2; subst h1; subst h2; exact rv
                | q + 1 => simp at h1⟩ kk
              simp only [List.length_singleton] at hR
              have hls : (es.set kk [V.ip ty2 xs off]).length = es.length := by simp
              refine ⟨_, ⟨?_, .inr ⟨b, cap, _, by rw [hls], Nat.zero_le _, setRow_heap w b cur _ ty _ hheap, by rw [hls]; exact hcap, hcm, ?_, rfl⟩⟩, ?_, ?_, ?_, Nat.one_pos⟩
              · simp; omega
              · simp; omega
              · rw [hls, Nat.mul_one, List.toList_toArray, e2, e1']
                exact hR
              · intro c hc'
                rcases List.mem_or_eq_of_mem_set hc' with h | h
                · exact hlen c h
                · rw [h]; rfl
              · intro c hc' y hy
                rcases List.mem_or_eq_of_mem_set hc' with h | h
                · exact hone c h y hy
                · rw [h] at hy; simp at hy; subst hy; rfl
            obtain ⟨q1, q2⟩ := f2.update (id := id) (blk := .row ty 1 es) (g := .slice (some ⟨b, 0, none⟩) es.length cap) (b := b) hl3 hm rfl (w' := w.setRow b _) (setRow_size w b _) rfl rfl rfl (fun k hk => setRow_other w b k _ hk) hnew
            exact ⟨J, μ, q1, .undef _, Mu.le_refl μ, f3.trans q2⟩
        · cases h
      · cases h
    · cases h
  · cases h
end
end Go.Hk

/- The loop over the names that a term binds in a part, of a term that is zb6 by address (bound): what it asks, in one form for texts and patterns; scopes of names that became others. -/
namespace Go.Hk
open Go.Proofs
def ttX : TT := ttF ++ [
  (137, ⟨.sl 86, false, 1, 24, [.nils]⟩),
  (105, ⟨.ptr 107, false, 1, 8, [.imm .nilp]⟩),
  (107, ⟨.struct [(0, 36)], true, 1, 24, [.nils]⟩),
  (63, ⟨.struct [(0, 9), (1, 26), (6, 61)], true, 7, 104, [.imm (.str []), .imm (.int .i64 0), .imm (.int .i64 0), .imm (.str []), .nils, .nils, .imm .nilmap]⟩)]
theorem ttX_ok : TTok Tryz.prog ttX := .of_eq (l := [4, 3, 9, 26, 58, 22, 24, 5, 36, 23, 56, 29, 139, 83, 1, 61, 143, 128, 96, 94, 93, 126, 148, 91, 86, 123, 125, 137, 105, 107, 63]) (by kernel_rfl)
section
variable {n : Nat} {F : List Nat} {Q : DQ} {env env' : Env} {st st' : St} {ids ids' : List Nat} {k todo : List DI} {ob : List Prop}
theorem xd (path : List Pt) (h : run ttX n 300 path todo env st ids [] = .at k env' st' ids' ob) (hob : zb3 ob) (hd : G Tryz.prog n F Q k env' st' ids') : DGo Tryz.prog n F Q todo env st ids := zo8 ttX_ok mixed 300 path h hob hd
theorem xg (path : List Pt) (h : run ttX n 300 path todo env st ids [] = .at k env' st' ids' ob) (hob : zb3 ob) (hd : G Tryz.prog n F Q k env' st' ids') : G Tryz.prog n F Q todo env st ids := zo6 ttX_ok mixed 300 path h hob hd
end
def zh7 (sk : An) (t : Tm) : Prop := ∃ (a : An) (o n : Int) (x : Str) (ad : Option Addr) (c : Nat) (ks : List An) (u : Value) (qs : List An),
  er a = sk ∧ vA a = dTmc t ∧ a = .mk true o n x (.slice ad ks.length c) ks u qs ∧ ybz qs ∧ zc1 qs ∧ (0 < ks.length → ∃ b, ad = some ⟨b, 0, none⟩) ∧ (0 < qs.length → ∃ bb c2, u = .slice (some ⟨bb, 0, none⟩) qs.length c2)
def yer : An → Prop
  | .mk _ _ _ _ _ _ _ qs => zc1 qs
  | .im _ _ _ => False
theorem yk1 (a : An) : yer (er a) ↔ yer a := by
  cases a with
  | mk s o n x v ks u ps => simp only [er, yer, ze0]
  | im => exact Iff.rfl
theorem yih {b : Nat} {sk : An} {t : Tm} (hf : yer sk) (hw : ∀ p ∈ (match t with | .mk _ _ _ _ ps => ps), zo2 p) {vs : List Value} {I : Imm} {w : World} {bs : List Nat} (h : (zcr b sk t).P vs I w bs) : zh7 sk t := by
  obtain ⟨a, rfl, hv, hP⟩ := h
  have hf := (yk1 a).1 hf
  rcases a with ⟨s, o, n, x, v, ks, u, qs⟩ | ⟨s0, cs0, c0⟩
  case im => exact hf.elim
  have hs : s = true := hP.2.2.1
  subst hs
  obtain ⟨op, tn, tx, tks, tps⟩ := t
  have hwA := hP.2.2.2.2.2
  simp only [anW] at hwA
  have e2 : vAs qs = zcf tps := by
    simp only [vA, dTmc, List.cons.injEq, V.sl.injEq] at hv
    exact hv.2.2.2.2.1
  have hok : ybz qs := znb qs tps (zce u) 0 hf (hwA.2 trivial).2 e2 (by
    have : ∀ l : List Ty, (∀ p ∈ l, zo2 p) → zs0 l := fun l => by
      induction l with
      | nil => exact fun _ => trivial
      | cons p r ih => exact fun h => ⟨h p (by simp), ih fun q hq => h q (by simp [hq])⟩
    exact this tps hw)
  rcases hwA.1.1 with ⟨h0, ⟨a0, c, rfl⟩, _⟩ | ⟨h0, b0, c, cur, rfl, _⟩
  · refine ⟨_, o, n, x, a0, c, ks, u, qs, rfl, hv, by rw [h0], hok, hf, fun h => by omega, fun hq => ?_⟩
    rcases (hwA.2 trivial).1 with ⟨h0, _⟩ | ⟨_, b1, c1, cur1, e, _⟩
    · omega
    · exact ⟨b1, c1, e⟩
  · refine ⟨_, o, n, x, some ⟨b0, 0, none⟩, c, ks, u, qs, rfl, hv, rfl, hok, hf, fun h => ⟨_, rfl⟩, fun hq => ?_⟩
    rcases (hwA.2 trivial).1 with ⟨h0, _⟩ | ⟨_, b1, c1, cur1, e, _⟩
    · omega
    · exact ⟨b1, c1, e⟩
theorem zh6 {sk : An} {t : Tm} (h : zh7 sk t) : okQ sk := by
  obtain ⟨a, o, n, x, ad, c, ks, u, qs, rfl, _, rfl, h1, _⟩ := h
  exact (zhf _).2 ⟨rfl, h1⟩
theorem zl3 {t : Tm} {a : An} {o n : Int} {x : Str} {v : Value} {ks : List An} {u : Value} {qs : List An} (e : a = .mk true o n x v ks u qs) (hv : vA a = dTmc t) : ∃ tks tps, t = .mk o n x tks tps ∧ ks.length = tks.length ∧ qs.length = tps.length ∧ vAs ks = zc2 tks ∧ vAs qs = zcf tps := by
  subst e
  obtain ⟨op, tn, tx, tks, tps⟩ := t
  simp only [vA, dTmc, List.cons.injEq, V.sl.injEq, V.int.injEq, V.str.injEq, true_and, and_true] at hv
  obtain ⟨rfl, rfl, rfl, e1, e2⟩ := hv
  exact ⟨tks, tps, rfl, by have := congrArg List.length e1; simpa using this, by have := congrArg List.length e2; simpa using this, e1, e2⟩
theorem zy4 {sk : An} {t : Tm} (h : zh7 sk t) (i : Int) : (bp sk i).length = (zad t i).length := by
  obtain ⟨a, o, n, x, ad, c, ks, u, qs, rfl, hv, ea, h1, _⟩ := h
  obtain ⟨tks, tps, rfl, _, hl, _, e2⟩ := zl3 ea hv
  subst ea
  rw [zy5]
  simp only [bp, zad]
  cases zbo o i with
  | true => rfl
  | false =>
    cases zb1 o i with
    | false => rfl
    | true =>
      simp only [cond_false, cond_true, Bool.false_eq_true, if_false, if_true]
      cases hq : qs[(i - 1).toNat]? with
      | none =>
        have : tps[(i - 1).toNat]? = none := by rw [List.getElem?_eq_none_iff] at hq ⊢; omega
        rw [this]; rfl
      | some q =>
        obtain ⟨tp, htp⟩ : ∃ tp, tps[(i - 1).toNat]? = some tp := zal (by rw [← hl]; exact (List.getElem?_eq_some_iff.1 hq).1)
        have hvq : vA q = zb2 tp := by
          have := congrArg (fun l => l[(i - 1).toNat]?) e2
          simp only [zzi hq, zr2 htp] at this
          exact Option.some.inj this
        rw [htp]
        simp only [List.length_map, za4]
        exact zj3 q tp (zl5 h1 hq) hvq
def ye7 (ty : TypeId) (v : Value) : St := [(6, some (.cells ty 1 [.raw v]))]
set_option maxRecDepth 100000 in
theorem yiy {b : Nat} {sk : An} {t : Tm} {i : Nat} (hfine : zh7 sk t) {op tn : Int} {tx : Str} {tks : List Tm} {tps : List Ty} (ht : t = .mk op tn tx tks tps) (hi : i ≤ 1000000) (h : zbo op i = true ∨ (zbo op i = false ∧ zb1 op i = true ∧ i - 1 < tps.length)) :
    ∃ (fB : Nat) (ty : TypeId) (vB : Value) (fc : Func) (c : Code), Tryz.prog.funcs[fB]? = some fc ∧ (fc.name == "runtime.NumGoroutine") = false ∧ fc.body = some c ∧
      zdb Tryz.prog 67 [.raw (.pointer (some ⟨b, 0, none⟩)), .imm (.int .i64 i)] [(1, some (.hp (zcr b sk t)))] (.ret (.fn (.func fB) [] [.ref 6 0]) ((1, some (.hp (zcr b sk t))) :: ye7 ty vB)) ∧
      ∀ S : Nat → Bun, (∀ j, ∃ T, ∀ I w bb bs, (S j).P I w bb bs → ∃ vs bs', (zcr b sk T).P vs I w bs') → Rounds ((bp sk i).map (plD b sk)) S 0 →
        zdb Tryz.prog fB [.yld 3, .ref 6 0] ((3, some .pin) :: (4, some (.bun 3 (S 0))) :: ye7 ty vB) (.ret (.tup []) ((3, some .pin) :: (5, some (.bun 3 (S (0 + (bp sk i).length)))) :: ye7 ty vB)) := by
  have hokQ := zh6 hfine
  subst ht
  rcases h with h | ⟨h, h2, h3⟩
  · refine ⟨97, 91, .pointer (some ⟨b, 0, none⟩), _, _, Tryz.func97, by decide +kernel, rfl, ?_, fun S hS hR => ?_⟩
    · exact yaz (zcr b sk _) b op i (zpd hokQ) h
    · have hb : bp sk i = [[]] := by
        obtain ⟨a, o, n, x, ad, c, ks, u, qs, rfl, hv, ea, h1, _⟩ := hfine
        obtain ⟨tks', tps', e, _⟩ := zl3 ea hv
        cases e
        subst ea
        rw [zy5]; simp [bp, h]
      rw [hb] at hR ⊢
      exact yfa b 0 S 0 hR
  · obtain ⟨a, o, n, x, ad, c, ks, u, qs, rfl, hv, ea, h1, hfull, _, h4⟩ := hfine
    obtain ⟨tks', tps', e, _, hl, _, _⟩ := zl3 ea hv
    cases e
    subst ea
    have hi1 : 0 < i := by simp [zb1] at h2; omega
    obtain ⟨q, hq⟩ : ∃ q, qs[i - 1]? = some q := zal (by omega)
    obtain ⟨bb, c2, rfl⟩ := h4 (by omega)
    have hok := zl5 h1 hq
    have hqf := znm hfull hq
    have ei : ((i : Int) - 1).toNat = i - 1 := by omega
    refine ⟨113, 128, .pointer (some ⟨bb, (i - 1) * 4, none⟩), _, _, Tryz.func113, by decide +kernel, rfl, ?_, fun S hS hR => ?_⟩
    · refine ye8 (zcr b _ _) b op i bb qs.length c2 (i - 1) (zpd hokQ) (fun vs I w bs hP => (zei (by simpa only [er] using hP)).2) h h2 (by omega) (by omega) (by omega)
    · have hb : bp (er (.mk true op tn tx (.slice ad ks.length c) ks (.slice (some ⟨bb, 0, none⟩) qs.length c2) qs)) i = (ppaths q).map ((true, i - 1) :: ·) := by
        rw [zy5]; simp only [bp, h, h2, ei, hq, cond_false, cond_true]
      have hpl : (bp (er (.mk true op tn tx (.slice ad ks.length c) ks (.slice (some ⟨bb, 0, none⟩) qs.length c2) qs)) i).map (plD b (er (.mk true op tn tx (.slice ad ks.length c) ks (.slice (some ⟨bb, 0, none⟩) qs.length c2) qs))) = ztm q bb ((i - 1) * 4) := by
        rw [hb, List.map_map]
        apply List.ext_getElem?
        intro j
        rw [List.getElem?_map]
        cases hj : (ppaths q)[j]? with
        | none =>
          rw [List.getElem?_eq_none_iff] at hj
          rw [List.getElem?_eq_none_iff.2 (by rw [zpg]; exact hj)]; rfl
        | some p =>
          obtain ⟨a', b', off', k1, k2⟩ := ztj hok bb ((i - 1) * 4) hj
          rw [k2]
          have e1 : zen (er (.mk true op tn tx (.slice ad ks.length c) ks (.slice (some ⟨bb, 0, none⟩) qs.length c2) qs)) b 0 ((true, i - 1) :: p) = some (er a', b', off') := by
            rw [zjc]
            simp only [zen, zfi, hq, Option.map_some]
            show (zen q bb ((i - 1) * 4) p).map _ = _
            rw [k1]; rfl
          simp only [Option.map_some, Function.comp, plD, e1]
      rw [hpl] at hR
      have hlen : (bp (er (.mk true op tn tx (.slice ad ks.length c) ks (.slice (some ⟨bb, 0, none⟩) qs.length c2) qs)) i).length = (ztm q bb ((i - 1) * 4)).length := by rw [← hpl, List.length_map]
      rw [hlen]
      refine ydr q bb ((i - 1) * 4) S 0 hok (fun j I w b1 bs hP => ?_) hR
      obtain ⟨T, hT⟩ := hS j
      obtain ⟨vs, bs', a2, e2, hv2, hP2⟩ := hT I w b1 bs hP
      rcases a2 with ⟨s', o', n', x', v', ks', u', qs'⟩ | ⟨s0, cs0, c0⟩
      case im => simp [er] at e2
      simp only [er, An.mk.injEq] at e2
      obtain ⟨rfl, rfl, rfl, _, rfl, _, rfl, e3⟩ := e2
      have hq' : (ers qs')[i - 1]? = some (er q) := by rw [e3]; exact zld hq
      obtain ⟨q', k1, k2⟩ := ynt hq'
      have hw := hP2.2.2.2.2.2
      simp only [anW] at hw
      have hg := zdg (hw.2 trivial).2 k1
      rw [Nat.zero_add] at hg
      have := ybi q' bb ((i - 1) * 4) ((zj8 q').1 (by rw [k2]; exact (zj8 q).2 hqf)) hg.1 hg.2.1 hg.2.2
      rw [← yfz, ← k2, yfz]
      exact this
def zew : List (Str × Str) → V
  | [] => .nilp
  | (x, y) :: r => .ip 125 [.str x, .str y, zew r] 0
def ziq : List (Str × Str) → Str → Option Str
  | [], _ => none
  | (x, y) :: r, s => if x == s then some y else ziq r s
set_option maxRecDepth 100000 in
theorem ykk (l : List (Str × Str)) (s : Str) : zau Tryz.prog 63 [zew l, .str s] (.tup [.str ((ziq l s).getD []), .bool (ziq l s).isSome]) := by
  refine zaf zbf Tryz.func63 (by decide +kernel) rfl [1] rfl rfl ?_
  refine fg_ [] rfl (by simp) ?_
  refine zaj (fun r : List (Str × Str) => [(0, .imm (zew r)), (1, .imm (.str s))]) (fun _ => []) [1] (fun r => r.length) (fun r => ziq l s = ziq r s) l rfl ⟨rfl, rfl, trivial⟩ trivial rfl fun r hi ih => ?_
  rcases r with _ | ⟨⟨x, y⟩, r⟩
  · refine fd_ [] rfl (by simp) ?_
    refine zaa rfl (fun h => by simp at h) (fun h => ?_)
    refine zav rfl ?_
    refine fd_ [] rfl (by simp) ?_
    rw [hi]
    exact zab ⟨_, rfl, tV rfl, trivial⟩
  · refine yaq 0 rfl ?_
    refine fd_ [] rfl (by simp) ?_
    refine zaa rfl (fun h => ?_) (fun h => by simp at h)
    refine fd_ [] rfl (by simp) ?_
    refine zaa rfl (fun h2 => ?_) (fun h2 => ?_)
    · refine fd_ [] rfl (by simp) ?_
      have e : ziq l s = some y := by rw [hi]; simp at h2; simp [ziq, h2]
      rw [e]
      exact zab ⟨_, rfl, tV rfl, trivial⟩
    · refine fd_ [] rfl (by simp) ?_
      have e : ziq ((x, y) :: r) s = ziq r s := by simp at h2; simp [ziq, h2]
      exact zae (ih r (by simp) (by rw [hi, e])) ⟨rfl, rfl, trivial⟩ trivial rfl
set_option maxRecDepth 100000 in
theorem yc4 (l : List Str) (len : Nat) (hl : l.length ≤ 699) : zdb Tryz.prog 34 [.own 1 len] [(1, some (.row 9 1 (zbb l)))] (.ret (.imm (.str (za3 l))) [(1, some (.row 9 1 (zbb l)))]) := by
  refine zmo (stL := [(1, some (.row 9 1 (zbb l)))]) (st0 := []) (st1 := []) (zm2 l hl) rfl trivial (by simp [nms, nmD]) (fun i b h j hj => ?_) fun I J μ w hst hle hb xs hx => ?_
  · rcases zah.1 h with ⟨_, rfl⟩ | ⟨_, h⟩
    · simp [nmB] at hj
    · simp [zaq, lk] at h
  · refine ⟨hx.1, fun i v d h1 h2 => ?_⟩
    match i with
    | 0 =>
      simp at h2; subst h2
      have h3 := hx.2 0 v _ h1 rfl
      cases h3 with
      | own _ _ a cap hm =>
        have hl : zaq [(1, some (.row 9 1 (zbb l)))] 1 (.row 9 1 (zbb l)) := zah.2 (.inl ⟨rfl, rfl⟩)
        obtain ⟨g, q1, q2⟩ := hst.blk 1 _ hl
        rw [hm] at q1; cases q1
        exact .imm _ _ (zpl q2 hle fun b ho => hb 1 _ _ b hl hm ho)
    | i + 1 => simp at h2
end Go.Hk

/- A part of a term that is zb6 by address is lent and comes back, its texts changed. -/
namespace Go.Hk
open Go.Proofs
def yfd (sk : An) (t : Tm) : Asn where
  P := fun vs I w bs => ∃ a, er a = sk ∧ vA a = dTmc t ∧ (zzg a).P vs I w bs
  mono := fun h ⟨a, h1, h2, h3⟩ => ⟨a, h1, h2, (zzg a).mono h h3⟩
  loc := fun h ⟨a, h1, h2, h3⟩ => ⟨a, h1, h2, (zzg a).loc h h3⟩
def yi5 (b : Nat) (sk : An) (t : Tm) (i : Nat) : Asn where
  P := fun _ I w bs => ∃ a c w0, er a = sk ∧ vA a = dTmc t ∧ (zir b a).P [] I w0 (b :: anB a) ∧ zfi a (false, i) = some (c, zce (match a with | .mk _ _ _ _ v _ _ _ => v | _ => .bool true), i * 5) ∧ bs = (b :: anB a).filter (fun k => decide (k ∉ anB c)) ∧ ∀ k ∈ bs, w.heap[k]? = w0.heap[k]?
  mono := fun h ⟨a, c, w0, h1, h2, h3, h4⟩ => ⟨a, c, w0, h1, h2, (zir b a).mono h h3, h4⟩
  loc := fun h ⟨a, c, w0, h1, h2, h3, h4, h5, h6⟩ => ⟨a, c, w0, h1, h2, h3, h4, h5, fun k hk => (h k hk).trans (h6 k hk)⟩
theorem yf0 {α : Type} {l : List α} {i : Nat} {c : α} (h : l[i]? = some c) (d : α) : l = l.take i ++ c :: l.drop (i + 1) ∧ l.set i d = l.take i ++ d :: l.drop (i + 1) := by
  have hlt := (List.getElem?_eq_some_iff.1 h).1
  constructor
  · have := List.take_append_drop i l
    rw [zap h] at this
    exact this.symm
  · exact List.set_eq_take_append_cons_drop.trans (if_pos hlt)
theorem yjp {I : Imm} {w0 w : World} {o n : Int} {x : Str} {v : Value} {ks : List An} {u : Value} {qs : List An} {i : Nat} {c c2 : An} (hk : ks[i]? = some c) (h : anW I w0 (.mk true o n x v ks u qs)) (nd : (anB (.mk true o n x v ks u qs)).Nodup)
    (hw : ∀ k ∈ anB (.mk true o n x v ks u qs), k ∉ anB c → w.heap[k]? = w0.heap[k]?) (h2 : anW I w c2) (h3 : cA c2 = cA c) (h4 : zcz c2 = zcz c) : anW I w (.mk true o n x v (ks.set i c2) u qs) := by
  obtain ⟨e1, e2⟩ := yf0 hk c2
  have hli : (ks.take i).length = i := by rw [List.length_take]; have := (List.getElem?_eq_some_iff.1 hk).1; omega
  simp only [anW] at h ⊢
  have hB : zd4 ks = zd4 (ks.take i) ++ (anB c ++ zd4 (ks.drop (i + 1))) := by
    conv => lhs; rw [e1]
    rw [zlk]; rfl
  simp only [anB] at nd hw
  rw [hB] at nd
  have n1 := List.nodup_append.1 nd
  have n2 := List.nodup_append.1 n1.1
  have n3 := List.nodup_append.1 n2.2.1
  have n4 := List.nodup_append.1 n3.2.1
  have hrow : ∀ k ∈ zdp v ks.length, w.heap[k]? = w0.heap[k]? := fun k hk => hw k (by simp [hk]) fun hc => n2.2.2 k hk k (by simp [hc]) rfl
  have hb : w.heap[zce v]? = w0.heap[zce v]? := hrow _ (by
    have := (List.getElem?_eq_some_iff.1 hk).1
    cases hl : ks.length with
    | zero => omega
    | succ m => simp [zdp])
  have h12 := h.1.2
  rw [e1, zif] at h12
  simp only [zfk] at h12
  rw [hli, Nat.zero_add] at h12
  refine ⟨⟨?_, ?_⟩, fun _ => ⟨?_, ?_⟩⟩
  · rw [List.length_set]; exact zl0 hrow h.1.1
  · rw [e2, zif]
    simp only [zfk]
    rw [hli, Nat.zero_add]
    refine ⟨zfx (fun _ => hb) (fun k hk => hw k (by rw [hB]; simp [hk]) fun hc => n3.2.2 k hk k (by simp [hc]) rfl) h12.1, ⟨by rw [h4]; exact h12.2.1.1, by rw [h3]; exact zsh hb h12.2.1.2.1, h2⟩, ?_⟩
    exact zfx (fun _ => hb) (fun k hk => hw k (by rw [hB]; simp [hk]) fun hc => n4.2.2 k hc k hk rfl) h12.2.2
  · exact zl0 (fun k hk => hw k (by simp [hk]) fun hc => n1.2.2 k (by simp [hc]) k (by simp [hk]) rfl) (h.2 trivial).1
  · exact zfx (fun hne => hw _ (by cases qs with | nil => exact absurd rfl hne | cons => simp [zdp]) fun hc => n1.2.2 _ (by simp [hc]) (zce u) (by cases qs with | nil => exact absurd rfl hne | cons => simp [zdp]) rfl) (fun k hk => hw k (by simp [hk]) fun hc => n1.2.2 k (by simp [hc]) k (by simp [hk]) rfl) (h.2 trivial).2
def skK : An → Nat → Option An
  | .mk _ _ _ _ _ ks _ _, i => ks[i]?
  | .im _ _ _, _ => none
def tmK : Tm → Nat → Option Tm
  | .mk _ _ _ ks _, i => ks[i]?
def zcm : Tm → Nat → Tm → Tm
  | .mk op n x ks ps, i, k => .mk op n x (ks.set i k) ps
theorem zj1 {a : An} {t : Tm} (hq : okQ a) (hv : vA a = dTmc t) {i : Nat} {k : Tm} (hk : tmK t i = some k) : ∃ o n x v ks u qs c tx tks tps, a = .mk true o n x v ks u qs ∧ t = .mk o n tx tks tps ∧ tx = x ∧ ks[i]? = some c ∧ vA c = dTmc k ∧ zfi a (false, i) = some (c, zce v, i * 5) ∧ tks[i]? = some k ∧ vAs ks = zc2 tks ∧ vAs qs = zcf tps := by
  rcases a with ⟨s, o, n, x, v, ks, u, qs⟩ | ⟨s0, cs0, c0⟩
  case im => exact hq.elim
  obtain ⟨rfl, _⟩ := hq
  obtain ⟨op, tn, tx, tks, tps⟩ := t
  simp only [vA, dTmc, List.cons.injEq, V.sl.injEq, V.int.injEq, V.str.injEq, true_and, and_true] at hv
  obtain ⟨rfl, rfl, rfl, e1, e2⟩ := hv
  simp only [tmK] at hk
  have hl : ks.length = tks.length := by have := congrArg List.length e1; simpa using this
  obtain ⟨c, hc⟩ : ∃ c, ks[i]? = some c := zal (by rw [hl]; exact (List.getElem?_eq_some_iff.1 hk).1)
  have hvc : vA c = dTmc k := by
    have := congrArg (fun l => l[i]?) e1
    simp only [zzi hc, zbv hk] at this
    exact Option.some.inj this
  exact ⟨o, n, x, v, ks, u, qs, c, x, tks, tps, rfl, rfl, rfl, hc, hvc, by simp [zfi, hc, szA], hk, e1, e2⟩
theorem yep {b : Nat} {sk skc : An} {t k : Tm} {i : Nat} (hq : okQ sk) (hs : skK sk i = some skc) (hk : tmK t i = some k) {vs : List Value} {I : Imm} {w : World} {bs : List Nat} (h : (zcr b sk t).P vs I w bs) :
    ∃ b1 b2, (∀ k ∈ b1, k ∈ bs) ∧ (∀ k ∈ b2, k ∈ bs) ∧ (∀ k ∈ b1, k ∉ b2) ∧ (yi5 b sk t i).P [] I w b1 ∧ (yfd skc k).P [] I w b2 := by
  obtain ⟨a, rfl, hv, hP⟩ := h
  obtain ⟨o, n, x, v, ks, u, qs, c, tx, tks, tps, rfl, rfl, _, hc, hvc, hkid, _⟩ := zj1 ((zhf a).1 hq) hv hk
  have hskc : er c = skc := by
    simp only [er, skK] at hs
    rw [zld hc] at hs
    exact Option.some.inj hs
  have hbs := hP.1
  have hnd := hP.2.1
  obtain ⟨k1, k2, k3⟩ := zh3 hkid
  have hnd2 : (anB (.mk true o n x v ks u qs)).Nodup := by rw [hbs] at hnd; exact (List.nodup_cons.1 hnd).2
  refine ⟨(b :: anB (.mk true o n x v ks u qs)).filter (fun k => decide (k ∉ anB c)), anB c, fun k hk => ?_, fun k hk => ?_, fun k hk => ?_, ?_, ?_⟩
  · rw [hbs]; exact (List.mem_filter.1 hk).1
  · rw [hbs]; exact List.mem_cons_of_mem _ (k2 k hk)
  · have := (List.mem_filter.1 hk).2; simpa using this
  · refine ⟨.mk true o n x v ks u qs, c, w, rfl, hv, ?_, hkid, rfl, fun _ _ => rfl⟩
    rw [hbs] at hP
    exact hP
  · refine ⟨c, hskc, hvc, rfl, (k3 hnd2).1, ?_⟩
    have hw := hP.2.2.2.2.2
    simp only [anW] at hw
    exact (zdg hw.1.2 hc).2.2
theorem ykt {b : Nat} {o n : Int} {x : Str} {v : Value} {ks : List An} {u : Value} {qs : List An} {t : Tm} {i : Nat} {vs : List Value} {I : Imm} {w : World} {bs : List Nat} (h : (yi5 b (.mk true o n x v ks u qs) t i).P vs I w bs) : zda I w b 3 [.raw v] := by
  obtain ⟨a, c, w0, he, hv, hP, hkid, hbs, heq⟩ := h
  have := (zei (b := b) (t := t) (vs := []) (I := I) (w := w0) ⟨a, he, hv, hP⟩).1
  obtain ⟨cur, ty, k, q1, q2⟩ := this
  refine ⟨cur, ty, k, ?_, q2⟩
  have hb : b ∈ bs := by
    rw [hbs, List.mem_filter]
    refine ⟨by simp, ?_⟩
    have := (List.nodup_cons.1 hP.2.1).1
    simp only [decide_eq_true_eq]
    exact fun hc => this ((zh3 hkid).2.1 b hc)
  rw [heq b hb]; exact q1
theorem yeq {b : Nat} {sk skc : An} {t k : Tm} {i : Nat} {o n : Int} {x : Str} {len cap rb : Nat} {ks : List An} {u : Value} {qs : List An} {oc nc oc2 nc2 : Int} {xc xc2 : Str} {vc : Value} {ksc : List An} {uc : Value} {qsc : List An} {ks2 : List Tm} {ps2 : List Ty}
    (hq : okQ sk) (hsk : sk = .mk true o n x (.slice (some ⟨rb, 0, none⟩) len cap) ks u qs) (hs : skK sk i = some skc) (hskc : skc = .mk true oc nc xc vc ksc uc qsc) (hk : tmK t i = some k) (hk2 : k = .mk oc2 nc2 xc2 ks2 ps2) {vs : List Value} {I : Imm} {w : World} {bs : List Nat} (h : (yi5 b sk t i).P vs I w bs) :
    zda I w rb (i * 5) [.imm (.int .i64 oc2), .imm (.int .i64 nc2), .imm (.str xc2), .raw vc, .raw uc] := by
  obtain ⟨a, c, w0, he, hv, hP, hkid, hbs, heq⟩ := h
  subst he
  obtain ⟨o', n', x', v', ks', u', qs', c', tx, tks, tps, rfl, rfl, rfl, hc, hvc, hkid', htk, e1, e2⟩ := zj1 ((zhf a).1 hq) hv hk
  rw [hkid] at hkid'
  simp only [Option.some.injEq, Prod.mk.injEq] at hkid'
  obtain ⟨rfl, _, _⟩ := hkid'
  have hvv : v' = .slice (some ⟨rb, 0, none⟩) len cap := by simp only [er, An.mk.injEq] at hsk; exact hsk.2.2.2.2.1
  have hskc1 : er c = skc := by
    simp only [er, skK] at hs
    rw [zld hc] at hs
    exact Option.some.inj hs
  rw [hskc] at hskc1
  rcases c with ⟨sc, oc', nc', yc, vc', kc, uc', qc⟩ | ⟨s0, cs0, c0⟩
  case im => simp [er] at hskc1
  simp only [er, An.mk.injEq] at hskc1
  obtain ⟨rfl, rfl, rfl, _, rfl, _, rfl, _⟩ := hskc1
  subst hk2
  simp only [vA, dTmc, List.cons.injEq, V.int.injEq, V.str.injEq, true_and] at hvc
  obtain ⟨rfl, rfl, rfl, _⟩ := hvc
  have hw := hP.2.2.2.2.2
  simp only [anW] at hw
  have hg := zdg hw.1.2 hc
  have hone := zy3 hg.2.2
  obtain ⟨cur, ty, kk, q1, q2⟩ := hg.2.1
  obtain ⟨kb1, kb2, kb3⟩ := zh3 hkid
  have hnd : (anB (.mk true o' n' tx v' ks' u' qs')).Nodup := (List.nodup_cons.1 hP.2.1).2
  have hrb : rb ∈ bs := by
    rw [hbs, List.mem_filter]
    have h1 := (kb3 hnd).2
    rw [hvv] at h1 kb1
    rw [hvv]
    have h1 : rb ∉ anB (.mk true oc' nc' yc vc' kc uc' qc) := h1
    exact ⟨List.mem_cons_of_mem _ kb1, by simpa using h1⟩
  rw [hvv] at q1
  simp only [Nat.zero_add, szA] at q2
  refine ⟨cur, ty, kk, (heq rb hrb).trans q1, fun j d hj => ?_⟩
  match j with
  | 0 => simp at hj; subst hj; exact ⟨_, q2 0 _ rfl, hone _ (by simp [cA]), .imm _ _ (.int _ _)⟩
  | 1 => simp at hj; subst hj; exact ⟨_, q2 1 _ rfl, hone _ (by simp [cA]), .imm _ _ (.int _ _)⟩
  | 2 => simp at hj; subst hj; exact ⟨_, q2 2 _ rfl, hone _ (by simp [cA]), .imm _ _ (.encStr _ _)⟩
  | 3 => simp at hj; subst hj; exact ⟨_, q2 3 _ rfl, hone _ (by simp [cA]), .raw _ (hone _ (by simp [cA]))⟩
  | 4 => simp at hj; subst hj; exact ⟨_, q2 4 _ rfl, hone _ (by simp [cA]), .raw _ (hone _ (by simp [cA]))⟩
  | j + 5 => simp at hj
theorem ygb {b : Nat} {sk skc : An} {t k : Tm} {i : Nat} (hq : okQ sk) (hf : zjk skc) (hs : skK sk i = some skc) (hk : tmK t i = some k) {vs : List Value} {I : Imm} {w : World} {bs : List Nat} (h : (zcr b sk t).P vs I w bs) :
    ∃ o n x v js u qs tx tks tps, skc = .mk true o n x v js u qs ∧ k = .mk o n tx tks tps := by
  obtain ⟨a, rfl, hv, hP⟩ := h
  obtain ⟨o, n, x, v, ks, u, qs, c, tx, tks, tps, rfl, rfl, _, hc, hvc, hkid, _⟩ := zj1 ((zhf a).1 hq) hv hk
  have hskc : er c = skc := by
    simp only [er, skK] at hs
    rw [zld hc] at hs
    exact Option.some.inj hs
  have hw := hP.2.2.2.2.2
  simp only [anW] at hw
  have hg := (zdg hw.1.2 hc).1
  rcases c with ⟨sc, oc', nc', yc, vc', kc, uc', qc⟩ | ⟨s0, cs0, c0⟩
  case im => rw [← hskc] at hf; exact hf.elim
  have hg : sc = true := hg
  subst hg
  obtain ⟨o2, n2, x2, ks2, ps2⟩ := k
  simp only [vA, dTmc, List.cons.injEq, V.int.injEq, V.str.injEq, true_and] at hvc
  obtain ⟨rfl, rfl, _⟩ := hvc
  exact ⟨_, _, _, _, _, _, _, _, _, _, hskc.symm, rfl⟩
theorem zk4 {b : Nat} {sk : An} {t : Tm} {o n : Int} {x : Str} {v : Value} {ks : List An} {u : Value} {qs : List An} {o2 n2 : Int} {x2 : Str} {ks2 : List Tm} {ps2 : List Ty} (hsk : sk = .mk true o n x v ks u qs) (ht : t = .mk o2 n2 x2 ks2 ps2) {vs : List Value} {I : Imm} {w : World} {bs : List Nat} (h : (zcr b sk t).P vs I w bs) :
    zda I w b 0 [.imm (.int .i64 o2), .imm (.int .i64 n2), .imm (.str x2), .raw v, .raw u] := by
  obtain ⟨a, he, hv, hP⟩ := h
  rw [hsk] at he
  rcases a with ⟨s, o', n', x', v', ks', u', qs'⟩ | ⟨s0, cs0, c0⟩
  case im => simp [er] at he
  simp only [er, An.mk.injEq] at he
  obtain ⟨rfl, rfl, rfl, _, rfl, _, rfl, _⟩ := he
  subst ht
  simp only [vA, dTmc, List.cons.injEq, V.int.injEq, V.str.injEq, true_and] at hv
  obtain ⟨rfl, rfl, rfl, _⟩ := hv
  have hone := zy3 hP.2.2.2.2.2
  obtain ⟨cur, ty, kk, q1, q2⟩ := hP.2.2.2.2.1
  refine ⟨cur, ty, kk, q1, fun j d hj => ?_⟩
  match j with
  | 0 => simp at hj; subst hj; exact ⟨_, q2 0 _ rfl, hone _ (by simp [cA]), .imm _ _ (.int _ _)⟩
  | 1 => simp at hj; subst hj; exact ⟨_, q2 1 _ rfl, hone _ (by simp [cA]), .imm _ _ (.int _ _)⟩
  | 2 => simp at hj; subst hj; exact ⟨_, q2 2 _ rfl, hone _ (by simp [cA]), .imm _ _ (.encStr _ _)⟩
  | 3 => simp at hj; subst hj; exact ⟨_, q2 3 _ rfl, hone _ (by simp [cA]), .raw _ (hone _ (by simp [cA]))⟩
  | 4 => simp at hj; subst hj; exact ⟨_, q2 4 _ rfl, hone _ (by simp [cA]), .raw _ (hone _ (by simp [cA]))⟩
  | j + 5 => simp at hj
theorem yj2 {b : Nat} {sk : An} {t : Tm} {vs : List Value} {I : Imm} {w : World} {bs : List Nat} (h : (zcr b sk t).P vs I w bs) : ∃ bs', (∀ k ∈ bs', k ∈ bs) ∧ (yfd sk t).P [] I w bs' := by
  obtain ⟨a, he, hv, hP⟩ := h
  obtain ⟨h1, h2, _, _, _, h6⟩ := hP
  rw [h1] at h2
  exact ⟨anB a, fun k hk => by rw [h1]; exact List.mem_cons_of_mem _ hk, a, he, hv, rfl, (List.nodup_cons.1 h2).2, h6⟩
theorem zzm {cur : List Value} {off : Nat} {c0 c1 c2 c3 c4 y : Value} (hf : off + 5 ≤ cur.length) (h : ∀ (j : Nat) (c : Value), [c0, c1, c2, c3, c4][j]? = some c → cur[off + j]? = some c) :
    cur.take off ++ [c0, c1, y, c3, c4] ++ cur.drop (off + 5) = cur.take (off + 2) ++ [y] ++ cur.drop (off + 2 + 1) := by
  apply List.ext_getElem?
  intro i
  have e1 := zf2 (cur := cur) (off := off) (cs := [c0, c1, y, c3, c4]) (by simpa using hf) i
  have e2 := zf2 (cur := cur) (off := off + 2) (cs := [y]) (by simp; omega) i
  simp only [List.length_cons, List.length_nil, Nat.zero_add, Nat.reduceAdd] at e1 e2
  rw [e1, e2]
  by_cases h1 : i < off
  · rw [if_pos h1, if_pos (by omega)]
  · rw [if_neg h1]
    by_cases h2 : i < off + 5
    · rw [if_pos h2]
      obtain ⟨j, rfl⟩ : ∃ j, i = off + j := ⟨i - off, by omega⟩
      rw [Nat.add_sub_cancel_left]
      match j, h2 with
      | 0, _ => rw [if_pos (by omega), h 0 c0 rfl]; rfl
      | 1, _ => rw [if_pos (by omega), h 1 c1 rfl]; rfl
      | 2, _ => rw [if_neg (by omega), if_pos (by omega)]; simp
      | 3, _ => rw [if_neg (by omega), if_neg (by omega), h 3 c3 rfl]; rfl
      | 4, _ => rw [if_neg (by omega), if_neg (by omega), h 4 c4 rfl]; rfl
      | j + 5, h2 => omega
    · rw [if_neg h2, if_neg (by omega), if_neg (by omega)]
theorem yme {a d : An} {o n : Int} {x : Str} {v : Value} {ks : List An} {u : Value} {qs : List An} (h : er a = er d) (hd : d = .mk true o n x v ks u qs) : ∃ y ks' qs', a = .mk true o n y v ks' u qs' ∧ ers ks' = ers ks ∧ ers qs' = ers qs := by
  subst hd
  rcases a with ⟨s, o', n', x', v', ks', u', qs'⟩ | ⟨s0, cs0, c0⟩
  case im => simp [er] at h
  simp only [er, An.mk.injEq] at h
  obtain ⟨rfl, rfl, rfl, _, rfl, h1, rfl, h2⟩ := h
  exact ⟨x', ks', qs', rfl, h1, h2⟩
theorem yeo {b : Nat} {sk skc : An} {t k : Tm} {i : Nat} {o2 n2 : Int} {x2 : Str} {ks2 : List Tm} {ps2 : List Ty} {o n : Int} {x : Str} {len cap rb : Nat} {ks : List An} {u : Value} {qs : List An} {oc nc : Int} {xc : Str} {vc : Value} {ksc : List An} {uc : Value} {qsc : List An} (j : Nat)
    (hq : okQ sk) (hsk : sk = .mk true o n x (.slice (some ⟨rb, 0, none⟩) len cap) ks u qs) (hs : skK sk i = some skc) (hskc : skc = .mk true oc nc xc vc ksc uc qsc) (hk : tmK t i = some k) :
    zih (yi5 b sk t i) (yfd skc (.mk o2 n2 x2 ks2 ps2)) (zcr b sk (zcm t i (.mk o2 n2 x2 ks2 ps2))) j rb (i * 5) [.imm (.int .i64 o2), .imm (.int .i64 n2), .imm (.str x2), .raw vc, .raw uc] := by
  rintro us vs I w b1 b2 ⟨a, c, w0, he, hv, hP, hkid, hbs, heq⟩ ⟨a2, he2, hv2, hb2, hnd2, hw2⟩ hdis
  subst he
  obtain ⟨o', n', x', v', ks', u', qs', c', tx, tks, tps, rfl, rfl, rfl, hc, hvc, hkid', htk, e1, e2⟩ := zj1 ((zhf a).1 hq) hv hk
  rw [hkid] at hkid'
  simp only [Option.some.injEq, Prod.mk.injEq] at hkid'
  obtain ⟨rfl, _, _⟩ := hkid'
  have hvv : v' = .slice (some ⟨rb, 0, none⟩) len cap := by simp only [er, An.mk.injEq] at hsk; exact hsk.2.2.2.2.1
  have hskc1 : er c = skc := by
    simp only [er, skK] at hs
    rw [zld hc] at hs
    exact Option.some.inj hs
  have hec : er a2 = er c := by rw [he2, hskc1]
  -- the nodes
  rcases a2 with ⟨s2, o2', n2', y2, v2, k2, u2, q2⟩ | ⟨s0, cs0, c0⟩
  case im => rw [hskc] at he2; simp [er] at he2
  rw [hskc] at he2
  simp only [er, An.mk.injEq] at he2
  obtain ⟨rfl, rfl, rfl, _, rfl, _, rfl, _⟩ := he2
  simp only [vA, dTmc, List.cons.injEq, V.sl.injEq, V.int.injEq, V.str.injEq, true_and, and_true] at hv2
  obtain ⟨rfl, rfl, rfl, g1, g2⟩ := hv2
  rcases c with ⟨sc, oc', nc', yc, vc', kc, uc', qc⟩ | ⟨s0, cs0, c0⟩
  case im => simp [er] at hec
  simp only [er, An.mk.injEq] at hec
  obtain ⟨rfl, rfl, rfl, _, rfl, hk2, rfl, hq2⟩ := hec
  -- before the store: the part with its old text
  have hnd : (anB (.mk true o' n' tx v' ks' u' qs')).Nodup := (List.nodup_cons.1 hP.2.1).2
  have hbn : b ∉ anB (.mk true o' n' tx v' ks' u' qs') := (List.nodup_cons.1 hP.2.1).1
  obtain ⟨kb1, kb2, kb3⟩ := zh3 hkid
  have hBc : anB (.mk true o2' n2' yc v2 k2 u2 q2) = anB (.mk true o2' n2' yc v2 kc u2 qc) := by
    rw [← zza, ← zza (.mk true o2' n2' yc v2 kc u2 qc)]; simp only [er, hk2, hq2]
  have hBc2 : anB (.mk true o2' n2' y2 v2 k2 u2 q2) = anB (.mk true o2' n2' yc v2 k2 u2 q2) := rfl
  have hin : ∀ k, k ∈ b :: anB (.mk true o' n' tx v' ks' u' qs') → k ∉ anB (.mk true o2' n2' yc v2 kc u2 qc) → w.heap[k]? = w0.heap[k]? := fun k h1 h2 => heq k (by rw [hbs, List.mem_filter]; exact ⟨h1, by simpa using h2⟩)
  have hw1 : anW I w (.mk true o2' n2' yc v2 k2 u2 q2) := by simpa only [anW] using hw2
  have hA1 := yjp (c2 := .mk true o2' n2' yc v2 k2 u2 q2) hc hP.2.2.2.2.2 hnd (fun k h1 h2 => hin k (List.mem_cons_of_mem _ h1) h2) hw1 rfl rfl
  have hloc0 : zen (.mk true o' n' tx v' ks' u' qs') b 0 [(false, i)] = some (.mk true o2' n2' yc v2 kc u2 qc, zce v', i * 5) := by
    simp only [zen]; rw [hkid]
  have heA : er (.mk true o' n' tx v' (ks'.set i (.mk true o2' n2' yc v2 k2 u2 q2)) u' qs') = er (.mk true o' n' tx v' ks' u' qs') :=
    yij _ _ (.mk true o2' n2' yc v2 k2 u2 q2) (false, i) _ _ hkid (by simp only [er, hk2, hq2])
  have hBA : anB (.mk true o' n' tx v' (ks'.set i (.mk true o2' n2' yc v2 k2 u2 q2)) u' qs') = anB (.mk true o' n' tx v' ks' u' qs') := by rw [← zza, heA, zza]
  have hbW : w.heap[b]? = w0.heap[b]? := hin b (by simp) fun h => hbn (kb2 b h)
  have hR1 : (zir b (.mk true o' n' tx v' (ks'.set i (.mk true o2' n2' yc v2 k2 u2 q2)) u' qs')).P [] I w (b :: anB (.mk true o' n' tx v' ks' u' qs')) := by
    obtain ⟨_, p2, p3, ⟨cur, p4, p5⟩, p6, _⟩ := hP
    exact ⟨by rw [hBA], p2, rfl, ⟨cur, hbW.trans p4, p5⟩, zsh hbW p6, hA1⟩
  have hc1 : (ks'.set i (.mk true o2' n2' yc v2 k2 u2 q2))[i]? = some (.mk true o2' n2' yc v2 k2 u2 q2) := by
    rw [List.getElem?_set_self (List.getElem?_eq_some_iff.1 hc).1]
  have hloc1 : zen (.mk true o' n' tx v' (ks'.set i (.mk true o2' n2' yc v2 k2 u2 q2)) u' qs') b 0 [(false, i)] = some (.mk true o2' n2' yc v2 k2 u2 q2, rb, i * 5) := by
    simp only [zen, zfi, hc1, Option.map_some, szA, hvv, zce]
  obtain ⟨s1, cur, ty, s2, s3, s4⟩ := zs6 y2 hloc1 [] I w _ hR1
  have hrb : rb ∉ anB (.mk true o2' n2' yc v2 kc u2 qc) := by
    have := (kb3 hnd).2
    rw [hvv] at this
    exact this
  have hfit : i * 5 + 5 ≤ cur.size := by
    obtain ⟨_, cur2, ty2, r2, r3⟩ := zk3 hR1 hloc1
    rw [s2] at r2; cases r2
    exact r3
  refine ⟨?_, cur, ty, s2, hfit, fun cs hl hrep hone => ?_⟩
  · rw [hbs, List.mem_filter]
    exact ⟨s1, by simpa using hrb⟩
  · have hcs : cs = [.int .i64 o2', .int .i64 n2', zwn y2, v2, u2] := by
      match cs, hl with
      | [c0, c1, c2, c3, c4], _ =>
        have e0 := (hrep 0 c0 _ rfl rfl).immInv.intInv
        have e1 := (hrep 1 c1 _ rfl rfl).immInv.intInv
        have e2 := zp2 (hrep 2 c2 _ rfl rfl)
        have e3 := (hrep 3 c3 _ rfl rfl).rawInv
        have e4 := (hrep 4 c4 _ rfl rfl).rawInv
        rw [e0, e1, e2, e3, e4]
    subst hcs
    have hat := (zvl hloc1 hR1.2.2.2.2.1 hR1.2.2.2.2.2).1
    obtain ⟨cur', ty', k', t1, t2⟩ := hat
    rw [s2] at t1; cases t1
    have hsp := zzm (cur := cur.toList) (off := i * 5) (y := zwn y2) (c0 := .int .i64 o2') (c1 := .int .i64 n2') (c2 := zwn yc) (c3 := v2) (c4 := u2) (by simpa using hfit) (fun j c hj => by have := t2 j c (by simpa [cA] using hj); simpa using this)
    refine ⟨b :: anB (.mk true o' n' tx v' ks' u' qs'), fun k hk => ?_, ?_⟩
    · by_cases hkc : k ∈ anB (.mk true o2' n2' yc v2 kc u2 qc)
      · right; rw [hb2, hBc2, hBc]; exact hkc
      · left; rw [hbs, List.mem_filter]; exact ⟨hk, by simpa using hkc⟩
    · simp only [List.length_cons, List.length_nil, Nat.zero_add, Nat.reduceAdd]
      rw [hsp]
      have := s4 [zwn y2] ⟨rfl, fun j c d h1 h2 => by
        match j with
        | 0 => simp at h1 h2; subst h1; subst h2; exact .imm _ _ (.encStr _ _)
        | j + 1 => simp at h1⟩ (by simp; rfl)
      simp only [zeu, List.length_singleton] at this
      refine ⟨_, ?_, ?_, this⟩
      · rw [zro [(false, i)] _ b 0 _ _ _ _ hloc1 (by simp [er]), heA]
      · simp only [zm8, zfi, hc1, Option.map_some, zxe, vA, zcm, dTmc, List.set_set]
        congr 4
        · rw [zgs, List.map_set, ← zgs, e1, zpq]
          simp only [vA, dTmc, g1, g2]
        · rw [e2]
end Go.Hk

/- What namer.in computes, and plain facts of it. -/
namespace Go.Hk
open Go.Proofs
abbrev Sc := List (Str × Str)
def zin (i : Int) (st : Nat × Tm × List Str × Sc) (x : Str) : Nat × Tm × List Str × Sc :=
  (st.1 + 1, zdh st.2.1 i st.1 (za3 st.2.2.1), st.2.2.1 ++ [za3 st.2.2.1], (x, za3 st.2.2.1) :: st.2.2.2)
def zli (i : Int) (names : List Str) (T : Tm) (tk : List Str) (s : Sc) : Nat × Tm × List Str × Sc := names.foldl (zin i) (0, T, tk, s)
def l1 : Nat → Nat → Tm → List Str → Sc → List Sc → Tm × List Str × List Sc
  | 0, _, T, tk, _, acc => (T, tk, acc)
  | m + 1, i, T, tk, s, acc => l1 m (i + 1) (zli i (zad T i) T tk s).2.1 (zli i (zad T i) T tk s).2.2.1 s (acc ++ [(zli i (zad T i) T tk s).2.2.2])
def yjr : Tm → List Tm → Tm
  | .mk op n x _ ps, ks => .mk op n x ks ps
mutual
def zlh : Tm → Sc → List Str → Tm × List Str
  | .mk op n x ks ps, s, tk => if op = 4 then (.mk op n ((ziq s x).getD x) ks ps, tk) else
    (yjr (l1 ks.length 0 (.mk op n x ks ps) tk s []).1 (zgr ks (l1 ks.length 0 (.mk op n x ks ps) tk s []).2.2 (l1 ks.length 0 (.mk op n x ks ps) tk s []).2.1).1,
      (zgr ks (l1 ks.length 0 (.mk op n x ks ps) tk s []).2.2 (l1 ks.length 0 (.mk op n x ks ps) tk s []).2.1).2)
def zgr : List Tm → List Sc → List Str → List Tm × List Str
  | [], _, tk => ([], tk)
  | k :: r, scs, tk => ((zlh k (scs.headD []) tk).1 :: (zgr r scs.tail (zlh k (scs.headD []) tk).2).1, (zgr r scs.tail (zlh k (scs.headD []) tk).2).2)
end
theorem ydb {sk : An} {t : Tm} {b : Nat} {op n : Int} {x xx : Str} {v u : Value} {js qs : List An} {ks : List Tm} {ps : List Ty} (hsk : sk = .mk true op n xx v js u qs) (ht : t = .mk op n x ks ps) {vs us : List Value} {I : Imm} {w : World} {b1 b2 : List Nat} (h1 : (yfd sk t).P vs I w b1)
    (h2 : (yi8 b 26 [.imm (.int .i64 op), .imm (.int .i64 n), .imm (.str x), .raw v, .raw u]).P us I w b2) (hd : ∀ k ∈ b1, k ∉ b2) : (∀ k ∈ b :: b1, k ∈ b1 ∨ k ∈ b2) ∧ (zcr b sk t).P [] I w (b :: b1) := by
  obtain ⟨a, he, hv, e1, e2, e3⟩ := h1
  obtain ⟨e, cur, z1, z2, z3⟩ := h2
  subst ht
  rw [hsk] at he
  rcases a with ⟨s, o', n', x', v', ks', u', qs'⟩ | ⟨s0, cs0, c0⟩
  case im => simp [er] at he
  simp only [er, An.mk.injEq] at he
  obtain ⟨rfl, rfl, rfl, hxx, rfl, rfl, rfl, rfl⟩ := he
  have hx : x' = x := by simp only [vA, dTmc, List.cons.injEq, V.str.injEq] at hv; exact hv.2.2.1
  subst hx
  have hcs : cur.toList = cA (.mk true o' n' x' v' ks' u' qs') := by
    obtain ⟨cur⟩ := cur
    have hl := z2.1
    match cur, hl with
    | [c0, c1, c2, c3, c4], _ =>
      have e0 := (z2.2 0 _ _ rfl rfl).immInv.intInv
      have e1 := (z2.2 1 _ _ rfl rfl).immInv.intInv
      have e2 := zp2 (z2.2 2 _ _ rfl rfl)
      have e3 := (z2.2 3 _ _ rfl rfl).rawInv
      have e4 := (z2.2 4 _ _ rfl rfl).rawInv
      rw [e0, e1, e2, e3, e4]; rfl
  refine ⟨fun k hk => ?_, _, ?_, hv, by rw [e1], List.nodup_cons.2 ⟨fun hb => hd b hb (by simp [e]), e2⟩, rfl, ⟨cur, z1, ?_⟩, ⟨cur, _, _, z1, fun j c hj => ?_⟩, e3⟩
  · rcases List.mem_cons.1 hk with rfl | hk
    · right; simp [e]
    · exact .inl hk
  · rw [hsk, ← hxx]; rfl
  · have := congrArg List.length hcs; simpa [cA] using this
  · rw [← hcs] at hj; simpa using hj
def zgq (t : Tm) : Nat → Nat → Nat
  | 0, _ => 0
  | m + 1, i => (zad t i).length + zgq t m (i + 1)
mutual
def yb2 : Tm → Nat
  | .mk op n x ks ps => if op = 4 then 0 else zgq (.mk op n x ks ps) ks.length 0 + znc ks
def znc : List Tm → Nat
  | [] => 0
  | k :: r => yb2 k + znc r
end
def textTm : Tm → Str
  | .mk _ _ x _ _ => x
mutual
theorem zx2 : ∀ (t : Ty) (j : Nat) (x : Str), (zcw (zd2 t j x)).map zgz = ((zcw t).map zgz).set j x
  | .mk s n y ps, j, x => by
    by_cases h : s = 2
    · cases j with
      | zero => simp [zd2, h, zcw, zgz]
      | succ j => simp [zd2, h, zcw, zgz, znf ps j x]
    · simp [zd2, h, zcw, znf ps j x]
theorem znf : ∀ (l : List Ty) (j : Nat) (x : Str), (zbp (zeg l j x)).map zgz = ((zbp l).map zgz).set j x
  | [], j, x => by simp [zeg, zbp]
  | t :: r, j, x => by
    simp only [zeg]
    split
    · rename_i h
      simp only [zbp, List.map_append, zx2 t j x, List.set_append, List.length_map, if_pos h]
    · rename_i h
      simp only [zbp, List.map_append, znf r _ x, List.set_append, List.length_map, if_neg h]
end
theorem zhd (t : Ty) (j : Nat) (x : Str) : za4 (zd2 t j x) = (za4 t).set j x := zx2 t j x
theorem zlx (op n : Int) (y : Str) (ks : List Tm) (ps : List Ty) (i : Int) (j : Nat) (x : Str) : ∃ y' ps', zdh (.mk op n y ks ps) i j x = .mk op n y' ks ps' ∧ ps'.length = ps.length := by
  simp only [zdh]
  split
  · exact ⟨_, _, rfl, rfl⟩
  · split
    · split
      · exact ⟨_, _, rfl, by simp⟩
      · exact ⟨_, _, rfl, rfl⟩
    · exact ⟨_, _, rfl, rfl⟩
theorem zjr {t : Tm} {i : Int} {j : Nat} (x : Str) (h : j < (zad t i).length) : zad (zdh t i j x) i = (zad t i).set j x := by
  obtain ⟨op, n, y, ks, ps⟩ := t
  simp only [zad] at h
  simp only [zdh]
  by_cases h1 : zbo op i = true
  · simp only [h1, if_true, List.length_singleton] at h
    have : j = 0 := by omega
    subst this
    simp [zad, h1]
  · by_cases h2 : zb1 op i = true
    · rw [if_neg h1, if_pos h2] at h ⊢
      cases hp : ps[(i - 1).toNat]? with
      | none => simp only [hp] at h; simp at h
      | some p =>
        have hlt := (List.getElem?_eq_some_iff.1 hp).1
        have e : (ps.set (i - 1).toNat (zd2 p j x))[(i - 1).toNat]? = some (zd2 p j x) := by rw [List.getElem?_set_self hlt]
        simp only [zad]
        rw [if_neg h1, if_pos h2, if_neg h1, if_pos h2]
        simp only [e, hp]
        exact zhd p j x
    · rw [if_neg h1, if_neg h2] at h
      simp at h
theorem zfw (t : Tm) (i : Int) (j : Nat) (x : Str) (m : Int) : (zad (zdh t i j x) m).length = (zad t m).length := by
  obtain ⟨op, n, y, ks, ps⟩ := t
  simp only [zdh]
  by_cases h1 : zbo op i = true
  · rw [if_pos h1]
    simp only [zad]
    by_cases h3 : zbo op m = true
    · simp [h3]
    · rw [if_neg h3, if_neg h3]
  · rw [if_neg h1]
    by_cases h2 : zb1 op i = true
    · rw [if_pos h2]
      cases hp : ps[(i - 1).toNat]? with
      | none => rfl
      | some p =>
        have hlt := (List.getElem?_eq_some_iff.1 hp).1
        simp only [zad]
        by_cases h3 : zbo op m = true
        · simp [h3]
        · rw [if_neg h3, if_neg h3]
          by_cases h4 : zb1 op m = true
          · rw [if_pos h4, if_pos h4]
            by_cases e : (m - 1).toNat = (i - 1).toNat
            · rw [e, List.getElem?_set_self hlt, hp]
              simp only [zhd, List.length_set]
            · rw [List.getElem?_set_ne (fun h => e h.symm)]
          · rw [if_neg h4, if_neg h4]
    · rw [if_neg h2]
theorem yck {sk : An} {t : Tm} (h : zh7 sk t) {i : Int} {j : Nat} {p : zmx} (hp : (bp sk i)[j]? = some p) (x : Str) : zh7 sk (zdh t i j x) := by
  have hok := zh6 h
  obtain ⟨a, o, n, y, ad, c, ks, u, qs, rfl, hv, ea, h1, h2, h3, h4⟩ := h
  rw [zy5] at hp
  obtain ⟨s, o', n', x', v', ks', u', ps', b', off', hl, _, hset⟩ := zsc ((zhf a).1 hok) hv hp 0
  have he := zro p a 0 0 _ _ _ (.mk s o' n' x v' ks' u' ps') hl (by simp [er])
  obtain ⟨y2, ks2, qs2, e2, e3, e4⟩ := yme he ea
  have hlk : ks2.length = ks.length := by rw [← ze1, e3, ze1]
  have hlq : qs2.length = qs.length := by rw [← ze1, e4, ze1]
  refine ⟨_, o, n, y2, ad, c, ks2, u, qs2, he, hset x, by rw [e2, hlk], (zl6 qs2).1 (by rw [e4]; exact (zl6 qs).2 h1), (ze0 qs2).1 (by rw [e4]; exact (ze0 qs).2 h2), by rw [hlk]; exact h3, by rw [hlq]; exact h4⟩
theorem yix {sk : An} {t : Tm} (h : zh7 sk t) (i : Int) : (bp sk i).length = (zad t i).length := zy4 h i
def rAt (i : Int) (T : Tm) (tk : List Str) (s : Sc) (j : Nat) : Nat × Tm × List Str × Sc := ((zad T i).take j).foldl (zin i) (0, T, tk, s)
theorem ybs {i : Int} {T : Tm} {tk : List Str} {s : Sc} {j : Nat} {x : Str} (h : (zad T i)[j]? = some x) : rAt i T tk s (j + 1) = zin i (rAt i T tk s j) x := by
  simp only [rAt, zbu h, List.foldl_append, List.foldl_cons, List.foldl_nil]
theorem ym4 (i : Int) (T : Tm) (tk : List Str) (s : Sc) : rAt i T tk s (zad T i).length = zli i (zad T i) T tk s := by
  simp only [rAt, zli, List.take_of_length_le (Nat.le_refl _)]
theorem zzx {i : Int} {sk : An} {T : Tm} (hf : zh7 sk T) (tk : List Str) (s : Sc) : ∀ j, j ≤ (zad T i).length → (rAt i T tk s j).1 = j ∧ zh7 sk (rAt i T tk s j).2.1 ∧ (∀ m, j ≤ m → (zad (rAt i T tk s j).2.1 i)[m]? = (zad T i)[m]?) ∧
      (∀ m, (zad (rAt i T tk s j).2.1 m).length = (zad T m).length) ∧ (rAt i T tk s j).2.2.1.length = tk.length + j ∧ (∀ op n y ks ps, T = .mk op n y ks ps → ∃ y' ps', (rAt i T tk s j).2.1 = .mk op n y' ks ps' ∧ ps'.length = ps.length)
  | 0, _ => ⟨rfl, hf, fun _ _ => rfl, fun _ => rfl, rfl, fun op n y ks ps e => ⟨y, ps, e, rfl⟩⟩
  | j + 1, hj => by
    obtain ⟨h1, h2, h3, h4, h5, h6⟩ := zzx (i := i) hf tk s j (by omega)
    obtain ⟨x, hx⟩ := zal (show j < (zad T i).length by omega)
    rw [ybs hx]
    generalize rAt i T tk s j = r at *
    obtain ⟨r1, rT, rtk, rs⟩ := r
    simp only at h1 h2 h3 h4 h5 h6
    subst h1
    have hlt : r1 < (zad rT i).length := by rw [h4]; omega
    obtain ⟨p, hp⟩ := zal (show r1 < (bp sk i).length by rw [yix h2]; exact hlt)
    refine ⟨rfl, yck h2 hp _, fun m hm => ?_, fun m => ?_, ?_, fun op n y ks ps e => ?_⟩
    · simp only [zin]
      rw [zjr _ hlt, List.getElem?_set_ne (by omega), h3 m (by omega)]
    · simp only [zin]
      rw [zfw, h4]
    · simp only [zin, List.length_append, List.length_singleton, h5]; omega
    · obtain ⟨y', ps', e1, e2⟩ := h6 op n y ks ps e
      simp only [zin]
      rw [e1]
      obtain ⟨y2, ps2, e3, e4⟩ := zlx op n y' ks ps' i r1 (za3 rtk)
      exact ⟨y2, ps2, e3, by rw [e4, e2]⟩
theorem zrj (i : Int) : ∀ (l : List Str) (r : Nat × Tm × List Str × Sc) (op n : Int) (x : Str) (ks : List Tm) (ps : List Ty), r.2.1 = .mk op n x ks ps → ∃ x' ps', (l.foldl (zin i) r).2.1 = .mk op n x' ks ps' ∧ ps'.length = ps.length
  | [], r, op, n, x, ks, ps, h => ⟨x, ps, h, rfl⟩
  | y :: l, r, op, n, x, ks, ps, h => by
    obtain ⟨x1, ps1, h1, h2⟩ := zlx op n x ks ps i r.1 (za3 r.2.2.1)
    obtain ⟨x2, ps2, h3, h4⟩ := zrj i l (zin i r y) op n x1 ks ps1 (by simp only [zin, h]; exact h1)
    exact ⟨x2, ps2, h3, h4.trans h2⟩
theorem zvo : ∀ (m i : Nat) (T : Tm) (tk : List Str) (s : Sc) (acc : List Sc) (op n : Int) (x : Str) (ks : List Tm) (ps : List Ty), T = .mk op n x ks ps → ∃ x' ps', (l1 m i T tk s acc).1 = .mk op n x' ks ps' ∧ ps'.length = ps.length
  | 0, i, T, tk, s, acc, op, n, x, ks, ps, h => ⟨x, ps, h, rfl⟩
  | m + 1, i, T, tk, s, acc, op, n, x, ks, ps, h => by
    obtain ⟨x1, ps1, h1, h2⟩ := zrj i (zad T i) (0, T, tk, s) op n x ks ps h
    obtain ⟨x2, ps2, h3, h4⟩ := zvo m (i + 1) (zli i (zad T i) T tk s).2.1 (zli i (zad T i) T tk s).2.2.1 s (acc ++ [(zli i (zad T i) T tk s).2.2.2]) op n x1 ks ps1 h1
    exact ⟨x2, ps2, h3, h4.trans h2⟩
theorem znx (op n : Int) (x : Str) (ks : List Tm) (ps : List Ty) (s : Sc) (tk : List Str) : ∃ x' ks' ps', (zlh (.mk op n x ks ps) s tk).1 = .mk op n x' ks' ps' := by
  by_cases h : op = 4
  · exact ⟨(ziq s x).getD x, ks, ps, by simp only [zlh, if_pos h]⟩
  · obtain ⟨x', ps', h1, _⟩ := zvo ks.length 0 (.mk op n x ks ps) tk s [] op n x ks ps rfl
    exact ⟨x', _, ps', by simp only [zlh, if_neg h, h1, yjr]; rfl⟩
theorem ze6 {t u : Tm} (h : ∀ m, (zad t m).length = (zad u m).length) : ∀ m i, zgq t m i = zgq u m i
  | 0, _ => rfl
  | m + 1, i => by simp only [zgq, h, ze6 h m]
theorem zrk (i : Int) : ∀ (l : List Str) (r : Nat × Tm × List Str × Sc), (l.foldl (zin i) r).2.2.1.length = r.2.2.1.length + l.length ∧ ∀ m, (zad (l.foldl (zin i) r).2.1 m).length = (zad r.2.1 m).length
  | [], r => ⟨rfl, fun _ => rfl⟩
  | x :: l, r => by
    obtain ⟨h1, h2⟩ := zrk i l (zin i r x)
    refine ⟨?_, fun m => ?_⟩
    · have e : (zin i r x).2.2.1.length = r.2.2.1.length + 1 := by simp [zin]
      rw [List.foldl_cons, h1, e, List.length_cons]; omega
    · rw [List.foldl_cons, h2]; simp only [zin, zfw]
theorem yhq : ∀ (m i : Nat) (T : Tm) (tk : List Str) (s : Sc) (acc : List Sc), (l1 m i T tk s acc).2.1.length = tk.length + zgq T m i ∧ (l1 m i T tk s acc).2.2.length = acc.length + m
  | 0, i, T, tk, s, acc => ⟨rfl, rfl⟩
  | m + 1, i, T, tk, s, acc => by
    obtain ⟨h3, h4⟩ := zrk i (zad T i) (0, T, tk, s)
    obtain ⟨h1, h2⟩ := yhq m (i + 1) (zli i (zad T i) T tk s).2.1 (zli i (zad T i) T tk s).2.2.1 s (acc ++ [(zli i (zad T i) T tk s).2.2.2])
    simp only [l1]
    refine ⟨?_, ?_⟩
    · rw [h1]
      have e : (zli i (zad T i) T tk s).2.2.1.length = tk.length + (zad T i).length := h3
      have e2 : zgq (zli i (zad T i) T tk s).2.1 m (i + 1) = zgq T m (i + 1) := ze6 h4 m (i + 1)
      rw [e, e2]; simp only [zgq]; omega
    · rw [h2, List.length_append, List.length_singleton]; omega
mutual
theorem zv6 : ∀ (t : Tm) (s : Sc) (tk : List Str), (zlh t s tk).2.length = tk.length + yb2 t
  | .mk op n x ks ps, s, tk => by
    by_cases h : op = 4
    · simp [zlh, yb2, h]
    · simp only [zlh, yb2, if_neg h]
      rw [zy2, (yhq ks.length 0 (.mk op n x ks ps) tk s []).1]; omega
theorem zy2 : ∀ (l : List Tm) (scs : List Sc) (tk : List Str), (zgr l scs tk).2.length = tk.length + znc l
  | [], scs, tk => rfl
  | k :: r, scs, tk => by
    simp only [zgr, znc]
    rw [zy2 r, zv6 k]; omega
end
end Go.Hk

/- Terms that are zb6 by address, their parts by value: a part is read, another one is stored; what the whole shows. -/
namespace Go.Hk
open Go.Proofs
theorem er_im {c : An} (h : er c = .im true [] []) : ∃ cs e, c = .im true cs e := by
  rcases c with ⟨s, o, n, x, v, ks, u, qs⟩ | ⟨s0, cs0, c0⟩
  · simp [er] at h
  · simp only [er, An.im.injEq] at h
    obtain ⟨rfl, _⟩ := h
    exact ⟨cs0, c0, rfl⟩
theorem zob {b : Nat} {sk : An} {t k : Tm} {i : Nat} {o n : Int} {x : Str} {len cap rb : Nat} {ks : List An} {u : Value} {qs : List An}
    (hq : okQ sk) (hsk : sk = .mk true o n x (.slice (some ⟨rb, 0, none⟩) len cap) ks u qs) (hs : skK sk i = some (.im true [] [])) (hk : tmK t i = some k) {vs : List Value} {I : Imm} {w : World} {bs : List Nat} (h : (zcr b sk t).P vs I w bs) :
    zda I w rb (i * 5) ((dTmc k).map .imm) := by
  obtain ⟨a, rfl, hv, hP⟩ := h
  obtain ⟨o', n', x', v', ks', u', qs', c, tx, tks, tps, rfl, rfl, rfl, hc, hvc, hkid, htk, e1, e2⟩ := zj1 ((zhf a).1 hq) hv hk
  have hskc : er c = .im true [] [] := by
    simp only [er, skK] at hs
    rw [zld hc] at hs
    exact Option.some.inj hs
  obtain ⟨cs, e, rfl⟩ := er_im hskc
  have hvv : v' = .slice (some ⟨rb, 0, none⟩) len cap := by simp only [er, An.mk.injEq] at hsk; exact hsk.2.2.2.2.1
  have hw := hP.2.2.2.2.2
  simp only [anW] at hw
  obtain ⟨_, ⟨cur, ty, kk, q1, q2⟩, hr, hone, _⟩ := zdg hw.1.2 hc
  simp only [vA] at hvc
  subst hvc
  rw [hvv] at q1
  simp only [Nat.zero_add, szA, cA] at q2
  refine ⟨cur, ty, kk, q1, fun j d hj => ?_⟩
  rw [List.getElem?_map] at hj
  obtain ⟨y, hy, rfl⟩ := Option.map_eq_some_iff.1 hj
  obtain ⟨z, hz⟩ : ∃ z, cs[j]? = some z := ⟨_, List.getElem?_eq_getElem (by rw [hr.1]; exact (List.getElem?_eq_some_iff.1 hy).1)⟩
  exact ⟨z, q2 j z hz, hone z (List.mem_of_getElem? hz), .imm _ _ (hr.2 j z y hz hy)⟩
theorem zkk {b : Nat} {sk : An} {t k : Tm} {i : Nat} {o n : Int} {x : Str} {len cap rb : Nat} {ks : List An} {u : Value} {qs : List An}
    (hq : okQ sk) (hsk : sk = .mk true o n x (.slice (some ⟨rb, 0, none⟩) len cap) ks u qs) (hs : skK sk i = some (.im true [] [])) (hk : tmK t i = some k) (k' : Tm) :
    zsj (zcr b sk t) (zcr b sk (zcm t i k')) rb (i * 5) ((dTmc k').map .imm) := by
  rintro vs I w bs ⟨a, rfl, hv, hP⟩
  obtain ⟨o', n', x', v', ks', u', qs', c, tx, tks, tps, rfl, rfl, rfl, hc, hvc, hkid, htk, e1, e2⟩ := zj1 ((zhf a).1 hq) hv hk
  have hskc : er c = .im true [] [] := by
    simp only [er, skK] at hs
    rw [zld hc] at hs
    exact Option.some.inj hs
  obtain ⟨cs, e, rfl⟩ := er_im hskc
  have hvv : v' = .slice (some ⟨rb, 0, none⟩) len cap := by simp only [er, An.mk.injEq] at hsk; exact hsk.2.2.2.2.1
  subst hvv
  have hloc : zen (.mk true o' n' tx (.slice (some ⟨rb, 0, none⟩) len cap) ks' u' qs') b 0 [(false, i)] = some (.im true cs e, rb, i * 5) := by
    simp only [zen]; rw [hkid]; rfl
  obtain ⟨q1, cur, ty, q2, q3, q4⟩ := yhs (dTmc k') (by obtain ⟨_, _, _, _, _⟩ := k'; rfl) hloc vs I w bs hP
  refine ⟨q1, cur, ty, q2, q3, fun zs hr ho => ?_⟩
  obtain ⟨ys, hy⟩ := q4 zs hr ho
  refine ⟨_, zro [(false, i)] _ b 0 _ _ _ (.im true ys (dTmc k')) hloc rfl, ?_, hy⟩
  simp only [zm8]
  rw [hkid]
  simp only [zxe, vA, zcm, dTmc]
  congr 4
  · rw [zgs, List.map_set, ← zgs, e1, ze3, ze3, List.map_set]
    rfl
  · rw [e2]
theorem zrl {sk : An} {t k : Tm} {i : Nat} (h : zh7 sk t) (hs : skK sk i = some (.im true [] [])) (hk : tmK t i = some k) (k' : Tm) : zh7 sk (zcm t i k') := by
  obtain ⟨a, o, n, x, ad, c, ks, u, qs, rfl, hv, rfl, h1, h2, h3, h4⟩ := h
  obtain ⟨op, tn, tx, tks, tps⟩ := t
  simp only [vA, dTmc, List.cons.injEq, V.sl.injEq, V.int.injEq, V.str.injEq, true_and, and_true] at hv
  obtain ⟨rfl, rfl, rfl, e1, e2⟩ := hv
  refine ⟨.mk true o n x (.slice ad (ks.set i (.im true [] (dTmc k'))).length c) (ks.set i (.im true [] (dTmc k'))) u qs, o, n, x, ad, c, ks.set i (.im true [] (dTmc k')), u, qs, ?_, ?_, rfl, h1, h2, by simpa using h3, h4⟩
  · simp only [er, List.length_set, An.mk.injEq, true_and, and_true]
    rw [zil, List.map_set, ← zil]
    simp only [er, skK] at hs ⊢
    apply List.ext_getElem?
    intro m
    by_cases e : i = m
    · subst e
      rw [List.getElem?_set_self (List.getElem?_eq_some_iff.1 hs).1, hs]
    · rw [List.getElem?_set_ne e]
  · simp only [vA, zcm, dTmc]
    congr 4
    · rw [zgs, List.map_set, ← zgs, e1, ze3, ze3, List.map_set]
      rfl
    · rw [e2]
set_option maxRecDepth 100000 in
theorem ydv (b : Nat) (sk : An) (op n : Int) (x : Str) (ks : List Tm) (ps : List Ty) (kid : Int) (hk : kid ≤ 1000000) (hp : zbo op kid = false → zb1 op kid = true → ∃ p, ps[(kid - 1).toNat]? = some p ∧ (za4 p).length ≤ 1000000) :
    zdb Tryz.prog 65 [.raw (.pointer (some ⟨b, 0, none⟩)), .imm (.int .i64 kid)] [(1, some (.hp (zcr b sk (.mk op n x ks ps))))] (.ret (.own 4 (zbb (zad (.mk op n x ks ps) kid)).length) [(1, some (.hp (zcr b sk (.mk op n x ks ps)))), (4, some (.row 9 1 (zbb (zad (.mk op n x ks ps) kid))))]) := by
  refine zrv (st0 := []) 1 (zcr b sk (.mk op n x ks ps)) (ycb op n x ks ps kid hk hp) rfl ⟨?_, trivial⟩ (by simp [nms]) (by simp [nms]) (by simp [nmD]) fun vs I J μ w bs h hle hb xs hx => ?_
  · show zta (zbb _) = true
    generalize zad _ _ = l
    induction l with
    | nil => rfl
    | cons a r ih => exact ih
  · obtain ⟨a, _, ha, h⟩ := h
    refine ⟨hx.1, fun i v d h1 h2 => ?_⟩
    match i with
    | 0 =>
      simp at h2; subst h2
      rw [← ha]
      exact yga h hle hb (hx.2 0 v _ h1 rfl)
    | 1 =>
      simp at h2; subst h2
      exact hx.2 1 v _ h1 rfl
    | i + 2 => simp at h2
set_option maxRecDepth 100000 in
theorem zw4 (b : Nat) (sk : An) (t : Tm) (m : List Str) (o n : Int) (x xx : Str) (v : Value) (ks : List An) (u : Value) (ps : List An) (tks : List Tm) (tps : List Ty) (hsk : sk = .mk true o n xx v ks u ps) (ht : t = .mk o n x tks tps) (hp : zfl t) :
    zdb Tryz.prog 66 [ygd o n x v u, .mapr 1] [(2, some (.hp (zcr b sk t))), (1, some (.map (zev m)))] (.ret (.tup []) [(2, some (.hp (zcr b sk t))), (1, some (.map (zev (zde t m))))]) := by
  refine zrv (st0 := [(1, some (.map (zev m)))]) 2 (zcr b sk t) (zw5 t m hp) rfl ⟨?_, trivial⟩ (by simp [nms]) (by simp [nms]) (by simp [nmD, nmL]) fun vs I J μ w bs h hle hb xs hx => ?_
  · show zxf (zev _) = true
    generalize zde t m = l
    induction l with
    | nil => rfl
    | cons a r ih => exact ih
  · obtain ⟨a, he, ha, h⟩ := h
    rw [hsk] at he
    rcases a with ⟨s, o', n', x', v', ks', u', qs'⟩ | ⟨s0, cs0, c0⟩
    case im => simp [er] at he
    simp only [er, An.mk.injEq] at he
    obtain ⟨rfl, rfl, rfl, _, rfl, _, rfl, _⟩ := he
    subst ht
    have hx' : x' = x := by simp only [vA, dTmc, List.cons.injEq, V.str.injEq] at ha; exact ha.2.2.1
    subst hx'
    refine ⟨hx.1, fun i y d h1 h2 => ?_⟩
    match i with
    | 0 =>
      simp at h2; subst h2
      rw [← ha]
      exact yda h hle hb (hx.2 0 y _ h1 rfl)
    | 1 =>
      simp at h2; subst h2
      exact hx.2 1 y _ h1 rfl
    | i + 2 => simp at h2
theorem ygc {b : Nat} {sk : An} {t : Tm} {o n : Int} {x xx : Str} {v u : Value} {js qs : List An} {ks : List Tm} {ps : List Ty} (hsk : sk = .mk true o n xx v js u qs) (ht : t = .mk o n x ks ps) {vs : List Value} {I J : Imm} {w : World} {bs : List Nat}
    (h : (zcr b sk t).P vs I w bs) (hIJ : I.le J) (hJ : ∀ b ∈ bs, J b = w.heap[b]?) (cs : List Value) (hc : RepL J noMu cs [.imm (.int .i64 o), .imm (.int .i64 n), .imm (.str x), .raw v, .raw u]) : RepVL J cs (dTmc t) := by
  obtain ⟨a, he, ha, h⟩ := h
  rw [hsk] at he
  rcases a with ⟨s, o', n', x', v', ks', u', qs'⟩ | ⟨s0, cs0, c0⟩
  case im => simp [er] at he
  simp only [er, An.mk.injEq] at he
  obtain ⟨rfl, rfl, rfl, _, rfl, _, rfl, _⟩ := he
  subst ht
  have hx' : x' = x := by simp only [vA, dTmc, List.cons.injEq, V.str.injEq] at ha; exact ha.2.2.1
  subst hx'
  have hf := zum hIJ h.2.2.2.2.2 (fun k hk => hJ k (by rw [h.1]; simp [hk]))
  have hcs : cs = cA (.mk true o' n' x' v' ks' u' qs') := by
    match cs, hc.1 with
    | [c0, c1, c2, c3, c4], _ =>
      have e0 := (hc.2 0 c0 _ rfl rfl).immInv.intInv
      have e1 := (hc.2 1 c1 _ rfl rfl).immInv.intInv
      have e2 := zp2 (hc.2 2 c2 _ rfl rfl)
      have e3 := (hc.2 3 c3 _ rfl rfl).rawInv
      have e4 := (hc.2 4 c4 _ rfl rfl).rawInv
      rw [e0, e1, e2, e3, e4]; rfl
  rw [hcs, ← ha]; exact hf
end Go.Hk

/- Contracts of slices: Index and Contains of strings. -/
namespace Go.Hk
open Go.Proofs
def yfj (s : Str) : Nat → List Str → Int
  | _, [] => -1
  | i, x :: r => if s == x then (i : Int) else yfj s (i + 1) r
theorem yce (s : Str) : ∀ (l : List Str) (i : Nat), decide (0 ≤ yfj s i l) = zbq l s
  | [], i => by simp [yfj, zbq]
  | x :: r, i => by
    have ih := yce s r (i + 1)
    by_cases e : s = x
    · have e2 : yfj s i (x :: r) = i := by simp [yfj, e]
      rw [e2]; subst e; simp [zbq]
    · have e2 : yfj s i (x :: r) = yfj s (i + 1) r := by simp [yfj, e]
      rw [e2, ih]
      have e3 : ¬ x = s := fun h => e h.symm
      simp [zbq, e3]
set_option maxRecDepth 100000 in
theorem yf7 (l : List Str) (s : Str) : zau Tryz.prog 100 [.sl (zbb l), .str s] (.int .i64 (yfj s 0 l)) := by
  refine zdl fun hv => ?_
  simp [zkx, vOk, maxLen] at hv
  refine zaf zbf Tryz.func100 (by decide +kernel) rfl [1] rfl rfl ?_
  refine fg_ [] rfl (by simp) ?_
  refine zaj (fun i : Nat => [(8, .imm (.int .i64 i)), (7, .imm (.int .i64 l.length)), (0, .imm (.sl (zbb l))), (1, .imm (.str s))]) (fun _ => []) [1] (fun i => l.length - i) (fun i => i ≤ l.length ∧ yfj s 0 l = yfj s i (l.drop i)) 0
    ⟨Nat.zero_le _, rfl⟩ ⟨rfl, zcl (by simp), rfl, rfl, trivial⟩ trivial rfl fun i hi ih => ?_
  obtain ⟨hi1, hi2⟩ := hi
  refine fd_ [] rfl (by simp) ?_
  refine zaa rfl (fun h => ?_) (fun h => ?_)
  · simp at h
    obtain ⟨x, hx⟩ := zal h
    rw [zap hx] at hi2
    simp only [yfj] at hi2
    refine fd_ [] rfl (by simp) ?_
    refine fi_ rfl (c := [.str x]) (fun _ => ⟨by simp, by simpa using zdn hx, rfl⟩) (by simp [zai]) ?_
    refine fg_ [] rfl (by simp [zai]) ?_
    refine zaa rfl (fun h2 => ?_) (fun h2 => ?_)
    · have e : (s == x) = true := by simpa using h2
      rw [e] at hi2
      refine fd_ [] rfl (by simp) ?_
      refine zab ⟨_, rfl, tV ?_, trivial⟩
      rw [hi2]; rfl
    · have e : (s == x) = false := by simpa using h2
      rw [e] at hi2
      refine fd_ [] rfl (by simp) ?_
      exact zae (ih (i + 1) (by omega) ⟨by omega, by rw [hi2]; rfl⟩) ⟨zcl (w64 (by omega) (by omega)), rfl, rfl, rfl, trivial⟩ trivial rfl
  · simp at h
    rw [List.drop_eq_nil_of_le (by omega)] at hi2
    refine zav rfl ?_
    refine fd_ [] rfl (by simp) ?_
    refine zab ⟨_, rfl, tV ?_, trivial⟩
    rw [hi2]; rfl
set_option maxRecDepth 100000 in
theorem zxi (l : List Str) (s : Str) : zau Tryz.prog 69 [.sl (zbb l), .str s] (.bool (zbq l s)) := by
  refine zaf zbf Tryz.func69 (by decide +kernel) rfl [1] rfl rfl ?_
  refine fg_ [] rfl (by simp) ?_
  refine zac rfl (fun _ => yf7 l s) (by simp) ?_
  refine fg_ [] rfl (by simp) ?_
  refine zab ⟨_, rfl, tV (congrArg _ ?_), trivial⟩
  exact yce s l 0
end Go.Hk

/- Contracts of term: a free name becomes another one (rename). -/
namespace Go.Hk
open Go.Proofs
def zwo (op : Int) (x a b : Str) : Str := if op == 4 && x == a then b else x
mutual
def ze7 : Tm → Str → Str → Tm
  | .mk op n x ks ps, a, b => .mk op n (zwo op x a b) (zdq (.mk op n (zwo op x a b) [] ps) 0 ks a b) ps
def zdq (t : Tm) : Nat → List Tm → Str → Str → List Tm
  | _, [], _, _ => []
  | i, k :: r, a, b => (if zbq (zad t i) a then k else ze7 k a b) :: zdq t (i + 1) r a b
end
set_option maxRecDepth 100000 in
theorem zwk (e : List V) (r : List (List V)) (hs : ∀ c ∈ e :: r, c.length = 5) (hlen : (e :: r).length ≤ 1000000) :
    zdb Tryz.prog 89 [.imm (.sl (e :: r))] [] (.ret (.own 2 (e :: r).length) [(2, some (.row 26 5 (e :: r)))]) := by
  refine zaf zbf Tryz.func89 (by decide +kernel) rfl [2, 1] rfl rfl ?_
  refine fg_ [] rfl (by simp) ?_
  refine zhj zbf rfl fun b hb => ?_
  have hb : b = false := hb (by simp)
  subst hb
  refine fd_ [.a] rfl (by simp) ?_
  refine zbz zbf rfl ⟨hs, by simp only [maxLen, List.length_nil] at *; omega, by simp only [List.length_nil] at *; omega, fun c hc => by simp at hc, by simp⟩ ?_
  refine fg_ [] rfl (by simp) ?_
  exact zab ⟨_, rfl, rfl, rfl, trivial⟩
set_option maxRecDepth 100000 in
theorem zwl : zau Tryz.prog 89 [.sl []] (.sl []) := by
  refine zaf zbf Tryz.func89 (by decide +kernel) rfl [1] rfl rfl ?_
  refine fg_ [] rfl (by simp) ?_
  refine zhj zbf rfl fun b hb => ?_
  cases b with
  | true =>
    refine fd_ [.a] rfl (by simp) ?_
    exact zab ⟨_, rfl, tV rfl, trivial⟩
  | false =>
    refine fd_ [.a] rfl (by simp) ?_
    refine zrd zbf rfl ?_
    refine fg_ [] rfl (by simp) ?_
    exact zab ⟨_, rfl, tV rfl, trivial⟩
set_option maxRecDepth 100000 in
theorem zly (l : List Str) (s : Str) (len : Nat) : zdb Tryz.prog 69 [.own 1 len, .imm (.str s)] [(1, some (.row 9 1 (zbb l)))] (.ret (.imm (.bool (zbq l s))) [(1, some (.row 9 1 (zbb l)))]) := by
  refine zmo (stL := [(1, some (.row 9 1 (zbb l)))]) (st0 := []) (st1 := []) (zxi l s) rfl trivial (by simp [nms, nmD]) (fun i b h j hj => ?_) fun I J μ w hst hle hb xs hx => ?_
  · rcases zah.1 h with ⟨_, rfl⟩ | ⟨_, h⟩
    · simp [nmB] at hj
    · simp [zaq, lk] at h
  · refine ⟨hx.1, fun i v d h1 h2 => ?_⟩
    match i with
    | 0 =>
      simp at h2; subst h2
      have h3 := hx.2 0 v _ h1 rfl
      cases h3 with
      | own _ _ a cap hm =>
        have hl : zaq [(1, some (.row 9 1 (zbb l)))] 1 (.row 9 1 (zbb l)) := zah.2 (.inl ⟨rfl, rfl⟩)
        obtain ⟨g, q1, q2⟩ := hst.blk 1 _ hl
        rw [hm] at q1; cases q1
        exact .imm _ _ (zpl q2 hle fun b ho => hb 1 _ _ b hl hm ho)
    | 1 =>
      simp at h2; subst h2
      exact hx.2 1 v _ h1 rfl
    | i + 2 => simp at h2
def ydw (op n : Int) (x : Str) (ks : List Tm) (ps : List Ty) (len : Nat) : St := [(1, some (.cells 26 5 [.imm (.int .i64 op), .imm (.int .i64 n), .imm (.str x), .own 2 len, .imm (.sl (zcf ps))])), (2, some (.row 26 5 (zc2 ks)))]
set_option maxRecDepth 100000 in
theorem yhk (op n : Int) (x : Str) (ks : List Tm) (ps : List Ty) (len : Nat) (kid : Int) (hk : kid ≤ 1000000) (hp : zbo op kid = false → zb1 op kid = true → ∃ p, ps[(kid - 1).toNat]? = some p ∧ (za4 p).length ≤ 1000000) :
    zdb Tryz.prog 65 [.ref 1 0, .imm (.int .i64 kid)] (ydw op n x ks ps len) (.ret (.own 4 (zbb (zad (.mk op n x ks ps) kid)).length) (ydw op n x ks ps len ++ [(4, some (.row 9 1 (zbb (zad (.mk op n x ks ps) kid))))])) := by
  refine zmo (stL := ydw op n x ks ps len) (st0 := []) (ycb op n x ks ps kid hk hp) rfl ⟨?_, trivial⟩ (by simp [ydw, nms, nmD]) (fun i b h j hj => ?_) fun I J μ w hst hle hb xs hx => ?_
  · show zta (zbb _) = true
    generalize zad _ _ = l
    induction l with
    | nil => rfl
    | cons a r ih => exact ih
  · rcases zah.1 h with ⟨_, rfl⟩ | ⟨_, h⟩
    · simp [nmB, nmL, nmD] at hj
      simp [ydw, nms, hj]
    · rcases zah.1 h with ⟨_, rfl⟩ | ⟨_, h⟩
      · simp [nmB] at hj
      · simp [zaq, lk] at h
  · refine ⟨hx.1, fun i v d h1 h2 => ?_⟩
    match i with
    | 0 =>
      simp at h2; subst h2
      have h3 := hx.2 0 v _ h1 rfl
      exact ykn (k := 1) (r := 2) (e := 26) (sz := 5) (sz2 := 5) (es := zc2 ks) hst rfl rfl hle hb (by rfl) h3
    | 1 =>
      simp at h2; subst h2
      exact hx.2 1 v _ h1 rfl
    | i + 2 => simp at h2
end Go.Hk

/- Contracts of term: a free name becomes another one (rename). -/
namespace Go.Hk
open Go.Proofs
set_option maxRecDepth 100000 in
theorem zsx (es : List (List V)) (hne : es ≠ []) (hs : ∀ c ∈ es, c.length = 5) (hlen : es.length ≤ 1000000) :
    zdb Tryz.prog 89 [.imm (.sl es)] [] (.ret (.own 2 es.length) [(2, some (.row 26 5 es))]) := by
  cases es with
  | nil => exact absurd rfl hne
  | cons e r => exact zwk e r hs hlen
def outB : St := [(6, some (.cells 26 5 [.imm (.int .i64 0), .imm (.int .i64 0), .imm (.str []), .nils, .nils]))]
set_option maxRecDepth 100000 in
theorem zxp : ∀ (t : Tm) (a b : Str), zfl t → zau Tryz.prog 68 [.agg (dTmc t), .str a, .str b] (.agg (dTmc (ze7 t a b)))
  | .mk op n x ks ps, a, b, hok => by
    obtain ⟨hk1, hk2, hk3⟩ := hok
    refine zaf zaz Tryz.func68 (by decide +kernel) rfl [3, 6, 9, 10, 11, 12] rfl rfl ?_
    have tail : ∀ x1, zwo op x a b = x1 →
        DGo Tryz.prog Tryz.f68.ntmps (nms []) (yc0 ttP2 Tryz.f68.results.toList (.ret (.imm (.agg (dTmc (ze7 (.mk op n x ks ps) a b)))) [])) [.code (zg8 Tryz.f68 2)]
          [(3, .ref 3 0), (6, .ref 6 0), (1, .imm (.str a)), (2, .imm (.str b))] ((3, some (.immb 26 5 (dTmc (.mk op n x1 ks ps)))) :: outB) [9, 10, 11, 12] := fun x1 hx1 => by
      by_cases e0 : ks = []
      · subst e0
        refine qd [] rfl (by simp) ?_
        refine zac rfl (fun _ => zwl) (by simp) ?_
        refine qg [] rfl (by simp) ?_
        refine zaj (fun y : Nat => [(27, .imm (.int .i64 0)), (26, .imm (.int .i64 0)), (3, .ref 3 0), (6, .ref 6 0)]) (fun _ => (3, some (.immb 26 5 (dTmc (.mk op n x1 [] ps)))) :: outB) [9, 10, 11, 12] (fun y => y) (fun y => y = 0) 0
          rfl ⟨rfl, rfl, rfl, rfl, trivial⟩ ⟨rfl, rfl, trivial⟩ rfl fun y hi ih => ?_
        refine qd [] rfl (by simp) ?_
        refine zaa rfl (fun h => by simp at h) (fun h => ?_)
        refine zav rfl ?_
        refine qd [] rfl (by simp) ?_
        refine zab ⟨_, rfl, tV ?_, trivial⟩
        simp [ze7, zdq, hx1, dTmc, zc2]
      · have hne : zc2 ks ≠ [] := fun he => e0 (List.eq_nil_of_length_eq_zero (by have := congrArg List.length he; simpa using this))
        have hfive : ∀ c ∈ zc2 ks, c.length = 5 := fun c hc => by
          rw [ze3] at hc; obtain ⟨q, _, rfl⟩ := List.mem_map.1 hc; simp
        refine qd [] rfl (by simp) ?_
        refine zar (st0 := []) (fr := [9]) [] [(2, 9)] rfl (by simp) (zsx (zc2 ks) hne hfive (by simp; omega)) trivial rfl rfl rfl rfl ?_
        refine qg [] rfl (by simp) ?_
        refine zaj (fun y : Nat × List Tm => [(27, .imm (.int .i64 y.1)), (26, .imm (.int .i64 ks.length)), (25, .own 9 (zc2 ks).length), (3, .ref 3 0), (6, .ref 6 0), (1, .imm (.str a)), (2, .imm (.str b))])
          (fun y => (3, some (.cells 26 5 [.imm (.int .i64 op), .imm (.int .i64 n), .imm (.str x1), .own 9 (zc2 ks).length, .imm (.sl (zcf ps))])) :: (9, some (.row 26 5 (zc2 (y.2 ++ ks.drop y.1)))) :: outB) [10, 11, 12] (fun y => ks.length - y.1)
          (fun y => y.1 ≤ ks.length ∧ y.2.length = y.1 ∧ zdq (.mk op n x1 [] ps) 0 ks a b = y.2 ++ zdq (.mk op n x1 [] ps) y.1 (ks.drop y.1) a b) (0, [])
          ⟨Nat.zero_le _, rfl, rfl⟩ ⟨rfl, zcl (by simp), rfl, rfl, rfl, rfl, rfl, trivial⟩ ⟨rfl, rfl, rfl, trivial⟩ rfl fun y hi ih => ?_
        obtain ⟨i, dn⟩ := y
        obtain ⟨hi1, hi2, hi3⟩ := hi
        simp only at hi1 hi2 hi3
        refine qd [] rfl (by simp) ?_
        refine zaa rfl (fun h => ?_) (fun h => ?_)
        · simp at h
          obtain ⟨k, hk⟩ := zal h
          have hlen : (dn ++ ks.drop i).length = ks.length := by simp [hi2]; omega
          have hget : (dn ++ ks.drop i)[i]? = some k := by rw [List.getElem?_append_right (by omega), hi2]; simpa using hk
          refine qd [] rfl (by simp) ?_
          refine ze8 zaz rfl (fun _ => ⟨by simp, by simp [hi2]; omega⟩) (by simp) ?_
          refine qg [] rfl (by simp) ?_
          refine zrc zaz (e := dTmc k) rfl (fun _ => by simpa using zbv hget) rfl (by simp) ?_
          refine qg [] rfl (by simp) ?_
          refine zar (st0 := ydw op n x1 (dn ++ ks.drop i) ps (zc2 ks).length) (fr := [11]) [(3, 1), (9, 2)] [(4, 11)] rfl (by simp) (yhk op n x1 (dn ++ ks.drop i) ps (zc2 ks).length i (by omega) (hk2 i h)) ⟨⟨rfl, rfl, rfl⟩, ⟨rfl, rfl, rfl⟩, trivial⟩ rfl rfl rfl rfl ?_
          refine qg [] rfl (by simp) ?_
          refine zar (st0 := [(1, some (.row 9 1 (zbb (zad (.mk op n x1 (dn ++ ks.drop i) ps) i))))]) (fr := []) [(11, 1)] [] rfl (by simp) (zly (zad (.mk op n x1 (dn ++ ks.drop i) ps) i) a _) ⟨⟨rfl, rfl, rfl⟩, trivial⟩ rfl rfl rfl rfl ?_
          refine qg [] rfl (by simp) ?_
          have hb : zad (.mk op n x1 (dn ++ ks.drop i) ps) i = zad (.mk op n x1 [] ps) i := rfl
          refine zaa rfl (fun h2 => ?_) (fun h2 => ?_)
          · have h2 : zbq (zad (.mk op n x1 [] ps) i) a = false := by simpa [hb] using h2
            refine qd [] rfl (by simp) ?_
            refine zac rfl (fun _ => zxp k a b (zgd hk3 (List.mem_of_getElem? hk))) (by simp) ?_
            refine qg [] rfl (by simp) ?_
            refine ze8 zaz rfl (fun _ => ⟨by simp, by simp [hi2]; omega⟩) (by simp) ?_
            refine qg [] rfl (by simp) ?_
            refine zvs zaz (e := dTmc k) (e' := dTmc (ze7 k a b)) rfl (by simpa using zbv hget) (by show 0 + 5 ≤ 5; decide) (by simp [List.drop_eq_nil_of_le]) (by simp) ?_
            refine qg [] rfl (by refine ⟨rfl, ?_⟩; simp [zb3]) ?_
            have hg := zap hk
            rw [hg] at hi3
            have e3 : (zc2 (dn ++ ks.drop i)).set i (dTmc (ze7 k a b)) = zc2 ((dn ++ [ze7 k a b]) ++ ks.drop (i + 1)) := by
              rw [← zpq, hg]; simp [List.set_append, hi2]
            refine zae (ih (i + 1, dn ++ [ze7 k a b]) (by simp only; omega) ⟨by simp only; omega, by simp [hi2], by simp only [zdq, h2] at hi3; simpa using hi3⟩) ⟨zcl (w64 (by simp only; omega) (by simp only; omega)), rfl, rfl, rfl, rfl, rfl, rfl, trivial⟩ ⟨rfl, ?_, rfl, trivial⟩ rfl
            simp only [← e3]
            rfl
          · have h2 : zbq (zad (.mk op n x1 [] ps) i) a = true := by simpa [hb] using h2
            refine zd9 ?_
            refine qd [] rfl (by simp) ?_
            have hg := zap hk
            rw [hg] at hi3
            have e3 : dn ++ ks.drop i = (dn ++ [k]) ++ ks.drop (i + 1) := by rw [hg]; simp
            refine zae (ih (i + 1, dn ++ [k]) (by simp only; omega) ⟨by simp only; omega, by simp [hi2], by simp only [zdq, h2, if_true] at hi3; simpa using hi3⟩) ⟨zcl (w64 (by simp only; omega) (by simp only; omega)), rfl, rfl, rfl, rfl, rfl, rfl, trivial⟩ ⟨rfl, ?_, rfl, trivial⟩ rfl
            simp only [← e3]
            rfl
        · simp at h
          have e : ks.drop i = [] := List.drop_eq_nil_of_le (by omega)
          rw [e] at hi3
          have hi3 : zdq (.mk op n x1 [] ps) 0 ks a b = dn := by simpa [zdq] using hi3
          simp only [e, List.append_nil]
          refine zav rfl ?_
          refine zc9 9 rfl ?_
          refine qd [] rfl (by simp) ?_
          refine zab ⟨_, rfl, tV ?_, trivial⟩
          simp [ze7, hx1, hi3, dTmc]
    refine qg [] rfl (by simp) ?_
    refine zaa rfl (fun h => ?_) (fun h => ?_)
    · refine zo8 zaz mixed 5 [] rfl (by simp) ?_
      refine zae (tail b ?_) ⟨rfl, rfl, rfl, rfl, trivial⟩ ⟨rfl, rfl, trivial⟩ rfl
      cases e1 : (op == 4) <;> cases e2 : (x == a) <;> simp [e1, e2] at h
      simp [zwo, e1, e2]
    · refine zd9 ?_
      refine zae (tail x ?_) ⟨rfl, rfl, rfl, rfl, trivial⟩ ⟨rfl, rfl, trivial⟩ rfl
      cases e1 : (op == 4) <;> cases e2 : (x == a) <;> simp [e1, e2] at h <;> simp [zwo, e1, e2]
termination_by t => SizeOf.sizeOf t
decreasing_by
  all_goals
    have := List.sizeOf_lt_of_mem (List.mem_of_getElem? hk)
    simp_wf
    omega
end Go.Hk

/- Contracts of term: patterns, terms that are equal (samePat, same; slices.EqualFunc). -/
namespace Go.Hk
open Go.Proofs
set_option maxRecDepth 100000 in
theorem zo1 (ps qs : List Ty) (hlen : ps.length ≤ 1000000) (h : ∀ p ∈ ps, ∀ q, zau Tryz.prog 79 [.agg (zb2 p), .agg (zb2 q)] (.bool (zzf p q))) :
    zau Tryz.prog 78 [.sl (zcf ps), .sl (zcf qs), .fn (.func 79)] (.bool (zff ps qs)) := by
  refine zaf zaz Tryz.func78 (by decide +kernel) rfl [1, 2, 3] rfl rfl ?_
  refine qg [] rfl (by simp) ?_
  refine zaa rfl (fun hl => ?_) (fun hl => ?_)
  · have hl : ps.length ≠ qs.length := by simp at hl; omega
    refine qd [] rfl (by simp) ?_
    refine zab ⟨_, rfl, tV (congrArg _ ?_), trivial⟩
    rw [zrs hl]
  have hl : ps.length = qs.length := by simp at hl; omega
  refine qd [] rfl (by simp) ?_
  refine zaj (fun i : Nat => [(17, .imm (.int .i64 i)), (16, .imm (.int .i64 ps.length)), (15, .imm (.sl (zcf ps))), (1, .imm (.sl (zcf qs))), (2, .imm (.fn (.func 79)))]) (fun _ => []) [1, 2, 3] (fun i => ps.length - i) (fun i => i ≤ ps.length ∧ zff ps qs = zff (ps.drop i) (qs.drop i)) 0
    ⟨Nat.zero_le _, rfl⟩ ⟨rfl, zcl (by simp), rfl, rfl, rfl, trivial⟩ trivial rfl fun i hi ih => ?_
  obtain ⟨hi1, hi2⟩ := hi
  refine qd [] rfl (by simp) ?_
  refine zaa rfl (fun h1 => ?_) (fun h1 => ?_)
  · simp at h1
    obtain ⟨p, hp⟩ := zal h1
    obtain ⟨q, hq⟩ := zal (l := qs) (i := i) (by omega)
    rw [zap hp, zap hq] at hi2
    simp only [zff] at hi2
    refine qd [] rfl (by simp) ?_
    refine qi_ rfl (c := zb2 p) (fun _ => ⟨by simp, by simpa using zb0 hp, by simp⟩) (by simp) ?_
    refine qg [] rfl (by simp) ?_
    refine qi_ rfl (c := zb2 q) (fun _ => ⟨by simp, by simpa using zb0 hq, by simp⟩) (by simp) ?_
    refine qg [] rfl (by simp) ?_
    refine zac rfl (fun _ => h p (List.mem_of_getElem? hp) q) (by simp) ?_
    refine qg [] rfl (by simp) ?_
    refine zaa rfl (fun h2 => ?_) (fun h2 => ?_)
    · have e : zzf p q = false := by simpa using h2
      refine qd [] rfl (by simp) ?_
      refine zab ⟨_, rfl, tV (congrArg _ ?_), trivial⟩
      rw [hi2, e]; rfl
    · have e : zzf p q = true := by simpa using h2
      rw [e, Bool.true_and] at hi2
      refine zd9 ?_
      refine qd [] rfl (by simp) ?_
      exact zae (ih (i + 1) (by omega) ⟨by omega, hi2⟩) ⟨zcl (w64 (by omega) (by omega)), rfl, rfl, rfl, rfl, trivial⟩ trivial rfl
  · simp at h1
    rw [List.drop_eq_nil_of_le (by omega), List.drop_eq_nil_of_le (by omega)] at hi2
    refine zav rfl ?_
    refine qd [] rfl (by simp) ?_
    refine zab ⟨_, rfl, tV (congrArg _ ?_), trivial⟩
    rw [hi2]; rfl
set_option maxRecDepth 100000 in
theorem ztb : ∀ a b : Ty, zo2 a → zau Tryz.prog 79 [.agg (zb2 a), .agg (zb2 b)] (.bool (zzf a b))
  | .mk s n x ps, .mk s' n' x' qs, hw => by
    obtain ⟨hw1, hw2⟩ := hw
    refine zaf zaz Tryz.func79 (by decide +kernel) rfl [1, 2, 3] rfl rfl ?_
    refine qg [] rfl (by simp) ?_
    refine zac rfl (fun _ => zo1 ps qs hw1 fun p hp q => ztb p q (zg4 hw2 hp)) (by simp [zai]) ?_
    refine qg [] rfl (by simp) ?_
    refine zab ⟨_, rfl, tV (congrArg _ ?_), trivial⟩
    simp only [zzf]
    cases s == s' <;> cases n == n' <;> cases x == x' <;> cases zff ps qs <;> rfl
termination_by a => SizeOf.sizeOf a
decreasing_by
  all_goals
    have := List.sizeOf_lt_of_mem hp
    simp_wf
    omega
set_option maxRecDepth 100000 in
theorem zwi (ps qs : List Tm) (hlen : ps.length ≤ 1000000) (h : ∀ p ∈ ps, ∀ q, zau Tryz.prog 48 [.agg (dTmc p), .agg (dTmc q)] (.bool (zsu p q))) :
    zau Tryz.prog 80 [.sl (zc2 ps), .sl (zc2 qs), .fn (.func 48)] (.bool (zh8 ps qs)) := by
  refine zaf zaz Tryz.func80 (by decide +kernel) rfl [1, 2, 3] rfl rfl ?_
  refine qg [] rfl (by simp) ?_
  refine zaa rfl (fun hl => ?_) (fun hl => ?_)
  · have hl : ps.length ≠ qs.length := by simp at hl; omega
    refine qd [] rfl (by simp) ?_
    refine zab ⟨_, rfl, tV (congrArg _ ?_), trivial⟩
    rw [zyr hl]
  have hl : ps.length = qs.length := by simp at hl; omega
  refine qd [] rfl (by simp) ?_
  refine zaj (fun i : Nat => [(17, .imm (.int .i64 i)), (16, .imm (.int .i64 ps.length)), (15, .imm (.sl (zc2 ps))), (1, .imm (.sl (zc2 qs))), (2, .imm (.fn (.func 48)))]) (fun _ => []) [1, 2, 3] (fun i => ps.length - i) (fun i => i ≤ ps.length ∧ zh8 ps qs = zh8 (ps.drop i) (qs.drop i)) 0
    ⟨Nat.zero_le _, rfl⟩ ⟨rfl, zcl (by simp), rfl, rfl, rfl, trivial⟩ trivial rfl fun i hi ih => ?_
  obtain ⟨hi1, hi2⟩ := hi
  refine qd [] rfl (by simp) ?_
  refine zaa rfl (fun h1 => ?_) (fun h1 => ?_)
  · simp at h1
    obtain ⟨p, hp⟩ := zal h1
    obtain ⟨q, hq⟩ := zal (l := qs) (i := i) (by omega)
    rw [zap hp, zap hq] at hi2
    simp only [zh8] at hi2
    refine qd [] rfl (by simp) ?_
    refine qi_ rfl (c := dTmc p) (fun _ => ⟨by simp, by simpa using zbv hp, by simp⟩) (by simp) ?_
    refine qg [] rfl (by simp) ?_
    refine qi_ rfl (c := dTmc q) (fun _ => ⟨by simp, by simpa using zbv hq, by simp⟩) (by simp) ?_
    refine qg [] rfl (by simp) ?_
    refine zac rfl (fun _ => h p (List.mem_of_getElem? hp) q) (by simp) ?_
    refine qg [] rfl (by simp) ?_
    refine zaa rfl (fun h2 => ?_) (fun h2 => ?_)
    · have e : zsu p q = false := by simpa using h2
      refine qd [] rfl (by simp) ?_
      refine zab ⟨_, rfl, tV (congrArg _ ?_), trivial⟩
      rw [hi2, e]; rfl
    · have e : zsu p q = true := by simpa using h2
      rw [e, Bool.true_and] at hi2
      refine zd9 ?_
      refine qd [] rfl (by simp) ?_
      exact zae (ih (i + 1) (by omega) ⟨by omega, hi2⟩) ⟨zcl (w64 (by omega) (by omega)), rfl, rfl, rfl, rfl, trivial⟩ trivial rfl
  · simp at h1
    rw [List.drop_eq_nil_of_le (by omega), List.drop_eq_nil_of_le (by omega)] at hi2
    refine zav rfl ?_
    refine qd [] rfl (by simp) ?_
    refine zab ⟨_, rfl, tV (congrArg _ ?_), trivial⟩
    rw [hi2]; rfl
set_option maxRecDepth 100000 in
theorem yf5 : ∀ a b : Tm, zim a → zau Tryz.prog 48 [.agg (dTmc a), .agg (dTmc b)] (.bool (zsu a b))
  | .mk s n x ks ps, .mk s' n' x' js qs, hw => by
    obtain ⟨hw1, hw2, hw3, hw4⟩ := hw
    refine zaf zaz Tryz.func48 (by decide +kernel) rfl [1, 2, 3] rfl rfl ?_
    refine qg [] rfl (by simp) ?_
    refine zac rfl (fun _ => zo1 ps qs hw2 fun p hp q => ztb p q (hw3 p hp)) (by simp [zai]) ?_
    refine qg [] rfl (by simp) ?_
    refine zac rfl (fun _ => zwi ks js hw1 fun p hp q => yf5 p q (zf0 hw4 hp)) (by simp [zai]) ?_
    refine qg [] rfl (by simp) ?_
    refine zab ⟨_, rfl, tV (congrArg _ ?_), trivial⟩
    simp only [zsu]
    cases s == s' <;> cases n == n' <;> cases x == x' <;> cases zff ps qs <;> cases zh8 ks js <;> rfl
termination_by a => SizeOf.sizeOf a
decreasing_by
  all_goals
    have := List.sizeOf_lt_of_mem hp
    simp_wf
    omega
end Go.Hk

/- How many names stand in a term; what 'stands' adds: these and no others. -/
namespace Go.Hk
open Go.Proofs
mutual
def ym6 : Tm → Nat
  | .mk op n x ks ps => (if op = 4 then 1 else 0) + zsr (.mk op n x ks ps) 0 ks
def zsr (t : Tm) : Nat → List Tm → Nat
  | _, [] => 0
  | i, k :: r => (zad t i).length + ym6 k + zsr t (i + 1) r
end
theorem zwg (m : List Str) (s : Str) : (zlo m s).length ≤ m.length + 1 := by
  unfold zlo; split <;> simp
theorem zkq : ∀ (l m : List Str), (l.foldl zlo m).length ≤ m.length + l.length
  | [], m => by simp
  | x :: r, m => by
    have h1 := zkq r (zlo m x)
    have h2 := zwg m x
    simp only [List.foldl_cons, List.length_cons]; omega
mutual
theorem zp4 : ∀ (t : Tm) (m : List Str), (zde t m).length ≤ m.length + ym6 t
  | .mk op n x ks ps, m => by
    simp only [zde, ym6]
    have h1 := zn7 (.mk op n x ks ps) 0 ks (if op = 4 then zlo m x else m)
    have h2 := zwg m x
    split at h1 <;> split <;> omega
theorem zn7 (t : Tm) : ∀ (i : Nat) (ks : List Tm) (m : List Str), (zeo t i ks m).length ≤ m.length + zsr t i ks
  | _, [], m => by simp [zeo, zsr]
  | i, k :: r, m => by
    simp only [zeo, zsr]
    have h1 := zn7 t (i + 1) r (zde k ((zad t i).foldl zlo m))
    have h2 := zp4 k ((zad t i).foldl zlo m)
    have h3 := zkq (zad t i) m
    omega
end
theorem zvi {m : List Str} {s y : Str} : y ∈ zlo m s ↔ y ∈ m ∨ y = s := by
  unfold zlo
  split
  · rename_i h
    have : s ∈ m := by
      have : ∀ {l : List Str}, zbq l s = true → s ∈ l := by
        intro l
        induction l with
        | nil => intro h; simp [zbq] at h
        | cons a r ih =>
          intro h
          simp only [zbq, Bool.or_eq_true, beq_iff_eq] at h
          rcases h with h | h
          · simp [h]
          · exact List.mem_cons_of_mem _ (ih h)
      exact this h
    constructor
    · exact .inl
    · rintro (h | rfl)
      · exact h
      · exact this
  · simp
theorem zkn {y : Str} : ∀ {l m : List Str}, y ∈ l.foldl zlo m ↔ y ∈ m ∨ y ∈ l
  | [], m => by simp
  | x :: r, m => by
    simp only [List.foldl_cons, zkn (l := r), zvi, List.mem_cons, or_assoc]
mutual
def zbc : Tm → List Str
  | .mk op n x ks ps => (if op = 4 then [x] else []) ++ zcg (.mk op n x ks ps) 0 ks
def zcg (t : Tm) : Nat → List Tm → List Str
  | _, [] => []
  | i, k :: r => zad t i ++ zbc k ++ zcg t (i + 1) r
end
mutual
theorem zqy {y : Str} : ∀ (t : Tm) (m : List Str), y ∈ zde t m ↔ y ∈ m ∨ y ∈ zbc t
  | .mk op n x ks ps, m => by
    simp only [zde, zbc]
    rw [zol (.mk op n x ks ps) 0 ks]
    by_cases h : op = 4
    · simp only [h, if_true, zvi, List.singleton_append, List.mem_cons, or_assoc]
    · simp only [h, if_false, List.nil_append]
theorem zol {y : Str} (t : Tm) : ∀ (i : Nat) (ks : List Tm) (m : List Str), y ∈ zeo t i ks m ↔ y ∈ m ∨ y ∈ zcg t i ks
  | _, [], m => by simp [zeo, zcg]
  | i, k :: r, m => by
    simp only [zeo, zcg]
    rw [zol t (i + 1) r, zqy k, zkn]
    simp only [List.mem_append, or_assoc]
end
end Go.Hk

/- A term in which a name is another one: as many nodes, as wide. -/
namespace Go.Hk
open Go.Proofs
theorem zdt (T : Tm) (a b : Str) : ∀ (i : Nat) (ks : List Tm), (zdq T i ks a b).length = ks.length
  | _, [] => by simp [zdq]
  | i, k :: r => by simp [zdq, zdt T a b (i + 1) r]
mutual
theorem zpr (a b : Str) : ∀ t : Tm, zcv (ze7 t a b) = zcv t
  | .mk op n x ks ps => by
    simp only [ze7, zcv, zyz a b (.mk op n (zwo op x a b) [] ps) 0 ks]
theorem zyz (a b : Str) (T : Tm) : ∀ (i : Nat) (ks : List Tm), zci (zdq T i ks a b) = zci ks
  | _, [] => by simp [zdq]
  | i, k :: r => by
    have h1 := zpr a b k
    have h2 := zyz a b T (i + 1) r
    simp only [zdq, zci, h2]
    split
    · rfl
    · rw [h1]
end
mutual
theorem zwp (a b : Str) : ∀ t : Tm, zim t → zim (ze7 t a b)
  | .mk op n x ks ps, h => by
    obtain ⟨h1, h2, h3, h4⟩ := h
    simp only [ze7]
    exact ⟨by rw [zdt]; exact h1, h2, h3, zsz a b _ 0 ks h4⟩
theorem zsz (a b : Str) (T : Tm) : ∀ (i : Nat) (ks : List Tm), zn2 ks → zn2 (zdq T i ks a b)
  | _, [], _ => by simp [zdq, zn2]
  | i, k :: r, h => by
    simp only [zdq]
    refine ⟨?_, zsz a b T (i + 1) r h.2⟩
    split
    · exact h.1
    · exact zwp a b k h.1
end
mutual
theorem zto (a b : Str) : ∀ t : Tm, zfl t → zfl (ze7 t a b)
  | .mk op n x ks ps, h => by
    obtain ⟨h1, h2, h3⟩ := h
    simp only [ze7]
    exact ⟨by rw [zdt]; exact h1, fun i hi => h2 i (by rw [zdt] at hi; exact hi), zqn a b _ 0 ks h3⟩
theorem zqn (a b : Str) (T : Tm) : ∀ (i : Nat) (ks : List Tm), zk6 ks → zk6 (zdq T i ks a b)
  | _, [], _ => by simp [zdq, zk6]
  | i, k :: r, h => by
    simp only [zdq]
    refine ⟨?_, zqn a b T (i + 1) r h.2⟩
    split
    · exact h.1
    · exact zto a b k h.1
end
end Go.Hk

/-
  DERIVED: THE SHELF's CONTRACTS AT THIS DUMP, IN PLAIN WORDS (tools/lay-plain.mjs out of 'YtlbeglekommoeaaGreatSrt0.lean', which tools/lay-shelf.mjs wrote): THE SAME DECLARATIONS UNDER THE SAME NAMES: 'import', 'namespace', 'open', 'def', 'theorem' AND NOTHING ELSE: no command of the shelf's: FOR A HAND-IN. Each laying: the table of numbers ('.._ren') and one theorem, a field a fact of the dump's own or the kernel's comparison; each contract: ONE APPLICATION.
-/
namespace Go.Proofs
open Go.Shelf
def Tryz.mSort_ren : Go.Shelf.Ren := ⟨fun | 6 => 77 | 8 => 107 | 9 => 106 | 19 => 124 | 20 => 125 | 21 => 115 | 22 => 116 | 23 => 117 | 24 => 118 | 25 => 119 | 26 => 120 | 27 => 121 | 28 => 122 | 29 => 123 | 36 => 129 | 31 => 130 | 32 => 131 | 37 => 132 | 38 => 133 | 39 => 134 | 41 => 135 | n => n, fun | 27 => 36 | 29 => 9 | 3 => 3 | 32 => 136 | 26 => 36 | 0 => 0 | 44 => 159 | 46 => 161 | 4 => 4 | 36 => 151 | 35 => 150 | 41 => 156 | 5 => 5 | 9 => 9 | 53 => 164 | 57 => 168 | 63 => 170 | 64 => 171 | n => n, fun | n => n⟩
theorem Tryz.mSort : Go.Proofs.SlLaysM.n6 Tryz.prog Tryz.mSort_ren := {
  mixed := by kernel_rfl
  f6 := ⟨Tryz.f77.name, by decide, Tryz.func77.trans (congrArg some (by kernel_rfl))⟩
  f8 := Tryz.func107.trans (congrArg some (by kernel_rfl))
  f9 := ⟨Tryz.f106.name, by decide, Tryz.func106.trans (congrArg some (by kernel_rfl))⟩
  f19 := Tryz.func124.trans (congrArg some (by kernel_rfl))
  f20 := Tryz.func125.trans (congrArg some (by kernel_rfl))
  f21 := ⟨Tryz.f115.name, by decide, Tryz.func115.trans (congrArg some (by kernel_rfl))⟩
  f22 := ⟨Tryz.f116.name, by decide, Tryz.func116.trans (congrArg some (by kernel_rfl))⟩
  f23 := ⟨Tryz.f117.name, by decide, Tryz.func117.trans (congrArg some (by kernel_rfl))⟩
  f24 := ⟨Tryz.f118.name, by decide, Tryz.func118.trans (congrArg some (by kernel_rfl))⟩
  f25 := ⟨Tryz.f119.name, by decide, Tryz.func119.trans (congrArg some (by kernel_rfl))⟩
  f26 := ⟨Tryz.f120.name, by decide, Tryz.func120.trans (congrArg some (by kernel_rfl))⟩
  f27 := ⟨Tryz.f121.name, by decide, Tryz.func121.trans (congrArg some (by kernel_rfl))⟩
  f28 := ⟨Tryz.f122.name, by decide, Tryz.func122.trans (congrArg some (by kernel_rfl))⟩
  f29 := ⟨Tryz.f123.name, by decide, Tryz.func123.trans (congrArg some (by kernel_rfl))⟩
  f31 := Tryz.func130.trans (congrArg some (by kernel_rfl))
  f32 := Tryz.func131.trans (congrArg some (by kernel_rfl))
  f36 := ⟨Tryz.f129.name, by decide, Tryz.func129.trans (congrArg some (by kernel_rfl))⟩
  f37 := ⟨Tryz.f132.name, by decide, Tryz.func132.trans (congrArg some (by kernel_rfl))⟩
  f38 := ⟨Tryz.f133.name, by decide, Tryz.func133.trans (congrArg some (by kernel_rfl))⟩
  f39 := ⟨Tryz.f134.name, by decide, Tryz.func134.trans (congrArg some (by kernel_rfl))⟩
  f41 := ⟨Tryz.f135.name, by decide, Tryz.func135.trans (congrArg some (by kernel_rfl))⟩
  t0 := Tryz.underlying0
  a0 := Tryz.isAgg0
  z0 := Tryz.sizeOf0
  v0 := Tryz.zeroValue0
  t3 := Tryz.underlying3
  a3 := Tryz.isAgg3
  z3 := Tryz.sizeOf3
  v3 := Tryz.zeroValue3
  t4 := Tryz.underlying4
  a4 := Tryz.isAgg4
  z4 := Tryz.sizeOf4
  v4 := Tryz.zeroValue4
  t5 := Tryz.underlying5
  a5 := Tryz.isAgg5
  z5 := Tryz.sizeOf5
  v5 := Tryz.zeroValue5
  t9 := Tryz.underlying9
  a9 := Tryz.isAgg9
  z9 := Tryz.sizeOf9
  v9 := Tryz.zeroValue9
  t26 := Tryz.underlying36
  a26 := Tryz.isAgg36
  z26 := Tryz.sizeOf36
  v26 := Tryz.zeroValue36
  t27 := Tryz.underlying36
  a27 := Tryz.isAgg36
  z27 := Tryz.sizeOf36
  v27 := Tryz.zeroValue36
  t29 := Tryz.underlying9
  a29 := Tryz.isAgg9
  z29 := Tryz.sizeOf9
  v29 := Tryz.zeroValue9
  t32 := Tryz.underlying136
  a32 := Tryz.isAgg136
  z32 := Tryz.sizeOf136
  v32 := Tryz.zeroValue136
  t35 := Tryz.underlying150
  a35 := Tryz.isAgg150
  z35 := Tryz.sizeOf150
  v35 := Tryz.zeroValue150
  t36 := Tryz.underlying151
  a36 := Tryz.isAgg151
  z36 := Tryz.sizeOf151
  v36 := Tryz.zeroValue151
  t41 := Tryz.underlying156
  a41 := Tryz.isAgg156
  z41 := Tryz.sizeOf156
  v41 := Tryz.zeroValue156
  t44 := Tryz.underlying159
  a44 := Tryz.isAgg159
  z44 := Tryz.sizeOf159
  v44 := Tryz.zeroValue159
  t46 := Tryz.underlying161
  a46 := Tryz.isAgg161
  z46 := Tryz.sizeOf161
  v46 := Tryz.zeroValue161
  t53 := Tryz.underlying164
  a53 := Tryz.isAgg164
  z53 := Tryz.sizeOf164
  v53 := Tryz.zeroValue164
  t57 := Tryz.underlying168
  a57 := Tryz.isAgg168
  z57 := Tryz.sizeOf168
  v57 := Tryz.zeroValue168
  t63 := Tryz.underlying170
  a63 := Tryz.isAgg170
  z63 := Tryz.sizeOf170
  v63 := Tryz.zeroValue170
  t64 := Tryz.underlying171
  a64 := Tryz.isAgg171
  z64 := Tryz.sizeOf171
  v64 := Tryz.zeroValue171 }
end Go.Proofs

/- The walk of term.sorted: the names of a set, sorted, in a new slice. -/
namespace Go.Hk
open Go.Proofs Go.RowKit Go.Maps Go.Sort
theorem zpm : Keyed Tryz.prog 9 := string_keyed Tryz.underlying9
theorem ynh : (Tryz.prog.info? 9).map (fun i => (i.zero, i.size, i.bytes)) = some (some (.string ⟨#[]⟩), 1, 16) := by kernel_rfl
theorem ymu (m : Nat) (blk off cap : Nat) (ss : List (List UInt8)) (W : World) (hH : Holds encStr W blk off ss.toArray) (hblk : blk < W.heap.size) (hsz : ss.length < 4611686018427387904) :
    CallsIn Fence.wide m Tryz.prog 77 #[.slice (some ⟨blk, off, none⟩) ss.length cap] W fun e w' => e = .returned (.tuple #[]) ∧ ∃ k os, w' = grow (putRow encStr (Sort.ahead W k) blk off (ss.mergeSort fun x y => decide (x ≤ y)).toArray) os :=
  callsIn_wide.2 (AnyM.slices_Sort_string Tryz.mSort blk off cap ss W hH hblk hsz)
theorem yjq (m : Nat) (p : Option Addr) (cap : Nat) (W : World) : CallsIn Fence.wide m Tryz.prog 77 #[.slice p 0 cap] W fun e w' => e = .returned (.tuple #[]) ∧ w' = W :=
  callsIn_wide.2 (AnyM.slices_Sort_string_none Tryz.mSort p cap W)
set_option maxRecDepth 100000 in
set_option maxHeartbeats 1000000 in
theorem zw7 {H : Type} (b n : Nat) (D0 : DataW H) (w : World) (hown : w.ownsMap Tryz.prog 9 (plainElem Tryz.prog 4) b n D0) (hmax : Maps.size D0 ≤ maxLen) (hbytes : 16 * Maps.size D0 ≤ 140737488355328) :
    CallsIn Fence.wide 68 Tryz.prog 47 #[.map (some b)] w fun e w' => ∃ (v : Value) (ss : List (List UInt8)), e = .returned v ∧ ss.Perm (strKeys D0) ∧
      w'.ownsRow w.heap.size 9 1 v ss.length ((ss.mergeSort (fun x y => decide (x ≤ y))).map encStr) ∧ (v = .slice none 0 0 ↔ ss = []) ∧ Below w.heap.size w w' := by
  obtain ⟨i0, hi, hz0, hz1, hz2⟩ := info_parts ynh
  have hbl := hown.lt
  have hfn : Fence.wide.fn 77 := trivial
  refine callsIn_of_wp Tryz.func47 rfl trivial ?_ rfl
  simp only [Tryz.ntmps47, List.size_toArray, List.length_cons, List.length_nil, Nat.reduceAdd, Nat.reduceSub, Array.replicate_succ, Array.replicate_zero, List.push_toArray, List.append_toArray, List.nil_append, List.cons_append]
  gi_wp2_with (first
    | (gi_at_range; refine wpListIn_range_own _ rfl _ 61 rfl 9 4 zpm Tryz.underlying61 _ b n _ rfl hown ?_; intro w0 hrg0 hg0 hs0)
    | gi_in)
  go_frame
  gi_loopw [3] (fun v wr => ∃ (left : Lit → Bool) (cnt : Nat) (ss : List (List UInt8)), wr.ranges Tryz.prog 9 (plainElem Tryz.prog 4) b w.heap.size n D0 left cnt ∧ ss.length + cnt ≤ Maps.size D0 ∧
      wr.ownsRow w.heap.size 9 1 v ss.length (ss.map encStr) ∧ (v = .slice none 0 0 ↔ ss = []) ∧ Collected D0 left ss ∧ Below w.heap.size w wr)
    (fun _ wr => wr.rangeLeft b w.heap.size)
  case atStart =>
    exact ⟨_, _, [], hrg0, by simp, World.ownsRow_nil _ _ _ _, by simp, Collected.start D0, (Below.refl _ _).grown hg0 (Nat.le_refl _) (fun j hj => by cases hj)⟩
  case round =>
    obtain ⟨left, cnt, ss, hrg, hcs, hrow, hnn, hC, hnx⟩ := hrel
    gi_wp2_with (first
      | (gi_at_next; refine wpListIn_next_ranges _ rfl _ rfl 9 zpm (plainElem Tryz.prog 4) encStr (fun v : Value => v) (fun key kl hk => by obtain ⟨x, hx, _⟩ := Maps.keyOf_str Tryz.underlying9 hk; exact ⟨x, hx⟩) (fun v y hv => ⟨v, rfl⟩) b w.heap.size n _ _ _ rfl hrg ?_ ?_)
      | gi_in)
    · intro hc0 hl0
      rcases hrow.2 with ⟨hnil, hz⟩ | ⟨g, cap, cur, hv, hbase, hb, h1, h2, h3, h4⟩
      · have hss : ss = [] := List.eq_nil_of_length_eq_zero hz
        subst hss
        subst hnil
        gi_wp2_with (gi_at_call 77; refine (yjq _ none 0 _).mono ?_; rintro e w' ⟨rfl, rfl⟩)
        go_ret
        exact ⟨_, [], rfl, hC.perm hown zpm Tryz.underlying9 hl0, by simpa using hrow, by simp, hnx⟩
      · subst hv
        have hH : Holds encStr wr g 0 ss.toArray := holds_of_block hb (by simpa using h4)
        have hgl : g < wr.heap.size := (Array.getElem?_eq_some_iff.1 hb).1
        have hc := ymu 67 g 0 cap ss wr hH hgl (by omega)
        gi_wp2_with (gi_at_call 77; refine hc.mono ?_; rintro e w' ⟨rfl, nn, os, rfl⟩)
        go_ret
        exact ⟨_, ss, rfl, hC.perm hown zpm Tryz.underlying9 hl0, ownsRow_sorted (by simp) hbase hb h1 h2 h3, hnn, hnx.grown (grownBy_sorted _) hnx.size (fun j hj => by cases hj; exact hbase)⟩
    · intro x c kl yd yp w2 cnt2 hkey hlk hv hat hrg2 hlt hg2 hs2 hen
      obtain ⟨x', ex, rfl, _⟩ := Maps.keyOf_str Tryz.underlying9 hkey
      obtain rfl : x = x' := encStr_inj ex
      have hrow2 := hrow.kept hg2 (Or.inr (row_ne_iter hrow hrg).symm)
      clear hs2
      gi_wp2_with (first
        | (gi_at_builtin; refine wpListIn_append_own _ rfl _ _ 36 rfl w.heap.size 9 i0 (.string ⟨#[]⟩) 1 16 Tryz.underlying36 hi hz0 hz1 hz2 rfl (by decide) _ _ _ rfl (hrow2.alloc _) ⟨w2.heap.size, 0, none⟩ 1 1 [encStr x] rfl rfl (cell_one_new _ _ _) (by simp [Value.oneCell', encStr]) (by unfold maxLen at *; omega) (by omega) (by have := hnx.size; have := hg2.size; simp; omega) ?_; intro v' w3 hown' hg3 hnil3; go_frame)
        | gi_in)
      have hrg3 := (hrg2.alloc _).kept hg3 (row_ne_low hrow2 hbl) (row_ne_iter hrow2 hrg2)
      go_roundw
      case rel =>
        refine ⟨_, cnt2, ss ++ [x], hrg3, by simp; omega, by simpa using hown', ⟨fun hv' => by have := (hnil3.1 hv').2; omega, fun h => by simp at h⟩, hC.step hlk hat, ?_⟩
        exact ((hnx.grown hg2 hnx.size (fun j hj => by cases hj; exact Nat.le_refl _)).alloc (by have := hnx.size; have := hg2.size; omega) _).grown hg3 (by have := hnx.size; have := hg2.size; simp; omega) (fun j hj => (hrow2.lt j hj).1)
      case measure => rw [hrg3.left_eq, hrg.left_eq]; exact hlt
end Go.Hk

/- term.sorted, of a set that lies in a block: what it gives, whatever the order in which the set gives its names. -/
namespace Go.Hk
open Go.Proofs Go.RowKit Go.Maps Go.Sort Go.MapKept
open Go.WideElems (Fit rd rg rg_of rd_mk)
def yob : Value → List UInt8
  | .string s => s.data.toList
  | _ => []
theorem zn8 (w : World) (bm : Nat) (es : Array MapEntry) (clock : Nat) (hb : w.heap[bm]? = some (.map es clock)) (hst : Stamped es clock) (hk : ∀ e ∈ es.toList, (∃ s : ByteArray, e.key = .string s ∧ s.size ≤ maxLen) ∧ ∃ c, e.val = .bool c) (hsz : es.size ≤ 1000000) :
    Calls Tryz.prog 47 #[.map (some bm)] w fun e w' => ∃ (v : Value) (ss : List (List UInt8)), e = .returned v ∧ ss.Perm (es.toList.map fun e => yob e.key) ∧
      w'.ownsRow w.heap.size 9 1 v ss.length ((ss.mergeSort (fun x y => decide (x ≤ y))).map encStr) ∧ (v = .slice none 0 0 ↔ ss = []) ∧ Below w.heap.size w w' := by
  have hread : ∀ e ∈ es.toList, ∃ d, rd (H := Unit) Tryz.prog 9 (plainElem Tryz.prog 4) e = some (.string (yob e.key), d) := by
    intro e he
    obtain ⟨⟨s, h1, h2⟩, c, h3⟩ := hk e he
    obtain ⟨k, v, born⟩ := e
    simp only at h1 h3
    subst h1; subst h3
    have hu := Tryz.underlying4
    have hv : plainElem (H := Unit) Tryz.prog 4 (.bool c) = some (.lit (.bool c), []) := by
      unfold plainElem
      generalize Tryz.prog.underlying 4 = u at hu
      subst hu; rfl
    exact ⟨_, rd_mk (WideMaps.keyOf_string_mk Tryz.underlying9 h2) hv⟩
  have hfit : Fit (H := Unit) Tryz.prog 9 (plainElem Tryz.prog 4) es clock := ⟨by unfold maxLen; omega, hst, fun x hx => by obtain ⟨d, hd⟩ := hread x hx; exact ⟨_, hd⟩⟩
  have hown : w.ownsMap (H := Unit) Tryz.prog 9 (plainElem Tryz.prog 4) bm es.size (.map ((es.toList.map (rg Tryz.prog 9 (plainElem Tryz.prog 4))).foldr DataW.insert [])) := ⟨es, clock, hb, hfit, Nat.le_refl _, rfl⟩
  have hsize : Maps.size (H := Unit) (.map ((es.toList.map (rg Tryz.prog 9 (plainElem Tryz.prog 4))).foldr DataW.insert [])) = es.size := by
    show (List.foldr DataW.insert [] _).length = _
    rw [length_sorted]; simp
  refine (callsIn_wide.1 (zw7 bm es.size _ w hown (by rw [hsize]; unfold maxLen; omega) (by rw [hsize]; omega))).mono ?_
  rintro e w' ⟨v, ss, h1, h2, h3, h4, h5⟩
  refine ⟨v, ss, h1, h2.trans ?_, h3, h4, h5⟩
  show (List.map (fun p => strOf p.1) (List.foldr DataW.insert [] (es.toList.map (rg Tryz.prog 9 (plainElem Tryz.prog 4))))).Perm _
  refine ((WideShapes.sorted_perm _).map _).trans ?_
  rw [List.map_map]
  refine List.Perm.of_eq (List.map_congr_left fun e he => ?_)
  obtain ⟨d, hd⟩ := hread e he
  simp only [Function.comp_apply, rg_of hd, strOf]
end Go.Hk

/- Contracts of term: the sorted names of a set (sorted); what is free in a formed term is short. -/
namespace Go.Hk
open Go.Proofs Go.RowKit Go.Maps Go.Sort
def zf8 (m : List Str) : List Str := m.mergeSort fun x y => decide (x ≤ y)
theorem zt8 (I : Imm) (l : List UInt8) : RepV I (encStr l) (.str l) := .str _ _ (by simp)
set_option maxRecDepth 100000 in
theorem zw6 (m : List Str) (hm : ∀ s ∈ m, s.length ≤ maxLen) (hlen : m.length ≤ 1000000) :
    zdb Tryz.prog 47 [.mapr 1] [(1, some (.map (zev m)))] (.ret (.imm (.sl (zbb (zf8 m)))) [(1, some (.map (zev m)))]) := by
  intro I μ w xs hst hx
  obtain ⟨xl⟩ := xs
  have hx1 : xl.length = 1 := hx.1
  match xl, hx1 with
  | [x], _ =>
  have hxm : RepD I μ x (.mapr 1) := hx.2 0 x _ rfl rfl
  obtain ⟨g, hg, r, es, clock, e1, e2, e3, e4, e5⟩ := hst.blk 1 _ rfl
  subst e1
  have hxv : x = .map (some r) := by
    cases hxm with
    | mapr _ b h => rw [hg] at h; cases h; rfl
  subst hxv
  have hlen2 : es.toList.length = m.length := by simpa [zev] using e3
  have hkey : ∀ (i : Nat) (e : MapEntry), es.toList[i]? = some e → ∃ s, m[i]? = some s ∧ yob e.key = s ∧ (∃ b : ByteArray, e.key = .string b ∧ b.size ≤ maxLen) ∧ ∃ c, e.val = .bool c := by
    intro i e hi
    obtain ⟨s, hs⟩ : ∃ s, m[i]? = some s := ⟨_, List.getElem?_eq_getElem (by rw [← hlen2]; exact (List.getElem?_eq_some_iff.1 hi).1)⟩
    obtain ⟨h1, h2⟩ := e5 i e (.str s, .bool true) (by simpa using hi) (by simp [zev, hs])
    refine ⟨s, hs, ?_⟩
    generalize e.key = k at h1
    generalize e.val = u at h2
    cases h1 with
    | str b l hb =>
      cases h2 with
      | bool c =>
        refine ⟨hb, ⟨b, rfl, ?_⟩, _, rfl⟩
        have := hm s (List.mem_of_getElem? hs)
        rw [← hb] at this
        show b.data.size ≤ maxLen
        rw [← Array.length_toList]; exact this
  have hkeys : es.toList.map (fun e => yob e.key) = m := by
    refine List.ext_getElem? fun i => ?_
    rw [List.getElem?_map]
    cases hi : es.toList[i]? with
    | none =>
      have : m[i]? = none := by
        rw [List.getElem?_eq_none_iff] at hi ⊢; omega
      rw [this]; rfl
    | some e =>
      obtain ⟨s, h1, h2, _⟩ := hkey i e hi
      rw [h1, ← h2]; rfl
  have hrun : (callFunc 47 #[.map (some r)]).run Tryz.prog w = .ok (.enter 47 #[.map (some r)]) w := Hk.run_callFunc_body (Go.Proofs.Tryz.func47) (by decide +kernel) rfl _
  show valX Tryz.prog ((callFunc 47 #[.map (some r)]).run Tryz.prog w) _ _
  rw [hrun]
  refine (zn8 w r es clock e2 e4 (fun e he => ?_) (by rw [← Array.length_toList, hlen2]; exact hlen)).mono ?_
  · obtain ⟨i, hi⟩ := List.getElem?_of_mem he
    obtain ⟨s, _, _, h⟩ := hkey i e hi
    exact h
  rintro e w' ⟨v, ss, rfl, h2, h3, h4, h5⟩
  rw [hkeys] at h2
  have hss : ss.mergeSort (fun x y => decide (x ≤ y)) = zf8 m := mergeSort_of_perm h2
  rw [hss] at h3
  have hsz : (zf8 m).length = ss.length := by rw [← hss]; exact List.length_mergeSort _
  -- the immutable part with the row
  obtain ⟨J, hJ, hJr, hJo, hJn⟩ : ∃ J : Imm, I.le J ∧ RepV J v (.sl (zbb (zf8 m))) ∧ (∀ k o, J k = some o → (I k = some o ∨ (w.heap.size ≤ k ∧ w'.heap[k]? = some o))) ∧ (∀ k, k < w.heap.size → J k = I k) := by
    rcases h3.2 with ⟨rfl, h0⟩ | ⟨gb, cap, cur, rfl, hbase, hheap, hle, hcm, hcs, htake⟩
    · have : zf8 m = [] := List.eq_nil_of_length_eq_zero (by omega)
      rw [this]
      exact ⟨I, Imm.le_refl I, .slnil, fun k o h => .inl h, fun _ _ => rfl⟩
    · have hI : ∀ k, w.heap.size ≤ k → I k = none := fun k hk => by
        cases hk' : I k with
        | none => rfl
        | some o =>
          have := (Array.getElem?_eq_some_iff.1 (hst.imm k o hk')).1
          omega
      have hle' : I.le (fun k => if k = gb then some (.cells cur 9 (0, 0)) else I k) := fun k o h => by
        have : k ≠ gb := fun e => by rw [e, hI gb hbase] at h; cases h
        simp [this, h]
      refine ⟨_, hle', ?_, fun k o h => ?_, fun k hk => ?_⟩
      · have hcell : ∀ (i : Nat) (c : List V) (j : Nat) (x : V), (zbb (zf8 m))[i]? = some c → c[j]? = some x → ∃ s, c = [.str s] ∧ j = 0 ∧ x = .str s ∧ cur[i]? = some (encStr s) := by
          intro i c j x hi hj
          simp only [zbb, List.getElem?_map, Option.map_eq_some_iff] at hi
          obtain ⟨s, hs, rfl⟩ := hi
          have hj0 : j = 0 := by
            cases j with
            | zero => rfl
            | succ j => simp at hj
          subst hj0
          refine ⟨s, rfl, rfl, by simpa using hj.symm, ?_⟩
          have hv : ((zf8 m).map encStr)[i]? = some (encStr s) := by rw [List.getElem?_map, hs]; rfl
          rw [← htake, List.getElem?_take] at hv
          split at hv
          · simpa using hv
          · cases hv
        refine .sl gb 0 _ cap 1 _ (fun i j => (cur[i]?).getD undef) (by simp [zbb, hsz]) hle hcm (fun e he => ?_) (fun i c j x hi hj => ?_) (fun i c j x hi hj => ?_)
        · simp only [zbb, List.mem_map] at he
          obtain ⟨s, _, rfl⟩ := he; rfl
        · obtain ⟨s, rfl, rfl, rfl, h2⟩ := hcell i c j x hi hj
          simp [Imm.cell, h2]
          rfl
        · obtain ⟨s, rfl, rfl, rfl, h2⟩ := hcell i c j x hi hj
          simp only [h2, Option.getD_some]
          exact zt8 _ _
      · by_cases hk : k = gb
        · subst hk; simp at h; subst h; exact .inr ⟨hbase, hheap⟩
        · simp [hk] at h; exact .inl h
      · have : k ≠ gb := by omega
        simp [this]
  have hw : ∀ k, k < w.heap.size → w'.heap[k]? = w.heap[k]? := fun k hk => h5.block k hk
  refine ⟨J, μ, .imm _ _ hJr, ?_, .refl _ _, ?_⟩
  · exact
      { imm := fun k o h => (hJo k o h).elim (fun h => by
          have := hst.imm k o h
          rw [hw k (Array.getElem?_eq_some_iff.1 this).1]; exact this) fun h => h.2
        blk := fun i b hl => by
          obtain ⟨gi, q1, q2⟩ := hst.blk i b hl
          exact ⟨gi, q1, (q2.mono hJ (Mu.le_refl μ)).world fun k hk => hw k (hst.apart i b gi k hl q1 hk).2⟩
        apart := fun i b gi k hl hgi hk => by
          obtain ⟨q1, q2⟩ := hst.apart i b gi k hl hgi hk
          exact ⟨(hJn k q2).trans q1, Nat.lt_of_lt_of_le q2 h5.size⟩
        inj := hst.inj
        nodup := hst.nodup
        idsFree := hst.idsFree }
  · exact
      { imm := hJ, os := h5.os, tape := h5.tape, output := h5.output, size := h5.size
        block := fun k hk _ => hw k hk
        fresh := fun k _ h => h
        old := fun k hk _ => hJn k hk }
mutual
theorem zh5 : ∀ (t : Tm) (s m : List Str), zag t = true → ∀ x ∈ zcq t s m, x ∈ m ∨ x.length ≤ 8
  | .mk op n x ks ps, s, m, h, y, hy => by
    simp only [zag, Bool.and_eq_true] at h
    simp only [zcq] at hy
    by_cases e : op = 4
    · subst e
      have h1 := h.1.1
      simp [zba, zcp] at h1
      rw [if_pos rfl] at hy
      split at hy
      · exact .inl hy
      · simp only [zlo] at hy
        split at hy
        · exact .inl hy
        · rcases List.mem_append.1 hy with hy | hy
          · exact .inl hy
          · right
            have : y = x := by simpa using hy
            subst this
            omega
    · rw [if_neg e] at hy
      exact zoq _ 0 ks s m h.2 y hy
theorem zoq : ∀ (t : Tm) (i : Nat) (ks : List Tm) (s m : List Str), zat ks = true → ∀ x ∈ zfd t i ks s m, x ∈ m ∨ x.length ≤ 8
  | _, _, [], _, _, _, x, hx => .inl (by simpa [zfd] using hx)
  | t, i, k :: r, s, m, h, x, hx => by
    simp only [zat, Bool.and_eq_true] at h
    simp only [zfd] at hx
    rcases zoq t (i + 1) r s _ h.2 x hx with h1 | h1
    · exact zh5 k _ m h.1 x h1
    · exact .inr h1
end
mutual
theorem zjl : ∀ (t : Tm) (s m : List Str), (zcq t s m).length ≤ m.length + zcv t
  | .mk op n x ks ps, s, m => by
    simp only [zcq, zcv]
    by_cases e : op = 4
    · rw [if_pos e]
      split
      · omega
      · simp only [zlo]
        split
        · omega
        · simp only [List.length_append, List.length_cons, List.length_nil]; omega
    · rw [if_neg e]
      have := zt7 (.mk op n x ks ps) 0 ks s m
      omega
theorem zt7 : ∀ (t : Tm) (i : Nat) (ks : List Tm) (s m : List Str), (zfd t i ks s m).length ≤ m.length + zci ks
  | _, _, [], _, m => by simp [zfd]
  | t, i, k :: r, s, m => by
    simp only [zfd, zci]
    have h1 := zt7 t (i + 1) r s (zcq k ((zad t i).reverse ++ s) m)
    have h2 := zjl k ((zad t i).reverse ++ s) m
    omega
end
set_option maxRecDepth 100000 in
theorem zzn (t : Tm) (h : za8 t = true) : zdb Tryz.prog 47 [.mapr 1] [(1, some (.map (zev (zcq t [] []))))] (.ret (.imm (.sl (zbb (zcn t)))) [(1, some (.map (zev (zcq t [] []))))]) := by
  obtain ⟨h1, h2, h3, h4⟩ := zcs t h
  simp only [za8, Bool.and_eq_true] at h
  have := zw6 (zcq t [] []) (fun s hs => by
    rcases zh5 t [] [] h.2 s hs with h | h
    · cases h
    · unfold maxLen; omega) (by have := zjl t [] []; simp at this; omega)
  rw [zf8, zvt t h1] at this
  exact this
end Go.Hk

/- A row under another name, also in the cells of a block that names it. -/
namespace Go.Hk
def rnO (i j : Nat) : List D → List D
  | [] => []
  | .own k len :: r => .own (bif Nat.beq k i then j else k) len :: rnO i j r
  | d :: r => d :: rnO i j r
theorem ybr {i j : Nat} : ∀ {ds : List D} {m : Nat} {d : D}, (rnO i j ds)[m]? = some d → ∃ d0, ds[m]? = some d0 ∧ (d = d0 ∨ ∃ len, d0 = .own i len ∧ d = .own j len)
  | [], m, d, h => by simp [rnO] at h
  | x :: r, 0, d, h => by
    refine ⟨x, rfl, ?_⟩
    cases x <;> simp only [rnO, List.getElem?_cons_zero, Option.some.injEq] at h <;> first
      | exact .inl h.symm
      | skip
    rename_i k len
    cases hb : Nat.beq k i with
    | true => right; have := Nat.eq_of_beq_eq_true hb; subst this; exact ⟨len, rfl, by rw [← h, hb]; rfl⟩
    | false => left; rw [← h, hb]; rfl
  | x :: r, m + 1, d, h => by
    have : (rnO i j r)[m]? = some d := by cases x <;> simpa [rnO] using h
    obtain ⟨d0, h1, h2⟩ := ybr this
    exact ⟨d0, by simpa using h1, h2⟩
theorem zm6 {i j : Nat} : ∀ ds : List D, (rnO i j ds).length = ds.length
  | [] => rfl
  | x :: r => by cases x <;> simp [rnO, zm6 r]
section
variable {P : Program} {n : Nat} {F : List Nat} {Q : DQ} {env : Env} {st : St} {ids ids' : List Nat} {todo : List DI}
theorem ye0 (i j k : Nat) {blk : Blk} {t : TypeId} {sz : Nat} {ds : List D} (hl : lk st i = some (some blk)) (hk : lk st k = some (some (.cells t sz ds))) (hki : Nat.beq k i = false)
    (h : DGo P n F Q todo env ((k, some (.cells t sz (rnO i j ds))) :: (j, some blk) :: (i, none) :: st) ids') : DGo P n F Q todo env st (j :: ids') := by
  have hki : k ≠ i := fun e => by rw [e] at hki; simp at hki
  refine zed fun I μ a w hc => ?_
  have hlive : zaq st i blk := hl
  obtain ⟨g, hg, hr⟩ := hc.blk i _ hlive
  have hjn : μ j = none := hc.idsFree j (by simp)
  have hij : i ≠ j := fun e => by rw [e, hjn] at hg; cases hg
  obtain ⟨gk, hgk, hrk⟩ := hc.blk k _ hk
  have hkj : k ≠ j := fun e => by rw [e, hjn] at hgk; cases hgk
  obtain ⟨ν, hν⟩ : ∃ ν : Mu, ν = fun k => if k = j then some g else μ k := ⟨_, rfl⟩
  have hνj : ν j = some g := by rw [hν]; simp
  have hνo : ∀ k, k ≠ j → ν k = μ k := fun k hk => by rw [hν]; simp [hk]
  have hle : μ.le ν := fun k v hk => by
    have : k ≠ j := fun e => by rw [e, hjn] at hk; cases hk
    rw [hνo k this]; exact hk
  have hst : ∀ k' bk, zaq ((k, some (.cells t sz (rnO i j ds))) :: (j, some blk) :: (i, none) :: st) k' bk → (k' = k ∧ bk = .cells t sz (rnO i j ds)) ∨ (k' ≠ k ∧ k' = j ∧ bk = blk) ∨ (k' ≠ k ∧ k' ≠ j ∧ k' ≠ i ∧ zaq st k' bk) := fun k' bk h => by
    rcases zah.1 h with h | ⟨h0, h⟩
    · exact .inl h
    · rcases zah.1 h with h | ⟨h1, h⟩
      · exact .inr (.inl ⟨h0, h⟩)
      · obtain ⟨h2, h3⟩ := za9.1 h
        exact .inr (.inr ⟨h0, h1, h2, h3⟩)
  have old : ∀ k' bk, zaq ((k, some (.cells t sz (rnO i j ds))) :: (j, some blk) :: (i, none) :: st) k' bk → ∀ gk', ν k' = some gk' → ∃ k0 b0, zaq st k0 b0 ∧ μ k0 = some gk' ∧ (k0 = if k' = j then i else k') := fun k' bk h gk' hgk' => by
    rcases hst k' bk h with ⟨rfl, rfl⟩ | ⟨_, rfl, rfl⟩ | ⟨_, h1, _, h3⟩
    · exact ⟨k', _, hk, by rw [← hνo k' hkj]; exact hgk', by rw [if_neg hkj]⟩
    · exact ⟨i, _, hlive, by rw [hνj] at hgk'; rw [hg]; exact hgk', by rw [if_pos rfl]⟩
    · exact ⟨k', _, h3, by rw [← hνo k' h1]; exact hgk', by rw [if_neg h1]⟩
  refine ⟨I, ν, env, _, ids', ?_, fun t d hl => (hc.env t d hl).mono (Imm.le_refl I) hle, ?_, fun k hk v hv => ?_, h⟩
  · exact
      { imm := hc.imm
        blk := fun k' bk h => by
          rcases hst k' bk h with ⟨rfl, rfl⟩ | ⟨_, rfl, rfl⟩ | ⟨_, h1, _, h3⟩
          · refine ⟨gk, hle _ _ hgk, ?_⟩
            obtain ⟨hs, b, us, e1, e2, e3, e4⟩ := hrk
            refine ⟨by rw [zm6]; exact hs, b, us, e1, e2, ⟨by rw [zm6]; exact e3.1, fun m v d hv hd => ?_⟩, e4⟩
            obtain ⟨d0, q1, q2⟩ := ybr hd
            have h0 := e3.2 m v d0 hv q1
            rcases q2 with rfl | ⟨len, rfl, rfl⟩
            · exact h0.mono (Imm.le_refl I) hle
            · cases h0 with
              | own _ _ a cap hm => rw [hg] at hm; cases hm; exact .own _ _ _ _ hνj
          · exact ⟨g, hνj, hr.mono (Imm.le_refl I) hle⟩
          · obtain ⟨g', p1, p2⟩ := hc.blk k' bk h3
            exact ⟨g', hle _ _ p1, p2.mono (Imm.le_refl I) hle⟩
        apart := fun k' bk gk' m h hgk' hm => by
          obtain ⟨k0, b0, q1, q2, _⟩ := old k' bk h gk' hgk'
          exact hc.apart k0 b0 gk' m q1 q2 hm
        inj := fun k1 k2 bk1 bk2 g1 g2 m h1 h2 hg1 hg2 hm1 hm2 => by
          obtain ⟨p1, c1, q1, q2, q3⟩ := old k1 bk1 h1 g1 hg1
          obtain ⟨p2, c2, r1, r2, r3⟩ := old k2 bk2 h2 g2 hg2
          have e := hc.inj p1 p2 c1 c2 g1 g2 m q1 r1 q2 r2 hm1 hm2
          have n1 : k1 ≠ i := by
            rcases hst k1 bk1 h1 with ⟨rfl, _⟩ | ⟨_, rfl, _⟩ | ⟨_, _, h, _⟩
            · exact hki
            · exact fun e => hij e.symm
            · exact h
          have n2 : k2 ≠ i := by
            rcases hst k2 bk2 h2 with ⟨rfl, _⟩ | ⟨_, rfl, _⟩ | ⟨_, _, h, _⟩
            · exact hki
            · exact fun e => hij e.symm
            · exact h
          rw [q3, r3] at e
          by_cases e1 : k1 = j <;> by_cases e2 : k2 = j
          · rw [e1, e2]
          · rw [if_pos e1, if_neg e2] at e; exact absurd e.symm n2
          · rw [if_neg e1, if_pos e2] at e; exact absurd e n1
          · rw [if_neg e1, if_neg e2] at e; exact e
        nodup := (List.nodup_cons.1 hc.nodup).2
        idsFree := fun k' hk' => by
          have : k' ≠ j := fun e => (List.nodup_cons.1 hc.nodup).1 (e ▸ hk')
          rw [hνo k' this]; exact hc.idsFree k' (by simp [hk']) }
  · exact { imm := Imm.le_refl I, os := rfl, tape := rfl, output := rfl, size := Nat.le_refl _, block := fun _ _ _ => rfl
            fresh := fun b _ ⟨k', bk, gk', h1, h2, h3⟩ => by
              obtain ⟨k0, b0, q1, q2, _⟩ := old k' bk h1 gk' h2
              exact ⟨k0, b0, gk', q1, q2, h3⟩
            old := fun _ _ _ => rfl }
  · exact hle _ _ hv
end
end Go.Hk

/- namer.in: one round of the loop over the names that a term binds in a part. -/
namespace Go.Hk
open Go.Proofs
def zu7 : Code → Option (Code × Code)
  | .rangeFunc _ _ a b => some (a, b)
  | .seq x y => match zu7 x with
    | some r => some r
    | none => zu7 y
  | .block _ c => zu7 c
  | .loop c => zu7 c
  | .scope c => zu7 c
  | .cond _ x y => match zu7 x with
    | some r => some r
    | none => zu7 y
  | _ => none
def yl2 (f : Func) : Code := match zu7 (zg8 f 0) with
  | some (a, _) => a
  | none => .skip
def ygg (f : Func) : Code := match zu7 (zg8 f 0) with
  | some (_, b) => b
  | none => .skip
def zxl (scs : List Sc) (s : Sc) (m : Nat) : List (List V) := scs.map (fun s => [zew s]) ++ [zew s] :: List.replicate m [.nilp]
theorem yj1 (scs : List Sc) (s : Sc) (m : Nat) : (zxl scs s m)[scs.length]? = some [zew s] := by
  rw [zxl, List.getElem?_append_right (by simp)]; simp
theorem yj0 (scs : List Sc) (s s2 : Sc) (m : Nat) : (zxl scs s m).set scs.length [zew s2] = zxl scs s2 m := by
  rw [zxl, List.set_append_right _ _ (by simp)]; simp [zxl]
theorem ybo (scs : List Sc) (s : Sc) (m : Nat) : (zxl scs s m).length = scs.length + 1 + m := by
  simp [zxl]; omega
def stR (b : Nat) (sk : An) (n : Nat) (scs : List Sc) (r : Nat × Tm × List Str × Sc) : St :=
  [(2, some (.cells 105 1 [.ref 7 0])), (4, some (.cells 26 5 [.imm (.int .i64 0), .imm (.int .i64 0), .imm (.str []), .nils, .nils])), (9, some (.hp (zcr b sk r.2.1))),
    (7, some (.cells 107 1 [.own 13 r.2.2.1.length])), (13, some (.row 9 1 (zbb r.2.2.1))), (10, some (.row 86 1 (zxl scs r.2.2.2 (n - scs.length - 1)))), (11, some (.cells 137 1 [.own 10 n])), (12, some (.immb 3 1 [.int .i64 scs.length]))]
def yoe (b n i : Nat) (s : Sc) : Env := [(36, .imm (.int .i64 i)), (35, .imm (.int .i64 n)), (2, .imm (zew s)), (9, .ref 11 0), (4, .raw (.pointer (some ⟨b, 0, none⟩))), (3, .ref 2 0), (6, .ref 4 0), (10, .ref 12 0)]
set_option maxRecDepth 100000 in
theorem zz3 (b : Nat) (sk : An) (n : Nat) (scs : List Sc) (T : Tm) (tk : List Str) (s s0 : Sc) (hf : zh7 sk T) (j : Nat) (hj : j < (zad T scs.length).length) (hlen : tk.length + (zad T scs.length).length ≤ 699) (hn : scs.length < n) (hn2 : n ≤ 1000000) (d : D) (hd : ((bp sk scs.length).map (plD b sk))[j]? = some d)
    {L : zn0} (h1 : Tryz.prog.funcs[L.fn]?.isSome) (h2 : L.tmps.size = Tryz.f81.ntmps) (h3 : L.ps = #[45]) (h4 : L.asg = yl2 Tryz.f81)
    (h5 : L.body = ygg Tryz.f81) (h6 : L.E = yoe b n scs.length s0) (h7 : L.F = [1, 7, 8]) :
    ya6 Tryz.prog [d] (zds L (stR b sk n scs (rAt scs.length T tk s j)) none) true (zds L (stR b sk n scs (rAt scs.length T tk s (j + 1))) none) := by
  obtain ⟨fc, hfc⟩ := Option.isSome_iff_exists.1 h1
  obtain ⟨x, hx⟩ := zal hj
  obtain ⟨i1, i2, i3, i4, i5, _⟩ := zzx (i := scs.length) hf tk s j (by omega)
  rw [ybs hx]
  generalize rAt scs.length T tk s j = r at *
  obtain ⟨r1, rT, rtk, rs⟩ := r
  simp only at i1 i2 i3 i4 i5
  subst i1
  have hok := zh6 i2
  rw [List.getElem?_map] at hd
  obtain ⟨p, hp, rfl⟩ := Option.map_eq_some_iff.1 hd
  obtain ⟨a0, b', off', hl, hD⟩ : ∃ a0 b' off', zen sk b 0 p = some (a0, b', off') ∧ plD b sk p = .raw (ptr b' (zdo off' 2)) := by
    obtain ⟨a, o, nn, y, ad, c, ks, u, qs, rfl, hv, _⟩ := id i2
    rw [zy5] at hp
    obtain ⟨s, o', n', x', v', ks', u', ps', b', off', hl, _, _⟩ := zsc ((zhf a).1 hok) hv hp b
    refine ⟨_, b', off', by rw [zjc, hl]; rfl, ?_⟩
    simp only [plD, zjc, hl, Option.map_some]
  have hx2 : (zad rT scs.length)[r1]? = some x := by rw [i3 r1 (Nat.le_refl _)]; exact hx
  have hrd := ztc hok hp hl (b := b) hx2
  have hwr := zqe hok hp hl (b := b) (t := rT) (za3 rtk)
  rw [hD]
  refine znr (pend := none) (d := .raw (ptr b' (zdo off' 2))) (ids := [14, 15, 16]) (t := 11) (p := 45) hfc h3 (h4.trans rfl) h2 rfl rfl rfl rfl (by decide) (by decide) ?_ ?_
  · rw [h6, h7]
    refine ⟨by decide, ?_⟩
    simp [stR, yoe, nmE, nmD, zfb, nmB, nmL]
  · rw [h5, h6, h7]
    refine xd [] rfl (by simp [zai]) ?_
    refine zar (fr := []) [(13, 1)] [] rfl (by simp) (yc4 rtk _ (by omega)) ⟨⟨rfl, rfl, rfl⟩, trivial⟩ rfl rfl rfl rfl ?_
    refine xg [] rfl (by simp [zai]) ?_
    refine zbz ttX_ok rfl ⟨by simp, by simp [maxLen]; omega, by simp; omega, trivial⟩ ?_
    refine xg [] rfl (by simp [zai]; rfl) ?_
    refine zbr ttX_ok 9 [.imm (.str x)] rfl rfl (fun _ => hrd) rfl rfl (by simp) ?_
    refine xg [] rfl (by simp [zai]) ?_
    refine ze8 ttX_ok rfl (fun _ => ⟨by simp, by simp only [ybo]; omega⟩) (by simp) ?_
    refine xg [] rfl (by simp [zai]) ?_
    have hone : V.one (zew rs) = true := by
      rcases rs with _ | ⟨⟨_, _⟩, _⟩ <;> rfl
    have hrg := yj1 scs rs (n - scs.length - 1)
    have hrs := yj0 scs rs ((x, za3 rtk) :: rs) (n - scs.length - 1)
    rcases rs with _ | ⟨⟨y1, y2⟩, rs⟩
    all_goals
      refine zrc ttX_ok rfl (fun _ => hrg) rfl (by simp) ?_
      refine xg [] rfl (by simp [zai]) ?_
      refine ze8 ttX_ok rfl (fun _ => ⟨by simp, by simp only [ybo]; omega⟩) (by simp) ?_
      refine yk0 ttX_ok rfl hrg ?_
      refine xg [] rfl (by simp [zai]; rfl) ?_
      refine zpo ttX_ok 9 (zcr b sk (zdh rT scs.length r1 (za3 rtk))) rfl rfl hwr ?_
      refine xg [] rfl (by simp [zai]) ?_
      refine zb5 13 14 rfl ?_
      refine zb9 ?_
      show zkz _ (stR b sk n scs (r1 + 1, zdh rT scs.length r1 (za3 rtk), rtk ++ [za3 rtk], (x, za3 rtk) :: _))
      have e3 : (rtk ++ [za3 rtk]).length = (zbb rtk ++ [[V.str (za3 rtk)]]).length := by simp [zbb]
      have e4 : zbb (rtk ++ [za3 rtk]) = zbb rtk ++ [[V.str (za3 rtk)]] := by simp [zbb]
      simp only [stR]
      rw [e3, e4, ← hrs]
      exact ⟨rfl, rfl, rfl, rfl, rfl, rfl, rfl, rfl, trivial⟩
end Go.Hk

/- A store of a value of one cell into an zb6 row. -/
namespace Go.Hk
structure PVs where
  id : Nat
  e : TypeId
  es : List (List V)
  k : Nat
  x : V
  todo : List DI
def ygx (tt : TT) (env : Env) (st : St) (todo : List DI) : Option PVs :=
  match yfi todo with
  | some o => match o.guard, o.dst, o.op with
    | none, none, .store t p x => match lk tt t, evO env p, evO env x with
      | some i, some (.elp id k 1 0), some (.imm xv) => match lk st id, zck todo ([id], [id]), Nat.beq i.size 1 with
        | some (some (.row e 1 es)), some (_, _, todo'), true => some ⟨id, e, es, k, xv, todo'⟩
        | _, _, _ => none
      | _, _, _ => none
    | _, _, _ => none
  | none => none
section
variable {P : Program} {n : Nat} {F : List Nat} {Q : DQ} {tt : TT} {env env' : Env} {st st' : St} {ids ids' : List Nat} {k todo todo' : List DI} {I : Imm} {μ : Mu} {w : World} {a : Act} {Pn : V → Prop} {d : D} {cx : Prop} {ob : List Prop}
theorem ykw (htt : TTok P tt) {c : PVs} {y : V} (h : ygx tt env st todo = some c) (hc : c.es[c.k]? = some [y]) (hox : V.one c.x = true)
    (hk : G P n F Q c.todo env ((c.id, some (.row c.e 1 (c.es.set c.k [c.x]))) :: st) ids) : G P n F Q todo env st ids := by
  unfold ygx at h
  split at h
  · rename_i o ho
    split at h
    · rename_i t p x hgd hdst hop
      split at h
      · rename_i i id kk xv ht hp hx
        split at h
        · rename_i ty es all o' todo' hl h1 hsz
          cases h
          have ho' : o' = o := zdv ho h1
          subst ho'
          have hs := Nat.eq_of_beq_eq_true hsz
          simp only at hc hk hox
          have hk : G P n F Q todo' (zeb o'.dst .undef env) ([(id, some (.row ty 1 (es.set kk [xv])))] ++ st) ids := by rw [hdst]; exact hk
          refine zc0 (fr := []) (wr := [(id, some (.row ty 1 (es.set kk [xv])))]) (rd := [id]) h1 ?_ (by simp [zc8, hdst]) (fun c hc => by rw [hop] at hc; cases hc) hk
          intro I μ st1 ids1 a w hag hst hon
          refine ⟨fun _ => ?_, fun hw => by rw [zaw hgd] at hw; cases hw⟩
          have hops := zbm hon
          rw [hop] at hops
          have rp := hops p (by simp [Op.operands]) _ hp
          have rx := hops x (by simp [Op.operands]) _ hx
          have hl1 : zaq st1 id (.row ty 1 es) := by unfold zaq; rw [hag id (by simp)]; exact hl
          have rv := rx.immInv
          obtain ⟨b, cap, cur, hmu, hheap, hcap, hcm, hcs, hrep, hlen, hone, hpos⟩ := zxk hst hl1 (by rintro rfl; simp at hc)
          have hkl := (List.getElem?_eq_some_iff.1 hc).1
          rw [Nat.mul_one] at hcs
          generalize hv : a.eval p = v at rp
          generalize hu : a.eval x = u at rx rv
          have hu1 : u.cells = #[u] ∧ u.oneCell' = true := ⟨zgl (rv.one hox), rv.one hox⟩
          cases rp with
          | elp _ _ ln cp _ _ _ hm =>
            rw [hm] at hmu; cases hmu
            have hfit : kk * 1 + 0 + u.cells.toList.length ≤ cur.size := by rw [hu1.1, hcs]; simp; omega
            have hrun : (execOp a.eval o').run P w = .ok .skip (w.setRow b (cur.toList.take (kk * 1 + 0) ++ u.cells.toList ++ cur.toList.drop (kk * 1 + 0 + u.cells.toList.length)).toArray) := by
              simp only [execOp, hop, hv, hu, Sem.run_bind, zf1 (htt t i ht) hheap (by rw [hu1.1, hs]; rfl) (fun z hz => by rw [hu1.1] at hz; simp at hz; subst hz; exact hu1.2) hfit, Result.andThen_ok, Sem.run_pure]
            rw [hrun]
            have hcl : cur.toList.length = cap := by simpa using hcs
            rw [hu1.1]
            simp only [Nat.mul_one, Nat.add_zero, List.length_singleton]
            simp only [Nat.mul_one] at hrep
            have hnew : BlkRep I μ (w.setRow b (cur.toList.take kk ++ [u] ++ cur.toList.drop (kk + 1)).toArray) (.slice (some ⟨b, 0, none⟩) es.length cap) (.row ty 1 (es.set kk [xv])) := by
              have e1 := zhw (sz := 1) (f := 0) (ys := [xv]) es kk [y] hlen hc (by simp)
              simp only [List.take_zero, List.nil_append, List.length_singleton, Nat.zero_add, Nat.mul_one, Nat.add_zero] at e1
              have e1' : (es.set kk [xv]).flatten = es.flatten.take kk ++ [xv] ++ es.flatten.drop (kk + 1) := by simpa using e1
              have e2 : (cur.toList.take kk ++ [u] ++ cur.toList.drop (kk + 1)).take es.length = (cur.toList.take es.length).take kk ++ [u] ++ (cur.toList.take es.length).drop (kk + 1) := by
                rw [List.append_assoc, List.take_append, List.take_append, List.take_take, List.take_take, List.length_take, List.append_assoc]
                rw [Nat.min_eq_left (by omega : kk ≤ cur.toList.length), Nat.min_eq_right (by omega : kk ≤ es.length), Nat.min_eq_left (by omega : kk ≤ es.length)]
                rw [List.take_of_length_le (l := [u]) (by simp; omega), List.drop_take]
                congr 3
              have hR := RepVL.splice hrep (ns := [u]) (ys := [xv]) ⟨rfl, fun q v z h1 h2 => by
                match q with
                | 0 => simp at h1 h2; subst h1; subst h2; exact rv
                | q + 1 => simp at h1⟩ kk
              simp only [List.length_singleton] at hR
              have hls : (es.set kk [xv]).length = es.length := by simp
              refine ⟨_, ⟨?_, .inr ⟨b, cap, _, by rw [hls], Nat.zero_le _, setRow_heap w b cur _ ty _ hheap, by rw [hls]; exact hcap, hcm, ?_, rfl⟩⟩, ?_, ?_, ?_, Nat.one_pos⟩
              · simp; omega
              · simp; omega
              · rw [hls, Nat.mul_one, List.toList_toArray, e2, e1']
                exact hR
              · intro c hc'
                rcases List.mem_or_eq_of_mem_set hc' with h | h
                · exact hlen c h
                · rw [h]; rfl
              · intro c hc' y hy
                rcases List.mem_or_eq_of_mem_set hc' with h | h
                · exact hone c h y hy
                · rw [h] at hy; simp at hy; subst hy; exact hox
            obtain ⟨q1, q2⟩ := hst.update (id := id) (blk := .row ty 1 es) (g := .slice (some ⟨b, 0, none⟩) es.length cap) (b := b) hl1 hm rfl (w' := w.setRow b _) (setRow_size w b _) rfl rfl rfl (fun k hk => setRow_other w b k _ hk) hnew
            exact ⟨I, μ, q1, .undef _, Mu.le_refl μ, q2⟩
        · cases h
      · cases h
    · cases h
  · cases h
end
end Go.Hk

/- Contract of namer.in: a term with its bound names chosen anew, in place. -/
namespace Go.Hk
open Go.Proofs
theorem ymh {L : zn0} {st : St} {pend : Option Code} {I : Imm} {w : World} {b : Nat} {bs : List Nat} (h : (zds L st pend).P I w b bs) {i : Nat} {A : Asn} (hl : lk st i = some (some (.hp A))) : ∃ vs bs', A.P vs I w bs' := by
  obtain ⟨r, μ, bs0, h1, h2, h3, h4, h5, h6, h7⟩ := h
  obtain ⟨g, _, vs, bs', _, hP⟩ := h6 i _ hl
  exact ⟨vs, bs', hP⟩
def zze (scs : List Sc) (m : Nat) : List (List V) := scs.map (fun s => [zew s]) ++ List.replicate m [.nilp]
theorem yjz (scs : List Sc) (m : Nat) : (zze scs (m + 1))[scs.length]? = some [.nilp] := by
  rw [zze, List.getElem?_append_right (by simp)]; simp [List.replicate]
theorem yjx (scs : List Sc) (s : Sc) (m : Nat) : (zze scs (m + 1)).set scs.length [zew s] = zxl scs s m := by
  rw [zze, List.set_append_right _ _ (by simp)]; simp [zxl, List.replicate]
theorem rowS_T (scs : List Sc) (s : Sc) (m : Nat) : zxl scs s m = zze (scs ++ [s]) m := by simp [zxl, zze]
theorem yjy {scs : List Sc} {i : Nat} {sc : Sc} (h : scs[i]? = some sc) (m : Nat) : (zze scs m)[i]? = some [zew sc] := by
  have hlt := (List.getElem?_eq_some_iff.1 h).1
  rw [zze, List.getElem?_append_left (by simpa using hlt), List.getElem?_map, h]; rfl
theorem ybn (scs : List Sc) (m : Nat) : (zze scs m).length = scs.length + m := by simp [zze]
def stL1 (b : Nat) (sk : An) (n : Nat) (y : Tm × List Str × List Sc) : St :=
  [(2, some (.cells 105 1 [.ref 7 0])), (4, some (.cells 26 5 [.imm (.int .i64 0), .imm (.int .i64 0), .imm (.str []), .nils, .nils])), (9, some (.hp (zcr b sk y.1))),
    (7, some (.cells 107 1 [.own 13 y.2.1.length])), (13, some (.row 9 1 (zbb y.2.1))), (10, some (.row 86 1 (zze y.2.2 (n - y.2.2.length)))), (11, some (.cells 137 1 [.own 10 n]))]
def envL1 (b n i : Nat) (s : Sc) : Env := [(36, .imm (.int .i64 i)), (35, .imm (.int .i64 n)), (2, .imm (zew s)), (9, .ref 11 0), (4, .raw (.pointer (some ⟨b, 0, none⟩))), (3, .ref 2 0), (6, .ref 4 0)]
def stL2 (b : Nat) (sk : An) (n : Nat) (scs : List Sc) (T : Tm) (tk : List Str) : St :=
  [(2, some (.cells 105 1 [.ref 7 0])), (4, some (.cells 26 5 [.imm (.int .i64 0), .imm (.int .i64 0), .imm (.str []), .nils, .nils])), (9, some (.hp (zcr b sk T))),
    (7, some (.cells 107 1 [.own 13 tk.length])), (13, some (.row 9 1 (zbb tk))), (10, some (.row 86 1 (zze scs (n - scs.length)))), (11, some (.cells 137 1 [.own 10 n]))]
def envL2 (b n i : Nat) (v : Value) : Env := [(82, .imm (.int .i64 i)), (81, .imm (.int .i64 n)), (80, .raw v), (9, .ref 11 0), (4, .raw (.pointer (some ⟨b, 0, none⟩))), (3, .ref 2 0), (6, .ref 4 0)]
def InvL1 (sk : An) (t : Tm) (n : Nat) (tk : List Str) (s : Sc) (y : Tm × List Str × List Sc) : Prop :=
  y.2.2.length ≤ n ∧ zh7 sk y.1 ∧ (∀ op m x ks ps, t = .mk op m x ks ps → ∃ x' ps', y.1 = .mk op m x' ks ps' ∧ ps'.length = ps.length) ∧ (∀ m, (zad y.1 m).length = (zad t m).length) ∧
    y.2.1.length + zgq t (n - y.2.2.length) y.2.2.length ≤ tk.length + zgq t n 0 ∧ l1 n 0 t tk s [] = l1 (n - y.2.2.length) y.2.2.length y.1 y.2.1 s y.2.2
theorem hp_of {t : Tm} (hp : zfl t) {op n : Int} {x : Str} {ks : List Tm} {ps : List Ty} (ht : t = .mk op n x ks ps) {i : Nat} (hi : i < ks.length) (h1 : zbo op i = false) (h2 : zb1 op i = true) : i - 1 < ps.length := by
  subst ht
  obtain ⟨_, h, _⟩ := hp
  obtain ⟨p, q, _⟩ := h i hi h1 h2
  have := (List.getElem?_eq_some_iff.1 q).1
  have h3 : 0 < i := by simp [zb1] at h2; omega
  omega
set_option maxRecDepth 100000 in
theorem yb8 : ∀ (t : Tm) (s : Sc) (tk : List Str) (sk : An) (op n : Int) (x xx : Str) (v u : Value) (js qs : List An) (ks : List Tm) (ps : List Ty), t = .mk op n x ks ps → sk = .mk true op n xx v js u qs → zjk sk → zim t → zfl t → tk.length + yb2 t ≤ 699 →
    zdb Tryz.prog 81 [.ref 7 0, ygd op n x v u, .imm (zew s)] [(1, some (.hp (yfd sk t))), (7, some (.cells 107 1 [.own 8 tk.length])), (8, some (.row 9 1 (zbb tk)))]
    (.ret (ygd op n (textTm (zlh t s tk).1) v u) [(5, some (.hp (yfd sk (zlh t s tk).1))), (7, some (.cells 107 1 [.own 13 (zlh t s tk).2.length])), (13, some (.row 9 1 (zbb (zlh t s tk).2)))])
  | t, s, tk, sk, op, n, x, xx, v, u, js, qs, ks, ps, ht, hsk, hfull, hwide, hpats, htk => by
    refine zaf ttX_ok Tryz.func81 (by decide +kernel) rfl [2, 3, 4, 13, 5, 9, 10, 11, 12, 6, 14, 15, 16, 17, 18] rfl rfl ?_
    refine xg [] rfl (by simp) ?_
    refine ye0 (ids' := [5, 9, 10, 11, 12, 6, 14, 15, 16, 17, 18]) 8 13 7 rfl rfl rfl ?_
    refine zaa rfl (fun h => ?_) (fun h => ?_)
    · have e : op = 4 := by simpa using h
      have key : ∀ y : Str, ∀ vs I w bs, (yfd sk t).P vs I w bs → ∃ (_ : Unit) (bs' : List Nat), (∀ b ∈ bs', b ∈ bs) ∧ (yfd sk (.mk op n y ks ps)).P [] I w bs' := by
        rintro y vs I w bs ⟨a, h1, h2, h3, h4, h5⟩
        subst ht
        rcases a with ⟨s0, o', n', x', v', ks', u', ps'⟩ | ⟨s0, cs0, c0⟩
        case im => rw [hsk] at h1; simp [er] at h1
        have hs : s0 = true := by rw [hsk] at h1; simp only [er, An.mk.injEq] at h1; exact h1.1
        subst hs
        refine ⟨(), bs, fun _ h => h, .mk true o' n' y v' ks' u' ps', by rw [← h1]; rfl, ?_, h3, h4, by simpa only [anW] using h5⟩
        simp only [vA, dTmc, List.cons.injEq] at h2 ⊢
        exact ⟨h2.1, h2.2.1, trivial, h2.2.2.2⟩
      refine yip (ids' := [9, 10, 11, 12, 6, 14, 15, 16, 17, 18]) 1 5 (fun _ : Unit => yfd sk (.mk op n ((ziq s x).getD x) ks ps)) rfl (key _) fun _ => ?_
      refine xd [] rfl (by simp) ?_
      refine zac rfl (fun _ => ykk s x) (by simp) ?_
      have e2 : zlh t s tk = (.mk op n ((ziq s x).getD x) ks ps, tk) := by subst ht; simp [zlh, e]
      rw [e2]
      cases hl : ziq s x with
      | none =>
        refine xg [] rfl (by simp) ?_
        refine zaa rfl (fun h => by simp at h) (fun h => ?_)
        refine xd [] rfl (by simp) ?_
        exact zab ⟨_, rfl, rfl, rfl, rfl, rfl, trivial⟩
      | some y =>
        refine xg [] rfl (by simp) ?_
        refine zaa rfl (fun h => ?_) (fun h => by simp at h)
        refine xd [] rfl (by simp) ?_
        exact zab ⟨_, rfl, rfl, rfl, rfl, rfl, trivial⟩
    · have e : op ≠ 4 := by simpa using h
      refine zou (ids' := [9, 10, 11, 12, 6, 14, 15, 16, 17, 18]) 3 5 rfl rfl fun b => ?_
      refine yas (ids' := [10, 11, 12, 6, 14, 15, 16, 17, 18]) 1 5 9 (fun _ : Unit => zcr b sk t) rfl rfl (by decide) (fun vs us I w b1 b2 h1 h2 hd => ⟨(), b :: b1, ydb hsk ht h1 h2 hd⟩) fun _ => ?_
      have hfQ : yer sk := by rw [hsk] at hfull ⊢; exact hfull.2
      refine zee 9 (fun _ : { _y : Unit // zh7 sk t } => zcr b sk t) rfl (fun vs I w bs h => ⟨⟨(), yih hfQ (by rw [ht] at hwide ⊢; exact hwide.2.2.1) h⟩, h⟩) fun z => ?_
      obtain ⟨_, hfine⟩ := z
      have hv : ∃ ad c, v = .slice ad ks.length c ∧ js.length = ks.length ∧ (0 < ks.length → ∃ rb, ad = some ⟨rb, 0, none⟩) := by
        obtain ⟨a, o', n', x', ad, c, ks', u', qs', h1, h2, h3, _, _, h4, _⟩ := hfine
        obtain ⟨tks, tps, h5, h6, _⟩ := zl3 h3 h2
        rw [ht] at h5; cases h5
        rw [hsk, h3] at h1
        simp only [er, An.mk.injEq] at h1
        exact ⟨ad, c, by rw [← h1.2.2.2.2.1, h6], by rw [← h1.2.2.2.2.2.1, ze1, h6], by rw [← h6]; exact h4⟩
      obtain ⟨ad, c, rfl, hjl, hadr⟩ := hv
      refine xd [] rfl (by simp) ?_
      have hkl : ks.length ≤ 1000000 := by rw [ht] at hwide; exact hwide.1
      refine zbr ttX_ok 9 [.raw (.slice ad ks.length c)] rfl rfl (fun _ vs I w bs h => (zei (by rw [hsk] at h; exact h)).1) rfl rfl (by simp) ?_
      refine xg [] rfl (by simp) ?_
      refine yia ttX_ok rfl rfl (by simp) (by simp; omega) (by simp [maxLen]; omega) rfl ?_
      rw [List.length_replicate]
      refine xg [] rfl (by simp) ?_
      refine zbr ttX_ok 9 [.raw (.slice ad ks.length c)] rfl rfl (fun _ vs I w bs h => (zei (by rw [hsk] at h; exact h)).1) rfl rfl (by simp) ?_
      refine xg [] rfl (by simp) ?_
      have hocc : zgq t ks.length 0 + znc ks = yb2 t := by rw [ht]; simp [yb2, e]
      refine zaj (fun y : Tm × List Str × List Sc => envL1 b ks.length y.2.2.length s) (fun y => stL1 b sk ks.length y) [12, 6, 14, 15, 16, 17, 18] (fun y => ks.length - y.2.2.length) (InvL1 sk t ks.length tk s) (t, tk, [])
        ⟨Nat.zero_le _, hfine, fun _ _ _ _ _ h => ⟨_, _, h, rfl⟩, fun _ => rfl, Nat.le_refl _, rfl⟩ ⟨rfl, rfl, rfl, rfl, rfl, rfl, rfl, trivial⟩ ⟨rfl, rfl, rfl, rfl, rfl, rfl, rfl, trivial⟩ rfl fun y hi ih => ?_
      obtain ⟨T, tk1, scs⟩ := y
      obtain ⟨g1, g2, g3, g4, g5, g6⟩ := hi
      simp only at g1 g2 g3 g4 g5 g6
      refine xd [] rfl (by simp) ?_
      refine zaa rfl (fun h => ?_) (fun h => ?_)
      · simp at h
        obtain ⟨m, hm⟩ : ∃ m, ks.length - scs.length = m + 1 := ⟨ks.length - scs.length - 1, by omega⟩
        have hm2 : ks.length - scs.length - 1 = m := by omega
        refine xd [] rfl (by simp) ?_
        refine ze8 ttX_ok rfl (fun _ => ⟨by simp, by simp only [ybn]; omega⟩) (by simp) ?_
        have hone : V.one (zew s) = true := by
          rcases s with _ | ⟨⟨_, _⟩, _⟩ <;> rfl
        refine ykw (y := .nilp) ttX_ok rfl (by simp only [hm]; exact yjz scs m) hone ?_
        refine xg [] rfl (by simp) ?_
        have hrow : (zze scs (ks.length - scs.length)).set scs.length [zew s] = zxl scs s (ks.length - scs.length - 1) := by rw [hm, yjx]; rfl
        obtain ⟨x1, ps1, hT, hps1⟩ := g3 _ _ _ _ _ ht
        have hbl := hp_of hpats ht h
        have hb90 : tk1.length + (zad T scs.length).length ≤ 699 := by
          rw [hm] at g5
          simp only [zgq] at g5
          rw [g4]; omega
        obtain ⟨r1, r2, r3, r4, r5, r6⟩ := zzx (i := scs.length) g2 tk1 s (zad T scs.length).length (Nat.le_refl _)
        have hnext : InvL1 sk t ks.length tk s ((rAt scs.length T tk1 s (zad T scs.length).length).2.1, (rAt scs.length T tk1 s (zad T scs.length).length).2.2.1, scs ++ [(rAt scs.length T tk1 s (zad T scs.length).length).2.2.2]) := by
          refine ⟨?_, r2, fun op' m' x' ks' ps' e => ?_, fun m' => (r4 m').trans (g4 m'), ?_, ?_⟩
          · simp only [List.length_append, List.length_singleton]; omega
          · obtain ⟨xa, pa, ea, la⟩ := g3 _ _ _ _ _ e
            obtain ⟨xb, pb, eb, lb⟩ := r6 _ _ _ _ _ ea
            exact ⟨xb, pb, eb, lb.trans la⟩
          · simp only [List.length_append, List.length_singleton]
            rw [r5]
            rw [hm] at g5
            simp only [zgq] at g5
            rw [show ks.length - (scs.length + 1) = m by omega, g4]; omega
          · rw [g6, hm]
            simp only [l1, List.length_append, List.length_singleton]
            rw [ym4, show ks.length - (scs.length + 1) = m by omega]
        have hrow2 : zxl scs (rAt scs.length T tk1 s (zad T scs.length).length).2.2.2 (ks.length - scs.length - 1) = zze (scs ++ [(rAt scs.length T tk1 s (zad T scs.length).length).2.2.2]) (ks.length - (scs ++ [(rAt scs.length T tk1 s (zad T scs.length).length).2.2.2]).length) := by
          rw [rowS_T]; congr 1; simp only [List.length_append, List.length_singleton]; omega
        by_cases hB : zbo op scs.length = true ∨ (zbo op scs.length = false ∧ zb1 op scs.length = true)
        · obtain ⟨fB, ty, vB, fcB, cB, q1, q2, q3, q4, q5⟩ := yiy (b := b) (i := scs.length) g2 hT (by omega) (by
            rcases hB with hB | ⟨hB1, hB2⟩
            · exact .inl hB
            · refine .inr ⟨hB1, hB2, ?_⟩
              have := hbl hB1 hB2
              rw [hps1]; exact this)
          refine zar (fr := [6]) [(9, 1)] [(6, 6)] rfl (by simp) q4 ⟨⟨rfl, rfl, rfl⟩, trivial⟩ rfl rfl rfl rfl ?_
          refine xg [] rfl (by simp) ?_
          refine zdx (y := 3) (j := 4) (j2 := 5) (stc := ye7 ty vB) (stc' := ye7 ty vB) (stx := stR b sk ks.length scs (rAt scs.length T tk1 s 0)) (stB := stR b sk ks.length scs (rAt scs.length T tk1 s (zad T scs.length).length)) (pend := none) (E := yoe b ks.length scs.length s) (ids' := [6, 14, 15, 16, 17, 18]) (d := .tup []) rfl q1 q2 q3 (show zzr ∉ [1, 7, 8] by decide) ⟨rfl, rfl, rfl, rfl, rfl, rfl, rfl, rfl, trivial⟩
            (zcc ⟨rfl, rfl, rfl, rfl, rfl, rfl, congrArg (fun r => some (some (Blk.row 86 1 r))) hrow, rfl, rfl, trivial⟩) (fun L h1 h2 h3 h4 h5 h6 h7 => ?_) ?_ ?_ ?_ ?_ ?_
          · have := q5 (fun j => zds L (stR b sk ks.length scs (rAt scs.length T tk1 s j)) none) (fun j => ⟨(rAt scs.length T tk1 s j).2.1, fun I w bb bs hP => ymh (i := 9) hP rfl⟩) fun j d hd => by
              have hj : j < (zad T scs.length).length := by
                have := (List.getElem?_eq_some_iff.1 hd).1
                rwa [List.length_map, zy4 g2] at this
              rw [Nat.zero_add]
              exact zz3 b sk ks.length scs T tk1 s s g2 j hj hb90 h hkl d hd h1 h2 h3 h4 h5 h6 h7
            rw [Nat.zero_add, zy4 g2] at this
            exact this
          · simp [ye7, stR, nms]
          · simp [ye7, nms]
          · intro i hi
            have e : nmL (zln (zit (zbt [(9, 1)] ++ [(6, 6)])) [] ++ zln (zit (zbt [(9, 1)] ++ [(6, 6)])) [.ref 6 0]) = [6] := rfl
            rw [e] at hi
            simpa [ye7, nms, zfb, nmB, nmL, nmD] using hi
          · refine ⟨by decide, ?_⟩
            simp [stR, yoe, nmE, nmD, zfb, nmB, nmL, nms]
          · refine xd [] rfl (by simp) ?_
            refine zae (ih _ (by simp only [List.length_append, List.length_singleton]; omega) hnext) ⟨by rw [List.length_append]; exact zcl (w64 (by omega) (by omega)), rfl, rfl, rfl, rfl, rfl, rfl, trivial⟩ ⟨rfl, rfl, rfl, rfl, rfl, (show yc3 (Blk.row 86 1 (zxl scs (rAt scs.length T tk1 s (zad T scs.length).length).2.2.2 (ks.length - scs.length - 1))) (Blk.row 86 1 (zze (scs ++ [(rAt scs.length T tk1 s (zad T scs.length).length).2.2.2]) (ks.length - (scs ++ [(rAt scs.length T tk1 s (zad T scs.length).length).2.2.2]).length))) from by rw [hrow2]; rfl), rfl, trivial⟩ rfl
        · have hN : zbo op scs.length = false ∧ zb1 op scs.length = false := by
            cases e1 : zbo op scs.length <;> cases e2 : zb1 op scs.length <;> simp [e1, e2] at hB ⊢
          have hb0 : (zad T scs.length).length = 0 := by rw [hT]; simp [zad, hN.1, hN.2]
          rw [hb0] at hnext hrow2
          refine zar (fr := []) [(9, 1)] [] rfl (by simp) (zsf (zcr b sk T) b op scs.length (by rw [hT]; exact zpd (zh6 g2)) hN.1 hN.2) ⟨⟨rfl, rfl, rfl⟩, trivial⟩ rfl rfl rfl rfl ?_
          refine xg [] rfl (by simp) ?_
          refine zry 44 rfl ?_
          refine zdx (y := 3) (j := 4) (j2 := 5) (stc := []) (stc' := []) (stx := stR b sk ks.length scs (rAt scs.length T tk1 s 0)) (stB := stR b sk ks.length scs (rAt scs.length T tk1 s 0)) (pend := none) (E := yoe b ks.length scs.length s) (ids' := [6, 14, 15, 16, 17, 18]) (d := .tup []) rfl Tryz.func99 (by decide +kernel) rfl (show zzr ∉ [1, 7, 8] by decide) ⟨rfl, rfl, rfl, rfl, rfl, rfl, rfl, rfl, trivial⟩
            (zcc ⟨rfl, rfl, rfl, rfl, rfl, congrArg (fun r => some (some (Blk.row 86 1 r))) hrow, rfl, rfl, trivial⟩) (fun L h1 h2 h3 h4 h5 h6 h7 => zmu) ?_ ?_ ?_ ?_ ?_
          · simp [nms]
          · simp [nms]
          · intro i hi
            have e : nmL (([] : List D) ++ []) = [] := rfl
            rw [e] at hi
            simp [zfb] at hi
          · refine ⟨by decide, ?_⟩
            simp [stR, yoe, nmE, nmD, zfb, nmB, nmL, nms]
          · refine xd [] rfl (by simp) ?_
            refine zae (ih _ (by simp only [List.length_append, List.length_singleton]; omega) hnext) ⟨by rw [List.length_append]; exact zcl (w64 (by omega) (by omega)), rfl, rfl, rfl, rfl, rfl, rfl, trivial⟩ ⟨rfl, rfl, rfl, rfl, rfl, (show yc3 (Blk.row 86 1 (zxl scs (rAt scs.length T tk1 s 0).2.2.2 (ks.length - scs.length - 1))) (Blk.row 86 1 (zze (scs ++ [(rAt scs.length T tk1 s 0).2.2.2]) (ks.length - (scs ++ [(rAt scs.length T tk1 s 0).2.2.2]).length))) from by rw [hrow2]; rfl), rfl, trivial⟩ rfl
      · simp at h
        have hn : scs.length = ks.length := by omega
        have hz : ks.length - scs.length = 0 := by omega
        rw [hz] at g5 g6
        simp only [l1] at g6
        simp only [zgq] at g5
        clear ih
        obtain ⟨x1, ps1, hT, hps1⟩ := g3 _ _ _ _ _ ht
        refine zav rfl ?_
        refine xd [] rfl (by simp) ?_
        refine zbr ttX_ok 9 [.raw (.slice ad ks.length c)] rfl rfl (fun _ vs I w bs h => (zei (by rw [hsk] at h; exact h)).1) rfl rfl (by simp) ?_
        refine xg [] rfl (by simp) ?_
        have hcan : zlh t s tk = (.mk op n x1 (zgr ks scs tk1).1 ps1, (zgr ks scs tk1).2) := by
          subst ht
          simp only [zlh, if_neg e, g6, hT, yjr]
        have hokq := zh6 g2
        refine zaj (fun y : Nat × List Tm × List Str => envL2 b ks.length y.1 (.slice ad ks.length c)) (fun y => stL2 b sk ks.length scs (.mk op n x1 y.2.1 ps1) y.2.2) [6, 14, 12, 15, 16, 17, 18] (fun y => ks.length - y.1)
          (fun y => y.1 ≤ ks.length ∧ y.2.1.length = ks.length ∧ y.2.1.drop y.1 = ks.drop y.1 ∧ y.2.2.length + znc (ks.drop y.1) ≤ 699 ∧ zgr ks scs tk1 = (y.2.1.take y.1 ++ (zgr (ks.drop y.1) (scs.drop y.1) y.2.2).1, (zgr (ks.drop y.1) (scs.drop y.1) y.2.2).2)) (0, ks, tk1)
          ⟨Nat.zero_le _, rfl, rfl, by simp only [List.drop_zero]; omega, rfl⟩ ⟨rfl, rfl, rfl, rfl, rfl, rfl, rfl, trivial⟩ ⟨rfl, rfl, by rw [hT]; rfl, rfl, rfl, rfl, rfl, trivial⟩ rfl fun y hi ih => ?_
        obtain ⟨i, kn, tk2⟩ := y
        obtain ⟨d1, d2, d3, d4, d5⟩ := hi
        simp only at d1 d2 d3 d4 d5
        refine xd [] rfl (by simp) ?_
        refine zaa rfl (fun h => ?_) (fun h => ?_)
        · simp at h
          obtain ⟨rb, rfl⟩ := hadr (by omega)
          obtain ⟨k, hk⟩ := zal h
          have hkn : kn[i]? = some k := by
            have := congrArg (fun l => l[0]?) d3
            simp only [List.getElem?_drop, Nat.add_zero] at this
            rw [this]; exact hk
          have hkK : tmK (.mk op n x1 kn ps1) i = some k := hkn
          obtain ⟨sc, hsc⟩ := zal (show i < scs.length by omega)
          obtain ⟨skc, hskc⟩ : ∃ skc, js[i]? = some skc := zal (by omega)
          have hsK : skK sk i = some skc := by rw [hsk]; exact hskc
          have hfc : zjk skc := by rw [hsk] at hfull; exact znm hfull.1 hskc
          refine zee 9 (fun _ : { y : Int × Int × Str × Value × List An × Value × List An × Str × List Tm × List Ty // skc = .mk true y.1 y.2.1 y.2.2.1 y.2.2.2.1 y.2.2.2.2.1 y.2.2.2.2.2.1 y.2.2.2.2.2.2.1 ∧ k = .mk y.1 y.2.1 y.2.2.2.2.2.2.2.1 y.2.2.2.2.2.2.2.2.1 y.2.2.2.2.2.2.2.2.2 } => zcr b sk (.mk op n x1 kn ps1)) rfl (fun vs I w bs h => by
            obtain ⟨o, n, x, v, js, u, qs, tx, tks, tps, h1, h2⟩ := ygb hokq hfc hsK hkK h
            exact ⟨⟨(o, n, x, v, js, u, qs, tx, tks, tps), h1, h2⟩, h⟩) fun z => ?_
          obtain ⟨⟨oc, nc, xc, vc, jsc, uc, qsc, tx, tks, tps⟩, hskc2, hk2⟩ := z
          simp only at hskc2 hk2
          refine ynw (ids' := [12, 15, 16, 17, 18]) 9 6 14 (fun _ : Unit => yi5 b sk (.mk op n x1 kn ps1) i) (fun _ => yfd skc k) rfl (fun vs I w bs h => by
            obtain ⟨b1, b2, e1, e2, e3, e4, e5⟩ := yep hokq hsK hkK h
            exact ⟨(), b1, b2, e1, e2, e3, e4, e5⟩) fun _ => ?_
          refine xd [] rfl (by simp) ?_
          refine zdm ttX_ok rfl rfl (fun _ => ⟨by simp, by simpa using h⟩) (by simp) ?_
          refine xg [] rfl (by simp) ?_
          refine zbr ttX_ok 6 [.imm (.int .i64 oc), .imm (.int .i64 nc), .imm (.str tx), .raw vc, .raw uc] rfl rfl (fun _ vs I w bs h => by have := yeq hokq hsk hsK hskc2 hkK hk2 h; simpa using this) rfl rfl (by simp) ?_
          refine xg [] rfl (by simp) ?_
          refine zbr ttX_ok 6 [.raw (.slice (some ⟨rb, 0, none⟩) ks.length c)] rfl rfl (fun _ vs I w bs h => ykt (by rw [hsk] at h; exact h)) rfl rfl (by simp) ?_
          refine xg [] rfl (by simp) ?_
          refine ze8 ttX_ok rfl (fun _ => ⟨by simp, by simp only [ybn]; omega⟩) (by simp) ?_
          refine xg [] rfl (by simp) ?_
          refine zrc (e := [zew sc]) ttX_ok rfl (fun _ => yjy hsc _) rfl (by simp) ?_
          refine xg [] rfl (by simp) ?_
          have hmem : k ∈ ks := List.mem_of_getElem? hk
          have hoc : znc (ks.drop i) = yb2 k + znc (ks.drop (i + 1)) := by rw [zap hk]; rfl
          have IH := yb8 k sc tk2 skc oc nc tx xc vc uc jsc qsc tks tps hk2 hskc2 hfc (by rw [ht] at hwide; exact zf0 hwide.2.2.2 hmem) (by rw [ht] at hpats; exact zgd hpats.2.2 hmem) (by omega)
          obtain ⟨x2, ks2, ps2, hsh⟩ := znx oc nc tx tks tps sc tk2
          rw [← hk2] at hsh
          rw [hsh] at IH
          refine zar (fr := [15, 16]) [(14, 1), (7, 7), (13, 8)] [(5, 15), (13, 16)] rfl (by simp) IH ⟨⟨rfl, rfl, rfl⟩, ⟨rfl, rfl, rfl⟩, ⟨rfl, rfl, rfl⟩, trivial⟩ rfl rfl rfl rfl ?_
          refine xg [] rfl (by simp) ?_
          refine zdm ttX_ok rfl rfl (fun _ => ⟨by simp, by simpa using h⟩) (by simp) ?_
          refine zmi ttX_ok 6 15 17 (zcr b sk (zcm (.mk op n x1 kn ps1) i (.mk oc nc x2 ks2 ps2))) rfl rfl rfl (by decide) (by
            have := yeo (b := b) (o2 := oc) (n2 := nc) (x2 := x2) (ks2 := ks2) (ps2 := ps2) 15 hokq hsk hsK hskc2 hkK
            have e : 0 + ((i : Int)).toNat * 5 = i * 5 := by simp
            show zih _ _ _ 15 rb (0 + ((i : Int)).toNat * 5) [.imm (.int .i64 oc), .imm (.int .i64 nc), .imm (.str x2), .raw vc, .raw uc]
            rw [e]
            exact this) ?_
          refine xg [] rfl (by simp; rfl) ?_
          refine zb5 9 17 rfl ?_
          refine zb5 13 16 rfl ?_
          have hcl := zv6 k sc tk2
          have hcan2 : zgr (ks.drop i) (scs.drop i) tk2 = (.mk oc nc x2 ks2 ps2 :: (zgr (ks.drop (i + 1)) (scs.drop (i + 1)) (zlh k sc tk2).2).1, (zgr (ks.drop (i + 1)) (scs.drop (i + 1)) (zlh k sc tk2).2).2) := by
            rw [zap hk, zap hsc]
            simp only [zgr, List.headD_cons, List.tail_cons, hsh]
          have hks : (kn.set i (.mk oc nc x2 ks2 ps2))[i]? = some (.mk oc nc x2 ks2 ps2) := by rw [List.getElem?_set_self (by omega)]
          refine zae (ih (i + 1, kn.set i (.mk oc nc x2 ks2 ps2), (zlh k sc tk2).2) (by simp only; omega) ⟨by simp only; omega, by simp only [List.length_set]; exact d2, ?_, by simp only; omega, ?_⟩) ⟨zcl (w64 (by simp only; omega) (by simp only; omega)), rfl, rfl, rfl, rfl, rfl, rfl, trivial⟩ ⟨rfl, rfl, rfl, rfl, rfl, rfl, rfl, trivial⟩ rfl
          · simp only
            rw [List.drop_set_of_lt (by omega)]
            have := congrArg (List.drop 1) d3
            rwa [List.drop_drop, List.drop_drop] at this
          · simp only
            rw [d5, hcan2, zbu hks, List.take_set_of_le (Nat.le_refl _)]
            simp
        · simp at h
          have hi : i = ks.length := by omega
          subst hi
          rw [List.drop_eq_nil_of_le (Nat.le_refl _)] at d5
          simp only [zgr, List.append_nil] at d5
          rw [List.take_of_length_le (by omega)] at d5
          rw [d5] at hcan
          clear ih
          refine zav rfl ?_
          refine xd [] rfl (by simp) ?_
          refine zbr ttX_ok 9 [.imm (.int .i64 op), .imm (.int .i64 n), .imm (.str x1), .raw (.slice ad ks.length c), .raw u] rfl rfl (fun _ vs I w bs h => zk4 hsk rfl h) rfl rfl (by simp) ?_
          refine xg [] rfl (by simp) ?_
          refine yip (ids' := [14, 12, 15, 16, 17, 18]) 9 6 (fun _ : Unit => yfd sk (.mk op n x1 kn ps1)) rfl (fun vs I w bs h => ⟨(), yj2 h⟩) fun _ => ?_
          refine zb5 5 6 rfl ?_
          rw [hcan]
          exact zab ⟨_, rfl, rfl, rfl, rfl, rfl, trivial⟩
termination_by t => SizeOf.sizeOf t
decreasing_by
  all_goals
    have := List.sizeOf_lt_of_mem hmem
    subst ht
    simp_wf
    omega
end Go.Hk

/- Contract of term.Free: the free names of a term, sorted, or the error. -/
namespace Go.Hk
open Go.Proofs
end Go.Hk

/- Contract of canon: a formed term with its bound names chosen anew. -/
namespace Go.Hk
open Go.Proofs Go.RowKit Go.Maps Go.Sort
set_option maxRecDepth 100000 in
theorem yc7 (m : List Str) (hm : ∀ s ∈ m, s.length ≤ maxLen) (hlen : m.length ≤ 1000000) :
    zdb Tryz.prog 47 [.mapr 1] [(1, some (.map (zev m)))] (.ret (.own 2 (zbb (zf8 m)).length) [(1, some (.map (zev m))), (2, some (.row 9 1 (zbb (zf8 m))))]) := by
  intro I μ w xs hst hx
  obtain ⟨xl⟩ := xs
  have hx1 : xl.length = 1 := hx.1
  match xl, hx1 with
  | [x], _ =>
  have hxm : RepD I μ x (.mapr 1) := hx.2 0 x _ rfl rfl
  obtain ⟨g, hg, r, es, clock, e1, e2, e3, e4, e5⟩ := hst.blk 1 _ rfl
  subst e1
  have hxv : x = .map (some r) := by
    cases hxm with
    | mapr _ b h => rw [hg] at h; cases h; rfl
  subst hxv
  have hlen2 : es.toList.length = m.length := by simpa [zev] using e3
  have hkey : ∀ (i : Nat) (e : MapEntry), es.toList[i]? = some e → ∃ s, m[i]? = some s ∧ yob e.key = s ∧ (∃ b : ByteArray, e.key = .string b ∧ b.size ≤ maxLen) ∧ ∃ c, e.val = .bool c := by
    intro i e hi
    obtain ⟨s, hs⟩ : ∃ s, m[i]? = some s := ⟨_, List.getElem?_eq_getElem (by rw [← hlen2]; exact (List.getElem?_eq_some_iff.1 hi).1)⟩
    obtain ⟨h1, h2⟩ := e5 i e (.str s, .bool true) (by simpa using hi) (by simp [zev, hs])
    refine ⟨s, hs, ?_⟩
    generalize e.key = k at h1
    generalize e.val = u at h2
    cases h1 with
    | str b l hb =>
      cases h2 with
      | bool c =>
        refine ⟨hb, ⟨b, rfl, ?_⟩, _, rfl⟩
        have := hm s (List.mem_of_getElem? hs)
        rw [← hb] at this
        show b.data.size ≤ maxLen
        rw [← Array.length_toList]; exact this
  have hkeys : es.toList.map (fun e => yob e.key) = m := by
    refine List.ext_getElem? fun i => ?_
    rw [List.getElem?_map]
    cases hi : es.toList[i]? with
    | none =>
      have : m[i]? = none := by
        rw [List.getElem?_eq_none_iff] at hi ⊢; omega
      rw [this]; rfl
    | some e =>
      obtain ⟨s, h1, h2, _⟩ := hkey i e hi
      rw [h1, ← h2]; rfl
  have hrun : (callFunc 47 #[.map (some r)]).run Tryz.prog w = .ok (.enter 47 #[.map (some r)]) w := Hk.run_callFunc_body (Go.Proofs.Tryz.func47) (by decide +kernel) rfl _
  show valX Tryz.prog ((callFunc 47 #[.map (some r)]).run Tryz.prog w) _ _
  rw [hrun]
  refine (zn8 w r es clock e2 e4 (fun e he => ?_) (by rw [← Array.length_toList, hlen2]; exact hlen)).mono ?_
  · obtain ⟨i, hi⟩ := List.getElem?_of_mem he
    obtain ⟨s, _, _, h⟩ := hkey i e hi
    exact h
  rintro e w' ⟨v, ss, rfl, h2, h3, h4, h5⟩
  rw [hkeys] at h2
  have hss : ss.mergeSort (fun x y => decide (x ≤ y)) = zf8 m := mergeSort_of_perm h2
  rw [hss] at h3
  have hsz : (zf8 m).length = ss.length := by rw [← hss]; exact List.length_mergeSort _
  have hw : ∀ k, k < w.heap.size → w'.heap[k]? = w.heap[k]? := fun k hk => h5.block k hk
  obtain ⟨ν, hν⟩ : ∃ ν : Mu, ν = fun k => if k = 2 then some v else μ k := ⟨_, rfl⟩
  have hν2 : ν 2 = some v := by rw [hν]; simp
  have hνo : ∀ k, k ≠ 2 → ν k = μ k := fun k hk => by rw [hν]; simp [hk]
  have hlen : (zbb (zf8 m)).length = ss.length := by simp [zbb, hsz]
  have hadr : ∀ k, zgp v k → w.heap.size ≤ k := fun k hk => by
    rcases h3.2 with ⟨rfl, _⟩ | ⟨gb, cap, cur, rfl, hbase, _⟩
    · exact hk.elim
    · exact hk ▸ hbase
  have hadr2 : ∀ k, zgp v k → k < w'.heap.size := fun k hk => by
    rcases h3.2 with ⟨rfl, _⟩ | ⟨gb, cap, cur, rfl, hbase, hheap, _⟩
    · exact hk.elim
    · exact hk ▸ (Array.getElem?_eq_some_iff.1 hheap).1
  have hI : ∀ k, w.heap.size ≤ k → I k = none := fun k hk => by
    cases hk' : I k with
    | none => rfl
    | some o =>
      have := (Array.getElem?_eq_some_iff.1 (hst.imm k o hk')).1
      omega
  have hblk : BlkRep I ν w' v (.row 9 1 (zbb (zf8 m))) := by
    refine ⟨(zf8 m).map encStr, ?_, ?_, fun e he => ?_, fun e he x hx => ?_, Nat.one_pos⟩
    · refine ⟨by rw [hlen]; simpa using h3.1, ?_⟩
      rcases h3.2 with ⟨h0, h1⟩ | ⟨gb, cap, cur, h1, hbase, h2⟩
      · exact .inl ⟨h0, by rw [hlen]; exact h1⟩
      · exact .inr ⟨gb, cap, cur, by rw [hlen]; exact h1, Nat.zero_le _, by rw [hlen]; exact h2⟩
    · generalize zf8 m = l
      have e1 : (zbb l).flatten = l.map V.str := by
        induction l with
        | nil => rfl
        | cons a r ih => rw [show zbb (a :: r) = [V.str a] :: zbb r from rfl, List.flatten_cons, ih]; rfl
      refine ⟨by rw [e1]; simp, fun i c x hc hx => ?_⟩
      rw [e1, List.getElem?_map] at hx
      rw [List.getElem?_map] at hc
      cases hl : l[i]? with
      | none => rw [hl] at hc; cases hc
      | some a => rw [hl] at hc hx; cases hc; cases hx; exact zt8 _ _
    · simp only [zbb, List.mem_map] at he
      obtain ⟨a, _, rfl⟩ := he; rfl
    · simp only [zbb, List.mem_map] at he
      obtain ⟨a, _, rfl⟩ := he
      simp at hx; subst hx; rfl
  have hst1 : ∀ i b, zaq [(1, some (Blk.map (zev m))), (2, some (.row 9 1 (zbb (zf8 m))))] i b → (i = 1 ∧ b = .map (zev m)) ∨ (i = 2 ∧ b = .row 9 1 (zbb (zf8 m))) := fun i b h => by
    rcases zah.1 h with h | ⟨_, h⟩
    · exact .inl h
    · rcases zah.1 h with h | ⟨_, h⟩
      · exact .inr h
      · simp [zaq, lk] at h
  have hl1 : zaq [(1, some (Blk.map (zev m)))] 1 (.map (zev m)) := zah.2 (.inl ⟨rfl, rfl⟩)
  refine ⟨I, ν, ?_, ?_, ?_, ?_⟩
  · rw [hlen]
    obtain ⟨a, cap, rfl⟩ : ∃ a cap, v = .slice a ss.length cap := by
      rcases h3.2 with ⟨h0, h1⟩ | ⟨gb, cap, cur, h1, _⟩
      · exact ⟨none, 0, by rw [h0, h1]⟩
      · exact ⟨_, cap, h1⟩
    exact .own _ _ _ _ hν2
  · exact
      { imm := fun k o h => by
          have := hst.imm k o h
          rw [hw k (Array.getElem?_eq_some_iff.1 this).1]; exact this
        blk := fun i b hl => by
          rcases hst1 i b hl with ⟨rfl, rfl⟩ | ⟨rfl, rfl⟩
          · obtain ⟨gi, q1, q2⟩ := hst.blk 1 _ hl1
            exact ⟨gi, by rw [hνo 1 (by decide)]; exact q1, (show BlkRep I ν w' gi (.map (zev m)) from q2.world fun k hk => hw k (hst.apart 1 _ gi k hl1 q1 hk).2)⟩
          · exact ⟨v, hν2, hblk⟩
        apart := fun i b gi k hl hgi hk => by
          rcases hst1 i b hl with ⟨rfl, rfl⟩ | ⟨rfl, rfl⟩
          · rw [hνo 1 (by decide)] at hgi
            obtain ⟨q1, q2⟩ := hst.apart 1 _ gi k hl1 hgi hk
            exact ⟨q1, Nat.lt_of_lt_of_le q2 h5.size⟩
          · rw [hν2] at hgi; cases hgi
            exact ⟨hI k (hadr k hk), hadr2 k hk⟩
        inj := fun i j bi bj gi gj k hi hj hgi hgj hki hkj => by
          rcases hst1 i bi hi with ⟨rfl, rfl⟩ | ⟨rfl, rfl⟩ <;> rcases hst1 j bj hj with ⟨rfl, rfl⟩ | ⟨rfl, rfl⟩
          · rfl
          · rw [hνo 1 (by decide)] at hgi
            rw [hν2] at hgj; cases hgj
            have := (hst.apart 1 _ gi k hl1 hgi hki).2
            have := hadr k hkj
            omega
          · rw [hνo 1 (by decide)] at hgj
            rw [hν2] at hgi; cases hgi
            have := (hst.apart 1 _ gj k hl1 hgj hkj).2
            have := hadr k hki
            omega
          · rfl
        nodup := .nil
        idsFree := fun _ h => by simp at h }
  · intro i hi u hu
    have : i ≠ 2 := fun e => by subst e; simp [nms] at hi
    rw [hνo i this]; exact hu
  · exact
      { imm := Imm.le_refl I, os := h5.os, tape := h5.tape, output := h5.output, size := h5.size
        block := fun k hk _ => hw k hk
        fresh := fun k hk ⟨i, b, gi, hl, hgi, hki⟩ => by
          rcases hst1 i b hl with ⟨rfl, rfl⟩ | ⟨rfl, rfl⟩
          · exact ⟨1, _, gi, hl1, by rw [← hνo 1 (by decide)]; exact hgi, hki⟩
          · rw [hν2] at hgi; cases hgi
            have := hadr k hki
            omega
        old := fun k hk _ => rfl }
end Go.Hk

/- Plain laws of names that are chosen anew: form. -/
namespace Go.Hk
open Go.Proofs
mutual
theorem zu3 : ∀ (t : Ty) (j : Nat) (x : Str), zcp x = true → zch t = true → zch (zd2 t j x) = true ∧ ∀ l, zb8 (zd2 t j x) l = zb8 t l
  | .mk s n y ps, j, x, hx, h => by
    simp only [zch, Bool.and_eq_true] at h
    have hgo : ∀ j, zd2 (.mk s n y ps) (j + 1) x = .mk s n y (zeg ps j x) ∨ s ≠ 2 := fun j => by
      by_cases e : s = 2
      · exact .inl (by simp [zd2, e])
      · exact .inr e
    by_cases e : s = 2
    · cases j with
      | zero =>
        have h1 := h.1
        simp [zio, e] at h1
        simp [zd2, zch, zio, zb8, e, h1, hx, h.2]
        have := h.2
        rw [h1.1.1] at this; exact this
      | succ j =>
        obtain ⟨a, b, c⟩ := zqb ps j x hx h.2
        have e2 : zd2 (.mk s n y ps) (j + 1) x = .mk s n y (zeg ps j x) := by simp [zd2, e]
        rw [e2]
        simp only [zch, zb8, c, h.1, a, b, Bool.and_self]
        exact ⟨trivial, fun _ => trivial⟩
    · obtain ⟨a, b, c⟩ := zqb ps j x hx h.2
      have e2 : zd2 (.mk s n y ps) j x = .mk s n y (zeg ps j x) := by simp [zd2, e]
      rw [e2]
      simp only [zch, zb8, c, h.1, a, b, Bool.and_self]
      exact ⟨trivial, fun _ => trivial⟩
theorem zqb : ∀ (l : List Ty) (j : Nat) (x : Str), zcp x = true → zbw l = true → zbw (zeg l j x) = true ∧ (∀ w, zca (zeg l j x) w = zca l w) ∧ (zeg l j x).length = l.length
  | [], j, x, hx, h => by simp [zeg, zbw, zca]
  | t :: r, j, x, hx, h => by
    simp only [zbw, Bool.and_eq_true] at h
    obtain ⟨a, b⟩ := zu3 t j x hx h.1
    obtain ⟨c, d, e⟩ := zqb r (j - (zcw t).length) x hx h.2
    simp only [zeg]
    split
    · simp [zbw, zca, a, b, h.2]
    · simp [zbw, zca, c, d, e, h.1]
end
theorem zot : ∀ (l pre : List Str), zbj pre l = true ↔ l.Nodup ∧ ∀ x ∈ l, x ∉ pre
  | [], pre => by simp [zbj]
  | x :: r, pre => by
    have hb : zbq pre x = false ↔ x ∉ pre := by
      cases h : zbq pre x with
      | true => simp [zbg.1 h]
      | false => simp; intro hm; rw [zbg.2 hm] at h; cases h
    simp only [zbj, Bool.and_eq_true, Bool.not_eq_true', hb, zot r, List.nodup_cons, List.mem_append, List.mem_cons, List.not_mem_nil, or_false, not_or]
    constructor
    · rintro ⟨h1, h2, h3⟩
      refine ⟨⟨fun h => (h3 x h).2 rfl, h2⟩, fun y hy => ?_⟩
      rcases hy with rfl | hy
      · exact h1
      · exact (h3 y hy).1
    · rintro ⟨⟨h1, h2⟩, h3⟩
      exact ⟨h3 x (.inl rfl), h2, fun y hy => ⟨h3 y (.inr hy), fun e => h1 (e ▸ hy)⟩⟩
theorem zh9 (l : List Str) : zjn l = true ↔ l.Nodup := by simp [zjn, zot]
def yja (p : Ty) : Nat → List Str → Ty
  | _, [] => p
  | j, f :: r => yja (zd2 p j f) (j + 1) r
def zkj (T : Tm) (i : Int) : Nat → List Str → Tm
  | _, [] => T
  | j, f :: r => zkj (zdh T i j f) i (j + 1) r
def zfm : Nat → List Str → List Str
  | 0, _ => []
  | n + 1, tk => za3 tk :: zfm n (tk ++ [za3 tk])
theorem znn : ∀ (n : Nat) (tk : List Str), (zfm n tk).length = n
  | 0, _ => rfl
  | n + 1, tk => by simp [zfm, znn n]
theorem zyj : ∀ (n : Nat) (tk : List Str), tk.length + n ≤ 700 → (zfm n tk).Nodup ∧ ∀ f ∈ zfm n tk, zcp f = true ∧ f ∉ tk
  | 0, tk, _ => by simp [zfm]
  | n + 1, tk, h => by
    obtain ⟨h1, h2⟩ := zfc tk (by omega)
    obtain ⟨h3, h4⟩ := zyj n (tk ++ [za3 tk]) (by simp; omega)
    simp only [zfm, List.nodup_cons]
    refine ⟨⟨fun hm => ?_, h3⟩, fun f hf => ?_⟩
    · exact (h4 _ hm).2 (List.mem_append_right _ (List.mem_singleton.2 rfl))
    · rcases List.mem_cons.1 hf with e | hf
      · rw [e]; exact ⟨h1, h2⟩
      · obtain ⟨a, b⟩ := h4 f hf
        exact ⟨a, fun hm => b (by simp [hm])⟩
theorem zvv (i : Int) : ∀ (names : List Str) (j : Nat) (T : Tm) (tk : List Str) (s : Sc), names.foldl (zin i) (j, T, tk, s) = (j + names.length, zkj T i j (zfm names.length tk), tk ++ zfm names.length tk, (names.zip (zfm names.length tk)).reverse ++ s)
  | [], j, T, tk, s => by simp [zfm, zkj]
  | x :: r, j, T, tk, s => by
    rw [List.foldl_cons]
    simp only [zin]
    rw [zvv i r]
    simp only [List.length_cons, zfm, zkj, List.zip_cons_cons, List.reverse_cons, List.append_assoc, List.singleton_append, List.cons_append, List.nil_append]
    congr 1; omega
theorem ylk (i : Int) (names : List Str) (T : Tm) (tk : List Str) (s : Sc) : zli i names T tk s = (names.length, zkj T i 0 (zfm names.length tk), tk ++ zfm names.length tk, (names.zip (zfm names.length tk)).reverse ++ s) := by
  rw [zli, zvv]; simp
theorem zi2 (op n : Int) (ks : List Tm) (i : Int) : ∀ (fl : List Str) (j : Nat) (y : Str) (ps : List Ty),
    zkj (.mk op n y ks ps) i j fl = if zbo op i then .mk op n (fl.getLast?.getD y) ks ps else if zb1 op i then (match ps[(i - 1).toNat]? with
      | some p => .mk op n y ks (ps.set (i - 1).toNat (yja p j fl))
      | none => .mk op n y ks ps) else .mk op n y ks ps
  | [], j, y, ps => by
    simp only [zkj, List.getLast?_nil, Option.getD_none, yja]
    split
    · rfl
    · split
      · split
        · rename_i p hp
          obtain ⟨hlt, e⟩ := List.getElem?_eq_some_iff.1 hp
          rw [← e, List.set_getElem_self]
        · rfl
      · rfl
  | f :: r, j, y, ps => by
    simp only [zkj, zdh]
    by_cases h1 : zbo op i = true
    · simp only [h1, if_true]
      rw [zi2 op n ks i r]
      simp only [h1, if_true]
      congr 1
      cases r with
      | nil => rfl
      | cons a r => rw [List.getLast?_cons_cons]; rw [List.getLast?_eq_some_getLast (by simp)]; rfl
    · by_cases h2 : zb1 op i = true
      · simp only [if_neg h1, if_pos h2]
        cases hp : ps[(i - 1).toNat]? with
        | none =>
          simp only []
          rw [zi2 op n ks i r]
          simp only [if_neg h1, if_pos h2, hp]
        | some p =>
          have hlt := (List.getElem?_eq_some_iff.1 hp).1
          simp only []
          rw [zi2 op n ks i r]
          simp only [if_neg h1, if_pos h2, List.getElem?_set_self hlt, List.set_set, yja]
      · simp only [if_neg h1, if_neg h2]
        rw [zi2 op n ks i r]
        simp only [if_neg h1, if_neg h2]
theorem yf2 : ∀ (fl : List Str) (p : Ty) (j : Nat), (∀ f ∈ fl, zcp f = true) → zch p = true → zch (yja p j fl) = true ∧ ∀ l, zb8 (yja p j fl) l = zb8 p l
  | [], p, j, _, h => ⟨h, fun _ => rfl⟩
  | f :: r, p, j, hf, h => by
    obtain ⟨a, b⟩ := zu3 p j f (hf f (by simp)) h
    obtain ⟨c, d⟩ := yf2 r (zd2 p j f) (j + 1) (fun g hg => hf g (by simp [hg])) a
    exact ⟨c, fun l => (d l).trans (b l)⟩
theorem zs8 : ∀ (fl : List Str) (p : Ty) (j : Nat), j + fl.length = (za4 p).length → za4 (yja p j fl) = (za4 p).take j ++ fl
  | [], p, j, h => by simp only [yja, List.append_nil]; rw [List.take_of_length_le (by simp at h; omega)]
  | f :: r, p, j, h => by
    simp only [yja]
    have hj : j < (za4 p).length := by simp at h; omega
    rw [zs8 r (zd2 p j f) (j + 1) (by rw [zhd, List.length_set]; simp at h; omega), zhd]
    rw [show (((za4 p).set j f).take (j + 1)) = (za4 p).take j ++ [f] from by
      rw [List.take_add_one, List.getElem?_set_self hj, List.take_set_of_le (Nat.le_refl _)]; rfl]
    simp
def yk2 : Tm → Prop
  | .mk op n x ks ps => zba op n x ks.length ps.length = true ∧ ps.all zct = true
theorem zpj {op n : Int} {x y : Str} {k p : Nat} {i : Int} (h : zbo op i = true ∨ op = 4) (hn : zba op n x k p = true) (hy : zcp y = true) : zba op n y k p = true := by
  simp only [zbo, Bool.or_eq_true, Bool.and_eq_true, beq_iff_eq] at h
  rcases h with ((h | h) | ⟨h, _⟩) | h <;> subst h <;> simp [zba, zbk] at hn ⊢ <;> grind
theorem ym5 {op n : Int} {x : Str} {k p : Nat} (hn : zba op n x k p = true) {i j : Nat} (hi : i < k) (hj : j < k) (h1 : zbo op i = true) (h2 : zbo op j = true) : i = j := by
  simp only [zbo, Bool.or_eq_true, Bool.and_eq_true, beq_iff_eq] at h1 h2
  rcases h1 with (h | h) | ⟨h, h3⟩
  · subst h; simp [zba, zbk] at hn; omega
  · subst h; simp [zba, zbk] at hn; omega
  · subst h; simp at h2; omega
theorem yig {T : Tm} {i : Int} {fl : List Str} (hT : yk2 T) (hl : fl.length = (zad T i).length) (hn : fl.Nodup) (hf : ∀ f ∈ fl, zcp f = true) : yk2 (zkj T i 0 fl) := by
  obtain ⟨op, n, y, ks, ps⟩ := T
  rw [zi2]
  simp only [zad] at hl
  by_cases h1 : zbo op i = true
  · rw [if_pos h1] at hl ⊢
    obtain ⟨f, rfl⟩ := List.length_eq_one_iff.1 hl
    exact ⟨zpj (.inl h1) hT.1 (hf f (by simp)), hT.2⟩
  · by_cases h2 : zb1 op i = true
    · rw [if_neg h1, if_pos h2] at hl ⊢
      cases hp : ps[(i - 1).toNat]? with
      | none => exact hT
      | some p =>
        simp only [hp] at hl
        refine ⟨by simpa using hT.1, ?_⟩
        rw [List.all_eq_true]
        intro q hq
        have hall := List.all_eq_true.1 hT.2
        rcases List.mem_or_eq_of_mem_set hq with hq | hq
        · exact hall q hq
        · have hpo := hall p (List.mem_of_getElem? hp)
          simp only [zct, Bool.and_eq_true, decide_eq_true_eq] at hpo
          obtain ⟨a, b⟩ := yf2 fl p 0 hf hpo.1.2
          have hnm : za2 (yja p 0 fl) = fl := by
            rw [← zhe _ a]
            have := zs8 fl p 0 (by omega)
            simpa [za4] using this
          rw [hq]
          simp only [zct, Bool.and_eq_true, decide_eq_true_eq, a, b, hnm, zh9]
          exact ⟨⟨hpo.1.1, trivial⟩, hn⟩
    · rw [if_neg h1, if_neg h2]; exact hT
def zlq (s : Sc) : Prop := ∀ p ∈ s, zcp p.2 = true
theorem yfn {a b : List Str} {s : Sc} (h : ∀ f ∈ b, zcp f = true) (hs : zlq s) : zlq ((a.zip b).reverse ++ s) := by
  intro p hp
  rcases List.mem_append.1 hp with hp | hp
  · exact h _ (List.of_mem_zip (List.mem_reverse.1 hp)).2
  · exact hs p hp
theorem yhr : ∀ (m i : Nat) (T : Tm) (tk : List Str) (s : Sc) (acc : List Sc), yk2 T → zlq s → (∀ sc ∈ acc, zlq sc) → tk.length + zgq T m i ≤ 700 → yk2 (l1 m i T tk s acc).1 ∧ ∀ sc ∈ (l1 m i T tk s acc).2.2, zlq sc
  | 0, i, T, tk, s, acc, h1, h2, h3, h4 => ⟨h1, h3⟩
  | m + 1, i, T, tk, s, acc, h1, h2, h3, h4 => by
    simp only [zgq] at h4
    obtain ⟨hn, hf⟩ := zyj (zad T i).length tk (by omega)
    simp only [l1, ylk]
    have hc := ze6 (t := zkj T i 0 (zfm (zad T i).length tk)) (u := T) (fun k => by
      have := (zrk i (zad T i) (0, T, tk, s)).2 k
      rw [zvv] at this; exact this) m (i + 1)
    refine yhr m (i + 1) _ _ s _ (yig h1 (by rw [znn]) hn fun f hf' => (hf f hf').1) h2 (fun sc hsc => ?_) (by rw [hc, List.length_append, znn]; omega)
    rcases List.mem_append.1 hsc with hsc | hsc
    · exact h3 sc hsc
    · rw [List.mem_singleton.1 hsc]
      exact yfn (fun f hf' => (hf f hf').1) h2
theorem ydt {s : Sc} {x y : Str} (h : zlq s) (hl : ziq s x = some y) : zcp y = true := by
  induction s with
  | nil => cases hl
  | cons p r ih =>
    obtain ⟨a, b⟩ := p
    simp only [ziq] at hl
    split at hl
    · cases hl; exact h _ (List.mem_cons_self ..)
    · exact ih (fun q hq => h q (by simp [hq])) hl
mutual
theorem zuh : ∀ (t : Tm) (s : Sc) (tk : List Str), zag t = true → zlq s → tk.length + yb2 t ≤ 700 → zag (zlh t s tk).1 = true ∧ zcv (zlh t s tk).1 = zcv t ∧ dpT (zlh t s tk).1 = dpT t
  | .mk op n x ks ps, s, tk, h, hs, hb => by
    simp only [zag, Bool.and_eq_true] at h
    by_cases e : op = 4
    · simp only [zlh, if_pos e, zag, Bool.and_eq_true, zcv, dpT]
      refine ⟨⟨⟨?_, h.1.2⟩, h.2⟩, trivial, trivial⟩
      cases hl : ziq s x with
      | none => exact h.1.1
      | some y => exact zpj (i := 0) (.inr e) h.1.1 (ydt hs hl)
    · simp only [yb2, if_neg e] at hb
      obtain ⟨g1, g2⟩ := yhr ks.length 0 (.mk op n x ks ps) tk s [] ⟨h.1.1, h.1.2⟩ hs (by simp) (by omega)
      obtain ⟨x', ps', hsh, hpl⟩ := zvo ks.length 0 (.mk op n x ks ps) tk s [] op n x ks ps rfl
      have hln := (yhq ks.length 0 (.mk op n x ks ps) tk s []).1
      obtain ⟨k1, k2, k3, k4⟩ := zr7 ks (l1 ks.length 0 (.mk op n x ks ps) tk s []).2.2 (l1 ks.length 0 (.mk op n x ks ps) tk s []).2.1 h.2 g2 (by omega)
      simp only [zlh, if_neg e]
      rw [hsh] at g1 ⊢
      simp only [yjr, zag, Bool.and_eq_true, zcv, dpT, k1, k2, k3, k4]
      exact ⟨⟨⟨g1.1, g1.2⟩, trivial⟩, trivial, trivial⟩
theorem zr7 : ∀ (l : List Tm) (scs : List Sc) (tk : List Str), zat l = true → (∀ sc ∈ scs, zlq sc) → tk.length + znc l ≤ 700 → zat (zgr l scs tk).1 = true ∧ zci (zgr l scs tk).1 = zci l ∧ (∀ m, zv1 (zgr l scs tk).1 m = zv1 l m) ∧ (zgr l scs tk).1.length = l.length
  | [], scs, tk, _, _, _ => by simp [zgr, zat]
  | k :: r, scs, tk, h, hs, hb => by
    simp only [zat, Bool.and_eq_true] at h
    simp only [znc] at hb
    have hh : zlq (scs.headD []) := by
      cases scs with
      | nil => intro p hp; cases hp
      | cons a q => exact hs a (by simp)
    obtain ⟨a1, a2, a3⟩ := zuh k (scs.headD []) tk h.1 hh (by omega)
    have hl := zv6 k (scs.headD []) tk
    obtain ⟨b1, b2, b3, b4⟩ := zr7 r scs.tail (zlh k (scs.headD []) tk).2 h.2 (fun sc hsc => hs sc (List.mem_of_mem_tail hsc)) (by omega)
    simp only [zgr, zat, Bool.and_eq_true, zci, zv1, List.length_cons, a1, a2, a3, b1, b2, b4]
    exact ⟨⟨trivial, trivial⟩, trivial, fun m => b3 _, trivial⟩
end
end Go.Hk

/- What replacer.in computes, and plain facts of it. -/
namespace Go.Hk
open Go.Proofs
def zfp (fr : List Str) (i : Nat) (r : Nat × Tm × List Str) (x : Str) : Nat × Tm × List Str :=
  if zbq fr x = true then (r.1 + 1, zdh (zcm r.2.1 i (ze7 ((tmK r.2.1 i).getD zTm) x (za3 r.2.2))) i r.1 (za3 r.2.2), r.2.2 ++ [za3 r.2.2]) else (r.1 + 1, r.2.1, r.2.2)
def zdy (fr : List Str) (i : Nat) (T : Tm) (m : List Str) (j : Nat) : Nat × Tm × List Str := ((zad T i).take j).foldl (zfp fr i) (0, T, m)
def ziv (fr : List Str) (i : Nat) (T : Tm) (m : List Str) : Nat × Tm × List Str := (zad T i).foldl (zfp fr i) (0, T, m)
def lpR (rec : Tm → Tm) (nm : Str) (fr : List Str) : Nat → Nat → Tm → List Str → Tm
  | 0, _, T, _ => T
  | k + 1, i, T, m => lpR rec nm fr k (i + 1) (if zbq (zad T i) nm = true then (ziv fr i T m).2.1 else zcm (ziv fr i T m).2.1 i (rec ((tmK (ziv fr i T m).2.1 i).getD zTm))) (ziv fr i T m).2.2
def rpl (nm : Str) (by' : Tm) (fr : List Str) : Nat → Tm → Tm
  | 0, t => t
  | N + 1, .mk op n x ks ps => if zbq (zcq (.mk op n x ks ps) [] []) nm = true then (if op = 4 then by' else lpR (rpl nm by' fr N) nm fr ks.length 0 (.mk op n x ks ps) (nm :: fr ++ zbc (.mk op n x ks ps))) else .mk op n x ks ps
theorem zga {fr : List Str} {i : Nat} {T : Tm} {m : List Str} {j : Nat} {x : Str} (h : (zad T i)[j]? = some x) : zdy fr i T m (j + 1) = zfp fr i (zdy fr i T m j) x := by
  simp only [zdy, zbu h, List.foldl_append, List.foldl_cons, List.foldl_nil]
theorem zgt (fr : List Str) (i : Nat) (T : Tm) (m : List Str) : zdy fr i T m (zad T i).length = ziv fr i T m := by
  simp only [zdy, ziv, List.take_of_length_le (Nat.le_refl _)]
theorem zcd (T : Tm) (i : Nat) (k : Tm) (m : Int) : zad (zcm T i k) m = zad T m := by
  obtain ⟨op, n, y, ks, ps⟩ := T; rfl
theorem zfn {T : Tm} {i : Nat} {k0 : Tm} (h : tmK T i = some k0) (k : Tm) (l : Nat) : tmK (zcm T i k) l = if l = i then some k else tmK T l := by
  obtain ⟨op, n, y, ks, ps⟩ := T
  simp only [zcm, tmK] at h ⊢
  by_cases e : l = i
  · subst e; rw [if_pos rfl, List.getElem?_set_self (List.getElem?_eq_some_iff.1 h).1]
  · rw [if_neg e, List.getElem?_set_ne (fun e2 => e e2.symm)]
theorem zg7 (T : Tm) (i : Int) (j : Nat) (x : Str) (l : Nat) : tmK (zdh T i j x) l = tmK T l := by
  obtain ⟨op, n, y, ks, ps⟩ := T
  obtain ⟨y', ps', h, _⟩ := zlx op n y ks ps i j x
  rw [h]; rfl
def zni (t T : Tm) : Prop := ∃ op n x ks ps x' ks' ps', t = .mk op n x ks ps ∧ T = .mk op n x' ks' ps' ∧ ks'.length = ks.length ∧ ps'.length = ps.length ∧ ∀ m, (zad T m).length = (zad t m).length
theorem zhi (t : Tm) : zni t t := by
  obtain ⟨op, n, x, ks, ps⟩ := t
  exact ⟨op, n, x, ks, ps, x, ks, ps, rfl, rfl, rfl, rfl, fun _ => rfl⟩
theorem ycc {t T : Tm} (h : zni t T) (i : Int) (j : Nat) (x : Str) : zni t (zdh T i j x) := by
  obtain ⟨op, n, y, ks, ps, y', ks', ps', rfl, rfl, h1, h2, h3⟩ := h
  obtain ⟨y2, ps2, h4, h5⟩ := zlx op n y' ks' ps' i j x
  refine ⟨op, n, y, ks, ps, y2, ks', ps2, rfl, h4, h1, h5.trans h2, fun m => ?_⟩
  rw [zfw]; exact h3 m
theorem zvn {t T : Tm} (h : zni t T) (i : Nat) (k : Tm) : zni t (zcm T i k) := by
  obtain ⟨op, n, y, ks, ps, y', ks', ps', rfl, rfl, h1, h2, h3⟩ := h
  exact ⟨op, n, y, ks, ps, y', ks'.set i k, ps', rfl, rfl, by simpa using h1, h2, h3⟩
theorem zu5 {i : Nat} {sk : An} {T k : Tm} (hf : zh7 sk T) (hs : skK sk i = some (.im true [] [])) (hk : tmK T i = some k) (fr m : List Str) : ∀ j, j ≤ (zad T i).length → (zdy fr i T m j).1 = j ∧ zh7 sk (zdy fr i T m j).2.1 ∧
      (∀ l, j ≤ l → (zad (zdy fr i T m j).2.1 i)[l]? = (zad T i)[l]?) ∧ zni T (zdy fr i T m j).2.1 ∧ (zdy fr i T m j).2.2.length ≤ m.length + j ∧ (∀ l, l ≠ i → tmK (zdy fr i T m j).2.1 l = tmK T l) ∧
      ∃ k', tmK (zdy fr i T m j).2.1 i = some k' ∧ zcv k' = zcv k ∧ (zfl k → zfl k') ∧ (zim k → zim k')
  | 0, _ => ⟨rfl, hf, fun _ _ => rfl, zhi T, by simp [zdy], fun _ _ => rfl, k, hk, rfl, id, id⟩
  | j + 1, hj => by
    obtain ⟨h1, h2, h3, h4, h5, h6, k', h7, h8, h9, h10⟩ := zu5 hf hs hk fr m j (by omega)
    obtain ⟨x, hx⟩ := zal (show j < (zad T i).length by omega)
    rw [zga hx]
    generalize zdy fr i T m j = r at *
    obtain ⟨r1, rT, rm⟩ := r
    simp only at h1 h2 h3 h4 h5 h6 h7
    subst h1
    simp only [zfp]
    by_cases hx2 : zbq fr x = true
    · rw [if_pos hx2]
      have hfK := zrl h2 hs h7 (ze7 ((tmK rT i).getD zTm) x (za3 rm))
      have hlen : (zad (zcm rT i (ze7 ((tmK rT i).getD zTm) x (za3 rm))) i).length = (zad T i).length := by
        obtain ⟨_, _, _, _, _, _, _, _, _, _, _, _, hb⟩ := zvn h4 i (ze7 ((tmK rT i).getD zTm) x (za3 rm))
        exact hb i
      have hlt : r1 < (zad (zcm rT i (ze7 ((tmK rT i).getD zTm) x (za3 rm))) i).length := by rw [hlen]; omega
      obtain ⟨p, hp⟩ := zal (show r1 < (bp sk i).length by rw [yix hfK]; exact hlt)
      refine ⟨rfl, yck hfK hp _, fun l hl => ?_, ycc (zvn h4 i _) _ _ _, by simp only [List.length_append, List.length_singleton]; omega, fun l hl => ?_, ?_⟩
      · rw [zjr _ hlt, List.getElem?_set_ne (by omega), zcd, h3 l (by omega)]
      · rw [zg7, zfn h7, if_neg hl, h6 l hl]
      · refine ⟨ze7 k' x (za3 rm), ?_, by rw [zpr, h8], fun h => zto _ _ _ (h9 h), fun h => zwp _ _ _ (h10 h)⟩
        rw [zg7, zfn h7, if_pos rfl, h7]; rfl
    · rw [if_neg hx2]
      exact ⟨rfl, h2, fun l hl => h3 l (by omega), h4, by simp only; omega, h6, k', h7, h8, h9, h10⟩
end Go.Hk

/- replacer.in: one round of the loop over the names that a term binds in a part. -/
namespace Go.Hk
open Go.Proofs
def rD (nm : Str) : Tm → Nat → List D
  | .mk o n x ks ps, id => [.imm (.str nm), .imm (.int .i64 o), .imm (.int .i64 n), .imm (.str x), .imm (.sl (zc2 ks)), .imm (.sl (zcf ps)), .mapr id]
def stQ (b : Nat) (sk : An) (nm : Str) (by' : Tm) (fr : List Str) (i : Nat) (here : List Str) (r : Nat × Tm × List Str) : St :=
  [(2, some (.cells 63 7 (rD nm by' 7))), (4, some (.cells 26 5 [.imm (.int .i64 0), .imm (.int .i64 0), .imm (.str []), .nils, .nils])), (7, some (.map (zev fr))), (13, some (.hp (zcr b sk r.2.1))),
    (20, some (.map (zev r.2.2))), (8, some (.cells 61 1 [.mapr 20])), (14, some (.immb 3 1 [.int .i64 i])), (15, some (.row 9 1 (zbb here)))]
def yof (b n i : Nat) (here : List Str) : Env := [(50, .imm (.int .i64 i)), (49, .imm (.int .i64 n)), (2, .ref 2 0), (3, .raw (.pointer (some ⟨b, 0, none⟩))), (4, .ref 4 0), (6, .ref 8 0), (8, .ref 14 0), (9, .own 15 (zbb here).length)]
theorem zhl (t : Tm) : ∃ o n x ks ps, t = .mk o n x ks ps := by obtain ⟨o, n, x, ks, ps⟩ := t; exact ⟨o, n, x, ks, ps, rfl⟩
set_option maxRecDepth 100000 in
theorem ydd (b : Nat) (sk : An) (nm : Str) (by' : Tm) (fr : List Str) (here : List Str) (i K : Nat) (T k : Tm) (m : List Str) {o n : Int} {xx : Str} {c rb : Nat} {js : List An} {u : Value} {qs : List An}
    (hf : zh7 sk T) (hsk : sk = .mk true o n xx (.slice (some ⟨rb, 0, none⟩) K c) js u qs) (hsK : skK sk i = some (.im true [] [])) (hk : tmK T i = some k) (hpk : zfl k) (hi : i < K) (hK : K ≤ 1000000)
    (hms : ∀ j, j ≤ (zad T i).length → ∀ s ∈ (zdy fr i T m j).2.2, s.length ≤ maxLen) (hml : m.length + (zad T i).length ≤ 699)
    (j : Nat) (hj : j < (zad T i).length) (d : D) (hd : ((bp sk i).map (plD b sk))[j]? = some d)
    {L : zn0} (h1 : Tryz.prog.funcs[L.fn]?.isSome) (h2 : L.tmps.size = Tryz.f37.ntmps) (h3 : L.ps = #[57]) (h4 : L.asg = yl2 Tryz.f37)
    (h5 : L.body = ygg Tryz.f37) (h6 : L.E = yof b K i here) (h7 : L.F = [7]) :
    ya6 Tryz.prog [d] (zds L (stQ b sk nm by' fr i here (zdy fr i T m j)) none) true (zds L (stQ b sk nm by' fr i here (zdy fr i T m (j + 1))) none) := by
  obtain ⟨fc, hfc⟩ := Option.isSome_iff_exists.1 h1
  obtain ⟨x, hx⟩ := zal hj
  obtain ⟨i1, i2, i3, i4, i5, i6, k', i7, i8, i9, _⟩ := zu5 hf hsK hk fr m j (by omega)
  have hms := hms j (by omega)
  rw [zga hx]
  generalize zdy fr i T m j = r at *
  obtain ⟨r1, rT, rm⟩ := r
  simp only at i1 i2 i3 i4 i5 i6 i7 hms
  subst i1
  have hok := zh6 i2
  rw [List.getElem?_map] at hd
  obtain ⟨p, hp, rfl⟩ := Option.map_eq_some_iff.1 hd
  obtain ⟨a0, b', off', hl, hD⟩ : ∃ a0 b' off', zen sk b 0 p = some (a0, b', off') ∧ plD b sk p = .raw (ptr b' (zdo off' 2)) := by
    obtain ⟨a, o, nn, y, ad, c, ks, u, qs, rfl, hv, _⟩ := id i2
    rw [zy5] at hp
    obtain ⟨s, o', n', x', v', ks', u', ps', b', off', hl, _, _⟩ := zsc ((zhf a).1 hok) hv hp b
    refine ⟨_, b', off', by rw [zjc, hl]; rfl, ?_⟩
    simp only [plD, zjc, hl, Option.map_some]
  have hx2 : (zad rT i)[r1]? = some x := by rw [i3 r1 (Nat.le_refl _)]; exact hx
  have hrd := ztc hok hp hl (b := b) hx2
  have hraw : ∀ vs I w bs, (zcr b sk rT).P vs I w bs → zda I w b 3 [.raw (.slice (some ⟨rb, 0, none⟩) K c)] := fun vs I w bs h => (zei (by rw [hsk] at h; exact h)).1
  obtain ⟨bo, bn, bx, bks, bps⟩ := by'
  rw [hD]
  refine znr (pend := none) (d := .raw (ptr b' (zdo off' 2))) (ids := [16, 17, 18]) (t := 10) (p := 57) hfc h3 (h4.trans rfl) h2 rfl rfl rfl rfl (by decide) (by decide) ?_ ?_
  · rw [h6, h7]
    refine ⟨by decide, ?_⟩
    simp [stQ, yof, rD, nmE, nmD, zfb, nmB, nmL]
  · rw [h5, h6, h7]
    refine xd [] rfl (by simp [zai]) ?_
    refine zbr ttX_ok 13 [.imm (.str x)] rfl rfl (fun _ => hrd) rfl rfl (by simp) ?_
    refine xg [] rfl (by simp [zai]) ?_
    refine znl ttX_ok 7 rfl rfl rfl (zc4 fr) (by simp [zai]) (z := .bool false) rfl (fun _ => .bool _) (zha fr x) ?_
    refine xg [] rfl (by simp [zai]; rfl) ?_
    refine zaa rfl (fun h => ?_) (fun h => ?_)
    · have hno : ¬ zbq fr x = true := by simpa using h
      rw [show zfp fr i (r1, rT, rm) x = (r1 + 1, rT, rm) by simp only [zfp, if_neg hno]]
      refine zav rfl ?_
      refine zb9 ?_
      exact ⟨rfl, rfl, rfl, rfl, rfl, rfl, rfl, rfl, trivial⟩
    have hyes : zbq fr x = true := by simpa using h
    rw [show zfp fr i (r1, rT, rm) x = (r1 + 1, zdh (zcm rT i (ze7 k' x (za3 rm))) i r1 (za3 rm), rm ++ [za3 rm]) by simp only [zfp, if_pos hyes, i7, Option.getD_some]]
    clear h
    refine xd [] rfl (by simp [zai]) ?_
    refine zar (fr := []) [(20, 1)] [] rfl (by simp) (zw6 rm hms (by omega)) ⟨⟨rfl, rfl, rfl⟩, trivial⟩ rfl rfl rfl rfl ?_
    refine xg [] rfl (by simp [zai]) ?_
    refine zac rfl (fun _ => zm2 (zf8 rm) (by simp only [zf8, List.length_mergeSort]; omega)) (by simp [zai]) ?_
    rw [show za3 (zf8 rm) = za3 rm from zop fun s => by simp [zf8]]
    refine xg [] rfl (by simp [zai]) ?_
    refine zoo ttX_ok rfl rfl rfl (zc4 rm) ?_
    rw [zu4 rm (za3 rm) (by have := (zfc rm (by omega)).2; rw [← zbg] at this; simpa using this)]
    refine xg [] rfl (by simp [zai]) ?_
    obtain ⟨ko, kn, kx, kks, kps, rfl⟩ := zhl k'
    have hkid : ∀ vs I w bs, (zcr b sk rT).P vs I w bs → zda I w rb (i * 5) ((dTmc (.mk ko kn kx kks kps)).map .imm) := fun vs I w bs h => zob hok hsk hsK i7 h
    have e5 : 0 + ((i : Int)).toNat * 5 = i * 5 := by simp
    refine zbr ttX_ok 13 [.raw (.slice (some ⟨rb, 0, none⟩) K c)] rfl rfl (fun _ => hraw) rfl rfl (by simp) ?_
    refine xg [] rfl (by simp [zai]) ?_
    refine zbr ttX_ok 13 [.raw (.slice (some ⟨rb, 0, none⟩) K c)] rfl rfl (fun _ => hraw) rfl rfl (by simp) ?_
    refine xg [] rfl (by simp [zai]) ?_
    refine zdm ttX_ok rfl rfl (fun _ => ⟨by simp, by simpa using hi⟩) (by simp) ?_
    refine xg [] rfl (by simp [zai]) ?_
    rw [← e5] at hkid
    refine zbr ttX_ok 13 [.imm (.int .i64 ko), .imm (.int .i64 kn), .imm (.str kx), .imm (.sl (zc2 kks)), .imm (.sl (zcf kps))] rfl rfl (fun _ => hkid) rfl rfl (by simp) ?_
    refine xg [] rfl (by simp [zai]) ?_
    refine zbr ttX_ok 13 [.imm (.str x)] rfl rfl (fun _ => hrd) rfl rfl (by simp) ?_
    refine xg [] rfl (by simp [zai]) ?_
    have hren := zxp (.mk ko kn kx kks kps) x (za3 rm) (i9 hpk)
    obtain ⟨kx2, kks2, hsh⟩ : ∃ kx2 kks2, ze7 (.mk ko kn kx kks kps) x (za3 rm) = .mk ko kn kx2 kks2 kps := ⟨_, _, by rw [ze7]⟩
    rw [hsh] at hren ⊢
    refine zac rfl (fun _ => hren) (by simp [zai]) ?_
    refine xg [] rfl (by simp [zai]) ?_
    refine zdm ttX_ok rfl rfl (fun _ => ⟨by simp, by simpa using hi⟩) (by simp) ?_
    have hst := zkk (b := b) hok hsk hsK i7 (.mk ko kn kx2 kks2 kps)
    rw [← e5] at hst
    refine zpo ttX_ok 13 (zcr b sk (zcm rT i (.mk ko kn kx2 kks2 kps))) rfl rfl hst ?_
    refine xg [] rfl (by simp [zai]; rfl) ?_
    have hfK := zrl i2 hsK i7 (.mk ko kn kx2 kks2 kps)
    refine zpo ttX_ok 13 (zcr b sk (zdh (zcm rT i (.mk ko kn kx2 kks2 kps)) i r1 (za3 rm))) rfl rfl (zqe hok hp hl (b := b) (za3 rm)) ?_
    refine xg [] rfl (by simp [zai]) ?_
    refine zb9 ?_
    exact ⟨rfl, rfl, rfl, rfl, rfl, rfl, rfl, rfl, trivial⟩
end Go.Hk

/- A contract on zb6 blocks whose values are named becomes one on blocks whose values are hidden. -/
namespace Go.Hk
theorem yan {P : Program} {f : FuncId} {α : Type} {das : List D} {A Z : Asn} {B C : α → Asn} (val : α → List Value) {st0 st1 : St} {d : α → D} {d' : D} (i j : Nat)
    (hA : ∀ vs I w bs, A.P vs I w bs → ∃ x, vs = val x ∧ (B x).P [] I w bs)
    (hE : ∀ x, zdb P f (yfh i (val x) das) ((i, some (.hp (B x))) :: st0) (.ret (d x) ((j, some (.hp (C x))) :: st1)))
    (hZ : ∀ x us I w bs, (C x).P us I w bs → Z.P (val x) I w bs)
    (hn0 : ∀ x, i ∉ nmL (yfh i (val x) das)) (hi0 : i ∉ zfb st0) (hj1 : j ∉ zfb st1) (hi1 : i ∉ zfb st1) (hij : i ≠ j) (hj0 : j ∉ nms st0)
    (hres : ∀ x J ν ν' v bs, RepD J ν v (d x) → (∀ k, k ≠ i → k ≠ j → ν' k = ν k) → ν' j = some (hpG (val x) bs) → RepD J ν' v d') :
    zdb P f das ((i, some (.hp A)) :: st0) (.ret d' ((j, some (.hp Z)) :: st1)) := by
  intro I μ w xs hst hx
  have hl : zaq ((i, some (.hp A)) :: st0) i (.hp A) := zah.2 (.inl ⟨rfl, rfl⟩)
  obtain ⟨g, hg, vs, bs, rfl, hP⟩ := hst.blk i _ hl
  obtain ⟨x, rfl, hB⟩ := hA vs I w bs hP
  obtain ⟨μ', hμ⟩ : ∃ μ' : Mu, μ' = fun k => if k = i then some (hpG [] bs) else μ k := ⟨_, rfl⟩
  have hμi : μ' i = some (hpG [] bs) := by rw [hμ]; simp
  have hμo : ∀ k, k ≠ i → μ' k = μ k := fun k hk => by rw [hμ]; simp [hk]
  have hcase : ∀ {X : Asn} {k : Nat} {b : Blk} {k0 : Nat} {s : St}, zaq ((k0, some (.hp X)) :: s) k b → (k = k0 ∧ b = .hp X) ∨ (k ≠ k0 ∧ zaq s k b) := fun h => zah.1 h
  have old0 : ∀ k b, zaq ((i, some (.hp (B x))) :: st0) k b → ∀ gk, μ' k = some gk → ∃ b0 g0, zaq ((i, some (.hp A)) :: st0) k b0 ∧ μ k = some g0 ∧ ∀ m, zgp gk m ↔ zgp g0 m := fun k b h gk hgk => by
    rcases hcase h with ⟨rfl, rfl⟩ | ⟨h1, h2⟩
    · rw [hμi] at hgk; cases hgk
      exact ⟨_, _, hl, hg, fun m => by rw [za5, za5]⟩
    · exact ⟨b, gk, zah.2 (.inr ⟨h1, h2⟩), by rw [← hμo k h1]; exact hgk, fun m => Iff.rfl⟩
  have hst' : StRep I μ' ((i, some (.hp (B x))) :: st0) [] w :=
    { imm := hst.imm
      blk := fun k b h => by
        rcases hcase h with ⟨rfl, rfl⟩ | ⟨h1, h2⟩
        · exact ⟨_, hμi, [], bs, rfl, hB⟩
        · obtain ⟨gk, q1, q2⟩ := hst.blk k b (zah.2 (.inr ⟨h1, h2⟩))
          refine ⟨gk, by rw [hμo k h1]; exact q1, q2.sub fun m hm gm hgm => ?_⟩
          have : m ≠ i := fun e => hi0 (e ▸ (zc5 h2).2 m hm)
          rw [hμo m this]; exact hgm
      apart := fun k b gk m h hgk hm => by
        obtain ⟨b0, g0, q1, q2, q3⟩ := old0 k b h gk hgk
        exact hst.apart k b0 g0 m q1 q2 ((q3 m).1 hm)
      inj := fun k1 k2 c1 c2 g1 g2 m h1 h2 hg1 hg2 hm1 hm2 => by
        obtain ⟨p0, p1, p2, p3, p4⟩ := old0 k1 c1 h1 g1 hg1
        obtain ⟨r0, r1, r2, r3, r4⟩ := old0 k2 c2 h2 g2 hg2
        exact hst.inj k1 k2 p0 r0 p1 r1 m p2 r2 p3 r3 ((p4 m).1 hm1) ((r4 m).1 hm2)
      nodup := .nil
      idsFree := fun _ h => by simp at h }
  have hx' : RepL I μ' xs.toList (yfh i (val x) das) := by
    have hlen : (yfh i (val x) das).length = das.length := by rw [zhz]; simp
    refine ⟨hx.1.trans hlen.symm, fun m v e h1 h2 => ?_⟩
    have h2' := h2
    rw [zhz, List.getElem?_map] at h2
    obtain ⟨e0, h3, rfl⟩ := Option.map_eq_some_iff.1 h2
    refine (RepD.opn hg (hx.2 m v e0 h1 h3)).sub fun k hk gk hgk => ?_
    have : k ≠ i := fun e => by rw [e] at hk; exact hn0 x (zi9 (List.mem_of_getElem? h2') hk)
    rw [hμo k this]; exact hgk
  refine (hE x I μ' w xs hst' hx').mono ?_ ?_
  · rintro u w' ⟨J, ν, q1, q2, q3, q4⟩
    have hlj : zaq ((j, some (.hp (C x))) :: st1) j (.hp (C x)) := zah.2 (.inl ⟨rfl, rfl⟩)
    obtain ⟨gj, hgj, us, bj, rfl, hC⟩ := q2.blk j _ hlj
    obtain ⟨ν', hν⟩ : ∃ ν' : Mu, ν' = fun k => if k = j then some (hpG (val x) bj) else if k = i then μ i else ν k := ⟨_, rfl⟩
    have hνj : ν' j = some (hpG (val x) bj) := by rw [hν]; simp
    have hνi : ν' i = μ i := by rw [hν]; simp [hij]
    have hνo : ∀ k, k ≠ i → k ≠ j → ν' k = ν k := fun k h1 h2 => by rw [hν]; simp [h1, h2]
    have old1 : ∀ k b, zaq ((j, some (.hp Z)) :: st1) k b → ∀ gk, ν' k = some gk → ∃ b0 g0, zaq ((j, some (.hp (C x))) :: st1) k b0 ∧ ν k = some g0 ∧ ∀ m, zgp gk m ↔ zgp g0 m := fun k b h gk hgk => by
      rcases hcase h with ⟨rfl, rfl⟩ | ⟨h1, h2⟩
      · rw [hνj] at hgk; cases hgk
        exact ⟨_, _, hlj, hgj, fun m => by rw [za5, za5]⟩
      · have : k ≠ i := fun e => hi1 (e ▸ (zc5 h2).1)
        exact ⟨b, gk, zah.2 (.inr ⟨h1, h2⟩), by rw [← hνo k this h1]; exact hgk, fun m => Iff.rfl⟩
    have ow0 : ∀ b, zb6 μ' ((i, some (.hp (B x))) :: st0) b ↔ zb6 μ ((i, some (.hp A)) :: st0) b := fun b => by
      constructor
      · rintro ⟨k, c, gk, h1, h2, h3⟩
        obtain ⟨b0, g0, r1, r2, r3⟩ := old0 k c h1 gk h2
        exact ⟨k, b0, g0, r1, r2, (r3 b).1 h3⟩
      · rintro ⟨k, c, gk, h1, h2, h3⟩
        rcases hcase h1 with ⟨rfl, rfl⟩ | ⟨h4, h5⟩
        · rw [hg] at h2; cases h2
          exact ⟨k, _, _, zah.2 (.inl ⟨rfl, rfl⟩), hμi, by rw [za5] at h3 ⊢; exact h3⟩
        · exact ⟨k, c, gk, zah.2 (.inr ⟨h4, h5⟩), by rw [hμo k h4]; exact h2, h3⟩
    refine ⟨J, ν', hres x J ν ν' u bj q1 hνo hνj, ?_, ?_, ?_⟩
    · exact
        { imm := q2.imm
          blk := fun k b h => by
            rcases hcase h with ⟨rfl, rfl⟩ | ⟨h1, h2⟩
            · exact ⟨_, hνj, val x, bj, rfl, hZ x us J w' bj hC⟩
            · obtain ⟨gk, r1, r2⟩ := q2.blk k b (zah.2 (.inr ⟨h1, h2⟩))
              have hk : k ≠ i := fun e => hi1 (e ▸ (zc5 h2).1)
              refine ⟨gk, by rw [hνo k hk h1]; exact r1, r2.sub fun m hm gm hgm => ?_⟩
              have m1 : m ≠ i := fun e => hi1 (e ▸ (zc5 h2).2 m hm)
              have m2 : m ≠ j := fun e => hj1 (e ▸ (zc5 h2).2 m hm)
              rw [hνo m m1 m2]; exact hgm
          apart := fun k b gk m h hgk hm => by
            obtain ⟨b0, g0, r1, r2, r3⟩ := old1 k b h gk hgk
            exact q2.apart k b0 g0 m r1 r2 ((r3 m).1 hm)
          inj := fun k1 k2 c1 c2 g1 g2 m h1 h2 hg1 hg2 hm1 hm2 => by
            obtain ⟨p0, p1, p2, p3, p4⟩ := old1 k1 c1 h1 g1 hg1
            obtain ⟨r0, r1, r2, r3, r4⟩ := old1 k2 c2 h2 g2 hg2
            exact q2.inj k1 k2 p0 r0 p1 r1 m p2 r2 p3 r3 ((p4 m).1 hm1) ((r4 m).1 hm2)
          nodup := .nil
          idsFree := fun _ h => by simp at h }
    · intro k hk v hv
      simp only [nms, List.map_cons, List.mem_cons] at hk
      by_cases h1 : k = i
      · rw [h1] at hv ⊢; rw [hνi]; exact hv
      · have hk0 : k ∈ nms st0 := by rcases hk with h | h
                                     · exact absurd h h1
                                     · exact h
        have h2 : k ≠ j := fun e => hj0 (e ▸ hk0)
        rw [hνo k h1 h2]
        exact q3 k (by simp only [nms, List.map_cons, List.mem_cons]; exact .inr hk0) v (by rw [hμo k h1]; exact hv)
    · exact
        { imm := q4.imm, os := q4.os, tape := q4.tape, output := q4.output, size := q4.size
          block := fun b hb ho => q4.block b hb fun h => ho ((ow0 b).1 h)
          fresh := fun b hb ⟨k, c, gk, h1, h2, h3⟩ => by
            obtain ⟨b0, g0, r1, r2, r3⟩ := old1 k c h1 gk h2
            exact (ow0 b).1 (q4.fresh b hb ⟨k, b0, g0, r1, r2, (r3 b).1 h3⟩)
          old := fun b hb ho => q4.old b hb fun h => ho ((ow0 b).1 h) }
  · intro chain w' h; exact h
end Go.Hk

/- Contract of canon: a formed term with its bound names chosen anew. -/
namespace Go.Hk
open Go.Proofs
mutual
theorem yb7 : ∀ p : Ty, zch p = true → 3 * (zcw p).length ≤ 2 * zbd p + 1
  | .mk s n x ps, h => by
    simp only [zch, Bool.and_eq_true] at h
    have h1 := zx1 ps h.2
    have h2 := h.1
    unfold zio at h2
    simp only [zcw, zbd, List.length_append]
    by_cases e : s = 2
    · have hk : ps.length = 0 := by simp [e] at h2; simp [h2.1.1]
      have : ps = [] := List.eq_nil_of_length_eq_zero hk
      subst this
      simp [e, zbp, zao]
    · have hk : ps.length ≤ 3 := by
        by_cases e1 : s = 1 ∨ s = 5
        · rw [if_pos e1] at h2; simp at h2; simp [h2.1.1]
        · rw [if_neg e1, if_neg e] at h2
          by_cases e3 : s = 3
          · rw [if_pos e3] at h2; simp at h2; simp [h2.1.1]
          · rw [if_neg e3] at h2
            by_cases e4 : s = 4
            · rw [if_pos e4] at h2; simp at h2; simp [h2.1.1]
            · rw [if_neg e4] at h2
              by_cases e6 : s = 6
              · rw [if_pos e6] at h2; simp at h2; omega
              · rw [if_neg e6] at h2; cases h2
      simp only [e, if_false, List.length_nil]
      omega
theorem zx1 : ∀ ps : List Ty, zbw ps = true → 3 * (zbp ps).length ≤ 2 * zao ps + ps.length
  | [], _ => by simp [zbp, zao]
  | p :: r, h => by
    simp only [zbw, Bool.and_eq_true] at h
    have h1 := yb7 p h.1
    have h2 := zx1 r h.2
    simp only [zbp, zao, List.length_append, List.length_cons]
    omega
end
theorem names8 {p : Ty} (h : zct p = true) : (za4 p).length ≤ 8 := by
  simp only [zct, Bool.and_eq_true, decide_eq_true_eq] at h
  have h1 := yb7 p h.1.2
  have h2 := zdz p 12 h.1.1
  simp only [za4, List.length_map]
  omega
theorem zy7 {op n : Int} {x : Str} {ks : List Tm} {ps : List Ty} (h : ps.all zct = true) (i : Int) : (zad (.mk op n x ks ps) i).length ≤ 8 := by
  simp only [zad]
  split
  · simp
  · split
    · split
      · rename_i p hp
        exact names8 (List.all_eq_true.1 h p (List.mem_of_getElem? hp))
      · simp
    · simp
theorem yiz {op n : Int} {x : Str} {ks : List Tm} {ps : List Ty} (h : ps.all zct = true) : ∀ m i, zgq (.mk op n x ks ps) m i ≤ 8 * m
  | 0, _ => by simp [zgq]
  | m + 1, i => by
    have := yiz (op := op) (n := n) (x := x) (ks := ks) h m (i + 1)
    have := zy7 (op := op) (n := n) (x := x) (ks := ks) h (i : Int)
    simp only [zgq]; omega
mutual
theorem yhc : ∀ t : Tm, zag t = true → yb2 t + 8 ≤ 8 * zcv t
  | .mk op n x ks ps, h => by
    simp only [zag, Bool.and_eq_true] at h
    have h1 := yb1 ks h.2
    have h2 := yiz (op := op) (n := n) (x := x) (ks := ks) h.1.2 ks.length 0
    simp only [yb2, zcv]
    split <;> omega
theorem yb1 : ∀ l : List Tm, zat l = true → znc l + 8 * l.length ≤ 8 * zci l
  | [], _ => by simp [znc, zci]
  | t :: r, h => by
    simp only [zat, Bool.and_eq_true] at h
    have h1 := yhc t h.1
    have h2 := yb1 r h.2
    simp only [znc, zci, List.length_cons]; omega
end
theorem ygf {t : Tm} (h : za8 t = true) : (zcn t).length ≤ 60 := by
  obtain ⟨h1, _, _, h4⟩ := zcs t h
  have := zjl t [] []
  rw [← zvt t h1, List.length_mergeSort]
  simp at this; omega
theorem zr6 {t : Tm} (h : za8 t = true) : (zcn t).length + yb2 t ≤ 699 := by
  obtain ⟨_, _, _, h4⟩ := zcs t h
  have h1 := ygf h
  simp only [za8, Bool.and_eq_true] at h
  have := yhc t h.2
  omega
set_option maxRecDepth 100000 in
theorem yds (t : Tm) (s : Sc) (tk : List Str) (hwide : zim t) (hpats : zfl t) (htk : tk.length + yb2 t ≤ 699) :
    zdb Tryz.prog 81 [.ref 7 0, .agg (dsA 1 true (dTmc t)), .imm (zew s)] [(1, some (.hp (zwj true (dTmc t)))), (7, some (.cells 107 1 [.own 8 tk.length])), (8, some (.row 9 1 (zbb tk)))]
      (.ret (.agg (dsA 5 true (dTmc (zlh t s tk).1))) [(5, some (.hp (zwj true (dTmc (zlh t s tk).1)))), (7, some (.cells 107 1 [.own 13 (zlh t s tk).2.length])), (13, some (.row 9 1 (zbb (zlh t s tk).2)))]) := by
  obtain ⟨op, n, x, ks, ps⟩ := t
  obtain ⟨x2, ks2, ps2, hsh⟩ := znx op n x ks ps s tk
  rw [hsh]
  refine yan (α := { y : Value × List An × Value × List An // vA (.mk true op n x y.1 y.2.1 y.2.2.1 y.2.2.2) = dTmc (.mk op n x ks ps) ∧ zjk (.mk true op n x y.1 y.2.1 y.2.2.1 y.2.2.2) }) (fun y => [y.1.1, y.1.2.2.1])
    (B := fun y => yfd (er (.mk true op n x y.1.1 y.1.2.1 y.1.2.2.1 y.1.2.2.2)) (.mk op n x ks ps)) (C := fun y => yfd (er (.mk true op n x y.1.1 y.1.2.1 y.1.2.2.1 y.1.2.2.2)) (.mk op n x2 ks2 ps2))
    (d := fun y => ygd op n x2 y.1.1 y.1.2.2.1) 1 5 (fun vs I w bs h => ?_) (fun y => ?_) (fun y us I w bs h => ?_) (fun y => by simp [yfh, yma, dsA, dTmc, nmL, nmD, nth]) (by simp [zfb, nmB, nmL, nmD]) (by simp [zfb, nmB, nmL, nmD]) (by simp [zfb, nmB, nmL, nmD]) (by decide) (by simp [nms]) (fun y J ν ν' w bs h hag h5 => ?_)
  · obtain ⟨o', n', x', v, js, u, qs, ⟨h1, h2⟩, rfl, a, b, c⟩ := h
    have e := h1
    simp only [vA, dTmc, List.cons.injEq, V.int.injEq, V.str.injEq, true_and] at e
    obtain ⟨rfl, rfl, rfl, _⟩ := e
    exact ⟨⟨(v, js, u, qs), h1, h2⟩, rfl, _, rfl, h1, a, b, c⟩
  · obtain ⟨⟨v, js, u, qs⟩, h1, h2⟩ := y
    have := yb8 (.mk op n x ks ps) s tk (er (.mk true op n x v js u qs)) op n x [] v u (ers js) (ers qs) ks ps rfl rfl ((zj8 _).2 h2) hwide hpats htk
    rw [hsh] at this
    exact this
  · obtain ⟨⟨v, js, u, qs⟩, h1, h2⟩ := y
    obtain ⟨a, e1, e2, e3, e4, e5⟩ := h
    have hf : zjk a := (zj8 a).1 (by rw [e1]; exact (zj8 _).2 h2)
    obtain ⟨y', ks', qs', rfl, _, _⟩ := yme e1 rfl
    exact ⟨op, n, y', v, ks', u, qs', ⟨e2, hf⟩, rfl, e3, e4, e5⟩
  · obtain ⟨⟨v, js, u, qs⟩, h1, h2⟩ := y
    obtain ⟨cs, rfl, hcs, hone⟩ := h.aggDInv
    refine .agg cs _ (by simpa [dsA, dTmc] using hcs.1) hone fun i c d hc hd => ?_
    have hc' : cs.toList[i]? = some c := by simpa using hc
    match i with
    | 0 => simp [dsA, dTmc] at hd; subst hd; exact .imm _ _ (hcs.2 0 c _ hc' rfl).immInv
    | 1 => simp [dsA, dTmc] at hd; subst hd; exact .imm _ _ (hcs.2 1 c _ hc' rfl).immInv
    | 2 => simp [dsA, dTmc] at hd; subst hd; exact .imm _ _ (hcs.2 2 c _ hc' rfl).immInv
    | 3 =>
      simp [dsA, dTmc] at hd; subst hd
      have := (hcs.2 3 c _ hc' rfl).rawInv
      subst this
      exact .hv _ _ _ _ _ h5 rfl (hone _ (List.mem_of_getElem? hc'))
    | 4 =>
      simp [dsA, dTmc] at hd; subst hd
      have := (hcs.2 4 c _ hc' rfl).rawInv
      subst this
      exact .hv _ _ _ _ _ h5 rfl (hone _ (List.mem_of_getElem? hc'))
    | i + 5 => simp [dsA, dTmc] at hd
set_option maxRecDepth 100000 in
theorem zw8 (t : Tm) (h : za8 t = true) : zdb Tryz.prog 47 [.mapr 1] [(1, some (.map (zev (zcq t [] []))))] (.ret (.own 2 (zcn t).length) [(1, some (.map (zev (zcq t [] [])))), (2, some (.row 9 1 (zbb (zcn t))))]) := by
  obtain ⟨h1, h2, h3, h4⟩ := zcs t h
  simp only [za8, Bool.and_eq_true] at h
  have := yc7 (zcq t [] []) (fun s hs => by
    rcases zh5 t [] [] h.2 s hs with h | h
    · cases h
    · unfold maxLen; omega) (by have := zjl t [] []; simp at this; omega)
  rw [zf8, zvt t h1] at this
  have e : (zbb (zcn t)).length = (zcn t).length := by simp [zbb]
  rw [e] at this
  exact this
def ycu (t : Tm) : Tm := (zlh t [] (zcn t)).1
set_option maxRecDepth 100000 in
theorem zv5 (t : Tm) (h : za8 t = true) : zau Tryz.prog 49 [.agg (dTmc t)] (.agg (dTmc (ycu t))) := by
  obtain ⟨h1, h2, h3, h4⟩ := zcs t h
  obtain ⟨op, n, x, ks, ps⟩ := t
  refine zaf ttX_ok Tryz.func49 (by decide +kernel) rfl [1, 2, 3, 4, 5, 6, 7, 8, 9, 10] rfl rfl ?_
  refine xg [] rfl (by simp) ?_
  refine zji rfl ?_
  refine xg [] rfl (by simp) ?_
  refine zar (fr := []) [(3, 1)] [] rfl (by simp) (zrg (.mk op n x ks ps) [] [] h2) ⟨⟨rfl, rfl, rfl⟩, trivial⟩ rfl rfl rfl rfl ?_
  refine xg [] rfl (by simp <;> rfl) ?_
  refine zar (fr := [4]) [(3, 1)] [(2, 4)] rfl (by simp) (zw8 (.mk op n x ks ps) h) ⟨⟨rfl, rfl, rfl⟩, trivial⟩ rfl rfl rfl rfl ?_
  refine xg [] rfl (by simp) ?_
  refine zar (fr := [6]) [] [(1, 6)] rfl (by simp) (zhm (.mk op n x ks ps) (zfz h)) trivial rfl rfl rfl rfl ?_
  refine xg [] rfl (by simp) ?_
  obtain ⟨x2, ks2, ps2, hsh⟩ := znx op n x ks ps [] (zcn (.mk op n x ks ps))
  have hN := yds (.mk op n x ks ps) [] (zcn (.mk op n x ks ps)) (zfz h) h2 (zr6 h)
  rw [hsh] at hN
  refine zar (fr := [7, 8]) [(6, 1), (5, 7), (4, 8)] [(5, 7), (13, 8)] rfl (by simp) hN ⟨⟨rfl, rfl, rfl⟩, ⟨rfl, rfl, rfl⟩, ⟨rfl, rfl, rfl⟩, trivial⟩ rfl rfl rfl rfl ?_
  refine xg [] rfl (by simp; rfl) ?_
  refine zgx (ids' := [10]) 7 9 (fun y : { y : Value × List An × Value × List An // (vAs y.2.1 = zc2 ks2 ∧ vAs y.2.2.2 = zcf ps2) ∧ zc1 y.2.1 ∧ zc1 y.2.2.2 } => [y.1.1, y.1.2.2.1]) (fun y => zzg (.mk true op n x2 y.1.1 y.1.2.1 y.1.2.2.1 y.1.2.2.2)) rfl (fun vs I w bs h => zjp h) fun y => ?_
  obtain ⟨⟨v, js, u, qs⟩, ⟨h5, h6⟩, hf1, hf2⟩ := y
  refine zfg 9 2 (dTmc (.mk op n x2 ks2 ps2)) rfl rfl (fun vs I J w bs h1 h2 h3 cs hc => zuz h5 h6 h1 h2 h3 cs hc) rfl ?_
  rw [show ycu (.mk op n x ks ps) = .mk op n x2 ks2 ps2 from hsh]
  exact zab ⟨_, rfl, tV rfl, trivial⟩
end Go.Hk

namespace Go.Hk
structure PMr where
  id : Nat
  kv : List (V × V)
  b : Nat
  es : Array MapEntry
  clock : Nat
  id' : Nat
  ids' : List Nat
  dst : Option Nat
  todo : List DI
def yg2 (tt : TT) (n : Nat) (env : Env) (st : St) (ids : List Nat) (todo : List DI) : Option PMr :=
  match yfi todo, ids with
  | some o, id' :: ids' => match o.guard, o.op with
    | none, .range t x => match lk tt t, evO env x with
      | some { sh := .map _ _, .. }, some (.mapr i) => match lk st i, zc8 n o.dst, zck todo ([i], [id']) with
        | some (some (.mapx kv b es clock)), true, some (_, _, todo') => some ⟨i, kv, b, es, clock, id', ids', o.dst, todo'⟩
        | _, _, _ => none
      | _, _ => none
    | _, _ => none
  | _, _ => none
structure PMn where
  i : Nat
  kv : List (V × V)
  b : Nat
  b2 : Nat
  es : Array MapEntry
  clock : Nat
  since : Nat
  seen : Array Nat
  c : Nat
  dst : Option Nat
  k : List DI
  all : List Oper
  rest : List Oper
def yl8 (n : Nat) (env : Env) (st : St) (m : Nat) (todo : List DI) : Option PMn :=
  match todo with
  | .ops all (o :: rest) :: k => match o.guard, o.op with
    | none, .next x false => match evO env x, zc8 n o.dst, lk st m with
      | some (.iter i), true, some (some (.mapx kv b es clock)) => match lk st i with
        | some (some (.miter b' since seen c)) => some ⟨i, kv, b, b', es, clock, since, seen, c, o.dst, k, all, rest⟩
        | _ => none
      | _, _, _ => none
    | _, _ => none
  | _ => none
structure PMe where
  i : Nat
  kv : List (V × V)
  b : Nat
  b2 : Nat
  es : Array MapEntry
  clock : Nat
  seen : Array Nat
  c : Nat
  dst : Option Nat
  todo : List DI
def yg3 (n : Nat) (env : Env) (st : St) (m : Nat) (todo : List DI) : Option PMe :=
  match yfi todo with
  | some o => match o.guard, o.op with
    | none, .entry x => match evO env x, zc8 n o.dst, lk st m with
      | some (.iter i), true, some (some (.mapx kv b es clock)) => match lk st i, zck todo ([i, m], []) with
        | some (some (.miter b' _ seen c)), some (_, _, todo') => some ⟨i, kv, b, b', es, clock, seen, c, o.dst, todo'⟩
        | _, _ => none
      | _, _, _ => none
    | _, _ => none
  | none => none
section
variable {P : Program} {n : Nat} {F : List Nat} {Q : DQ} {tt : TT} {env env' : Env} {st st' : St} {ids ids' : List Nat} {k todo todo' : List DI} {I : Imm} {μ : Mu} {w : World} {a : Act} {Pn : V → Prop} {d : D} {cx : Prop} {ob : List Prop}
theorem ynx {α : Type} {all rest : List Oper} {o : Oper} (d : α → D) (wr : α → St) (hg : o.guard = none) (hnd : ∀ c, o.op ≠ .defer c) (hn : zc8 n o.dst = true)
    (hl : ∀ I μ a w, StRep I μ st ids w → zfh I μ env a o.op → valX P ((execOp a.eval o).run P w) (fun v w' => ∃ x, ∃ I' μ', StRep I' μ' (wr x ++ st) ids w' ∧ RepD I' μ' v (d x) ∧ μ.le μ' ∧ Ext I μ st w I' μ' (wr x ++ st) w') (yfg (yje Q) I μ st w))
    (h : ∀ x, DGo P n F Q (.ops all rest :: k) (zeb o.dst (d x) env) (wr x ++ st) ids) : DGo P n F Q (.ops all (o :: rest) :: k) env st ids := by
  have hn : ∀ t, o.dst = some t → t < n := fun t ht => by
    unfold zc8 at hn
    rw [ht] at hn
    simpa [Nat.blt_eq] using hn
  intro b cs I μ a w items hd hc
  obtain ⟨j, is, rfl, hr, hk⟩ := zjo hd
  obtain ⟨hj, hr'⟩ := zec hr
  have hon : zsl (o.looksAt all.toArray) I μ env a := fun t _ d hl => hc.env t d hl
  have hlen : (o :: rest).length = rest.length + 1 := rfl
  rw [hlen, List.range'_succ]
  have hw : Region.wanted o (yielded all.toArray a.tmps) = true := zaw hg
  refine zfq hj hw hnd (valX.upon ((hl I μ a w hc.toStRep (zbm hon)).mono ?_ ?_))
  · rintro v w2 ⟨x, I', μ', q1, q2, q4, q3⟩
    obtain ⟨p1, p2, p3⟩ := zi5 (n := n) (w := w2) (dst := o.dst) (fun t d hl => (hc.env t d hl).mono q3.imm q4) hc.size hn q2
    have := h x b cs I' μ' (a.put o.dst v) w2 (.inRegion all.toArray (List.range' (j + 1) rest.length) :: is) ⟨⟨rfl, j + 1, hr', rfl⟩, hk⟩
      { q1 with size := p2, env := by cases hdst : o.dst <;> simpa [zeb, hdst] using p1, defers := by rw [p3]; exact hc.defers.ext q3 }
    rw [p3] at this
    exact this.mono fun e a' w'' hp => hp.back (.of_le q4) q3
  · rintro chain w2 ⟨v, x, I2, q1, q2, q3, q4, q5⟩
    refine ⟨.panic x, [], [], [], I2, μ, ⟨v, q1, q3⟩, q2, ?_, .refl _ _, q5, .refl _ _⟩
    exact zmq q4 hc.size (hc.defers.ext q5)
theorem StRep.retellAt {st1 : St} (hst : StRep I μ st ids w) (h : ∀ i b, zaq st1 i b → ∃ b0, zaq st i b0 ∧ ∀ g, μ i = some g → BlkRep I μ w g b0 → BlkRep I μ w g b) : StRep I μ st1 ids w ∧ Ext I μ st w I μ st1 w := by
  refine ⟨{ imm := hst.imm, blk := fun i b hl => ?_, apart := fun i b g k hl hg hk => ?_, inj := fun i j bi bj gi gj k hi hj => ?_, nodup := hst.nodup, idsFree := hst.idsFree }, ?_⟩
  · obtain ⟨b0, h1, h2⟩ := h i b hl
    obtain ⟨g, hg, hr⟩ := hst.blk i b0 h1
    exact ⟨g, hg, h2 g hg hr⟩
  · obtain ⟨b0, h1, _⟩ := h i b hl
    exact hst.apart i b0 g k h1 hg hk
  · obtain ⟨b0, h1, _⟩ := h i bi hi
    obtain ⟨b1, h2, _⟩ := h j bj hj
    exact hst.inj i j b0 b1 gi gj k h1 h2
  · exact { imm := Imm.le_refl I, os := rfl, tape := rfl, output := rfl, size := Nat.le_refl _, block := fun _ _ _ => rfl, old := fun _ _ _ => rfl
            fresh := fun b _ ⟨i, bi, g, h1, h2⟩ => let ⟨b0, q, _⟩ := h i bi h1; ⟨i, b0, g, q, h2⟩ }
theorem yin (id : Nat) {kv : List (V × V)} (hl : lk st id = some (some (.map kv)))
    (h : ∀ b es clock, es.size = kv.length → MapKept.Stamped es clock → DGo P n F Q todo env ((id, some (.mapx kv b es clock)) :: st) ids) : DGo P n F Q todo env st ids := by
  refine zed fun I μ a w hc => ?_
  obtain ⟨g, hg, b, es, clock, rfl, h2, h3, h4, h5⟩ := hc.blk id _ hl
  obtain ⟨q1, q2⟩ := hc.toStRep.retellAt (st1 := (id, some (.mapx kv b es clock)) :: st) fun i c hlc => by
    rcases zah.1 hlc with ⟨rfl, rfl⟩ | ⟨_, h⟩
    · exact ⟨_, hl, fun g' hg' _ => by rw [hg] at hg'; cases hg'; exact ⟨rfl, h2, h3, h4, h5⟩⟩
    · exact ⟨c, h, fun _ _ h => h⟩
  exact ⟨I, μ, env, _, ids, q1, hc.env, q2, .refl _ _, h b es clock h3 h4⟩
theorem yex (id : Nat) {kv : List (V × V)} {b clock : Nat} {es : Array MapEntry} (hl : lk st id = some (some (.mapx kv b es clock)))
    (h : DGo P n F Q todo env ((id, some (.map kv)) :: st) ids) : DGo P n F Q todo env st ids := by
  refine zed fun I μ a w hc => ?_
  obtain ⟨q1, q2⟩ := hc.toStRep.retellAt (st1 := (id, some (.map kv)) :: st) fun i c hlc => by
    rcases zah.1 hlc with ⟨rfl, rfl⟩ | ⟨_, h⟩
    · exact ⟨_, hl, fun g' hg' ⟨h1, h2, h3, h4, h5⟩ => ⟨b, es, clock, h1, h2, h3, h4, h5⟩⟩
    · exact ⟨c, h, fun _ _ h => h⟩
  exact ⟨I, μ, env, _, ids, q1, hc.env, q2, .refl _ _, h⟩
theorem yky (htt : TTok P tt) {i0 : Nat} {kv : List (V × V)} {b : Nat} {es : Array MapEntry} {clock id0 : Nat} {ids0 : List Nat} {d0 : Option Nat} {todo0 : List DI} (h : yg2 tt n env st ids todo = some ⟨i0, kv, b, es, clock, id0, ids0, d0, todo0⟩)
    (hk : G P n F Q todo0 (zeb d0 (.iter id0) env) ((id0, some (.miter b clock #[] clock)) :: st) ids0) : G P n F Q todo env st ids := by
  unfold yg2 at h
  split at h
  · rename_i o id' ids' ho
    split at h
    · rename_i t x hg hop
      split at h
      · rename_i _ _ _ _ _ _ i ht hx
        split at h
        · rename_i _ _ _ _ all o' todo' hl hd h1
          cases h
          have ho' : o' = o := zdv ho h1
          subst ho'
          refine zc0 (fr := [id0]) (wr := [(id0, some (.miter b clock #[] clock))]) (rd := [i0]) h1 ?_ hd (fun c hc => by rw [hop] at hc; cases hc) hk
          intro I μ st1 ids1 a w hag hst hon
          refine ⟨fun _ => ?_, fun hw => by rw [zaw hg] at hw; cases hw⟩
          have hops := zbm hon
          rw [hop] at hops
          have hl1 : zaq st1 i0 (.mapx kv b es clock) := by unfold zaq; rw [hag i0 (by simp)]; exact hl
          obtain ⟨g, hgm, rfl, hheap, _⟩ := hst.blk i0 _ hl1
          have hv := hops x (by simp [Op.operands]) _ hx
          have e1 : a.eval x = .map (some b) := by
            generalize a.eval x = v at hv
            cases hv with
            | mapr _ b' hm => rw [hgm] at hm; cases hm; rfl
          have hu := htt.sh ht
          have hrun : (execOp a.eval o').run P w = .ok (.value (.pointer (some ⟨w.heap.size, 0, none⟩))) (w.alloc (.mapIter (some b) clock #[] clock)) := by
            simp only [execOp, hop, e1]
            exact zez (run_range_map w _ _ _ b es clock hu hheap)
          rw [hrun]
          obtain ⟨μ', q1, q2, q3, q4⟩ := hst.allocO (.mapIter (some b) clock #[] clock) (.pointer (some ⟨w.heap.size, 0, none⟩)) (fun _ h => Eq.symm h) (.miter b clock #[] clock) (fun μ' _ => ⟨w.heap.size, rfl, zg1 w _⟩)
          exact ⟨I, μ', q3, .iter _ _ q1, q2, q4⟩
        · cases h
      · cases h
    · cases h
  · cases h
theorem StRep.drew (hst : StRep I μ st ids w) : StRep I μ st ids w.drew :=
  { imm := hst.imm, blk := fun i b h => let ⟨g, h1, h2⟩ := hst.blk i b h; ⟨g, h1, h2.world fun _ _ => rfl⟩, apart := hst.apart, inj := hst.inj, nodup := hst.nodup, idsFree := hst.idsFree }
def ymk (es : Array MapEntry) (seen : Array Nat) : Option (Nat × MapEntry) → Prop
  | none => (leftOf es seen).size = 0
  | some (j, e) => es[j]? = some e ∧ e ∈ (leftOf es seen).toList
def yhe (kv : List (V × V)) : Option (Nat × MapEntry) → D
  | none => .imm (.tup [.bool false])
  | some (j, _) => match kv[j]? with
    | some p => .imm (.tup [.bool true, p.1, p.2])
    | none => .undef
def nextW (i b since : Nat) (seen : Array Nat) (clock : Nat) : Option (Nat × MapEntry) → St
  | none => []
  | some (_, e) => [(i, some (.miter b since (seen.push e.born) clock))]
theorem ynl (m : Nat) {i : Nat} {kv : List (V × V)} {b : Nat} {es : Array MapEntry} {clock since : Nat} {seen : Array Nat} {c : Nat} {d0 : Option Nat} {k0 : List DI} {all rest : List Oper} {b0 : Nat} (h : yl8 n env st m todo = some ⟨i, kv, b, b0, es, clock, since, seen, c, d0, k0, all, rest⟩) (hbb : b0 = b)
    (hold : ∀ x ∈ es.toList, x.born < since) (hsc : since ≤ c) (hne : i ≠ m)
    (hk : ∀ x, ymk es seen x → DGo P n F Q (.ops all rest :: k0) (zeb d0 (yhe kv x) env) (nextW i b since seen clock x ++ st) ids) : DGo P n F Q todo env st ids := by
  unfold yl8 at h
  split at h
  · rename_i all' o rest' k'
    split at h
    · rename_i x hg hop
      split at h
      · rename_i i' kv' b1 es' clock' hx hd hm
        split at h
        · rename_i b2 since' seen' c' hi
          · cases h
            subst hbb
            refine ynx (α := { x : Option (Nat × MapEntry) // ymk es seen x }) (fun x => yhe kv x.1) (fun x => nextW i b0 since seen clock x.1) hg (fun c hc => by rw [hop] at hc; cases hc) hd (fun I μ a w hst hops => ?_) fun x => hk x.1 x.2
            rw [hop] at hops
            obtain ⟨gm, hgm, rfl, hheap, hlen, hst2, hent⟩ := hst.blk m _ hm
            obtain ⟨gi, hgi, r, rfl, hheapi⟩ := hst.blk i _ hi
            obtain ⟨r', _, hmi⟩ := (hops x (by simp [Op.operands]) _ hx).iterInv
            rw [hgi] at hmi
            have e1 : a.eval x = .pointer (some ⟨r, 0, none⟩) := (Option.some.inj hmi).symm
            have hex : ∀ v w', (Instr.next (.pointer (some ⟨r, 0, none⟩)) false o.type).run P w = .ok v w' → (execOp a.eval o).run P w = .ok (.value v) w' := fun v w' hr => by
              simp only [execOp, hop, e1]
              exact zez hr
            rcases run_next_at w o.type r b0 since c seen es clock hheapi hheap hold hsc with ⟨h0, hr⟩ | ⟨e, he, w1, hw1, hr⟩
            · rw [hex _ _ hr]
              refine ⟨⟨none, h0⟩, I, μ, hst, .imm _ _ (.tup _ _ rfl fun i c x hc hx => ?_), Mu.le_refl μ, Ext.refl _ _ _ _⟩
              match i, hc, hx with
              | 0, hc, hx => cases hc; cases hx; exact .bool _
              | i + 1, hc, hx => simp at hx
            · rw [hex _ _ hr]
              obtain ⟨he1, _⟩ := mem_left he
              obtain ⟨j, hj⟩ := List.getElem?_of_mem he1
              have hj' : es[j]? = some e := by simpa using hj
              obtain ⟨p, hp⟩ : ∃ p, kv[j]? = some p := ⟨_, List.getElem?_eq_getElem (by rw [← hlen]; exact (Array.getElem?_eq_some_iff.1 hj').1)⟩
              obtain ⟨k1, k2⟩ := hent j e p hj' hp
              have hst1 : StRep I μ st ids w1 ∧ Ext I μ st w I μ st w1 := by
                rcases hw1 with rfl | rfl
                · exact ⟨hst, Ext.refl _ _ _ _⟩
                · exact ⟨hst.drew, Ext.drew I μ st w⟩
              have hheap1 : w1.heap[r]? = some (.mapIter (some b0) since seen c) := by rcases hw1 with rfl | rfl <;> exact hheapi
              have hbl := zcy hheap1
              obtain ⟨q1, q2⟩ := hst1.1.update (blk' := .miter b0 since (seen.push e.born) clock) (w' := ChangeMaps.setBlock w1 r (.mapIter (some b0) since (seen.push e.born) clock)) hi hgi rfl (by simp [ChangeMaps.setBlock]) rfl rfl rfl
                (fun k hk => Array.getElem?_setIfInBounds_ne (Ne.symm hk)) ⟨r, rfl, by simp [ChangeMaps.setBlock, hbl]⟩
              refine ⟨⟨some (j, e), hj', he⟩, I, μ, q1, ?_, Mu.le_refl μ, hst1.2.trans q2⟩
              simp only [yhe, hp]
              refine .imm _ _ (.tup _ _ rfl fun i c x hc hx => ?_)
              match i, hc, hx with
              | 0, hc, hx => cases hc; cases hx; exact .bool _
              | 1, hc, hx => cases hc; cases hx; exact k1
              | 2, hc, hx => cases hc; cases hx; exact k2
              | i + 3, hc, hx => simp at hx
        · cases h
      · cases h
    · cases h
  · cases h
theorem ykz (m : Nat) {i : Nat} {kv : List (V × V)} {es : Array MapEntry} {seen0 : Array Nat} {d0 : Option Nat} {todo0 : List DI} {seen : Array Nat} {j : Nat} {e : MapEntry} {p : V × V} {b b0 clock c : Nat} (h : yg3 n env st m todo = some ⟨i, kv, b, b0, es, clock, seen0, c, d0, todo0⟩) (hbb : b0 = b) (hcc : c = clock)
    (hs : seen0 = seen.push e.born) (hj : es[j]? = some e) (hp : kv[j]? = some p) (hk : G P n F Q todo0 (zeb d0 (.imm (.tup [p.1, p.2])) env) st ids) : G P n F Q todo env st ids := by
  unfold yg3 at h
  split at h
  · rename_i o ho
    split at h
    · rename_i x hg hop
      split at h
      · rename_i i' kv' b1 es' clock' hx hd hm
        split at h
        · rename_i b2 since' seen' c' all o' todo' hi h1
          · cases h
            subst hbb
            subst hcc
            subst hs
            have ho' : o' = o := zdv ho h1
            subst ho'
            refine zc0 (fr := []) (wr := []) (rd := [i, m]) h1 ?_ hd (fun c hc => by rw [hop] at hc; cases hc) hk
            intro I μ st1 ids1 a w hag hst hon
            refine ⟨fun _ => ?_, fun hw => by rw [zaw hg] at hw; cases hw⟩
            have hops := zbm hon
            rw [hop] at hops
            have hm1 : zaq st1 m (.mapx kv b0 es c) := by unfold zaq; rw [hag m (by simp)]; exact hm
            have hi1 : zaq st1 i (.miter b0 since' (seen.push e.born) c) := by unfold zaq; rw [hag i (by simp)]; exact hi
            obtain ⟨gm, hgm, rfl, hheap, hlen, hst2, hent⟩ := hst.blk m _ hm1
            obtain ⟨gi, hgi, r, rfl, hheapi⟩ := hst.blk i _ hi1
            obtain ⟨r', _, hmi⟩ := (hops x (by simp [Op.operands]) _ hx).iterInv
            rw [hgi] at hmi
            have e1 : a.eval x = .pointer (some ⟨r, 0, none⟩) := (Option.some.inj hmi).symm
            have he : e ∈ es.toList := List.mem_of_getElem? (by simpa using hj : es.toList[j]? = some e)
            have hrun : (execOp a.eval o').run P w = .ok (.value (.tuple #[e.key, e.val])) w := by
              simp only [execOp, hop, e1]
              exact zez (run_entry_at w r b0 since' seen es c e hheapi hheap he hst2.2.1)
            rw [hrun]
            obtain ⟨k1, k2⟩ := hent j e p hj hp
            refine ⟨I, μ, hst, .imm _ _ (.tup _ _ rfl fun i c x hc hx => ?_), Mu.le_refl μ, Ext.refl _ _ _ _⟩
            match i, hc, hx with
            | 0, hc, hx => cases hc; cases hx; exact k1
            | 1, hc, hx => cases hc; cases hx; exact k2
            | i + 2, hc, hx => simp at hx
        · cases h
      · cases h
    · cases h
  · cases h
end
end Go.Hk
