/- Contract of canon: a formed term with its bound names chosen anew. (And what it stands on.) -/
import Derived.Test.YtlbeglekommoeaaGreatWc
import Derived.Test.YtlbeglekommoeaaGreatWd
import Derived.Laws.MakeOwn
import Derived.Shelf.SortM.Plain
import Derived.Shelf.SortM.SortNone
import Derived.Ground.SlgmProg
import Derived.Test.YtlbeglekommoeaaGreatProg
import Derived.Sort.MapsRangeIn
import Derived.Sort.KeysCollected
import Derived.Sort.OwnSorted
import Derived.Maps.AppendAt
import Derived.WalkKit
import Derived.OwnWalkIn
import Derived.TacticsInMore
import Derived.RegionIn
import Derived.LoopNIn
import Derived.LoopIn
set_option linter.unusedSimpArgs false
set_option linter.unusedVariables false

namespace Go.Hk
open Go.Proofs
mutual
def zdk : Tm → List Str → List Str
  | .mk op n x ks ps, m => zex (.mk op n x ks ps) 0 ks (if op = 4 then zl0 m x else m)
def zex (t : Tm) : Nat → List Tm → List Str → List Str
  | _, [], m => m
  | i, k :: r, m => zex t (i + 1) r (zdk k ((zad t i).foldl zl0 m))
end
theorem yg2 {op n : Int} {x : Str} {ks : List Tm} {ps : List Ty} {kid : Int} (hp : zbg op kid = false → zbr op kid = true → ∃ p, ps[(kid - 1).toNat]? = some p ∧ (za3 p).length ≤ 1000000) : (zad (.mk op n x ks ps) kid).length ≤ 1000000 := by
  simp only [zad]
  split
  · simp
  · rename_i h1
    split
    · rename_i h2
      obtain ⟨p, h3, h4⟩ := hp (by simpa using h1) h2
      rw [h3]; exact h4
    · simp
def ypq (t : Tm) (m : List Str) : Prop := zc8 Tryz.prog 66 [.imm (.agg (dTmc t)), .mapr 1] [(1, some (.map (ze7 m)))] (.ret (.tup []) [(1, some (.map (ze7 (zdk t m))))])
set_option maxRecDepth 100000 in
theorem zya : ∀ (t : Tm) (m : List Str), zfx t → ypq t m
  | .mk op n x ks ps, m, hok => by
    obtain ⟨hk1, hk2, hk3⟩ := hok
    refine zaf za6 Tryz.func66 (by decide +kernel) rfl [2, 3, 4, 5, 6] rfl rfl ?_
    have tail : ∀ m1, zdk (.mk op n x ks ps) m = zex (.mk op n x ks ps) 0 ks m1 →
        DGo Tryz.prog Tryz.f66.ntmps (nms [(1, some (.map (ze7 m)))]) (yar ttF Tryz.f66.results.toList (.ret (.tup []) [(1, some (.map (ze7 (zdk (.mk op n x ks ps) m))))])) [.code (zg0 Tryz.f66 2)]
          [(2, .ref 2 0), (1, .mapr 1)] [(2, some (.immb 26 5 (dTmc (.mk op n x ks ps)))), (1, some (.map (ze7 m1)))] [3, 4, 5, 6] := fun m1 hm1 => by
      refine fd_ [] rfl (by simp) ?_
      refine zik 2 rfl rfl ?_
      refine zah (fun y : Nat × List Str => [(17, .imm (.int .i64 y.1)), (16, .imm (.int .i64 ks.length)), (15, .imm (.sl (zcy ks))), (1, .mapr 1), (2, .ip 26 (dTmc (.mk op n x ks ps)) 0)])
        (fun y => [(1, some (.map (ze7 y.2)))]) [3, 4, 5, 6] (fun y => ks.length - y.1) (fun y => y.1 ≤ ks.length ∧ zdk (.mk op n x ks ps) m = zex (.mk op n x ks ps) y.1 (ks.drop y.1) y.2) (0, m1)
        ⟨Nat.zero_le _, hm1⟩ ⟨rfl, zcn (by simp), rfl, rfl, rfl, trivial⟩ ⟨rfl, trivial⟩ rfl fun y hi ih => ?_
      obtain ⟨i, m2⟩ := y
      obtain ⟨hi1, hi2⟩ := hi
      simp only at hi1 hi2
      refine fd_ [] rfl (by simp) ?_
      refine zaa rfl (fun h => ?_) (fun h => ?_)
      · simp at h
        obtain ⟨k, hk⟩ := zal h
        rw [zap hk] at hi2
        have hbl : (zad (.mk op n x ks ps) i).length ≤ 1000000 := yg2 (hk2 i h)
        refine fd_ [] rfl (by simp) ?_
        refine fi_ rfl (c := dTmc k) (fun _ => ⟨by simp, by simpa using zbu hk, by simp⟩) (by simp) ?_
        refine fg_ [] rfl (by simp) ?_
        refine zac rfl (fun _ => yj0 op n x ks ps i (by omega) (hk2 i h)) (by simp) ?_
        refine fg_ [] rfl (by simp) ?_
        refine zah (fun z : Nat × List Str => [(25, .imm (.int .i64 z.1)), (24, .imm (.int .i64 (zad (.mk op n x ks ps) i).length)), (23, .imm (.sl (za5 (zad (.mk op n x ks ps) i)))), (5, .ref 3 0), (17, .imm (.int .i64 i)), (16, .imm (.int .i64 ks.length)), (15, .imm (.sl (zcy ks))), (1, .mapr 1), (2, .ip 26 (dTmc (.mk op n x ks ps)) 0)])
          (fun z => [(3, some (.immb 26 5 (dTmc k))), (1, some (.map (ze7 z.2)))]) [4, 5, 6] (fun z => (zad (.mk op n x ks ps) i).length - z.1)
          (fun z => z.1 ≤ (zad (.mk op n x ks ps) i).length ∧ (zad (.mk op n x ks ps) i).foldl zl0 m2 = ((zad (.mk op n x ks ps) i).drop z.1).foldl zl0 z.2) (0, m2)
          ⟨Nat.zero_le _, rfl⟩ ⟨rfl, zcn (by simp), rfl, rfl, rfl, rfl, rfl, rfl, rfl, trivial⟩ ⟨rfl, rfl, trivial⟩ rfl fun z hz ihz => ?_
        obtain ⟨j, m3⟩ := z
        obtain ⟨hj1, hj2⟩ := hz
        simp only at hj1 hj2
        refine fd_ [] rfl (by simp) ?_
        refine zaa rfl (fun h4 => ?_) (fun h4 => ?_)
        · simp at h4
          obtain ⟨s, hs⟩ := zal h4
          rw [zap hs] at hj2
          refine fd_ [] rfl (by simp) ?_
          refine fi_ rfl (c := [.str s]) (fun _ => ⟨by simp, by simpa using zcx hs, rfl⟩) (by simp) ?_
          refine fg_ [] rfl (by simp) ?_
          refine zo9 za6 rfl rfl rfl (zdc m3) ?_
          refine fg_ [] rfl (by simp) ?_
          rw [zl9]
          exact zae (ihz (j + 1, zl0 m3 s) (by simp only; omega) ⟨by simp only; omega, hj2⟩) ⟨zcn (w64 (by simp only; omega) (by simp only; omega)), rfl, rfl, rfl, rfl, rfl, rfl, rfl, rfl, trivial⟩ ⟨rfl, rfl, trivial⟩ rfl
        · simp at h4
          rw [List.drop_eq_nil_of_le (by omega)] at hj2
          have hj2 : (zad (.mk op n x ks ps) i).foldl zl0 m2 = m3 := hj2
          refine zar rfl ?_
          refine fd_ [] rfl (by simp) ?_
          refine zas (fr := []) [(1, 1)] [] rfl (by simp) (zya k m3 (zgn hk3 (List.mem_of_getElem? hk))) ⟨⟨rfl, rfl, rfl⟩, trivial⟩ rfl rfl rfl rfl ?_
          refine fg_ [] rfl (by simp) ?_
          exact zae (ih (i + 1, zdk k m3) (by simp only; omega) ⟨by simp only; omega, by simp only; rw [hi2]; simp only [zex]; rw [hj2]⟩) ⟨zcn (w64 (by omega) (by omega)), rfl, rfl, rfl, rfl, trivial⟩ ⟨rfl, trivial⟩ rfl
      · simp at h
        rw [List.drop_eq_nil_of_le (by omega)] at hi2
        refine zar rfl ?_
        refine fd_ [] rfl (by simp) ?_
        rw [hi2]
        exact zcf ⟨[], rfl, rfl, rfl, trivial⟩
    refine fg_ [] rfl (by simp) ?_
    refine zaa rfl (fun h => ?_) (fun h => ?_)
    · have e : op = 4 := by simpa using h
      refine fd_ [] rfl (by simp) ?_
      refine zo9 za6 rfl rfl rfl (zdc m) ?_
      rw [zl9]
      refine zvl ?_
      exact zae (tail (zl0 m x) (by simp [zdk, e])) ⟨rfl, rfl, trivial⟩ ⟨rfl, rfl, trivial⟩ rfl
    · have e : ¬ op = 4 := by simpa using h
      refine zdr ?_
      exact zae (tail m (by simp [zdk, e])) ⟨rfl, rfl, trivial⟩ ⟨rfl, rfl, trivial⟩ rfl
termination_by t => SizeOf.sizeOf t
decreasing_by
  all_goals
    have := List.sizeOf_lt_of_mem (List.mem_of_getElem? hk)
    simp_wf
    omega
def yia (o n : Int) (x : Str) (v u : Value) : D := .agg [.imm (.int .i64 o), .imm (.int .i64 n), .imm (.str x), .raw v, .raw u]
theorem ye5 {I J : Imm} {μ : Mu} {w : World} {vs : List Value} {bs : List Nat} {b : Nat} {o n : Int} {x : Str} {v : Value} {ks : List An} {u : Value} {ps : List An} {y : Value} (h : (ziz b (.mk true o n x v ks u ps)).P vs I w bs) (hle : I.le J) (hb : ∀ k ∈ bs, J k = w.heap[k]?)
    (hy : RepD J μ y (yia o n x v u)) : RepD J μ y (.imm (.agg (vA (.mk true o n x v ks u ps)))) := by
  obtain ⟨h1, h2, h3, h4, h5, h7⟩ := h
  have hr : RepVL J (cA (.mk true o n x v ks u ps)) (vA (.mk true o n x v ks u ps)) := zvw hle h7 fun k hk => hb k (by rw [h1]; simp [hk])
  cases hy with
  | agg cs ds hl hone hrep =>
    have hcs : cs.toList = cA (.mk true o n x v ks u ps) := by
      obtain ⟨cs⟩ := cs
      match cs, hl with
      | [c0, c1, c2, c3, c4], _ =>
        have e0 := (hrep 0 c0 _ rfl rfl).immInv.intInv
        have e1 := (hrep 1 c1 _ rfl rfl).immInv.intInv
        have e2 := zqy (hrep 2 c2 _ rfl rfl)
        have e3 := (hrep 3 c3 _ rfl rfl).rawInv
        have e4 := (hrep 4 c4 _ rfl rfl).rawInv
        rw [e0, e1, e2, e3, e4]; rfl
    refine .imm _ _ (.agg cs _ (by rw [← hr.1, ← hcs]; simp) hone fun i c z hc hz => hr.2 i c z ?_ hz)
    rw [← hcs]; simpa using hc
mutual
def zc2 : Ty → Nat → Str → Ty
  | .mk s n y ps, j, x => if s = 2 then (match j with | 0 => .mk s n x ps | j + 1 => .mk s n y (zdb ps j x)) else .mk s n y (zdb ps j x)
def zdb : List Ty → Nat → Str → List Ty
  | [], _, _ => []
  | t :: r, j, x => if j < (zb2 t).length then zc2 t j x :: r else t :: zdb r (j - (zb2 t).length) x
end
mutual
theorem zkc : ∀ (a : An) (t : Ty), okP a → vA a = zb0 t → (ppaths a).length = (zb2 t).length
  | .im _ _ _, _, h, _ => h.elim
  | .mk s o n x v ks u ps, .mk s' n' x' qs, hok, hv => by
    obtain ⟨rfl, _, _, hks⟩ := hok
    simp only [vA, zb0, List.cons.injEq, V.sl.injEq, V.int.injEq, true_and] at hv
    obtain ⟨rfl, _, _, he, _⟩ := hv
    have := zrj ks qs 0 hks he
    simp only [ppaths, zb2, List.length_append, this]
    by_cases h : o = 2 <;> simp [h]
theorem zrj : ∀ (l : List An) (ts : List Ty) (i : Nat), ydj l → vAs l = zb8 ts → (ppaths.ppathss i l).length = (zbd ts).length
  | [], [], _, _, _ => rfl
  | [], _ :: _, _, _, h => by simp [vAs, zb8] at h
  | _ :: _, [], _, _, h => by simp [vAs, zb8] at h
  | a :: r, t :: q, i, hok, h => by
    simp only [vAs, zb8, List.cons.injEq] at h
    simp only [ppaths.ppathss, zbd, List.length_append, List.length_map, zkc a t hok.1 h.1, zrj r q (i + 1) hok.2 h.2]
end
mutual
theorem yov : ∀ (a : An) (t : Ty), okP a → vA a = zb0 t → ∀ (j : Nat) (p : zng) (x : Str), (ppaths a)[j]? = some p → ∀ (b off : Nat) (a' : An) (b' off' : Nat), zeu a b off p = some (a', b', off') → vA (znr a p (yhw a' x)) = zb0 (zc2 t j x)
  | .im _ _ _, _, h, _, _, _, _, _, _, _, _, _, _, _ => h.elim
  | .mk s o n y v ks u ps, .mk s' n' y' qs, hok, hv, j, p, x, hp, b, off, a', b', off', hl => by
    obtain ⟨rfl, _, _, hks⟩ := hok
    have hv0 := hv
    simp only [vA, zb0, List.cons.injEq, V.sl.injEq, V.int.injEq, V.str.injEq, true_and] at hv
    obtain ⟨rfl, rfl, rfl, he, _⟩ := hv
    have deep : ∀ j, (ppaths.ppathss 0 ks)[j]? = some p → vA (znr (.mk false o n y v ks u ps) p (yhw a' x)) = zb0 (.mk o n y (zdb qs j x)) := fun j hj => by
      obtain ⟨k, c, r, rfl, hc, hset⟩ := yiz ks qs 0 hks he j p x hj
      simp only [zeu, zfr, Nat.zero_add, hc, Option.map_some] at hl
      have := hset _ _ _ _ _ hl
      simp only [znr, zfr, Nat.zero_add, hc, Option.map_some, zyl, vA, zb0, this]
    simp only [ppaths] at hp
    by_cases ho : o = 2
    · rw [if_pos ho] at hp
      cases j with
      | zero =>
        simp at hp; subst hp
        simp only [zeu, Option.some.injEq, Prod.mk.injEq] at hl
        obtain ⟨rfl, _, _⟩ := hl
        simp [zc2, ho, znr, yhw, vA, zb0, he]
      | succ j =>
        simp only [List.singleton_append, List.getElem?_cons_succ] at hp
        rw [deep j hp]
        simp [zc2, ho]
    · rw [if_neg ho] at hp
      rw [deep j hp]
      simp [zc2, ho]
theorem yiz : ∀ (l : List An) (ts : List Ty) (i : Nat), ydj l → vAs l = zb8 ts → ∀ (j : Nat) (p : zng) (x : Str), (ppaths.ppathss i l)[j]? = some p → ∃ k c r, p = (false, i + k) :: r ∧ l[k]? = some c ∧
    ∀ (b off : Nat) (c' : An) (b' off' : Nat), zeu c b off r = some (c', b', off') → vAs (l.set k (znr c r (yhw c' x))) = zb8 (zdb ts j x)
  | [], _, _, _, _, _, _, _, h => by simp [ppaths.ppathss] at h
  | _ :: _, [], _, _, h, _, _, _, _ => by simp [vAs, zb8] at h
  | a :: r, t :: q, i, hok, h, j, p, x, hp => by
    simp only [vAs, zb8, List.cons.injEq] at h
    have hlen := zkc a t hok.1 h.1
    simp only [ppaths.ppathss] at hp
    by_cases hj : j < (ppaths a).length
    · rw [List.getElem?_append_left (by simpa using hj), List.getElem?_map] at hp
      obtain ⟨p', hp', rfl⟩ := Option.map_eq_some_iff.1 hp
      refine ⟨0, a, p', rfl, rfl, fun b off c' b' off' hl => ?_⟩
      have := yov a t hok.1 h.1 j p' x hp' b off c' b' off' hl
      simp only [List.set_cons_zero, vAs, zdb, if_pos (hlen ▸ hj), zb8, this, h.2]
    · rw [List.getElem?_append_right (by simp; omega)] at hp
      simp only [List.length_map] at hp
      obtain ⟨k, c, r', rfl, hc, hset⟩ := yiz r q (i + 1) hok.2 h.2 _ p x hp
      refine ⟨k + 1, c, r', by rw [show i + (k + 1) = i + 1 + k by omega], by simpa using hc, fun b off c' b' off' hl => ?_⟩
      have := hset b off c' b' off' hl
      simp only [List.set_cons_succ, vAs, zdb, h.1, ← hlen, this, if_neg hj, zb8]
end
mutual
def er : An → An
  | .mk s o n _ v ks u ps => .mk s o n [] v (ers ks) u (ers ps)
  | .im s _ _ => .im s [] []
def ers : List An → List An
  | [] => []
  | a :: r => er a :: ers r
end
theorem ziw : ∀ l : List An, ers l = l.map er
  | [] => rfl
  | a :: r => by simp [ers, ziw r]
theorem zff (l : List An) : (ers l).length = l.length := by rw [ziw]; simp
theorem zlq {l : List An} {i : Nat} {a : An} (h : l[i]? = some a) : (ers l)[i]? = some (er a) := by rw [ziw, List.getElem?_map, h]; rfl
theorem yqo {l : List An} {i : Nat} {c : An} (h : (ers l)[i]? = some c) : ∃ a, l[i]? = some a ∧ er a = c := by
  rw [ziw, List.getElem?_map] at h
  exact Option.map_eq_some_iff.1 h
mutual
theorem okP_er : ∀ a : An, okP (er a) ↔ okP a
  | .im _ _ _ => Iff.rfl
  | .mk s o n x v ks u ps => by
    have h : ers ks = [] ↔ ks = [] := by cases ks <;> simp [ers]
    simp only [er, okP, zml ks, zff, h]
theorem zml : ∀ l : List An, ydj (ers l) ↔ ydj l
  | [] => Iff.rfl
  | a :: r => by simp only [ers, ydj, okP_er a, zml r]
end
mutual
theorem zkj : ∀ a : An, zju (er a) ↔ zju a
  | .im _ _ _ => Iff.rfl
  | .mk s o n x v ks u ps => by simp only [er, zju, zfe ks, zfe ps]
theorem zfe : ∀ l : List An, zc6 (ers l) ↔ zc6 l
  | [] => Iff.rfl
  | a :: r => by simp only [ers, zc6, zkj a, zfe r]
end
mutual
theorem zy1 : ∀ a : An, ppaths (er a) = ppaths a
  | .im _ _ _ => rfl
  | .mk s o n x v ks u ps => by simp only [er, ppaths, zrk ks 0]
theorem zrk : ∀ (l : List An) (i : Nat), ppaths.ppathss i (ers l) = ppaths.ppathss i l
  | [], _ => rfl
  | a :: r, i => by simp only [ers, ppaths.ppathss, zy1 a, zrk r (i + 1)]
end
mutual
theorem yhu {I : Imm} {w : World} : ∀ (a : An) (b off : Nat), skW I w (er a) b off ↔ skW I w a b off
  | .im _ _ _, _, _ => Iff.rfl
  | .mk s o n x v ks u ps, b, off => by simp only [er, skW, yc0 ks]
theorem yc0 {I : Imm} {w : World} : ∀ (l : List An) (b i : Nat), yps I w b i (ers l) ↔ yps I w b i l
  | [], _, _ => Iff.rfl
  | a :: r, b, i => by simp only [ers, yps, yhu a, yc0 r]
end
mutual
theorem yaj : ∀ a : An, anB (er a) = anB a
  | .im _ _ _ => rfl
  | .mk s o n x v ks u ps => by
    have h1 := zxh ks
    have h2 := zxh ps
    cases s <;> simp [er, anB, h1, h2, zff]
theorem zxh : ∀ l : List An, zd9 (ers l) = zd9 l
  | [] => rfl
  | a :: r => by simp only [ers, zd9, yaj a, zxh r]
end
theorem yqc (a : An) (p : Bool × Nat) : zfr (er a) p = (zfr a p).map fun r => (er r.1, r.2.1, r.2.2) := by
  rcases a with ⟨s, o, n, x, v, ks, u, ps⟩ | ⟨s0, cs0, c0⟩
  case im => rfl
  obtain ⟨r, k⟩ := p
  cases r with
  | false =>
    simp only [er, zfr, ziw, List.getElem?_map]
    cases ks[k]? <;> rfl
  | true =>
    cases s with
    | false => rfl
    | true =>
      simp only [er, zfr, ziw, List.getElem?_map]
      cases ps[k]? <;> rfl
theorem zjn : ∀ (p : zng) (a : An) (b off : Nat), zeu (er a) b off p = (zeu a b off p).map fun r => (er r.1, r.2.1, r.2.2)
  | [], a, b, off => rfl
  | q :: r, a, b, off => by
    simp only [zeu, yqc]
    cases zfr a q with
    | none => rfl
    | some y => exact zjn r y.1 y.2.1 y.2.2
theorem yk2 (a c d : An) (p : Bool × Nat) (b off : Nat) (h : zfr a p = some (c, b, off)) (hd : er d = er c) : er (zyl a p d) = er a := by
  have st : ∀ {l : List An} {k : Nat}, l[k]? = some c → ers (l.set k d) = ers l := by
    intro l k hk
    rw [ziw, ziw, List.map_set, hd]
    apply List.ext_getElem?
    intro i
    rw [List.getElem?_set]
    split
    · rename_i e; subst e
      rw [List.getElem?_map, hk]; simp
      exact (List.getElem?_eq_some_iff.1 hk).1
    · rfl
  rcases a with ⟨s, o, n, x, v, ks, u, ps⟩ | ⟨s0, cs0, c0⟩
  case im => simp [zfr] at h
  obtain ⟨r, k⟩ := p
  cases r with
  | false =>
    simp only [zfr, Option.map_eq_some_iff, Prod.mk.injEq] at h
    obtain ⟨c', hc, rfl, _, _⟩ := h
    simp only [zyl, er, st hc]
  | true =>
    cases s with
    | true =>
      simp only [zfr, Option.map_eq_some_iff, Prod.mk.injEq] at h
      obtain ⟨c', hc, rfl, _, _⟩ := h
      simp only [zyl, er, st hc]
    | false => simp [zfr] at h
theorem zst : ∀ (p : zng) (a : An) (b off : Nat) (a' : An) (b' off' : Nat) (a2 : An), zeu a b off p = some (a', b', off') → er a2 = er a' → er (znr a p a2) = er a
  | [], a, b, off, a', b', off', a2, h, hs => by
    simp only [zeu, Option.some.injEq, Prod.mk.injEq] at h
    obtain ⟨rfl, _, _⟩ := h
    exact hs
  | q :: r, a, b, off, a', b', off', a2, h, hs => by
    simp only [zeu] at h
    simp only [znr]
    split at h
    · rename_i c b1 off1 hk
      exact yk2 a c _ q b1 off1 hk (zst r c b1 off1 a' b' off' a2 h hs)
    · cases h
mutual
theorem yo5 : ∀ (a : An) (t : Ty), okP a → vA a = zb0 t → ∀ (j : Nat) (p : zng), (ppaths a)[j]? = some p → ∀ (b off : Nat) (a' : An) (b' off' : Nat), zeu a b off p = some (a', b', off') → ∃ s o n x v ks u ps, a' = .mk s o n x v ks u ps ∧ (za3 t)[j]? = some x
  | .im _ _ _, _, h, _, _, _, _, _, _, _, _, _, _ => h.elim
  | .mk s o n y v ks u ps, .mk s' n' y' qs, hok, hv, j, p, hp, b, off, a', b', off', hl => by
    obtain ⟨rfl, _, _, hks⟩ := hok
    simp only [vA, zb0, List.cons.injEq, V.sl.injEq, V.int.injEq, V.str.injEq, true_and] at hv
    obtain ⟨rfl, rfl, rfl, he, _⟩ := hv
    have deep : ∀ j, (ppaths.ppathss 0 ks)[j]? = some p → ∃ s o n x v ks u ps, a' = .mk s o n x v ks u ps ∧ ((zbd qs).map zew)[j]? = some x := fun j hj => by
      obtain ⟨k, c, r, rfl, hc, hset⟩ := yko ks qs 0 hks he j p hj
      simp only [zeu, zfr, Nat.zero_add, hc, Option.map_some] at hl
      exact hset _ _ _ _ _ hl
    simp only [ppaths] at hp
    simp only [za3, zb2]
    by_cases ho : o = 2
    · rw [if_pos ho] at hp
      have hb : (o == 2) = true := by simp [ho]
      simp only [ho, if_true, List.singleton_append, List.map_cons]
      cases j with
      | zero =>
        simp at hp; subst hp
        simp only [zeu, Option.some.injEq, Prod.mk.injEq] at hl
        obtain ⟨rfl, _, _⟩ := hl
        exact ⟨_, _, _, _, _, _, _, _, rfl, by simp [zew]⟩
      | succ j =>
        simp only [List.singleton_append, List.getElem?_cons_succ] at hp ⊢
        exact deep j hp
    · rw [if_neg ho] at hp
      simp only [ho, if_false, List.nil_append]
      exact deep j hp
theorem yko : ∀ (l : List An) (ts : List Ty) (i : Nat), ydj l → vAs l = zb8 ts → ∀ (j : Nat) (p : zng), (ppaths.ppathss i l)[j]? = some p → ∃ k c r, p = (false, i + k) :: r ∧ l[k]? = some c ∧
    ∀ (b off : Nat) (a' : An) (b' off' : Nat), zeu c b off r = some (a', b', off') → ∃ s o n x v ks u ps, a' = .mk s o n x v ks u ps ∧ ((zbd ts).map zew)[j]? = some x
  | [], _, _, _, _, _, _, h => by simp [ppaths.ppathss] at h
  | _ :: _, [], _, _, h, _, _, _ => by simp [vAs, zb8] at h
  | a :: r, t :: q, i, hok, h, j, p, hp => by
    simp only [vAs, zb8, List.cons.injEq] at h
    have hlen := zkc a t hok.1 h.1
    simp only [ppaths.ppathss] at hp
    by_cases hj : j < (ppaths a).length
    · rw [List.getElem?_append_left (by simpa using hj), List.getElem?_map] at hp
      obtain ⟨p', hp', rfl⟩ := Option.map_eq_some_iff.1 hp
      refine ⟨0, a, p', rfl, rfl, fun b off a' b' off' hl => ?_⟩
      obtain ⟨s, o, n, x, v, ks, u, ps, h1, h2⟩ := yo5 a t hok.1 h.1 j p' hp' b off a' b' off' hl
      refine ⟨s, o, n, x, v, ks, u, ps, h1, ?_⟩
      simp only [zbd, List.map_append]
      rw [List.getElem?_append_left (by simp; omega)]
      exact h2
    · rw [List.getElem?_append_right (by simp; omega)] at hp
      simp only [List.length_map] at hp
      obtain ⟨k, c, r', rfl, hc, hset⟩ := yko r q (i + 1) hok.2 h.2 _ p hp
      refine ⟨k + 1, c, r', by rw [show i + (k + 1) = i + 1 + k by omega], by simpa using hc, fun b off a' b' off' hl => ?_⟩
      obtain ⟨s, o, n, x, v, ks, u, ps, h1, h2⟩ := hset b off a' b' off' hl
      refine ⟨s, o, n, x, v, ks, u, ps, h1, ?_⟩
      simp only [zbd, List.map_append]
      rw [List.getElem?_append_right (by simp; omega)]
      simpa [← hlen] using h2
end
def bp : An → Int → List zng
  | .mk _ o _ _ _ _ _ qs, i => bif zbg o i then [[]] else bif zbr o i then (match qs[(i - 1).toNat]? with
    | some q => (ppaths q).map ((true, (i - 1).toNat) :: ·)
    | none => []) else []
  | .im _ _ _, _ => []
theorem yae (a : An) (i : Int) : bp (er a) i = bp a i := by
  rcases a with ⟨s, o, n, x, v, ks, u, ps⟩ | ⟨s0, cs0, c0⟩
  · simp only [er, bp, ziw, List.getElem?_map]
    cases ps[(i - 1).toNat]? with
    | none => rfl
    | some q => simp [zy1]
  · rfl
def plD (b : Nat) (a : An) (p : zng) : D := match zeu a b 0 p with
  | some (_, b', off') => .raw (ptr b' (zds off' 2))
  | none => .undef
def zc3 : Tm → Int → Nat → Str → Tm
  | .mk op n y ks ps, i, j, x => if zbg op i then .mk op n x ks ps else if zbr op i then (match ps[(i - 1).toNat]? with
    | some p => .mk op n y ks (ps.set (i - 1).toNat (zc2 p j x))
    | none => .mk op n y ks ps) else .mk op n y ks ps
def okQ : An → Prop
  | .mk s _ _ _ _ _ _ qs => s = true ∧ ydj qs
  | .im _ _ _ => False
theorem zhn (a : An) : okQ (er a) ↔ okQ a := by
  cases a with
  | mk s o n x v ks u ps => simp only [er, okQ, zml]
  | im => exact Iff.rfl
theorem yed {l : List Ty} {i : Nat} {c : Ty} : zb8 (l.set i c) = (zb8 l).set i (zb0 c) := by
  simp [zhg, List.map_set]
theorem zjz {l : List Ty} {i : Nat} {c : Ty} (h : l[i]? = some c) : (zb8 l)[i]? = some (zb0 c) := by simp [zhg, h]
theorem zum {a : An} (hok : okP a) (b off : Nat) {j : Nat} {p : zng} (h : (ppaths a)[j]? = some p) : ∃ a' b' off', zeu a b off p = some (a', b', off') ∧ (zup a b off)[j]? = some (.raw (ptr b' (zds off' 2))) := by
  have hlt : j < (zup a b off).length := by rw [zp6]; exact (List.getElem?_eq_some_iff.1 h).1
  obtain ⟨p', a', b', off', h1, h2, h3, _⟩ := yi5 a b off hok j _ (List.getElem?_eq_getElem hlt)
  rw [h] at h1; cases h1
  exact ⟨a', b', off', h2, by rw [List.getElem?_eq_getElem hlt, h3]⟩
theorem ztg {a : An} {t : Tm} (hok : okQ a) (hv : vA a = dTmc t) {i : Int} {j : Nat} {p : zng} (hp : (bp a i)[j]? = some p) (b : Nat) :
    ∃ s o n x v ks u ps b' off', zeu a b 0 p = some (.mk s o n x v ks u ps, b', off') ∧ (zad t i)[j]? = some x ∧ ∀ y, vA (znr a p (.mk s o n y v ks u ps)) = dTmc (zc3 t i j y) := by
  rcases a with ⟨s, o, n, x, v, ks, u, qs⟩ | ⟨s0, cs0, c0⟩
  case im => exact hok.elim
  obtain ⟨op, tn, tx, tks, tps⟩ := t
  obtain ⟨rfl, hq⟩ := hok
  have hv0 := hv
  simp only [vA, dTmc, List.cons.injEq, V.int.injEq, V.str.injEq, V.sl.injEq, true_and, and_true] at hv
  obtain ⟨rfl, rfl, rfl, e1, e2⟩ := hv
  simp only [bp] at hp
  cases h1 : zbg o i with
  | true =>
    simp only [h1, cond_true] at hp
    cases j with
    | succ j => simp at hp
    | zero =>
      simp at hp; subst hp
      exact ⟨_, _, _, _, _, _, _, _, b, 0, rfl, by simp [zad, h1], fun y => by simp [znr, vA, zc3, h1, dTmc, e1, e2]⟩
  | false =>
    cases h2 : zbr o i with
    | false => simp [h1, h2] at hp
    | true =>
      simp only [h1, h2, cond_true, cond_false] at hp
      cases hg : qs[(i - 1).toNat]? with
      | none => simp only [hg] at hp; simp at hp
      | some q =>
        simp only [hg, List.getElem?_map] at hp
        obtain ⟨p', hp', rfl⟩ := Option.map_eq_some_iff.1 hp
        have hokq := zmk hq hg
        obtain ⟨tp, htp⟩ : ∃ tp, tps[(i - 1).toNat]? = some tp := by
          have hl : qs.length = tps.length := by have := congrArg List.length e2; simpa using this
          exact zal (by rw [← hl]; exact (List.getElem?_eq_some_iff.1 hg).1)
        have hvq : vA q = zb0 tp := by
          have := congrArg (fun l => l[(i - 1).toNat]?) e2
          simp only [yat hg, zjz htp] at this
          exact Option.some.inj this
        obtain ⟨a', b', off', hl, _⟩ := zum hokq (zcm u) ((i - 1).toNat * 4) hp'
        obtain ⟨s, o', n', x', v', ks', u', ps', rfl, hx⟩ := yo5 q tp hokq hvq j p' hp' _ _ _ _ _ hl
        refine ⟨s, o', n', x', v', ks', u', ps', b', off', ?_, ?_, fun y => ?_⟩
        · simp only [zeu, zfr, hg, Option.map_some]
          exact hl
        · simp only [zad, h1, h2, htp, if_true, Bool.false_eq_true, if_false]; exact hx
        · have := yov q tp hokq hvq j p' y hp' _ _ _ _ _ hl
          simp only [yhw] at this
          simp only [znr, zfr, hg, Option.map_some, zyl, vA, zc3, h1, h2, htp, if_true, Bool.false_eq_true, if_false, dTmc, e1]
          congr 5
          rw [zg1, List.map_set, ← zg1, this, e2, yed]
def zcs (b : Nat) (sk : An) (t : Tm) : Asn where
  P := fun vs I w bs => ∃ a, er a = sk ∧ vA a = dTmc t ∧ (ziz b a).P vs I w bs
  mono := fun h ⟨a, h1, h2, h3⟩ => ⟨a, h1, h2, (ziz b a).mono h h3⟩
  loc := fun h ⟨a, h1, h2, h3⟩ => ⟨a, h1, h2, (ziz b a).loc h h3⟩
theorem zue {b : Nat} {sk : An} {t : Tm} (hok : okQ sk) {i : Int} {j : Nat} {p : zng} (hp : (bp sk i)[j]? = some p) {a0 : An} {b' off' : Nat} (hl : zeu sk b 0 p = some (a0, b', off')) {x : Str} (hx : (zad t i)[j]? = some x) :
    ∀ vs I w bs, (zcs b sk t).P vs I w bs → zdh I w b' (zds off' 2) [.imm (.str x)] := by
  rintro vs I w bs ⟨a, rfl, hv, hP⟩
  rw [yae] at hp
  obtain ⟨s, o, n, x', v, ks, u, ps, b2, off2, h1, h2, _⟩ := ztg ((zhn a).1 hok) hv hp b
  rw [hx] at h2; cases h2
  rw [zjn, h1] at hl
  simp only [Option.map_some, Option.some.injEq, Prod.mk.injEq] at hl
  obtain ⟨_, rfl, rfl⟩ := hl
  have hat := (zws h1 hP.2.2.2.2.1 hP.2.2.2.2.2).1
  exact zfh hat (i := 2) (c := zxt x) (by cases s <;> rfl) rfl (.imm _ _ (.encStr _ _))
theorem zra {b : Nat} {sk : An} {t : Tm} (hok : okQ sk) {i : Int} {j : Nat} {p : zng} (hp : (bp sk i)[j]? = some p) {a0 : An} {b' off' : Nat} (hl : zeu sk b 0 p = some (a0, b', off')) (x : Str) :
    ztl (zcs b sk t) (zcs b sk (zc3 t i j x)) b' (zds off' 2) [.imm (.str x)] := by
  rintro vs I w bs ⟨a, rfl, hv, hP⟩
  rw [yae] at hp
  obtain ⟨s, o, n, x', v, ks, u, ps, b2, off2, h1, _, h3⟩ := ztg ((zhn a).1 hok) hv hp b
  rw [zjn, h1] at hl
  simp only [Option.map_some, Option.some.injEq, Prod.mk.injEq] at hl
  obtain ⟨_, rfl, rfl⟩ := hl
  obtain ⟨q1, cur, ty, q2, q3, q4⟩ := zt8 x h1 vs I w bs hP
  exact ⟨q1, cur, ty, q2, q3, fun cs hr ho => ⟨_, zst p a b 0 _ _ _ _ h1 (by simp [er]), h3 x, q4 cs hr ho⟩⟩
theorem zp1 {b : Nat} {sk : An} {op n : Int} {x : Str} {ks : List Tm} {ps : List Ty} (hok : okQ sk) : yc3 (zcs b sk (.mk op n x ks ps)) b op := by
  rintro vs I w bs ⟨a, rfl, hv, hP⟩
  have hok := (zhn a).1 hok
  rcases a with ⟨s, o, n, x, v, ks, u, qs⟩ | ⟨s0, cs0, c0⟩
  case im => exact hok.elim
  obtain ⟨rfl, _⟩ := hok
  simp only [vA, dTmc, List.cons.injEq, V.int.injEq, true_and] at hv
  obtain ⟨rfl, _⟩ := hv
  have := zfh (I := I) hP.2.2.2.2.1 (i := 0) (c := .int .i64 o) rfl rfl (.imm _ _ (.int _ _))
  simpa [ze4] using this
theorem zeo {b : Nat} {o n : Int} {x : Str} {v : Value} {ks : List An} {u : Value} {qs : List An} {t : Tm} {vs : List Value} {I : Imm} {w : World} {bs : List Nat} (h : (zcs b (.mk true o n x v ks u qs) t).P vs I w bs) : zdh I w b 3 [.raw v] ∧ zdh I w b 4 [.raw u] := by
  obtain ⟨a, he, hv, hP⟩ := h
  rcases a with ⟨s, o', n', x', v', ks', u', qs'⟩ | ⟨s0, cs0, c0⟩
  case im => simp [er] at he
  simp only [er, An.mk.injEq] at he
  obtain ⟨rfl, rfl, rfl, _, rfl, _, rfl, _⟩ := he
  have hw := hP.2.2.2.2.2
  simp only [anW] at hw
  have h1 := zka hw.1.1
  have h2 := zka (hw.2 trivial).1
  have e1 := zfh (I := I) hP.2.2.2.2.1 (i := 3) (c := v') rfl h1 (.raw _ h1)
  have e2 := zfh (I := I) hP.2.2.2.2.1 (i := 4) (c := u') rfl h2 (.raw _ h2)
  simp only [ze4, Nat.zero_add] at e1 e2
  exact ⟨e1, e2⟩
def ttM : TT := ttL ++ [
  (5, ⟨.int .u8, false, 1, 1, [.imm (.int .u8 0)]⟩),
  (133, ⟨.sl 5, false, 1, 24, [.nils]⟩)]
theorem zoo : TTok Tryz.prog ttM := .of_eq (l := [3, 9, 4, 61, 119, 2, 78, 32, 21, 36, 77, 5, 133]) (by kernel_rfl)
section
variable {n : Nat} {F : List Nat} {Q : DQ} {env env' : Env} {st st' : St} {ids ids' : List Nat} {k todo : List DI} {ob : List Prop}
theorem md (path : List Pt) (h : run ttM n 300 path todo env st ids [] = .at k env' st' ids' ob) (hob : zb7 ob) (hd : G Tryz.prog n F Q k env' st' ids') : DGo Tryz.prog n F Q todo env st ids := zpu zoo mixed 300 path h hob hd
theorem mg (path : List Pt) (h : run ttM n 300 path todo env st ids [] = .at k env' st' ids' ob) (hob : zb7 ob) (hd : G Tryz.prog n F Q k env' st' ids') : G Tryz.prog n F Q todo env st ids := zpr zoo mixed 300 path h hob hd
theorem mi {es : List (List V)} {m : Int} {sz : Nat} {e : TypeId} {g : Option (Bool × Bool)} {ob : List Prop} {t : Nat} {todo' : List DI} {c : List V} (h : yi6 ttM n env todo = some ⟨es, m, sz, e, g, ob, some t, todo'⟩)
    (hc : zag g → 0 ≤ m ∧ es[m.toNat]? = some c ∧ c.length = sz) (hob : zb7 ob) (hk : G Tryz.prog n F Q todo' ((t, gD g (.ip e c 0)) :: env) st ids) : G Tryz.prog n F Q todo env st ids := zie zoo h hc hob hk
end
def zhc (n : Nat) : Str := if n < 26 then [UInt8.ofNat (97 + n)] else [UInt8.ofNat (97 + (n / 26 - 1)), UInt8.ofNat (97 + n % 26)]
theorem wu8 (n : Nat) (h : n < 256) : IntKind.u8.wrap (n : Int) = n := by
  simp only [IntKind.wrap, IntKind.bits, IntKind.signed]
  simp
  omega
set_option maxRecDepth 100000 in
theorem zms (n : Nat) (h : n < 26) : zau Tryz.prog 74 [.int .i64 n] (.str [UInt8.ofNat (97 + n)]) := by
  refine zaf zoo Tryz.func74 (by decide +kernel) rfl [1, 2] rfl rfl ?_
  refine mg [] rfl (by simp [zag]) ?_
  refine zaa rfl (fun hc => ?_) (fun hc => by simp at hc; omega)
  refine md [] rfl (by simp [zag]) ?_
  refine zab ⟨_, rfl, tV (congrArg _ ?_), trivial⟩
  have w1 : IntKind.i64.wrap (97 + (n : Int)) = ((97 + n : Nat) : Int) := by rw [w64 (by omega) (by omega)]; omega
  rw [w1, wu8 _ (by omega)]
  rfl
set_option maxRecDepth 100000 in
theorem ybo (n : Nat) (h : 26 ≤ n) (h2 : n < 702) : zau Tryz.prog 74 [.int .i64 n] (.str [UInt8.ofNat (97 + (n / 26 - 1)), UInt8.ofNat (97 + n % 26)]) := by
  have hL : ∀ y : Int, y = ((n / 26 - 1 : Nat) : Int) → zau Tryz.prog 74 [.int .i64 y] (.str [UInt8.ofNat (97 + (n / 26 - 1))]) := fun y hy => by
    rw [hy]; exact zms _ (by omega)
  refine zaf zoo Tryz.func74 (by decide +kernel) rfl [1, 2] rfl rfl ?_
  refine mg [] rfl (by simp [zag]) ?_
  refine zaa rfl (fun hc => by simp at hc; omega) (fun hc => ?_)
  refine md [] rfl (by simp [zag]) ?_
  refine zac rfl (fun _ => hL _ ?_) (by simp [zag]) ?_
  · have e : ((n : Int)).tdiv 26 = ((n / 26 : Nat) : Int) := rfl
    have w0 : IntKind.i64.wrap ((n / 26 : Nat) : Int) = ((n / 26 : Nat) : Int) := w64 (by omega) (by omega)
    rw [e, w0, w64 (by omega) (by omega)]
    omega
  refine mg [] rfl (by simp [zag]; rfl) ?_
  refine zab ⟨_, rfl, tV (congrArg _ ?_), trivial⟩
  have e : ((n : Int)).tmod 26 = ((n % 26 : Nat) : Int) := rfl
  have w1 : IntKind.i64.wrap (97 + ((n % 26 : Nat) : Int)) = ((97 + n % 26 : Nat) : Int) := by rw [w64 (by omega) (by omega)]; omega
  rw [e, w1, wu8 _ (by omega)]
  rfl
set_option maxRecDepth 100000 in
theorem zkf (n : Nat) (h : n < 702) : zau Tryz.prog 74 [.int .i64 n] (.str (zhc n)) := by
  unfold zhc
  by_cases h2 : n < 26
  · rw [if_pos h2]; exact zms n h2
  · rw [if_neg h2]; exact ybo n (by omega) h
set_option maxRecDepth 100000 in
theorem yiv (l : List Str) (k : Nat) (hk : k < 702) (hpre : ∀ j < k, zdf l (zhc j) = false) (hs : zdf l (zhc k) = true) : zau Tryz.prog 44 [.sl (za5 l)] (.str (zhc k)) := by
  refine zaf zoo Tryz.func44 (by decide +kernel) rfl [1, 2] rfl rfl ?_
  refine mg [] rfl (by simp [zag]) ?_
  refine zah (fun i : Nat => [(3, .imm (.int .i64 i)), (0, .imm (.sl (za5 l)))]) (fun _ => []) [1] (fun i => k - i) (fun i => i ≤ k) 0
    (Nat.zero_le _) ⟨rfl, rfl, trivial⟩ trivial rfl fun i hi ih => ?_
  refine md [] rfl (by simp [zag]) ?_
  refine zac rfl (fun _ => zkf i (by omega)) (by simp [zag]) ?_
  refine mg [] rfl (by simp [zag]) ?_
  refine zac rfl (fun _ => zok (zhc i)) (by simp [zag]) ?_
  refine mg [] rfl (by simp [zag]) ?_
  refine zac rfl (fun _ => zkf i (by omega)) (by simp [zag]) ?_
  refine mg [] rfl (by simp [zag]) ?_
  refine zac rfl (fun _ => zv1 l (zhc i)) (by simp [zag]) ?_
  refine mg [] rfl (by simp [zag]) ?_
  refine zaa rfl (fun h => ?_) (fun h => ?_)
  · have hik : i < k := by
      by_cases e : i = k
      · subst e
        simp only [zdf, Bool.and_eq_true, Bool.not_eq_true'] at hs
        simp [hs.1, hs.2] at h
      · omega
    refine md [] rfl (by simp) ?_
    refine zae (ih (i + 1) (by omega) (by omega)) ⟨zcn (w64 (by omega) (by omega)), rfl, trivial⟩ trivial rfl
  · have hik : i = k := by
      by_cases e : i < k
      · have := hpre i e
        simp only [zdf] at this
        cases hn : zcu (zhc i) <;> cases hh : zck l (zhc i) <;> simp [hn, hh] at h this
      · omega
    subst hik
    refine zar rfl ?_
    refine md [] rfl (by simp) ?_
    refine zac rfl (fun _ => zkf i (by omega)) (by simp) ?_
    refine mg [] rfl (by simp) ?_
    exact zab ⟨_, rfl, tV rfl, trivial⟩
set_option maxRecDepth 100000 in
theorem ykk : zg5 1 [] ++ zg5 2 [] = (List.range 702).map zhc := by decide +kernel
def namesAt : List Nat := (List.range 702).filter fun n => zcu (zhc n)
theorem yd0 {a b : Nat} (ha : a < 702) (hb : b < 702) (h : zhc a = zhc b) : a = b := by
  have u : ∀ x y : Nat, x < 256 → y < 256 → UInt8.ofNat x = UInt8.ofNat y → x = y := fun x y hx hy e => by
    have := congrArg UInt8.toNat e
    simpa [Nat.mod_eq_of_lt hx, Nat.mod_eq_of_lt hy] using this
  unfold zhc at h
  by_cases h1 : a < 26 <;> by_cases h2 : b < 26 <;> simp only [h1, h2, if_true, if_false, List.cons.injEq, and_true, reduceCtorEq, and_false] at h
  · have := u _ _ (by omega) (by omega) h; omega
  · have h3 := u _ _ (by omega) (by omega) h.1
    have h4 := u _ _ (by omega) (by omega) h.2
    omega
theorem zki {l : List Str} {s : Str} : zck l s = true ↔ s ∈ l := by
  induction l with
  | nil => simp [zck]
  | cons x r ih =>
    simp only [zck, Bool.or_eq_true, beq_iff_eq, List.mem_cons, ih]
    constructor
    · rintro (h | h)
      · exact .inl h.symm
      · exact .inr h
    · rintro (h | h)
      · exact .inl h.symm
      · exact .inr h
theorem zmt : ∀ (a : List Nat) (l : List Str), a.Nodup → (∀ n ∈ a, n < 702) → (∀ n ∈ a, zhc n ∈ l) → a.length ≤ l.length
  | [], _, _, _, _ => by simp
  | n :: r, l, hn, hb, hm => by
    obtain ⟨h1, h2⟩ := List.nodup_cons.1 hn
    have hmem := hm n (by simp)
    have := zmt r (l.erase (zhc n)) h2 (fun x hx => hb x (by simp [hx])) fun x hx => by
      have hne : zhc x ≠ zhc n := fun e => h1 (yd0 (hb x (by simp [hx])) (hb n (by simp)) e ▸ hx)
      exact (List.mem_erase_of_ne hne).2 (hm x (by simp [hx]))
    rw [List.length_erase_of_mem hmem] at this
    have hpos : 0 < l.length := List.length_pos_of_mem hmem
    simp only [List.length_cons]
    omega
end Go.Hk
namespace Go.Hk
open Go.Proofs
set_option maxRecDepth 100000 in
theorem yjr : decide (700 ≤ namesAt.length) = true := by decide +kernel
theorem yku (l : List Str) (hl : l.length ≤ 699) : ∃ k, k < 702 ∧ (∀ j < k, zdf l (zhc j) = false) ∧ zdf l (zhc k) = true := by
  have hex : ∃ k, k < 702 ∧ zdf l (zhc k) = true := by
    apply Classical.byContradiction
    intro hno
    have hall : ∀ n ∈ namesAt, zhc n ∈ l := fun n hn => by
      simp only [namesAt, List.mem_filter, List.mem_range] at hn
      apply Classical.byContradiction
      intro hm
      refine hno ⟨n, hn.1, ?_⟩
      have : zck l (zhc n) = false := by
        cases hh : zck l (zhc n) with
        | false => rfl
        | true => exact absurd (zki.1 hh) hm
      simp [zdf, hn.2, this]
    have := zmt namesAt l (List.Pairwise.filter _ List.nodup_range) (fun n hn => by simp only [namesAt, List.mem_filter, List.mem_range] at hn; exact hn.1) hall
    have h2 := of_decide_eq_true yjr
    omega
  obtain ⟨k, hk1, hk2⟩ := hex
  induction k using Nat.strongRecOn with
  | _ k ih =>
    by_cases hall : ∀ j < k, zdf l (zhc j) = false
    · exact ⟨k, hk1, hall, hk2⟩
    · simp only [Classical.not_forall, Bool.not_eq_false] at hall
      obtain ⟨j, hj1, hj2⟩ := hall
      exact ih j hj1 (by omega) hj2
def zbe (l : List Str) : Str := zhc (((List.range 702).find? fun k => zdf l (zhc k)).getD 0)
set_option maxRecDepth 100000 in
theorem ykv {l : List Str} {k : Nat} (hk : k < 702) (hpre : ∀ j < k, zdf l (zhc j) = false) (hs : zdf l (zhc k) = true) : zbe l = zhc k := by
  have hf : (List.range 702).find? (fun k => zdf l (zhc k)) = some k := by
    have e : List.range 702 = List.range k ++ k :: List.range' (k + 1) (701 - k) := by
      rw [List.range_eq_range', List.range_eq_range', ← List.range'_succ]
      have h2 := List.range'_append_1 (s := 0) (m := k) (n := 701 - k + 1)
      rw [Nat.zero_add] at h2
      rw [h2]
      congr 1
      omega
    rw [e, List.find?_append]
    have h1 : (List.range k).find? (fun k => zdf l (zhc k)) = none := by
      rw [List.find?_eq_none]
      intro j hj
      simp [hpre j (List.mem_range.1 hj)]
    rw [h1]
    simp [hs]
  rw [zbe, hf]; rfl
theorem zlo (l : List Str) (hl : l.length ≤ 699) : ∃ k, k < 702 ∧ (∀ j < k, zdf l (zhc j) = false) ∧ zdf l (zhc k) = true ∧ zbe l = zhc k := by
  obtain ⟨k, h1, h2, h3⟩ := yku l hl
  exact ⟨k, h1, h2, h3, ykv h1 h2 h3⟩
theorem zg7 (l : List Str) (hl : l.length ≤ 699) : zcu (zbe l) = true ∧ zbe l ∉ l := by
  obtain ⟨k, _, _, h3, h4⟩ := zlo l hl
  rw [← h4] at h3
  simp only [zdf, Bool.and_eq_true, Bool.not_eq_true'] at h3
  refine ⟨h3.1, fun hm => ?_⟩
  have := zki.2 hm
  rw [h3.2] at this; cases this
theorem zpa {l m : List Str} (h : ∀ s, s ∈ l ↔ s ∈ m) : zbe l = zbe m := by
  have e : ∀ s, zck l s = zck m s := fun s => by
    cases h1 : zck l s with
    | true => exact (zki.2 ((h s).1 (zki.1 h1))).symm
    | false =>
      cases h2 : zck m s with
      | false => rfl
      | true => rw [zki.2 ((h s).2 (zki.1 h2))] at h1; cases h1
  have e2 : (fun k => zdf l (zhc k)) = fun k => zdf m (zhc k) := by
    funext k; simp [zdf, e]
  simp only [zbe, e2]
set_option maxRecDepth 100000 in
theorem znl (l : List Str) (hl : l.length ≤ 699) : zau Tryz.prog 34 [.sl (za5 l)] (.str (zbe l)) := by
  obtain ⟨k, hk, hpre, hs, e⟩ := zlo l hl
  rw [e]
  refine yoi l (zhc k) ((List.range k).map zhc) ((List.range' (k + 1) (701 - k)).map zhc) (by omega) ?_ (fun x hx => ?_) hs
  · rw [ykk]
    have : List.range 702 = List.range k ++ k :: List.range' (k + 1) (701 - k) := by
      rw [List.range_eq_range', List.range_eq_range', ← List.range'_succ]
      have h2 := List.range'_append_1 (s := 0) (m := k) (n := 701 - k + 1)
      rw [Nat.zero_add] at h2
      rw [h2]
      congr 1
      omega
    rw [this]; simp
  · obtain ⟨j, hj, rfl⟩ := List.mem_map.1 hx
    exact hpre j (List.mem_range.1 hj)
set_option maxRecDepth 100000 in
theorem yfg (l : List Str) (hl : l.length ≤ 699) : zau Tryz.prog 44 [.sl (za5 l)] (.str (zbe l)) := by
  obtain ⟨k, hk, hpre, hs, e⟩ := zlo l hl
  rw [e]
  exact yiv l k hk hpre hs
end Go.Hk
namespace Go.Hk
structure PMs where
  e : TypeId
  z : V
  bytes : Nat
  m : Int
  m2 : Int
  id' : Nat
  ids' : List Nat
  dst : Option Nat
  todo : List DI
def pmks (tt : TT) (n : Nat) (env : Env) (ids : List Nat) (todo : List DI) : Option PMs :=
  match yhb todo, ids with
  | some o, id' :: ids' => match o.guard, o.op with
    | none, .makeSlice t l c => match lk tt t, evO env l, evO env c with
      | some { sh := .sl e, .. }, some (.imm (.int _ m)), some (.imm (.int _ m2)) => match lk tt e, zdg n o.dst, zcr todo ([], [id']) with
        | some ⟨_, _, 1, bytes, [.imm z]⟩, true, some (_, _, todo') => some ⟨e, z, bytes, m, m2, id', ids', o.dst, todo'⟩
        | _, _, _ => none
      | _, _, _ => none
    | _, _ => none
  | _, _ => none
structure PFs where
  id : Nat
  e : TypeId
  es : List (List V)
  k : Nat
  x : V
  j : Nat
  todo : List DI
def yi7 (tt : TT) (env : Env) (st : St) (todo : List DI) : Option PFs :=
  match yhb todo with
  | some o => match o.guard, o.dst, o.op with
    | none, none, .store t p x => match lk tt t, evO env p, evO env x with
      | some i, some (.elp id k 1 0), some (.ref j off) => match lk st id, lk st j, zcr todo ([id, j], [id, j]), Nat.beq i.size 1, Nat.beq id j with
        | some (some (.row e 1 es)), some (some (.immb ty _ xs)), some (_, _, todo'), true, false => some ⟨id, e, es, k, .ip ty xs off, j, todo'⟩
        | _, _, _, _, _ => none
      | _, _, _ => none
    | _, _, _ => none
  | none => none
section
variable {P : Program} {n : Nat} {F : List Nat} {Q : DQ} {tt : TT} {env env' : Env} {st st' : St} {ids ids' : List Nat} {k todo todo' : List DI} {I : Imm} {μ : Mu} {w : World} {a : Act} {Pn : V → Prop} {d : D} {cx : Prop} {ob : List Prop}
theorem ync (z : Array Value) (n : Nat) (c : Value) (h : z.toList = [c]) : madeCells z n = Array.replicate n c := by
  obtain ⟨z⟩ := z
  simp at h; subst h
  apply Array.ext
  · simp [madeCells]
  · intro i h1 h2
    simp [madeCells, Nat.mod_one]
theorem ykr (htt : TTok P tt) {c : PMs} (h : pmks tt n env ids todo = some c) (hm : c.m2 = c.m) (h0 : 0 ≤ c.m) (h1 : (c.bytes : Int) * c.m ≤ 281474976710656) (h2 : c.m ≤ maxLen) (hz : V.one c.z = true)
    (hk : G P n F Q c.todo (zei c.dst (.own c.id' (List.replicate c.m.toNat [c.z]).length) env) ((c.id', some (.row c.e 1 (List.replicate c.m.toNat [c.z]))) :: st) c.ids') : G P n F Q todo env st ids := by
  unfold pmks at h
  split at h
  · rename_i o id' ids' ho
    split at h
    · rename_i t l cc hg hop
      split at h
      · rename_i e _ _ _ _ k1 m k2 m2 ht hl hc
        split at h
        · rename_i sh ag bytes z all o' todo' hi hd hn1
          cases h
          have ho' : o' = o := zdx ho hn1
          subst ho'
          simp only at hm h0 h1 h2 hz hk
          have hm := hm.symm
          subst hm
          refine zc5 (fr := [id']) (wr := [(id', some (.row e 1 (List.replicate m.toNat [z])))]) (rd := []) hn1 ?_ hd (fun c hc => by rw [hop] at hc; cases hc) hk
          intro I μ st1 ids1 a w hag hst hon
          refine ⟨fun _ => ?_, fun hw => by rw [zax hg] at hw; cases hw⟩
          have hops := zbo hon
          rw [hop] at hops
          have rl := hops l (by simp [Op.operands]) _ hl
          have rc := hops cc (by simp [Op.operands]) _ hc
          obtain ⟨inf, zv, i1, i2, i3, i4, i5, i6⟩ := (htt e _ hi).info
          have hz1 := i5 I μ
          have hzl : ∃ c0, zv.cells.toList = [c0] ∧ RepV I c0 z := by
            have hl := hz1.1
            match hcs : zv.cells.toList, hl with
            | [c0], _ => exact ⟨c0, rfl, (hz1.2 0 c0 _ (by rw [hcs]; rfl) rfl).immInv⟩
          obtain ⟨c0, hc0, hr0⟩ := hzl
          have hsz : inf.size = 1 := i2
          have hby : inf.bytes = bytes := i3
          have hrun : (execOp a.eval o').run P w = .ok (.value (.slice (some ⟨w.heap.size, 0, none⟩) m.toNat m.toNat)) (w.alloc (.cells (Array.replicate m.toNat c0) e)) := by
            have hs := (htt t _ ht).sh
            have hx := run_make (P := P) w t e inf zv hs i1 i4 k1 k2 m m h0 (Int.le_refl _) (by rw [hby]; exact h1) (by simpa [maxLen] using h2)
            rw [ync _ _ c0 hc0, hsz, Nat.mul_one] at hx
            simp only [execOp, hop]
            generalize a.eval l = vl at rl
            generalize a.eval cc = vc at rc
            cases rl with
            | imm _ _ rl =>
            cases rc with
            | imm _ _ rc =>
            cases rl
            cases rc
            simp only [Sem.run_bind, hx, Result.andThen_ok, Sem.run_pure]
          rw [hrun]
          have hlen : (List.replicate m.toNat [z]).length = m.toNat := by simp
          have hone0 : c0.oneCell' = true := i6 c0 (by rw [hc0]; simp)
          obtain ⟨μ', q1, q2, q3, q4⟩ := hst.allocO (.cells (Array.replicate m.toNat c0) e) (.slice (some ⟨w.heap.size, 0, none⟩) m.toNat m.toNat) (fun _ h => Eq.symm h) (.row e 1 (List.replicate m.toNat [z])) (fun μ' _ =>
            ⟨(List.replicate m.toNat c0), ⟨by simp [hlen], .inr ⟨w.heap.size, m.toNat, Array.replicate m.toNat c0, by rw [hlen], Nat.zero_le _, zhd w _, by rw [hlen]; exact Nat.le_refl _, by simp [maxLen] at h2 ⊢; omega, by simp, by rw [hlen]; simp⟩⟩, ⟨by simp, fun i v x hv hx => by
              have e1 : (List.replicate m.toNat [z]).flatten = List.replicate m.toNat z := by
                generalize m.toNat = q
                induction q with
                | zero => rfl
                | succ q ih => simp only [List.replicate_succ, List.flatten_cons, ih]; rfl
              rw [e1] at hx
              rw [List.getElem?_replicate] at hv hx
              split at hv
              · rename_i hq
                rw [if_pos hq] at hx
                cases hv; cases hx; exact hr0
              · cases hv⟩, fun c hc => by rw [List.eq_of_mem_replicate hc]; rfl, fun c hc y hy => by
              rw [List.eq_of_mem_replicate hc] at hy
              simp at hy; subst hy; exact hz, Nat.one_pos⟩)
          rw [hlen] at *
          exact ⟨I, μ', q3, .own _ _ _ _ q1, q2, q4⟩
        · cases h
      · cases h
    · cases h
  · cases h
theorem StRep.freezeI {id : Nat} {ty : TypeId} {sz : Nat} {xs : List V} (hst : StRep I μ st ids w) (hlive : zat st id (.immb ty sz xs)) :
    ∃ J : Imm, I.le J ∧ StRep J μ ((id, none) :: st) ids w ∧ Ext I μ st w J μ ((id, none) :: st) w ∧ ∀ v off, RepD I μ v (.ref id off) → RepV J v (.ip ty xs off) := by
  obtain ⟨g, hg, hlen, gb, vs, rfl, hheap, hrep, hone⟩ := hst.blk id _ hlive
  obtain ⟨hno, hlt⟩ := hst.apart id _ _ gb hlive hg rfl
  obtain ⟨J, hJ⟩ : ∃ J : Imm, J = fun k => if k = gb then some (.cells vs ty (0, 0)) else I k := ⟨_, rfl⟩
  have hle : I.le J := fun k o h => by
    have : k ≠ gb := fun e => by rw [e, hno] at h; cases h
    rw [hJ]; simp [this, h]
  have hJo : ∀ k o, J k = some o → I k = some o ∨ (k = gb ∧ w.heap[k]? = some o) := fun k o h => by
    rw [hJ] at h
    by_cases hk : k = gb
    · subst hk; simp at h; subst h; exact .inr ⟨rfl, hheap⟩
    · simp [hk] at h; exact .inl h
  refine ⟨J, hle, ?_, ?_, ?_⟩
  · exact
      { imm := fun k o h => (hJo k o h).elim (fun h => hst.imm k o h) fun h => h.2
        blk := fun i bi hli => by
          obtain ⟨_, h2⟩ := zbf.1 hli
          obtain ⟨gi, hgi, hr⟩ := hst.blk i bi h2
          exact ⟨gi, hgi, hr.mono hle (Mu.le_refl μ)⟩
        apart := fun i bi gi k hli hgi hk => by
          obtain ⟨h1, h2⟩ := zbf.1 hli
          obtain ⟨q1, q2⟩ := hst.apart i bi gi k h2 hgi hk
          refine ⟨?_, q2⟩
          cases hJk : J k with
          | none => rfl
          | some o =>
            rcases hJo k o hJk with h | ⟨h, _⟩
            · rw [q1] at h; cases h
            · subst h
              exact absurd (hst.inj i id _ _ _ _ k h2 hlive hgi hg hk rfl) h1
        inj := fun i j bi bj gi gj b hi hj => hst.inj i j bi bj gi gj b (zbf.1 hi).2 (zbf.1 hj).2
        nodup := hst.nodup
        idsFree := hst.idsFree }
  · exact
      { imm := hle, os := rfl, tape := rfl, output := rfl, size := Nat.le_refl _
        block := fun _ _ _ => rfl
        fresh := fun k _ ⟨i, bi, gi, h1, h2, h3⟩ => ⟨i, bi, gi, (zbf.1 h1).2, h2, h3⟩
        old := fun k _ ho => by
          have : k ≠ gb := fun e => ho (e ▸ ⟨id, _, _, hlive, hg, rfl⟩)
          rw [hJ]; simp [this] }
  · intro v off hv
    have hptr : v = .pointer (some ⟨gb, off, none⟩) := by
      cases hv with
      | ref b' _ _ hm => rw [hg] at hm; cases hm; rfl
    rw [hptr]
    have := RepV.ip (I := J) gb 0 ty xs off (fun j => (vs[j]?).getD undef) (fun j x hx => ?_) (fun j x hx => ?_)
    · simpa using this
    · have hj : j < vs.size := by have := hrep.1; have := (List.getElem?_eq_some_iff.1 hx).1; simp at *; omega
      rw [hJ]
      simp only [Imm.cell, if_true, Nat.zero_add, Array.getElem?_eq_getElem hj, Option.getD_some, true_and]
      exact hone _ (by simp)
    · have hj : j < vs.size := by have := hrep.1; have := (List.getElem?_eq_some_iff.1 hx).1; simp at *; omega
      simp only [Array.getElem?_eq_getElem hj, Option.getD_some]
      exact (hrep.2 j _ x (by simp [hj]) hx).mono hle
theorem ynr (htt : TTok P tt) {c : PFs} {y : V} (h : yi7 tt env st todo = some c) (hc : c.es[c.k]? = some [y])
    (hk : G P n F Q c.todo env ((c.id, some (.row c.e 1 (c.es.set c.k [c.x]))) :: (c.j, none) :: st) ids) : G P n F Q todo env st ids := by
  unfold yi7 at h
  split at h
  · rename_i o ho
    split at h
    · rename_i t p x hgd hdst hop
      split at h
      · rename_i i id kk j off ht hp hx
        split at h
        · rename_i ty es ty2 sz2 xs all o' todo' hl hlj h1 hsz hne
          cases h
          have ho' : o' = o := zdx ho h1
          subst ho'
          have hs := Nat.eq_of_beq_eq_true hsz
          have hne : id ≠ j := fun e => by rw [e] at hne; simp at hne
          simp only at hc hk
          have hk : G P n F Q todo' (zei o'.dst .undef env) ([(id, some (.row ty 1 (es.set kk [.ip ty2 xs off]))), (j, none)] ++ st) ids := by rw [hdst]; exact hk
          refine zc5 (fr := []) (wr := [(id, some (.row ty 1 (es.set kk [.ip ty2 xs off]))), (j, none)]) (rd := [id, j]) h1 ?_ (by simp [zdg, hdst]) (fun c hc => by rw [hop] at hc; cases hc) hk
          intro I μ st1 ids1 a w hag hst hon
          refine ⟨fun _ => ?_, fun hw => by rw [zax hgd] at hw; cases hw⟩
          have hops := zbo hon
          rw [hop] at hops
          have rp := hops p (by simp [Op.operands]) _ hp
          have rx := hops x (by simp [Op.operands]) _ hx
          have hl1 : zat st1 id (.row ty 1 es) := by unfold zat; rw [hag id (by simp)]; exact hl
          have hl2 : zat st1 j (.immb ty2 sz2 xs) := by unfold zat; rw [hag j (by simp)]; exact hlj
          obtain ⟨J, f1, f2, f3, f4⟩ := hst.freezeI hl2
          have hl3 : zat ((j, none) :: st1) id (.row ty 1 es) := zbf.2 ⟨hne, hl1⟩
          have rv := f4 _ _ rx
          obtain ⟨b, cap, cur, hmu, hheap, hcap, hcm, hcs, hrep, hlen, hone, hpos⟩ := zyr f2 hl3 (by rintro rfl; simp at hc)
          have hkl := (List.getElem?_eq_some_iff.1 hc).1
          rw [Nat.mul_one] at hcs
          generalize hv : a.eval p = v at rp
          generalize hu : a.eval x = u at rx rv
          have hu1 : u.cells = #[u] ∧ u.oneCell' = true := by cases rx; exact ⟨rfl, rfl⟩
          cases rp with
          | elp _ _ ln cp _ _ _ hm =>
            rw [hm] at hmu; cases hmu
            have hfit : kk * 1 + 0 + u.cells.toList.length ≤ cur.size := by rw [hu1.1, hcs]; simp; omega
            have hrun : (execOp a.eval o').run P w = .ok .skip (w.setRow b (cur.toList.take (kk * 1 + 0) ++ u.cells.toList ++ cur.toList.drop (kk * 1 + 0 + u.cells.toList.length)).toArray) := by
              simp only [execOp, hop, hv, hu, Sem.run_bind, zf9 (htt t i ht) hheap (by rw [hu1.1, hs]; rfl) (fun z hz => by rw [hu1.1] at hz; simp at hz; subst hz; exact hu1.2) hfit, Result.andThen_ok, Sem.run_pure]
            rw [hrun]
            have hcl : cur.toList.length = cap := by simpa using hcs
            rw [hu1.1]
            simp only [Nat.mul_one, Nat.add_zero, List.length_singleton]
            simp only [Nat.mul_one] at hrep
            have hnew : BlkRep J μ (w.setRow b (cur.toList.take kk ++ [u] ++ cur.toList.drop (kk + 1)).toArray) (.slice (some ⟨b, 0, none⟩) es.length cap) (.row ty 1 (es.set kk [.ip ty2 xs off])) := by
              have e1 := zh2 (sz := 1) (f := 0) (ys := [V.ip ty2 xs off]) es kk [y] hlen hc (by simp)
              simp only [List.take_zero, List.nil_append, List.length_singleton, Nat.zero_add, Nat.mul_one, Nat.add_zero] at e1
              have e1' : (es.set kk [V.ip ty2 xs off]).flatten = es.flatten.take kk ++ [V.ip ty2 xs off] ++ es.flatten.drop (kk + 1) := by simpa using e1
              have e2 : (cur.toList.take kk ++ [u] ++ cur.toList.drop (kk + 1)).take es.length = (cur.toList.take es.length).take kk ++ [u] ++ (cur.toList.take es.length).drop (kk + 1) := by
                rw [List.append_assoc, List.take_append, List.take_append, List.take_take, List.take_take, List.length_take, List.append_assoc]
                rw [Nat.min_eq_left (by omega : kk ≤ cur.toList.length), Nat.min_eq_right (by omega : kk ≤ es.length), Nat.min_eq_left (by omega : kk ≤ es.length)]
                rw [List.take_of_length_le (l := [u]) (by simp; omega), List.drop_take]
                congr 3
              have hR := RepVL.splice hrep (ns := [u]) (ys := [V.ip ty2 xs off]) ⟨rfl, fun q v z h1 h2 => by
                match q with
                | 0 => simp at h1 h2; subst h1; subst h2; exact rv
                | q + 1 => simp at h1⟩ kk
              simp only [List.length_singleton] at hR
              have hls : (es.set kk [V.ip ty2 xs off]).length = es.length := by simp
              refine ⟨_, ⟨?_, .inr ⟨b, cap, _, by rw [hls], Nat.zero_le _, setRow_heap w b cur _ ty _ hheap, by rw [hls]; exact hcap, hcm, ?_, rfl⟩⟩, ?_, ?_, ?_, Nat.one_pos⟩
              · simp; omega
              · simp; omega
              · rw [hls, Nat.mul_one, List.toList_toArray, e2, e1']
                exact hR
              · intro c hc'
                rcases List.mem_or_eq_of_mem_set hc' with h | h
                · exact hlen c h
                · rw [h]; rfl
              · intro c hc' y hy
                rcases List.mem_or_eq_of_mem_set hc' with h | h
                · exact hone c h y hy
                · rw [h] at hy; simp at hy; subst hy; rfl
            obtain ⟨q1, q2⟩ := f2.update (id := id) (blk := .row ty 1 es) (g := .slice (some ⟨b, 0, none⟩) es.length cap) (b := b) hl3 hm rfl (w' := w.setRow b _) (setRow_size w b _) rfl rfl rfl (fun k hk => setRow_other w b k _ hk) hnew
            exact ⟨J, μ, q1, .undef _, Mu.le_refl μ, f3.trans q2⟩
        · cases h
      · cases h
    · cases h
  · cases h
end
end Go.Hk
namespace Go.Hk
open Go.Proofs
def ttX : TT := ttF ++ [
  (137, ⟨.sl 86, false, 1, 24, [.nils]⟩),
  (105, ⟨.ptr 107, false, 1, 8, [.imm .nilp]⟩),
  (107, ⟨.struct [(0, 36)], true, 1, 24, [.nils]⟩),
  (63, ⟨.struct [(0, 9), (1, 26), (6, 61)], true, 7, 104, [.imm (.str []), .imm (.int .i64 0), .imm (.int .i64 0), .imm (.str []), .nils, .nils, .imm .nilmap]⟩)]
theorem zbb : TTok Tryz.prog ttX := .of_eq (l := [4, 3, 9, 26, 58, 22, 24, 5, 36, 23, 56, 29, 139, 83, 1, 61, 143, 128, 96, 94, 93, 126, 148, 91, 86, 123, 125, 137, 105, 107, 63]) (by kernel_rfl)
section
variable {n : Nat} {F : List Nat} {Q : DQ} {env env' : Env} {st st' : St} {ids ids' : List Nat} {k todo : List DI} {ob : List Prop}
theorem xd (path : List Pt) (h : run ttX n 300 path todo env st ids [] = .at k env' st' ids' ob) (hob : zb7 ob) (hd : G Tryz.prog n F Q k env' st' ids') : DGo Tryz.prog n F Q todo env st ids := zpu zbb mixed 300 path h hob hd
theorem xg (path : List Pt) (h : run ttX n 300 path todo env st ids [] = .at k env' st' ids' ob) (hob : zb7 ob) (hd : G Tryz.prog n F Q k env' st' ids') : G Tryz.prog n F Q todo env st ids := zpr zbb mixed 300 path h hob hd
end
def zih (sk : An) (t : Tm) : Prop := ∃ (a : An) (o n : Int) (x : Str) (ad : Option Addr) (c : Nat) (ks : List An) (u : Value) (qs : List An),
  er a = sk ∧ vA a = dTmc t ∧ a = .mk true o n x (.slice ad ks.length c) ks u qs ∧ ydj qs ∧ zc6 qs ∧ (0 < ks.length → ∃ b, ad = some ⟨b, 0, none⟩) ∧ (0 < qs.length → ∃ bb c2, u = .slice (some ⟨bb, 0, none⟩) qs.length c2)
def ygm : An → Prop
  | .mk _ _ _ _ _ _ _ qs => zc6 qs
  | .im _ _ _ => False
theorem yns (a : An) : ygm (er a) ↔ ygm a := by
  cases a with
  | mk s o n x v ks u ps => simp only [er, ygm, zfe]
  | im => exact Iff.rfl
theorem ykz {b : Nat} {sk : An} {t : Tm} (hf : ygm sk) (hw : ∀ p ∈ (match t with | .mk _ _ _ _ ps => ps), zl2 p) {vs : List Value} {I : Imm} {w : World} {bs : List Nat} (h : (zcs b sk t).P vs I w bs) : zih sk t := by
  obtain ⟨a, rfl, hv, hP⟩ := h
  have hf := (yns a).1 hf
  rcases a with ⟨s, o, n, x, v, ks, u, qs⟩ | ⟨s0, cs0, c0⟩
  case im => exact hf.elim
  have hs : s = true := hP.2.2.1
  subst hs
  obtain ⟨op, tn, tx, tks, tps⟩ := t
  have hwA := hP.2.2.2.2.2
  simp only [anW] at hwA
  have e2 : vAs qs = zb8 tps := by
    simp only [vA, dTmc, List.cons.injEq, V.sl.injEq] at hv
    exact hv.2.2.2.2.1
  have hok : ydj qs := znv qs tps (zcm u) 0 hf (hwA.2 trivial).2 e2 (by
    have : ∀ l : List Ty, (∀ p ∈ l, zl2 p) → zt2 l := fun l => by
      induction l with
      | nil => exact fun _ => trivial
      | cons p r ih => exact fun h => ⟨h p (by simp), ih fun q hq => h q (by simp [hq])⟩
    exact this tps hw)
  rcases hwA.1.1 with ⟨h0, ⟨a0, c, rfl⟩, _⟩ | ⟨h0, b0, c, cur, rfl, _⟩
  · refine ⟨_, o, n, x, a0, c, ks, u, qs, rfl, hv, by rw [h0], hok, hf, fun h => by omega, fun hq => ?_⟩
    rcases (hwA.2 trivial).1 with ⟨h0, _⟩ | ⟨_, b1, c1, cur1, e, _⟩
    · omega
    · exact ⟨b1, c1, e⟩
  · refine ⟨_, o, n, x, some ⟨b0, 0, none⟩, c, ks, u, qs, rfl, hv, rfl, hok, hf, fun h => ⟨_, rfl⟩, fun hq => ?_⟩
    rcases (hwA.2 trivial).1 with ⟨h0, _⟩ | ⟨_, b1, c1, cur1, e, _⟩
    · omega
    · exact ⟨b1, c1, e⟩
theorem zig {sk : An} {t : Tm} (h : zih sk t) : okQ sk := by
  obtain ⟨a, o, n, x, ad, c, ks, u, qs, rfl, _, rfl, h1, _⟩ := h
  exact (zhn _).2 ⟨rfl, h1⟩
theorem zmi {t : Tm} {a : An} {o n : Int} {x : Str} {v : Value} {ks : List An} {u : Value} {qs : List An} (e : a = .mk true o n x v ks u qs) (hv : vA a = dTmc t) : ∃ tks tps, t = .mk o n x tks tps ∧ ks.length = tks.length ∧ qs.length = tps.length ∧ vAs ks = zcy tks ∧ vAs qs = zb8 tps := by
  subst e
  obtain ⟨op, tn, tx, tks, tps⟩ := t
  simp only [vA, dTmc, List.cons.injEq, V.sl.injEq, V.int.injEq, V.str.injEq, true_and, and_true] at hv
  obtain ⟨rfl, rfl, rfl, e1, e2⟩ := hv
  exact ⟨tks, tps, rfl, by have := congrArg List.length e1; simpa using this, by have := congrArg List.length e2; simpa using this, e1, e2⟩
theorem yad {sk : An} {t : Tm} (h : zih sk t) (i : Int) : (bp sk i).length = (zad t i).length := by
  obtain ⟨a, o, n, x, ad, c, ks, u, qs, rfl, hv, ea, h1, _⟩ := h
  obtain ⟨tks, tps, rfl, _, hl, _, e2⟩ := zmi ea hv
  subst ea
  rw [yae]
  simp only [bp, zad]
  cases zbg o i with
  | true => rfl
  | false =>
    cases zbr o i with
    | false => rfl
    | true =>
      simp only [cond_false, cond_true, Bool.false_eq_true, if_false, if_true]
      cases hq : qs[(i - 1).toNat]? with
      | none =>
        have : tps[(i - 1).toNat]? = none := by rw [List.getElem?_eq_none_iff] at hq ⊢; omega
        rw [this]; rfl
      | some q =>
        obtain ⟨tp, htp⟩ : ∃ tp, tps[(i - 1).toNat]? = some tp := zal (by rw [← hl]; exact (List.getElem?_eq_some_iff.1 hq).1)
        have hvq : vA q = zb0 tp := by
          have := congrArg (fun l => l[(i - 1).toNat]?) e2
          simp only [yat hq, zjz htp] at this
          exact Option.some.inj this
        rw [htp]
        simp only [List.length_map, za3]
        exact zkc q tp (zmk h1 hq) hvq
def yg0 (ty : TypeId) (v : Value) : St := [(6, some (.cells ty 1 [.raw v]))]
set_option maxRecDepth 100000 in
theorem ylj {b : Nat} {sk : An} {t : Tm} {i : Nat} (hfine : zih sk t) {op tn : Int} {tx : Str} {tks : List Tm} {tps : List Ty} (ht : t = .mk op tn tx tks tps) (hi : i ≤ 1000000) (h : zbg op i = true ∨ (zbg op i = false ∧ zbr op i = true ∧ i - 1 < tps.length)) :
    ∃ (fB : Nat) (ty : TypeId) (vB : Value) (fc : Func) (c : Code), Tryz.prog.funcs[fB]? = some fc ∧ (fc.name == "runtime.NumGoroutine") = false ∧ fc.body = some c ∧
      zc8 Tryz.prog 67 [.raw (.pointer (some ⟨b, 0, none⟩)), .imm (.int .i64 i)] [(1, some (.hp (zcs b sk t)))] (.ret (.fn (.func fB) [] [.ref 6 0]) ((1, some (.hp (zcs b sk t))) :: yg0 ty vB)) ∧
      ∀ S : Nat → Bun, (∀ j, ∃ T, ∀ I w bb bs, (S j).P I w bb bs → ∃ vs bs', (zcs b sk T).P vs I w bs') → Rounds ((bp sk i).map (plD b sk)) S 0 →
        zc8 Tryz.prog fB [.yld 3, .ref 6 0] ((3, some .pin) :: (4, some (.bun 3 (S 0))) :: yg0 ty vB) (.ret (.tup []) ((3, some .pin) :: (5, some (.bun 3 (S (0 + (bp sk i).length)))) :: yg0 ty vB)) := by
  have hokQ := zig hfine
  subst ht
  rcases h with h | ⟨h, h2, h3⟩
  · refine ⟨97, 91, .pointer (some ⟨b, 0, none⟩), _, _, Tryz.func97, by decide +kernel, rfl, ?_, fun S hS hR => ?_⟩
    · exact ych (zcs b sk _) b op i (zp1 hokQ) h
    · have hb : bp sk i = [[]] := by
        obtain ⟨a, o, n, x, ad, c, ks, u, qs, rfl, hv, ea, h1, _⟩ := hfine
        obtain ⟨tks', tps', e, _⟩ := zmi ea hv
        cases e
        subst ea
        rw [yae]; simp [bp, h]
      rw [hb] at hR ⊢
      exact yg3 b 0 S 0 hR
  · obtain ⟨a, o, n, x, ad, c, ks, u, qs, rfl, hv, ea, h1, hfull, _, h4⟩ := hfine
    obtain ⟨tks', tps', e, _, hl, _, _⟩ := zmi ea hv
    cases e
    subst ea
    have hi1 : 0 < i := by simp [zbr] at h2; omega
    obtain ⟨q, hq⟩ : ∃ q, qs[i - 1]? = some q := zal (by omega)
    obtain ⟨bb, c2, rfl⟩ := h4 (by omega)
    have hok := zmk h1 hq
    have hqf := zn7 hfull hq
    have ei : ((i : Int) - 1).toNat = i - 1 := by omega
    refine ⟨113, 128, .pointer (some ⟨bb, (i - 1) * 4, none⟩), _, _, Tryz.func113, by decide +kernel, rfl, ?_, fun S hS hR => ?_⟩
    · refine yg1 (zcs b _ _) b op i bb qs.length c2 (i - 1) (zp1 hokQ) (fun vs I w bs hP => (zeo (by simpa only [er] using hP)).2) h h2 (by omega) (by omega) (by omega)
    · have hb : bp (er (.mk true op tn tx (.slice ad ks.length c) ks (.slice (some ⟨bb, 0, none⟩) qs.length c2) qs)) i = (ppaths q).map ((true, i - 1) :: ·) := by
        rw [yae]; simp only [bp, h, h2, ei, hq, cond_false, cond_true]
      have hpl : (bp (er (.mk true op tn tx (.slice ad ks.length c) ks (.slice (some ⟨bb, 0, none⟩) qs.length c2) qs)) i).map (plD b (er (.mk true op tn tx (.slice ad ks.length c) ks (.slice (some ⟨bb, 0, none⟩) qs.length c2) qs))) = zup q bb ((i - 1) * 4) := by
        rw [hb, List.map_map]
        apply List.ext_getElem?
        intro j
        rw [List.getElem?_map]
        cases hj : (ppaths q)[j]? with
        | none =>
          rw [List.getElem?_eq_none_iff] at hj
          rw [List.getElem?_eq_none_iff.2 (by rw [zp6]; exact hj)]; rfl
        | some p =>
          obtain ⟨a', b', off', k1, k2⟩ := zum hok bb ((i - 1) * 4) hj
          rw [k2]
          have e1 : zeu (er (.mk true op tn tx (.slice ad ks.length c) ks (.slice (some ⟨bb, 0, none⟩) qs.length c2) qs)) b 0 ((true, i - 1) :: p) = some (er a', b', off') := by
            rw [zjn]
            simp only [zeu, zfr, hq, Option.map_some]
            show (zeu q bb ((i - 1) * 4) p).map _ = _
            rw [k1]; rfl
          simp only [Option.map_some, Function.comp, plD, e1]
      rw [hpl] at hR
      have hlen : (bp (er (.mk true op tn tx (.slice ad ks.length c) ks (.slice (some ⟨bb, 0, none⟩) qs.length c2) qs)) i).length = (zup q bb ((i - 1) * 4)).length := by rw [← hpl, List.length_map]
      rw [hlen]
      refine yfp q bb ((i - 1) * 4) S 0 hok (fun j I w b1 bs hP => ?_) hR
      obtain ⟨T, hT⟩ := hS j
      obtain ⟨vs, bs', a2, e2, hv2, hP2⟩ := hT I w b1 bs hP
      rcases a2 with ⟨s', o', n', x', v', ks', u', qs'⟩ | ⟨s0, cs0, c0⟩
      case im => simp [er] at e2
      simp only [er, An.mk.injEq] at e2
      obtain ⟨rfl, rfl, rfl, _, rfl, _, rfl, e3⟩ := e2
      have hq' : (ers qs')[i - 1]? = some (er q) := by rw [e3]; exact zlq hq
      obtain ⟨q', k1, k2⟩ := yqo hq'
      have hw := hP2.2.2.2.2.2
      simp only [anW] at hw
      have hg := zdl (hw.2 trivial).2 k1
      rw [Nat.zero_add] at hg
      have := ycy q' bb ((i - 1) * 4) ((zkj q').1 (by rw [k2]; exact (zkj q).2 hqf)) hg.1 hg.2.1 hg.2.2
      rw [← yhu, ← k2, yhu]
      exact this
def ze8 : List (Str × Str) → V
  | [] => .nilp
  | (x, y) :: r => .ip 125 [.str x, .str y, ze8 r] 0
def zhb : List (Str × Str) → Str → Option Str
  | [], _ => none
  | (x, y) :: r, s => if x == s then some y else zhb r s
set_option maxRecDepth 100000 in
theorem ynd (l : List (Str × Str)) (s : Str) : zau Tryz.prog 63 [ze8 l, .str s] (.tup [.str ((zhb l s).getD []), .bool (zhb l s).isSome]) := by
  refine zaf za6 Tryz.func63 (by decide +kernel) rfl [1] rfl rfl ?_
  refine fg_ [] rfl (by simp) ?_
  refine zah (fun r : List (Str × Str) => [(0, .imm (ze8 r)), (1, .imm (.str s))]) (fun _ => []) [1] (fun r => r.length) (fun r => zhb l s = zhb r s) l rfl ⟨rfl, rfl, trivial⟩ trivial rfl fun r hi ih => ?_
  rcases r with _ | ⟨⟨x, y⟩, r⟩
  · refine fd_ [] rfl (by simp) ?_
    refine zaa rfl (fun h => by simp at h) (fun h => ?_)
    refine zar rfl ?_
    refine fd_ [] rfl (by simp) ?_
    rw [hi]
    exact zab ⟨_, rfl, tV rfl, trivial⟩
  · refine yb7 0 rfl ?_
    refine fd_ [] rfl (by simp) ?_
    refine zaa rfl (fun h => ?_) (fun h => by simp at h)
    refine fd_ [] rfl (by simp) ?_
    refine zaa rfl (fun h2 => ?_) (fun h2 => ?_)
    · refine fd_ [] rfl (by simp) ?_
      have e : zhb l s = some y := by rw [hi]; simp at h2; simp [zhb, h2]
      rw [e]
      exact zab ⟨_, rfl, tV rfl, trivial⟩
    · refine fd_ [] rfl (by simp) ?_
      have e : zhb ((x, y) :: r) s = zhb r s := by simp at h2; simp [zhb, h2]
      exact zae (ih r (by simp) (by rw [hi, e])) ⟨rfl, rfl, trivial⟩ trivial rfl
set_option maxRecDepth 100000 in
theorem yey (l : List Str) (len : Nat) (hl : l.length ≤ 699) : zc8 Tryz.prog 34 [.own 1 len] [(1, some (.row 9 1 (za5 l)))] (.ret (.imm (.str (zbe l))) [(1, some (.row 9 1 (za5 l)))]) := by
  refine zm4 (stL := [(1, some (.row 9 1 (za5 l)))]) (st0 := []) (st1 := []) (znl l hl) rfl trivial (by simp [nms, nmD]) (fun i b h j hj => ?_) fun I J μ w hst hle hb xs hx => ?_
  · rcases zai.1 h with ⟨_, rfl⟩ | ⟨_, h⟩
    · simp [nmB] at hj
    · simp [zat, lk] at h
  · refine ⟨hx.1, fun i v d h1 h2 => ?_⟩
    match i with
    | 0 =>
      simp at h2; subst h2
      have h3 := hx.2 0 v _ h1 rfl
      cases h3 with
      | own _ _ a cap hm =>
        have hl : zat [(1, some (.row 9 1 (za5 l)))] 1 (.row 9 1 (za5 l)) := zai.2 (.inl ⟨rfl, rfl⟩)
        obtain ⟨g, q1, q2⟩ := hst.blk 1 _ hl
        rw [hm] at q1; cases q1
        exact .imm _ _ (zqe q2 hle fun b ho => hb 1 _ _ b hl hm ho)
    | i + 1 => simp at h2
end Go.Hk
namespace Go.Hk
open Go.Proofs
def yg6 (sk : An) (t : Tm) : Asn where
  P := fun vs I w bs => ∃ a, er a = sk ∧ vA a = dTmc t ∧ (yaq a).P vs I w bs
  mono := fun h ⟨a, h1, h2, h3⟩ => ⟨a, h1, h2, (yaq a).mono h h3⟩
  loc := fun h ⟨a, h1, h2, h3⟩ => ⟨a, h1, h2, (yaq a).loc h h3⟩
def ylu (b : Nat) (sk : An) (t : Tm) (i : Nat) : Asn where
  P := fun _ I w bs => ∃ a c w0, er a = sk ∧ vA a = dTmc t ∧ (ziz b a).P [] I w0 (b :: anB a) ∧ zfr a (false, i) = some (c, zcm (match a with | .mk _ _ _ _ v _ _ _ => v | _ => .bool true), i * 5) ∧ bs = (b :: anB a).filter (fun k => decide (k ∉ anB c)) ∧ ∀ k ∈ bs, w.heap[k]? = w0.heap[k]?
  mono := fun h ⟨a, c, w0, h1, h2, h3, h4⟩ => ⟨a, c, w0, h1, h2, (ziz b a).mono h h3, h4⟩
  loc := fun h ⟨a, c, w0, h1, h2, h3, h4, h5, h6⟩ => ⟨a, c, w0, h1, h2, h3, h4, h5, fun k hk => (h k hk).trans (h6 k hk)⟩
theorem yhv {α : Type} {l : List α} {i : Nat} {c : α} (h : l[i]? = some c) (d : α) : l = l.take i ++ c :: l.drop (i + 1) ∧ l.set i d = l.take i ++ d :: l.drop (i + 1) := by
  have hlt := (List.getElem?_eq_some_iff.1 h).1
  constructor
  · have := List.take_append_drop i l
    rw [zap h] at this
    exact this.symm
  · exact List.set_eq_take_append_cons_drop.trans (if_pos hlt)
theorem ymf {I : Imm} {w0 w : World} {o n : Int} {x : Str} {v : Value} {ks : List An} {u : Value} {qs : List An} {i : Nat} {c c2 : An} (hk : ks[i]? = some c) (h : anW I w0 (.mk true o n x v ks u qs)) (nd : (anB (.mk true o n x v ks u qs)).Nodup)
    (hw : ∀ k ∈ anB (.mk true o n x v ks u qs), k ∉ anB c → w.heap[k]? = w0.heap[k]?) (h2 : anW I w c2) (h3 : cA c2 = cA c) (h4 : zc1 c2 = zc1 c) : anW I w (.mk true o n x v (ks.set i c2) u qs) := by
  obtain ⟨e1, e2⟩ := yhv hk c2
  have hli : (ks.take i).length = i := by rw [List.length_take]; have := (List.getElem?_eq_some_iff.1 hk).1; omega
  simp only [anW] at h ⊢
  have hB : zd9 ks = zd9 (ks.take i) ++ (anB c ++ zd9 (ks.drop (i + 1))) := by
    conv => lhs; rw [e1]
    rw [zlv]; rfl
  simp only [anB] at nd hw
  rw [hB] at nd
  have n1 := List.nodup_append.1 nd
  have n2 := List.nodup_append.1 n1.1
  have n3 := List.nodup_append.1 n2.2.1
  have n4 := List.nodup_append.1 n3.2.1
  have hrow : ∀ k ∈ zdt v ks.length, w.heap[k]? = w0.heap[k]? := fun k hk => hw k (by simp [hk]) fun hc => n2.2.2 k hk k (by simp [hc]) rfl
  have hb : w.heap[zcm v]? = w0.heap[zcm v]? := hrow _ (by
    have := (List.getElem?_eq_some_iff.1 hk).1
    cases hl : ks.length with
    | zero => omega
    | succ m => simp [zdt])
  have h12 := h.1.2
  rw [e1, ziq] at h12
  simp only [zfv] at h12
  rw [hli, Nat.zero_add] at h12
  refine ⟨⟨?_, ?_⟩, fun _ => ⟨?_, ?_⟩⟩
  · rw [List.length_set]; exact zme hrow h.1.1
  · rw [e2, ziq]
    simp only [zfv]
    rw [hli, Nat.zero_add]
    refine ⟨zf4 (fun _ => hb) (fun k hk => hw k (by rw [hB]; simp [hk]) fun hc => n3.2.2 k hk k (by simp [hc]) rfl) h12.1, ⟨by rw [h4]; exact h12.2.1.1, by rw [h3]; exact ztj hb h12.2.1.2.1, h2⟩, ?_⟩
    exact zf4 (fun _ => hb) (fun k hk => hw k (by rw [hB]; simp [hk]) fun hc => n4.2.2 k hc k hk rfl) h12.2.2
  · exact zme (fun k hk => hw k (by simp [hk]) fun hc => n1.2.2 k (by simp [hc]) k (by simp [hk]) rfl) (h.2 trivial).1
  · exact zf4 (fun hne => hw _ (by cases qs with | nil => exact absurd rfl hne | cons => simp [zdt]) fun hc => n1.2.2 _ (by simp [hc]) (zcm u) (by cases qs with | nil => exact absurd rfl hne | cons => simp [zdt]) rfl) (fun k hk => hw k (by simp [hk]) fun hc => n1.2.2 k (by simp [hc]) k (by simp [hk]) rfl) (h.2 trivial).2
def skK : An → Nat → Option An
  | .mk _ _ _ _ _ ks _ _, i => ks[i]?
  | .im _ _ _, _ => none
def tmK : Tm → Nat → Option Tm
  | .mk _ _ _ ks _, i => ks[i]?
def zcj : Tm → Nat → Tm → Tm
  | .mk op n x ks ps, i, k => .mk op n x (ks.set i k) ps
theorem zkb {a : An} {t : Tm} (hq : okQ a) (hv : vA a = dTmc t) {i : Nat} {k : Tm} (hk : tmK t i = some k) : ∃ o n x v ks u qs c tx tks tps, a = .mk true o n x v ks u qs ∧ t = .mk o n tx tks tps ∧ tx = x ∧ ks[i]? = some c ∧ vA c = dTmc k ∧ zfr a (false, i) = some (c, zcm v, i * 5) ∧ tks[i]? = some k ∧ vAs ks = zcy tks ∧ vAs qs = zb8 tps := by
  rcases a with ⟨s, o, n, x, v, ks, u, qs⟩ | ⟨s0, cs0, c0⟩
  case im => exact hq.elim
  obtain ⟨rfl, _⟩ := hq
  obtain ⟨op, tn, tx, tks, tps⟩ := t
  simp only [vA, dTmc, List.cons.injEq, V.sl.injEq, V.int.injEq, V.str.injEq, true_and, and_true] at hv
  obtain ⟨rfl, rfl, rfl, e1, e2⟩ := hv
  simp only [tmK] at hk
  have hl : ks.length = tks.length := by have := congrArg List.length e1; simpa using this
  obtain ⟨c, hc⟩ : ∃ c, ks[i]? = some c := zal (by rw [hl]; exact (List.getElem?_eq_some_iff.1 hk).1)
  have hvc : vA c = dTmc k := by
    have := congrArg (fun l => l[i]?) e1
    simp only [yat hc, zbu hk] at this
    exact Option.some.inj this
  exact ⟨o, n, x, v, ks, u, qs, c, x, tks, tps, rfl, rfl, rfl, hc, hvc, by simp [zfr, hc, szA], hk, e1, e2⟩
theorem ygk {b : Nat} {sk skc : An} {t k : Tm} {i : Nat} (hq : okQ sk) (hs : skK sk i = some skc) (hk : tmK t i = some k) {vs : List Value} {I : Imm} {w : World} {bs : List Nat} (h : (zcs b sk t).P vs I w bs) :
    ∃ b1 b2, (∀ k ∈ b1, k ∈ bs) ∧ (∀ k ∈ b2, k ∈ bs) ∧ (∀ k ∈ b1, k ∉ b2) ∧ (ylu b sk t i).P [] I w b1 ∧ (yg6 skc k).P [] I w b2 := by
  obtain ⟨a, rfl, hv, hP⟩ := h
  obtain ⟨o, n, x, v, ks, u, qs, c, tx, tks, tps, rfl, rfl, _, hc, hvc, hkid, _⟩ := zkb ((zhn a).1 hq) hv hk
  have hskc : er c = skc := by
    simp only [er, skK] at hs
    rw [zlq hc] at hs
    exact Option.some.inj hs
  have hbs := hP.1
  have hnd := hP.2.1
  obtain ⟨k1, k2, k3⟩ := zic hkid
  have hnd2 : (anB (.mk true o n x v ks u qs)).Nodup := by rw [hbs] at hnd; exact (List.nodup_cons.1 hnd).2
  refine ⟨(b :: anB (.mk true o n x v ks u qs)).filter (fun k => decide (k ∉ anB c)), anB c, fun k hk => ?_, fun k hk => ?_, fun k hk => ?_, ?_, ?_⟩
  · rw [hbs]; exact (List.mem_filter.1 hk).1
  · rw [hbs]; exact List.mem_cons_of_mem _ (k2 k hk)
  · have := (List.mem_filter.1 hk).2; simpa using this
  · refine ⟨.mk true o n x v ks u qs, c, w, rfl, hv, ?_, hkid, rfl, fun _ _ => rfl⟩
    rw [hbs] at hP
    exact hP
  · refine ⟨c, hskc, hvc, rfl, (k3 hnd2).1, ?_⟩
    have hw := hP.2.2.2.2.2
    simp only [anW] at hw
    exact (zdl hw.1.2 hc).2.2
theorem ynk {b : Nat} {o n : Int} {x : Str} {v : Value} {ks : List An} {u : Value} {qs : List An} {t : Tm} {i : Nat} {vs : List Value} {I : Imm} {w : World} {bs : List Nat} (h : (ylu b (.mk true o n x v ks u qs) t i).P vs I w bs) : zdh I w b 3 [.raw v] := by
  obtain ⟨a, c, w0, he, hv, hP, hkid, hbs, heq⟩ := h
  have := (zeo (b := b) (t := t) (vs := []) (I := I) (w := w0) ⟨a, he, hv, hP⟩).1
  obtain ⟨cur, ty, k, q1, q2⟩ := this
  refine ⟨cur, ty, k, ?_, q2⟩
  have hb : b ∈ bs := by
    rw [hbs, List.mem_filter]
    refine ⟨by simp, ?_⟩
    have := (List.nodup_cons.1 hP.2.1).1
    simp only [decide_eq_true_eq]
    exact fun hc => this ((zic hkid).2.1 b hc)
  rw [heq b hb]; exact q1
theorem ygl {b : Nat} {sk skc : An} {t k : Tm} {i : Nat} {o n : Int} {x : Str} {len cap rb : Nat} {ks : List An} {u : Value} {qs : List An} {oc nc oc2 nc2 : Int} {xc xc2 : Str} {vc : Value} {ksc : List An} {uc : Value} {qsc : List An} {ks2 : List Tm} {ps2 : List Ty}
    (hq : okQ sk) (hsk : sk = .mk true o n x (.slice (some ⟨rb, 0, none⟩) len cap) ks u qs) (hs : skK sk i = some skc) (hskc : skc = .mk true oc nc xc vc ksc uc qsc) (hk : tmK t i = some k) (hk2 : k = .mk oc2 nc2 xc2 ks2 ps2) {vs : List Value} {I : Imm} {w : World} {bs : List Nat} (h : (ylu b sk t i).P vs I w bs) :
    zdh I w rb (i * 5) [.imm (.int .i64 oc2), .imm (.int .i64 nc2), .imm (.str xc2), .raw vc, .raw uc] := by
  obtain ⟨a, c, w0, he, hv, hP, hkid, hbs, heq⟩ := h
  subst he
  obtain ⟨o', n', x', v', ks', u', qs', c', tx, tks, tps, rfl, rfl, rfl, hc, hvc, hkid', htk, e1, e2⟩ := zkb ((zhn a).1 hq) hv hk
  rw [hkid] at hkid'
  simp only [Option.some.injEq, Prod.mk.injEq] at hkid'
  obtain ⟨rfl, _, _⟩ := hkid'
  have hvv : v' = .slice (some ⟨rb, 0, none⟩) len cap := by simp only [er, An.mk.injEq] at hsk; exact hsk.2.2.2.2.1
  have hskc1 : er c = skc := by
    simp only [er, skK] at hs
    rw [zlq hc] at hs
    exact Option.some.inj hs
  rw [hskc] at hskc1
  rcases c with ⟨sc, oc', nc', yc, vc', kc, uc', qc⟩ | ⟨s0, cs0, c0⟩
  case im => simp [er] at hskc1
  simp only [er, An.mk.injEq] at hskc1
  obtain ⟨rfl, rfl, rfl, _, rfl, _, rfl, _⟩ := hskc1
  subst hk2
  simp only [vA, dTmc, List.cons.injEq, V.int.injEq, V.str.injEq, true_and] at hvc
  obtain ⟨rfl, rfl, rfl, _⟩ := hvc
  have hw := hP.2.2.2.2.2
  simp only [anW] at hw
  have hg := zdl hw.1.2 hc
  have hone := yac hg.2.2
  obtain ⟨cur, ty, kk, q1, q2⟩ := hg.2.1
  obtain ⟨kb1, kb2, kb3⟩ := zic hkid
  have hnd : (anB (.mk true o' n' tx v' ks' u' qs')).Nodup := (List.nodup_cons.1 hP.2.1).2
  have hrb : rb ∈ bs := by
    rw [hbs, List.mem_filter]
    have h1 := (kb3 hnd).2
    rw [hvv] at h1 kb1
    rw [hvv]
    have h1 : rb ∉ anB (.mk true oc' nc' yc vc' kc uc' qc) := h1
    exact ⟨List.mem_cons_of_mem _ kb1, by simpa using h1⟩
  rw [hvv] at q1
  simp only [Nat.zero_add, szA] at q2
  refine ⟨cur, ty, kk, (heq rb hrb).trans q1, fun j d hj => ?_⟩
  match j with
  | 0 => simp at hj; subst hj; exact ⟨_, q2 0 _ rfl, hone _ (by simp [cA]), .imm _ _ (.int _ _)⟩
  | 1 => simp at hj; subst hj; exact ⟨_, q2 1 _ rfl, hone _ (by simp [cA]), .imm _ _ (.int _ _)⟩
  | 2 => simp at hj; subst hj; exact ⟨_, q2 2 _ rfl, hone _ (by simp [cA]), .imm _ _ (.encStr _ _)⟩
  | 3 => simp at hj; subst hj; exact ⟨_, q2 3 _ rfl, hone _ (by simp [cA]), .raw _ (hone _ (by simp [cA]))⟩
  | 4 => simp at hj; subst hj; exact ⟨_, q2 4 _ rfl, hone _ (by simp [cA]), .raw _ (hone _ (by simp [cA]))⟩
  | j + 5 => simp at hj
theorem yh8 {b : Nat} {sk skc : An} {t k : Tm} {i : Nat} (hq : okQ sk) (hf : zju skc) (hs : skK sk i = some skc) (hk : tmK t i = some k) {vs : List Value} {I : Imm} {w : World} {bs : List Nat} (h : (zcs b sk t).P vs I w bs) :
    ∃ o n x v js u qs tx tks tps, skc = .mk true o n x v js u qs ∧ k = .mk o n tx tks tps := by
  obtain ⟨a, rfl, hv, hP⟩ := h
  obtain ⟨o, n, x, v, ks, u, qs, c, tx, tks, tps, rfl, rfl, _, hc, hvc, hkid, _⟩ := zkb ((zhn a).1 hq) hv hk
  have hskc : er c = skc := by
    simp only [er, skK] at hs
    rw [zlq hc] at hs
    exact Option.some.inj hs
  have hw := hP.2.2.2.2.2
  simp only [anW] at hw
  have hg := (zdl hw.1.2 hc).1
  rcases c with ⟨sc, oc', nc', yc, vc', kc, uc', qc⟩ | ⟨s0, cs0, c0⟩
  case im => rw [← hskc] at hf; exact hf.elim
  have hg : sc = true := hg
  subst hg
  obtain ⟨o2, n2, x2, ks2, ps2⟩ := k
  simp only [vA, dTmc, List.cons.injEq, V.int.injEq, V.str.injEq, true_and] at hvc
  obtain ⟨rfl, rfl, _⟩ := hvc
  exact ⟨_, _, _, _, _, _, _, _, _, _, hskc.symm, rfl⟩
theorem zlg {b : Nat} {sk : An} {t : Tm} {o n : Int} {x : Str} {v : Value} {ks : List An} {u : Value} {qs : List An} {o2 n2 : Int} {x2 : Str} {ks2 : List Tm} {ps2 : List Ty} (hsk : sk = .mk true o n x v ks u qs) (ht : t = .mk o2 n2 x2 ks2 ps2) {vs : List Value} {I : Imm} {w : World} {bs : List Nat} (h : (zcs b sk t).P vs I w bs) :
    zdh I w b 0 [.imm (.int .i64 o2), .imm (.int .i64 n2), .imm (.str x2), .raw v, .raw u] := by
  obtain ⟨a, he, hv, hP⟩ := h
  rw [hsk] at he
  rcases a with ⟨s, o', n', x', v', ks', u', qs'⟩ | ⟨s0, cs0, c0⟩
  case im => simp [er] at he
  simp only [er, An.mk.injEq] at he
  obtain ⟨rfl, rfl, rfl, _, rfl, _, rfl, _⟩ := he
  subst ht
  simp only [vA, dTmc, List.cons.injEq, V.int.injEq, V.str.injEq, true_and] at hv
  obtain ⟨rfl, rfl, rfl, _⟩ := hv
  have hone := yac hP.2.2.2.2.2
  obtain ⟨cur, ty, kk, q1, q2⟩ := hP.2.2.2.2.1
  refine ⟨cur, ty, kk, q1, fun j d hj => ?_⟩
  match j with
  | 0 => simp at hj; subst hj; exact ⟨_, q2 0 _ rfl, hone _ (by simp [cA]), .imm _ _ (.int _ _)⟩
  | 1 => simp at hj; subst hj; exact ⟨_, q2 1 _ rfl, hone _ (by simp [cA]), .imm _ _ (.int _ _)⟩
  | 2 => simp at hj; subst hj; exact ⟨_, q2 2 _ rfl, hone _ (by simp [cA]), .imm _ _ (.encStr _ _)⟩
  | 3 => simp at hj; subst hj; exact ⟨_, q2 3 _ rfl, hone _ (by simp [cA]), .raw _ (hone _ (by simp [cA]))⟩
  | 4 => simp at hj; subst hj; exact ⟨_, q2 4 _ rfl, hone _ (by simp [cA]), .raw _ (hone _ (by simp [cA]))⟩
  | j + 5 => simp at hj
theorem ymr {b : Nat} {sk : An} {t : Tm} {vs : List Value} {I : Imm} {w : World} {bs : List Nat} (h : (zcs b sk t).P vs I w bs) : ∃ bs', (∀ k ∈ bs', k ∈ bs) ∧ (yg6 sk t).P [] I w bs' := by
  obtain ⟨a, he, hv, hP⟩ := h
  obtain ⟨h1, h2, _, _, _, h6⟩ := hP
  rw [h1] at h2
  exact ⟨anB a, fun k hk => by rw [h1]; exact List.mem_cons_of_mem _ hk, a, he, hv, rfl, (List.nodup_cons.1 h2).2, h6⟩
theorem yay {cur : List Value} {off : Nat} {c0 c1 c2 c3 c4 y : Value} (hf : off + 5 ≤ cur.length) (h : ∀ (j : Nat) (c : Value), [c0, c1, c2, c3, c4][j]? = some c → cur[off + j]? = some c) :
    cur.take off ++ [c0, c1, y, c3, c4] ++ cur.drop (off + 5) = cur.take (off + 2) ++ [y] ++ cur.drop (off + 2 + 1) := by
  apply List.ext_getElem?
  intro i
  have e1 := zga (cur := cur) (off := off) (cs := [c0, c1, y, c3, c4]) (by simpa using hf) i
  have e2 := zga (cur := cur) (off := off + 2) (cs := [y]) (by simp; omega) i
  simp only [List.length_cons, List.length_nil, Nat.zero_add, Nat.reduceAdd] at e1 e2
  rw [e1, e2]
  by_cases h1 : i < off
  · rw [if_pos h1, if_pos (by omega)]
  · rw [if_neg h1]
    by_cases h2 : i < off + 5
    · rw [if_pos h2]
      obtain ⟨j, rfl⟩ : ∃ j, i = off + j := ⟨i - off, by omega⟩
      rw [Nat.add_sub_cancel_left]
      match j, h2 with
      | 0, _ => rw [if_pos (by omega), h 0 c0 rfl]; rfl
      | 1, _ => rw [if_pos (by omega), h 1 c1 rfl]; rfl
      | 2, _ => rw [if_neg (by omega), if_pos (by omega)]; simp
      | 3, _ => rw [if_neg (by omega), if_neg (by omega), h 3 c3 rfl]; rfl
      | 4, _ => rw [if_neg (by omega), if_neg (by omega), h 4 c4 rfl]; rfl
      | j + 5, h2 => omega
    · rw [if_neg h2, if_neg (by omega), if_neg (by omega)]
theorem yo7 {a d : An} {o n : Int} {x : Str} {v : Value} {ks : List An} {u : Value} {qs : List An} (h : er a = er d) (hd : d = .mk true o n x v ks u qs) : ∃ y ks' qs', a = .mk true o n y v ks' u qs' ∧ ers ks' = ers ks ∧ ers qs' = ers qs := by
  subst hd
  rcases a with ⟨s, o', n', x', v', ks', u', qs'⟩ | ⟨s0, cs0, c0⟩
  case im => simp [er] at h
  simp only [er, An.mk.injEq] at h
  obtain ⟨rfl, rfl, rfl, _, rfl, h1, rfl, h2⟩ := h
  exact ⟨x', ks', qs', rfl, h1, h2⟩
theorem ygj {b : Nat} {sk skc : An} {t k : Tm} {i : Nat} {o2 n2 : Int} {x2 : Str} {ks2 : List Tm} {ps2 : List Ty} {o n : Int} {x : Str} {len cap rb : Nat} {ks : List An} {u : Value} {qs : List An} {oc nc : Int} {xc : Str} {vc : Value} {ksc : List An} {uc : Value} {qsc : List An} (j : Nat)
    (hq : okQ sk) (hsk : sk = .mk true o n x (.slice (some ⟨rb, 0, none⟩) len cap) ks u qs) (hs : skK sk i = some skc) (hskc : skc = .mk true oc nc xc vc ksc uc qsc) (hk : tmK t i = some k) :
    zis (ylu b sk t i) (yg6 skc (.mk o2 n2 x2 ks2 ps2)) (zcs b sk (zcj t i (.mk o2 n2 x2 ks2 ps2))) j rb (i * 5) [.imm (.int .i64 o2), .imm (.int .i64 n2), .imm (.str x2), .raw vc, .raw uc] := by
  rintro us vs I w b1 b2 ⟨a, c, w0, he, hv, hP, hkid, hbs, heq⟩ ⟨a2, he2, hv2, hb2, hnd2, hw2⟩ hdis
  subst he
  obtain ⟨o', n', x', v', ks', u', qs', c', tx, tks, tps, rfl, rfl, rfl, hc, hvc, hkid', htk, e1, e2⟩ := zkb ((zhn a).1 hq) hv hk
  rw [hkid] at hkid'
  simp only [Option.some.injEq, Prod.mk.injEq] at hkid'
  obtain ⟨rfl, _, _⟩ := hkid'
  have hvv : v' = .slice (some ⟨rb, 0, none⟩) len cap := by simp only [er, An.mk.injEq] at hsk; exact hsk.2.2.2.2.1
  have hskc1 : er c = skc := by
    simp only [er, skK] at hs
    rw [zlq hc] at hs
    exact Option.some.inj hs
  have hec : er a2 = er c := by rw [he2, hskc1]
  -- the nodes
  rcases a2 with ⟨s2, o2', n2', y2, v2, k2, u2, q2⟩ | ⟨s0, cs0, c0⟩
  case im => rw [hskc] at he2; simp [er] at he2
  rw [hskc] at he2
  simp only [er, An.mk.injEq] at he2
  obtain ⟨rfl, rfl, rfl, _, rfl, _, rfl, _⟩ := he2
  simp only [vA, dTmc, List.cons.injEq, V.sl.injEq, V.int.injEq, V.str.injEq, true_and, and_true] at hv2
  obtain ⟨rfl, rfl, rfl, g1, g2⟩ := hv2
  rcases c with ⟨sc, oc', nc', yc, vc', kc, uc', qc⟩ | ⟨s0, cs0, c0⟩
  case im => simp [er] at hec
  simp only [er, An.mk.injEq] at hec
  obtain ⟨rfl, rfl, rfl, _, rfl, hk2, rfl, hq2⟩ := hec
  -- before the store: the part with its old text
  have hnd : (anB (.mk true o' n' tx v' ks' u' qs')).Nodup := (List.nodup_cons.1 hP.2.1).2
  have hbn : b ∉ anB (.mk true o' n' tx v' ks' u' qs') := (List.nodup_cons.1 hP.2.1).1
  obtain ⟨kb1, kb2, kb3⟩ := zic hkid
  have hBc : anB (.mk true o2' n2' yc v2 k2 u2 q2) = anB (.mk true o2' n2' yc v2 kc u2 qc) := by
    rw [← yaj, ← yaj (.mk true o2' n2' yc v2 kc u2 qc)]; simp only [er, hk2, hq2]
  have hBc2 : anB (.mk true o2' n2' y2 v2 k2 u2 q2) = anB (.mk true o2' n2' yc v2 k2 u2 q2) := rfl
  have hin : ∀ k, k ∈ b :: anB (.mk true o' n' tx v' ks' u' qs') → k ∉ anB (.mk true o2' n2' yc v2 kc u2 qc) → w.heap[k]? = w0.heap[k]? := fun k h1 h2 => heq k (by rw [hbs, List.mem_filter]; exact ⟨h1, by simpa using h2⟩)
  have hw1 : anW I w (.mk true o2' n2' yc v2 k2 u2 q2) := by simpa only [anW] using hw2
  have hA1 := ymf (c2 := .mk true o2' n2' yc v2 k2 u2 q2) hc hP.2.2.2.2.2 hnd (fun k h1 h2 => hin k (List.mem_cons_of_mem _ h1) h2) hw1 rfl rfl
  have hloc0 : zeu (.mk true o' n' tx v' ks' u' qs') b 0 [(false, i)] = some (.mk true o2' n2' yc v2 kc u2 qc, zcm v', i * 5) := by
    simp only [zeu]; rw [hkid]
  have heA : er (.mk true o' n' tx v' (ks'.set i (.mk true o2' n2' yc v2 k2 u2 q2)) u' qs') = er (.mk true o' n' tx v' ks' u' qs') :=
    yk2 _ _ (.mk true o2' n2' yc v2 k2 u2 q2) (false, i) _ _ hkid (by simp only [er, hk2, hq2])
  have hBA : anB (.mk true o' n' tx v' (ks'.set i (.mk true o2' n2' yc v2 k2 u2 q2)) u' qs') = anB (.mk true o' n' tx v' ks' u' qs') := by rw [← yaj, heA, yaj]
  have hbW : w.heap[b]? = w0.heap[b]? := hin b (by simp) fun h => hbn (kb2 b h)
  have hR1 : (ziz b (.mk true o' n' tx v' (ks'.set i (.mk true o2' n2' yc v2 k2 u2 q2)) u' qs')).P [] I w (b :: anB (.mk true o' n' tx v' ks' u' qs')) := by
    obtain ⟨_, p2, p3, ⟨cur, p4, p5⟩, p6, _⟩ := hP
    exact ⟨by rw [hBA], p2, rfl, ⟨cur, hbW.trans p4, p5⟩, ztj hbW p6, hA1⟩
  have hc1 : (ks'.set i (.mk true o2' n2' yc v2 k2 u2 q2))[i]? = some (.mk true o2' n2' yc v2 k2 u2 q2) := by
    rw [List.getElem?_set_self (List.getElem?_eq_some_iff.1 hc).1]
  have hloc1 : zeu (.mk true o' n' tx v' (ks'.set i (.mk true o2' n2' yc v2 k2 u2 q2)) u' qs') b 0 [(false, i)] = some (.mk true o2' n2' yc v2 k2 u2 q2, rb, i * 5) := by
    simp only [zeu, zfr, hc1, Option.map_some, szA, hvv, zcm]
  obtain ⟨s1, cur, ty, s2, s3, s4⟩ := zt8 y2 hloc1 [] I w _ hR1
  have hrb : rb ∉ anB (.mk true o2' n2' yc v2 kc u2 qc) := by
    have := (kb3 hnd).2
    rw [hvv] at this
    exact this
  have hfit : i * 5 + 5 ≤ cur.size := by
    obtain ⟨_, cur2, ty2, r2, r3⟩ := zlf hR1 hloc1
    rw [s2] at r2; cases r2
    exact r3
  refine ⟨?_, cur, ty, s2, hfit, fun cs hl hrep hone => ?_⟩
  · rw [hbs, List.mem_filter]
    exact ⟨s1, by simpa using hrb⟩
  · have hcs : cs = [.int .i64 o2', .int .i64 n2', zxt y2, v2, u2] := by
      match cs, hl with
      | [c0, c1, c2, c3, c4], _ =>
        have e0 := (hrep 0 c0 _ rfl rfl).immInv.intInv
        have e1 := (hrep 1 c1 _ rfl rfl).immInv.intInv
        have e2 := zqy (hrep 2 c2 _ rfl rfl)
        have e3 := (hrep 3 c3 _ rfl rfl).rawInv
        have e4 := (hrep 4 c4 _ rfl rfl).rawInv
        rw [e0, e1, e2, e3, e4]
    subst hcs
    have hat := (zws hloc1 hR1.2.2.2.2.1 hR1.2.2.2.2.2).1
    obtain ⟨cur', ty', k', t1, t2⟩ := hat
    rw [s2] at t1; cases t1
    have hsp := yay (cur := cur.toList) (off := i * 5) (y := zxt y2) (c0 := .int .i64 o2') (c1 := .int .i64 n2') (c2 := zxt yc) (c3 := v2) (c4 := u2) (by simpa using hfit) (fun j c hj => by have := t2 j c (by simpa [cA] using hj); simpa using this)
    refine ⟨b :: anB (.mk true o' n' tx v' ks' u' qs'), fun k hk => ?_, ?_⟩
    · by_cases hkc : k ∈ anB (.mk true o2' n2' yc v2 kc u2 qc)
      · right; rw [hb2, hBc2, hBc]; exact hkc
      · left; rw [hbs, List.mem_filter]; exact ⟨hk, by simpa using hkc⟩
    · simp only [List.length_cons, List.length_nil, Nat.zero_add, Nat.reduceAdd]
      rw [hsp]
      have := s4 [zxt y2] ⟨rfl, fun j c d h1 h2 => by
        match j with
        | 0 => simp at h1 h2; subst h1; subst h2; exact .imm _ _ (.encStr _ _)
        | j + 1 => simp at h1⟩ (by simp; rfl)
      simp only [ze4, List.length_singleton] at this
      refine ⟨_, ?_, ?_, this⟩
      · rw [zst [(false, i)] _ b 0 _ _ _ _ hloc1 (by simp [er]), heA]
      · simp only [znr, zfr, hc1, Option.map_some, zyl, vA, zcj, dTmc, List.set_set]
        congr 4
        · rw [zg1, List.map_set, ← zg1, e1, zm6]
          simp only [vA, dTmc, g1, g2]
        · rw [e2]
abbrev Sc := List (Str × Str)
def ziy (i : Int) (st : Nat × Tm × List Str × Sc) (x : Str) : Nat × Tm × List Str × Sc :=
  (st.1 + 1, zc3 st.2.1 i st.1 (zbe st.2.2.1), st.2.2.1 ++ [zbe st.2.2.1], (x, zbe st.2.2.1) :: st.2.2.2)
def zlt (i : Int) (names : List Str) (T : Tm) (tk : List Str) (s : Sc) : Nat × Tm × List Str × Sc := names.foldl (ziy i) (0, T, tk, s)
def l1 : Nat → Nat → Tm → List Str → Sc → List Sc → Tm × List Str × List Sc
  | 0, _, T, tk, _, acc => (T, tk, acc)
  | m + 1, i, T, tk, s, acc => l1 m (i + 1) (zlt i (zad T i) T tk s).2.1 (zlt i (zad T i) T tk s).2.2.1 s (acc ++ [(zlt i (zad T i) T tk s).2.2.2])
def ze6 : Tm → List Tm → Tm
  | .mk op n x _ ps, ks => .mk op n x ks ps
mutual
def zgz : Tm → Sc → List Str → Tm × List Str
  | .mk op n x ks ps, s, tk => if op = 4 then (.mk op n ((zhb s x).getD x) ks ps, tk) else
    (ze6 (l1 ks.length 0 (.mk op n x ks ps) tk s []).1 (ze3 ks (l1 ks.length 0 (.mk op n x ks ps) tk s []).2.2 (l1 ks.length 0 (.mk op n x ks ps) tk s []).2.1).1,
      (ze3 ks (l1 ks.length 0 (.mk op n x ks ps) tk s []).2.2 (l1 ks.length 0 (.mk op n x ks ps) tk s []).2.1).2)
def ze3 : List Tm → List Sc → List Str → List Tm × List Str
  | [], _, tk => ([], tk)
  | k :: r, scs, tk => ((zgz k (scs.headD []) tk).1 :: (ze3 r scs.tail (zgz k (scs.headD []) tk).2).1, (ze3 r scs.tail (zgz k (scs.headD []) tk).2).2)
end
theorem ye6 {sk : An} {t : Tm} {b : Nat} {op n : Int} {x xx : Str} {v u : Value} {js qs : List An} {ks : List Tm} {ps : List Ty} (hsk : sk = .mk true op n xx v js u qs) (ht : t = .mk op n x ks ps) {vs us : List Value} {I : Imm} {w : World} {b1 b2 : List Nat} (h1 : (yg6 sk t).P vs I w b1)
    (h2 : (ylx b 26 [.imm (.int .i64 op), .imm (.int .i64 n), .imm (.str x), .raw v, .raw u]).P us I w b2) (hd : ∀ k ∈ b1, k ∉ b2) : (∀ k ∈ b :: b1, k ∈ b1 ∨ k ∈ b2) ∧ (zcs b sk t).P [] I w (b :: b1) := by
  obtain ⟨a, he, hv, e1, e2, e3⟩ := h1
  obtain ⟨e, cur, z1, z2, z3⟩ := h2
  subst ht
  rw [hsk] at he
  rcases a with ⟨s, o', n', x', v', ks', u', qs'⟩ | ⟨s0, cs0, c0⟩
  case im => simp [er] at he
  simp only [er, An.mk.injEq] at he
  obtain ⟨rfl, rfl, rfl, hxx, rfl, rfl, rfl, rfl⟩ := he
  have hx : x' = x := by simp only [vA, dTmc, List.cons.injEq, V.str.injEq] at hv; exact hv.2.2.1
  subst hx
  have hcs : cur.toList = cA (.mk true o' n' x' v' ks' u' qs') := by
    obtain ⟨cur⟩ := cur
    have hl := z2.1
    match cur, hl with
    | [c0, c1, c2, c3, c4], _ =>
      have e0 := (z2.2 0 _ _ rfl rfl).immInv.intInv
      have e1 := (z2.2 1 _ _ rfl rfl).immInv.intInv
      have e2 := zqy (z2.2 2 _ _ rfl rfl)
      have e3 := (z2.2 3 _ _ rfl rfl).rawInv
      have e4 := (z2.2 4 _ _ rfl rfl).rawInv
      rw [e0, e1, e2, e3, e4]; rfl
  refine ⟨fun k hk => ?_, _, ?_, hv, by rw [e1], List.nodup_cons.2 ⟨fun hb => hd b hb (by simp [e]), e2⟩, rfl, ⟨cur, z1, ?_⟩, ⟨cur, _, _, z1, fun j c hj => ?_⟩, e3⟩
  · rcases List.mem_cons.1 hk with rfl | hk
    · right; simp [e]
    · exact .inl hk
  · rw [hsk, ← hxx]; rfl
  · have := congrArg List.length hcs; simpa [cA] using this
  · rw [← hcs] at hj; simpa using hj
def zhw (t : Tm) : Nat → Nat → Nat
  | 0, _ => 0
  | m + 1, i => (zad t i).length + zhw t m (i + 1)
mutual
def zlk : Tm → Nat
  | .mk op n x ks ps => if op = 4 then 0 else zhw (.mk op n x ks ps) ks.length 0 + zes ks
def zes : List Tm → Nat
  | [] => 0
  | k :: r => zlk k + zes r
end
def textTm : Tm → Str
  | .mk _ _ x _ _ => x
mutual
theorem zzb : ∀ (t : Ty) (j : Nat) (x : Str), (zb2 (zc2 t j x)).map zew = ((zb2 t).map zew).set j x
  | .mk s n y ps, j, x => by
    by_cases h : s = 2
    · cases j with
      | zero => simp [zc2, h, zb2, zew]
      | succ j => simp [zc2, h, zb2, zew, znz ps j x]
    · simp [zc2, h, zb2, znz ps j x]
theorem znz : ∀ (l : List Ty) (j : Nat) (x : Str), (zbd (zdb l j x)).map zew = ((zbd l).map zew).set j x
  | [], j, x => by simp [zdb, zbd]
  | t :: r, j, x => by
    simp only [zdb]
    split
    · rename_i h
      simp only [zbd, List.map_append, zzb t j x, List.set_append, List.length_map, if_pos h]
    · rename_i h
      simp only [zbd, List.map_append, znz r _ x, List.set_append, List.length_map, if_neg h]
end
theorem zgc (t : Ty) (j : Nat) (x : Str) : za3 (zc2 t j x) = (za3 t).set j x := zzb t j x
theorem zma (op n : Int) (y : Str) (ks : List Tm) (ps : List Ty) (i : Int) (j : Nat) (x : Str) : ∃ y' ps', zc3 (.mk op n y ks ps) i j x = .mk op n y' ks ps' ∧ ps'.length = ps.length := by
  simp only [zc3]
  split
  · exact ⟨_, _, rfl, rfl⟩
  · split
    · split
      · exact ⟨_, _, rfl, by simp⟩
      · exact ⟨_, _, rfl, rfl⟩
    · exact ⟨_, _, rfl, rfl⟩
theorem zhu {t : Tm} {i : Int} {j : Nat} (x : Str) (h : j < (zad t i).length) : zad (zc3 t i j x) i = (zad t i).set j x := by
  obtain ⟨op, n, y, ks, ps⟩ := t
  simp only [zad] at h
  simp only [zc3]
  by_cases h1 : zbg op i = true
  · simp only [h1, if_true, List.length_singleton] at h
    have : j = 0 := by omega
    subst this
    simp [zad, h1]
  · by_cases h2 : zbr op i = true
    · rw [if_neg h1, if_pos h2] at h ⊢
      cases hp : ps[(i - 1).toNat]? with
      | none => simp only [hp] at h; simp at h
      | some p =>
        have hlt := (List.getElem?_eq_some_iff.1 hp).1
        have e : (ps.set (i - 1).toNat (zc2 p j x))[(i - 1).toNat]? = some (zc2 p j x) := by rw [List.getElem?_set_self hlt]
        simp only [zad]
        rw [if_neg h1, if_pos h2, if_neg h1, if_pos h2]
        simp only [e, hp]
        exact zgc p j x
    · rw [if_neg h1, if_neg h2] at h
      simp at h
theorem zd8 (t : Tm) (i : Int) (j : Nat) (x : Str) (m : Int) : (zad (zc3 t i j x) m).length = (zad t m).length := by
  obtain ⟨op, n, y, ks, ps⟩ := t
  simp only [zc3]
  by_cases h1 : zbg op i = true
  · rw [if_pos h1]
    simp only [zad]
    by_cases h3 : zbg op m = true
    · simp [h3]
    · rw [if_neg h3, if_neg h3]
  · rw [if_neg h1]
    by_cases h2 : zbr op i = true
    · rw [if_pos h2]
      cases hp : ps[(i - 1).toNat]? with
      | none => rfl
      | some p =>
        have hlt := (List.getElem?_eq_some_iff.1 hp).1
        simp only [zad]
        by_cases h3 : zbg op m = true
        · simp [h3]
        · rw [if_neg h3, if_neg h3]
          by_cases h4 : zbr op m = true
          · rw [if_pos h4, if_pos h4]
            by_cases e : (m - 1).toNat = (i - 1).toNat
            · rw [e, List.getElem?_set_self hlt, hp]
              simp only [zgc, List.length_set]
            · rw [List.getElem?_set_ne (fun h => e h.symm)]
          · rw [if_neg h4, if_neg h4]
    · rw [if_neg h2]
theorem yea {sk : An} {t : Tm} (h : zih sk t) {i : Int} {j : Nat} {p : zng} (hp : (bp sk i)[j]? = some p) (x : Str) : zih sk (zc3 t i j x) := by
  have hok := zig h
  obtain ⟨a, o, n, y, ad, c, ks, u, qs, rfl, hv, ea, h1, h2, h3, h4⟩ := h
  rw [yae] at hp
  obtain ⟨s, o', n', x', v', ks', u', ps', b', off', hl, _, hset⟩ := ztg ((zhn a).1 hok) hv hp 0
  have he := zst p a 0 0 _ _ _ (.mk s o' n' x v' ks' u' ps') hl (by simp [er])
  obtain ⟨y2, ks2, qs2, e2, e3, e4⟩ := yo7 he ea
  have hlk : ks2.length = ks.length := by rw [← zff, e3, zff]
  have hlq : qs2.length = qs.length := by rw [← zff, e4, zff]
  refine ⟨_, o, n, y2, ad, c, ks2, u, qs2, he, hset x, by rw [e2, hlk], (zml qs2).1 (by rw [e4]; exact (zml qs).2 h1), (zfe qs2).1 (by rw [e4]; exact (zfe qs).2 h2), by rw [hlk]; exact h3, by rw [hlq]; exact h4⟩
theorem ylh {sk : An} {t : Tm} (h : zih sk t) (i : Int) : (bp sk i).length = (zad t i).length := yad h i
def rAt (i : Int) (T : Tm) (tk : List Str) (s : Sc) (j : Nat) : Nat × Tm × List Str × Sc := ((zad T i).take j).foldl (ziy i) (0, T, tk, s)
theorem ydc {i : Int} {T : Tm} {tk : List Str} {s : Sc} {j : Nat} {x : Str} (h : (zad T i)[j]? = some x) : rAt i T tk s (j + 1) = ziy i (rAt i T tk s j) x := by
  simp only [rAt, zbk h, List.foldl_append, List.foldl_cons, List.foldl_nil]
theorem yp0 (i : Int) (T : Tm) (tk : List Str) (s : Sc) : rAt i T tk s (zad T i).length = zlt i (zad T i) T tk s := by
  simp only [rAt, zlt, List.take_of_length_le (Nat.le_refl _)]
theorem ya9 {i : Int} {sk : An} {T : Tm} (hf : zih sk T) (tk : List Str) (s : Sc) : ∀ j, j ≤ (zad T i).length → (rAt i T tk s j).1 = j ∧ zih sk (rAt i T tk s j).2.1 ∧ (∀ m, j ≤ m → (zad (rAt i T tk s j).2.1 i)[m]? = (zad T i)[m]?) ∧
      (∀ m, (zad (rAt i T tk s j).2.1 m).length = (zad T m).length) ∧ (rAt i T tk s j).2.2.1.length = tk.length + j ∧ (∀ op n y ks ps, T = .mk op n y ks ps → ∃ y' ps', (rAt i T tk s j).2.1 = .mk op n y' ks ps' ∧ ps'.length = ps.length)
  | 0, _ => ⟨rfl, hf, fun _ _ => rfl, fun _ => rfl, rfl, fun op n y ks ps e => ⟨y, ps, e, rfl⟩⟩
  | j + 1, hj => by
    obtain ⟨h1, h2, h3, h4, h5, h6⟩ := ya9 (i := i) hf tk s j (by omega)
    obtain ⟨x, hx⟩ := zal (show j < (zad T i).length by omega)
    rw [ydc hx]
    generalize rAt i T tk s j = r at *
    obtain ⟨r1, rT, rtk, rs⟩ := r
    simp only at h1 h2 h3 h4 h5 h6
    subst h1
    have hlt : r1 < (zad rT i).length := by rw [h4]; omega
    obtain ⟨p, hp⟩ := zal (show r1 < (bp sk i).length by rw [ylh h2]; exact hlt)
    refine ⟨rfl, yea h2 hp _, fun m hm => ?_, fun m => ?_, ?_, fun op n y ks ps e => ?_⟩
    · simp only [ziy]
      rw [zhu _ hlt, List.getElem?_set_ne (by omega), h3 m (by omega)]
    · simp only [ziy]
      rw [zd8, h4]
    · simp only [ziy, List.length_append, List.length_singleton, h5]; omega
    · obtain ⟨y', ps', e1, e2⟩ := h6 op n y ks ps e
      simp only [ziy]
      rw [e1]
      obtain ⟨y2, ps2, e3, e4⟩ := zma op n y' ks ps' i r1 (zbe rtk)
      exact ⟨y2, ps2, e3, by rw [e4, e2]⟩
theorem zsp (i : Int) : ∀ (l : List Str) (r : Nat × Tm × List Str × Sc) (op n : Int) (x : Str) (ks : List Tm) (ps : List Ty), r.2.1 = .mk op n x ks ps → ∃ x' ps', (l.foldl (ziy i) r).2.1 = .mk op n x' ks ps' ∧ ps'.length = ps.length
  | [], r, op, n, x, ks, ps, h => ⟨x, ps, h, rfl⟩
  | y :: l, r, op, n, x, ks, ps, h => by
    obtain ⟨x1, ps1, h1, h2⟩ := zma op n x ks ps i r.1 (zbe r.2.2.1)
    obtain ⟨x2, ps2, h3, h4⟩ := zsp i l (ziy i r y) op n x1 ks ps1 (by simp only [ziy, h]; exact h1)
    exact ⟨x2, ps2, h3, h4.trans h2⟩
theorem zwv : ∀ (m i : Nat) (T : Tm) (tk : List Str) (s : Sc) (acc : List Sc) (op n : Int) (x : Str) (ks : List Tm) (ps : List Ty), T = .mk op n x ks ps → ∃ x' ps', (l1 m i T tk s acc).1 = .mk op n x' ks ps' ∧ ps'.length = ps.length
  | 0, i, T, tk, s, acc, op, n, x, ks, ps, h => ⟨x, ps, h, rfl⟩
  | m + 1, i, T, tk, s, acc, op, n, x, ks, ps, h => by
    obtain ⟨x1, ps1, h1, h2⟩ := zsp i (zad T i) (0, T, tk, s) op n x ks ps h
    obtain ⟨x2, ps2, h3, h4⟩ := zwv m (i + 1) (zlt i (zad T i) T tk s).2.1 (zlt i (zad T i) T tk s).2.2.1 s (acc ++ [(zlt i (zad T i) T tk s).2.2.2]) op n x1 ks ps1 h1
    exact ⟨x2, ps2, h3, h4.trans h2⟩
theorem zoi (op n : Int) (x : Str) (ks : List Tm) (ps : List Ty) (s : Sc) (tk : List Str) : ∃ x' ks' ps', (zgz (.mk op n x ks ps) s tk).1 = .mk op n x' ks' ps' := by
  by_cases h : op = 4
  · exact ⟨(zhb s x).getD x, ks, ps, by simp only [zgz, if_pos h]⟩
  · obtain ⟨x', ps', h1, _⟩ := zwv ks.length 0 (.mk op n x ks ps) tk s [] op n x ks ps rfl
    exact ⟨x', _, ps', by simp only [zgz, if_neg h, h1, ze6]; rfl⟩
theorem zfi {t u : Tm} (h : ∀ m, (zad t m).length = (zad u m).length) : ∀ m i, zhw t m i = zhw u m i
  | 0, _ => rfl
  | m + 1, i => by simp only [zhw, h, zfi h m]
theorem zmy (i : Int) : ∀ (l : List Str) (r : Nat × Tm × List Str × Sc), (l.foldl (ziy i) r).2.2.1.length = r.2.2.1.length + l.length ∧ ∀ m, (zad (l.foldl (ziy i) r).2.1 m).length = (zad r.2.1 m).length
  | [], r => ⟨rfl, fun _ => rfl⟩
  | x :: l, r => by
    obtain ⟨h1, h2⟩ := zmy i l (ziy i r x)
    refine ⟨?_, fun m => ?_⟩
    · have e : (ziy i r x).2.2.1.length = r.2.2.1.length + 1 := by simp [ziy]
      rw [List.foldl_cons, h1, e, List.length_cons]; omega
    · rw [List.foldl_cons, h2]; simp only [ziy, zd8]
theorem yj7 : ∀ (m i : Nat) (T : Tm) (tk : List Str) (s : Sc) (acc : List Sc), (l1 m i T tk s acc).2.1.length = tk.length + zhw T m i ∧ (l1 m i T tk s acc).2.2.length = acc.length + m
  | 0, i, T, tk, s, acc => ⟨rfl, rfl⟩
  | m + 1, i, T, tk, s, acc => by
    obtain ⟨h3, h4⟩ := zmy i (zad T i) (0, T, tk, s)
    obtain ⟨h1, h2⟩ := yj7 m (i + 1) (zlt i (zad T i) T tk s).2.1 (zlt i (zad T i) T tk s).2.2.1 s (acc ++ [(zlt i (zad T i) T tk s).2.2.2])
    simp only [l1]
    refine ⟨?_, ?_⟩
    · rw [h1]
      have e : (zlt i (zad T i) T tk s).2.2.1.length = tk.length + (zad T i).length := h3
      have e2 : zhw (zlt i (zad T i) T tk s).2.1 m (i + 1) = zhw T m (i + 1) := zfi h4 m (i + 1)
      rw [e, e2]; simp only [zhw]; omega
    · rw [h2, List.length_append, List.length_singleton]; omega
mutual
theorem zqm : ∀ (t : Tm) (s : Sc) (tk : List Str), (zgz t s tk).2.length = tk.length + zlk t
  | .mk op n x ks ps, s, tk => by
    by_cases h : op = 4
    · simp [zgz, zlk, h]
    · simp only [zgz, zlk, if_neg h]
      rw [yab, (yj7 ks.length 0 (.mk op n x ks ps) tk s []).1]; omega
theorem yab : ∀ (l : List Tm) (scs : List Sc) (tk : List Str), (ze3 l scs tk).2.length = tk.length + zes l
  | [], scs, tk => rfl
  | k :: r, scs, tk => by
    simp only [ze3, zes]
    rw [yab r, zqm k]; omega
end
theorem er_im {c : An} (h : er c = .im true [] []) : ∃ cs e, c = .im true cs e := by
  rcases c with ⟨s, o, n, x, v, ks, u, qs⟩ | ⟨s0, cs0, c0⟩
  · simp [er] at h
  · simp only [er, An.im.injEq] at h
    obtain ⟨rfl, _⟩ := h
    exact ⟨cs0, c0, rfl⟩
theorem zoy {b : Nat} {sk : An} {t k : Tm} {i : Nat} {o n : Int} {x : Str} {len cap rb : Nat} {ks : List An} {u : Value} {qs : List An}
    (hq : okQ sk) (hsk : sk = .mk true o n x (.slice (some ⟨rb, 0, none⟩) len cap) ks u qs) (hs : skK sk i = some (.im true [] [])) (hk : tmK t i = some k) {vs : List Value} {I : Imm} {w : World} {bs : List Nat} (h : (zcs b sk t).P vs I w bs) :
    zdh I w rb (i * 5) ((dTmc k).map .imm) := by
  obtain ⟨a, rfl, hv, hP⟩ := h
  obtain ⟨o', n', x', v', ks', u', qs', c, tx, tks, tps, rfl, rfl, rfl, hc, hvc, hkid, htk, e1, e2⟩ := zkb ((zhn a).1 hq) hv hk
  have hskc : er c = .im true [] [] := by
    simp only [er, skK] at hs
    rw [zlq hc] at hs
    exact Option.some.inj hs
  obtain ⟨cs, e, rfl⟩ := er_im hskc
  have hvv : v' = .slice (some ⟨rb, 0, none⟩) len cap := by simp only [er, An.mk.injEq] at hsk; exact hsk.2.2.2.2.1
  have hw := hP.2.2.2.2.2
  simp only [anW] at hw
  obtain ⟨_, ⟨cur, ty, kk, q1, q2⟩, hr, hone, _⟩ := zdl hw.1.2 hc
  simp only [vA] at hvc
  subst hvc
  rw [hvv] at q1
  simp only [Nat.zero_add, szA, cA] at q2
  refine ⟨cur, ty, kk, q1, fun j d hj => ?_⟩
  rw [List.getElem?_map] at hj
  obtain ⟨y, hy, rfl⟩ := Option.map_eq_some_iff.1 hj
  obtain ⟨z, hz⟩ : ∃ z, cs[j]? = some z := ⟨_, List.getElem?_eq_getElem (by rw [hr.1]; exact (List.getElem?_eq_some_iff.1 hy).1)⟩
  exact ⟨z, q2 j z hz, hone z (List.mem_of_getElem? hz), .imm _ _ (hr.2 j z y hz hy)⟩
theorem zkw {b : Nat} {sk : An} {t k : Tm} {i : Nat} {o n : Int} {x : Str} {len cap rb : Nat} {ks : List An} {u : Value} {qs : List An}
    (hq : okQ sk) (hsk : sk = .mk true o n x (.slice (some ⟨rb, 0, none⟩) len cap) ks u qs) (hs : skK sk i = some (.im true [] [])) (hk : tmK t i = some k) (k' : Tm) :
    ztl (zcs b sk t) (zcs b sk (zcj t i k')) rb (i * 5) ((dTmc k').map .imm) := by
  rintro vs I w bs ⟨a, rfl, hv, hP⟩
  obtain ⟨o', n', x', v', ks', u', qs', c, tx, tks, tps, rfl, rfl, rfl, hc, hvc, hkid, htk, e1, e2⟩ := zkb ((zhn a).1 hq) hv hk
  have hskc : er c = .im true [] [] := by
    simp only [er, skK] at hs
    rw [zlq hc] at hs
    exact Option.some.inj hs
  obtain ⟨cs, e, rfl⟩ := er_im hskc
  have hvv : v' = .slice (some ⟨rb, 0, none⟩) len cap := by simp only [er, An.mk.injEq] at hsk; exact hsk.2.2.2.2.1
  subst hvv
  have hloc : zeu (.mk true o' n' tx (.slice (some ⟨rb, 0, none⟩) len cap) ks' u' qs') b 0 [(false, i)] = some (.im true cs e, rb, i * 5) := by
    simp only [zeu]; rw [hkid]; rfl
  obtain ⟨q1, cur, ty, q2, q3, q4⟩ := yj9 (dTmc k') (by obtain ⟨_, _, _, _, _⟩ := k'; rfl) hloc vs I w bs hP
  refine ⟨q1, cur, ty, q2, q3, fun zs hr ho => ?_⟩
  obtain ⟨ys, hy⟩ := q4 zs hr ho
  refine ⟨_, zst [(false, i)] _ b 0 _ _ _ (.im true ys (dTmc k')) hloc rfl, ?_, hy⟩
  simp only [znr]
  rw [hkid]
  simp only [zyl, vA, zcj, dTmc]
  congr 4
  · rw [zg1, List.map_set, ← zg1, e1, ze2, ze2, List.map_set]
    rfl
  · rw [e2]
theorem zsr {sk : An} {t k : Tm} {i : Nat} (h : zih sk t) (hs : skK sk i = some (.im true [] [])) (hk : tmK t i = some k) (k' : Tm) : zih sk (zcj t i k') := by
  obtain ⟨a, o, n, x, ad, c, ks, u, qs, rfl, hv, rfl, h1, h2, h3, h4⟩ := h
  obtain ⟨op, tn, tx, tks, tps⟩ := t
  simp only [vA, dTmc, List.cons.injEq, V.sl.injEq, V.int.injEq, V.str.injEq, true_and, and_true] at hv
  obtain ⟨rfl, rfl, rfl, e1, e2⟩ := hv
  refine ⟨.mk true o n x (.slice ad (ks.set i (.im true [] (dTmc k'))).length c) (ks.set i (.im true [] (dTmc k'))) u qs, o, n, x, ad, c, ks.set i (.im true [] (dTmc k')), u, qs, ?_, ?_, rfl, h1, h2, by simpa using h3, h4⟩
  · simp only [er, List.length_set, An.mk.injEq, true_and, and_true]
    rw [ziw, List.map_set, ← ziw]
    simp only [er, skK] at hs ⊢
    apply List.ext_getElem?
    intro m
    by_cases e : i = m
    · subst e
      rw [List.getElem?_set_self (List.getElem?_eq_some_iff.1 hs).1, hs]
    · rw [List.getElem?_set_ne e]
  · simp only [vA, zcj, dTmc]
    congr 4
    · rw [zg1, List.map_set, ← zg1, e1, ze2, ze2, List.map_set]
      rfl
    · rw [e2]
set_option maxRecDepth 100000 in
theorem yft (b : Nat) (sk : An) (op n : Int) (x : Str) (ks : List Tm) (ps : List Ty) (kid : Int) (hk : kid ≤ 1000000) (hp : zbg op kid = false → zbr op kid = true → ∃ p, ps[(kid - 1).toNat]? = some p ∧ (za3 p).length ≤ 1000000) :
    zc8 Tryz.prog 65 [.raw (.pointer (some ⟨b, 0, none⟩)), .imm (.int .i64 kid)] [(1, some (.hp (zcs b sk (.mk op n x ks ps))))] (.ret (.own 4 (za5 (zad (.mk op n x ks ps) kid)).length) [(1, some (.hp (zcs b sk (.mk op n x ks ps)))), (4, some (.row 9 1 (za5 (zad (.mk op n x ks ps) kid))))]) := by
  refine zs0 (st0 := []) 1 (zcs b sk (.mk op n x ks ps)) (ydz op n x ks ps kid hk hp) rfl ⟨?_, trivial⟩ (by simp [nms]) (by simp [nms]) (by simp [nmD]) fun vs I J μ w bs h hle hb xs hx => ?_
  · show zuc (za5 _) = true
    generalize zad _ _ = l
    induction l with
    | nil => rfl
    | cons a r ih => exact ih
  · obtain ⟨a, _, ha, h⟩ := h
    refine ⟨hx.1, fun i v d h1 h2 => ?_⟩
    match i with
    | 0 =>
      simp at h2; subst h2
      rw [← ha]
      exact yh7 h hle hb (hx.2 0 v _ h1 rfl)
    | 1 =>
      simp at h2; subst h2
      exact hx.2 1 v _ h1 rfl
    | i + 2 => simp at h2
set_option maxRecDepth 100000 in
theorem zx9 (b : Nat) (sk : An) (t : Tm) (m : List Str) (o n : Int) (x xx : Str) (v : Value) (ks : List An) (u : Value) (ps : List An) (tks : List Tm) (tps : List Ty) (hsk : sk = .mk true o n xx v ks u ps) (ht : t = .mk o n x tks tps) (hp : zfx t) :
    zc8 Tryz.prog 66 [yia o n x v u, .mapr 1] [(2, some (.hp (zcs b sk t))), (1, some (.map (ze7 m)))] (.ret (.tup []) [(2, some (.hp (zcs b sk t))), (1, some (.map (ze7 (zdk t m))))]) := by
  refine zs0 (st0 := [(1, some (.map (ze7 m)))]) 2 (zcs b sk t) (zya t m hp) rfl ⟨?_, trivial⟩ (by simp [nms]) (by simp [nms]) (by simp [nmD, nmL]) fun vs I J μ w bs h hle hb xs hx => ?_
  · show zym (ze7 _) = true
    generalize zdk t m = l
    induction l with
    | nil => rfl
    | cons a r ih => exact ih
  · obtain ⟨a, he, ha, h⟩ := h
    rw [hsk] at he
    rcases a with ⟨s, o', n', x', v', ks', u', qs'⟩ | ⟨s0, cs0, c0⟩
    case im => simp [er] at he
    simp only [er, An.mk.injEq] at he
    obtain ⟨rfl, rfl, rfl, _, rfl, _, rfl, _⟩ := he
    subst ht
    have hx' : x' = x := by simp only [vA, dTmc, List.cons.injEq, V.str.injEq] at ha; exact ha.2.2.1
    subst hx'
    refine ⟨hx.1, fun i y d h1 h2 => ?_⟩
    match i with
    | 0 =>
      simp at h2; subst h2
      rw [← ha]
      exact ye5 h hle hb (hx.2 0 y _ h1 rfl)
    | 1 =>
      simp at h2; subst h2
      exact hx.2 1 y _ h1 rfl
    | i + 2 => simp at h2
theorem yh9 {b : Nat} {sk : An} {t : Tm} {o n : Int} {x xx : Str} {v u : Value} {js qs : List An} {ks : List Tm} {ps : List Ty} (hsk : sk = .mk true o n xx v js u qs) (ht : t = .mk o n x ks ps) {vs : List Value} {I J : Imm} {w : World} {bs : List Nat}
    (h : (zcs b sk t).P vs I w bs) (hIJ : I.le J) (hJ : ∀ b ∈ bs, J b = w.heap[b]?) (cs : List Value) (hc : RepL J noMu cs [.imm (.int .i64 o), .imm (.int .i64 n), .imm (.str x), .raw v, .raw u]) : RepVL J cs (dTmc t) := by
  obtain ⟨a, he, ha, h⟩ := h
  rw [hsk] at he
  rcases a with ⟨s, o', n', x', v', ks', u', qs'⟩ | ⟨s0, cs0, c0⟩
  case im => simp [er] at he
  simp only [er, An.mk.injEq] at he
  obtain ⟨rfl, rfl, rfl, _, rfl, _, rfl, _⟩ := he
  subst ht
  have hx' : x' = x := by simp only [vA, dTmc, List.cons.injEq, V.str.injEq] at ha; exact ha.2.2.1
  subst hx'
  have hf := zvw hIJ h.2.2.2.2.2 (fun k hk => hJ k (by rw [h.1]; simp [hk]))
  have hcs : cs = cA (.mk true o' n' x' v' ks' u' qs') := by
    match cs, hc.1 with
    | [c0, c1, c2, c3, c4], _ =>
      have e0 := (hc.2 0 c0 _ rfl rfl).immInv.intInv
      have e1 := (hc.2 1 c1 _ rfl rfl).immInv.intInv
      have e2 := zqy (hc.2 2 c2 _ rfl rfl)
      have e3 := (hc.2 3 c3 _ rfl rfl).rawInv
      have e4 := (hc.2 4 c4 _ rfl rfl).rawInv
      rw [e0, e1, e2, e3, e4]; rfl
  rw [hcs, ← ha]; exact hf
def yhd (s : Str) : Nat → List Str → Int
  | _, [] => -1
  | i, x :: r => if s == x then (i : Int) else yhd s (i + 1) r
theorem yd1 (s : Str) : ∀ (l : List Str) (i : Nat), decide (0 ≤ yhd s i l) = zck l s
  | [], i => by simp [yhd, zck]
  | x :: r, i => by
    have ih := yd1 s r (i + 1)
    by_cases e : s = x
    · have e2 : yhd s i (x :: r) = i := by simp [yhd, e]
      rw [e2]; subst e; simp [zck]
    · have e2 : yhd s i (x :: r) = yhd s (i + 1) r := by simp [yhd, e]
      rw [e2, ih]
      have e3 : ¬ x = s := fun h => e h.symm
      simp [zck, e3]
set_option maxRecDepth 100000 in
theorem yh4 (l : List Str) (s : Str) : zau Tryz.prog 100 [.sl (za5 l), .str s] (.int .i64 (yhd s 0 l)) := by
  refine zdp fun hv => ?_
  simp [zk9, vOk, maxLen] at hv
  refine zaf za6 Tryz.func100 (by decide +kernel) rfl [1] rfl rfl ?_
  refine fg_ [] rfl (by simp) ?_
  refine zah (fun i : Nat => [(8, .imm (.int .i64 i)), (7, .imm (.int .i64 l.length)), (0, .imm (.sl (za5 l))), (1, .imm (.str s))]) (fun _ => []) [1] (fun i => l.length - i) (fun i => i ≤ l.length ∧ yhd s 0 l = yhd s i (l.drop i)) 0
    ⟨Nat.zero_le _, rfl⟩ ⟨rfl, zcn (by simp), rfl, rfl, trivial⟩ trivial rfl fun i hi ih => ?_
  obtain ⟨hi1, hi2⟩ := hi
  refine fd_ [] rfl (by simp) ?_
  refine zaa rfl (fun h => ?_) (fun h => ?_)
  · simp at h
    obtain ⟨x, hx⟩ := zal h
    rw [zap hx] at hi2
    simp only [yhd] at hi2
    refine fd_ [] rfl (by simp) ?_
    refine fi_ rfl (c := [.str x]) (fun _ => ⟨by simp, by simpa using zcx hx, rfl⟩) (by simp [zag]) ?_
    refine fg_ [] rfl (by simp [zag]) ?_
    refine zaa rfl (fun h2 => ?_) (fun h2 => ?_)
    · have e : (s == x) = true := by simpa using h2
      rw [e] at hi2
      refine fd_ [] rfl (by simp) ?_
      refine zab ⟨_, rfl, tV ?_, trivial⟩
      rw [hi2]; rfl
    · have e : (s == x) = false := by simpa using h2
      rw [e] at hi2
      refine fd_ [] rfl (by simp) ?_
      exact zae (ih (i + 1) (by omega) ⟨by omega, by rw [hi2]; rfl⟩) ⟨zcn (w64 (by omega) (by omega)), rfl, rfl, rfl, trivial⟩ trivial rfl
  · simp at h
    rw [List.drop_eq_nil_of_le (by omega)] at hi2
    refine zar rfl ?_
    refine fd_ [] rfl (by simp) ?_
    refine zab ⟨_, rfl, tV ?_, trivial⟩
    rw [hi2]; rfl
set_option maxRecDepth 100000 in
theorem zyp (l : List Str) (s : Str) : zau Tryz.prog 69 [.sl (za5 l), .str s] (.bool (zck l s)) := by
  refine zaf za6 Tryz.func69 (by decide +kernel) rfl [1] rfl rfl ?_
  refine fg_ [] rfl (by simp) ?_
  refine zac rfl (fun _ => yh4 l s) (by simp) ?_
  refine fg_ [] rfl (by simp) ?_
  refine zab ⟨_, rfl, tV (congrArg _ ?_), trivial⟩
  exact yd1 s l 0
def zpo (op : Int) (x a b : Str) : Str := if op == 4 && x == a then b else x
mutual
def zeh : Tm → Str → Str → Tm
  | .mk op n x ks ps, a, b => .mk op n (zpo op x a b) (zc7 (.mk op n (zpo op x a b) [] ps) 0 ks a b) ps
def zc7 (t : Tm) : Nat → List Tm → Str → Str → List Tm
  | _, [], _, _ => []
  | i, k :: r, a, b => (if zck (zad t i) a then k else zeh k a b) :: zc7 t (i + 1) r a b
end
set_option maxRecDepth 100000 in
theorem zxq (e : List V) (r : List (List V)) (hs : ∀ c ∈ e :: r, c.length = 5) (hlen : (e :: r).length ≤ 1000000) :
    zc8 Tryz.prog 89 [.imm (.sl (e :: r))] [] (.ret (.own 2 (e :: r).length) [(2, some (.row 26 5 (e :: r)))]) := by
  refine zaf za6 Tryz.func89 (by decide +kernel) rfl [2, 1] rfl rfl ?_
  refine fg_ [] rfl (by simp) ?_
  refine zhr za6 rfl fun b hb => ?_
  have hb : b = false := hb (by simp)
  subst hb
  refine fd_ [.a] rfl (by simp) ?_
  refine zby za6 rfl ⟨hs, by simp only [maxLen, List.length_nil] at *; omega, by simp only [List.length_nil] at *; omega, fun c hc => by simp at hc, by simp⟩ ?_
  refine fg_ [] rfl (by simp) ?_
  exact zab ⟨_, rfl, rfl, rfl, trivial⟩
set_option maxRecDepth 100000 in
theorem zxr : zau Tryz.prog 89 [.sl []] (.sl []) := by
  refine zaf za6 Tryz.func89 (by decide +kernel) rfl [1] rfl rfl ?_
  refine fg_ [] rfl (by simp) ?_
  refine zhr za6 rfl fun b hb => ?_
  cases b with
  | true =>
    refine fd_ [.a] rfl (by simp) ?_
    exact zab ⟨_, rfl, tV rfl, trivial⟩
  | false =>
    refine fd_ [.a] rfl (by simp) ?_
    refine zsj za6 rfl ?_
    refine fg_ [] rfl (by simp) ?_
    exact zab ⟨_, rfl, tV rfl, trivial⟩
set_option maxRecDepth 100000 in
theorem zmc (l : List Str) (s : Str) (len : Nat) : zc8 Tryz.prog 69 [.own 1 len, .imm (.str s)] [(1, some (.row 9 1 (za5 l)))] (.ret (.imm (.bool (zck l s))) [(1, some (.row 9 1 (za5 l)))]) := by
  refine zm4 (stL := [(1, some (.row 9 1 (za5 l)))]) (st0 := []) (st1 := []) (zyp l s) rfl trivial (by simp [nms, nmD]) (fun i b h j hj => ?_) fun I J μ w hst hle hb xs hx => ?_
  · rcases zai.1 h with ⟨_, rfl⟩ | ⟨_, h⟩
    · simp [nmB] at hj
    · simp [zat, lk] at h
  · refine ⟨hx.1, fun i v d h1 h2 => ?_⟩
    match i with
    | 0 =>
      simp at h2; subst h2
      have h3 := hx.2 0 v _ h1 rfl
      cases h3 with
      | own _ _ a cap hm =>
        have hl : zat [(1, some (.row 9 1 (za5 l)))] 1 (.row 9 1 (za5 l)) := zai.2 (.inl ⟨rfl, rfl⟩)
        obtain ⟨g, q1, q2⟩ := hst.blk 1 _ hl
        rw [hm] at q1; cases q1
        exact .imm _ _ (zqe q2 hle fun b ho => hb 1 _ _ b hl hm ho)
    | 1 =>
      simp at h2; subst h2
      exact hx.2 1 v _ h1 rfl
    | i + 2 => simp at h2
def yfu (op n : Int) (x : Str) (ks : List Tm) (ps : List Ty) (len : Nat) : St := [(1, some (.cells 26 5 [.imm (.int .i64 op), .imm (.int .i64 n), .imm (.str x), .own 2 len, .imm (.sl (zb8 ps))])), (2, some (.row 26 5 (zcy ks)))]
set_option maxRecDepth 100000 in
theorem yj1 (op n : Int) (x : Str) (ks : List Tm) (ps : List Ty) (len : Nat) (kid : Int) (hk : kid ≤ 1000000) (hp : zbg op kid = false → zbr op kid = true → ∃ p, ps[(kid - 1).toNat]? = some p ∧ (za3 p).length ≤ 1000000) :
    zc8 Tryz.prog 65 [.ref 1 0, .imm (.int .i64 kid)] (yfu op n x ks ps len) (.ret (.own 4 (za5 (zad (.mk op n x ks ps) kid)).length) (yfu op n x ks ps len ++ [(4, some (.row 9 1 (za5 (zad (.mk op n x ks ps) kid))))])) := by
  refine zm4 (stL := yfu op n x ks ps len) (st0 := []) (ydz op n x ks ps kid hk hp) rfl ⟨?_, trivial⟩ (by simp [yfu, nms, nmD]) (fun i b h j hj => ?_) fun I J μ w hst hle hb xs hx => ?_
  · show zuc (za5 _) = true
    generalize zad _ _ = l
    induction l with
    | nil => rfl
    | cons a r ih => exact ih
  · rcases zai.1 h with ⟨_, rfl⟩ | ⟨_, h⟩
    · simp [nmB, nmL, nmD] at hj
      simp [yfu, nms, hj]
    · rcases zai.1 h with ⟨_, rfl⟩ | ⟨_, h⟩
      · simp [nmB] at hj
      · simp [zat, lk] at h
  · refine ⟨hx.1, fun i v d h1 h2 => ?_⟩
    match i with
    | 0 =>
      simp at h2; subst h2
      have h3 := hx.2 0 v _ h1 rfl
      exact ynf (k := 1) (r := 2) (e := 26) (sz := 5) (sz2 := 5) (es := zcy ks) hst rfl rfl hle hb (by rfl) h3
    | 1 =>
      simp at h2; subst h2
      exact hx.2 1 v _ h1 rfl
    | i + 2 => simp at h2
set_option maxRecDepth 100000 in
theorem ztz (es : List (List V)) (hne : es ≠ []) (hs : ∀ c ∈ es, c.length = 5) (hlen : es.length ≤ 1000000) :
    zc8 Tryz.prog 89 [.imm (.sl es)] [] (.ret (.own 2 es.length) [(2, some (.row 26 5 es))]) := by
  cases es with
  | nil => exact absurd rfl hne
  | cons e r => exact zxq e r hs hlen
def outB : St := [(6, some (.cells 26 5 [.imm (.int .i64 0), .imm (.int .i64 0), .imm (.str []), .nils, .nils]))]
set_option maxRecDepth 100000 in
theorem zyw : ∀ (t : Tm) (a b : Str), zfx t → zau Tryz.prog 68 [.agg (dTmc t), .str a, .str b] (.agg (dTmc (zeh t a b)))
  | .mk op n x ks ps, a, b, hok => by
    obtain ⟨hk1, hk2, hk3⟩ := hok
    refine zaf zaw Tryz.func68 (by decide +kernel) rfl [3, 6, 9, 10, 11, 12] rfl rfl ?_
    have tail : ∀ x1, zpo op x a b = x1 →
        DGo Tryz.prog Tryz.f68.ntmps (nms []) (yar ttP2 Tryz.f68.results.toList (.ret (.imm (.agg (dTmc (zeh (.mk op n x ks ps) a b)))) [])) [.code (zg0 Tryz.f68 2)]
          [(3, .ref 3 0), (6, .ref 6 0), (1, .imm (.str a)), (2, .imm (.str b))] ((3, some (.immb 26 5 (dTmc (.mk op n x1 ks ps)))) :: outB) [9, 10, 11, 12] := fun x1 hx1 => by
      by_cases e0 : ks = []
      · subst e0
        refine qd [] rfl (by simp) ?_
        refine zac rfl (fun _ => zxr) (by simp) ?_
        refine qg [] rfl (by simp) ?_
        refine zah (fun y : Nat => [(27, .imm (.int .i64 0)), (26, .imm (.int .i64 0)), (3, .ref 3 0), (6, .ref 6 0)]) (fun _ => (3, some (.immb 26 5 (dTmc (.mk op n x1 [] ps)))) :: outB) [9, 10, 11, 12] (fun y => y) (fun y => y = 0) 0
          rfl ⟨rfl, rfl, rfl, rfl, trivial⟩ ⟨rfl, rfl, trivial⟩ rfl fun y hi ih => ?_
        refine qd [] rfl (by simp) ?_
        refine zaa rfl (fun h => by simp at h) (fun h => ?_)
        refine zar rfl ?_
        refine qd [] rfl (by simp) ?_
        refine zab ⟨_, rfl, tV ?_, trivial⟩
        simp [zeh, zc7, hx1, dTmc, zcy]
      · have hne : zcy ks ≠ [] := fun he => e0 (List.eq_nil_of_length_eq_zero (by have := congrArg List.length he; simpa using this))
        have hfive : ∀ c ∈ zcy ks, c.length = 5 := fun c hc => by
          rw [ze2] at hc; obtain ⟨q, _, rfl⟩ := List.mem_map.1 hc; simp
        refine qd [] rfl (by simp) ?_
        refine zas (st0 := []) (fr := [9]) [] [(2, 9)] rfl (by simp) (ztz (zcy ks) hne hfive (by simp; omega)) trivial rfl rfl rfl rfl ?_
        refine qg [] rfl (by simp) ?_
        refine zah (fun y : Nat × List Tm => [(27, .imm (.int .i64 y.1)), (26, .imm (.int .i64 ks.length)), (25, .own 9 (zcy ks).length), (3, .ref 3 0), (6, .ref 6 0), (1, .imm (.str a)), (2, .imm (.str b))])
          (fun y => (3, some (.cells 26 5 [.imm (.int .i64 op), .imm (.int .i64 n), .imm (.str x1), .own 9 (zcy ks).length, .imm (.sl (zb8 ps))])) :: (9, some (.row 26 5 (zcy (y.2 ++ ks.drop y.1)))) :: outB) [10, 11, 12] (fun y => ks.length - y.1)
          (fun y => y.1 ≤ ks.length ∧ y.2.length = y.1 ∧ zc7 (.mk op n x1 [] ps) 0 ks a b = y.2 ++ zc7 (.mk op n x1 [] ps) y.1 (ks.drop y.1) a b) (0, [])
          ⟨Nat.zero_le _, rfl, rfl⟩ ⟨rfl, zcn (by simp), rfl, rfl, rfl, rfl, rfl, trivial⟩ ⟨rfl, rfl, rfl, trivial⟩ rfl fun y hi ih => ?_
        obtain ⟨i, dn⟩ := y
        obtain ⟨hi1, hi2, hi3⟩ := hi
        simp only at hi1 hi2 hi3
        refine qd [] rfl (by simp) ?_
        refine zaa rfl (fun h => ?_) (fun h => ?_)
        · simp at h
          obtain ⟨k, hk⟩ := zal h
          have hlen : (dn ++ ks.drop i).length = ks.length := by simp [hi2]; omega
          have hget : (dn ++ ks.drop i)[i]? = some k := by rw [List.getElem?_append_right (by omega), hi2]; simpa using hk
          refine qd [] rfl (by simp) ?_
          refine zda zaw rfl (fun _ => ⟨by simp, by simp [hi2]; omega⟩) (by simp) ?_
          refine qg [] rfl (by simp) ?_
          refine zhe zaw (e := dTmc k) rfl (fun _ => by simpa using zbu hget) rfl (by simp) ?_
          refine qg [] rfl (by simp) ?_
          refine zas (st0 := yfu op n x1 (dn ++ ks.drop i) ps (zcy ks).length) (fr := [11]) [(3, 1), (9, 2)] [(4, 11)] rfl (by simp) (yj1 op n x1 (dn ++ ks.drop i) ps (zcy ks).length i (by omega) (hk2 i h)) ⟨⟨rfl, rfl, rfl⟩, ⟨rfl, rfl, rfl⟩, trivial⟩ rfl rfl rfl rfl ?_
          refine qg [] rfl (by simp) ?_
          refine zas (st0 := [(1, some (.row 9 1 (za5 (zad (.mk op n x1 (dn ++ ks.drop i) ps) i))))]) (fr := []) [(11, 1)] [] rfl (by simp) (zmc (zad (.mk op n x1 (dn ++ ks.drop i) ps) i) a _) ⟨⟨rfl, rfl, rfl⟩, trivial⟩ rfl rfl rfl rfl ?_
          refine qg [] rfl (by simp) ?_
          have hb : zad (.mk op n x1 (dn ++ ks.drop i) ps) i = zad (.mk op n x1 [] ps) i := rfl
          refine zaa rfl (fun h2 => ?_) (fun h2 => ?_)
          · have h2 : zck (zad (.mk op n x1 [] ps) i) a = false := by simpa [hb] using h2
            refine qd [] rfl (by simp) ?_
            refine zac rfl (fun _ => zyw k a b (zgn hk3 (List.mem_of_getElem? hk))) (by simp) ?_
            refine qg [] rfl (by simp) ?_
            refine zda zaw rfl (fun _ => ⟨by simp, by simp [hi2]; omega⟩) (by simp) ?_
            refine qg [] rfl (by simp) ?_
            refine zqi zaw (e := dTmc k) (e' := dTmc (zeh k a b)) rfl (by simpa using zbu hget) (by show 0 + 5 ≤ 5; decide) (by simp [List.drop_eq_nil_of_le]) (by simp) ?_
            refine qg [] rfl (by refine ⟨rfl, ?_⟩; simp [zb7]) ?_
            have hg := zap hk
            rw [hg] at hi3
            have e3 : (zcy (dn ++ ks.drop i)).set i (dTmc (zeh k a b)) = zcy ((dn ++ [zeh k a b]) ++ ks.drop (i + 1)) := by
              rw [← zm6, hg]; simp [List.set_append, hi2]
            refine zae (ih (i + 1, dn ++ [zeh k a b]) (by simp only; omega) ⟨by simp only; omega, by simp [hi2], by simp only [zc7, h2] at hi3; simpa using hi3⟩) ⟨zcn (w64 (by simp only; omega) (by simp only; omega)), rfl, rfl, rfl, rfl, rfl, rfl, trivial⟩ ⟨rfl, ?_, rfl, trivial⟩ rfl
            simp only [← e3]
            rfl
          · have h2 : zck (zad (.mk op n x1 [] ps) i) a = true := by simpa [hb] using h2
            refine zdr ?_
            refine qd [] rfl (by simp) ?_
            have hg := zap hk
            rw [hg] at hi3
            have e3 : dn ++ ks.drop i = (dn ++ [k]) ++ ks.drop (i + 1) := by rw [hg]; simp
            refine zae (ih (i + 1, dn ++ [k]) (by simp only; omega) ⟨by simp only; omega, by simp [hi2], by simp only [zc7, h2, if_true] at hi3; simpa using hi3⟩) ⟨zcn (w64 (by simp only; omega) (by simp only; omega)), rfl, rfl, rfl, rfl, rfl, rfl, trivial⟩ ⟨rfl, ?_, rfl, trivial⟩ rfl
            simp only [← e3]
            rfl
        · simp at h
          have e : ks.drop i = [] := List.drop_eq_nil_of_le (by omega)
          rw [e] at hi3
          have hi3 : zc7 (.mk op n x1 [] ps) 0 ks a b = dn := by simpa [zc7] using hi3
          simp only [e, List.append_nil]
          refine zar rfl ?_
          refine zb4 9 rfl ?_
          refine qd [] rfl (by simp) ?_
          refine zab ⟨_, rfl, tV ?_, trivial⟩
          simp [zeh, hx1, hi3, dTmc]
    refine qg [] rfl (by simp) ?_
    refine zaa rfl (fun h => ?_) (fun h => ?_)
    · refine zpu zaw mixed 5 [] rfl (by simp) ?_
      refine zae (tail b ?_) ⟨rfl, rfl, rfl, rfl, trivial⟩ ⟨rfl, rfl, trivial⟩ rfl
      cases e1 : (op == 4) <;> cases e2 : (x == a) <;> simp [e1, e2] at h
      simp [zpo, e1, e2]
    · refine zdr ?_
      refine zae (tail x ?_) ⟨rfl, rfl, rfl, rfl, trivial⟩ ⟨rfl, rfl, trivial⟩ rfl
      cases e1 : (op == 4) <;> cases e2 : (x == a) <;> simp [e1, e2] at h <;> simp [zpo, e1, e2]
termination_by t => SizeOf.sizeOf t
decreasing_by
  all_goals
    have := List.sizeOf_lt_of_mem (List.mem_of_getElem? hk)
    simp_wf
    omega
set_option maxRecDepth 100000 in
theorem zpl (ps qs : List Ty) (hlen : ps.length ≤ 1000000) (h : ∀ p ∈ ps, ∀ q, zau Tryz.prog 79 [.agg (zb0 p), .agg (zb0 q)] (.bool (yap p q))) :
    zau Tryz.prog 78 [.sl (zb8 ps), .sl (zb8 qs), .fn (.func 79)] (.bool (zfn ps qs)) := by
  refine zaf zaw Tryz.func78 (by decide +kernel) rfl [1, 2, 3] rfl rfl ?_
  refine qg [] rfl (by simp) ?_
  refine zaa rfl (fun hl => ?_) (fun hl => ?_)
  · have hl : ps.length ≠ qs.length := by simp at hl; omega
    refine qd [] rfl (by simp) ?_
    refine zab ⟨_, rfl, tV (congrArg _ ?_), trivial⟩
    rw [zsx hl]
  have hl : ps.length = qs.length := by simp at hl; omega
  refine qd [] rfl (by simp) ?_
  refine zah (fun i : Nat => [(17, .imm (.int .i64 i)), (16, .imm (.int .i64 ps.length)), (15, .imm (.sl (zb8 ps))), (1, .imm (.sl (zb8 qs))), (2, .imm (.fn (.func 79)))]) (fun _ => []) [1, 2, 3] (fun i => ps.length - i) (fun i => i ≤ ps.length ∧ zfn ps qs = zfn (ps.drop i) (qs.drop i)) 0
    ⟨Nat.zero_le _, rfl⟩ ⟨rfl, zcn (by simp), rfl, rfl, rfl, trivial⟩ trivial rfl fun i hi ih => ?_
  obtain ⟨hi1, hi2⟩ := hi
  refine qd [] rfl (by simp) ?_
  refine zaa rfl (fun h1 => ?_) (fun h1 => ?_)
  · simp at h1
    obtain ⟨p, hp⟩ := zal h1
    obtain ⟨q, hq⟩ := zal (l := qs) (i := i) (by omega)
    rw [zap hp, zap hq] at hi2
    simp only [zfn] at hi2
    refine qd [] rfl (by simp) ?_
    refine qi_ rfl (c := zb0 p) (fun _ => ⟨by simp, by simpa using zb6 hp, by simp⟩) (by simp) ?_
    refine qg [] rfl (by simp) ?_
    refine qi_ rfl (c := zb0 q) (fun _ => ⟨by simp, by simpa using zb6 hq, by simp⟩) (by simp) ?_
    refine qg [] rfl (by simp) ?_
    refine zac rfl (fun _ => h p (List.mem_of_getElem? hp) q) (by simp) ?_
    refine qg [] rfl (by simp) ?_
    refine zaa rfl (fun h2 => ?_) (fun h2 => ?_)
    · have e : yap p q = false := by simpa using h2
      refine qd [] rfl (by simp) ?_
      refine zab ⟨_, rfl, tV (congrArg _ ?_), trivial⟩
      rw [hi2, e]; rfl
    · have e : yap p q = true := by simpa using h2
      rw [e, Bool.true_and] at hi2
      refine zdr ?_
      refine qd [] rfl (by simp) ?_
      exact zae (ih (i + 1) (by omega) ⟨by omega, hi2⟩) ⟨zcn (w64 (by omega) (by omega)), rfl, rfl, rfl, rfl, trivial⟩ trivial rfl
  · simp at h1
    rw [List.drop_eq_nil_of_le (by omega), List.drop_eq_nil_of_le (by omega)] at hi2
    refine zar rfl ?_
    refine qd [] rfl (by simp) ?_
    refine zab ⟨_, rfl, tV (congrArg _ ?_), trivial⟩
    rw [hi2]; rfl
set_option maxRecDepth 100000 in
theorem zud : ∀ a b : Ty, zl2 a → zau Tryz.prog 79 [.agg (zb0 a), .agg (zb0 b)] (.bool (yap a b))
  | .mk s n x ps, .mk s' n' x' qs, hw => by
    obtain ⟨hw1, hw2⟩ := hw
    refine zaf zaw Tryz.func79 (by decide +kernel) rfl [1, 2, 3] rfl rfl ?_
    refine qg [] rfl (by simp) ?_
    refine zac rfl (fun _ => zpl ps qs hw1 fun p hp q => zud p q (zf7 hw2 hp)) (by simp [zag]) ?_
    refine qg [] rfl (by simp) ?_
    refine zab ⟨_, rfl, tV (congrArg _ ?_), trivial⟩
    simp only [yap]
    cases s == s' <;> cases n == n' <;> cases x == x' <;> cases zfn ps qs <;> rfl
termination_by a => SizeOf.sizeOf a
decreasing_by
  all_goals
    have := List.sizeOf_lt_of_mem hp
    simp_wf
    omega
set_option maxRecDepth 100000 in
theorem zxo (ps qs : List Tm) (hlen : ps.length ≤ 1000000) (h : ∀ p ∈ ps, ∀ q, zau Tryz.prog 48 [.agg (dTmc p), .agg (dTmc q)] (.bool (ztw p q))) :
    zau Tryz.prog 80 [.sl (zcy ps), .sl (zcy qs), .fn (.func 48)] (.bool (zii ps qs)) := by
  refine zaf zaw Tryz.func80 (by decide +kernel) rfl [1, 2, 3] rfl rfl ?_
  refine qg [] rfl (by simp) ?_
  refine zaa rfl (fun hl => ?_) (fun hl => ?_)
  · have hl : ps.length ≠ qs.length := by simp at hl; omega
    refine qd [] rfl (by simp) ?_
    refine zab ⟨_, rfl, tV (congrArg _ ?_), trivial⟩
    rw [zz0 hl]
  have hl : ps.length = qs.length := by simp at hl; omega
  refine qd [] rfl (by simp) ?_
  refine zah (fun i : Nat => [(17, .imm (.int .i64 i)), (16, .imm (.int .i64 ps.length)), (15, .imm (.sl (zcy ps))), (1, .imm (.sl (zcy qs))), (2, .imm (.fn (.func 48)))]) (fun _ => []) [1, 2, 3] (fun i => ps.length - i) (fun i => i ≤ ps.length ∧ zii ps qs = zii (ps.drop i) (qs.drop i)) 0
    ⟨Nat.zero_le _, rfl⟩ ⟨rfl, zcn (by simp), rfl, rfl, rfl, trivial⟩ trivial rfl fun i hi ih => ?_
  obtain ⟨hi1, hi2⟩ := hi
  refine qd [] rfl (by simp) ?_
  refine zaa rfl (fun h1 => ?_) (fun h1 => ?_)
  · simp at h1
    obtain ⟨p, hp⟩ := zal h1
    obtain ⟨q, hq⟩ := zal (l := qs) (i := i) (by omega)
    rw [zap hp, zap hq] at hi2
    simp only [zii] at hi2
    refine qd [] rfl (by simp) ?_
    refine qi_ rfl (c := dTmc p) (fun _ => ⟨by simp, by simpa using zbu hp, by simp⟩) (by simp) ?_
    refine qg [] rfl (by simp) ?_
    refine qi_ rfl (c := dTmc q) (fun _ => ⟨by simp, by simpa using zbu hq, by simp⟩) (by simp) ?_
    refine qg [] rfl (by simp) ?_
    refine zac rfl (fun _ => h p (List.mem_of_getElem? hp) q) (by simp) ?_
    refine qg [] rfl (by simp) ?_
    refine zaa rfl (fun h2 => ?_) (fun h2 => ?_)
    · have e : ztw p q = false := by simpa using h2
      refine qd [] rfl (by simp) ?_
      refine zab ⟨_, rfl, tV (congrArg _ ?_), trivial⟩
      rw [hi2, e]; rfl
    · have e : ztw p q = true := by simpa using h2
      rw [e, Bool.true_and] at hi2
      refine zdr ?_
      refine qd [] rfl (by simp) ?_
      exact zae (ih (i + 1) (by omega) ⟨by omega, hi2⟩) ⟨zcn (w64 (by omega) (by omega)), rfl, rfl, rfl, rfl, trivial⟩ trivial rfl
  · simp at h1
    rw [List.drop_eq_nil_of_le (by omega), List.drop_eq_nil_of_le (by omega)] at hi2
    refine zar rfl ?_
    refine qd [] rfl (by simp) ?_
    refine zab ⟨_, rfl, tV (congrArg _ ?_), trivial⟩
    rw [hi2]; rfl
set_option maxRecDepth 100000 in
theorem yh2 : ∀ a b : Tm, zi2 a → zau Tryz.prog 48 [.agg (dTmc a), .agg (dTmc b)] (.bool (ztw a b))
  | .mk s n x ks ps, .mk s' n' x' js qs, hw => by
    obtain ⟨hw1, hw2, hw3, hw4⟩ := hw
    refine zaf zaw Tryz.func48 (by decide +kernel) rfl [1, 2, 3] rfl rfl ?_
    refine qg [] rfl (by simp) ?_
    refine zac rfl (fun _ => zpl ps qs hw2 fun p hp q => zud p q (hw3 p hp)) (by simp [zag]) ?_
    refine qg [] rfl (by simp) ?_
    refine zac rfl (fun _ => zxo ks js hw1 fun p hp q => yh2 p q (zf6 hw4 hp)) (by simp [zag]) ?_
    refine qg [] rfl (by simp) ?_
    refine zab ⟨_, rfl, tV (congrArg _ ?_), trivial⟩
    simp only [ztw]
    cases s == s' <;> cases n == n' <;> cases x == x' <;> cases zfn ps qs <;> cases zii ks js <;> rfl
termination_by a => SizeOf.sizeOf a
decreasing_by
  all_goals
    have := List.sizeOf_lt_of_mem hp
    simp_wf
    omega
mutual
def yp2 : Tm → Nat
  | .mk op n x ks ps => (if op = 4 then 1 else 0) + ztu (.mk op n x ks ps) 0 ks
def ztu (t : Tm) : Nat → List Tm → Nat
  | _, [] => 0
  | i, k :: r => (zad t i).length + yp2 k + ztu t (i + 1) r
end
theorem zxl (m : List Str) (s : Str) : (zl0 m s).length ≤ m.length + 1 := by
  unfold zl0; split <;> simp
theorem zk1 : ∀ (l m : List Str), (l.foldl zl0 m).length ≤ m.length + l.length
  | [], m => by simp
  | x :: r, m => by
    have h1 := zk1 r (zl0 m x)
    have h2 := zxl m x
    simp only [List.foldl_cons, List.length_cons]; omega
mutual
theorem zq0 : ∀ (t : Tm) (m : List Str), (zdk t m).length ≤ m.length + yp2 t
  | .mk op n x ks ps, m => by
    simp only [zdk, yp2]
    have h1 := zou (.mk op n x ks ps) 0 ks (if op = 4 then zl0 m x else m)
    have h2 := zxl m x
    split at h1 <;> split <;> omega
theorem zou (t : Tm) : ∀ (i : Nat) (ks : List Tm) (m : List Str), (zex t i ks m).length ≤ m.length + ztu t i ks
  | _, [], m => by simp [zex, ztu]
  | i, k :: r, m => by
    simp only [zex, ztu]
    have h1 := zou t (i + 1) r (zdk k ((zad t i).foldl zl0 m))
    have h2 := zq0 k ((zad t i).foldl zl0 m)
    have h3 := zk1 (zad t i) m
    omega
end
theorem zwq {m : List Str} {s y : Str} : y ∈ zl0 m s ↔ y ∈ m ∨ y = s := by
  unfold zl0
  split
  · rename_i h
    have : s ∈ m := by
      have : ∀ {l : List Str}, zck l s = true → s ∈ l := by
        intro l
        induction l with
        | nil => intro h; simp [zck] at h
        | cons a r ih =>
          intro h
          simp only [zck, Bool.or_eq_true, beq_iff_eq] at h
          rcases h with h | h
          · simp [h]
          · exact List.mem_cons_of_mem _ (ih h)
      exact this h
    constructor
    · exact .inl
    · rintro (h | rfl)
      · exact h
      · exact this
  · simp
theorem zkz {y : Str} : ∀ {l m : List Str}, y ∈ l.foldl zl0 m ↔ y ∈ m ∨ y ∈ l
  | [], m => by simp
  | x :: r, m => by
    simp only [List.foldl_cons, zkz (l := r), zwq, List.mem_cons, or_assoc]
mutual
def zi7 : Tm → List Str
  | .mk op n x ks ps => (if op = 4 then [x] else []) ++ zfs (.mk op n x ks ps) 0 ks
def zfs (t : Tm) : Nat → List Tm → List Str
  | _, [] => []
  | i, k :: r => zad t i ++ zi7 k ++ zfs t (i + 1) r
end
mutual
theorem zr2 {y : Str} : ∀ (t : Tm) (m : List Str), y ∈ zdk t m ↔ y ∈ m ∨ y ∈ zi7 t
  | .mk op n x ks ps, m => by
    simp only [zdk, zi7]
    rw [zo6 (.mk op n x ks ps) 0 ks]
    by_cases h : op = 4
    · simp only [h, if_true, zwq, List.singleton_append, List.mem_cons, or_assoc]
    · simp only [h, if_false, List.nil_append]
theorem zo6 {y : Str} (t : Tm) : ∀ (i : Nat) (ks : List Tm) (m : List Str), y ∈ zex t i ks m ↔ y ∈ m ∨ y ∈ zfs t i ks
  | _, [], m => by simp [zex, zfs]
  | i, k :: r, m => by
    simp only [zex, zfs]
    rw [zo6 t (i + 1) r, zr2 k, zkz]
    simp only [List.mem_append, or_assoc]
end
theorem zc4 (T : Tm) (a b : Str) : ∀ (i : Nat) (ks : List Tm), (zc7 T i ks a b).length = ks.length
  | _, [] => by simp [zc7]
  | i, k :: r => by simp [zc7, zc4 T a b (i + 1) r]
mutual
theorem zkp (a b : Str) : ∀ t : Tm, zcp (zeh t a b) = zcp t
  | .mk op n x ks ps => by
    simp only [zeh, zcp, zz8 a b (.mk op n (zpo op x a b) [] ps) 0 ks]
theorem zz8 (a b : Str) (T : Tm) : ∀ (i : Nat) (ks : List Tm), zco (zc7 T i ks a b) = zco ks
  | _, [] => by simp [zc7]
  | i, k :: r => by
    have h1 := zkp a b k
    have h2 := zz8 a b T (i + 1) r
    simp only [zc7, zco, h2]
    split
    · rfl
    · rw [h1]
end
mutual
theorem zxv (a b : Str) : ∀ t : Tm, zi2 t → zi2 (zeh t a b)
  | .mk op n x ks ps, h => by
    obtain ⟨h1, h2, h3, h4⟩ := h
    simp only [zeh]
    exact ⟨by rw [zc4]; exact h1, h2, h3, zt1 a b _ 0 ks h4⟩
theorem zt1 (a b : Str) (T : Tm) : ∀ (i : Nat) (ks : List Tm), zqq ks → zqq (zc7 T i ks a b)
  | _, [], _ => by simp [zc7, zqq]
  | i, k :: r, h => by
    simp only [zc7]
    refine ⟨?_, zt1 a b T (i + 1) r h.2⟩
    split
    · exact h.1
    · exact zxv a b k h.1
end
mutual
theorem zur (a b : Str) : ∀ t : Tm, zfx t → zfx (zeh t a b)
  | .mk op n x ks ps, h => by
    obtain ⟨h1, h2, h3⟩ := h
    simp only [zeh]
    exact ⟨by rw [zc4]; exact h1, fun i hi => h2 i (by rw [zc4] at hi; exact hi), zrl a b _ 0 ks h3⟩
theorem zrl (a b : Str) (T : Tm) : ∀ (i : Nat) (ks : List Tm), zlj ks → zlj (zc7 T i ks a b)
  | _, [], _ => by simp [zc7, zlj]
  | i, k :: r, h => by
    simp only [zc7]
    refine ⟨?_, zrl a b T (i + 1) r h.2⟩
    split
    · exact h.1
    · exact zur a b k h.1
end
end Go.Hk
namespace Go.Proofs
open Go.Shelf
def Tryz.mSort_ren : Go.Shelf.Ren := ⟨fun | 6 => 77 | 8 => 107 | 9 => 106 | 19 => 124 | 20 => 125 | 21 => 115 | 22 => 116 | 23 => 117 | 24 => 118 | 25 => 119 | 26 => 120 | 27 => 121 | 28 => 122 | 29 => 123 | 36 => 129 | 31 => 130 | 32 => 131 | 37 => 132 | 38 => 133 | 39 => 134 | 41 => 135 | n => n, fun | 27 => 36 | 29 => 9 | 3 => 3 | 32 => 136 | 26 => 36 | 0 => 0 | 44 => 159 | 46 => 161 | 4 => 4 | 36 => 151 | 35 => 150 | 41 => 156 | 5 => 5 | 9 => 9 | 53 => 164 | 57 => 168 | 63 => 170 | 64 => 171 | n => n, fun | n => n⟩
theorem Tryz.mSort : Go.Proofs.SlLaysM.n6 Tryz.prog Tryz.mSort_ren := {
  mixed := by kernel_rfl
  f6 := ⟨Tryz.f77.name, by decide, Tryz.func77.trans (congrArg some (by kernel_rfl))⟩
  f8 := Tryz.func107.trans (congrArg some (by kernel_rfl))
  f9 := ⟨Tryz.f106.name, by decide, Tryz.func106.trans (congrArg some (by kernel_rfl))⟩
  f19 := Tryz.func124.trans (congrArg some (by kernel_rfl))
  f20 := Tryz.func125.trans (congrArg some (by kernel_rfl))
  f21 := ⟨Tryz.f115.name, by decide, Tryz.func115.trans (congrArg some (by kernel_rfl))⟩
  f22 := ⟨Tryz.f116.name, by decide, Tryz.func116.trans (congrArg some (by kernel_rfl))⟩
  f23 := ⟨Tryz.f117.name, by decide, Tryz.func117.trans (congrArg some (by kernel_rfl))⟩
  f24 := ⟨Tryz.f118.name, by decide, Tryz.func118.trans (congrArg some (by kernel_rfl))⟩
  f25 := ⟨Tryz.f119.name, by decide, Tryz.func119.trans (congrArg some (by kernel_rfl))⟩
  f26 := ⟨Tryz.f120.name, by decide, Tryz.func120.trans (congrArg some (by kernel_rfl))⟩
  f27 := ⟨Tryz.f121.name, by decide, Tryz.func121.trans (congrArg some (by kernel_rfl))⟩
  f28 := ⟨Tryz.f122.name, by decide, Tryz.func122.trans (congrArg some (by kernel_rfl))⟩
  f29 := ⟨Tryz.f123.name, by decide, Tryz.func123.trans (congrArg some (by kernel_rfl))⟩
  f31 := Tryz.func130.trans (congrArg some (by kernel_rfl))
  f32 := Tryz.func131.trans (congrArg some (by kernel_rfl))
  f36 := ⟨Tryz.f129.name, by decide, Tryz.func129.trans (congrArg some (by kernel_rfl))⟩
  f37 := ⟨Tryz.f132.name, by decide, Tryz.func132.trans (congrArg some (by kernel_rfl))⟩
  f38 := ⟨Tryz.f133.name, by decide, Tryz.func133.trans (congrArg some (by kernel_rfl))⟩
  f39 := ⟨Tryz.f134.name, by decide, Tryz.func134.trans (congrArg some (by kernel_rfl))⟩
  f41 := ⟨Tryz.f135.name, by decide, Tryz.func135.trans (congrArg some (by kernel_rfl))⟩
  t0 := Tryz.underlying0
  a0 := Tryz.isAgg0
  z0 := Tryz.sizeOf0
  v0 := Tryz.zeroValue0
  t3 := Tryz.underlying3
  a3 := Tryz.isAgg3
  z3 := Tryz.sizeOf3
  v3 := Tryz.zeroValue3
  t4 := Tryz.underlying4
  a4 := Tryz.isAgg4
  z4 := Tryz.sizeOf4
  v4 := Tryz.zeroValue4
  t5 := Tryz.underlying5
  a5 := Tryz.isAgg5
  z5 := Tryz.sizeOf5
  v5 := Tryz.zeroValue5
  t9 := Tryz.underlying9
  a9 := Tryz.isAgg9
  z9 := Tryz.sizeOf9
  v9 := Tryz.zeroValue9
  t26 := Tryz.underlying36
  a26 := Tryz.isAgg36
  z26 := Tryz.sizeOf36
  v26 := Tryz.zeroValue36
  t27 := Tryz.underlying36
  a27 := Tryz.isAgg36
  z27 := Tryz.sizeOf36
  v27 := Tryz.zeroValue36
  t29 := Tryz.underlying9
  a29 := Tryz.isAgg9
  z29 := Tryz.sizeOf9
  v29 := Tryz.zeroValue9
  t32 := Tryz.underlying136
  a32 := Tryz.isAgg136
  z32 := Tryz.sizeOf136
  v32 := Tryz.zeroValue136
  t35 := Tryz.underlying150
  a35 := Tryz.isAgg150
  z35 := Tryz.sizeOf150
  v35 := Tryz.zeroValue150
  t36 := Tryz.underlying151
  a36 := Tryz.isAgg151
  z36 := Tryz.sizeOf151
  v36 := Tryz.zeroValue151
  t41 := Tryz.underlying156
  a41 := Tryz.isAgg156
  z41 := Tryz.sizeOf156
  v41 := Tryz.zeroValue156
  t44 := Tryz.underlying159
  a44 := Tryz.isAgg159
  z44 := Tryz.sizeOf159
  v44 := Tryz.zeroValue159
  t46 := Tryz.underlying161
  a46 := Tryz.isAgg161
  z46 := Tryz.sizeOf161
  v46 := Tryz.zeroValue161
  t53 := Tryz.underlying164
  a53 := Tryz.isAgg164
  z53 := Tryz.sizeOf164
  v53 := Tryz.zeroValue164
  t57 := Tryz.underlying168
  a57 := Tryz.isAgg168
  z57 := Tryz.sizeOf168
  v57 := Tryz.zeroValue168
  t63 := Tryz.underlying170
  a63 := Tryz.isAgg170
  z63 := Tryz.sizeOf170
  v63 := Tryz.zeroValue170
  t64 := Tryz.underlying171
  a64 := Tryz.isAgg171
  z64 := Tryz.sizeOf171
  v64 := Tryz.zeroValue171 }
end Go.Proofs
namespace Go.Hk
open Go.Proofs Go.RowKit Go.Maps Go.Sort
theorem zqf : Keyed Tryz.prog 9 := string_keyed Tryz.underlying9
theorem yqd : (Tryz.prog.info? 9).map (fun i => (i.zero, i.size, i.bytes)) = some (some (.string ⟨#[]⟩), 1, 16) := by kernel_rfl
theorem ypr (m : Nat) (blk off cap : Nat) (ss : List (List UInt8)) (W : World) (hH : Holds encStr W blk off ss.toArray) (hblk : blk < W.heap.size) (hsz : ss.length < 4611686018427387904) :
    CallsIn Fence.wide m Tryz.prog 77 #[.slice (some ⟨blk, off, none⟩) ss.length cap] W fun e w' => e = .returned (.tuple #[]) ∧ ∃ k os, w' = grow (putRow encStr (Sort.ahead W k) blk off (ss.mergeSort fun x y => decide (x ≤ y)).toArray) os :=
  callsIn_wide.2 (AnyM.slices_Sort_string Tryz.mSort blk off cap ss W hH hblk hsz)
theorem ymg (m : Nat) (p : Option Addr) (cap : Nat) (W : World) : CallsIn Fence.wide m Tryz.prog 77 #[.slice p 0 cap] W fun e w' => e = .returned (.tuple #[]) ∧ w' = W :=
  callsIn_wide.2 (AnyM.slices_Sort_string_none Tryz.mSort p cap W)
set_option maxRecDepth 100000 in
set_option maxHeartbeats 1000000 in
theorem zyc {H : Type} (b n : Nat) (D0 : DataW H) (w : World) (hown : w.ownsMap Tryz.prog 9 (plainElem Tryz.prog 4) b n D0) (hmax : Maps.size D0 ≤ maxLen) (hbytes : 16 * Maps.size D0 ≤ 140737488355328) :
    CallsIn Fence.wide 68 Tryz.prog 47 #[.map (some b)] w fun e w' => ∃ (v : Value) (ss : List (List UInt8)), e = .returned v ∧ ss.Perm (strKeys D0) ∧
      w'.ownsRow w.heap.size 9 1 v ss.length ((ss.mergeSort (fun x y => decide (x ≤ y))).map encStr) ∧ (v = .slice none 0 0 ↔ ss = []) ∧ Below w.heap.size w w' := by
  obtain ⟨i0, hi, hz0, hz1, hz2⟩ := info_parts yqd
  have hbl := hown.lt
  have hfn : Fence.wide.fn 77 := trivial
  refine callsIn_of_wp Tryz.func47 rfl trivial ?_ rfl
  simp only [Tryz.ntmps47, List.size_toArray, List.length_cons, List.length_nil, Nat.reduceAdd, Nat.reduceSub, Array.replicate_succ, Array.replicate_zero, List.push_toArray, List.append_toArray, List.nil_append, List.cons_append]
  gi_wp2_with (first
    | (gi_at_range; refine wpListIn_range_own _ rfl _ 61 rfl 9 4 zqf Tryz.underlying61 _ b n _ rfl hown ?_; intro w0 hrg0 hg0 hs0)
    | gi_in)
  go_frame
  gi_loopw [3] (fun v wr => ∃ (left : Lit → Bool) (cnt : Nat) (ss : List (List UInt8)), wr.ranges Tryz.prog 9 (plainElem Tryz.prog 4) b w.heap.size n D0 left cnt ∧ ss.length + cnt ≤ Maps.size D0 ∧
      wr.ownsRow w.heap.size 9 1 v ss.length (ss.map encStr) ∧ (v = .slice none 0 0 ↔ ss = []) ∧ Collected D0 left ss ∧ Below w.heap.size w wr)
    (fun _ wr => wr.rangeLeft b w.heap.size)
  case atStart =>
    exact ⟨_, _, [], hrg0, by simp, World.ownsRow_nil _ _ _ _, by simp, Collected.start D0, (Below.refl _ _).grown hg0 (Nat.le_refl _) (fun j hj => by cases hj)⟩
  case round =>
    obtain ⟨left, cnt, ss, hrg, hcs, hrow, hnn, hC, hnx⟩ := hrel
    gi_wp2_with (first
      | (gi_at_next; refine wpListIn_next_ranges _ rfl _ rfl 9 zqf (plainElem Tryz.prog 4) encStr (fun v : Value => v) (fun key kl hk => by obtain ⟨x, hx, _⟩ := Maps.keyOf_str Tryz.underlying9 hk; exact ⟨x, hx⟩) (fun v y hv => ⟨v, rfl⟩) b w.heap.size n _ _ _ rfl hrg ?_ ?_)
      | gi_in)
    · intro hc0 hl0
      rcases hrow.2 with ⟨hnil, hz⟩ | ⟨g, cap, cur, hv, hbase, hb, h1, h2, h3, h4⟩
      · have hss : ss = [] := List.eq_nil_of_length_eq_zero hz
        subst hss
        subst hnil
        gi_wp2_with (gi_at_call 77; refine (ymg _ none 0 _).mono ?_; rintro e w' ⟨rfl, rfl⟩)
        go_ret
        exact ⟨_, [], rfl, hC.perm hown zqf Tryz.underlying9 hl0, by simpa using hrow, by simp, hnx⟩
      · subst hv
        have hH : Holds encStr wr g 0 ss.toArray := holds_of_block hb (by simpa using h4)
        have hgl : g < wr.heap.size := (Array.getElem?_eq_some_iff.1 hb).1
        have hc := ypr 67 g 0 cap ss wr hH hgl (by omega)
        gi_wp2_with (gi_at_call 77; refine hc.mono ?_; rintro e w' ⟨rfl, nn, os, rfl⟩)
        go_ret
        exact ⟨_, ss, rfl, hC.perm hown zqf Tryz.underlying9 hl0, ownsRow_sorted (by simp) hbase hb h1 h2 h3, hnn, hnx.grown (grownBy_sorted _) hnx.size (fun j hj => by cases hj; exact hbase)⟩
    · intro x c kl yd yp w2 cnt2 hkey hlk hv hat hrg2 hlt hg2 hs2 hen
      obtain ⟨x', ex, rfl, _⟩ := Maps.keyOf_str Tryz.underlying9 hkey
      obtain rfl : x = x' := encStr_inj ex
      have hrow2 := hrow.kept hg2 (Or.inr (row_ne_iter hrow hrg).symm)
      clear hs2
      gi_wp2_with (first
        | (gi_at_builtin; refine wpListIn_append_own _ rfl _ _ 36 rfl w.heap.size 9 i0 (.string ⟨#[]⟩) 1 16 Tryz.underlying36 hi hz0 hz1 hz2 rfl (by decide) _ _ _ rfl (hrow2.alloc _) ⟨w2.heap.size, 0, none⟩ 1 1 [encStr x] rfl rfl (cell_one_new _ _ _) (by simp [Value.oneCell', encStr]) (by unfold maxLen at *; omega) (by omega) (by have := hnx.size; have := hg2.size; simp; omega) ?_; intro v' w3 hown' hg3 hnil3; go_frame)
        | gi_in)
      have hrg3 := (hrg2.alloc _).kept hg3 (row_ne_low hrow2 hbl) (row_ne_iter hrow2 hrg2)
      go_roundw
      case rel =>
        refine ⟨_, cnt2, ss ++ [x], hrg3, by simp; omega, by simpa using hown', ⟨fun hv' => by have := (hnil3.1 hv').2; omega, fun h => by simp at h⟩, hC.step hlk hat, ?_⟩
        exact ((hnx.grown hg2 hnx.size (fun j hj => by cases hj; exact Nat.le_refl _)).alloc (by have := hnx.size; have := hg2.size; omega) _).grown hg3 (by have := hnx.size; have := hg2.size; simp; omega) (fun j hj => (hrow2.lt j hj).1)
      case measure => rw [hrg3.left_eq, hrg.left_eq]; exact hlt
end Go.Hk
namespace Go.Hk
open Go.Proofs Go.RowKit Go.Maps Go.Sort Go.MapKept
open Go.WideElems (Fit rd rg rg_of rd_mk)
def yq6 : Value → List UInt8
  | .string s => s.data.toList
  | _ => []
theorem zov (w : World) (bm : Nat) (es : Array MapEntry) (clock : Nat) (hb : w.heap[bm]? = some (.map es clock)) (hst : Stamped es clock) (hk : ∀ e ∈ es.toList, (∃ s : ByteArray, e.key = .string s ∧ s.size ≤ maxLen) ∧ ∃ c, e.val = .bool c) (hsz : es.size ≤ 1000000) :
    Calls Tryz.prog 47 #[.map (some bm)] w fun e w' => ∃ (v : Value) (ss : List (List UInt8)), e = .returned v ∧ ss.Perm (es.toList.map fun e => yq6 e.key) ∧
      w'.ownsRow w.heap.size 9 1 v ss.length ((ss.mergeSort (fun x y => decide (x ≤ y))).map encStr) ∧ (v = .slice none 0 0 ↔ ss = []) ∧ Below w.heap.size w w' := by
  have hread : ∀ e ∈ es.toList, ∃ d, rd (H := Unit) Tryz.prog 9 (plainElem Tryz.prog 4) e = some (.string (yq6 e.key), d) := by
    intro e he
    obtain ⟨⟨s, h1, h2⟩, c, h3⟩ := hk e he
    obtain ⟨k, v, born⟩ := e
    simp only at h1 h3
    subst h1; subst h3
    have hu := Tryz.underlying4
    have hv : plainElem (H := Unit) Tryz.prog 4 (.bool c) = some (.lit (.bool c), []) := by
      unfold plainElem
      generalize Tryz.prog.underlying 4 = u at hu
      subst hu; rfl
    exact ⟨_, rd_mk (WideMaps.keyOf_string_mk Tryz.underlying9 h2) hv⟩
  have hfit : Fit (H := Unit) Tryz.prog 9 (plainElem Tryz.prog 4) es clock := ⟨by unfold maxLen; omega, hst, fun x hx => by obtain ⟨d, hd⟩ := hread x hx; exact ⟨_, hd⟩⟩
  have hown : w.ownsMap (H := Unit) Tryz.prog 9 (plainElem Tryz.prog 4) bm es.size (.map ((es.toList.map (rg Tryz.prog 9 (plainElem Tryz.prog 4))).foldr DataW.insert [])) := ⟨es, clock, hb, hfit, Nat.le_refl _, rfl⟩
  have hsize : Maps.size (H := Unit) (.map ((es.toList.map (rg Tryz.prog 9 (plainElem Tryz.prog 4))).foldr DataW.insert [])) = es.size := by
    show (List.foldr DataW.insert [] _).length = _
    rw [length_sorted]; simp
  refine (callsIn_wide.1 (zyc bm es.size _ w hown (by rw [hsize]; unfold maxLen; omega) (by rw [hsize]; omega))).mono ?_
  rintro e w' ⟨v, ss, h1, h2, h3, h4, h5⟩
  refine ⟨v, ss, h1, h2.trans ?_, h3, h4, h5⟩
  show (List.map (fun p => strOf p.1) (List.foldr DataW.insert [] (es.toList.map (rg Tryz.prog 9 (plainElem Tryz.prog 4))))).Perm _
  refine ((WideShapes.sorted_perm _).map _).trans ?_
  rw [List.map_map]
  refine List.Perm.of_eq (List.map_congr_left fun e he => ?_)
  obtain ⟨d, hd⟩ := hread e he
  simp only [Function.comp_apply, rg_of hd, strOf]
end Go.Hk
namespace Go.Hk
open Go.Proofs Go.RowKit Go.Maps Go.Sort
def zgj (m : List Str) : List Str := m.mergeSort fun x y => decide (x ≤ y)
theorem zvh (I : Imm) (l : List UInt8) : RepV I (encStr l) (.str l) := .str _ _ (by simp)
set_option maxRecDepth 100000 in
theorem zyb (m : List Str) (hm : ∀ s ∈ m, s.length ≤ maxLen) (hlen : m.length ≤ 1000000) :
    zc8 Tryz.prog 47 [.mapr 1] [(1, some (.map (ze7 m)))] (.ret (.imm (.sl (za5 (zgj m)))) [(1, some (.map (ze7 m)))]) := by
  intro I μ w xs hst hx
  obtain ⟨xl⟩ := xs
  have hx1 : xl.length = 1 := hx.1
  match xl, hx1 with
  | [x], _ =>
  have hxm : RepD I μ x (.mapr 1) := hx.2 0 x _ rfl rfl
  obtain ⟨g, hg, r, es, clock, e1, e2, e3, e4, e5⟩ := hst.blk 1 _ rfl
  subst e1
  have hxv : x = .map (some r) := by
    cases hxm with
    | mapr _ b h => rw [hg] at h; cases h; rfl
  subst hxv
  have hlen2 : es.toList.length = m.length := by simpa [ze7] using e3
  have hkey : ∀ (i : Nat) (e : MapEntry), es.toList[i]? = some e → ∃ s, m[i]? = some s ∧ yq6 e.key = s ∧ (∃ b : ByteArray, e.key = .string b ∧ b.size ≤ maxLen) ∧ ∃ c, e.val = .bool c := by
    intro i e hi
    obtain ⟨s, hs⟩ : ∃ s, m[i]? = some s := ⟨_, List.getElem?_eq_getElem (by rw [← hlen2]; exact (List.getElem?_eq_some_iff.1 hi).1)⟩
    obtain ⟨h1, h2⟩ := e5 i e (.str s, .bool true) (by simpa using hi) (by simp [ze7, hs])
    refine ⟨s, hs, ?_⟩
    generalize e.key = k at h1
    generalize e.val = u at h2
    cases h1 with
    | str b l hb =>
      cases h2 with
      | bool c =>
        refine ⟨hb, ⟨b, rfl, ?_⟩, _, rfl⟩
        have := hm s (List.mem_of_getElem? hs)
        rw [← hb] at this
        show b.data.size ≤ maxLen
        rw [← Array.length_toList]; exact this
  have hkeys : es.toList.map (fun e => yq6 e.key) = m := by
    refine List.ext_getElem? fun i => ?_
    rw [List.getElem?_map]
    cases hi : es.toList[i]? with
    | none =>
      have : m[i]? = none := by
        rw [List.getElem?_eq_none_iff] at hi ⊢; omega
      rw [this]; rfl
    | some e =>
      obtain ⟨s, h1, h2, _⟩ := hkey i e hi
      rw [h1, ← h2]; rfl
  have hrun : (callFunc 47 #[.map (some r)]).run Tryz.prog w = .ok (.enter 47 #[.map (some r)]) w := Hk.run_callFunc_body (Go.Proofs.Tryz.func47) (by decide +kernel) rfl _
  show valX Tryz.prog ((callFunc 47 #[.map (some r)]).run Tryz.prog w) _ _
  rw [hrun]
  refine (zov w r es clock e2 e4 (fun e he => ?_) (by rw [← Array.length_toList, hlen2]; exact hlen)).mono ?_
  · obtain ⟨i, hi⟩ := List.getElem?_of_mem he
    obtain ⟨s, _, _, h⟩ := hkey i e hi
    exact h
  rintro e w' ⟨v, ss, rfl, h2, h3, h4, h5⟩
  rw [hkeys] at h2
  have hss : ss.mergeSort (fun x y => decide (x ≤ y)) = zgj m := mergeSort_of_perm h2
  rw [hss] at h3
  have hsz : (zgj m).length = ss.length := by rw [← hss]; exact List.length_mergeSort _
  -- the immutable part with the row
  obtain ⟨J, hJ, hJr, hJo, hJn⟩ : ∃ J : Imm, I.le J ∧ RepV J v (.sl (za5 (zgj m))) ∧ (∀ k o, J k = some o → (I k = some o ∨ (w.heap.size ≤ k ∧ w'.heap[k]? = some o))) ∧ (∀ k, k < w.heap.size → J k = I k) := by
    rcases h3.2 with ⟨rfl, h0⟩ | ⟨gb, cap, cur, rfl, hbase, hheap, hle, hcm, hcs, htake⟩
    · have : zgj m = [] := List.eq_nil_of_length_eq_zero (by omega)
      rw [this]
      exact ⟨I, Imm.le_refl I, .slnil, fun k o h => .inl h, fun _ _ => rfl⟩
    · have hI : ∀ k, w.heap.size ≤ k → I k = none := fun k hk => by
        cases hk' : I k with
        | none => rfl
        | some o =>
          have := (Array.getElem?_eq_some_iff.1 (hst.imm k o hk')).1
          omega
      have hle' : I.le (fun k => if k = gb then some (.cells cur 9 (0, 0)) else I k) := fun k o h => by
        have : k ≠ gb := fun e => by rw [e, hI gb hbase] at h; cases h
        simp [this, h]
      refine ⟨_, hle', ?_, fun k o h => ?_, fun k hk => ?_⟩
      · have hcell : ∀ (i : Nat) (c : List V) (j : Nat) (x : V), (za5 (zgj m))[i]? = some c → c[j]? = some x → ∃ s, c = [.str s] ∧ j = 0 ∧ x = .str s ∧ cur[i]? = some (encStr s) := by
          intro i c j x hi hj
          simp only [za5, List.getElem?_map, Option.map_eq_some_iff] at hi
          obtain ⟨s, hs, rfl⟩ := hi
          have hj0 : j = 0 := by
            cases j with
            | zero => rfl
            | succ j => simp at hj
          subst hj0
          refine ⟨s, rfl, rfl, by simpa using hj.symm, ?_⟩
          have hv : ((zgj m).map encStr)[i]? = some (encStr s) := by rw [List.getElem?_map, hs]; rfl
          rw [← htake, List.getElem?_take] at hv
          split at hv
          · simpa using hv
          · cases hv
        refine .sl gb 0 _ cap 1 _ (fun i j => (cur[i]?).getD undef) (by simp [za5, hsz]) hle hcm (fun e he => ?_) (fun i c j x hi hj => ?_) (fun i c j x hi hj => ?_)
        · simp only [za5, List.mem_map] at he
          obtain ⟨s, _, rfl⟩ := he; rfl
        · obtain ⟨s, rfl, rfl, rfl, h2⟩ := hcell i c j x hi hj
          simp [Imm.cell, h2]
          rfl
        · obtain ⟨s, rfl, rfl, rfl, h2⟩ := hcell i c j x hi hj
          simp only [h2, Option.getD_some]
          exact zvh _ _
      · by_cases hk : k = gb
        · subst hk; simp at h; subst h; exact .inr ⟨hbase, hheap⟩
        · simp [hk] at h; exact .inl h
      · have : k ≠ gb := by omega
        simp [this]
  have hw : ∀ k, k < w.heap.size → w'.heap[k]? = w.heap[k]? := fun k hk => h5.block k hk
  refine ⟨J, μ, .imm _ _ hJr, ?_, .refl _ _, ?_⟩
  · exact
      { imm := fun k o h => (hJo k o h).elim (fun h => by
          have := hst.imm k o h
          rw [hw k (Array.getElem?_eq_some_iff.1 this).1]; exact this) fun h => h.2
        blk := fun i b hl => by
          obtain ⟨gi, q1, q2⟩ := hst.blk i b hl
          exact ⟨gi, q1, (q2.mono hJ (Mu.le_refl μ)).world fun k hk => hw k (hst.apart i b gi k hl q1 hk).2⟩
        apart := fun i b gi k hl hgi hk => by
          obtain ⟨q1, q2⟩ := hst.apart i b gi k hl hgi hk
          exact ⟨(hJn k q2).trans q1, Nat.lt_of_lt_of_le q2 h5.size⟩
        inj := hst.inj
        nodup := hst.nodup
        idsFree := hst.idsFree }
  · exact
      { imm := hJ, os := h5.os, tape := h5.tape, output := h5.output, size := h5.size
        block := fun k hk _ => hw k hk
        fresh := fun k _ h => h
        old := fun k hk _ => hJn k hk }
mutual
theorem zif : ∀ (t : Tm) (s m : List Str), zak t = true → ∀ x ∈ zeb t s m, x ∈ m ∨ x.length ≤ 8
  | .mk op n x ks ps, s, m, h, y, hy => by
    simp only [zak, Bool.and_eq_true] at h
    simp only [zeb] at hy
    by_cases e : op = 4
    · subst e
      have h1 := h.1.1
      simp [za9, zcu] at h1
      rw [if_pos rfl] at hy
      split at hy
      · exact .inl hy
      · simp only [zl0] at hy
        split at hy
        · exact .inl hy
        · rcases List.mem_append.1 hy with hy | hy
          · exact .inl hy
          · right
            have : y = x := by simpa using hy
            subst this
            omega
    · rw [if_neg e] at hy
      exact zpb _ 0 ks s m h.2 y hy
theorem zpb : ∀ (t : Tm) (i : Nat) (ks : List Tm) (s m : List Str), zaq ks = true → ∀ x ∈ zfl t i ks s m, x ∈ m ∨ x.length ≤ 8
  | _, _, [], _, _, _, x, hx => .inl (by simpa [zfl] using hx)
  | t, i, k :: r, s, m, h, x, hx => by
    simp only [zaq, Bool.and_eq_true] at h
    simp only [zfl] at hx
    rcases zpb t (i + 1) r s _ h.2 x hx with h1 | h1
    · exact zif k _ m h.1 x h1
    · exact .inr h1
end
mutual
theorem zjv : ∀ (t : Tm) (s m : List Str), (zeb t s m).length ≤ m.length + zcp t
  | .mk op n x ks ps, s, m => by
    simp only [zeb, zcp]
    by_cases e : op = 4
    · rw [if_pos e]
      split
      · omega
      · simp only [zl0]
        split
        · omega
        · simp only [List.length_append, List.length_cons, List.length_nil]; omega
    · rw [if_neg e]
      have := zvd (.mk op n x ks ps) 0 ks s m
      omega
theorem zvd : ∀ (t : Tm) (i : Nat) (ks : List Tm) (s m : List Str), (zfl t i ks s m).length ≤ m.length + zco ks
  | _, _, [], _, m => by simp [zfl]
  | t, i, k :: r, s, m => by
    simp only [zfl, zco]
    have h1 := zvd t (i + 1) r s (zeb k ((zad t i).reverse ++ s) m)
    have h2 := zjv k ((zad t i).reverse ++ s) m
    omega
end
set_option maxRecDepth 100000 in
theorem yaz (t : Tm) (h : zbc t = true) : zc8 Tryz.prog 47 [.mapr 1] [(1, some (.map (ze7 (zeb t [] []))))] (.ret (.imm (.sl (za5 (zcc t)))) [(1, some (.map (ze7 (zeb t [] []))))]) := by
  obtain ⟨h1, h2, h3, h4⟩ := zc0 t h
  simp only [zbc, Bool.and_eq_true] at h
  have := zyb (zeb t [] []) (fun s hs => by
    rcases zif t [] [] h.2 s hs with h | h
    · cases h
    · unfold maxLen; omega) (by have := zjv t [] []; simp at this; omega)
  rw [zgj, zw0 t h1] at this
  exact this
end Go.Hk
namespace Go.Hk
def rnO (i j : Nat) : List D → List D
  | [] => []
  | .own k len :: r => .own (bif Nat.beq k i then j else k) len :: rnO i j r
  | d :: r => d :: rnO i j r
theorem yda {i j : Nat} : ∀ {ds : List D} {m : Nat} {d : D}, (rnO i j ds)[m]? = some d → ∃ d0, ds[m]? = some d0 ∧ (d = d0 ∨ ∃ len, d0 = .own i len ∧ d = .own j len)
  | [], m, d, h => by simp [rnO] at h
  | x :: r, 0, d, h => by
    refine ⟨x, rfl, ?_⟩
    cases x <;> simp only [rnO, List.getElem?_cons_zero, Option.some.injEq] at h <;> first
      | exact .inl h.symm
      | skip
    rename_i k len
    cases hb : Nat.beq k i with
    | true => right; have := Nat.eq_of_beq_eq_true hb; subst this; exact ⟨len, rfl, by rw [← h, hb]; rfl⟩
    | false => left; rw [← h, hb]; rfl
  | x :: r, m + 1, d, h => by
    have : (rnO i j r)[m]? = some d := by cases x <;> simpa [rnO] using h
    obtain ⟨d0, h1, h2⟩ := yda this
    exact ⟨d0, by simpa using h1, h2⟩
theorem znp {i j : Nat} : ∀ ds : List D, (rnO i j ds).length = ds.length
  | [] => rfl
  | x :: r => by cases x <;> simp [rnO, znp r]
section
variable {P : Program} {n : Nat} {F : List Nat} {Q : DQ} {env : Env} {st : St} {ids ids' : List Nat} {todo : List DI}
theorem ygu (i j k : Nat) {blk : Blk} {t : TypeId} {sz : Nat} {ds : List D} (hl : lk st i = some (some blk)) (hk : lk st k = some (some (.cells t sz ds))) (hki : Nat.beq k i = false)
    (h : DGo P n F Q todo env ((k, some (.cells t sz (rnO i j ds))) :: (j, some blk) :: (i, none) :: st) ids') : DGo P n F Q todo env st (j :: ids') := by
  have hki : k ≠ i := fun e => by rw [e] at hki; simp at hki
  refine zed fun I μ a w hc => ?_
  have hlive : zat st i blk := hl
  obtain ⟨g, hg, hr⟩ := hc.blk i _ hlive
  have hjn : μ j = none := hc.idsFree j (by simp)
  have hij : i ≠ j := fun e => by rw [e, hjn] at hg; cases hg
  obtain ⟨gk, hgk, hrk⟩ := hc.blk k _ hk
  have hkj : k ≠ j := fun e => by rw [e, hjn] at hgk; cases hgk
  obtain ⟨ν, hν⟩ : ∃ ν : Mu, ν = fun k => if k = j then some g else μ k := ⟨_, rfl⟩
  have hνj : ν j = some g := by rw [hν]; simp
  have hνo : ∀ k, k ≠ j → ν k = μ k := fun k hk => by rw [hν]; simp [hk]
  have hle : μ.le ν := fun k v hk => by
    have : k ≠ j := fun e => by rw [e, hjn] at hk; cases hk
    rw [hνo k this]; exact hk
  have hst : ∀ k' bk, zat ((k, some (.cells t sz (rnO i j ds))) :: (j, some blk) :: (i, none) :: st) k' bk → (k' = k ∧ bk = .cells t sz (rnO i j ds)) ∨ (k' ≠ k ∧ k' = j ∧ bk = blk) ∨ (k' ≠ k ∧ k' ≠ j ∧ k' ≠ i ∧ zat st k' bk) := fun k' bk h => by
    rcases zai.1 h with h | ⟨h0, h⟩
    · exact .inl h
    · rcases zai.1 h with h | ⟨h1, h⟩
      · exact .inr (.inl ⟨h0, h⟩)
      · obtain ⟨h2, h3⟩ := zbf.1 h
        exact .inr (.inr ⟨h0, h1, h2, h3⟩)
  have old : ∀ k' bk, zat ((k, some (.cells t sz (rnO i j ds))) :: (j, some blk) :: (i, none) :: st) k' bk → ∀ gk', ν k' = some gk' → ∃ k0 b0, zat st k0 b0 ∧ μ k0 = some gk' ∧ (k0 = if k' = j then i else k') := fun k' bk h gk' hgk' => by
    rcases hst k' bk h with ⟨rfl, rfl⟩ | ⟨_, rfl, rfl⟩ | ⟨_, h1, _, h3⟩
    · exact ⟨k', _, hk, by rw [← hνo k' hkj]; exact hgk', by rw [if_neg hkj]⟩
    · exact ⟨i, _, hlive, by rw [hνj] at hgk'; rw [hg]; exact hgk', by rw [if_pos rfl]⟩
    · exact ⟨k', _, h3, by rw [← hνo k' h1]; exact hgk', by rw [if_neg h1]⟩
  refine ⟨I, ν, env, _, ids', ?_, fun t d hl => (hc.env t d hl).mono (Imm.le_refl I) hle, ?_, fun k hk v hv => ?_, h⟩
  · exact
      { imm := hc.imm
        blk := fun k' bk h => by
          rcases hst k' bk h with ⟨rfl, rfl⟩ | ⟨_, rfl, rfl⟩ | ⟨_, h1, _, h3⟩
          · refine ⟨gk, hle _ _ hgk, ?_⟩
            obtain ⟨hs, b, us, e1, e2, e3, e4⟩ := hrk
            refine ⟨by rw [znp]; exact hs, b, us, e1, e2, ⟨by rw [znp]; exact e3.1, fun m v d hv hd => ?_⟩, e4⟩
            obtain ⟨d0, q1, q2⟩ := yda hd
            have h0 := e3.2 m v d0 hv q1
            rcases q2 with rfl | ⟨len, rfl, rfl⟩
            · exact h0.mono (Imm.le_refl I) hle
            · cases h0 with
              | own _ _ a cap hm => rw [hg] at hm; cases hm; exact .own _ _ _ _ hνj
          · exact ⟨g, hνj, hr.mono (Imm.le_refl I) hle⟩
          · obtain ⟨g', p1, p2⟩ := hc.blk k' bk h3
            exact ⟨g', hle _ _ p1, p2.mono (Imm.le_refl I) hle⟩
        apart := fun k' bk gk' m h hgk' hm => by
          obtain ⟨k0, b0, q1, q2, _⟩ := old k' bk h gk' hgk'
          exact hc.apart k0 b0 gk' m q1 q2 hm
        inj := fun k1 k2 bk1 bk2 g1 g2 m h1 h2 hg1 hg2 hm1 hm2 => by
          obtain ⟨p1, c1, q1, q2, q3⟩ := old k1 bk1 h1 g1 hg1
          obtain ⟨p2, c2, r1, r2, r3⟩ := old k2 bk2 h2 g2 hg2
          have e := hc.inj p1 p2 c1 c2 g1 g2 m q1 r1 q2 r2 hm1 hm2
          have n1 : k1 ≠ i := by
            rcases hst k1 bk1 h1 with ⟨rfl, _⟩ | ⟨_, rfl, _⟩ | ⟨_, _, h, _⟩
            · exact hki
            · exact fun e => hij e.symm
            · exact h
          have n2 : k2 ≠ i := by
            rcases hst k2 bk2 h2 with ⟨rfl, _⟩ | ⟨_, rfl, _⟩ | ⟨_, _, h, _⟩
            · exact hki
            · exact fun e => hij e.symm
            · exact h
          rw [q3, r3] at e
          by_cases e1 : k1 = j <;> by_cases e2 : k2 = j
          · rw [e1, e2]
          · rw [if_pos e1, if_neg e2] at e; exact absurd e.symm n2
          · rw [if_neg e1, if_pos e2] at e; exact absurd e n1
          · rw [if_neg e1, if_neg e2] at e; exact e
        nodup := (List.nodup_cons.1 hc.nodup).2
        idsFree := fun k' hk' => by
          have : k' ≠ j := fun e => (List.nodup_cons.1 hc.nodup).1 (e ▸ hk')
          rw [hνo k' this]; exact hc.idsFree k' (by simp [hk']) }
  · exact { imm := Imm.le_refl I, os := rfl, tape := rfl, output := rfl, size := Nat.le_refl _, block := fun _ _ _ => rfl
            fresh := fun b _ ⟨k', bk, gk', h1, h2, h3⟩ => by
              obtain ⟨k0, b0, q1, q2, _⟩ := old k' bk h1 gk' h2
              exact ⟨k0, b0, gk', q1, q2, h3⟩
            old := fun _ _ _ => rfl }
  · exact hle _ _ hv
end
end Go.Hk
namespace Go.Hk
open Go.Proofs
def zwg : Code → Option (Code × Code)
  | .rangeFunc _ _ a b => some (a, b)
  | .seq x y => match zwg x with
    | some r => some r
    | none => zwg y
  | .block _ c => zwg c
  | .loop c => zwg c
  | .scope c => zwg c
  | .cond _ x y => match zwg x with
    | some r => some r
    | none => zwg y
  | _ => none
def yor (f : Func) : Code := match zwg (zg0 f 0) with
  | some (a, _) => a
  | none => .skip
def yid (f : Func) : Code := match zwg (zg0 f 0) with
  | some (_, b) => b
  | none => .skip
def zys (scs : List Sc) (s : Sc) (m : Nat) : List (List V) := scs.map (fun s => [ze8 s]) ++ [ze8 s] :: List.replicate m [.nilp]
theorem ymq (scs : List Sc) (s : Sc) (m : Nat) : (zys scs s m)[scs.length]? = some [ze8 s] := by
  rw [zys, List.getElem?_append_right (by simp)]; simp
theorem ymp (scs : List Sc) (s s2 : Sc) (m : Nat) : (zys scs s m).set scs.length [ze8 s2] = zys scs s2 m := by
  rw [zys, List.set_append_right _ _ (by simp)]; simp [zys]
theorem yc5 (scs : List Sc) (s : Sc) (m : Nat) : (zys scs s m).length = scs.length + 1 + m := by
  simp [zys]; omega
def stR (b : Nat) (sk : An) (n : Nat) (scs : List Sc) (r : Nat × Tm × List Str × Sc) : St :=
  [(2, some (.cells 105 1 [.ref 7 0])), (4, some (.cells 26 5 [.imm (.int .i64 0), .imm (.int .i64 0), .imm (.str []), .nils, .nils])), (9, some (.hp (zcs b sk r.2.1))),
    (7, some (.cells 107 1 [.own 13 r.2.2.1.length])), (13, some (.row 9 1 (za5 r.2.2.1))), (10, some (.row 86 1 (zys scs r.2.2.2 (n - scs.length - 1)))), (11, some (.cells 137 1 [.own 10 n])), (12, some (.immb 3 1 [.int .i64 scs.length]))]
def yq9 (b n i : Nat) (s : Sc) : Env := [(36, .imm (.int .i64 i)), (35, .imm (.int .i64 n)), (2, .imm (ze8 s)), (9, .ref 11 0), (4, .raw (.pointer (some ⟨b, 0, none⟩))), (3, .ref 2 0), (6, .ref 4 0), (10, .ref 12 0)]
set_option maxRecDepth 100000 in
theorem ybj (b : Nat) (sk : An) (n : Nat) (scs : List Sc) (T : Tm) (tk : List Str) (s s0 : Sc) (hf : zih sk T) (j : Nat) (hj : j < (zad T scs.length).length) (hlen : tk.length + (zad T scs.length).length ≤ 699) (hn : scs.length < n) (hn2 : n ≤ 1000000) (d : D) (hd : ((bp sk scs.length).map (plD b sk))[j]? = some d)
    {L : zom} (h1 : Tryz.prog.funcs[L.fn]?.isSome) (h2 : L.tmps.size = Tryz.f81.ntmps) (h3 : L.ps = #[45]) (h4 : L.asg = yor Tryz.f81)
    (h5 : L.body = yid Tryz.f81) (h6 : L.E = yq9 b n scs.length s0) (h7 : L.F = [1, 7, 8]) :
    ycn Tryz.prog [d] (zdv L (stR b sk n scs (rAt scs.length T tk s j)) none) true (zdv L (stR b sk n scs (rAt scs.length T tk s (j + 1))) none) := by
  obtain ⟨fc, hfc⟩ := Option.isSome_iff_exists.1 h1
  obtain ⟨x, hx⟩ := zal hj
  obtain ⟨i1, i2, i3, i4, i5, _⟩ := ya9 (i := scs.length) hf tk s j (by omega)
  rw [ydc hx]
  generalize rAt scs.length T tk s j = r at *
  obtain ⟨r1, rT, rtk, rs⟩ := r
  simp only at i1 i2 i3 i4 i5
  subst i1
  have hok := zig i2
  rw [List.getElem?_map] at hd
  obtain ⟨p, hp, rfl⟩ := Option.map_eq_some_iff.1 hd
  obtain ⟨a0, b', off', hl, hD⟩ : ∃ a0 b' off', zeu sk b 0 p = some (a0, b', off') ∧ plD b sk p = .raw (ptr b' (zds off' 2)) := by
    obtain ⟨a, o, nn, y, ad, c, ks, u, qs, rfl, hv, _⟩ := id i2
    rw [yae] at hp
    obtain ⟨s, o', n', x', v', ks', u', ps', b', off', hl, _, _⟩ := ztg ((zhn a).1 hok) hv hp b
    refine ⟨_, b', off', by rw [zjn, hl]; rfl, ?_⟩
    simp only [plD, zjn, hl, Option.map_some]
  have hx2 : (zad rT scs.length)[r1]? = some x := by rw [i3 r1 (Nat.le_refl _)]; exact hx
  have hrd := zue hok hp hl (b := b) hx2
  have hwr := zra hok hp hl (b := b) (t := rT) (zbe rtk)
  rw [hD]
  refine zoa (pend := none) (d := .raw (ptr b' (zds off' 2))) (ids := [14, 15, 16]) (t := 11) (p := 45) hfc h3 (h4.trans rfl) h2 rfl rfl rfl rfl (by decide) (by decide) ?_ ?_
  · rw [h6, h7]
    refine ⟨by decide, ?_⟩
    simp [stR, yq9, nmE, nmD, zfk, nmB, nmL]
  · rw [h5, h6, h7]
    refine xd [] rfl (by simp [zag]) ?_
    refine zas (fr := []) [(13, 1)] [] rfl (by simp) (yey rtk _ (by omega)) ⟨⟨rfl, rfl, rfl⟩, trivial⟩ rfl rfl rfl rfl ?_
    refine xg [] rfl (by simp [zag]) ?_
    refine zby zbb rfl ⟨by simp, by simp [maxLen]; omega, by simp; omega, trivial⟩ ?_
    refine xg [] rfl (by simp [zag]; rfl) ?_
    refine zbw zbb 9 [.imm (.str x)] rfl rfl (fun _ => hrd) rfl rfl (by simp) ?_
    refine xg [] rfl (by simp [zag]) ?_
    refine zda zbb rfl (fun _ => ⟨by simp, by simp only [yc5]; omega⟩) (by simp) ?_
    refine xg [] rfl (by simp [zag]) ?_
    have hone : V.one (ze8 rs) = true := by
      rcases rs with _ | ⟨⟨_, _⟩, _⟩ <;> rfl
    have hrg := ymq scs rs (n - scs.length - 1)
    have hrs := ymp scs rs ((x, zbe rtk) :: rs) (n - scs.length - 1)
    rcases rs with _ | ⟨⟨y1, y2⟩, rs⟩
    all_goals
      refine zhe zbb rfl (fun _ => hrg) rfl (by simp) ?_
      refine xg [] rfl (by simp [zag]) ?_
      refine zda zbb rfl (fun _ => ⟨by simp, by simp only [yc5]; omega⟩) (by simp) ?_
      refine ynr zbb rfl hrg ?_
      refine xg [] rfl (by simp [zag]; rfl) ?_
      refine zqh zbb 9 (zcs b sk (zc3 rT scs.length r1 (zbe rtk))) rfl rfl hwr ?_
      refine xg [] rfl (by simp [zag]) ?_
      refine zbt 13 14 rfl ?_
      refine zcf ?_
      show zla _ (stR b sk n scs (r1 + 1, zc3 rT scs.length r1 (zbe rtk), rtk ++ [zbe rtk], (x, zbe rtk) :: _))
      have e3 : (rtk ++ [zbe rtk]).length = (za5 rtk ++ [[V.str (zbe rtk)]]).length := by simp [za5]
      have e4 : za5 (rtk ++ [zbe rtk]) = za5 rtk ++ [[V.str (zbe rtk)]] := by simp [za5]
      simp only [stR]
      rw [e3, e4, ← hrs]
      exact ⟨rfl, rfl, rfl, rfl, rfl, rfl, rfl, rfl, trivial⟩
end Go.Hk
namespace Go.Hk
structure PVs where
  id : Nat
  e : TypeId
  es : List (List V)
  k : Nat
  x : V
  todo : List DI
def yiy (tt : TT) (env : Env) (st : St) (todo : List DI) : Option PVs :=
  match yhb todo with
  | some o => match o.guard, o.dst, o.op with
    | none, none, .store t p x => match lk tt t, evO env p, evO env x with
      | some i, some (.elp id k 1 0), some (.imm xv) => match lk st id, zcr todo ([id], [id]), Nat.beq i.size 1 with
        | some (some (.row e 1 es)), some (_, _, todo'), true => some ⟨id, e, es, k, xv, todo'⟩
        | _, _, _ => none
      | _, _, _ => none
    | _, _, _ => none
  | none => none
section
variable {P : Program} {n : Nat} {F : List Nat} {Q : DQ} {tt : TT} {env env' : Env} {st st' : St} {ids ids' : List Nat} {k todo todo' : List DI} {I : Imm} {μ : Mu} {w : World} {a : Act} {Pn : V → Prop} {d : D} {cx : Prop} {ob : List Prop}
theorem ynn (htt : TTok P tt) {c : PVs} {y : V} (h : yiy tt env st todo = some c) (hc : c.es[c.k]? = some [y]) (hox : V.one c.x = true)
    (hk : G P n F Q c.todo env ((c.id, some (.row c.e 1 (c.es.set c.k [c.x]))) :: st) ids) : G P n F Q todo env st ids := by
  unfold yiy at h
  split at h
  · rename_i o ho
    split at h
    · rename_i t p x hgd hdst hop
      split at h
      · rename_i i id kk xv ht hp hx
        split at h
        · rename_i ty es all o' todo' hl h1 hsz
          cases h
          have ho' : o' = o := zdx ho h1
          subst ho'
          have hs := Nat.eq_of_beq_eq_true hsz
          simp only at hc hk hox
          have hk : G P n F Q todo' (zei o'.dst .undef env) ([(id, some (.row ty 1 (es.set kk [xv])))] ++ st) ids := by rw [hdst]; exact hk
          refine zc5 (fr := []) (wr := [(id, some (.row ty 1 (es.set kk [xv])))]) (rd := [id]) h1 ?_ (by simp [zdg, hdst]) (fun c hc => by rw [hop] at hc; cases hc) hk
          intro I μ st1 ids1 a w hag hst hon
          refine ⟨fun _ => ?_, fun hw => by rw [zax hgd] at hw; cases hw⟩
          have hops := zbo hon
          rw [hop] at hops
          have rp := hops p (by simp [Op.operands]) _ hp
          have rx := hops x (by simp [Op.operands]) _ hx
          have hl1 : zat st1 id (.row ty 1 es) := by unfold zat; rw [hag id (by simp)]; exact hl
          have rv := rx.immInv
          obtain ⟨b, cap, cur, hmu, hheap, hcap, hcm, hcs, hrep, hlen, hone, hpos⟩ := zyr hst hl1 (by rintro rfl; simp at hc)
          have hkl := (List.getElem?_eq_some_iff.1 hc).1
          rw [Nat.mul_one] at hcs
          generalize hv : a.eval p = v at rp
          generalize hu : a.eval x = u at rx rv
          have hu1 : u.cells = #[u] ∧ u.oneCell' = true := ⟨zgw (rv.one hox), rv.one hox⟩
          cases rp with
          | elp _ _ ln cp _ _ _ hm =>
            rw [hm] at hmu; cases hmu
            have hfit : kk * 1 + 0 + u.cells.toList.length ≤ cur.size := by rw [hu1.1, hcs]; simp; omega
            have hrun : (execOp a.eval o').run P w = .ok .skip (w.setRow b (cur.toList.take (kk * 1 + 0) ++ u.cells.toList ++ cur.toList.drop (kk * 1 + 0 + u.cells.toList.length)).toArray) := by
              simp only [execOp, hop, hv, hu, Sem.run_bind, zf9 (htt t i ht) hheap (by rw [hu1.1, hs]; rfl) (fun z hz => by rw [hu1.1] at hz; simp at hz; subst hz; exact hu1.2) hfit, Result.andThen_ok, Sem.run_pure]
            rw [hrun]
            have hcl : cur.toList.length = cap := by simpa using hcs
            rw [hu1.1]
            simp only [Nat.mul_one, Nat.add_zero, List.length_singleton]
            simp only [Nat.mul_one] at hrep
            have hnew : BlkRep I μ (w.setRow b (cur.toList.take kk ++ [u] ++ cur.toList.drop (kk + 1)).toArray) (.slice (some ⟨b, 0, none⟩) es.length cap) (.row ty 1 (es.set kk [xv])) := by
              have e1 := zh2 (sz := 1) (f := 0) (ys := [xv]) es kk [y] hlen hc (by simp)
              simp only [List.take_zero, List.nil_append, List.length_singleton, Nat.zero_add, Nat.mul_one, Nat.add_zero] at e1
              have e1' : (es.set kk [xv]).flatten = es.flatten.take kk ++ [xv] ++ es.flatten.drop (kk + 1) := by simpa using e1
              have e2 : (cur.toList.take kk ++ [u] ++ cur.toList.drop (kk + 1)).take es.length = (cur.toList.take es.length).take kk ++ [u] ++ (cur.toList.take es.length).drop (kk + 1) := by
                rw [List.append_assoc, List.take_append, List.take_append, List.take_take, List.take_take, List.length_take, List.append_assoc]
                rw [Nat.min_eq_left (by omega : kk ≤ cur.toList.length), Nat.min_eq_right (by omega : kk ≤ es.length), Nat.min_eq_left (by omega : kk ≤ es.length)]
                rw [List.take_of_length_le (l := [u]) (by simp; omega), List.drop_take]
                congr 3
              have hR := RepVL.splice hrep (ns := [u]) (ys := [xv]) ⟨rfl, fun q v z h1 h2 => by
                match q with
                | 0 => simp at h1 h2; subst h1; subst h2; exact rv
                | q + 1 => simp at h1⟩ kk
              simp only [List.length_singleton] at hR
              have hls : (es.set kk [xv]).length = es.length := by simp
              refine ⟨_, ⟨?_, .inr ⟨b, cap, _, by rw [hls], Nat.zero_le _, setRow_heap w b cur _ ty _ hheap, by rw [hls]; exact hcap, hcm, ?_, rfl⟩⟩, ?_, ?_, ?_, Nat.one_pos⟩
              · simp; omega
              · simp; omega
              · rw [hls, Nat.mul_one, List.toList_toArray, e2, e1']
                exact hR
              · intro c hc'
                rcases List.mem_or_eq_of_mem_set hc' with h | h
                · exact hlen c h
                · rw [h]; rfl
              · intro c hc' y hy
                rcases List.mem_or_eq_of_mem_set hc' with h | h
                · exact hone c h y hy
                · rw [h] at hy; simp at hy; subst hy; exact hox
            obtain ⟨q1, q2⟩ := hst.update (id := id) (blk := .row ty 1 es) (g := .slice (some ⟨b, 0, none⟩) es.length cap) (b := b) hl1 hm rfl (w' := w.setRow b _) (setRow_size w b _) rfl rfl rfl (fun k hk => setRow_other w b k _ hk) hnew
            exact ⟨I, μ, q1, .undef _, Mu.le_refl μ, q2⟩
        · cases h
      · cases h
    · cases h
  · cases h
end
end Go.Hk
namespace Go.Hk
open Go.Proofs
theorem ypa {L : zom} {st : St} {pend : Option Code} {I : Imm} {w : World} {b : Nat} {bs : List Nat} (h : (zdv L st pend).P I w b bs) {i : Nat} {A : Asn} (hl : lk st i = some (some (.hp A))) : ∃ vs bs', A.P vs I w bs' := by
  obtain ⟨r, μ, bs0, h1, h2, h3, h4, h5, h6, h7⟩ := h
  obtain ⟨g, _, vs, bs', _, hP⟩ := h6 i _ hl
  exact ⟨vs, bs', hP⟩
def yao (scs : List Sc) (m : Nat) : List (List V) := scs.map (fun s => [ze8 s]) ++ List.replicate m [.nilp]
theorem ymo (scs : List Sc) (m : Nat) : (yao scs (m + 1))[scs.length]? = some [.nilp] := by
  rw [yao, List.getElem?_append_right (by simp)]; simp [List.replicate]
theorem ymm (scs : List Sc) (s : Sc) (m : Nat) : (yao scs (m + 1)).set scs.length [ze8 s] = zys scs s m := by
  rw [yao, List.set_append_right _ _ (by simp)]; simp [zys, List.replicate]
theorem rowS_T (scs : List Sc) (s : Sc) (m : Nat) : zys scs s m = yao (scs ++ [s]) m := by simp [zys, yao]
theorem ymn {scs : List Sc} {i : Nat} {sc : Sc} (h : scs[i]? = some sc) (m : Nat) : (yao scs m)[i]? = some [ze8 sc] := by
  have hlt := (List.getElem?_eq_some_iff.1 h).1
  rw [yao, List.getElem?_append_left (by simpa using hlt), List.getElem?_map, h]; rfl
theorem yc4 (scs : List Sc) (m : Nat) : (yao scs m).length = scs.length + m := by simp [yao]
def stL1 (b : Nat) (sk : An) (n : Nat) (y : Tm × List Str × List Sc) : St :=
  [(2, some (.cells 105 1 [.ref 7 0])), (4, some (.cells 26 5 [.imm (.int .i64 0), .imm (.int .i64 0), .imm (.str []), .nils, .nils])), (9, some (.hp (zcs b sk y.1))),
    (7, some (.cells 107 1 [.own 13 y.2.1.length])), (13, some (.row 9 1 (za5 y.2.1))), (10, some (.row 86 1 (yao y.2.2 (n - y.2.2.length)))), (11, some (.cells 137 1 [.own 10 n]))]
def envL1 (b n i : Nat) (s : Sc) : Env := [(36, .imm (.int .i64 i)), (35, .imm (.int .i64 n)), (2, .imm (ze8 s)), (9, .ref 11 0), (4, .raw (.pointer (some ⟨b, 0, none⟩))), (3, .ref 2 0), (6, .ref 4 0)]
def stL2 (b : Nat) (sk : An) (n : Nat) (scs : List Sc) (T : Tm) (tk : List Str) : St :=
  [(2, some (.cells 105 1 [.ref 7 0])), (4, some (.cells 26 5 [.imm (.int .i64 0), .imm (.int .i64 0), .imm (.str []), .nils, .nils])), (9, some (.hp (zcs b sk T))),
    (7, some (.cells 107 1 [.own 13 tk.length])), (13, some (.row 9 1 (za5 tk))), (10, some (.row 86 1 (yao scs (n - scs.length)))), (11, some (.cells 137 1 [.own 10 n]))]
def envL2 (b n i : Nat) (v : Value) : Env := [(82, .imm (.int .i64 i)), (81, .imm (.int .i64 n)), (80, .raw v), (9, .ref 11 0), (4, .raw (.pointer (some ⟨b, 0, none⟩))), (3, .ref 2 0), (6, .ref 4 0)]
def InvL1 (sk : An) (t : Tm) (n : Nat) (tk : List Str) (s : Sc) (y : Tm × List Str × List Sc) : Prop :=
  y.2.2.length ≤ n ∧ zih sk y.1 ∧ (∀ op m x ks ps, t = .mk op m x ks ps → ∃ x' ps', y.1 = .mk op m x' ks ps' ∧ ps'.length = ps.length) ∧ (∀ m, (zad y.1 m).length = (zad t m).length) ∧
    y.2.1.length + zhw t (n - y.2.2.length) y.2.2.length ≤ tk.length + zhw t n 0 ∧ l1 n 0 t tk s [] = l1 (n - y.2.2.length) y.2.2.length y.1 y.2.1 s y.2.2
theorem hp_of {t : Tm} (hp : zfx t) {op n : Int} {x : Str} {ks : List Tm} {ps : List Ty} (ht : t = .mk op n x ks ps) {i : Nat} (hi : i < ks.length) (h1 : zbg op i = false) (h2 : zbr op i = true) : i - 1 < ps.length := by
  subst ht
  obtain ⟨_, h, _⟩ := hp
  obtain ⟨p, q, _⟩ := h i hi h1 h2
  have := (List.getElem?_eq_some_iff.1 q).1
  have h3 : 0 < i := by simp [zbr] at h2; omega
  omega
set_option maxRecDepth 100000 in
theorem ydx : ∀ (t : Tm) (s : Sc) (tk : List Str) (sk : An) (op n : Int) (x xx : Str) (v u : Value) (js qs : List An) (ks : List Tm) (ps : List Ty), t = .mk op n x ks ps → sk = .mk true op n xx v js u qs → zju sk → zi2 t → zfx t → tk.length + zlk t ≤ 699 →
    zc8 Tryz.prog 81 [.ref 7 0, yia op n x v u, .imm (ze8 s)] [(1, some (.hp (yg6 sk t))), (7, some (.cells 107 1 [.own 8 tk.length])), (8, some (.row 9 1 (za5 tk)))]
    (.ret (yia op n (textTm (zgz t s tk).1) v u) [(5, some (.hp (yg6 sk (zgz t s tk).1))), (7, some (.cells 107 1 [.own 13 (zgz t s tk).2.length])), (13, some (.row 9 1 (za5 (zgz t s tk).2)))])
  | t, s, tk, sk, op, n, x, xx, v, u, js, qs, ks, ps, ht, hsk, hfull, hwide, hpats, htk => by
    refine zaf zbb Tryz.func81 (by decide +kernel) rfl [2, 3, 4, 13, 5, 9, 10, 11, 12, 6, 14, 15, 16, 17, 18] rfl rfl ?_
    refine xg [] rfl (by simp) ?_
    refine ygu (ids' := [5, 9, 10, 11, 12, 6, 14, 15, 16, 17, 18]) 8 13 7 rfl rfl rfl ?_
    refine zaa rfl (fun h => ?_) (fun h => ?_)
    · have e : op = 4 := by simpa using h
      have key : ∀ y : Str, ∀ vs I w bs, (yg6 sk t).P vs I w bs → ∃ (_ : Unit) (bs' : List Nat), (∀ b ∈ bs', b ∈ bs) ∧ (yg6 sk (.mk op n y ks ps)).P [] I w bs' := by
        rintro y vs I w bs ⟨a, h1, h2, h3, h4, h5⟩
        subst ht
        rcases a with ⟨s0, o', n', x', v', ks', u', ps'⟩ | ⟨s0, cs0, c0⟩
        case im => rw [hsk] at h1; simp [er] at h1
        have hs : s0 = true := by rw [hsk] at h1; simp only [er, An.mk.injEq] at h1; exact h1.1
        subst hs
        refine ⟨(), bs, fun _ h => h, .mk true o' n' y v' ks' u' ps', by rw [← h1]; rfl, ?_, h3, h4, by simpa only [anW] using h5⟩
        simp only [vA, dTmc, List.cons.injEq] at h2 ⊢
        exact ⟨h2.1, h2.2.1, trivial, h2.2.2.2⟩
      refine yk8 (ids' := [9, 10, 11, 12, 6, 14, 15, 16, 17, 18]) 1 5 (fun _ : Unit => yg6 sk (.mk op n ((zhb s x).getD x) ks ps)) rfl (key _) fun _ => ?_
      refine xd [] rfl (by simp) ?_
      refine zac rfl (fun _ => ynd s x) (by simp) ?_
      have e2 : zgz t s tk = (.mk op n ((zhb s x).getD x) ks ps, tk) := by subst ht; simp [zgz, e]
      rw [e2]
      cases hl : zhb s x with
      | none =>
        refine xg [] rfl (by simp) ?_
        refine zaa rfl (fun h => by simp at h) (fun h => ?_)
        refine xd [] rfl (by simp) ?_
        exact zab ⟨_, rfl, rfl, rfl, rfl, rfl, trivial⟩
      | some y =>
        refine xg [] rfl (by simp) ?_
        refine zaa rfl (fun h => ?_) (fun h => by simp at h)
        refine xd [] rfl (by simp) ?_
        exact zab ⟨_, rfl, rfl, rfl, rfl, rfl, trivial⟩
    · have e : op ≠ 4 := by simpa using h
      refine zpf (ids' := [9, 10, 11, 12, 6, 14, 15, 16, 17, 18]) 3 5 rfl rfl fun b => ?_
      refine yb9 (ids' := [10, 11, 12, 6, 14, 15, 16, 17, 18]) 1 5 9 (fun _ : Unit => zcs b sk t) rfl rfl (by decide) (fun vs us I w b1 b2 h1 h2 hd => ⟨(), b :: b1, ye6 hsk ht h1 h2 hd⟩) fun _ => ?_
      have hfQ : ygm sk := by rw [hsk] at hfull ⊢; exact hfull.2
      refine zel 9 (fun _ : { _y : Unit // zih sk t } => zcs b sk t) rfl (fun vs I w bs h => ⟨⟨(), ykz hfQ (by rw [ht] at hwide ⊢; exact hwide.2.2.1) h⟩, h⟩) fun z => ?_
      obtain ⟨_, hfine⟩ := z
      have hv : ∃ ad c, v = .slice ad ks.length c ∧ js.length = ks.length ∧ (0 < ks.length → ∃ rb, ad = some ⟨rb, 0, none⟩) := by
        obtain ⟨a, o', n', x', ad, c, ks', u', qs', h1, h2, h3, _, _, h4, _⟩ := hfine
        obtain ⟨tks, tps, h5, h6, _⟩ := zmi h3 h2
        rw [ht] at h5; cases h5
        rw [hsk, h3] at h1
        simp only [er, An.mk.injEq] at h1
        exact ⟨ad, c, by rw [← h1.2.2.2.2.1, h6], by rw [← h1.2.2.2.2.2.1, zff, h6], by rw [← h6]; exact h4⟩
      obtain ⟨ad, c, rfl, hjl, hadr⟩ := hv
      refine xd [] rfl (by simp) ?_
      have hkl : ks.length ≤ 1000000 := by rw [ht] at hwide; exact hwide.1
      refine zbw zbb 9 [.raw (.slice ad ks.length c)] rfl rfl (fun _ vs I w bs h => (zeo (by rw [hsk] at h; exact h)).1) rfl rfl (by simp) ?_
      refine xg [] rfl (by simp) ?_
      refine ykr zbb rfl rfl (by simp) (by simp; omega) (by simp [maxLen]; omega) rfl ?_
      rw [List.length_replicate]
      refine xg [] rfl (by simp) ?_
      refine zbw zbb 9 [.raw (.slice ad ks.length c)] rfl rfl (fun _ vs I w bs h => (zeo (by rw [hsk] at h; exact h)).1) rfl rfl (by simp) ?_
      refine xg [] rfl (by simp) ?_
      have hocc : zhw t ks.length 0 + zes ks = zlk t := by rw [ht]; simp [zlk, e]
      refine zah (fun y : Tm × List Str × List Sc => envL1 b ks.length y.2.2.length s) (fun y => stL1 b sk ks.length y) [12, 6, 14, 15, 16, 17, 18] (fun y => ks.length - y.2.2.length) (InvL1 sk t ks.length tk s) (t, tk, [])
        ⟨Nat.zero_le _, hfine, fun _ _ _ _ _ h => ⟨_, _, h, rfl⟩, fun _ => rfl, Nat.le_refl _, rfl⟩ ⟨rfl, rfl, rfl, rfl, rfl, rfl, rfl, trivial⟩ ⟨rfl, rfl, rfl, rfl, rfl, rfl, rfl, trivial⟩ rfl fun y hi ih => ?_
      obtain ⟨T, tk1, scs⟩ := y
      obtain ⟨g1, g2, g3, g4, g5, g6⟩ := hi
      simp only at g1 g2 g3 g4 g5 g6
      refine xd [] rfl (by simp) ?_
      refine zaa rfl (fun h => ?_) (fun h => ?_)
      · simp at h
        obtain ⟨m, hm⟩ : ∃ m, ks.length - scs.length = m + 1 := ⟨ks.length - scs.length - 1, by omega⟩
        have hm2 : ks.length - scs.length - 1 = m := by omega
        refine xd [] rfl (by simp) ?_
        refine zda zbb rfl (fun _ => ⟨by simp, by simp only [yc4]; omega⟩) (by simp) ?_
        have hone : V.one (ze8 s) = true := by
          rcases s with _ | ⟨⟨_, _⟩, _⟩ <;> rfl
        refine ynn (y := .nilp) zbb rfl (by simp only [hm]; exact ymo scs m) hone ?_
        refine xg [] rfl (by simp) ?_
        have hrow : (yao scs (ks.length - scs.length)).set scs.length [ze8 s] = zys scs s (ks.length - scs.length - 1) := by rw [hm, ymm]; rfl
        obtain ⟨x1, ps1, hT, hps1⟩ := g3 _ _ _ _ _ ht
        have hbl := hp_of hpats ht h
        have hb90 : tk1.length + (zad T scs.length).length ≤ 699 := by
          rw [hm] at g5
          simp only [zhw] at g5
          rw [g4]; omega
        obtain ⟨r1, r2, r3, r4, r5, r6⟩ := ya9 (i := scs.length) g2 tk1 s (zad T scs.length).length (Nat.le_refl _)
        have hnext : InvL1 sk t ks.length tk s ((rAt scs.length T tk1 s (zad T scs.length).length).2.1, (rAt scs.length T tk1 s (zad T scs.length).length).2.2.1, scs ++ [(rAt scs.length T tk1 s (zad T scs.length).length).2.2.2]) := by
          refine ⟨?_, r2, fun op' m' x' ks' ps' e => ?_, fun m' => (r4 m').trans (g4 m'), ?_, ?_⟩
          · simp only [List.length_append, List.length_singleton]; omega
          · obtain ⟨xa, pa, ea, la⟩ := g3 _ _ _ _ _ e
            obtain ⟨xb, pb, eb, lb⟩ := r6 _ _ _ _ _ ea
            exact ⟨xb, pb, eb, lb.trans la⟩
          · simp only [List.length_append, List.length_singleton]
            rw [r5]
            rw [hm] at g5
            simp only [zhw] at g5
            rw [show ks.length - (scs.length + 1) = m by omega, g4]; omega
          · rw [g6, hm]
            simp only [l1, List.length_append, List.length_singleton]
            rw [yp0, show ks.length - (scs.length + 1) = m by omega]
        have hrow2 : zys scs (rAt scs.length T tk1 s (zad T scs.length).length).2.2.2 (ks.length - scs.length - 1) = yao (scs ++ [(rAt scs.length T tk1 s (zad T scs.length).length).2.2.2]) (ks.length - (scs ++ [(rAt scs.length T tk1 s (zad T scs.length).length).2.2.2]).length) := by
          rw [rowS_T]; congr 1; simp only [List.length_append, List.length_singleton]; omega
        by_cases hB : zbg op scs.length = true ∨ (zbg op scs.length = false ∧ zbr op scs.length = true)
        · obtain ⟨fB, ty, vB, fcB, cB, q1, q2, q3, q4, q5⟩ := ylj (b := b) (i := scs.length) g2 hT (by omega) (by
            rcases hB with hB | ⟨hB1, hB2⟩
            · exact .inl hB
            · refine .inr ⟨hB1, hB2, ?_⟩
              have := hbl hB1 hB2
              rw [hps1]; exact this)
          refine zas (fr := [6]) [(9, 1)] [(6, 6)] rfl (by simp) q4 ⟨⟨rfl, rfl, rfl⟩, trivial⟩ rfl rfl rfl rfl ?_
          refine xg [] rfl (by simp) ?_
          refine zd1 (y := 3) (j := 4) (j2 := 5) (stc := yg0 ty vB) (stc' := yg0 ty vB) (stx := stR b sk ks.length scs (rAt scs.length T tk1 s 0)) (stB := stR b sk ks.length scs (rAt scs.length T tk1 s (zad T scs.length).length)) (pend := none) (E := yq9 b ks.length scs.length s) (ids' := [6, 14, 15, 16, 17, 18]) (d := .tup []) rfl q1 q2 q3 (show ya3 ∉ [1, 7, 8] by decide) ⟨rfl, rfl, rfl, rfl, rfl, rfl, rfl, rfl, trivial⟩
            (zci ⟨rfl, rfl, rfl, rfl, rfl, rfl, congrArg (fun r => some (some (Blk.row 86 1 r))) hrow, rfl, rfl, trivial⟩) (fun L h1 h2 h3 h4 h5 h6 h7 => ?_) ?_ ?_ ?_ ?_ ?_
          · have := q5 (fun j => zdv L (stR b sk ks.length scs (rAt scs.length T tk1 s j)) none) (fun j => ⟨(rAt scs.length T tk1 s j).2.1, fun I w bb bs hP => ypa (i := 9) hP rfl⟩) fun j d hd => by
              have hj : j < (zad T scs.length).length := by
                have := (List.getElem?_eq_some_iff.1 hd).1
                rwa [List.length_map, yad g2] at this
              rw [Nat.zero_add]
              exact ybj b sk ks.length scs T tk1 s s g2 j hj hb90 h hkl d hd h1 h2 h3 h4 h5 h6 h7
            rw [Nat.zero_add, yad g2] at this
            exact this
          · simp [yg0, stR, nms]
          · simp [yg0, nms]
          · intro i hi
            have e : nmL (zlx (zi0 (zbz [(9, 1)] ++ [(6, 6)])) [] ++ zlx (zi0 (zbz [(9, 1)] ++ [(6, 6)])) [.ref 6 0]) = [6] := rfl
            rw [e] at hi
            simpa [yg0, nms, zfk, nmB, nmL, nmD] using hi
          · refine ⟨by decide, ?_⟩
            simp [stR, yq9, nmE, nmD, zfk, nmB, nmL, nms]
          · refine xd [] rfl (by simp) ?_
            refine zae (ih _ (by simp only [List.length_append, List.length_singleton]; omega) hnext) ⟨by rw [List.length_append]; exact zcn (w64 (by omega) (by omega)), rfl, rfl, rfl, rfl, rfl, rfl, trivial⟩ ⟨rfl, rfl, rfl, rfl, rfl, (show yex (Blk.row 86 1 (zys scs (rAt scs.length T tk1 s (zad T scs.length).length).2.2.2 (ks.length - scs.length - 1))) (Blk.row 86 1 (yao (scs ++ [(rAt scs.length T tk1 s (zad T scs.length).length).2.2.2]) (ks.length - (scs ++ [(rAt scs.length T tk1 s (zad T scs.length).length).2.2.2]).length))) from by rw [hrow2]; rfl), rfl, trivial⟩ rfl
        · have hN : zbg op scs.length = false ∧ zbr op scs.length = false := by
            cases e1 : zbg op scs.length <;> cases e2 : zbr op scs.length <;> simp [e1, e2] at hB ⊢
          have hb0 : (zad T scs.length).length = 0 := by rw [hT]; simp [zad, hN.1, hN.2]
          rw [hb0] at hnext hrow2
          refine zas (fr := []) [(9, 1)] [] rfl (by simp) (zth (zcs b sk T) b op scs.length (by rw [hT]; exact zp1 (zig g2)) hN.1 hN.2) ⟨⟨rfl, rfl, rfl⟩, trivial⟩ rfl rfl rfl rfl ?_
          refine xg [] rfl (by simp) ?_
          refine zs3 44 rfl ?_
          refine zd1 (y := 3) (j := 4) (j2 := 5) (stc := []) (stc' := []) (stx := stR b sk ks.length scs (rAt scs.length T tk1 s 0)) (stB := stR b sk ks.length scs (rAt scs.length T tk1 s 0)) (pend := none) (E := yq9 b ks.length scs.length s) (ids' := [6, 14, 15, 16, 17, 18]) (d := .tup []) rfl Tryz.func99 (by decide +kernel) rfl (show ya3 ∉ [1, 7, 8] by decide) ⟨rfl, rfl, rfl, rfl, rfl, rfl, rfl, rfl, trivial⟩
            (zci ⟨rfl, rfl, rfl, rfl, rfl, congrArg (fun r => some (some (Blk.row 86 1 r))) hrow, rfl, rfl, trivial⟩) (fun L h1 h2 h3 h4 h5 h6 h7 => zne) ?_ ?_ ?_ ?_ ?_
          · simp [nms]
          · simp [nms]
          · intro i hi
            have e : nmL (([] : List D) ++ []) = [] := rfl
            rw [e] at hi
            simp [zfk] at hi
          · refine ⟨by decide, ?_⟩
            simp [stR, yq9, nmE, nmD, zfk, nmB, nmL, nms]
          · refine xd [] rfl (by simp) ?_
            refine zae (ih _ (by simp only [List.length_append, List.length_singleton]; omega) hnext) ⟨by rw [List.length_append]; exact zcn (w64 (by omega) (by omega)), rfl, rfl, rfl, rfl, rfl, rfl, trivial⟩ ⟨rfl, rfl, rfl, rfl, rfl, (show yex (Blk.row 86 1 (zys scs (rAt scs.length T tk1 s 0).2.2.2 (ks.length - scs.length - 1))) (Blk.row 86 1 (yao (scs ++ [(rAt scs.length T tk1 s 0).2.2.2]) (ks.length - (scs ++ [(rAt scs.length T tk1 s 0).2.2.2]).length))) from by rw [hrow2]; rfl), rfl, trivial⟩ rfl
      · simp at h
        have hn : scs.length = ks.length := by omega
        have hz : ks.length - scs.length = 0 := by omega
        rw [hz] at g5 g6
        simp only [l1] at g6
        simp only [zhw] at g5
        clear ih
        obtain ⟨x1, ps1, hT, hps1⟩ := g3 _ _ _ _ _ ht
        refine zar rfl ?_
        refine xd [] rfl (by simp) ?_
        refine zbw zbb 9 [.raw (.slice ad ks.length c)] rfl rfl (fun _ vs I w bs h => (zeo (by rw [hsk] at h; exact h)).1) rfl rfl (by simp) ?_
        refine xg [] rfl (by simp) ?_
        have hcan : zgz t s tk = (.mk op n x1 (ze3 ks scs tk1).1 ps1, (ze3 ks scs tk1).2) := by
          subst ht
          simp only [zgz, if_neg e, g6, hT, ze6]
        have hokq := zig g2
        refine zah (fun y : Nat × List Tm × List Str => envL2 b ks.length y.1 (.slice ad ks.length c)) (fun y => stL2 b sk ks.length scs (.mk op n x1 y.2.1 ps1) y.2.2) [6, 14, 12, 15, 16, 17, 18] (fun y => ks.length - y.1)
          (fun y => y.1 ≤ ks.length ∧ y.2.1.length = ks.length ∧ y.2.1.drop y.1 = ks.drop y.1 ∧ y.2.2.length + zes (ks.drop y.1) ≤ 699 ∧ ze3 ks scs tk1 = (y.2.1.take y.1 ++ (ze3 (ks.drop y.1) (scs.drop y.1) y.2.2).1, (ze3 (ks.drop y.1) (scs.drop y.1) y.2.2).2)) (0, ks, tk1)
          ⟨Nat.zero_le _, rfl, rfl, by simp only [List.drop_zero]; omega, rfl⟩ ⟨rfl, rfl, rfl, rfl, rfl, rfl, rfl, trivial⟩ ⟨rfl, rfl, by rw [hT]; rfl, rfl, rfl, rfl, rfl, trivial⟩ rfl fun y hi ih => ?_
        obtain ⟨i, kn, tk2⟩ := y
        obtain ⟨d1, d2, d3, d4, d5⟩ := hi
        simp only at d1 d2 d3 d4 d5
        refine xd [] rfl (by simp) ?_
        refine zaa rfl (fun h => ?_) (fun h => ?_)
        · simp at h
          obtain ⟨rb, rfl⟩ := hadr (by omega)
          obtain ⟨k, hk⟩ := zal h
          have hkn : kn[i]? = some k := by
            have := congrArg (fun l => l[0]?) d3
            simp only [List.getElem?_drop, Nat.add_zero] at this
            rw [this]; exact hk
          have hkK : tmK (.mk op n x1 kn ps1) i = some k := hkn
          obtain ⟨sc, hsc⟩ := zal (show i < scs.length by omega)
          obtain ⟨skc, hskc⟩ : ∃ skc, js[i]? = some skc := zal (by omega)
          have hsK : skK sk i = some skc := by rw [hsk]; exact hskc
          have hfc : zju skc := by rw [hsk] at hfull; exact zn7 hfull.1 hskc
          refine zel 9 (fun _ : { y : Int × Int × Str × Value × List An × Value × List An × Str × List Tm × List Ty // skc = .mk true y.1 y.2.1 y.2.2.1 y.2.2.2.1 y.2.2.2.2.1 y.2.2.2.2.2.1 y.2.2.2.2.2.2.1 ∧ k = .mk y.1 y.2.1 y.2.2.2.2.2.2.2.1 y.2.2.2.2.2.2.2.2.1 y.2.2.2.2.2.2.2.2.2 } => zcs b sk (.mk op n x1 kn ps1)) rfl (fun vs I w bs h => by
            obtain ⟨o, n, x, v, js, u, qs, tx, tks, tps, h1, h2⟩ := yh8 hokq hfc hsK hkK h
            exact ⟨⟨(o, n, x, v, js, u, qs, tx, tks, tps), h1, h2⟩, h⟩) fun z => ?_
          obtain ⟨⟨oc, nc, xc, vc, jsc, uc, qsc, tx, tks, tps⟩, hskc2, hk2⟩ := z
          simp only at hskc2 hk2
          refine yqr (ids' := [12, 15, 16, 17, 18]) 9 6 14 (fun _ : Unit => ylu b sk (.mk op n x1 kn ps1) i) (fun _ => yg6 skc k) rfl (fun vs I w bs h => by
            obtain ⟨b1, b2, e1, e2, e3, e4, e5⟩ := ygk hokq hsK hkK h
            exact ⟨(), b1, b2, e1, e2, e3, e4, e5⟩) fun _ => ?_
          refine xd [] rfl (by simp) ?_
          refine zdq zbb rfl rfl (fun _ => ⟨by simp, by simpa using h⟩) (by simp) ?_
          refine xg [] rfl (by simp) ?_
          refine zbw zbb 6 [.imm (.int .i64 oc), .imm (.int .i64 nc), .imm (.str tx), .raw vc, .raw uc] rfl rfl (fun _ vs I w bs h => by have := ygl hokq hsk hsK hskc2 hkK hk2 h; simpa using this) rfl rfl (by simp) ?_
          refine xg [] rfl (by simp) ?_
          refine zbw zbb 6 [.raw (.slice (some ⟨rb, 0, none⟩) ks.length c)] rfl rfl (fun _ vs I w bs h => ynk (by rw [hsk] at h; exact h)) rfl rfl (by simp) ?_
          refine xg [] rfl (by simp) ?_
          refine zda zbb rfl (fun _ => ⟨by simp, by simp only [yc4]; omega⟩) (by simp) ?_
          refine xg [] rfl (by simp) ?_
          refine zhe (e := [ze8 sc]) zbb rfl (fun _ => ymn hsc _) rfl (by simp) ?_
          refine xg [] rfl (by simp) ?_
          have hmem : k ∈ ks := List.mem_of_getElem? hk
          have hoc : zes (ks.drop i) = zlk k + zes (ks.drop (i + 1)) := by rw [zap hk]; rfl
          have IH := ydx k sc tk2 skc oc nc tx xc vc uc jsc qsc tks tps hk2 hskc2 hfc (by rw [ht] at hwide; exact zf6 hwide.2.2.2 hmem) (by rw [ht] at hpats; exact zgn hpats.2.2 hmem) (by omega)
          obtain ⟨x2, ks2, ps2, hsh⟩ := zoi oc nc tx tks tps sc tk2
          rw [← hk2] at hsh
          rw [hsh] at IH
          refine zas (fr := [15, 16]) [(14, 1), (7, 7), (13, 8)] [(5, 15), (13, 16)] rfl (by simp) IH ⟨⟨rfl, rfl, rfl⟩, ⟨rfl, rfl, rfl⟩, ⟨rfl, rfl, rfl⟩, trivial⟩ rfl rfl rfl rfl ?_
          refine xg [] rfl (by simp) ?_
          refine zdq zbb rfl rfl (fun _ => ⟨by simp, by simpa using h⟩) (by simp) ?_
          refine zmx zbb 6 15 17 (zcs b sk (zcj (.mk op n x1 kn ps1) i (.mk oc nc x2 ks2 ps2))) rfl rfl rfl (by decide) (by
            have := ygj (b := b) (o2 := oc) (n2 := nc) (x2 := x2) (ks2 := ks2) (ps2 := ps2) 15 hokq hsk hsK hskc2 hkK
            have e : 0 + ((i : Int)).toNat * 5 = i * 5 := by simp
            show zis _ _ _ 15 rb (0 + ((i : Int)).toNat * 5) [.imm (.int .i64 oc), .imm (.int .i64 nc), .imm (.str x2), .raw vc, .raw uc]
            rw [e]
            exact this) ?_
          refine xg [] rfl (by simp; rfl) ?_
          refine zbt 9 17 rfl ?_
          refine zbt 13 16 rfl ?_
          have hcl := zqm k sc tk2
          have hcan2 : ze3 (ks.drop i) (scs.drop i) tk2 = (.mk oc nc x2 ks2 ps2 :: (ze3 (ks.drop (i + 1)) (scs.drop (i + 1)) (zgz k sc tk2).2).1, (ze3 (ks.drop (i + 1)) (scs.drop (i + 1)) (zgz k sc tk2).2).2) := by
            rw [zap hk, zap hsc]
            simp only [ze3, List.headD_cons, List.tail_cons, hsh]
          have hks : (kn.set i (.mk oc nc x2 ks2 ps2))[i]? = some (.mk oc nc x2 ks2 ps2) := by rw [List.getElem?_set_self (by omega)]
          refine zae (ih (i + 1, kn.set i (.mk oc nc x2 ks2 ps2), (zgz k sc tk2).2) (by simp only; omega) ⟨by simp only; omega, by simp only [List.length_set]; exact d2, ?_, by simp only; omega, ?_⟩) ⟨zcn (w64 (by simp only; omega) (by simp only; omega)), rfl, rfl, rfl, rfl, rfl, rfl, trivial⟩ ⟨rfl, rfl, rfl, rfl, rfl, rfl, rfl, trivial⟩ rfl
          · simp only
            rw [List.drop_set_of_lt (by omega)]
            have := congrArg (List.drop 1) d3
            rwa [List.drop_drop, List.drop_drop] at this
          · simp only
            rw [d5, hcan2, zbk hks, List.take_set_of_le (Nat.le_refl _)]
            simp
        · simp at h
          have hi : i = ks.length := by omega
          subst hi
          rw [List.drop_eq_nil_of_le (Nat.le_refl _)] at d5
          simp only [ze3, List.append_nil] at d5
          rw [List.take_of_length_le (by omega)] at d5
          rw [d5] at hcan
          clear ih
          refine zar rfl ?_
          refine xd [] rfl (by simp) ?_
          refine zbw zbb 9 [.imm (.int .i64 op), .imm (.int .i64 n), .imm (.str x1), .raw (.slice ad ks.length c), .raw u] rfl rfl (fun _ vs I w bs h => zlg hsk rfl h) rfl rfl (by simp) ?_
          refine xg [] rfl (by simp) ?_
          refine yk8 (ids' := [14, 12, 15, 16, 17, 18]) 9 6 (fun _ : Unit => yg6 sk (.mk op n x1 kn ps1)) rfl (fun vs I w bs h => ⟨(), ymr h⟩) fun _ => ?_
          refine zbt 5 6 rfl ?_
          rw [hcan]
          exact zab ⟨_, rfl, rfl, rfl, rfl, rfl, trivial⟩
termination_by t => SizeOf.sizeOf t
decreasing_by
  all_goals
    have := List.sizeOf_lt_of_mem hmem
    subst ht
    simp_wf
    omega
end Go.Hk
namespace Go.Hk
open Go.Proofs Go.RowKit Go.Maps Go.Sort
set_option maxRecDepth 100000 in
theorem ye0 (m : List Str) (hm : ∀ s ∈ m, s.length ≤ maxLen) (hlen : m.length ≤ 1000000) :
    zc8 Tryz.prog 47 [.mapr 1] [(1, some (.map (ze7 m)))] (.ret (.own 2 (za5 (zgj m)).length) [(1, some (.map (ze7 m))), (2, some (.row 9 1 (za5 (zgj m))))]) := by
  intro I μ w xs hst hx
  obtain ⟨xl⟩ := xs
  have hx1 : xl.length = 1 := hx.1
  match xl, hx1 with
  | [x], _ =>
  have hxm : RepD I μ x (.mapr 1) := hx.2 0 x _ rfl rfl
  obtain ⟨g, hg, r, es, clock, e1, e2, e3, e4, e5⟩ := hst.blk 1 _ rfl
  subst e1
  have hxv : x = .map (some r) := by
    cases hxm with
    | mapr _ b h => rw [hg] at h; cases h; rfl
  subst hxv
  have hlen2 : es.toList.length = m.length := by simpa [ze7] using e3
  have hkey : ∀ (i : Nat) (e : MapEntry), es.toList[i]? = some e → ∃ s, m[i]? = some s ∧ yq6 e.key = s ∧ (∃ b : ByteArray, e.key = .string b ∧ b.size ≤ maxLen) ∧ ∃ c, e.val = .bool c := by
    intro i e hi
    obtain ⟨s, hs⟩ : ∃ s, m[i]? = some s := ⟨_, List.getElem?_eq_getElem (by rw [← hlen2]; exact (List.getElem?_eq_some_iff.1 hi).1)⟩
    obtain ⟨h1, h2⟩ := e5 i e (.str s, .bool true) (by simpa using hi) (by simp [ze7, hs])
    refine ⟨s, hs, ?_⟩
    generalize e.key = k at h1
    generalize e.val = u at h2
    cases h1 with
    | str b l hb =>
      cases h2 with
      | bool c =>
        refine ⟨hb, ⟨b, rfl, ?_⟩, _, rfl⟩
        have := hm s (List.mem_of_getElem? hs)
        rw [← hb] at this
        show b.data.size ≤ maxLen
        rw [← Array.length_toList]; exact this
  have hkeys : es.toList.map (fun e => yq6 e.key) = m := by
    refine List.ext_getElem? fun i => ?_
    rw [List.getElem?_map]
    cases hi : es.toList[i]? with
    | none =>
      have : m[i]? = none := by
        rw [List.getElem?_eq_none_iff] at hi ⊢; omega
      rw [this]; rfl
    | some e =>
      obtain ⟨s, h1, h2, _⟩ := hkey i e hi
      rw [h1, ← h2]; rfl
  have hrun : (callFunc 47 #[.map (some r)]).run Tryz.prog w = .ok (.enter 47 #[.map (some r)]) w := Hk.run_callFunc_body (Go.Proofs.Tryz.func47) (by decide +kernel) rfl _
  show valX Tryz.prog ((callFunc 47 #[.map (some r)]).run Tryz.prog w) _ _
  rw [hrun]
  refine (zov w r es clock e2 e4 (fun e he => ?_) (by rw [← Array.length_toList, hlen2]; exact hlen)).mono ?_
  · obtain ⟨i, hi⟩ := List.getElem?_of_mem he
    obtain ⟨s, _, _, h⟩ := hkey i e hi
    exact h
  rintro e w' ⟨v, ss, rfl, h2, h3, h4, h5⟩
  rw [hkeys] at h2
  have hss : ss.mergeSort (fun x y => decide (x ≤ y)) = zgj m := mergeSort_of_perm h2
  rw [hss] at h3
  have hsz : (zgj m).length = ss.length := by rw [← hss]; exact List.length_mergeSort _
  have hw : ∀ k, k < w.heap.size → w'.heap[k]? = w.heap[k]? := fun k hk => h5.block k hk
  obtain ⟨ν, hν⟩ : ∃ ν : Mu, ν = fun k => if k = 2 then some v else μ k := ⟨_, rfl⟩
  have hν2 : ν 2 = some v := by rw [hν]; simp
  have hνo : ∀ k, k ≠ 2 → ν k = μ k := fun k hk => by rw [hν]; simp [hk]
  have hlen : (za5 (zgj m)).length = ss.length := by simp [za5, hsz]
  have hadr : ∀ k, zgy v k → w.heap.size ≤ k := fun k hk => by
    rcases h3.2 with ⟨rfl, _⟩ | ⟨gb, cap, cur, rfl, hbase, _⟩
    · exact hk.elim
    · exact hk ▸ hbase
  have hadr2 : ∀ k, zgy v k → k < w'.heap.size := fun k hk => by
    rcases h3.2 with ⟨rfl, _⟩ | ⟨gb, cap, cur, rfl, hbase, hheap, _⟩
    · exact hk.elim
    · exact hk ▸ (Array.getElem?_eq_some_iff.1 hheap).1
  have hI : ∀ k, w.heap.size ≤ k → I k = none := fun k hk => by
    cases hk' : I k with
    | none => rfl
    | some o =>
      have := (Array.getElem?_eq_some_iff.1 (hst.imm k o hk')).1
      omega
  have hblk : BlkRep I ν w' v (.row 9 1 (za5 (zgj m))) := by
    refine ⟨(zgj m).map encStr, ?_, ?_, fun e he => ?_, fun e he x hx => ?_, Nat.one_pos⟩
    · refine ⟨by rw [hlen]; simpa using h3.1, ?_⟩
      rcases h3.2 with ⟨h0, h1⟩ | ⟨gb, cap, cur, h1, hbase, h2⟩
      · exact .inl ⟨h0, by rw [hlen]; exact h1⟩
      · exact .inr ⟨gb, cap, cur, by rw [hlen]; exact h1, Nat.zero_le _, by rw [hlen]; exact h2⟩
    · generalize zgj m = l
      have e1 : (za5 l).flatten = l.map V.str := by
        induction l with
        | nil => rfl
        | cons a r ih => rw [show za5 (a :: r) = [V.str a] :: za5 r from rfl, List.flatten_cons, ih]; rfl
      refine ⟨by rw [e1]; simp, fun i c x hc hx => ?_⟩
      rw [e1, List.getElem?_map] at hx
      rw [List.getElem?_map] at hc
      cases hl : l[i]? with
      | none => rw [hl] at hc; cases hc
      | some a => rw [hl] at hc hx; cases hc; cases hx; exact zvh _ _
    · simp only [za5, List.mem_map] at he
      obtain ⟨a, _, rfl⟩ := he; rfl
    · simp only [za5, List.mem_map] at he
      obtain ⟨a, _, rfl⟩ := he
      simp at hx; subst hx; rfl
  have hst1 : ∀ i b, zat [(1, some (Blk.map (ze7 m))), (2, some (.row 9 1 (za5 (zgj m))))] i b → (i = 1 ∧ b = .map (ze7 m)) ∨ (i = 2 ∧ b = .row 9 1 (za5 (zgj m))) := fun i b h => by
    rcases zai.1 h with h | ⟨_, h⟩
    · exact .inl h
    · rcases zai.1 h with h | ⟨_, h⟩
      · exact .inr h
      · simp [zat, lk] at h
  have hl1 : zat [(1, some (Blk.map (ze7 m)))] 1 (.map (ze7 m)) := zai.2 (.inl ⟨rfl, rfl⟩)
  refine ⟨I, ν, ?_, ?_, ?_, ?_⟩
  · rw [hlen]
    obtain ⟨a, cap, rfl⟩ : ∃ a cap, v = .slice a ss.length cap := by
      rcases h3.2 with ⟨h0, h1⟩ | ⟨gb, cap, cur, h1, _⟩
      · exact ⟨none, 0, by rw [h0, h1]⟩
      · exact ⟨_, cap, h1⟩
    exact .own _ _ _ _ hν2
  · exact
      { imm := fun k o h => by
          have := hst.imm k o h
          rw [hw k (Array.getElem?_eq_some_iff.1 this).1]; exact this
        blk := fun i b hl => by
          rcases hst1 i b hl with ⟨rfl, rfl⟩ | ⟨rfl, rfl⟩
          · obtain ⟨gi, q1, q2⟩ := hst.blk 1 _ hl1
            exact ⟨gi, by rw [hνo 1 (by decide)]; exact q1, (show BlkRep I ν w' gi (.map (ze7 m)) from q2.world fun k hk => hw k (hst.apart 1 _ gi k hl1 q1 hk).2)⟩
          · exact ⟨v, hν2, hblk⟩
        apart := fun i b gi k hl hgi hk => by
          rcases hst1 i b hl with ⟨rfl, rfl⟩ | ⟨rfl, rfl⟩
          · rw [hνo 1 (by decide)] at hgi
            obtain ⟨q1, q2⟩ := hst.apart 1 _ gi k hl1 hgi hk
            exact ⟨q1, Nat.lt_of_lt_of_le q2 h5.size⟩
          · rw [hν2] at hgi; cases hgi
            exact ⟨hI k (hadr k hk), hadr2 k hk⟩
        inj := fun i j bi bj gi gj k hi hj hgi hgj hki hkj => by
          rcases hst1 i bi hi with ⟨rfl, rfl⟩ | ⟨rfl, rfl⟩ <;> rcases hst1 j bj hj with ⟨rfl, rfl⟩ | ⟨rfl, rfl⟩
          · rfl
          · rw [hνo 1 (by decide)] at hgi
            rw [hν2] at hgj; cases hgj
            have := (hst.apart 1 _ gi k hl1 hgi hki).2
            have := hadr k hkj
            omega
          · rw [hνo 1 (by decide)] at hgj
            rw [hν2] at hgi; cases hgi
            have := (hst.apart 1 _ gj k hl1 hgj hkj).2
            have := hadr k hki
            omega
          · rfl
        nodup := .nil
        idsFree := fun _ h => by simp at h }
  · intro i hi u hu
    have : i ≠ 2 := fun e => by subst e; simp [nms] at hi
    rw [hνo i this]; exact hu
  · exact
      { imm := Imm.le_refl I, os := h5.os, tape := h5.tape, output := h5.output, size := h5.size
        block := fun k hk _ => hw k hk
        fresh := fun k hk ⟨i, b, gi, hl, hgi, hki⟩ => by
          rcases hst1 i b hl with ⟨rfl, rfl⟩ | ⟨rfl, rfl⟩
          · exact ⟨1, _, gi, hl1, by rw [← hνo 1 (by decide)]; exact hgi, hki⟩
          · rw [hν2] at hgi; cases hgi
            have := hadr k hki
            omega
        old := fun k hk _ => rfl }
end Go.Hk
namespace Go.Hk
open Go.Proofs
mutual
theorem zwc : ∀ (t : Ty) (j : Nat) (x : Str), zcu x = true → zca t = true → zca (zc2 t j x) = true ∧ ∀ l, zce (zc2 t j x) l = zce t l
  | .mk s n y ps, j, x, hx, h => by
    simp only [zca, Bool.and_eq_true] at h
    have hgo : ∀ j, zc2 (.mk s n y ps) (j + 1) x = .mk s n y (zdb ps j x) ∨ s ≠ 2 := fun j => by
      by_cases e : s = 2
      · exact .inl (by simp [zc2, e])
      · exact .inr e
    by_cases e : s = 2
    · cases j with
      | zero =>
        have h1 := h.1
        simp [zh6, e] at h1
        simp [zc2, zca, zh6, zce, e, h1, hx, h.2]
        have := h.2
        rw [h1.1.1] at this; exact this
      | succ j =>
        obtain ⟨a, b, c⟩ := zq6 ps j x hx h.2
        have e2 : zc2 (.mk s n y ps) (j + 1) x = .mk s n y (zdb ps j x) := by simp [zc2, e]
        rw [e2]
        simp only [zca, zce, c, h.1, a, b, Bool.and_self]
        exact ⟨trivial, fun _ => trivial⟩
    · obtain ⟨a, b, c⟩ := zq6 ps j x hx h.2
      have e2 : zc2 (.mk s n y ps) j x = .mk s n y (zdb ps j x) := by simp [zc2, e]
      rw [e2]
      simp only [zca, zce, c, h.1, a, b, Bool.and_self]
      exact ⟨trivial, fun _ => trivial⟩
theorem zq6 : ∀ (l : List Ty) (j : Nat) (x : Str), zcu x = true → zbq l = true → zbq (zdb l j x) = true ∧ (∀ w, zcg (zdb l j x) w = zcg l w) ∧ (zdb l j x).length = l.length
  | [], j, x, hx, h => by simp [zdb, zbq, zcg]
  | t :: r, j, x, hx, h => by
    simp only [zbq, Bool.and_eq_true] at h
    obtain ⟨a, b⟩ := zwc t j x hx h.1
    obtain ⟨c, d, e⟩ := zq6 r (j - (zb2 t).length) x hx h.2
    simp only [zdb]
    split
    · simp [zbq, zcg, a, b, h.2]
    · simp [zbq, zcg, c, d, e, h.1]
end
theorem zpe : ∀ (l pre : List Str), zbm pre l = true ↔ l.Nodup ∧ ∀ x ∈ l, x ∉ pre
  | [], pre => by simp [zbm]
  | x :: r, pre => by
    have hb : zck pre x = false ↔ x ∉ pre := by
      cases h : zck pre x with
      | true => simp [zdy.1 h]
      | false => simp; intro hm; rw [zdy.2 hm] at h; cases h
    simp only [zbm, Bool.and_eq_true, Bool.not_eq_true', hb, zpe r, List.nodup_cons, List.mem_append, List.mem_cons, List.not_mem_nil, or_false, not_or]
    constructor
    · rintro ⟨h1, h2, h3⟩
      refine ⟨⟨fun h => (h3 x h).2 rfl, h2⟩, fun y hy => ?_⟩
      rcases hy with rfl | hy
      · exact h1
      · exact (h3 y hy).1
    · rintro ⟨⟨h1, h2⟩, h3⟩
      exact ⟨h3 x (.inl rfl), h2, fun y hy => ⟨h3 y (.inr hy), fun e => h1 (e ▸ hy)⟩⟩
theorem zgu (l : List Str) : zjx l = true ↔ l.Nodup := by simp [zjx, zpe]
def ylz (p : Ty) : Nat → List Str → Ty
  | _, [] => p
  | j, f :: r => ylz (zc2 p j f) (j + 1) r
def zbv (T : Tm) (i : Int) : Nat → List Str → Tm
  | _, [] => T
  | j, f :: r => zbv (zc3 T i j f) i (j + 1) r
def zdz : Nat → List Str → List Str
  | 0, _ => []
  | n + 1, tk => zbe tk :: zdz n (tk ++ [zbe tk])
theorem zgg : ∀ (n : Nat) (tk : List Str), (zdz n tk).length = n
  | 0, _ => rfl
  | n + 1, tk => by simp [zdz, zgg n]
theorem zsm : ∀ (n : Nat) (tk : List Str), tk.length + n ≤ 700 → (zdz n tk).Nodup ∧ ∀ f ∈ zdz n tk, zcu f = true ∧ f ∉ tk
  | 0, tk, _ => by simp [zdz]
  | n + 1, tk, h => by
    obtain ⟨h1, h2⟩ := zg7 tk (by omega)
    obtain ⟨h3, h4⟩ := zsm n (tk ++ [zbe tk]) (by simp; omega)
    simp only [zdz, List.nodup_cons]
    refine ⟨⟨fun hm => ?_, h3⟩, fun f hf => ?_⟩
    · exact (h4 _ hm).2 (List.mem_append_right _ (List.mem_singleton.2 rfl))
    · rcases List.mem_cons.1 hf with e | hf
      · rw [e]; exact ⟨h1, h2⟩
      · obtain ⟨a, b⟩ := h4 f hf
        exact ⟨a, fun hm => b (by simp [hm])⟩
theorem zqj (i : Int) : ∀ (names : List Str) (j : Nat) (T : Tm) (tk : List Str) (s : Sc), names.foldl (ziy i) (j, T, tk, s) = (j + names.length, zbv T i j (zdz names.length tk), tk ++ zdz names.length tk, (names.zip (zdz names.length tk)).reverse ++ s)
  | [], j, T, tk, s => by simp [zdz, zbv]
  | x :: r, j, T, tk, s => by
    rw [List.foldl_cons]
    simp only [ziy]
    rw [zqj i r]
    simp only [List.length_cons, zdz, zbv, List.zip_cons_cons, List.reverse_cons, List.append_assoc, List.singleton_append, List.cons_append, List.nil_append]
    congr 1; omega
theorem zxe (i : Int) (names : List Str) (T : Tm) (tk : List Str) (s : Sc) : zlt i names T tk s = (names.length, zbv T i 0 (zdz names.length tk), tk ++ zdz names.length tk, (names.zip (zdz names.length tk)).reverse ++ s) := by
  rw [zlt, zqj]; simp
theorem zee (op n : Int) (ks : List Tm) (i : Int) : ∀ (fl : List Str) (j : Nat) (y : Str) (ps : List Ty),
    zbv (.mk op n y ks ps) i j fl = if zbg op i then .mk op n (fl.getLast?.getD y) ks ps else if zbr op i then (match ps[(i - 1).toNat]? with
      | some p => .mk op n y ks (ps.set (i - 1).toNat (ylz p j fl))
      | none => .mk op n y ks ps) else .mk op n y ks ps
  | [], j, y, ps => by
    simp only [zbv, List.getLast?_nil, Option.getD_none, ylz]
    split
    · rfl
    · split
      · split
        · rename_i p hp
          obtain ⟨hlt, e⟩ := List.getElem?_eq_some_iff.1 hp
          rw [← e, List.set_getElem_self]
        · rfl
      · rfl
  | f :: r, j, y, ps => by
    simp only [zbv, zc3]
    by_cases h1 : zbg op i = true
    · simp only [h1, if_true]
      rw [zee op n ks i r]
      simp only [h1, if_true]
      congr 1
      cases r with
      | nil => rfl
      | cons a r => rw [List.getLast?_cons_cons]; rw [List.getLast?_eq_some_getLast (by simp)]; rfl
    · by_cases h2 : zbr op i = true
      · simp only [if_neg h1, if_pos h2]
        cases hp : ps[(i - 1).toNat]? with
        | none =>
          simp only []
          rw [zee op n ks i r]
          simp only [if_neg h1, if_pos h2, hp]
        | some p =>
          have hlt := (List.getElem?_eq_some_iff.1 hp).1
          simp only []
          rw [zee op n ks i r]
          simp only [if_neg h1, if_pos h2, List.getElem?_set_self hlt, List.set_set, ylz]
      · simp only [if_neg h1, if_neg h2]
        rw [zee op n ks i r]
        simp only [if_neg h1, if_neg h2]
theorem yhx : ∀ (fl : List Str) (p : Ty) (j : Nat), (∀ f ∈ fl, zcu f = true) → zca p = true → zca (ylz p j fl) = true ∧ ∀ l, zce (ylz p j fl) l = zce p l
  | [], p, j, _, h => ⟨h, fun _ => rfl⟩
  | f :: r, p, j, hf, h => by
    obtain ⟨a, b⟩ := zwc p j f (hf f (by simp)) h
    obtain ⟨c, d⟩ := yhx r (zc2 p j f) (j + 1) (fun g hg => hf g (by simp [hg])) a
    exact ⟨c, fun l => (d l).trans (b l)⟩
theorem znm : ∀ (fl : List Str) (p : Ty) (j : Nat), j + fl.length = (za3 p).length → za3 (ylz p j fl) = (za3 p).take j ++ fl
  | [], p, j, h => by simp only [ylz, List.append_nil]; rw [List.take_of_length_le (by simp at h; omega)]
  | f :: r, p, j, h => by
    simp only [ylz]
    have hj : j < (za3 p).length := by simp at h; omega
    rw [znm r (zc2 p j f) (j + 1) (by rw [zgc, List.length_set]; simp at h; omega), zgc]
    rw [show (((za3 p).set j f).take (j + 1)) = (za3 p).take j ++ [f] from by
      rw [List.take_add_one, List.getElem?_set_self hj, List.take_set_of_le (Nat.le_refl _)]; rfl]
    simp
theorem zyk (T : Tm) (i : Int) (fl : List Str) (h : fl.length = (zad T i).length) : zad (zbv T i 0 fl) i = fl := by
  obtain ⟨op, n, y, ks, ps⟩ := T
  rw [zee]
  simp only [zad] at h
  by_cases h1 : zbg op i = true
  · simp only [h1, if_true, List.length_singleton] at h ⊢
    obtain ⟨f, rfl⟩ := List.length_eq_one_iff.1 h
    simp [zad, h1]
  · by_cases h2 : zbr op i = true
    · rw [if_neg h1, if_pos h2] at h ⊢
      cases hp : ps[(i - 1).toNat]? with
      | none =>
        simp only [hp, List.length_nil] at h
        have := List.eq_nil_of_length_eq_zero h
        subst this
        simp only [zad, if_neg h1, if_pos h2, hp]
      | some p =>
        have hlt := (List.getElem?_eq_some_iff.1 hp).1
        simp only [hp] at h
        simp only [zad, if_neg h1, if_pos h2, List.getElem?_set_self hlt]
        rw [znm fl p 0 (by omega)]; simp
    · rw [if_neg h1, if_neg h2] at h ⊢
      have := List.eq_nil_of_length_eq_zero h
      subst this
      simp only [zad, if_neg h1, if_neg h2]
theorem zyj (T : Tm) (i k : Int) (fl : List Str) (hne : i ≠ k) (h1 : ∀ op n y ks ps, T = .mk op n y ks ps → zbg op i = true → zbg op k = true → False) : zad (zbv T i 0 fl) k = zad T k := by
  obtain ⟨op, n, y, ks, ps⟩ := T
  rw [zee]
  by_cases h2 : zbg op i = true
  · have h3 : ¬ zbg op k = true := fun h => h1 op n y ks ps rfl h2 h
    simp only [h2, if_true, zad, if_neg h3]
  · rw [if_neg h2]
    by_cases h3 : zbr op i = true
    · rw [if_pos h3]
      cases hp : ps[(i - 1).toNat]? with
      | none => rfl
      | some p =>
        simp only [zad]
        by_cases h4 : zbg op k = true
        · simp only [h4, if_true]
        · rw [if_neg h4, if_neg h4]
          by_cases h5 : zbr op k = true
          · rw [if_pos h5, if_pos h5]
            have : (i - 1).toNat ≠ (k - 1).toNat := by
              simp only [zbr, Bool.and_eq_true, decide_eq_true_eq] at h3 h5
              omega
            rw [List.getElem?_set_ne this]
          · rw [if_neg h5, if_neg h5]
    · rw [if_neg h3]
def ynt : Tm → Prop
  | .mk op n x ks ps => za9 op n x ks.length ps.length = true ∧ ps.all zct = true
theorem zp9 {op n : Int} {x y : Str} {k p : Nat} {i : Int} (h : zbg op i = true ∨ op = 4) (hn : za9 op n x k p = true) (hy : zcu y = true) : za9 op n y k p = true := by
  simp only [zbg, Bool.or_eq_true, Bool.and_eq_true, beq_iff_eq] at h
  rcases h with ((h | h) | ⟨h, _⟩) | h <;> subst h <;> simp [za9, zbj] at hn ⊢ <;> grind
theorem yjc {op n : Int} {x : Str} {k p : Nat} (hn : za9 op n x k p = true) {i j : Nat} (hi : i < k) (hj : j < k) (h1 : zbg op i = true) (h2 : zbg op j = true) : i = j := by
  simp only [zbg, Bool.or_eq_true, Bool.and_eq_true, beq_iff_eq] at h1 h2
  rcases h1 with (h | h) | ⟨h, h3⟩
  · subst h; simp [za9, zbj] at hn; omega
  · subst h; simp [za9, zbj] at hn; omega
  · subst h; simp at h2; omega
theorem ykx {T : Tm} {i : Int} {fl : List Str} (hT : ynt T) (hl : fl.length = (zad T i).length) (hn : fl.Nodup) (hf : ∀ f ∈ fl, zcu f = true) : ynt (zbv T i 0 fl) := by
  obtain ⟨op, n, y, ks, ps⟩ := T
  rw [zee]
  simp only [zad] at hl
  by_cases h1 : zbg op i = true
  · rw [if_pos h1] at hl ⊢
    obtain ⟨f, rfl⟩ := List.length_eq_one_iff.1 hl
    exact ⟨zp9 (.inl h1) hT.1 (hf f (by simp)), hT.2⟩
  · by_cases h2 : zbr op i = true
    · rw [if_neg h1, if_pos h2] at hl ⊢
      cases hp : ps[(i - 1).toNat]? with
      | none => exact hT
      | some p =>
        simp only [hp] at hl
        refine ⟨by simpa using hT.1, ?_⟩
        rw [List.all_eq_true]
        intro q hq
        have hall := List.all_eq_true.1 hT.2
        rcases List.mem_or_eq_of_mem_set hq with hq | hq
        · exact hall q hq
        · have hpo := hall p (List.mem_of_getElem? hp)
          simp only [zct, Bool.and_eq_true, decide_eq_true_eq] at hpo
          obtain ⟨a, b⟩ := yhx fl p 0 hf hpo.1.2
          have hnm : za1 (ylz p 0 fl) = fl := by
            rw [← zgm _ a]
            have := znm fl p 0 (by omega)
            simpa [za3] using this
          rw [hq]
          simp only [zct, Bool.and_eq_true, decide_eq_true_eq, a, b, hnm, zgu]
          exact ⟨⟨hpo.1.1, trivial⟩, hn⟩
    · rw [if_neg h1, if_neg h2]; exact hT
def zl3 (s : Sc) : Prop := ∀ p ∈ s, zcu p.2 = true
theorem yhh {a b : List Str} {s : Sc} (h : ∀ f ∈ b, zcu f = true) (hs : zl3 s) : zl3 ((a.zip b).reverse ++ s) := by
  intro p hp
  rcases List.mem_append.1 hp with hp | hp
  · exact h _ (List.of_mem_zip (List.mem_reverse.1 hp)).2
  · exact hs p hp
theorem yj8 : ∀ (m i : Nat) (T : Tm) (tk : List Str) (s : Sc) (acc : List Sc), ynt T → zl3 s → (∀ sc ∈ acc, zl3 sc) → tk.length + zhw T m i ≤ 700 → ynt (l1 m i T tk s acc).1 ∧ ∀ sc ∈ (l1 m i T tk s acc).2.2, zl3 sc
  | 0, i, T, tk, s, acc, h1, h2, h3, h4 => ⟨h1, h3⟩
  | m + 1, i, T, tk, s, acc, h1, h2, h3, h4 => by
    simp only [zhw] at h4
    obtain ⟨hn, hf⟩ := zsm (zad T i).length tk (by omega)
    simp only [l1, zxe]
    have hc := zfi (t := zbv T i 0 (zdz (zad T i).length tk)) (u := T) (fun k => by
      have := (zmy i (zad T i) (0, T, tk, s)).2 k
      rw [zqj] at this; exact this) m (i + 1)
    refine yj8 m (i + 1) _ _ s _ (ykx h1 (by rw [zgg]) hn fun f hf' => (hf f hf').1) h2 (fun sc hsc => ?_) (by rw [hc, List.length_append, zgg]; omega)
    rcases List.mem_append.1 hsc with hsc | hsc
    · exact h3 sc hsc
    · rw [List.mem_singleton.1 hsc]
      exact yhh (fun f hf' => (hf f hf').1) h2
theorem yfr {s : Sc} {x y : Str} (h : zl3 s) (hl : zhb s x = some y) : zcu y = true := by
  induction s with
  | nil => cases hl
  | cons p r ih =>
    obtain ⟨a, b⟩ := p
    simp only [zhb] at hl
    split at hl
    · cases hl; exact h _ (List.mem_cons_self ..)
    · exact ih (fun q hq => h q (by simp [hq])) hl
mutual
theorem zvp : ∀ (t : Tm) (s : Sc) (tk : List Str), zak t = true → zl3 s → tk.length + zlk t ≤ 700 → zak (zgz t s tk).1 = true ∧ zcp (zgz t s tk).1 = zcp t ∧ dpT (zgz t s tk).1 = dpT t
  | .mk op n x ks ps, s, tk, h, hs, hb => by
    simp only [zak, Bool.and_eq_true] at h
    by_cases e : op = 4
    · simp only [zgz, if_pos e, zak, Bool.and_eq_true, zcp, dpT]
      refine ⟨⟨⟨?_, h.1.2⟩, h.2⟩, trivial, trivial⟩
      cases hl : zhb s x with
      | none => exact h.1.1
      | some y => exact zp9 (i := 0) (.inr e) h.1.1 (yfr hs hl)
    · simp only [zlk, if_neg e] at hb
      obtain ⟨g1, g2⟩ := yj8 ks.length 0 (.mk op n x ks ps) tk s [] ⟨h.1.1, h.1.2⟩ hs (by simp) (by omega)
      obtain ⟨x', ps', hsh, hpl⟩ := zwv ks.length 0 (.mk op n x ks ps) tk s [] op n x ks ps rfl
      have hln := (yj7 ks.length 0 (.mk op n x ks ps) tk s []).1
      obtain ⟨k1, k2, k3, k4⟩ := ztb ks (l1 ks.length 0 (.mk op n x ks ps) tk s []).2.2 (l1 ks.length 0 (.mk op n x ks ps) tk s []).2.1 h.2 g2 (by omega)
      simp only [zgz, if_neg e]
      rw [hsh] at g1 ⊢
      simp only [ze6, zak, Bool.and_eq_true, zcp, dpT, k1, k2, k3, k4]
      exact ⟨⟨⟨g1.1, g1.2⟩, trivial⟩, trivial, trivial⟩
theorem ztb : ∀ (l : List Tm) (scs : List Sc) (tk : List Str), zaq l = true → (∀ sc ∈ scs, zl3 sc) → tk.length + zes l ≤ 700 → zaq (ze3 l scs tk).1 = true ∧ zco (ze3 l scs tk).1 = zco l ∧ (∀ m, zw6 (ze3 l scs tk).1 m = zw6 l m) ∧ (ze3 l scs tk).1.length = l.length
  | [], scs, tk, _, _, _ => by simp [ze3, zaq]
  | k :: r, scs, tk, h, hs, hb => by
    simp only [zaq, Bool.and_eq_true] at h
    simp only [zes] at hb
    have hh : zl3 (scs.headD []) := by
      cases scs with
      | nil => intro p hp; cases hp
      | cons a q => exact hs a (by simp)
    obtain ⟨a1, a2, a3⟩ := zvp k (scs.headD []) tk h.1 hh (by omega)
    have hl := zqm k (scs.headD []) tk
    obtain ⟨b1, b2, b3, b4⟩ := ztb r scs.tail (zgz k (scs.headD []) tk).2 h.2 (fun sc hsc => hs sc (List.mem_of_mem_tail hsc)) (by omega)
    simp only [ze3, zaq, Bool.and_eq_true, zco, zw6, List.length_cons, a1, a2, a3, b1, b2, b4]
    exact ⟨⟨trivial, trivial⟩, trivial, fun m => b3 _, trivial⟩
end
def zxu (K : Nat) : Tm → Prop
  | .mk op _ _ _ _ => ∀ i j : Nat, i < K → j < K → zbg op i = true → zbg op j = true → i = j
theorem zqa {K : Nat} {T : Tm} {i : Int} {j : Nat} {fl : List Str} (h : zxu K T) : zxu K (zbv T i j fl) := by
  obtain ⟨op, n, y, ks, ps⟩ := T
  rw [zee]
  split
  · exact h
  · split
    · split <;> exact h
    · exact h
theorem zh4 {K : Nat} {T : Tm} (h : zxu K T) {i k : Nat} (hi : i < K) (hk : k < K) (hne : i ≠ k) (fl : List Str) : zad (zbv T (i : Int) 0 fl) (k : Int) = zad T (k : Int) :=
  zyj T i k fl (by omega) fun op n y ks ps e h1 h2 => by
    subst e
    exact hne (h i k hi hk h1 h2)
theorem ybp {K : Nat} : ∀ (m i : Nat) (T : Tm) (tk : List Str) (s : Sc) (acc : List Sc), i + m ≤ K → zxu K T →
    (∀ k, k < i → zad (l1 m i T tk s acc).1 (k : Int) = zad T (k : Int)) ∧
    (∀ k, i ≤ k → k < i + m → (zad (l1 m i T tk s acc).1 (k : Int)).length = (zad T (k : Int)).length) ∧
    (∃ g, (l1 m i T tk s acc).2.1 = tk ++ g ∧ ∀ k, i ≤ k → k < i + m → ∀ f ∈ zad (l1 m i T tk s acc).1 (k : Int), f ∈ g) ∧
    (tk.length + zhw T m i ≤ 700 → ∀ k, i ≤ k → k < i + m → ∀ f ∈ zad (l1 m i T tk s acc).1 (k : Int), f ∉ tk) ∧
    (l1 m i T tk s acc).2.2 = acc ++ (List.range' i m).map fun k : Nat => ((zad T (k : Int)).zip (zad (l1 m i T tk s acc).1 (k : Int))).reverse ++ s
  | 0, i, T, tk, s, acc, _, _ => ⟨fun _ _ => rfl, fun k h1 h2 => by omega, ⟨[], by simp [l1], fun k h1 h2 => by omega⟩, fun _ k h1 h2 => by omega, by simp [l1]⟩
  | m + 1, i, T, tk, s, acc, hK, hone => by
    have hfl := zgg (zad T (i : Int)).length tk
    have hfo := zsm (zad T (i : Int)).length tk
    simp only [l1, zxe]
    generalize hF : zdz (zad T (i : Int)).length tk = fl at *
    have hb := zyk T i fl hfl
    have ho : ∀ k : Nat, k < K → k ≠ i → zad (zbv T (i : Int) 0 fl) (k : Int) = zad T (k : Int) := fun k hk hne => zh4 hone (by omega) hk (fun e => hne e.symm) fl
    have hc := zfi (t := zbv T i 0 fl) (u := T) (fun k => by
      have := (zmy i (zad T i) (0, T, tk, s)).2 k
      rw [zqj, hF] at this; exact this) m (i + 1)
    obtain ⟨a1, a2, ⟨g, a3, a4⟩, a5, a6⟩ := ybp (K := K) m (i + 1) (zbv T (i : Int) 0 fl) (tk ++ fl) s (acc ++ [((zad T (i : Int)).zip fl).reverse ++ s]) (by omega) (zqa hone)
    have hi := a1 i (by omega)
    rw [hb] at hi
    generalize l1 m (i + 1) (zbv T (i : Int) 0 fl) (tk ++ fl) s (acc ++ [((zad T (i : Int)).zip fl).reverse ++ s]) = r at *
    refine ⟨fun k hk => ?_, fun k h1 h2 => ?_, ⟨fl ++ g, by rw [a3, List.append_assoc], fun k h1 h2 f hf => ?_⟩, fun hlen k h1 h2 f hf => ?_, ?_⟩
    · rw [a1 k (by omega), ho k (by omega) (by omega)]
    · by_cases e : k = i
      · subst e; rw [hi, hfl]
      · rw [a2 k (by omega) (by omega), ho k (by omega) e]
    · by_cases e : k = i
      · subst e; rw [hi] at hf; simp [hf]
      · simp [a4 k (by omega) (by omega) f hf]
    · simp only [zhw] at hlen
      by_cases e : k = i
      · subst e; rw [hi] at hf; exact (hfo (by omega)).2 f hf |>.2
      · have := a5 (by rw [List.length_append, hc]; omega) k (by omega) (by omega) f hf
        exact fun hm => this (by simp [hm])
    · rw [a6, List.range'_succ, List.map_cons, hi, List.append_assoc, List.singleton_append]
      congr 2
      refine List.map_congr_left fun k hk => ?_
      have := List.mem_range'.1 hk
      rw [ho k (by omega) (by omega)]
def zle (fr : List Str) (i : Nat) (r : Nat × Tm × List Str) (x : Str) : Nat × Tm × List Str :=
  if zck fr x = true then (r.1 + 1, zc3 (zcj r.2.1 i (zeh ((tmK r.2.1 i).getD zTm) x (zbe r.2.2))) i r.1 (zbe r.2.2), r.2.2 ++ [zbe r.2.2]) else (r.1 + 1, r.2.1, r.2.2)
def zhm (fr : List Str) (i : Nat) (T : Tm) (m : List Str) (j : Nat) : Nat × Tm × List Str := ((zad T i).take j).foldl (zle fr i) (0, T, m)
def ypb (fr : List Str) (i : Nat) (T : Tm) (m : List Str) : Nat × Tm × List Str := (zad T i).foldl (zle fr i) (0, T, m)
def lpR (rec : Tm → Tm) (nm : Str) (fr : List Str) : Nat → Nat → Tm → List Str → Tm
  | 0, _, T, _ => T
  | k + 1, i, T, m => lpR rec nm fr k (i + 1) (if zck (zad T i) nm = true then (ypb fr i T m).2.1 else zcj (ypb fr i T m).2.1 i (rec ((tmK (ypb fr i T m).2.1 i).getD zTm))) (ypb fr i T m).2.2
def rpl (nm : Str) (by' : Tm) (fr : List Str) : Nat → Tm → Tm
  | 0, t => t
  | N + 1, .mk op n x ks ps => if zck (zeb (.mk op n x ks ps) [] []) nm = true then (if op = 4 then by' else lpR (rpl nm by' fr N) nm fr ks.length 0 (.mk op n x ks ps) (nm :: fr ++ zi7 (.mk op n x ks ps))) else .mk op n x ks ps
theorem zmf {fr : List Str} {i : Nat} {T : Tm} {m : List Str} {j : Nat} {x : Str} (h : (zad T i)[j]? = some x) : zhm fr i T m (j + 1) = zle fr i (zhm fr i T m j) x := by
  simp only [zhm, zbk h, List.foldl_append, List.foldl_cons, List.foldl_nil]
theorem yc8 (fr : List Str) (i : Nat) (T : Tm) (m : List Str) : zhm fr i T m (zad T i).length = ypb fr i T m := by
  simp only [zhm, ypb, List.take_of_length_le (Nat.le_refl _)]
theorem zbs (T : Tm) (i : Nat) (k : Tm) (m : Int) : zad (zcj T i k) m = zad T m := by
  obtain ⟨op, n, y, ks, ps⟩ := T; rfl
theorem zd6 {T : Tm} {i : Nat} {k0 : Tm} (h : tmK T i = some k0) (k : Tm) (l : Nat) : tmK (zcj T i k) l = if l = i then some k else tmK T l := by
  obtain ⟨op, n, y, ks, ps⟩ := T
  simp only [zcj, tmK] at h ⊢
  by_cases e : l = i
  · subst e; rw [if_pos rfl, List.getElem?_set_self (List.getElem?_eq_some_iff.1 h).1]
  · rw [if_neg e, List.getElem?_set_ne (fun e2 => e e2.symm)]
theorem zev (T : Tm) (i : Int) (j : Nat) (x : Str) (l : Nat) : tmK (zc3 T i j x) l = tmK T l := by
  obtain ⟨op, n, y, ks, ps⟩ := T
  obtain ⟨y', ps', h, _⟩ := zma op n y ks ps i j x
  rw [h]; rfl
def zn3 (t T : Tm) : Prop := ∃ op n x ks ps x' ks' ps', t = .mk op n x ks ps ∧ T = .mk op n x' ks' ps' ∧ ks'.length = ks.length ∧ ps'.length = ps.length ∧ ∀ m, (zad T m).length = (zad t m).length
theorem zhp (t : Tm) : zn3 t t := by
  obtain ⟨op, n, x, ks, ps⟩ := t
  exact ⟨op, n, x, ks, ps, x, ks, ps, rfl, rfl, rfl, rfl, fun _ => rfl⟩
theorem zwu {t T : Tm} (h : zn3 t T) (i : Int) (j : Nat) (x : Str) : zn3 t (zc3 T i j x) := by
  obtain ⟨op, n, y, ks, ps, y', ks', ps', rfl, rfl, h1, h2, h3⟩ := h
  obtain ⟨y2, ps2, h4, h5⟩ := zma op n y' ks' ps' i j x
  refine ⟨op, n, y, ks, ps, y2, ks', ps2, rfl, h4, h1, h5.trans h2, fun m => ?_⟩
  rw [zd8]; exact h3 m
theorem zsc {t T : Tm} (h : zn3 t T) (i : Nat) (k : Tm) : zn3 t (zcj T i k) := by
  obtain ⟨op, n, y, ks, ps, y', ks', ps', rfl, rfl, h1, h2, h3⟩ := h
  exact ⟨op, n, y, ks, ps, y', ks'.set i k, ps', rfl, rfl, by simpa using h1, h2, h3⟩
theorem zwe {i : Nat} {sk : An} {T k : Tm} (hf : zih sk T) (hs : skK sk i = some (.im true [] [])) (hk : tmK T i = some k) (fr m : List Str) : ∀ j, j ≤ (zad T i).length → (zhm fr i T m j).1 = j ∧ zih sk (zhm fr i T m j).2.1 ∧
      (∀ l, j ≤ l → (zad (zhm fr i T m j).2.1 i)[l]? = (zad T i)[l]?) ∧ zn3 T (zhm fr i T m j).2.1 ∧ (zhm fr i T m j).2.2.length ≤ m.length + j ∧ (∀ l, l ≠ i → tmK (zhm fr i T m j).2.1 l = tmK T l) ∧
      ∃ k', tmK (zhm fr i T m j).2.1 i = some k' ∧ zcp k' = zcp k ∧ (zfx k → zfx k') ∧ (zi2 k → zi2 k')
  | 0, _ => ⟨rfl, hf, fun _ _ => rfl, zhp T, by simp [zhm], fun _ _ => rfl, k, hk, rfl, id, id⟩
  | j + 1, hj => by
    obtain ⟨h1, h2, h3, h4, h5, h6, k', h7, h8, h9, h10⟩ := zwe hf hs hk fr m j (by omega)
    obtain ⟨x, hx⟩ := zal (show j < (zad T i).length by omega)
    rw [zmf hx]
    generalize zhm fr i T m j = r at *
    obtain ⟨r1, rT, rm⟩ := r
    simp only at h1 h2 h3 h4 h5 h6 h7
    subst h1
    simp only [zle]
    by_cases hx2 : zck fr x = true
    · rw [if_pos hx2]
      have hfK := zsr h2 hs h7 (zeh ((tmK rT i).getD zTm) x (zbe rm))
      have hlen : (zad (zcj rT i (zeh ((tmK rT i).getD zTm) x (zbe rm))) i).length = (zad T i).length := by
        obtain ⟨_, _, _, _, _, _, _, _, _, _, _, _, hb⟩ := zsc h4 i (zeh ((tmK rT i).getD zTm) x (zbe rm))
        exact hb i
      have hlt : r1 < (zad (zcj rT i (zeh ((tmK rT i).getD zTm) x (zbe rm))) i).length := by rw [hlen]; omega
      obtain ⟨p, hp⟩ := zal (show r1 < (bp sk i).length by rw [ylh hfK]; exact hlt)
      refine ⟨rfl, yea hfK hp _, fun l hl => ?_, zwu (zsc h4 i _) _ _ _, by simp only [List.length_append, List.length_singleton]; omega, fun l hl => ?_, ?_⟩
      · rw [zhu _ hlt, List.getElem?_set_ne (by omega), zbs, h3 l (by omega)]
      · rw [zev, zd6 h7, if_neg hl, h6 l hl]
      · refine ⟨zeh k' x (zbe rm), ?_, by rw [zkp, h8], fun h => zur _ _ _ (h9 h), fun h => zxv _ _ _ (h10 h)⟩
        rw [zev, zd6 h7, if_pos rfl, h7]; rfl
    · rw [if_neg hx2]
      exact ⟨rfl, h2, fun l hl => h3 l (by omega), h4, by simp only; omega, h6, k', h7, h8, h9, h10⟩
def rD (nm : Str) : Tm → Nat → List D
  | .mk o n x ks ps, id => [.imm (.str nm), .imm (.int .i64 o), .imm (.int .i64 n), .imm (.str x), .imm (.sl (zcy ks)), .imm (.sl (zb8 ps)), .mapr id]
def stQ (b : Nat) (sk : An) (nm : Str) (by' : Tm) (fr : List Str) (i : Nat) (here : List Str) (r : Nat × Tm × List Str) : St :=
  [(2, some (.cells 63 7 (rD nm by' 7))), (4, some (.cells 26 5 [.imm (.int .i64 0), .imm (.int .i64 0), .imm (.str []), .nils, .nils])), (7, some (.map (ze7 fr))), (13, some (.hp (zcs b sk r.2.1))),
    (20, some (.map (ze7 r.2.2))), (8, some (.cells 61 1 [.mapr 20])), (14, some (.immb 3 1 [.int .i64 i])), (15, some (.row 9 1 (za5 here)))]
def yra (b n i : Nat) (here : List Str) : Env := [(50, .imm (.int .i64 i)), (49, .imm (.int .i64 n)), (2, .ref 2 0), (3, .raw (.pointer (some ⟨b, 0, none⟩))), (4, .ref 4 0), (6, .ref 8 0), (8, .ref 14 0), (9, .own 15 (za5 here).length)]
theorem zko (t : Tm) : ∃ o n x ks ps, t = .mk o n x ks ps := by obtain ⟨o, n, x, ks, ps⟩ := t; exact ⟨o, n, x, ks, ps, rfl⟩
set_option maxRecDepth 100000 in
theorem ye8 (b : Nat) (sk : An) (nm : Str) (by' : Tm) (fr : List Str) (here : List Str) (i K : Nat) (T k : Tm) (m : List Str) {o n : Int} {xx : Str} {c rb : Nat} {js : List An} {u : Value} {qs : List An}
    (hf : zih sk T) (hsk : sk = .mk true o n xx (.slice (some ⟨rb, 0, none⟩) K c) js u qs) (hsK : skK sk i = some (.im true [] [])) (hk : tmK T i = some k) (hpk : zfx k) (hi : i < K) (hK : K ≤ 1000000)
    (hms : ∀ j, j ≤ (zad T i).length → ∀ s ∈ (zhm fr i T m j).2.2, s.length ≤ maxLen) (hml : m.length + (zad T i).length ≤ 699)
    (j : Nat) (hj : j < (zad T i).length) (d : D) (hd : ((bp sk i).map (plD b sk))[j]? = some d)
    {L : zom} (h1 : Tryz.prog.funcs[L.fn]?.isSome) (h2 : L.tmps.size = Tryz.f37.ntmps) (h3 : L.ps = #[57]) (h4 : L.asg = yor Tryz.f37)
    (h5 : L.body = yid Tryz.f37) (h6 : L.E = yra b K i here) (h7 : L.F = [7]) :
    ycn Tryz.prog [d] (zdv L (stQ b sk nm by' fr i here (zhm fr i T m j)) none) true (zdv L (stQ b sk nm by' fr i here (zhm fr i T m (j + 1))) none) := by
  obtain ⟨fc, hfc⟩ := Option.isSome_iff_exists.1 h1
  obtain ⟨x, hx⟩ := zal hj
  obtain ⟨i1, i2, i3, i4, i5, i6, k', i7, i8, i9, _⟩ := zwe hf hsK hk fr m j (by omega)
  have hms := hms j (by omega)
  rw [zmf hx]
  generalize zhm fr i T m j = r at *
  obtain ⟨r1, rT, rm⟩ := r
  simp only at i1 i2 i3 i4 i5 i6 i7 hms
  subst i1
  have hok := zig i2
  rw [List.getElem?_map] at hd
  obtain ⟨p, hp, rfl⟩ := Option.map_eq_some_iff.1 hd
  obtain ⟨a0, b', off', hl, hD⟩ : ∃ a0 b' off', zeu sk b 0 p = some (a0, b', off') ∧ plD b sk p = .raw (ptr b' (zds off' 2)) := by
    obtain ⟨a, o, nn, y, ad, c, ks, u, qs, rfl, hv, _⟩ := id i2
    rw [yae] at hp
    obtain ⟨s, o', n', x', v', ks', u', ps', b', off', hl, _, _⟩ := ztg ((zhn a).1 hok) hv hp b
    refine ⟨_, b', off', by rw [zjn, hl]; rfl, ?_⟩
    simp only [plD, zjn, hl, Option.map_some]
  have hx2 : (zad rT i)[r1]? = some x := by rw [i3 r1 (Nat.le_refl _)]; exact hx
  have hrd := zue hok hp hl (b := b) hx2
  have hraw : ∀ vs I w bs, (zcs b sk rT).P vs I w bs → zdh I w b 3 [.raw (.slice (some ⟨rb, 0, none⟩) K c)] := fun vs I w bs h => (zeo (by rw [hsk] at h; exact h)).1
  obtain ⟨bo, bn, bx, bks, bps⟩ := by'
  rw [hD]
  refine zoa (pend := none) (d := .raw (ptr b' (zds off' 2))) (ids := [16, 17, 18]) (t := 10) (p := 57) hfc h3 (h4.trans rfl) h2 rfl rfl rfl rfl (by decide) (by decide) ?_ ?_
  · rw [h6, h7]
    refine ⟨by decide, ?_⟩
    simp [stQ, yra, rD, nmE, nmD, zfk, nmB, nmL]
  · rw [h5, h6, h7]
    refine xd [] rfl (by simp [zag]) ?_
    refine zbw zbb 13 [.imm (.str x)] rfl rfl (fun _ => hrd) rfl rfl (by simp) ?_
    refine xg [] rfl (by simp [zag]) ?_
    refine zn6 zbb 7 rfl rfl rfl (zdc fr) (by simp [zag]) (z := .bool false) rfl (fun _ => .bool _) (zhk fr x) ?_
    refine xg [] rfl (by simp [zag]; rfl) ?_
    refine zaa rfl (fun h => ?_) (fun h => ?_)
    · have hno : ¬ zck fr x = true := by simpa using h
      rw [show zle fr i (r1, rT, rm) x = (r1 + 1, rT, rm) by simp only [zle, if_neg hno]]
      refine zar rfl ?_
      refine zcf ?_
      exact ⟨rfl, rfl, rfl, rfl, rfl, rfl, rfl, rfl, trivial⟩
    have hyes : zck fr x = true := by simpa using h
    rw [show zle fr i (r1, rT, rm) x = (r1 + 1, zc3 (zcj rT i (zeh k' x (zbe rm))) i r1 (zbe rm), rm ++ [zbe rm]) by simp only [zle, if_pos hyes, i7, Option.getD_some]]
    clear h
    refine xd [] rfl (by simp [zag]) ?_
    refine zas (fr := []) [(20, 1)] [] rfl (by simp) (zyb rm hms (by omega)) ⟨⟨rfl, rfl, rfl⟩, trivial⟩ rfl rfl rfl rfl ?_
    refine xg [] rfl (by simp [zag]) ?_
    refine zac rfl (fun _ => znl (zgj rm) (by simp only [zgj, List.length_mergeSort]; omega)) (by simp [zag]) ?_
    rw [show zbe (zgj rm) = zbe rm from zpa fun s => by simp [zgj]]
    refine xg [] rfl (by simp [zag]) ?_
    refine zo9 zbb rfl rfl rfl (zdc rm) ?_
    rw [zwd rm (zbe rm) (by have := (zg7 rm (by omega)).2; rw [← zdy] at this; simpa using this)]
    refine xg [] rfl (by simp [zag]) ?_
    obtain ⟨ko, kn, kx, kks, kps, rfl⟩ := zko k'
    have hkid : ∀ vs I w bs, (zcs b sk rT).P vs I w bs → zdh I w rb (i * 5) ((dTmc (.mk ko kn kx kks kps)).map .imm) := fun vs I w bs h => zoy hok hsk hsK i7 h
    have e5 : 0 + ((i : Int)).toNat * 5 = i * 5 := by simp
    refine zbw zbb 13 [.raw (.slice (some ⟨rb, 0, none⟩) K c)] rfl rfl (fun _ => hraw) rfl rfl (by simp) ?_
    refine xg [] rfl (by simp [zag]) ?_
    refine zbw zbb 13 [.raw (.slice (some ⟨rb, 0, none⟩) K c)] rfl rfl (fun _ => hraw) rfl rfl (by simp) ?_
    refine xg [] rfl (by simp [zag]) ?_
    refine zdq zbb rfl rfl (fun _ => ⟨by simp, by simpa using hi⟩) (by simp) ?_
    refine xg [] rfl (by simp [zag]) ?_
    rw [← e5] at hkid
    refine zbw zbb 13 [.imm (.int .i64 ko), .imm (.int .i64 kn), .imm (.str kx), .imm (.sl (zcy kks)), .imm (.sl (zb8 kps))] rfl rfl (fun _ => hkid) rfl rfl (by simp) ?_
    refine xg [] rfl (by simp [zag]) ?_
    refine zbw zbb 13 [.imm (.str x)] rfl rfl (fun _ => hrd) rfl rfl (by simp) ?_
    refine xg [] rfl (by simp [zag]) ?_
    have hren := zyw (.mk ko kn kx kks kps) x (zbe rm) (i9 hpk)
    obtain ⟨kx2, kks2, hsh⟩ : ∃ kx2 kks2, zeh (.mk ko kn kx kks kps) x (zbe rm) = .mk ko kn kx2 kks2 kps := ⟨_, _, by rw [zeh]⟩
    rw [hsh] at hren ⊢
    refine zac rfl (fun _ => hren) (by simp [zag]) ?_
    refine xg [] rfl (by simp [zag]) ?_
    refine zdq zbb rfl rfl (fun _ => ⟨by simp, by simpa using hi⟩) (by simp) ?_
    have hst := zkw (b := b) hok hsk hsK i7 (.mk ko kn kx2 kks2 kps)
    rw [← e5] at hst
    refine zqh zbb 13 (zcs b sk (zcj rT i (.mk ko kn kx2 kks2 kps))) rfl rfl hst ?_
    refine xg [] rfl (by simp [zag]; rfl) ?_
    have hfK := zsr i2 hsK i7 (.mk ko kn kx2 kks2 kps)
    refine zqh zbb 13 (zcs b sk (zc3 (zcj rT i (.mk ko kn kx2 kks2 kps)) i r1 (zbe rm))) rfl rfl (zra hok hp hl (b := b) (zbe rm)) ?_
    refine xg [] rfl (by simp [zag]) ?_
    refine zcf ?_
    exact ⟨rfl, rfl, rfl, rfl, rfl, rfl, rfl, rfl, trivial⟩
end Go.Hk
namespace Go.Hk
theorem yb4 {P : Program} {f : FuncId} {α : Type} {das : List D} {A Z : Asn} {B C : α → Asn} (val : α → List Value) {st0 st1 : St} {d : α → D} {d' : D} (i j : Nat)
    (hA : ∀ vs I w bs, A.P vs I w bs → ∃ x, vs = val x ∧ (B x).P [] I w bs)
    (hE : ∀ x, zc8 P f (yha i (val x) das) ((i, some (.hp (B x))) :: st0) (.ret (d x) ((j, some (.hp (C x))) :: st1)))
    (hZ : ∀ x us I w bs, (C x).P us I w bs → Z.P (val x) I w bs)
    (hn0 : ∀ x, i ∉ nmL (yha i (val x) das)) (hi0 : i ∉ zfk st0) (hj1 : j ∉ zfk st1) (hi1 : i ∉ zfk st1) (hij : i ≠ j) (hj0 : j ∉ nms st0)
    (hres : ∀ x J ν ν' v bs, RepD J ν v (d x) → (∀ k, k ≠ i → k ≠ j → ν' k = ν k) → ν' j = some (hpG (val x) bs) → RepD J ν' v d') :
    zc8 P f das ((i, some (.hp A)) :: st0) (.ret d' ((j, some (.hp Z)) :: st1)) := by
  intro I μ w xs hst hx
  have hl : zat ((i, some (.hp A)) :: st0) i (.hp A) := zai.2 (.inl ⟨rfl, rfl⟩)
  obtain ⟨g, hg, vs, bs, rfl, hP⟩ := hst.blk i _ hl
  obtain ⟨x, rfl, hB⟩ := hA vs I w bs hP
  obtain ⟨μ', hμ⟩ : ∃ μ' : Mu, μ' = fun k => if k = i then some (hpG [] bs) else μ k := ⟨_, rfl⟩
  have hμi : μ' i = some (hpG [] bs) := by rw [hμ]; simp
  have hμo : ∀ k, k ≠ i → μ' k = μ k := fun k hk => by rw [hμ]; simp [hk]
  have hcase : ∀ {X : Asn} {k : Nat} {b : Blk} {k0 : Nat} {s : St}, zat ((k0, some (.hp X)) :: s) k b → (k = k0 ∧ b = .hp X) ∨ (k ≠ k0 ∧ zat s k b) := fun h => zai.1 h
  have old0 : ∀ k b, zat ((i, some (.hp (B x))) :: st0) k b → ∀ gk, μ' k = some gk → ∃ b0 g0, zat ((i, some (.hp A)) :: st0) k b0 ∧ μ k = some g0 ∧ ∀ m, zgy gk m ↔ zgy g0 m := fun k b h gk hgk => by
    rcases hcase h with ⟨rfl, rfl⟩ | ⟨h1, h2⟩
    · rw [hμi] at hgk; cases hgk
      exact ⟨_, _, hl, hg, fun m => by rw [za7, za7]⟩
    · exact ⟨b, gk, zai.2 (.inr ⟨h1, h2⟩), by rw [← hμo k h1]; exact hgk, fun m => Iff.rfl⟩
  have hst' : StRep I μ' ((i, some (.hp (B x))) :: st0) [] w :=
    { imm := hst.imm
      blk := fun k b h => by
        rcases hcase h with ⟨rfl, rfl⟩ | ⟨h1, h2⟩
        · exact ⟨_, hμi, [], bs, rfl, hB⟩
        · obtain ⟨gk, q1, q2⟩ := hst.blk k b (zai.2 (.inr ⟨h1, h2⟩))
          refine ⟨gk, by rw [hμo k h1]; exact q1, q2.sub fun m hm gm hgm => ?_⟩
          have : m ≠ i := fun e => hi0 (e ▸ (zde h2).2 m hm)
          rw [hμo m this]; exact hgm
      apart := fun k b gk m h hgk hm => by
        obtain ⟨b0, g0, q1, q2, q3⟩ := old0 k b h gk hgk
        exact hst.apart k b0 g0 m q1 q2 ((q3 m).1 hm)
      inj := fun k1 k2 c1 c2 g1 g2 m h1 h2 hg1 hg2 hm1 hm2 => by
        obtain ⟨p0, p1, p2, p3, p4⟩ := old0 k1 c1 h1 g1 hg1
        obtain ⟨r0, r1, r2, r3, r4⟩ := old0 k2 c2 h2 g2 hg2
        exact hst.inj k1 k2 p0 r0 p1 r1 m p2 r2 p3 r3 ((p4 m).1 hm1) ((r4 m).1 hm2)
      nodup := .nil
      idsFree := fun _ h => by simp at h }
  have hx' : RepL I μ' xs.toList (yha i (val x) das) := by
    have hlen : (yha i (val x) das).length = das.length := by rw [zh7]; simp
    refine ⟨hx.1.trans hlen.symm, fun m v e h1 h2 => ?_⟩
    have h2' := h2
    rw [zh7, List.getElem?_map] at h2
    obtain ⟨e0, h3, rfl⟩ := Option.map_eq_some_iff.1 h2
    refine (RepD.opn hg (hx.2 m v e0 h1 h3)).sub fun k hk gk hgk => ?_
    have : k ≠ i := fun e => by rw [e] at hk; exact hn0 x (zjk (List.mem_of_getElem? h2') hk)
    rw [hμo k this]; exact hgk
  refine (hE x I μ' w xs hst' hx').mono ?_ ?_
  · rintro u w' ⟨J, ν, q1, q2, q3, q4⟩
    have hlj : zat ((j, some (.hp (C x))) :: st1) j (.hp (C x)) := zai.2 (.inl ⟨rfl, rfl⟩)
    obtain ⟨gj, hgj, us, bj, rfl, hC⟩ := q2.blk j _ hlj
    obtain ⟨ν', hν⟩ : ∃ ν' : Mu, ν' = fun k => if k = j then some (hpG (val x) bj) else if k = i then μ i else ν k := ⟨_, rfl⟩
    have hνj : ν' j = some (hpG (val x) bj) := by rw [hν]; simp
    have hνi : ν' i = μ i := by rw [hν]; simp [hij]
    have hνo : ∀ k, k ≠ i → k ≠ j → ν' k = ν k := fun k h1 h2 => by rw [hν]; simp [h1, h2]
    have old1 : ∀ k b, zat ((j, some (.hp Z)) :: st1) k b → ∀ gk, ν' k = some gk → ∃ b0 g0, zat ((j, some (.hp (C x))) :: st1) k b0 ∧ ν k = some g0 ∧ ∀ m, zgy gk m ↔ zgy g0 m := fun k b h gk hgk => by
      rcases hcase h with ⟨rfl, rfl⟩ | ⟨h1, h2⟩
      · rw [hνj] at hgk; cases hgk
        exact ⟨_, _, hlj, hgj, fun m => by rw [za7, za7]⟩
      · have : k ≠ i := fun e => hi1 (e ▸ (zde h2).1)
        exact ⟨b, gk, zai.2 (.inr ⟨h1, h2⟩), by rw [← hνo k this h1]; exact hgk, fun m => Iff.rfl⟩
    have ow0 : ∀ b, zcd μ' ((i, some (.hp (B x))) :: st0) b ↔ zcd μ ((i, some (.hp A)) :: st0) b := fun b => by
      constructor
      · rintro ⟨k, c, gk, h1, h2, h3⟩
        obtain ⟨b0, g0, r1, r2, r3⟩ := old0 k c h1 gk h2
        exact ⟨k, b0, g0, r1, r2, (r3 b).1 h3⟩
      · rintro ⟨k, c, gk, h1, h2, h3⟩
        rcases hcase h1 with ⟨rfl, rfl⟩ | ⟨h4, h5⟩
        · rw [hg] at h2; cases h2
          exact ⟨k, _, _, zai.2 (.inl ⟨rfl, rfl⟩), hμi, by rw [za7] at h3 ⊢; exact h3⟩
        · exact ⟨k, c, gk, zai.2 (.inr ⟨h4, h5⟩), by rw [hμo k h4]; exact h2, h3⟩
    refine ⟨J, ν', hres x J ν ν' u bj q1 hνo hνj, ?_, ?_, ?_⟩
    · exact
        { imm := q2.imm
          blk := fun k b h => by
            rcases hcase h with ⟨rfl, rfl⟩ | ⟨h1, h2⟩
            · exact ⟨_, hνj, val x, bj, rfl, hZ x us J w' bj hC⟩
            · obtain ⟨gk, r1, r2⟩ := q2.blk k b (zai.2 (.inr ⟨h1, h2⟩))
              have hk : k ≠ i := fun e => hi1 (e ▸ (zde h2).1)
              refine ⟨gk, by rw [hνo k hk h1]; exact r1, r2.sub fun m hm gm hgm => ?_⟩
              have m1 : m ≠ i := fun e => hi1 (e ▸ (zde h2).2 m hm)
              have m2 : m ≠ j := fun e => hj1 (e ▸ (zde h2).2 m hm)
              rw [hνo m m1 m2]; exact hgm
          apart := fun k b gk m h hgk hm => by
            obtain ⟨b0, g0, r1, r2, r3⟩ := old1 k b h gk hgk
            exact q2.apart k b0 g0 m r1 r2 ((r3 m).1 hm)
          inj := fun k1 k2 c1 c2 g1 g2 m h1 h2 hg1 hg2 hm1 hm2 => by
            obtain ⟨p0, p1, p2, p3, p4⟩ := old1 k1 c1 h1 g1 hg1
            obtain ⟨r0, r1, r2, r3, r4⟩ := old1 k2 c2 h2 g2 hg2
            exact q2.inj k1 k2 p0 r0 p1 r1 m p2 r2 p3 r3 ((p4 m).1 hm1) ((r4 m).1 hm2)
          nodup := .nil
          idsFree := fun _ h => by simp at h }
    · intro k hk v hv
      simp only [nms, List.map_cons, List.mem_cons] at hk
      by_cases h1 : k = i
      · rw [h1] at hv ⊢; rw [hνi]; exact hv
      · have hk0 : k ∈ nms st0 := by rcases hk with h | h
                                     · exact absurd h h1
                                     · exact h
        have h2 : k ≠ j := fun e => hj0 (e ▸ hk0)
        rw [hνo k h1 h2]
        exact q3 k (by simp only [nms, List.map_cons, List.mem_cons]; exact .inr hk0) v (by rw [hμo k h1]; exact hv)
    · exact
        { imm := q4.imm, os := q4.os, tape := q4.tape, output := q4.output, size := q4.size
          block := fun b hb ho => q4.block b hb fun h => ho ((ow0 b).1 h)
          fresh := fun b hb ⟨k, c, gk, h1, h2, h3⟩ => by
            obtain ⟨b0, g0, r1, r2, r3⟩ := old1 k c h1 gk h2
            exact (ow0 b).1 (q4.fresh b hb ⟨k, b0, g0, r1, r2, (r3 b).1 h3⟩)
          old := fun b hb ho => q4.old b hb fun h => ho ((ow0 b).1 h) }
  · intro chain w' h; exact h
end Go.Hk
namespace Go.Hk
open Go.Proofs
mutual
theorem ydw : ∀ p : Ty, zca p = true → 3 * (zb2 p).length ≤ 2 * za0 p + 1
  | .mk s n x ps, h => by
    simp only [zca, Bool.and_eq_true] at h
    have h1 := zza ps h.2
    have h2 := h.1
    unfold zh6 at h2
    simp only [zb2, za0, List.length_append]
    by_cases e : s = 2
    · have hk : ps.length = 0 := by simp [e] at h2; simp [h2.1.1]
      have : ps = [] := List.eq_nil_of_length_eq_zero hk
      subst this
      simp [e, zbd, zam]
    · have hk : ps.length ≤ 3 := by
        by_cases e1 : s = 1 ∨ s = 5
        · rw [if_pos e1] at h2; simp at h2; simp [h2.1.1]
        · rw [if_neg e1, if_neg e] at h2
          by_cases e3 : s = 3
          · rw [if_pos e3] at h2; simp at h2; simp [h2.1.1]
          · rw [if_neg e3] at h2
            by_cases e4 : s = 4
            · rw [if_pos e4] at h2; simp at h2; simp [h2.1.1]
            · rw [if_neg e4] at h2
              by_cases e6 : s = 6
              · rw [if_pos e6] at h2; simp at h2; omega
              · rw [if_neg e6] at h2; cases h2
      simp only [e, if_false, List.length_nil]
      omega
theorem zza : ∀ ps : List Ty, zbq ps = true → 3 * (zbd ps).length ≤ 2 * zam ps + ps.length
  | [], _ => by simp [zbd, zam]
  | p :: r, h => by
    simp only [zbq, Bool.and_eq_true] at h
    have h1 := ydw p h.1
    have h2 := zza r h.2
    simp only [zbd, zam, List.length_append, List.length_cons]
    omega
end
theorem names8 {p : Ty} (h : zct p = true) : (za3 p).length ≤ 8 := by
  simp only [zct, Bool.and_eq_true, decide_eq_true_eq] at h
  have h1 := ydw p h.1.2
  have h2 := zd3 p 12 h.1.1
  simp only [za3, List.length_map]
  omega
theorem yli {op n : Int} {x : Str} {ks : List Tm} {ps : List Ty} (h : ps.all zct = true) (i : Int) : (zad (.mk op n x ks ps) i).length ≤ 8 := by
  simp only [zad]
  split
  · simp
  · split
    · split
      · rename_i p hp
        exact names8 (List.all_eq_true.1 h p (List.mem_of_getElem? hp))
      · simp
    · simp
theorem yoa {op n : Int} {x : Str} {ks : List Tm} {ps : List Ty} (h : ps.all zct = true) : ∀ m i, zhw (.mk op n x ks ps) m i ≤ 8 * m
  | 0, _ => by simp [zhw]
  | m + 1, i => by
    have := yoa (op := op) (n := n) (x := x) (ks := ks) h m (i + 1)
    have := yli (op := op) (n := n) (x := x) (ks := ks) h (i : Int)
    simp only [zhw]; omega
mutual
theorem yjn : ∀ t : Tm, zak t = true → zlk t + 8 ≤ 8 * zcp t
  | .mk op n x ks ps, h => by
    simp only [zak, Bool.and_eq_true] at h
    have h1 := ydq ks h.2
    have h2 := yoa (op := op) (n := n) (x := x) (ks := ks) h.1.2 ks.length 0
    simp only [zlk, zcp]
    split <;> omega
theorem ydq : ∀ l : List Tm, zaq l = true → zes l + 8 * l.length ≤ 8 * zco l
  | [], _ => by simp [zes, zco]
  | t :: r, h => by
    simp only [zaq, Bool.and_eq_true] at h
    have h1 := yjn t h.1
    have h2 := ydq r h.2
    simp only [zes, zco, List.length_cons]; omega
end
theorem ypx {t : Tm} (h : zbc t = true) : (zcc t).length ≤ 60 := by
  obtain ⟨h1, _, _, h4⟩ := zc0 t h
  have := zjv t [] []
  rw [← zw0 t h1, List.length_mergeSort]
  simp at this; omega
theorem zin {t : Tm} (h : zbc t = true) : (zcc t).length + zlk t ≤ 699 := by
  obtain ⟨_, _, _, h4⟩ := zc0 t h
  have h1 := ypx h
  simp only [zbc, Bool.and_eq_true] at h
  have := yjn t h.2
  omega
set_option maxRecDepth 100000 in
theorem yfq (t : Tm) (s : Sc) (tk : List Str) (hwide : zi2 t) (hpats : zfx t) (htk : tk.length + zlk t ≤ 699) :
    zc8 Tryz.prog 81 [.ref 7 0, .agg (dsA 1 true (dTmc t)), .imm (ze8 s)] [(1, some (.hp (zxp true (dTmc t)))), (7, some (.cells 107 1 [.own 8 tk.length])), (8, some (.row 9 1 (za5 tk)))]
      (.ret (.agg (dsA 5 true (dTmc (zgz t s tk).1))) [(5, some (.hp (zxp true (dTmc (zgz t s tk).1)))), (7, some (.cells 107 1 [.own 13 (zgz t s tk).2.length])), (13, some (.row 9 1 (za5 (zgz t s tk).2)))]) := by
  obtain ⟨op, n, x, ks, ps⟩ := t
  obtain ⟨x2, ks2, ps2, hsh⟩ := zoi op n x ks ps s tk
  rw [hsh]
  refine yb4 (α := { y : Value × List An × Value × List An // vA (.mk true op n x y.1 y.2.1 y.2.2.1 y.2.2.2) = dTmc (.mk op n x ks ps) ∧ zju (.mk true op n x y.1 y.2.1 y.2.2.1 y.2.2.2) }) (fun y => [y.1.1, y.1.2.2.1])
    (B := fun y => yg6 (er (.mk true op n x y.1.1 y.1.2.1 y.1.2.2.1 y.1.2.2.2)) (.mk op n x ks ps)) (C := fun y => yg6 (er (.mk true op n x y.1.1 y.1.2.1 y.1.2.2.1 y.1.2.2.2)) (.mk op n x2 ks2 ps2))
    (d := fun y => yia op n x2 y.1.1 y.1.2.2.1) 1 5 (fun vs I w bs h => ?_) (fun y => ?_) (fun y us I w bs h => ?_) (fun y => by simp [yha, yo0, dsA, dTmc, nmL, nmD, nth]) (by simp [zfk, nmB, nmL, nmD]) (by simp [zfk, nmB, nmL, nmD]) (by simp [zfk, nmB, nmL, nmD]) (by decide) (by simp [nms]) (fun y J ν ν' w bs h hag h5 => ?_)
  · obtain ⟨o', n', x', v, js, u, qs, ⟨h1, h2⟩, rfl, a, b, c⟩ := h
    have e := h1
    simp only [vA, dTmc, List.cons.injEq, V.int.injEq, V.str.injEq, true_and] at e
    obtain ⟨rfl, rfl, rfl, _⟩ := e
    exact ⟨⟨(v, js, u, qs), h1, h2⟩, rfl, _, rfl, h1, a, b, c⟩
  · obtain ⟨⟨v, js, u, qs⟩, h1, h2⟩ := y
    have := ydx (.mk op n x ks ps) s tk (er (.mk true op n x v js u qs)) op n x [] v u (ers js) (ers qs) ks ps rfl rfl ((zkj _).2 h2) hwide hpats htk
    rw [hsh] at this
    exact this
  · obtain ⟨⟨v, js, u, qs⟩, h1, h2⟩ := y
    obtain ⟨a, e1, e2, e3, e4, e5⟩ := h
    have hf : zju a := (zkj a).1 (by rw [e1]; exact (zkj _).2 h2)
    obtain ⟨y', ks', qs', rfl, _, _⟩ := yo7 e1 rfl
    exact ⟨op, n, y', v, ks', u, qs', ⟨e2, hf⟩, rfl, e3, e4, e5⟩
  · obtain ⟨⟨v, js, u, qs⟩, h1, h2⟩ := y
    obtain ⟨cs, rfl, hcs, hone⟩ := h.aggDInv
    refine .agg cs _ (by simpa [dsA, dTmc] using hcs.1) hone fun i c d hc hd => ?_
    have hc' : cs.toList[i]? = some c := by simpa using hc
    match i with
    | 0 => simp [dsA, dTmc] at hd; subst hd; exact .imm _ _ (hcs.2 0 c _ hc' rfl).immInv
    | 1 => simp [dsA, dTmc] at hd; subst hd; exact .imm _ _ (hcs.2 1 c _ hc' rfl).immInv
    | 2 => simp [dsA, dTmc] at hd; subst hd; exact .imm _ _ (hcs.2 2 c _ hc' rfl).immInv
    | 3 =>
      simp [dsA, dTmc] at hd; subst hd
      have := (hcs.2 3 c _ hc' rfl).rawInv
      subst this
      exact .hv _ _ _ _ _ h5 rfl (hone _ (List.mem_of_getElem? hc'))
    | 4 =>
      simp [dsA, dTmc] at hd; subst hd
      have := (hcs.2 4 c _ hc' rfl).rawInv
      subst this
      exact .hv _ _ _ _ _ h5 rfl (hone _ (List.mem_of_getElem? hc'))
    | i + 5 => simp [dsA, dTmc] at hd
set_option maxRecDepth 100000 in
theorem zyd (t : Tm) (h : zbc t = true) : zc8 Tryz.prog 47 [.mapr 1] [(1, some (.map (ze7 (zeb t [] []))))] (.ret (.own 2 (zcc t).length) [(1, some (.map (ze7 (zeb t [] [])))), (2, some (.row 9 1 (za5 (zcc t))))]) := by
  obtain ⟨h1, h2, h3, h4⟩ := zc0 t h
  simp only [zbc, Bool.and_eq_true] at h
  have := ye0 (zeb t [] []) (fun s hs => by
    rcases zif t [] [] h.2 s hs with h | h
    · cases h
    · unfold maxLen; omega) (by have := zjv t [] []; simp at this; omega)
  rw [zgj, zw0 t h1] at this
  have e : (za5 (zcc t)).length = (zcc t).length := by simp [za5]
  rw [e] at this
  exact this
def zlz (t : Tm) : Tm := (zgz t [] (zcc t)).1
set_option maxRecDepth 100000 in
theorem zxa (t : Tm) (h : zbc t = true) : zau Tryz.prog 49 [.agg (dTmc t)] (.agg (dTmc (zlz t))) := by
  obtain ⟨h1, h2, h3, h4⟩ := zc0 t h
  obtain ⟨op, n, x, ks, ps⟩ := t
  refine zaf zbb Tryz.func49 (by decide +kernel) rfl [1, 2, 3, 4, 5, 6, 7, 8, 9, 10] rfl rfl ?_
  refine xg [] rfl (by simp) ?_
  refine zjt rfl ?_
  refine xg [] rfl (by simp) ?_
  refine zas (fr := []) [(3, 1)] [] rfl (by simp) (zsn (.mk op n x ks ps) [] [] h2) ⟨⟨rfl, rfl, rfl⟩, trivial⟩ rfl rfl rfl rfl ?_
  refine xg [] rfl (by simp <;> rfl) ?_
  refine zas (fr := [4]) [(3, 1)] [(2, 4)] rfl (by simp) (zyd (.mk op n x ks ps) h) ⟨⟨rfl, rfl, rfl⟩, trivial⟩ rfl rfl rfl rfl ?_
  refine xg [] rfl (by simp) ?_
  refine zas (fr := [6]) [] [(1, 6)] rfl (by simp) (zht (.mk op n x ks ps) (zfa h)) trivial rfl rfl rfl rfl ?_
  refine xg [] rfl (by simp) ?_
  obtain ⟨x2, ks2, ps2, hsh⟩ := zoi op n x ks ps [] (zcc (.mk op n x ks ps))
  have hN := yfq (.mk op n x ks ps) [] (zcc (.mk op n x ks ps)) (zfa h) h2 (zin h)
  rw [hsh] at hN
  refine zas (fr := [7, 8]) [(6, 1), (5, 7), (4, 8)] [(5, 7), (13, 8)] rfl (by simp) hN ⟨⟨rfl, rfl, rfl⟩, ⟨rfl, rfl, rfl⟩, ⟨rfl, rfl, rfl⟩, trivial⟩ rfl rfl rfl rfl ?_
  refine xg [] rfl (by simp; rfl) ?_
  refine zg8 (ids' := [10]) 7 9 (fun y : { y : Value × List An × Value × List An // (vAs y.2.1 = zcy ks2 ∧ vAs y.2.2.2 = zb8 ps2) ∧ zc6 y.2.1 ∧ zc6 y.2.2.2 } => [y.1.1, y.1.2.2.1]) (fun y => yaq (.mk true op n x2 y.1.1 y.1.2.1 y.1.2.2.1 y.1.2.2.2)) rfl (fun vs I w bs h => zj0 h) fun y => ?_
  obtain ⟨⟨v, js, u, qs⟩, ⟨h5, h6⟩, hf1, hf2⟩ := y
  refine zfo 9 2 (dTmc (.mk op n x2 ks2 ps2)) rfl rfl (fun vs I J w bs h1 h2 h3 cs hc => zv8 h5 h6 h1 h2 h3 cs hc) rfl ?_
  rw [show zlz (.mk op n x ks ps) = .mk op n x2 ks2 ps2 from hsh]
  exact zab ⟨_, rfl, tV rfl, trivial⟩
end Go.Hk
