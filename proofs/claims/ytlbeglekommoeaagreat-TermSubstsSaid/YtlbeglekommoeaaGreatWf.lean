/- From a contract by value, `it returns true', to a law's row: arguments read, what was there is kept. (And what it stands on.) -/
import Derived.Test.YtlbeglekommoeaaGreatWe
import Derived.Test.YtlbeglekommoeaaGreatWd
import Derived.Test.YtlbeglekommoeaaGreatWb
import Derived.Below
import Derived.ChangeSame
import Derived.ChangeOld
import Derived.Carry
import Derived.ChangeArms
import Derived.DataReads
import Derived.WideKeyArgs
import Derived.OpenShut
import Derived.RowKit
import Derived.ProofKit
set_option linter.unusedSimpArgs false
set_option linter.unusedVariables false

/- replacer.in: bounds, form, and that the order of the names that are taken does not matter. -/
namespace Go.Hk
open Go.Proofs
theorem zj4 {op n : Int} {x : Str} {k p : Nat} (h : zba op n x k p = true) : k ≤ 6 := by
  have h0 : ∀ c : Int, c ≤ 6 → ∀ b c' : Bool, (((k : Int) == c) && b && c') = true → k ≤ 6 := fun c hc b c' h => by simp at h; omega
  have h1 : ∀ c : Int, c ≤ 6 → ∀ b : Bool, (((k : Int) == c) && b) = true → k ≤ 6 := fun c hc b h => by simp at h; omega
  unfold zba at h
  by_cases e1 : op = 1
  · rw [if_pos e1] at h; exact h0 0 (by decide) _ _ h
  rw [if_neg e1] at h
  by_cases e2 : op = 2
  · rw [if_pos e2] at h; exact h0 0 (by decide) _ _ h
  rw [if_neg e2] at h
  by_cases e3 : op = 3 ∨ op = 21 ∨ op = 25 ∨ op = 28
  · rw [if_pos e3] at h; exact h1 0 (by decide) _ h
  rw [if_neg e3] at h
  by_cases e4 : op = 4
  · rw [if_pos e4] at h; exact h0 0 (by decide) _ _ h
  rw [if_neg e4] at h
  by_cases e5 : op = 5 ∨ op = 27
  · rw [if_pos e5] at h; exact h0 1 (by decide) _ _ h
  rw [if_neg e5] at h
  by_cases e7 : op = 7
  · rw [if_pos e7] at h; exact h0 2 (by decide) _ _ h
  rw [if_neg e7] at h
  by_cases e8 : op = 8
  · rw [if_pos e8] at h; exact h1 3 (by decide) _ h
  rw [if_neg e8] at h
  by_cases e14 : op = 14
  · rw [if_pos e14] at h; simp at h; omega
  rw [if_neg e14] at h
  by_cases e15 : op = 15
  · rw [if_pos e15] at h; simp [inI] at h; omega
  rw [if_neg e15] at h
  by_cases e16 : op = 16 ∨ op = 17 ∨ op = 19 ∨ op = 20 ∨ op = 23 ∨ op = 26
  · rw [if_pos e16] at h; exact h1 1 (by decide) _ h
  rw [if_neg e16] at h
  by_cases e24 : op = 24
  · rw [if_pos e24] at h; exact h0 1 (by decide) _ _ h
  rw [if_neg e24] at h
  by_cases e6 : op = 6 ∨ op = 9 ∨ op = 10 ∨ op = 11 ∨ op = 12 ∨ op = 13 ∨ op = 18 ∨ op = 22
  · rw [if_pos e6] at h; exact h1 2 (by decide) _ h
  rw [if_neg e6] at h; cases h
theorem ztu {op n : Int} {x : Str} {k p : Nat} (h : zba op n x k p = true) {i : Int} (ho : zbo op i = true ∨ op = 4) : zcp x = true := by
  simp only [zbo, Bool.or_eq_true, Bool.and_eq_true, beq_iff_eq] at ho
  rcases ho with ((h1 | h1) | ⟨h1, _⟩) | h1 <;> subst h1 <;> simp [zba, zbk] at h <;> exact h.2
theorem zqw {s : Str} (h : zcp s = true) : s.length ≤ 8 := by
  simp only [zcp, Bool.and_eq_true, decide_eq_true_eq] at h
  exact h.1.1.2
mutual
theorem zoe : ∀ p : Ty, zch p = true → ∀ q ∈ zcw p, zcp (zgz q) = true
  | .mk s n x ps, h, q, hq => by
    simp only [zch, Bool.and_eq_true] at h
    simp only [zcw, List.mem_append] at hq
    rcases hq with hq | hq
    · by_cases e : s = 2
      · rw [if_pos e] at hq
        rw [List.mem_singleton.1 hq]
        have h1 := h.1
        simp [zio, e] at h1
        exact h1.2
      · rw [if_neg e] at hq; cases hq
    · exact zl2 ps h.2 q hq
theorem zl2 : ∀ l : List Ty, zbw l = true → ∀ q ∈ zbp l, zcp (zgz q) = true
  | [], _, q, hq => by cases hq
  | p :: r, h, q, hq => by
    simp only [zbw, Bool.and_eq_true] at h
    simp only [zbp, List.mem_append] at hq
    rcases hq with hq | hq
    · exact zoe p h.1 q hq
    · exact zl2 r h.2 q hq
end
theorem yay {op n : Int} {x : Str} {ks : List Tm} {ps : List Ty} {k : Nat} (h : zba op n x k ps.length = true) (hp : ps.all zct = true) (i : Int) : ∀ s ∈ zad (.mk op n x ks ps) i, zcp s = true := by
  intro s hs
  simp only [zad] at hs
  by_cases h1 : zbo op i = true
  · rw [if_pos h1] at hs
    rw [List.mem_singleton.1 hs]
    exact ztu h (.inl h1)
  · rw [if_neg h1] at hs
    by_cases h2 : zb1 op i = true
    · rw [if_pos h2] at hs
      cases hg : ps[(i - 1).toNat]? with
      | none => simp only [hg] at hs; cases hs
      | some p =>
        simp only [hg, za4, List.mem_map] at hs
        obtain ⟨q, hq, rfl⟩ := hs
        have := List.all_eq_true.1 hp p (List.mem_of_getElem? hg)
        simp only [zct, Bool.and_eq_true] at this
        exact zoe p this.1.2 q hq
    · rw [if_neg h2] at hs; cases hs
mutual
theorem zp5 : ∀ t : Tm, zag t = true → ∀ s ∈ zbc t, zcp s = true
  | .mk op n x ks ps, h, s, hs => by
    simp only [zag, Bool.and_eq_true] at h
    simp only [zbc, List.mem_append] at hs
    rcases hs with hs | hs
    · by_cases e : op = 4
      · rw [if_pos e] at hs
        rw [List.mem_singleton.1 hs]
        exact ztu (i := 0) h.1.1 (.inr e)
      · rw [if_neg e] at hs; cases hs
    · exact zn6 op n x ks ps ks.length h.1.1 h.1.2 0 ks h.2 s hs
theorem zn6 (op n : Int) (x : Str) (k0 : List Tm) (ps : List Ty) (k : Nat) (hn : zba op n x k ps.length = true) (hp : ps.all zct = true) : ∀ (i : Nat) (l : List Tm), zat l = true → ∀ s ∈ zcg (.mk op n x k0 ps) i l, zcp s = true
  | _, [], _, s, hs => by cases hs
  | i, t :: r, h, s, hs => by
    simp only [zat, Bool.and_eq_true] at h
    simp only [zcg, List.mem_append] at hs
    rcases hs with (hs | hs) | hs
    · exact yay hn hp i s hs
    · exact zp5 t h.1 s hs
    · exact zn6 op n x k0 ps k hn hp (i + 1) r h.2 s hs
end
mutual
theorem zqt : ∀ t : Tm, zag t = true → ym6 t + 8 ≤ 9 * zcv t
  | .mk op n x ks ps, h => by
    simp only [zag, Bool.and_eq_true] at h
    have := yb0 (.mk op n x ks ps) (fun i => zy7 h.1.2 i) 0 ks h.2
    simp only [ym6, zcv]
    split <;> omega
theorem yb0 (t : Tm) (hb : ∀ i : Int, (zad t i).length ≤ 8) : ∀ (i : Nat) (l : List Tm), zat l = true → zsr t i l ≤ 9 * zci l
  | _, [], _ => by simp [zsr]
  | i, k :: r, h => by
    simp only [zat, Bool.and_eq_true] at h
    have h1 := zqt k h.1
    have h2 := yb0 t hb (i + 1) r h.2
    have h3 := hb i
    simp only [zsr, zci]; omega
end
mutual
theorem zl8 (a b : Str) (hb : zcp b = true) : ∀ t : Tm, zag t = true → zag (ze7 t a b) = true
  | .mk op n x ks ps, h => by
    simp only [zag, Bool.and_eq_true] at h
    rw [ze7]
    simp only [zag, Bool.and_eq_true, zdt]
    refine ⟨⟨?_, h.1.2⟩, ztq a b hb _ 0 ks h.2⟩
    unfold zwo
    split
    · rename_i e
      simp only [Bool.and_eq_true, beq_iff_eq] at e
      exact zpj (i := 0) (.inr e.1) h.1.1 hb
    · exact h.1.1
theorem ztq (a b : Str) (hb : zcp b = true) (T : Tm) : ∀ (i : Nat) (l : List Tm), zat l = true → zat (zdq T i l a b) = true
  | _, [], h => h
  | i, k :: r, h => by
    simp only [zat, Bool.and_eq_true] at h
    simp only [zdq, zat, Bool.and_eq_true]
    refine ⟨?_, ztq a b hb T (i + 1) r h.2⟩
    split
    · exact h.1
    · exact zl8 a b hb k h.1
end
theorem zqf {fr : List Str} {i : Nat} {T k : Tm} {m : List Str} (hk : tmK T i = some k) (hn : zag k = true) (hs : ∀ s ∈ m, s.length ≤ 8) (hml : m.length + (zad T i).length ≤ 699) : ∀ j, j ≤ (zad T i).length → (zdy fr i T m j).2.2.length ≤ m.length + j ∧ (∀ s ∈ (zdy fr i T m j).2.2, s.length ≤ 8) ∧ ∃ k', tmK (zdy fr i T m j).2.1 i = some k' ∧ zag k' = true ∧ zcv k' = zcv k
  | 0, _ => ⟨by simp [zdy], hs, k, hk, hn, rfl⟩
  | j + 1, hj => by
    obtain ⟨h1, h2, k', h3, h4, h5⟩ := zqf (fr := fr) hk hn hs hml j (by omega)
    obtain ⟨x, hx⟩ := zal (show j < (zad T i).length by omega)
    rw [zga hx]
    generalize zdy fr i T m j = r at *
    obtain ⟨r1, rT, rm⟩ := r
    simp only at h1 h2 h3
    simp only [zfp]
    split
    · obtain ⟨q1, q2⟩ := zfc rm (by omega)
      refine ⟨by simp only [List.length_append, List.length_singleton]; omega, fun s hs => ?_, ze7 k' x (za3 rm), ?_, zl8 _ _ q1 k' h4, by rw [zpr, h5]⟩
      · rcases List.mem_append.1 hs with hs | hs
        · exact h2 s hs
        · rw [List.mem_singleton.1 hs]; exact zqw q1
      · rw [zg7, zfn h3, if_pos rfl, h3]; rfl
    · exact ⟨by simp only; omega, h2, k', h3, h4, h5⟩
def zzq (l m : List Str) : Prop := ∀ s, s ∈ l ↔ s ∈ m
theorem yf6 {l m : List Str} (h : zzq l m) (x : Str) : zzq (l ++ [x]) (m ++ [x]) := fun s => by simp [h s]
theorem zhr {fr : List Str} {i : Nat} : ∀ (xs : List Str) (j : Nat) (T : Tm) (l m : List Str), zzq l m → (xs.foldl (zfp fr i) (j, T, l)).2.1 = (xs.foldl (zfp fr i) (j, T, m)).2.1 ∧ zzq (xs.foldl (zfp fr i) (j, T, l)).2.2 (xs.foldl (zfp fr i) (j, T, m)).2.2
  | [], j, T, l, m, h => ⟨rfl, h⟩
  | x :: r, j, T, l, m, h => by
    simp only [List.foldl_cons, zfp]
    split
    · rw [zop h]
      exact zhr r _ _ _ _ (yf6 h _)
    · exact zhr r _ _ _ _ h
theorem zx8 (rec : Tm → Tm) (nm : Str) (fr : List Str) : ∀ (k i : Nat) (T : Tm) (l m : List Str), zzq l m → lpR rec nm fr k i T l = lpR rec nm fr k i T m
  | 0, i, T, l, m, h => rfl
  | k + 1, i, T, l, m, h => by
    obtain ⟨h1, h2⟩ := zhr (fr := fr) (i := i) (zad T i) 0 T l m h
    simp only [lpR, ziv]
    rw [h1]
    exact zx8 rec nm fr k (i + 1) _ _ _ h2
theorem ynd (es : Array MapEntry) (seen : Array Nat) : (leftOf es seen).size ≤ es.size := by
  unfold leftOf; exact Array.size_filter_le
theorem yhl {es : Array MapEntry} {seen : Array Nat} (h : (leftOf es seen).size = 0) {j : Nat} {e : MapEntry} (he : es[j]? = some e) : seen.contains e.born = true := by
  have h2 : leftOf es seen = #[] := Array.eq_empty_of_size_eq_zero h
  unfold leftOf at h2
  rw [Array.filter_eq_empty_iff] at h2
  have := h2 e (Array.mem_of_getElem? he)
  simpa using this
end Go.Hk

/- Contract of replacer.in. -/
namespace Go.Hk
open Go.Proofs
theorem zla {t T U : Tm} (h : zni t T) (k : zni T U) : zni t U := by
  obtain ⟨op, n, y, ks, ps, y', ks', ps', rfl, rfl, h1, h2, h3⟩ := h
  obtain ⟨_, _, _, _, _, y2, ks2, ps2, e, rfl, k1, k2, k3⟩ := k
  cases e
  exact ⟨op, n, y, ks, ps, y2, ks2, ps2, rfl, rfl, k1.trans h1, k2.trans h2, fun m => (k3 m).trans (h3 m)⟩
theorem zco : ∀ {l : List Tm} {i : Nat} {k : Tm}, zat l = true → l[i]? = some k → zag k = true
  | [], i, k, _, h => by simp at h
  | a :: r, 0, k, h, hk => by
    simp at hk; subst hk
    simp only [zat, Bool.and_eq_true] at h; exact h.1
  | a :: r, i + 1, k, h, hk => by
    simp only [zat, Bool.and_eq_true] at h
    exact zco h.2 (by simpa using hk)
theorem zet : ∀ {l : List Tm} {i : Nat} {k : Tm}, l[i]? = some k → zcv k ≤ zci l
  | [], i, k, h => by simp at h
  | a :: r, 0, k, h => by simp at h; subst h; simp only [zci]; omega
  | a :: r, i + 1, k, h => by
    have := zet (l := r) (i := i) (k := k) (by simpa using h)
    simp only [zci]; omega
theorem skK_im {op n : Int} {x : Str} {v u : Value} {js qs : List An} {i : Nat} (h : i < js.length) : skK (er (.mk true op n x v (zvq js) u qs)) i = some (.im true [] []) := by
  simp only [er, skK, zil, List.getElem?_map, zvq]
  rw [List.getElem?_eq_getElem h]; rfl
set_option maxRecDepth 100000 in
theorem ygl (nm : Str) (by' : Tm) (fr : List Str) (hby : zim by') (hfl : fr.length ≤ 60) (hfs : ∀ s ∈ nm :: fr, s.length ≤ 8) : ∀ (N : Nat) (t : Tm), zcv t ≤ N → zag t = true → zcv t ≤ 60 →
    zdb Tryz.prog 37 [.agg (rD nm by' 7), .imm (.agg (dTmc t))] [(7, some (.map (zev fr)))] (.ret (.imm (.agg (dTmc (rpl nm by' fr N t)))) [(7, some (.map (zev fr)))])
  | 0, t, hc, hn, h60 => by have := zr3 t; omega
  | N + 1, t, hc, hn, h60 => by
    have hw := zpv t hn (by omega)
    have hp := (zdf t hn (by omega)).2
    obtain ⟨op, n, x, ks, ps⟩ := t
    obtain ⟨bo, bn, bx, bks, bps⟩ := by'
    refine zaf ttX_ok Tryz.func37 (by decide +kernel) rfl [2, 3, 4, 1, 5, 20, 8, 9, 10, 11, 12, 13, 14, 15, 6, 16, 17, 18, 19, 21, 22] rfl rfl ?_
    refine xg [] rfl (by simp) ?_
    refine zji rfl ?_
    refine xg [] rfl (by simp) ?_
    refine zar (fr := []) [(1, 1)] [] rfl (by simp) (zrg (.mk op n x ks ps) [] [] hp) ⟨⟨rfl, rfl, rfl⟩, trivial⟩ rfl rfl rfl rfl ?_
    refine xg [] rfl (by simp) ?_
    refine znl ttX_ok 1 rfl rfl rfl (zc4 _) (by simp [zai]) (z := .bool false) rfl (fun _ => .bool _) (zha _ nm) ?_
    refine xg [] rfl (by simp [zai]) ?_
    refine zaa rfl (fun h => ?_) (fun h => ?_)
    · refine xd [] rfl (by simp) ?_
      refine zar (fr := [5]) [] [(1, 5)] rfl (by simp) (zhm (.mk op n x ks ps) hw) trivial rfl rfl rfl rfl ?_
      refine xg [] rfl (by simp) ?_
      refine zgx (ids' := [8, 9, 10, 11, 12, 13, 14, 15, 6, 16, 17, 18, 19, 21, 22]) 5 20 (fun y : { y : Value × List An × Value × List An // (vAs y.2.1 = zc2 ks ∧ vAs y.2.2.2 = zcf ps) ∧ zc1 y.2.1 ∧ zc1 y.2.2.2 } => [y.1.1, y.1.2.2.1]) (fun y => zzg (.mk true op n x y.1.1 y.1.2.1 y.1.2.2.1 y.1.2.2.2)) rfl (fun vs I w bs h => zjp h) fun y => ?_
      obtain ⟨⟨v, js, u, qs⟩, ⟨h5, h6⟩, hf1, hf2⟩ := y
      refine zfg 20 4 (dTmc (.mk op n x ks ps)) rfl rfl (fun vs I J w bs h1 h2 h3 cs hc => zuz h5 h6 h1 h2 h3 cs hc) rfl ?_
      have hno : zbq (zcq (.mk op n x ks ps) [] []) nm = false := by simpa using h
      rw [show rpl nm (.mk bo bn bx bks bps) fr (N + 1) (.mk op n x ks ps) = .mk op n x ks ps by simp only [rpl, hno, Bool.false_eq_true, if_false]]
      exact zab ⟨_, rfl, tV rfl, rfl, trivial⟩
    have hyes : zbq (zcq (.mk op n x ks ps) [] []) nm = true := by simpa using h
    clear h
    refine xd [] rfl (by simp) ?_
    refine zaa rfl (fun h => ?_) (fun h => ?_)
    · have e : op = 4 := by simpa using h
      refine xd [] rfl (by simp) ?_
      refine zar (fr := [5]) [] [(1, 5)] rfl (by simp) (zhm (.mk bo bn bx bks bps) hby) trivial rfl rfl rfl rfl ?_
      refine xg [] rfl (by simp) ?_
      refine zgx (ids' := [8, 9, 10, 11, 12, 13, 14, 15, 6, 16, 17, 18, 19, 21, 22]) 5 20 (fun y : { y : Value × List An × Value × List An // (vAs y.2.1 = zc2 bks ∧ vAs y.2.2.2 = zcf bps) ∧ zc1 y.2.1 ∧ zc1 y.2.2.2 } => [y.1.1, y.1.2.2.1]) (fun y => zzg (.mk true bo bn bx y.1.1 y.1.2.1 y.1.2.2.1 y.1.2.2.2)) rfl (fun vs I w bs h => zjp h) fun y => ?_
      obtain ⟨⟨v, js, u, qs⟩, ⟨h5, h6⟩, hf1, hf2⟩ := y
      refine zfg 20 4 (dTmc (.mk bo bn bx bks bps)) rfl rfl (fun vs I J w bs h1 h2 h3 cs hc => zuz h5 h6 h1 h2 h3 cs hc) rfl ?_
      rw [show rpl nm (.mk bo bn bx bks bps) fr (N + 1) (.mk op n x ks ps) = .mk bo bn bx bks bps by simp only [rpl]; rw [if_pos hyes, if_pos e]]
      exact zab ⟨_, rfl, tV rfl, rfl, trivial⟩
    have e : op ≠ 4 := by simpa using h
    clear h
    refine yin 7 rfl fun bm es clock hes hst => ?_
    refine xd [] rfl (by simp) ?_
    refine zar (fr := [5]) [] [(1, 5)] rfl (by simp) (zhm (.mk op n x ks ps) hw) trivial rfl rfl rfl rfl ?_
    refine xg [] rfl (by simp) ?_
    refine zji rfl ?_
    refine xg [] rfl (by simp) ?_
    refine zoo ttX_ok rfl rfl rfl (by simp) ?_
    refine xg [] rfl (by simp) ?_
    refine yky ttX_ok rfl ?_
    refine xg [] rfl (by simp) ?_
    have hlen : es.size = fr.length := by simpa [zev] using hes
    refine zaj (fun _ : Array Nat × List Str => [(37, .iter 9), (2, .ref 2 0), (3, .ref 3 0), (4, .ref 4 0), (6, .ref 8 0)])
      (fun y => [(2, some (.cells 63 7 (rD nm (.mk bo bn bx bks bps) 7))), (3, some (.cells 26 5 [.imm (.int .i64 op), .imm (.int .i64 n), .imm (.str x), .hv 5 0, .hv 5 1])), (4, some (.cells 26 5 [.imm (.int .i64 0), .imm (.int .i64 0), .imm (.str []), .nils, .nils])), (5, some (.hp (zwj true (dTmc (.mk op n x ks ps))))),
        (20, some (.map (zev y.2))), (7, some (.mapx (zev fr) bm es clock)), (8, some (.cells 61 1 [.mapr 20])), (9, some (.miter bm clock y.1 clock))]) [10, 11, 12, 13, 14, 15, 6, 16, 17, 18, 19, 21, 22]
      (fun y => (leftOf es y.1).size) (fun y => y.2.length + (leftOf es y.1).size ≤ 1 + fr.length ∧ ∀ s, s ∈ y.2 ↔ s = nm ∨ ∃ (j : Nat) (e : MapEntry), es[j]? = some e ∧ y.1.contains e.born = true ∧ fr[j]? = some s) (#[], [nm])
      ⟨by simp only [List.length_singleton]; have := ynd es #[]; omega, fun s => by simp⟩ ⟨rfl, rfl, rfl, rfl, rfl, trivial⟩ ⟨rfl, rfl, rfl, rfl, rfl, rfl, rfl, rfl, trivial⟩ rfl fun y hi ih => ?_
    obtain ⟨seen, m⟩ := y
    obtain ⟨hi1, hi2⟩ := hi
    simp only at hi1 hi2
    refine xd [] rfl (by simp) ?_
    refine ynl 7 rfl rfl (fun x hx => hst.1 x hx) (Nat.le_refl _) (by decide) fun z hz => ?_
    rcases z with _ | ⟨j, e1⟩
    rotate_left
    · obtain ⟨hz1, hz2⟩ := hz
      obtain ⟨s, hs⟩ : ∃ s, fr[j]? = some s := zal (by rw [← hlen]; exact (Array.getElem?_eq_some_iff.1 hz1).1)
      have hkv : (zev fr)[j]? = some (.str s, .bool true) := by simp [zev, hs]
      have hD : yhe (zev fr) (some (j, e1)) = .imm (.tup [.bool true, .str s, .bool true]) := by simp only [yhe, hkv]
      rw [hD]
      refine xd [] rfl (by simp) ?_
      refine zaa rfl (fun h => ?_) (fun h => by simp at h)
      refine xd [] rfl (by simp) ?_
      refine ykz 7 rfl rfl rfl rfl hz1 hkv ?_
      refine xg [] rfl (by simp) ?_
      refine zoo ttX_ok rfl rfl rfl (zc4 m) ?_
      rw [zlw]
      refine xg [] rfl (by simp) ?_
      have hsh := left_shrinks es seen e1 hz2
      have hal := zwg m s
      refine zae (ih (seen.push e1.born, zlo m s) hsh ⟨by simp only; omega, fun y => ?_⟩) ⟨rfl, rfl, rfl, rfl, rfl, trivial⟩ ⟨rfl, rfl, rfl, rfl, rfl, rfl, rfl, rfl, trivial⟩ rfl
      simp only [zvi, hi2 y]
      constructor
      · rintro ((h1 | ⟨j', e', q1, q2, q3⟩) | h1)
        · exact .inl h1
        · exact .inr ⟨j', e', q1, by rw [contains_push, q2, Bool.true_or], q3⟩
        · subst h1; exact .inr ⟨j, e1, hz1, by rw [contains_push]; simp, hs⟩
      · rintro (h1 | ⟨j', e', q1, q2, q3⟩)
        · exact .inl (.inl h1)
        · rw [contains_push, Bool.or_eq_true] at q2
          rcases q2 with q2 | q2
          · exact .inl (.inr ⟨j', e', q1, q2, q3⟩)
          · right
            have hb : e'.born = e1.born := by simpa using q2
            have hjj : j' = j := by
              have hnd := hst.2.1
              have g1 : (es.toList.map (·.born))[j']? = some e'.born := by simp [q1]
              have g2 : (es.toList.map (·.born))[j]? = some e1.born := by simp [hz1]
              rw [hb] at g1
              exact (List.getElem?_inj (List.getElem?_eq_some_iff.1 g1).1 hnd).1 (g1.trans g2.symm)
            subst hjj
            rw [q3] at hs; cases hs; rfl
    have hz : (leftOf es seen).size = 0 := hz
    have hm1 : ∀ s, s ∈ m ↔ s = nm ∨ s ∈ fr := fun s => by
      rw [hi2 s]
      constructor
      · rintro (h | ⟨j, e, _, _, h⟩)
        · exact .inl h
        · exact .inr (List.mem_of_getElem? h)
      · rintro (h | h)
        · exact .inl h
        · obtain ⟨j, hj⟩ := List.getElem?_of_mem h
          obtain ⟨e, he⟩ : ∃ e, es[j]? = some e := ⟨_, Array.getElem?_eq_getElem (by rw [hlen]; exact (List.getElem?_eq_some_iff.1 hj).1)⟩
          exact .inr ⟨j, e, he, yhl hz he, hj⟩
    have hml : m.length ≤ 61 := by omega
    clear ih hi1 hi2
    refine xd [] rfl (by simp) ?_
    refine zaa rfl (fun h => by simp at h) (fun h => ?_)
    refine zav rfl ?_
    refine yex 7 rfl ?_
    refine zgx (ids' := [11, 12, 13, 14, 15, 6, 16, 17, 18, 19, 21, 22]) 5 10 (fun y : { y : Value × List An × Value × List An // (vAs y.2.1 = zc2 ks ∧ vAs y.2.2.2 = zcf ps) ∧ zc1 y.2.1 ∧ zc1 y.2.2.2 } => [y.1.1, y.1.2.2.1]) (fun y => zzg (.mk true op n x y.1.1 y.1.2.1 y.1.2.2.1 y.1.2.2.2)) rfl (fun vs I w bs h => zjp h) fun y => ?_
    obtain ⟨⟨v, js, u, qs⟩, ⟨h5, h6⟩, hf1, hf2⟩ := y
    simp only at h5 h6 hf1 hf2
    refine zou (ids' := [12, 13, 14, 15, 6, 16, 17, 18, 19, 21, 22]) 3 11 rfl rfl fun b => ?_
    have hva : vA (.mk true op n x v (zvq js) u qs) = dTmc (.mk op n x ks ps) := by simp only [vA, dTmc, ya8, h5, h6]
    have hjl : js.length = ks.length := by have := congrArg List.length h5; simpa using this
    refine yas (ids' := [13, 14, 15, 6, 16, 17, 18, 19, 21, 22]) 10 11 12 (fun _ : Unit => zir b (.mk true op n x v js u qs)) rfl rfl (by decide) (fun vs us I w b1 b2 h1 h2 hd => ⟨(), b :: b1, fun k hk => ?_, ?_⟩) fun _ => ?_
    · obtain ⟨e, _⟩ := h2
      rcases List.mem_cons.1 hk with rfl | hk
      · right; simp [e]
      · exact .inl hk
    · obtain ⟨e1, e2, e3⟩ := h1
      obtain ⟨e, cur, z1, z2, z3⟩ := h2
      have hcs : cur.toList = cA (.mk true op n x v js u qs) := by
        obtain ⟨cur⟩ := cur
        have hl := z2.1
        match cur, hl with
        | [c0, c1, c2, c3, c4], _ =>
          have e0 := (z2.2 0 _ _ rfl rfl).immInv.intInv
          have e1 := (z2.2 1 _ _ rfl rfl).immInv.intInv
          have e2 := (z2.2 2 _ _ rfl rfl).immInv.strEq
          have e3 := (z2.2 3 _ _ rfl rfl).rawInv
          have e4 := (z2.2 4 _ _ rfl rfl).rawInv
          rw [e0, e1, e2, e3, e4]; rfl
      refine ⟨by rw [e1], List.nodup_cons.2 ⟨fun hb => hd b hb (by simp [e]), e2⟩, rfl, ⟨cur, z1, ?_⟩, ⟨cur, _, _, z1, fun j c hj => ?_⟩, e3⟩
      · have := congrArg List.length hcs; simpa [cA] using this
      · rw [← hcs] at hj; simpa using hj
    obtain ⟨sk, hsk⟩ : ∃ sk, sk = er (.mk true op n x v (zvq js) u qs) := ⟨_, rfl⟩
    refine yez (ids' := [14, 15, 6, 16, 17, 18, 19, 21, 22]) 12 13 (fun _ : Unit => zcr b sk (.mk op n x ks ps)) rfl (fun vs I w bs h => by
      obtain ⟨b1, q1, q2⟩ := ym1 h
      exact ⟨(), b1, q1, fun J hJ hk => ⟨_, hsk.symm, hva, q2 J hJ hk⟩⟩) fun _ => ?_
    have hskK : ∀ i, i < ks.length → skK sk i = some (.im true [] []) := fun i hi => by rw [hsk]; exact skK_im (by omega)
    have hsk : sk = .mk true op n [] v (ers (zvq js)) u (ers qs) := hsk
    have hfQ : yer sk := by rw [hsk]; exact (ze0 qs).2 hf2
    have hkl : ks.length ≤ 1000000 := hw.1
    refine zee 13 (fun _ : { _y : Unit // zh7 sk (.mk op n x ks ps) } => zcr b sk (.mk op n x ks ps)) rfl (fun vs I w bs h => ⟨⟨(), yih hfQ hw.2.2.1 h⟩, h⟩) fun z => ?_
    obtain ⟨_, hfine⟩ := z
    have hv : ∃ ad c, v = .slice ad ks.length c ∧ (0 < ks.length → ∃ rb, ad = some ⟨rb, 0, none⟩) := by
      obtain ⟨a, o', n', x', ad, c, ks', u', qs', h1, h2, h3, _, _, h4, _⟩ := hfine
      obtain ⟨tks, tps, h5, h6, _⟩ := zl3 h3 h2
      cases h5
      rw [hsk, h3] at h1
      simp only [er, An.mk.injEq] at h1
      exact ⟨ad, c, by rw [← h1.2.2.2.2.1, h6], by rw [← h6]; exact h4⟩
    obtain ⟨ad, c, rfl, hadr⟩ := hv
    refine xd [] rfl (by simp) ?_
    refine zbr ttX_ok 13 [.imm (.int .i64 op), .imm (.int .i64 n), .imm (.str x), .raw (.slice ad ks.length c), .raw u] rfl rfl (fun _ vs I w bs h => zk4 hsk rfl h) rfl rfl (by simp) ?_
    refine xg [] rfl (by simp) ?_
    refine zar (fr := []) [(13, 2), (20, 1)] [] rfl (by simp) (zw4 b sk (.mk op n x ks ps) m op n x [] (.slice ad ks.length c) (ers (zvq js)) u (ers qs) ks ps hsk rfl hp) ⟨⟨rfl, rfl, rfl⟩, ⟨rfl, rfl, rfl⟩, trivial⟩ rfl rfl rfl rfl ?_
    refine xg [] rfl (by simp) ?_
    refine zbr ttX_ok 13 [.raw (.slice ad ks.length c)] rfl rfl (fun _ vs I w bs h => (zei (by rw [hsk] at h; exact h)).1) rfl rfl (by simp) ?_
    refine xg [] rfl (by simp) ?_
    have hnm := hn
    simp only [zag, Bool.and_eq_true] at hnm
    have hK6 := zj4 hnm.1.1
    have hocc := zqt (.mk op n x ks ps) hn
    have hbnd := yiz (op := op) (n := n) (x := x) (ks := ks) hnm.1.2 ks.length 0
    have hstl := zp4 (.mk op n x ks ps) m
    have hsame : zzq (zde (.mk op n x ks ps) m) (nm :: fr ++ zbc (.mk op n x ks ps)) := fun s => by
      rw [zqy, hm1 s, List.mem_append, List.mem_cons]
    have hsh1 : ∀ s ∈ zde (.mk op n x ks ps) m, s.length ≤ 8 := fun s hs => by
      rcases List.mem_append.1 ((hsame s).1 hs) with h | h
      · exact hfs s h
      · exact zqw (zp5 _ hn s h)
    have hfin : rpl nm (.mk bo bn bx bks bps) fr (N + 1) (.mk op n x ks ps) = lpR (rpl nm (.mk bo bn bx bks bps) fr N) nm fr ks.length 0 (.mk op n x ks ps) (zde (.mk op n x ks ps) m) := by
      rw [rpl, if_pos hyes, if_neg e]
      exact (zx8 _ nm fr ks.length 0 _ _ _ hsame).symm
    rw [hfin]
    generalize hm1' : zde (.mk op n x ks ps) m = m1 at *
    generalize hrp : lpR (rpl nm (.mk bo bn bx bks bps) fr N) nm fr ks.length 0 (.mk op n x ks ps) m1 = res
    refine zaj (fun y : Nat × Tm × List Str => [(50, .imm (.int .i64 y.1)), (49, .imm (.int .i64 ks.length)), (2, .ref 2 0), (3, .raw (.pointer (some ⟨b, 0, none⟩))), (4, .ref 4 0), (6, .ref 8 0)])
      (fun y => [(2, some (.cells 63 7 (rD nm (.mk bo bn bx bks bps) 7))), (4, some (.cells 26 5 [.imm (.int .i64 0), .imm (.int .i64 0), .imm (.str []), .nils, .nils])), (7, some (.map (zev fr))), (13, some (.hp (zcr b sk y.2.1))), (20, some (.map (zev y.2.2))), (8, some (.cells 61 1 [.mapr 20]))]) [14, 15, 6, 16, 17, 18, 19, 21, 22]
      (fun y => ks.length - y.1) (fun y => y.1 ≤ ks.length ∧ zh7 sk y.2.1 ∧ zni (.mk op n x ks ps) y.2.1 ∧ (∀ l k, y.1 ≤ l → ks[l]? = some k → tmK y.2.1 l = some k) ∧ y.2.2.length + zgq (.mk op n x ks ps) (ks.length - y.1) y.1 ≤ 699 ∧ (∀ s ∈ y.2.2, s.length ≤ 8) ∧
        lpR (rpl nm (.mk bo bn bx bks bps) fr N) nm fr (ks.length - y.1) y.1 y.2.1 y.2.2 = res) (0, .mk op n x ks ps, m1)
      ⟨Nat.zero_le _, hfine, zhi _, fun l k _ h => h, by simp only [Nat.sub_zero]; omega, hsh1, hrp⟩ ⟨rfl, rfl, rfl, rfl, rfl, rfl, trivial⟩ ⟨rfl, rfl, rfl, rfl, rfl, rfl, trivial⟩ rfl fun y hi ih => ?_
    obtain ⟨i, T, tm⟩ := y
    obtain ⟨d1, d2, d3, d4, d5, d6, d7⟩ := hi
    simp only at d1 d2 d3 d4 d5 d6 d7
    refine xd [] rfl (by simp) ?_
    refine zaa rfl (fun h => ?_) (fun h => ?_)
    · simp at h
      obtain ⟨kid, hkid⟩ : ∃ kid, ks[i]? = some kid := zal h
      have hkT := d4 i kid (Nat.le_refl _) hkid
      obtain ⟨p1, p2, p3, p4, p5, x1, kn, ps1, hT1, hT, hl1, hl2, hbl⟩ := d3
      cases hT1
      subst hT
      refine xd [] rfl (by simp) ?_
      have hbi : (zad (.mk op n x1 kn ps1) i).length ≤ 8 := by rw [hbl]; exact zy7 hnm.1.2 i
      refine zar (fr := [15]) [(13, 1)] [(4, 15)] rfl (by simp) (ydv b sk op n x1 kn ps1 i (by omega) (fun ho hp2 => by
        simp only [zad, if_pos hp2] at hbi
        cases hg : ps1[((i : Int) - 1).toNat]? with
        | none =>
          exfalso
          have := znd hnm.1.1 hp2 h
          rw [List.getElem?_eq_none_iff] at hg; omega
        | some q =>
          refine ⟨q, rfl, ?_⟩
          simp only [hg, ho, Bool.false_eq_true, if_false] at hbi
          omega)) ⟨⟨rfl, rfl, rfl⟩, trivial⟩ rfl rfl rfl rfl ?_
      refine xg [] rfl (by simp) ?_
      obtain ⟨rb, hrb⟩ : ∃ rb, rb = zdy fr i (.mk op n x1 kn ps1) tm (zad (.mk op n x1 kn ps1) i).length := ⟨_, rfl⟩
      have hskI := hskK i h
      have hknd : zag kid = true := zco hnm.2 hkid
      have hbS : zgq (.mk op n x ks ps) (ks.length - i) i = (zad (.mk op n x1 kn ps1) i).length + zgq (.mk op n x ks ps) (ks.length - (i + 1)) (i + 1) := by
        rw [show ks.length - i = (ks.length - (i + 1)) + 1 by omega, hbl]; rfl
      have hml9 : tm.length + (zad (.mk op n x1 kn ps1) i).length ≤ 699 := by omega
      obtain ⟨_, b2, b3, b4, _, b6, kid2, b7, b8, _⟩ := zu5 (i := i) d2 hskI hkT fr tm _ (Nat.le_refl _)
      obtain ⟨c1, c2, kid3, c3, c4, c5⟩ := zqf (fr := fr) hkT hknd d6 hml9 _ (Nat.le_refl _)
      rw [← hrb] at b2 b3 b4 b6 b7 c1 c2 c3
      rw [b7] at c3; cases c3
      obtain ⟨rbd, hrb0⟩ := hadr (by omega)
      subst hrb0
      by_cases hB : zbo op i = true ∨ (zbo op i = false ∧ zb1 op i = true)
      case' pos =>
        obtain ⟨fB, ty, vB, fcB, cB, q1, q2, q3, q4, q5⟩ := yiy (b := b) (i := i) d2 rfl (by omega) (by
            rcases hB with hB | ⟨hB1, hB2⟩
            · exact .inl hB
            · refine .inr ⟨hB1, hB2, ?_⟩
              have := znd hnm.1.1 hB2 h
              omega)
        refine zar (fr := [6]) [(13, 1)] [(6, 6)] rfl (by simp) q4 ⟨⟨rfl, rfl, rfl⟩, trivial⟩ rfl rfl rfl rfl ?_
        refine xg [] rfl (by simp) ?_
        refine zdx (y := 3) (j := 4) (j2 := 5) (stc := ye7 ty vB) (stc' := ye7 ty vB) (stx := stQ b sk nm (.mk bo bn bx bks bps) fr i (zad (.mk op n x1 kn ps1) i) (0, .mk op n x1 kn ps1, tm)) (stB := stQ b sk nm (.mk bo bn bx bks bps) fr i (zad (.mk op n x1 kn ps1) i) rb) (pend := none) (E := yof b ks.length i (zad (.mk op n x1 kn ps1) i)) (ids' := [6, 16, 17, 18, 19, 21, 22]) (d := .tup []) rfl q1 q2 q3 (show zzr ∉ [7] by decide) ⟨rfl, rfl, rfl, rfl, rfl, rfl, rfl, rfl, trivial⟩
          (zcc ⟨rfl, rfl, rfl, rfl, rfl, rfl, rfl, rfl, rfl, trivial⟩) (fun L h1 h2 h3 h4 h5 h6 h7 => ?_) ?_ ?_ ?_ ?_ ?_
        · have := q5 (fun j => zds L (stQ b sk nm (.mk bo bn bx bks bps) fr i (zad (.mk op n x1 kn ps1) i) (zdy fr i (.mk op n x1 kn ps1) tm j)) none) (fun j => ⟨(zdy fr i (.mk op n x1 kn ps1) tm j).2.1, fun I w bb bs hP => ymh (i := 13) hP rfl⟩) fun j d hd => by
              have hj : j < (zad (.mk op n x1 kn ps1) i).length := by
                have := (List.getElem?_eq_some_iff.1 hd).1
                rwa [List.length_map, zy4 d2] at this
              rw [Nat.zero_add]
              exact ydd b sk nm (.mk bo bn bx bks bps) fr (zad (.mk op n x1 kn ps1) i) i ks.length (.mk op n x1 kn ps1) kid tm d2 hsk hskI hkT (zdf kid hknd (by have := zet hkid; simp only [zcv] at h60; omega)).2 h hkl (fun j hj s hs => by
                have := (zqf (fr := fr) hkT hknd d6 hml9 j hj).2.1 s hs
                unfold maxLen; omega) hml9 j hj d hd h1 h2 h3 h4 h5 h6 h7
          rw [Nat.zero_add, zy4 d2, ← hrb] at this
          exact this
        · simp [ye7, stQ, nms]
        · simp [ye7, nms]
        · intro i hi
          have e : nmL (zln (zit (zbt [(13, 1)] ++ [(6, 6)])) [] ++ zln (zit (zbt [(13, 1)] ++ [(6, 6)])) [.ref 6 0]) = [6] := rfl
          rw [e] at hi
          simpa [ye7, nms, zfb, nmB, nmL, nmD] using hi
        · refine ⟨by decide, ?_⟩
          simp [stQ, yof, rD, nmE, nmD, zfb, nmB, nmL, nms]
      case' neg =>
        have hN : zbo op i = false ∧ zb1 op i = false := by
          cases e1 : zbo op i <;> cases e2 : zb1 op i <;> simp [e1, e2] at hB ⊢
        have hb0 : (zad (.mk op n x1 kn ps1) i).length = 0 := by simp [zad, hN.1, hN.2]
        have hrb0 : rb = (0, .mk op n x1 kn ps1, tm) := by rw [hrb, hb0]; rfl
        refine zar (fr := []) [(13, 1)] [] rfl (by simp) (zsf (zcr b sk (.mk op n x1 kn ps1)) b op i (zpd (zh6 d2)) hN.1 hN.2) ⟨⟨rfl, rfl, rfl⟩, trivial⟩ rfl rfl rfl rfl ?_
        refine xg [] rfl (by simp) ?_
        refine zry 56 rfl ?_
        refine zdx (y := 3) (j := 4) (j2 := 5) (stc := []) (stc' := []) (stx := stQ b sk nm (.mk bo bn bx bks bps) fr i (zad (.mk op n x1 kn ps1) i) (0, .mk op n x1 kn ps1, tm)) (stB := stQ b sk nm (.mk bo bn bx bks bps) fr i (zad (.mk op n x1 kn ps1) i) (0, .mk op n x1 kn ps1, tm)) (pend := none) (E := yof b ks.length i (zad (.mk op n x1 kn ps1) i)) (ids' := [6, 16, 17, 18, 19, 21, 22]) (d := .tup []) rfl Tryz.func99 (by decide +kernel) rfl (show zzr ∉ [7] by decide) ⟨rfl, rfl, rfl, rfl, rfl, rfl, rfl, rfl, trivial⟩
          (zcc ⟨rfl, rfl, rfl, rfl, rfl, rfl, rfl, rfl, trivial⟩) (fun L h1 h2 h3 h4 h5 h6 h7 => zmu) ?_ ?_ ?_ ?_ ?_
        · simp [nms]
        · simp [nms]
        · intro i hi
          have e : nmL (([] : List D) ++ []) = [] := rfl
          rw [e] at hi
          simp [zfb] at hi
        · refine ⟨by decide, ?_⟩
          simp [stQ, yof, rD, nmE, nmD, zfb, nmB, nmL, nms]
        rw [← hrb0]
      all_goals
        refine xd [] rfl (by simp) ?_
        refine zar (fr := []) [(15, 1)] [] rfl (by simp) (zly (zad (.mk op n x1 kn ps1) i) nm _) ⟨⟨rfl, rfl, rfl⟩, trivial⟩ rfl rfl rfl rfl ?_
        refine xg [] rfl (by simp) ?_
        have hlike := zla ⟨op, n, x, ks, ps, x1, kn, ps1, rfl, rfl, hl1, hl2, hbl⟩ b4
        have hbs9 : rb.2.2.length + zgq (.mk op n x ks ps) (ks.length - (i + 1)) (i + 1) ≤ 699 := by omega
        have hother : ∀ l k, i + 1 ≤ l → ks[l]? = some k → tmK rb.2.1 l = some k := fun l k hl hk => by
          rw [b6 l (by omega)]; exact d4 l k (by omega) hk
        rw [show ks.length - i = (ks.length - (i + 1)) + 1 by omega, lpR, ← zgt, ← hrb, b7] at d7
        refine zaa rfl (fun h2 => ?_) (fun h2 => ?_)
        · have hno : ¬ zbq (zad (.mk op n x1 kn ps1) i) nm = true := by simpa using h2
          rw [if_neg hno] at d7
          simp only [Option.getD_some] at d7
          have IH := ygl nm (.mk bo bn bx bks bps) fr hby hfl hfs N kid2 (by rw [b8]; have := zet hkid; simp only [zcv] at hc; omega) c4 (by rw [b8]; have := zet hkid; simp only [zcv] at h60; omega)
          obtain ⟨ro, rn, rx, rks, rps, hres⟩ := zhl (rpl nm (.mk bo bn bx bks bps) fr N kid2)
          rw [hres] at IH d7
          have hkv : ∀ vs I w bs, (zcr b sk rb.2.1).P vs I w bs → zda I w rbd (0 + ((i : Int)).toNat * 5) ((dTmc kid2).map .imm) := fun vs I w bs h => by
            have := zob (zh6 b2) hsk hskI b7 h
            simpa using this
          have hks := zkk (b := b) (zh6 b2) hsk hskI b7 (.mk ro rn rx rks rps)
          rw [show i * 5 = 0 + ((i : Int)).toNat * 5 by simp] at hks
          have hraw : ∀ vs I w bs, (zcr b sk rb.2.1).P vs I w bs → zda I w b 3 [.raw (.slice (some ⟨rbd, 0, none⟩) ks.length c)] := fun vs I w bs h => (zei (by rw [hsk] at h; exact h)).1
          obtain ⟨ko, kn2, kx, kks, kps, rfl⟩ := zhl kid2
          refine xd [] rfl (by simp) ?_
          refine zbr ttX_ok 13 [.raw (.slice (some ⟨rbd, 0, none⟩) ks.length c)] rfl rfl (fun _ => hraw) rfl rfl (by simp) ?_
          refine xg [] rfl (by simp) ?_
          refine zbr ttX_ok 13 [.raw (.slice (some ⟨rbd, 0, none⟩) ks.length c)] rfl rfl (fun _ => hraw) rfl rfl (by simp) ?_
          refine xg [] rfl (by simp) ?_
          refine zdm ttX_ok rfl rfl (fun _ => ⟨by simp, by simpa using h⟩) (by simp) ?_
          refine xg [] rfl (by simp) ?_
          refine zbr ttX_ok 13 [.imm (.int .i64 ko), .imm (.int .i64 kn2), .imm (.str kx), .imm (.sl (zc2 kks)), .imm (.sl (zcf kps))] rfl rfl (fun _ => hkv) rfl rfl (by simp) ?_
          refine xg [] rfl (by simp) ?_
          refine zar (fr := []) [(7, 7)] [] rfl (by simp) IH ⟨⟨rfl, rfl, rfl⟩, trivial⟩ rfl rfl rfl rfl ?_
          refine xg [] rfl (by simp) ?_
          refine zdm ttX_ok rfl rfl (fun _ => ⟨by simp, by simpa using h⟩) (by simp) ?_
          refine zpo ttX_ok 13 (zcr b sk (zcm rb.2.1 i (.mk ro rn rx rks rps))) rfl rfl hks ?_
          refine xg [] rfl (by simp; rfl) ?_
          refine zae (ih (i + 1, zcm rb.2.1 i (.mk ro rn rx rks rps), rb.2.2) (by simp only; omega) ⟨by simp only; omega, zrl b2 hskI b7 _, zvn hlike i _, fun l k hl hk => ?_, hbs9, c2, d7⟩) ⟨zcl (w64 (by omega) (by omega)), rfl, rfl, rfl, rfl, rfl, trivial⟩ ⟨rfl, rfl, rfl, rfl, rfl, rfl, trivial⟩ rfl
          simp only at hl ⊢
          rw [zfn b7, if_neg (by omega)]
          exact hother l k hl hk
        · have hyes2 : zbq (zad (.mk op n x1 kn ps1) i) nm = true := by simpa using h2
          rw [if_pos hyes2] at d7
          refine xd [] rfl (by simp) ?_
          exact zae (ih (i + 1, rb.2.1, rb.2.2) (by simp only; omega) ⟨by simp only; omega, b2, hlike, hother, hbs9, c2, d7⟩) ⟨zcl (w64 (by omega) (by omega)), rfl, rfl, rfl, rfl, rfl, trivial⟩ ⟨rfl, rfl, rfl, rfl, rfl, rfl, trivial⟩ rfl
    · simp at h
      have hi : i = ks.length := by omega
      subst hi
      simp only [Nat.sub_self, lpR] at d7
      subst d7
      obtain ⟨p1, p2, p3, p4, p5, x1, kn, ps1, hT1, hT, _⟩ := d3
      cases hT1
      subst hT
      clear ih
      refine zav rfl ?_
      refine xd [] rfl (by simp) ?_
      refine zbr ttX_ok 13 [.imm (.int .i64 op), .imm (.int .i64 n), .imm (.str x1), .raw (.slice ad ks.length c), .raw u] rfl rfl (fun _ vs I w bs h => zk4 hsk rfl h) rfl rfl (by simp) ?_
      refine xg [] rfl (by simp) ?_
      refine zfg 13 4 (dTmc (.mk op n x1 kn ps1)) rfl rfl (fun vs I J w bs h1 h2 h3 cs hc => ygc hsk rfl h1 h2 h3 cs hc) rfl ?_
      exact zab ⟨_, rfl, tV rfl, rfl, trivial⟩
end Go.Hk

/- Plain laws of names that are chosen anew: chosen again, nothing changes; the free names are as before. -/
namespace Go.Hk
open Go.Proofs
theorem ycd (t : Tm) (y : Str) : ∀ (ks : List Tm) (i : Nat), yel t i ks y ↔ ∃ k c, ks[k]? = some c ∧ inT c y ∧ zbq (zcx t ((i + k : Nat) : Int)) y = false
  | [], i => by simp [yel]
  | a :: r, i => by
    simp only [yel]
    rw [ycd t y r (i + 1)]
    constructor
    · rintro (⟨h1, h2⟩ | ⟨k, c, h1, h2, h3⟩)
      · exact ⟨0, a, rfl, h1, h2⟩
      · exact ⟨k + 1, c, h1, h2, by rw [show i + (k + 1) = i + 1 + k from by omega]; exact h3⟩
    · rintro ⟨k, c, h1, h2, h3⟩
      cases k with
      | zero => simp at h1; subst h1; exact .inl ⟨h2, h3⟩
      | succ k => exact .inr ⟨k, c, by simpa using h1, h2, by rw [show i + 1 + k = i + (k + 1) from by omega]; exact h3⟩
theorem zgm {op n : Int} {x : Str} {ks : List Tm} {ps : List Ty} (h : ps.all zct = true) (i : Int) : zcx (.mk op n x ks ps) i = zad (.mk op n x ks ps) i := by
  rw [zse]
  intro p hp
  have := List.all_eq_true.1 h p hp
  simp only [zct, Bool.and_eq_true] at this
  exact this.1.2
theorem zt5 {l : List Str} {y : Str} : zbq l y = false ↔ y ∉ l := by
  rw [← zbg]; simp
end Go.Hk

/- Plain laws of what replacer.in computes: form. -/
namespace Go.Hk
open Go.Proofs
theorem ydo {l : List Str} {j : Nat} {f : Str} (h : l.Nodup) (hf : f ∉ l) : (l.set j f).Nodup := by
  induction l generalizing j with
  | nil => simp
  | cons a r ih =>
    obtain ⟨h1, h2⟩ := List.nodup_cons.1 h
    cases j with
    | zero => exact List.nodup_cons.2 ⟨fun hm => hf (by simp [hm]), h2⟩
    | succ j =>
      refine List.nodup_cons.2 ⟨fun hm => ?_, ih h2 fun hm => hf (by simp [hm])⟩
      rcases List.mem_or_eq_of_mem_set hm with hm | hm
      · exact h1 hm
      · exact hf (by simp [hm])
theorem yg8 {p : Ty} {j : Nat} {f : Str} (h : zct p = true) (hf : zcp f = true) (hn : f ∉ za4 p) : zct (zd2 p j f) = true := by
  simp only [zct, Bool.and_eq_true, decide_eq_true_eq] at h ⊢
  obtain ⟨a, b⟩ := zu3 p j f hf h.1.2
  refine ⟨⟨by rw [b]; exact h.1.1, a⟩, ?_⟩
  rw [← zhe _ a, zh9]
  have e : (zcw (zd2 p j f)).map zgz = (za4 p).set j f := zhd p j f
  rw [e]
  refine ydo ?_ hn
  have := h.2
  rw [← zhe _ h.1.2, zh9] at this
  exact this
def zc6 : Tm → Nat
  | .mk _ _ _ ks _ => ks.length
theorem zz0 {T : Tm} {i j : Nat} {f : Str} (h : zag T = true) (hf : zcp f = true) (hn : f ∉ zad T i) : zag (zdh T i j f) = true := by
  obtain ⟨op, n, x, ks, ps⟩ := T
  simp only [zag, Bool.and_eq_true] at h
  simp only [zad] at hn
  simp only [zdh]
  by_cases h1 : zbo op i = true
  · rw [if_pos h1]
    simp only [zag, Bool.and_eq_true]
    exact ⟨⟨zpj (.inl h1) h.1.1 hf, h.1.2⟩, h.2⟩
  · rw [if_neg h1]
    by_cases h2 : zb1 op i = true
    · rw [if_pos h2]
      rw [if_neg h1, if_pos h2] at hn
      cases hp : ps[((i : Int) - 1).toNat]? with
      | none => simp only [zag, Bool.and_eq_true]; exact h
      | some p =>
        simp only [hp] at hn
        simp only [zag, Bool.and_eq_true, List.length_set]
        refine ⟨⟨h.1.1, ?_⟩, h.2⟩
        rw [List.all_eq_true]
        intro q hq
        rcases List.mem_or_eq_of_mem_set hq with hq | hq
        · exact List.all_eq_true.1 h.1.2 q hq
        · rw [hq]; exact yg8 (List.all_eq_true.1 h.1.2 p (List.mem_of_getElem? hp)) hf hn
    · rw [if_neg h2]; simp only [zag, Bool.and_eq_true]; exact h
theorem ztr {T k : Tm} {i : Nat} (h : zag T = true) (hk : zag k = true) : zag (zcm T i k) = true := by
  obtain ⟨op, n, x, ks, ps⟩ := T
  simp only [zcm, zag, Bool.and_eq_true, List.length_set] at h ⊢
  exact ⟨h.1, zoj h.2 hk⟩
theorem zl7 {T k : Tm} {i : Nat} (h : zag T = true) (hk : tmK T i = some k) : zag k = true := by
  obtain ⟨op, n, x, ks, ps⟩ := T
  simp only [zag, Bool.and_eq_true] at h
  exact zco h.2 hk
theorem yax {T : Tm} {i l j : Nat} {f : Str} (h : zag T = true) (hi : i < zc6 T) (hl : l < zc6 T) (hne : l ≠ i) : zad (zdh T i j f) l = zad T l := by
  obtain ⟨op, n, x, ks, ps⟩ := T
  simp only [zag, Bool.and_eq_true] at h
  simp only [zc6] at hi hl
  simp only [zdh]
  by_cases h1 : zbo op i = true
  · have h3 : ¬ zbo op l = true := fun h3 => hne (ym5 h.1.1 hl hi h3 h1)
    rw [if_pos h1]
    simp only [zad, if_neg h3]
  · rw [if_neg h1]
    by_cases h2 : zb1 op i = true
    · rw [if_pos h2]
      cases hp : ps[((i : Int) - 1).toNat]? with
      | none => rfl
      | some p =>
        simp only [zad]
        by_cases h3 : zbo op l = true
        · rw [if_pos h3, if_pos h3]
        · rw [if_neg h3, if_neg h3]
          by_cases h4 : zb1 op l = true
          · rw [if_pos h4, if_pos h4]
            have : ((i : Int) - 1).toNat ≠ ((l : Int) - 1).toNat := by
              simp only [zb1, Bool.and_eq_true, decide_eq_true_eq] at h2 h4
              omega
            rw [List.getElem?_set_ne this]
          · rw [if_neg h4, if_neg h4]
    · rw [if_neg h2]
theorem ykq (T : Tm) (i : Int) (j : Nat) (f : Str) : zc6 (zdh T i j f) = zc6 T := by
  obtain ⟨op, n, x, ks, ps⟩ := T
  obtain ⟨y', ps', h, _⟩ := zlx op n x ks ps i j f
  rw [h]; rfl
theorem zq8 (T : Tm) (i : Nat) (k : Tm) : zc6 (zcm T i k) = zc6 T := by
  obtain ⟨op, n, x, ks, ps⟩ := T
  simp [zcm, zc6]
theorem ybc {T k : Tm} {i : Nat} (h : tmK T i = some k) : i < zc6 T := by
  obtain ⟨op, n, x, ks, ps⟩ := T
  exact (List.getElem?_eq_some_iff.1 h).1
theorem zls {T : Tm} {i : Nat} (h : i < zc6 T) : ∃ k, tmK T i = some k := by
  obtain ⟨op, n, x, ks, ps⟩ := T
  exact zal h
theorem ze9 {fr : List Str} {i : Nat} {T : Tm} {m : List Str} (hn : zag T = true) (hi : i < zc6 T) (hsub : ∀ s ∈ zad T i, s ∈ m) (hml : m.length + (zad T i).length ≤ 699) : ∀ j, j ≤ (zad T i).length →
    (zdy fr i T m j).1 = j ∧ zag (zdy fr i T m j).2.1 = true ∧ (∀ s ∈ zad (zdy fr i T m j).2.1 i, s ∈ (zdy fr i T m j).2.2) ∧ (∀ l, l < zc6 T → l ≠ i → zad (zdy fr i T m j).2.1 l = zad T l) ∧ (∀ s ∈ m, s ∈ (zdy fr i T m j).2.2) ∧
      (zdy fr i T m j).2.2.length ≤ m.length + j ∧ zc6 (zdy fr i T m j).2.1 = zc6 T ∧ (zad (zdy fr i T m j).2.1 i).length = (zad T i).length ∧ (∀ l, j ≤ l → (zad (zdy fr i T m j).2.1 i)[l]? = (zad T i)[l]?) ∧ (∀ l, l ≠ i → tmK (zdy fr i T m j).2.1 l = tmK T l) ∧ zni T (zdy fr i T m j).2.1 ∧ (∀ k, tmK T i = some k → ∃ k', tmK (zdy fr i T m j).2.1 i = some k' ∧ zcv k' = zcv k)
  | 0, _ => ⟨rfl, hn, hsub, fun _ _ _ => rfl, fun _ h => h, by simp [zdy], rfl, rfl, fun _ _ => rfl, fun _ _ => rfl, zhi T, fun k hk => ⟨k, hk, rfl⟩⟩
  | j + 1, hj => by
    obtain ⟨h1, h2, h3, h4, h5, h6, h7, h8, h9, h10, h11, h12⟩ := ze9 (fr := fr) hn hi hsub hml j (by omega)
    obtain ⟨x, hx⟩ := zal (show j < (zad T i).length by omega)
    rw [zga hx]
    generalize zdy fr i T m j = r at *
    obtain ⟨r1, rT, rm⟩ := r
    simp only at h1 h2 h3 h4 h5 h6 h7 h8 h9 h10 h11 h12
    subst h1
    simp only [zfp]
    by_cases hx2 : zbq fr x = true
    · rw [if_pos hx2]
      obtain ⟨q1, q2⟩ := zfc rm (by omega)
      obtain ⟨k, hk⟩ := zls (show i < zc6 rT by omega)
      have hkn := zl7 h2 hk
      have hKn : zag (zcm rT i (ze7 ((tmK rT i).getD zTm) x (za3 rm))) = true := ztr h2 (by rw [hk]; exact zl8 _ _ q1 _ hkn)
      have hlt : r1 < (zad (zcm rT i (ze7 ((tmK rT i).getD zTm) x (za3 rm))) i).length := by rw [zcd, h8]; omega
      refine ⟨rfl, zz0 hKn q1 (by rw [zcd]; exact fun hm => q2 (h3 _ hm)), fun s hs => ?_, fun l hl hne => ?_, fun s hs => List.mem_append_left _ (h5 s hs), by simp only [List.length_append, List.length_singleton]; omega, ?_, ?_, fun l hl => ?_, fun l hl => ?_, ycc (zvn h11 i _) _ _ _, fun k1 hk1 => ?_⟩
      · rw [zjr _ hlt, zcd] at hs
        rcases List.mem_or_eq_of_mem_set hs with hs | hs
        · exact List.mem_append_left _ (h3 s hs)
        · exact List.mem_append_right _ (by rw [hs]; simp)
      · rw [yax hKn (by rw [zq8]; omega) (by rw [zq8]; omega) hne, zcd, h4 l hl hne]
      · rw [ykq, zq8, h7]
      · rw [zfw, zcd, h8]
      · rw [zjr _ hlt, List.getElem?_set_ne (by omega), zcd, h9 l (by omega)]
      · rw [zg7, zfn hk, if_neg hl, h10 l hl]
      · obtain ⟨k2, e1, e2⟩ := h12 k1 hk1
        rw [hk] at e1; cases e1
        exact ⟨ze7 k x (za3 rm), by rw [zg7, zfn hk, if_pos rfl, hk]; rfl, by rw [zpr, e2]⟩
    · rw [if_neg hx2]
      exact ⟨rfl, h2, h3, h4, h5, by simp only; omega, h7, h8, fun l hl => h9 l (by omega), h10, h11, h12⟩
theorem zq0 {rec : Tm → Tm} {nm : Str} {fr : List Str} {C : Nat} (hrec : ∀ k, zag k = true → zcv k ≤ C → zag (rec k) = true) : ∀ (k i : Nat) (T : Tm) (m : List Str), zag T = true → i + k = zc6 T → (∀ l, l < zc6 T → i ≤ l → ∀ s ∈ zad T l, s ∈ m) → m.length + zgq T k i ≤ 699 → (∀ l k, i ≤ l → tmK T l = some k → zcv k ≤ C) → zag (lpR rec nm fr k i T m) = true
  | 0, i, T, m, hn, _, _, _, _ => hn
  | k + 1, i, T, m, hn, hlen, hsub, hml, hC => by
    simp only [zgq] at hml
    obtain ⟨_, a2, a3, a4, a5, a6, a7, a8, _, a10, a11, a12⟩ := ze9 (fr := fr) hn (by omega) (hsub i (by omega) (Nat.le_refl _)) (by omega) _ (Nat.le_refl _)
    rw [zgt] at a2 a3 a4 a5 a6 a7 a8 a10 a11 a12
    simp only [lpR]
    generalize ziv fr i T m = r at *
    obtain ⟨r1, rT, rm⟩ := r
    simp only at *
    obtain ⟨k0, hk0⟩ := zls (show i < zc6 T by omega)
    obtain ⟨kk, hkk, hcn⟩ := a12 k0 hk0
    have hCk := hC i k0 (Nat.le_refl _) hk0
    have hc : ∀ U, (∀ l : Int, zad U l = zad rT l) → zgq U k (i + 1) = zgq T k (i + 1) := fun U hU => ze6 (fun l => by
      obtain ⟨_, _, _, _, _, _, _, _, _, _, _, _, hb⟩ := a11
      rw [hU]; exact hb l) k (i + 1)
    split
    · exact zq0 hrec k (i + 1) rT rm a2 (by omega) (fun l hl hl2 s hs => by rw [a4 l (by omega) (by omega)] at hs; exact a5 s (hsub l (by omega) (by omega) s hs)) (by rw [hc _ fun _ => rfl]; omega) (fun l k hl hk => hC l k (by omega) (by rw [← a10 l (by omega)]; exact hk))
    · refine zq0 hrec k (i + 1) _ rm (ztr a2 (by rw [hkk]; exact hrec kk (zl7 a2 hkk) (by omega))) (by rw [zq8]; omega) (fun l hl hl2 s hs => ?_) (by rw [hc _ fun l => zcd rT i _ l]; omega) (fun l k hl hk => ?_)
      rw [zq8] at hl
      rw [zcd, a4 l (by omega) (by omega)] at hs
      exact a5 s (hsub l (by omega) (by omega) s hs)
      rw [zfn hkk, if_neg (by omega), a10 l (by omega)] at hk
      exact hC l k (by omega) hk
theorem zep {T : Tm} : ∀ (i : Nat) (ks : List Tm) (l : Nat), l < ks.length → ∀ s ∈ zad T ((i + l : Nat) : Int), s ∈ zcg T i ks
  | i, [], l, hl, s, hs => by simp at hl
  | i, k :: r, 0, hl, s, hs => by simp only [zcg, List.mem_append]; exact .inl (.inl hs)
  | i, k :: r, l + 1, hl, s, hs => by
    simp only [zcg, List.mem_append]
    refine .inr (zep (i + 1) r l (by simpa using hl) s ?_)
    rw [show i + 1 + l = i + (l + 1) by omega]; exact hs
mutual
theorem zjy : ∀ t : Tm, (zbc t).length = ym6 t
  | .mk op n x ks ps => by
    simp only [zbc, ym6, List.length_append, zp7]
    split <;> rfl
theorem zp7 (T : Tm) : ∀ (i : Nat) (l : List Tm), (zcg T i l).length = zsr T i l
  | _, [] => rfl
  | i, k :: r => by simp only [zcg, zsr, List.length_append, zjy k, zp7 T (i + 1) r]
end
theorem zuy {op n : Int} {x : Str} {ks : List Tm} {ps : List Ty} (hn : zag (.mk op n x ks ps) = true) (h60 : zcv (.mk op n x ks ps) ≤ 60) {nm : Str} {fr : List Str} (hfl : fr.length ≤ 60) : (nm :: fr ++ zbc (.mk op n x ks ps)).length + zgq (.mk op n x ks ps) ks.length 0 ≤ 699 := by
  have hnm := hn
  simp only [zag, Bool.and_eq_true] at hnm
  have hK6 := zj4 hnm.1.1
  have hocc := zqt (.mk op n x ks ps) hn
  have hbnd := yiz (op := op) (n := n) (x := x) (ks := ks) hnm.1.2 ks.length 0
  simp only [List.length_append, List.length_cons, zjy]
  omega
theorem zxj {nm : Str} {by' : Tm} {fr : List Str} (hb : zag by' = true) (hfl : fr.length ≤ 60) : ∀ (N : Nat) (t : Tm), zcv t ≤ 60 → zag t = true → zag (rpl nm by' fr N t) = true
  | 0, t, _, hn => hn
  | N + 1, .mk op n x ks ps, h60, hn => by
    rw [rpl]
    split
    · split
      · exact hb
      · have hnm := hn
        simp only [zag, Bool.and_eq_true] at hnm
        refine zq0 (C := 60) (fun k hk hc => zxj hb hfl N k hc hk) ks.length 0 _ _ hn (by simp [zc6]) (fun l hl _ s hs => ?_) (zuy hn h60 hfl) fun l k _ hk => ?_
        · refine List.mem_append_right _ ?_
          simp only [zbc, List.mem_append]
          exact .inr (zep 0 ks l hl s (by simpa using hs))
        · have := zet (l := ks) (i := l) (k := k) hk
          simp only [zcv] at h60
          omega
    · exact hn
theorem zhc {T : Tm} {a b : Str} : ∀ {l : List Tm} {i j : Nat} {c : Tm}, l[j]? = some c → (zdq T i l a b)[j]? = some (if zbq (zad T ((i + j : Nat) : Int)) a = true then c else ze7 c a b)
  | [], i, j, c, h => by simp at h
  | x :: r, i, 0, c, h => by simp at h; subst h; simp [zdq]
  | x :: r, i, j + 1, c, h => by
    have := zhc (T := T) (a := a) (b := b) (l := r) (i := i + 1) (j := j) (c := c) (by simpa using h)
    simp only [zdq, List.getElem?_cons_succ]
    rw [this, show i + 1 + j = i + (j + 1) by omega]
end Go.Hk

/- Contracts of hearthref01: a free name is another one (renamed, renamedPat). -/
namespace Go.Hk
open Go.Proofs
mutual
def rnP : Ty → Str → Str → Ty
  | .mk s n x ps, a, b => .mk s n (if s = 2 ∧ x = a then b else x) (yjc ps a b)
def yjc : List Ty → Str → Str → List Ty
  | [], _, _ => []
  | p :: r, a, b => rnP p a b :: yjc r a b
end
theorem zm5 (a b : Str) : ∀ l : List Ty, yjc l a b = l.map fun p => rnP p a b
  | [] => rfl
  | p :: r => by simp [yjc, zm5 a b r]
set_option maxRecDepth 100000 in
theorem yl0 : ∀ (p : Ty) (a b : Str), zo2 p → zau Tryz.prog 76 [.agg (zb2 p), .str a, .str b] (.agg (zb2 (rnP p a b)))
  | .mk s n x ps, a, b, hw => by
    obtain ⟨hw1, hw2⟩ := hw
    refine zaf zaz Tryz.func76 (by decide +kernel) rfl [1, 2, 3, 4, 5, 6, 7] rfl rfl ?_
    refine qg [] rfl (by simp [zai]) ?_
    obtain ⟨x2, hx2⟩ : ∃ x2, x2 = if s = 2 ∧ x = a then b else x := ⟨_, rfl⟩
    have e : rnP (.mk s n x ps) a b = .mk s n x2 (yjc ps a b) := by rw [rnP, hx2]
    rw [e]
    have hrl : (yjc ps a b).length = ps.length := by rw [zm5]; simp
    have hget : ∀ (i : Nat) (p : Ty), ps[i]? = some p → (yjc ps a b)[i]? = some (rnP p a b) := fun i p hp => by rw [zm5, List.getElem?_map, hp]; rfl
    generalize yjc ps a b = R at *
    by_cases hc : s = 2 ∧ x = a
    case' pos =>
      have hx : x2 = b := by rw [hx2, if_pos hc]
      refine zaa rfl (fun h => ?_) (fun h => by simp [hc] at h)
    case' neg =>
      have hx : x2 = x := by rw [hx2, if_neg hc]
      refine zaa rfl (fun h => absurd (by simpa using h) hc) (fun h => ?_)
    all_goals
      clear h
      refine qd [] rfl (by simp) ?_
      refine zgk (e := 58) (sz := 4) 7 3 (by decide) rfl ?_
      refine zaj (fun y : Nat => [(8, .imm (.int .i64 y)), (7, .own 3 (zcf (R.take y)).length), (1, .imm (.str a)), (2, .imm (.str b)), (3, .ref 1 0), (6, .ref 2 0)])
        (fun y => [(3, some (.row 58 4 (zcf (R.take y)))), (1, some (.immb 58 4 (zb2 (.mk s n x2 ps)))), (2, some (.cells 58 4 [.imm (.int .i64 0), .imm (.int .i64 0), .imm (.str []), .nils]))]) [4, 5, 6, 7]
        (fun y => ps.length - y) (fun y => y ≤ ps.length) 0 (Nat.zero_le _) ⟨rfl, by rw [List.take_zero]; rfl, rfl, rfl, rfl, rfl, trivial⟩ ⟨by rw [List.take_zero]; rfl, by rw [hx]; rfl, rfl, trivial⟩ rfl fun i hi ih => ?_
      refine qd [] rfl (by simp) ?_
      refine zaa rfl (fun h => ?_) (fun h => ?_)
      · simp at h
        obtain ⟨p, hp⟩ := zal h
        refine qd [] rfl (by simp) ?_
        refine qi_ rfl (c := zb2 p) (fun _ => ⟨by simp, by simpa using zr2 hp, by simp⟩) (by simp) ?_
        refine qg [] rfl (by simp) ?_
        refine zac rfl (fun _ => yl0 p a b (zg4 hw2 (List.mem_of_getElem? hp))) (by simp) ?_
        refine qg [] rfl (by simp) ?_
        refine zbz zaz rfl ⟨by simp, by simp [maxLen]; omega, by simp; omega, trivial⟩ ?_
        refine qg [] rfl (by simp) ?_
        refine zb5 3 4 rfl ?_
        have et : zcf (R.take (i + 1)) = zcf (R.take i) ++ [zb2 (rnP p a b)] := by rw [zbu (hget i p hp), zle]; simp [zcf]
        exact zae (ih (i + 1) (by omega) (by omega)) ⟨zcl (w64 (by omega) (by omega)), by rw [et]; rfl, rfl, rfl, rfl, rfl, trivial⟩ ⟨by rw [et]; rfl, rfl, rfl, trivial⟩ rfl
      · simp at h
        have hi2 : i = ps.length := by omega
        refine zav rfl ?_
        refine zc9 3 rfl ?_
        refine qd [] rfl (by simp) ?_
        rw [List.take_of_length_le (by omega)]
        exact zab ⟨_, rfl, tV rfl, trivial⟩
termination_by p => SizeOf.sizeOf p
decreasing_by
  all_goals
    have := List.sizeOf_lt_of_mem (List.mem_of_getElem? hp)
    simp_wf
    omega
theorem zhy : ∀ {l : List Ty} {q y : Ty}, q ∈ l → y ∈ zcw q → y ∈ zbp l
  | [], _, _, h, _ => by cases h
  | p :: r, q, y, h, hy => by
    simp only [zbp, List.mem_append]
    rcases List.mem_cons.1 h with rfl | h
    · exact .inl hy
    · exact .inr (zhy h hy)
theorem zpe : ∀ (N : Nat) (p : Ty) (a b : Str), zbd p ≤ N → a ∉ za4 p → rnP p a b = p
  | 0, .mk s n x ps, a, b, hN, _ => by simp only [zbd] at hN; omega
  | N + 1, .mk s n x ps, a, b, hN, h => by
    simp only [za4, zcw, List.map_append, List.mem_append, not_or] at h
    have h1 : ¬ (s = 2 ∧ x = a) := fun ⟨e1, e2⟩ => h.1 (by rw [if_pos e1]; simp [zgz, e2])
    rw [rnP, if_neg h1, zm5]
    congr 1
    conv => rhs; rw [← List.map_id ps]
    refine List.map_congr_left fun q hq => ?_
    refine zpe N q a b ?_ ?_
    · obtain ⟨i, hi⟩ := List.getElem?_of_mem hq
      have := zfa hi
      simp only [zbd] at hN; omega
    · intro hm
      refine h.2 ?_
      obtain ⟨y, hy, rfl⟩ := List.mem_map.1 hm
      exact List.mem_map.2 ⟨y, zhy hq hy, rfl⟩
mutual
theorem yge (a b : Str) : ∀ (p : Ty) (j : Nat), (za4 p).Nodup → (za4 p)[j]? = some a → rnP p a b = zd2 p j b
  | .mk s n x ps, j, hn, h => by
    by_cases e : s = 2
    · simp only [za4, zcw, if_pos e, List.singleton_append, List.map_cons, zgz, List.nodup_cons] at hn h
      cases j with
      | zero =>
        simp at h
        rw [rnP, if_pos ⟨e, h⟩]
        simp only [zd2, if_pos e]
        congr 1
        rw [zm5]
        conv => rhs; rw [← List.map_id ps]
        refine List.map_congr_left fun q hq => zpe _ q a b (Nat.le_refl _) fun hm => hn.1 ?_
        obtain ⟨y, hy, hy2⟩ := List.mem_map.1 hm
        rw [h, ← hy2]
        exact List.mem_map.2 ⟨y, zhy hq hy, rfl⟩
      | succ j =>
        simp only [List.getElem?_cons_succ] at h
        have hxa : ¬ (s = 2 ∧ x = a) := fun ⟨_, e2⟩ => hn.1 (by rw [e2]; exact List.mem_of_getElem? h)
        rw [rnP, if_neg hxa]
        simp only [zd2, if_pos e]
        rw [zu6 a b ps j hn.2 h]
    · simp only [za4, zcw, if_neg e, List.nil_append] at hn h
      rw [rnP, if_neg (fun h => e h.1)]
      simp only [zd2, if_neg e]
      rw [zu6 a b ps j hn h]
theorem zu6 (a b : Str) : ∀ (l : List Ty) (j : Nat), ((zbp l).map zgz).Nodup → ((zbp l).map zgz)[j]? = some a → yjc l a b = zeg l j b
  | [], j, _, h => by simp [zbp] at h
  | p :: r, j, hn, h => by
    simp only [zbp, List.map_append, List.getElem?_append, List.length_map] at h
    simp only [zbp, List.map_append] at hn
    have hn := List.nodup_append.1 hn
    simp only [yjc, zeg]
    split
    · rename_i hl
      rw [if_pos hl] at h
      rw [yge a b p j hn.1 h]
      congr 1
      rw [zm5]
      conv => rhs; rw [← List.map_id r]
      refine List.map_congr_left fun q hq => zpe _ q a b (Nat.le_refl _) fun hm => ?_
      obtain ⟨y, hy, hy2⟩ := List.mem_map.1 hm
      exact hn.2.2 a (List.mem_of_getElem? h) a (by rw [← hy2]; exact List.mem_map.2 ⟨y, zhy hq hy, rfl⟩) rfl
    · rename_i hl
      rw [if_neg hl] at h
      rw [zu6 a b r _ hn.2.1 h, zpe _ p a b (Nat.le_refl _) fun hm => hn.2.2 a hm a (List.mem_of_getElem? h) rfl]
end
theorem zoc {T U : Tm} (a b : Str) (h : ∀ i : Int, zad T i = zad U i) : ∀ (i : Nat) (l : List Tm), zdq T i l a b = zdq U i l a b
  | _, [] => rfl
  | i, k :: r => by simp only [zdq, h, zoc a b h (i + 1) r]
set_option maxRecDepth 100000 in
theorem ztf : ∀ (t : Tm) (a b : Str), zag t = true → zcv t ≤ 60 → zau Tryz.prog 75 [.agg (dTmc t), .str a, .str b] (.agg (dTmc (ze7 t a b)))
  | .mk op n x ks ps, a, b, hn, hc => by
    have hw := zpv _ hn (by omega)
    have hn' := hn
    simp only [zag, Bool.and_eq_true] at hn'
    obtain ⟨⟨hn1, hn2⟩, hn3⟩ := hn'
    obtain ⟨hk1, hk2, hk3⟩ := (zdf _ hn (by omega)).1
    refine zaf zaz Tryz.func75 (by decide +kernel) rfl [1, 2, 3, 4, 5, 6, 7, 8] rfl rfl ?_
    refine qg [] rfl (by simp) ?_
    refine zaa rfl (fun h => ?_) (fun h => ?_)
    · have e : op = 4 := by simpa using h
      have hks : ks = [] := List.eq_nil_of_length_eq_zero (by
        simp [zba, e] at hn1
        simp [hn1.1.1])
      subst hks
      refine qd [] rfl (by simp) ?_
      by_cases hx : x = a
      · refine zaa rfl (fun h => ?_) (fun h => by simp [hx] at h)
        have er : ze7 (.mk op n x [] ps) a b = .mk op n b [] ps := by rw [ze7]; simp [zwo, e, hx, zdq]
        rw [er]
        refine qd [] rfl (by simp) ?_
        exact zab ⟨_, rfl, tV rfl, trivial⟩
      · refine zaa rfl (fun h => absurd (by simpa using h) hx) (fun h => ?_)
        have er : ze7 (.mk op n x [] ps) a b = .mk op n x [] ps := by rw [ze7]; simp [zwo, hx, zdq]
        rw [er]
        refine qd [] rfl (by simp) ?_
        exact zab ⟨_, rfl, tV rfl, trivial⟩
    have e : ¬ op = 4 := by simpa using h
    clear h
    have er : ze7 (.mk op n x ks ps) a b = .mk op n x (zdq (.mk op n x ks ps) 0 ks a b) ps := by
      have hX : zwo op x a b = x := by simp [zwo, e]
      rw [ze7, hX]; congr 1
      exact zoc (T := .mk op n x [] ps) (U := .mk op n x ks ps) a b (fun i => rfl) 0 ks
    rw [er]
    have hrl := zdt (.mk op n x ks ps) a b 0 ks
    have hget : ∀ (i : Nat) (k : Tm), ks[i]? = some k → (zdq (.mk op n x ks ps) 0 ks a b)[i]? = some (if zbq (zad (.mk op n x ks ps) (i : Int)) a = true then k else ze7 k a b) := fun i k hk => by
      have := zhc (T := .mk op n x ks ps) (a := a) (b := b) (i := 0) hk
      rwa [Nat.zero_add] at this
    generalize zdq (.mk op n x ks ps) 0 ks a b = R at *
    refine qd [] rfl (by simp) ?_
    refine zgk (e := 26) (sz := 5) 7 3 (by decide) rfl ?_
    refine zaj (fun y : Nat => [(8, .imm (.int .i64 y)), (7, .own 3 (zc2 (R.take y)).length), (1, .imm (.str a)), (2, .imm (.str b)), (3, .ref 1 0), (6, .ref 2 0)])
      (fun y => [(3, some (.row 26 5 (zc2 (R.take y)))), (1, some (.immb 26 5 (dTmc (.mk op n x ks ps)))), (2, some (.cells 26 5 [.imm (.int .i64 0), .imm (.int .i64 0), .imm (.str []), .nils, .nils]))]) [4, 5, 6, 7, 8]
      (fun y => ks.length - y) (fun y => y ≤ ks.length) 0 (Nat.zero_le _) ⟨rfl, by rw [List.take_zero]; rfl, rfl, rfl, rfl, rfl, trivial⟩ ⟨by rw [List.take_zero]; rfl, rfl, rfl, trivial⟩ rfl fun i hi ih => ?_
    refine qd [] rfl (by simp) ?_
    refine zaa rfl (fun h => ?_) (fun h => ?_)
    · simp at h
      obtain ⟨k, hk⟩ := zal h
      have hkn := zco hn3 hk
      have hkc : zcv k ≤ 60 := by have := zet hk; simp only [zcv] at hc; omega
      refine qd [] rfl (by simp) ?_
      refine qi_ rfl (c := dTmc k) (fun _ => ⟨by simp, by simpa using zbv hk, by simp⟩) (by simp) ?_
      refine qg [] rfl (by simp) ?_
      refine zac rfl (fun _ => zmw op n x ks ps i (by omega) (hk2 i h)) (by simp) ?_
      rw [zgm hn2]
      refine qg [] rfl (by simp) ?_
      refine zac rfl (fun _ => zo0 (zad (.mk op n x ks ps) i) a) (by simp) ?_
      refine qg [] rfl (by simp) ?_
      have hg := hget i k hk
      obtain ⟨kr, hkr⟩ : ∃ kr, kr = if zbq (zad (.mk op n x ks ps) (i : Int)) a = true then k else ze7 k a b := ⟨_, rfl⟩
      rw [← hkr] at hg
      have et : zc2 (R.take (i + 1)) = zc2 (R.take i) ++ [dTmc kr] := by rw [zbu hg, zlf]; simp [zc2]
      have hrn := ztf k a b hkn hkc
      by_cases hb : zbq (zad (.mk op n x ks ps) (i : Int)) a = true
      case' pos =>
        rw [if_pos hb] at hkr
        subst hkr
        refine zaa rfl (fun h => by simp [hb] at h) (fun h => ?_)
        obtain ⟨ko, kn, kx, kks, kps⟩ := kr
        refine qd [] rfl (by simp) ?_
      case' neg =>
        rw [if_neg hb] at hkr
        rw [← hkr] at hrn
        refine zaa rfl (fun h => ?_) (fun h => absurd (by simpa using h) hb)
        obtain ⟨ko, kn, kx, kks, kps⟩ := kr
        refine qd [] rfl (by simp) ?_
        refine zac rfl (fun _ => hrn) (by simp) ?_
        refine qg [] rfl (by simp) ?_
      all_goals
        refine zbz zaz rfl ⟨by simp, by simp [maxLen]; omega, by simp; omega, trivial⟩ ?_
        refine qg [] rfl (by simp) ?_
        refine zb5 3 5 rfl ?_
        exact zae (ih (i + 1) (by omega) (by omega)) ⟨zcl (w64 (by omega) (by omega)), by rw [et]; rfl, rfl, rfl, rfl, rfl, trivial⟩ ⟨by rw [et]; rfl, rfl, rfl, trivial⟩ rfl
    · simp at h
      have hi2 : i = ks.length := by omega
      refine zav rfl ?_
      refine zc9 3 rfl ?_
      refine qd [] rfl (by simp) ?_
      rw [List.take_of_length_le (by omega)]
      exact zab ⟨_, rfl, tV rfl, trivial⟩
termination_by t => SizeOf.sizeOf t
decreasing_by
  all_goals
    have := List.sizeOf_lt_of_mem (List.mem_of_getElem? hk)
    simp_wf
    omega
end Go.Hk

/- Plain laws: the free names of a term in which a free name became another one, and of a term with another one in place of a name. -/
namespace Go.Hk
open Go.Proofs
mutual
theorem zyh : ∀ (t : Tm) (y : Str), zag t = true → inT t y → y ∈ zbc t
  | .mk op n x ks ps, y, h, hy => by
    simp only [zag, Bool.and_eq_true] at h
    simp only [inT] at hy
    simp only [zbc, List.mem_append]
    by_cases e : op = 4
    · rw [if_pos e] at hy
      left; rw [if_pos e, hy]; simp
    · rw [if_neg e] at hy
      right; exact zt0 (.mk op n x ks ps) 0 ks y h.2 hy
theorem zt0 (T : Tm) : ∀ (i : Nat) (l : List Tm) (y : Str), zat l = true → yel T i l y → y ∈ zcg T i l
  | _, [], _, _, h => h.elim
  | i, k :: r, y, h, hy => by
    simp only [zat, Bool.and_eq_true] at h
    simp only [zcg, List.mem_append]
    rcases hy with ⟨hy, _⟩ | hy
    · exact .inl (.inr (zyh k y h.1 hy))
    · exact .inr (zt0 T (i + 1) r y h.2 hy)
end
mutual
theorem zxm (a b : Str) : ∀ (t : Tm) (s : Str), s ∈ zbc (ze7 t a b) → s ∈ zbc t ∨ s = b
  | .mk op n x ks ps, s, h => by
    rw [ze7] at h
    simp only [zbc, List.mem_append] at h ⊢
    rcases h with h | h
    · by_cases e : op = 4
      · rw [if_pos e] at h ⊢
        unfold zwo at h
        split at h
        · exact .inr (List.mem_singleton.1 h)
        · exact .inl (.inl h)
      · rw [if_neg e] at h; cases h
    · rcases ztd a b op n (zwo op x a b) [] ps _ 0 ks s h with h | h
      · by_cases hx : zwo op x a b = x
        · rw [hx] at h; exact .inl (.inr ((zhs (T := .mk op n x [] ps) (U := .mk op n x ks ps) (fun _ => rfl) 0 ks s).1 h))
        · have hop : op = 4 := by
            unfold zwo at hx
            split at hx
            · rename_i h2; simp only [Bool.and_eq_true, beq_iff_eq] at h2; exact h2.1
            · exact absurd rfl hx
          refine .inl (.inr ((zhs (fun i => ?_) 0 ks s).1 h))
          simp [zad, hop, zbo, zb1]
      · exact .inr h
theorem ztd (a b : Str) (op n : Int) (x : Str) (k0 : List Tm) (ps : List Ty) (k1 : List Tm) : ∀ (i : Nat) (l : List Tm) (s : Str), s ∈ zcg (.mk op n x k1 ps) i (zdq (.mk op n x k0 ps) i l a b) → s ∈ zcg (.mk op n x k0 ps) i l ∨ s = b
  | _, [], _, h => by cases h
  | i, k :: r, s, h => by
    simp only [zdq, zcg, List.mem_append] at h ⊢
    rcases h with (h | h) | h
    · exact .inl (.inl (.inl h))
    · split at h
      · exact .inl (.inl (.inr h))
      · rcases zxm a b k s h with h | h
        · exact .inl (.inl (.inr h))
        · exact .inr h
    · rcases ztd a b op n x k0 ps k1 (i + 1) r s h with h | h
      · exact .inl (.inr h)
      · exact .inr h
theorem zhs {T U : Tm} (hb : ∀ i : Int, zad T i = zad U i) : ∀ (i : Nat) (l : List Tm) (s : Str), s ∈ zcg T i l ↔ s ∈ zcg U i l
  | _, [], _ => Iff.rfl
  | i, k :: r, s => by simp only [zcg, List.mem_append, hb, zhs hb (i + 1) r s]
end
theorem zk2 {T : Tm} : ∀ (i : Nat) (l : List Tm) (k : Nat) (c : Tm), l[k]? = some c → ∀ s ∈ zbc c, s ∈ zcg T i l
  | _, [], _, _, h, _, _ => by simp at h
  | i, x :: r, 0, c, h, s, hs => by
    simp at h; subst h
    simp only [zcg, List.mem_append]; exact .inl (.inr hs)
  | i, x :: r, k + 1, c, h, s, hs => by
    simp only [zcg, List.mem_append]
    exact .inr (zk2 (i + 1) r k c (by simpa using h) s hs)
theorem yek {T : Tm} (hb : ∀ i : Int, zcx T i = zad T i) (y : Str) (ks : List Tm) (i : Nat) : yel T i ks y ↔ ∃ k c, ks[k]? = some c ∧ inT c y ∧ y ∉ zad T ((i + k : Nat) : Int) := by
  rw [ycd]
  constructor
  · rintro ⟨k, c, h1, h2, h3⟩
    exact ⟨k, c, h1, h2, by rw [hb] at h3; exact zt5.1 h3⟩
  · rintro ⟨k, c, h1, h2, h3⟩
    exact ⟨k, c, h1, h2, by rw [hb]; exact zt5.2 h3⟩
theorem zra {op n : Int} {x : Str} {ks : List Tm} {ps : List Ty} (h : zag (.mk op n x ks ps) = true) (e : op ≠ 4) (y : Str) : inT (.mk op n x ks ps) y ↔ ∃ (k : Nat) (c : Tm), ks[k]? = some c ∧ inT c y ∧ y ∉ zad (.mk op n x ks ps) (k : Int) := by
  simp only [zag, Bool.and_eq_true] at h
  rw [inT, if_neg e, yek (zgm h.1.2) y ks 0]
  simp only [Nat.zero_add]
theorem ybp (a b : Str) (hb : zcp b = true) : ∀ (N : Nat) (t : Tm), zcv t ≤ N → zag t = true → b ∉ zbc t → ∀ y, inT (ze7 t a b) y ↔ (inT t y ∧ y ≠ a) ∨ (y = b ∧ inT t a)
  | 0, t, hc, _, _, _ => by have := zr3 t; omega
  | N + 1, .mk op n x ks ps, hc, hn, hs, y => by
    have hn' := hn
    have hn2 := zl8 a b hb (.mk op n x ks ps) hn
    simp only [zag, Bool.and_eq_true] at hn
    rw [ze7] at hn2 ⊢
    by_cases e : op = 4
    · simp only [inT, if_pos e]
      unfold zwo
      by_cases hx : x = a
      · rw [if_pos (by simp [e, hx])]
        constructor
        · intro h; exact .inr ⟨h, hx.symm⟩
        · rintro (⟨h1, h2⟩ | ⟨h1, _⟩)
          · exact absurd (h1.trans hx) h2
          · exact h1
      · rw [if_neg (by simp [hx])]
        constructor
        · intro h; exact .inl ⟨h, fun h2 => hx (h ▸ h2)⟩
        · rintro (⟨h1, _⟩ | ⟨_, h2⟩)
          · exact h1
          · exact absurd h2.symm hx
    · have hX : zwo op x a b = x := by simp [zwo, e]
      rw [hX] at hn2 ⊢
      rw [zra hn2 e, zra hn' e, zra hn' e]
      have hbd : ∀ (l : List Tm) (i : Int), zad (.mk op n x l ps) i = zad (.mk op n x ks ps) i := fun _ _ => rfl
      simp only [hbd]
      have hst : ∀ (k : Nat) (c : Tm), ks[k]? = some c → b ∉ zbc c ∧ b ∉ zad (.mk op n x ks ps) (k : Int) := fun k c hk => by
        constructor
        · intro h; exact hs (by simp only [zbc, List.mem_append]; exact .inr (zk2 0 ks k c hk b h))
        · intro h; exact hs (by simp only [zbc, List.mem_append]; exact .inr (zep 0 ks k (List.getElem?_eq_some_iff.1 hk).1 b (by simpa using h)))
      have hlt : ∀ (k : Nat) (c : Tm), ks[k]? = some c → zcv c ≤ N := fun k c hk => by have := zet hk; simp only [zcv] at hc; omega
      constructor
      · rintro ⟨k, c', h1, h2, h3⟩
        have hk : k < ks.length := by
          have := (List.getElem?_eq_some_iff.1 h1).1
          rwa [zdt] at this
        have hkc : ks[k]? = some ks[k] := by simp [hk]
        have h4 := zhc (T := .mk op n x [] ps) (a := a) (b := b) (i := 0) hkc
        rw [h1] at h4
        simp only [Option.some.injEq, Nat.zero_add, hbd] at h4
        obtain ⟨q1, q2⟩ := hst k _ hkc
        by_cases ha : zbq (zad (.mk op n x ks ps) (k : Int)) a = true
        · rw [if_pos ha] at h4
          subst h4
          exact .inl ⟨⟨k, _, hkc, h2, h3⟩, fun hy => h3 (by rw [hy]; exact zbg.1 ha)⟩
        · rw [if_neg ha] at h4
          subst h4
          rcases (ybp a b hb N _ (hlt k _ hkc) (zco hn.2 hkc) q1 y).1 h2 with ⟨g1, g2⟩ | ⟨g1, g2⟩
          · exact .inl ⟨⟨k, _, hkc, g1, h3⟩, g2⟩
          · exact .inr ⟨g1, k, _, hkc, g2, fun hm => ha (zbg.2 hm)⟩
      · rintro (⟨⟨k, c, h1, h2, h3⟩, h4⟩ | ⟨h0, k, c, h1, h2, h3⟩)
        · obtain ⟨q1, q2⟩ := hst k c h1
          have h5 := zhc (T := .mk op n x [] ps) (a := a) (b := b) (i := 0) h1
          refine ⟨k, _, h5, ?_, h3⟩
          split
          · exact h2
          · exact (ybp a b hb N c (hlt k c h1) (zco hn.2 h1) q1 y).2 (.inl ⟨h2, h4⟩)
        · obtain ⟨q1, q2⟩ := hst k c h1
          have h5 := zhc (T := .mk op n x [] ps) (a := a) (b := b) (i := 0) h1
          refine ⟨k, _, h5, ?_, by rw [h0]; exact q2⟩
          rw [if_neg (by simp only [Nat.zero_add, hbd]; exact fun hm => h3 (zbg.1 hm))]
          exact (ybp a b hb N c (hlt k c h1) (zco hn.2 h1) q1 y).2 (.inr ⟨h0, h2⟩)
theorem zsd {T : Tm} (h : zag T = true) (i : Int) : (zad T i).Nodup := by
  obtain ⟨op, n, x, ks, ps⟩ := T
  simp only [zag, Bool.and_eq_true] at h
  simp only [zad]
  split
  · simp
  · split
    · cases hp : ps[(i - 1).toNat]? with
      | none => simp
      | some p =>
        have := List.all_eq_true.1 h.1.2 p (List.mem_of_getElem? hp)
        simp only [zct, Bool.and_eq_true] at this
        have h3 := this.2
        rw [← zhe _ this.1.2, zh9] at h3
        exact h3
    · simp
theorem zvh {l : List Str} {j : Nat} {x f y : Str} (hn : l.Nodup) (hx : l[j]? = some x) : y ∈ l.set j f ↔ y = f ∨ (y ∈ l ∧ y ≠ x) := by
  induction l generalizing j with
  | nil => simp at hx
  | cons a r ih =>
    obtain ⟨h1, h2⟩ := List.nodup_cons.1 hn
    cases j with
    | zero =>
      simp at hx; subst hx
      simp only [List.set_cons_zero, List.mem_cons]
      constructor
      · rintro (h | h)
        · exact .inl h
        · exact .inr ⟨.inr h, fun e => h1 (e ▸ h)⟩
      · rintro (h | ⟨h | h, h3⟩)
        · exact .inl h
        · exact absurd h h3
        · exact .inr h
    | succ j =>
      have hx : r[j]? = some x := by simpa using hx
      simp only [List.set_cons_succ, List.mem_cons, ih h2 hx]
      constructor
      · rintro (h | h | ⟨h, h3⟩)
        · exact .inr ⟨.inl h, fun e => h1 (by rw [← h, e]; exact List.mem_of_getElem? hx)⟩
        · exact .inl h
        · exact .inr ⟨.inr h, h3⟩
      · rintro (h | ⟨h | h, h3⟩)
        · exact .inr (.inl h)
        · exact .inl h
        · exact .inr (.inr ⟨h, h3⟩)
theorem ybq {fr : List Str} {i : Nat} {T k : Tm} {m : List Str} (hn : zag T = true) (hi : i < zc6 T) (hsub : ∀ s ∈ zad T i, s ∈ m) (hst : ∀ s ∈ zbc k, s ∈ m) (hk : tmK T i = some k) (hml : m.length + (zad T i).length ≤ 699) : ∀ j, j ≤ (zad T i).length →
    ∃ k', tmK (zdy fr i T m j).2.1 i = some k' ∧ (∀ s ∈ zbc k', s ∈ (zdy fr i T m j).2.2) ∧ (∀ y, (inT k' y ∧ y ∉ zad (zdy fr i T m j).2.1 i) ↔ (inT k y ∧ y ∉ zad T i)) ∧
      (∀ p, p < j → ∃ x y, (zad T i)[p]? = some x ∧ (zad (zdy fr i T m j).2.1 i)[p]? = some y ∧ ((zbq fr x = false ∧ y = x) ∨ (zbq fr x = true ∧ y ∉ m)))
  | 0, _ => ⟨k, hk, hst, fun _ => Iff.rfl, fun p hp => by omega⟩
  | j + 1, hj => by
    obtain ⟨k', h1, h2, h3, h4⟩ := ybq (fr := fr) hn hi hsub hst hk hml j (by omega)
    obtain ⟨e1, e2, e3, e4, e5, e6, e7, e8, e9, _⟩ := ze9 (fr := fr) hn hi hsub hml j (by omega)
    obtain ⟨x, hx⟩ := zal (show j < (zad T i).length by omega)
    rw [zga hx]
    have hx2 := e9 j (Nat.le_refl _)
    generalize zdy fr i T m j = r at *
    obtain ⟨r1, rT, rm⟩ := r
    simp only at *
    subst e1
    rw [hx] at hx2
    simp only [zfp]
    by_cases hf : zbq fr x = true
    · rw [if_pos hf]
      obtain ⟨q1, q2⟩ := zfc rm (by omega)
      generalize hfr : za3 rm = f at *
      have hk'n := zl7 e2 h1
      have hfk : f ∉ zbc k' := fun h => q2 (h2 f h)
      have hlt : r1 < (zad (zcm rT i (ze7 ((tmK rT i).getD zTm) x f)) i).length := by rw [zcd, e8]; omega
      have hB : zad (zdh (zcm rT i (ze7 ((tmK rT i).getD zTm) x f)) i r1 f) i = (zad rT i).set r1 f := by rw [zjr _ hlt, zcd]
      have hnd := zsd e2 i
      have hfb : f ∉ zad rT i := fun h => q2 (e3 f h)
      have hin := ybp x f q1 _ k' (Nat.le_refl _) hk'n hfk
      refine ⟨ze7 k' x f, by rw [zg7, zfn h1, if_pos rfl, h1]; rfl, fun s hs => ?_, fun y => ?_, fun p hp => ?_⟩
      · rcases zxm x f k' s hs with h | h
        · exact List.mem_append_left _ (h2 s h)
        · exact List.mem_append_right _ (by rw [h]; simp)
      · rw [hB, ← h3 y, hin y, zvh hnd hx2]
        constructor
        · rintro ⟨⟨g1, g2⟩ | ⟨g1, g2⟩, g3⟩
          · refine ⟨g1, fun hm => g3 (.inr ⟨hm, g2⟩)⟩
          · exact absurd (.inl g1) g3
        · rintro ⟨g1, g2⟩
          have hyx : y ≠ x := fun e => g2 (e ▸ List.mem_of_getElem? hx2)
          refine ⟨.inl ⟨g1, hyx⟩, fun hm => ?_⟩
          rcases hm with hm | ⟨hm, _⟩
          · exact hfk (hm ▸ zyh k' y hk'n g1)
          · exact g2 hm
      · rw [hB]
        by_cases hp2 : p = r1
        · subst hp2
          refine ⟨x, f, hx, ?_, .inr ⟨hf, fun hm => q2 (e5 f hm)⟩⟩
          rw [List.getElem?_set_self (by rw [e8]; omega)]
        · obtain ⟨x', y', g1, g2, g3⟩ := h4 p (by omega)
          exact ⟨x', y', g1, by rw [List.getElem?_set_ne (by omega)]; exact g2, g3⟩
    · rw [if_neg hf]
      refine ⟨k', h1, h2, h3, fun p hp => ?_⟩
      by_cases hp2 : p = r1
      · subst hp2
        exact ⟨x, x, hx, hx2, .inl ⟨by simpa using hf, rfl⟩⟩
      · exact h4 p (by omega)
theorem ylj {fr : List Str} {i : Nat} {T k : Tm} {m : List Str} (hn : zag T = true) (hi : i < zc6 T) (hsub : ∀ s ∈ zad T i, s ∈ m) (hst : ∀ s ∈ zbc k, s ∈ m) (hk : tmK T i = some k) (hml : m.length + (zad T i).length ≤ 699) :
    ∃ k', tmK (ziv fr i T m).2.1 i = some k' ∧ (∀ s ∈ zbc k', s ∈ (ziv fr i T m).2.2) ∧ (∀ y, (inT k' y ∧ y ∉ zad (ziv fr i T m).2.1 i) ↔ (inT k y ∧ y ∉ zad T i)) ∧
      (∀ y ∈ zad (ziv fr i T m).2.1 i, (y ∈ zad T i ∧ zbq fr y = false) ∨ y ∉ m) ∧ (∀ y ∈ zad T i, zbq fr y = false → y ∈ zad (ziv fr i T m).2.1 i) := by
  obtain ⟨k', h1, h2, h3, h4⟩ := ybq (fr := fr) hn hi hsub hst hk hml _ (Nat.le_refl _)
  obtain ⟨_, _, _, _, _, _, _, e8, _⟩ := ze9 (fr := fr) hn hi hsub hml _ (Nat.le_refl _)
  rw [zgt] at h1 h2 h3 h4 e8
  refine ⟨k', h1, h2, h3, fun y hy => ?_, fun y hy hf => ?_⟩
  · obtain ⟨p, hp⟩ := List.getElem?_of_mem hy
    obtain ⟨x', y', g1, g2, g3⟩ := h4 p (by rw [← e8]; exact (List.getElem?_eq_some_iff.1 hp).1)
    rw [hp] at g2; cases g2
    rcases g3 with ⟨g3, rfl⟩ | ⟨_, g3⟩
    · exact .inl ⟨List.mem_of_getElem? g1, g3⟩
    · exact .inr g3
  · obtain ⟨p, hp⟩ := List.getElem?_of_mem hy
    obtain ⟨x', y', g1, g2, g3⟩ := h4 p (List.getElem?_eq_some_iff.1 hp).1
    rw [hp] at g1; cases g1
    rcases g3 with ⟨_, rfl⟩ | ⟨g3, _⟩
    · exact List.mem_of_getElem? g2
    · rw [hf] at g3; cases g3
end Go.Hk

/- Contracts of hearthref01: a bound name is another one (rebound); all names that stand in a term (stand). -/
namespace Go.Hk
open Go.Proofs
set_option maxRecDepth 100000 in
set_option maxHeartbeats 1000000 in
theorem yde (T : Tm) (i j : Nat) (a b : Str) (k : Tm) (hn : zag T = true) (hk : tmK T i = some k) (hc : zcv k ≤ 60) (hj : (zad T i)[j]? = some a) :
    zau Tryz.prog 45 [.agg (dTmc T), .int .i64 i, .str a, .str b] (.agg (dTmc (zdh (zcm T i (ze7 k a b)) i j b))) := by
  obtain ⟨op, n, x, ks, ps⟩ := T
  have hn' := hn
  simp only [zag, Bool.and_eq_true] at hn'
  obtain ⟨⟨hn1, hn2⟩, hn3⟩ := hn'
  simp only [tmK] at hk
  have hlt := (List.getElem?_eq_some_iff.1 hk).1
  have hK6 := zj4 hn1
  have hren := ztf k a b (zco hn3 hk) hc
  refine zaf zaz Tryz.func45 (by decide +kernel) rfl [1, 2, 3, 4, 5, 6, 7, 8, 9] rfl rfl ?_
  refine qg [] rfl (by simp) ?_
  refine zbz zaz rfl ⟨fun c hc => by rw [ze3] at hc; obtain ⟨q, _, rfl⟩ := List.mem_map.1 hc; simp, by simp only [maxLen, List.length_nil, dTms_length] at *; omega, by simp only [List.length_nil, dTms_length] at *; omega, by simp⟩ ?_
  refine qg [] rfl (by simp) ?_
  refine ze8 zaz rfl (fun _ => ⟨by simp, by simp; omega⟩) (by simp) ?_
  refine qg [] rfl (by simp) ?_
  obtain ⟨ko, kn, kx, kks, kps⟩ := k
  obtain ⟨kx2, kks2, hsh⟩ : ∃ kx2 kks2, ze7 (.mk ko kn kx kks kps) a b = .mk ko kn kx2 kks2 kps := ⟨_, _, by rw [ze7]⟩
  rw [hsh] at hren
  have eK : zcm (.mk op n x ks ps) i (ze7 (.mk ko kn kx kks kps) a b) = .mk op n x (ks.set i (.mk ko kn kx2 kks2 kps)) ps := by rw [hsh]; rfl
  rw [eK]
  refine zrc zaz (e := dTmc (.mk ko kn kx kks kps)) rfl (fun _ => by simpa using zbv hk) rfl (by simp) ?_
  refine qg [] rfl (by simp) ?_
  refine zac rfl (fun _ => hren) (by simp) ?_
  refine qg [] rfl (by simp) ?_
  refine ze8 zaz rfl (fun _ => ⟨by simp, by simp; omega⟩) (by simp) ?_
  refine qg [] rfl (by simp) ?_
  refine zvs zaz (e := dTmc (.mk ko kn kx kks kps)) (e' := dTmc (.mk ko kn kx2 kks2 kps)) rfl (by simpa using zbv hk) (by show 0 + 5 ≤ 5; decide) (by simp [List.drop_eq_nil_of_le]) (by simp) ?_
  refine qg [] rfl (by simp) ?_
  by_cases e : op = 15
  · have ho : zbo op i = false := by simp [zbo, e]
    obtain ⟨p, hp, hpj, hi0⟩ : ∃ p, ps[((i : Int) - 1).toNat]? = some p ∧ (za4 p)[j]? = some a ∧ 0 < i := by
      simp only [zad, ho, Bool.false_eq_true, if_false] at hj
      by_cases h1 : zb1 op i = true
      · rw [if_pos h1] at hj
        have hi0 : 0 < i := by simp [zb1] at h1; omega
        cases hg : ps[((i : Int) - 1).toNat]? with
        | none => simp only [hg] at hj; simp at hj
        | some p => simp only [hg] at hj; exact ⟨p, rfl, hj, hi0⟩
      · rw [if_neg h1] at hj; simp at hj
    have hpl : ps.length ≤ 5 := by simp [zba, inI, e] at hn1; omega
    have hpok := List.all_eq_true.1 hn2 p (List.mem_of_getElem? hp)
    have hpb : zb1 op i = true := by simp [zb1, e]; omega
    have hnd : (za4 p).Nodup := by
      have := zsd hn i
      simp only [zad, ho, Bool.false_eq_true, if_false, if_pos hpb, hp] at this
      exact this
    have hwp : zo2 p := zus p (by have := zqp hpok; omega)
    have hrn := yl0 p a b hwp
    rw [yge a b p j hnd hpj] at hrn
    have eB : zdh (.mk op n x (ks.set i (.mk ko kn kx2 kks2 kps)) ps) i j b = .mk op n x (ks.set i (.mk ko kn kx2 kks2 kps)) (ps.set ((i : Int) - 1).toNat (zd2 p j b)) := by simp only [zdh, ho, Bool.false_eq_true, if_false, if_pos hpb, hp]
    rw [eB]
    have hw : IntKind.i64.wrap ((i : Int) - 1) = (i : Int) - 1 := w64 (by omega) (by omega)
    obtain ⟨pf, pn, px, pps⟩ := p
    obtain ⟨px2, pps2, hps2⟩ : ∃ px2 pps2, zd2 (.mk pf pn px pps) j b = .mk pf pn px2 pps2 := by
      cases j <;> simp only [zd2] <;> split <;> exact ⟨_, _, rfl⟩
    rw [hps2] at hrn ⊢
    refine zaa rfl (fun h => ?_) (fun h => by simp [e] at h)
    refine qd [] rfl (by simp) ?_
    refine zbz zaz rfl ⟨fun c hc => by rw [zg3] at hc; obtain ⟨q, _, rfl⟩ := List.mem_map.1 hc; simp, by simp only [maxLen, List.length_nil, dTys_length] at *; omega, by simp only [List.length_nil, dTys_length] at *; omega, by simp⟩ ?_
    refine qg [] rfl (by simp) ?_
    refine ze8 zaz rfl (fun _ => ⟨by simp only [hw]; omega, by simp only [hw, List.nil_append, dTys_length]; have := (List.getElem?_eq_some_iff.1 hp).1; omega⟩) (by simp) ?_
    refine qg [] rfl (by simp) ?_
    refine zrc zaz (e := zb2 (.mk pf pn px pps)) rfl (fun _ => by simp only [hw]; simpa using zb0 hp) rfl (by simp) ?_
    refine qg [] rfl (by simp) ?_
    refine zac rfl (fun _ => hrn) (by simp) ?_
    refine qg [] rfl (by simp) ?_
    refine ze8 zaz rfl (fun _ => ⟨by simp only [hw]; omega, by simp only [hw, List.nil_append, dTys_length]; have := (List.getElem?_eq_some_iff.1 hp).1; omega⟩) (by simp) ?_
    refine qg [] rfl (by simp) ?_
    refine zvs zaz (e := zb2 (.mk pf pn px pps)) (e' := zb2 (.mk pf pn px2 pps2)) rfl (by simp only [hw]; simpa using zb0 hp) (by show 0 + 4 ≤ 4; decide) (by simp [List.drop_eq_nil_of_le]) (by simp) ?_
    refine qg [] rfl (by simp) ?_
    refine zc9 3 rfl ?_
    refine zc9 5 rfl ?_
    refine zab ⟨_, rfl, tV ?_, trivial⟩
    simp [dTmc, zpq, ycn, hw]
  · refine zaa rfl (fun h => absurd (by simpa using h) e) (fun h => ?_)
    have ho : zbo op i = true := by
      simp only [zad] at hj
      by_cases h1 : zbo op i = true
      · exact h1
      · rw [if_neg h1, if_neg (by simp [zb1, e])] at hj; cases hj
    have eB : zdh (.mk op n x (ks.set i (.mk ko kn kx2 kks2 kps)) ps) i j b = .mk op n b (ks.set i (.mk ko kn kx2 kks2 kps)) ps := by simp only [zdh, if_pos ho]
    rw [eB]
    refine qd [] rfl (by simp) ?_
    refine zc9 3 rfl ?_
    refine zab ⟨_, rfl, tV ?_, trivial⟩
    simp [dTmc, zpq]
def zlt (T : Tm) (x : List Str) : Nat → List Tm → List Str
  | _, [] => x
  | i, k :: r => zlt T (x ++ zad T i ++ zbc k) (i + 1) r
theorem zp6 (T : Tm) : ∀ (l : List Tm) (x : List Str) (i : Nat), zlt T x i l = x ++ zcg T i l
  | [], x, i => by simp [zlt, zcg]
  | k :: r, x, i => by simp only [zlt, zcg]; rw [zp6 T r]; simp only [List.append_assoc]
set_option maxRecDepth 100000 in
theorem ybd : ∀ (t : Tm), zag t = true → zcv t ≤ 60 → zau Tryz.prog 42 [.agg (dTmc t)] (.sl (zbb (zbc t)))
  | .mk op n x ks ps, hn, hc => by
    have hn' := hn
    simp only [zag, Bool.and_eq_true] at hn'
    obtain ⟨⟨hn1, hn2⟩, hn3⟩ := hn'
    obtain ⟨hk1, hk2, hk3⟩ := (zdf _ hn (by omega)).1
    have hlen : (zbc (.mk op n x ks ps)).length ≤ 540 := by
      have := zqt (.mk op n x ks ps) hn
      rw [zjy]; omega
    have hb8 := fun i => zy7 (op := op) (n := n) (x := x) (ks := ks) hn2 i
    have hcc := hc
    simp only [zcv] at hcc
    have hSL : zbc (.mk op n x ks ps) = zlt (.mk op n x ks ps) (if op = 4 then [x] else []) 0 ks := by rw [zp6]; rfl
    generalize hR : zbc (.mk op n x ks ps) = R at *
    refine zaf zaz Tryz.func42 (by decide +kernel) rfl [1, 2, 3, 4, 5, 6] rfl rfl ?_
    refine qg [] rfl (by simp) ?_
    by_cases e : op = 4
    · have hks : ks = [] := List.eq_nil_of_length_eq_zero (by
        simp [zba, e] at hn1
        simp [hn1.1.1])
      subst hks
      rw [if_pos e] at hSL
      simp only [zlt] at hSL
      refine zaa rfl (fun h => ?_) (fun h => by simp [e] at h)
      refine qd [] rfl (by simp) ?_
      refine zaj (fun _ : Unit => [(4, .imm (.int .i64 0)), (3, .imm (.sl (zbb [x]))), (1, .ref 1 0)]) (fun _ => [(1, some (.immb 26 5 (dTmc (.mk op n x [] ps))))]) [2, 3, 4, 5, 6] (fun _ => 0) (fun _ => True) () trivial ⟨rfl, rfl, rfl, trivial⟩ ⟨rfl, trivial⟩ rfl fun _ _ _ => ?_
      refine qd [] rfl (by simp) ?_
      refine zaa rfl (fun h => by simp [zc2] at h) (fun h => ?_)
      refine zav rfl ?_
      refine qd [] rfl (by simp) ?_
      rw [hSL]
      exact zab ⟨_, rfl, tV rfl, trivial⟩
    · rw [if_neg e] at hSL
      refine zaa rfl (fun h => absurd (by simpa using h) e) (fun h => ?_)
      clear h
      refine qd [] rfl (by simp) ?_
      refine zgk (e := 9) (sz := 1) 3 2 (by decide) rfl ?_
      refine zaj (fun y : Nat × List Str => [(4, .imm (.int .i64 y.1)), (3, .own 2 (zbb y.2).length), (1, .ref 1 0)]) (fun y => [(2, some (.row 9 1 (zbb y.2))), (1, some (.immb 26 5 (dTmc (.mk op n x ks ps))))]) [3, 4, 5, 6]
        (fun y => ks.length - y.1) (fun y => y.1 ≤ ks.length ∧ R = zlt (.mk op n x ks ps) y.2 y.1 (ks.drop y.1)) (0, []) ⟨Nat.zero_le _, hSL⟩ ⟨rfl, rfl, rfl, trivial⟩ ⟨rfl, rfl, trivial⟩ rfl fun y hi ih => ?_
      obtain ⟨i, l⟩ := y
      obtain ⟨hi1, hi2⟩ := hi
      simp only at hi1 hi2
      refine qd [] rfl (by simp) ?_
      refine zaa rfl (fun h => ?_) (fun h => ?_)
      · simp at h
        obtain ⟨k, hk⟩ := zal h
        have hkn := zco hn3 hk
        have hkc : zcv k ≤ 60 := by have := zet hk; omega
        rw [zap hk] at hi2
        simp only [zlt] at hi2
        have hl9 := congrArg List.length hi2
        rw [zp6] at hl9
        simp only [List.length_append] at hl9
        have hb := hb8 i
        refine qd [] rfl (by simp) ?_
        refine zac rfl (fun _ => zmw op n x ks ps i (by omega) (hk2 i h)) (by simp) ?_
        rw [zgm hn2]
        refine qg [] rfl (by simp) ?_
        refine zbz zaz rfl ⟨zgy _, by simp [maxLen]; omega, by simp; omega, trivial⟩ ?_
        refine qg [] rfl (by simp) ?_
        refine qi_ rfl (c := dTmc k) (fun _ => ⟨by simp, by simpa using zbv hk, by simp⟩) (by simp) ?_
        refine qg [] rfl (by simp) ?_
        refine zac rfl (fun _ => ybd k hkn hkc) (by simp) ?_
        refine qg [] rfl (by simp) ?_
        refine zbz zaz rfl ⟨zgy _, by simp [maxLen]; omega, by simp; omega, trivial⟩ ?_
        refine qg [] rfl (by simp; rfl) ?_
        refine zb5 2 4 rfl ?_
        have et : zbb (l ++ zad (.mk op n x ks ps) i ++ zbc k) = zbb l ++ zbb (zad (.mk op n x ks ps) i) ++ zbb (zbc k) := by simp [zbb]
        exact zae (ih (i + 1, l ++ zad (.mk op n x ks ps) i ++ zbc k) (by simp only; omega) ⟨by simp only; omega, hi2⟩) ⟨zcl (w64 (by omega) (by omega)), by simp only; rw [et]; rfl, rfl, trivial⟩ ⟨by simp only; rw [et]; rfl, rfl, trivial⟩ rfl
      · simp at h
        have hi : i = ks.length := by omega
        subst hi
        rw [List.drop_eq_nil_of_le (Nat.le_refl _)] at hi2
        simp only [zlt] at hi2
        refine zav rfl ?_
        refine zc9 2 rfl ?_
        refine qd [] rfl (by simp) ?_
        rw [hi2]
        exact zab ⟨_, rfl, tV rfl, trivial⟩
termination_by t => SizeOf.sizeOf t
decreasing_by
  all_goals
    have := List.sizeOf_lt_of_mem (List.mem_of_getElem? hk)
    simp_wf
    omega
end Go.Hk

/- Plain laws of what replacer.in computes: all rounds first, then the parts. -/
namespace Go.Hk
open Go.Proofs
def zis (fr : List Str) : Nat → Nat → Tm → List Str → Tm × List Str
  | 0, _, T, m => (T, m)
  | k + 1, i, T, m => zis fr k (i + 1) (ziv fr i T m).2.1 (ziv fr i T m).2.2
theorem zxd (T : Tm) {i l : Nat} (h : i ≠ l) (a b : Tm) : zcm (zcm T i a) l b = zcm (zcm T l b) i a := by
  obtain ⟨op, n, x, ks, ps⟩ := T
  simp only [zcm, List.set_comm _ _ h]
theorem ymx (T : Tm) (i : Int) (j : Nat) (f : Str) (l : Nat) (c : Tm) : zdh (zcm T l c) i j f = zcm (zdh T i j f) l c := by
  obtain ⟨op, n, x, ks, ps⟩ := T
  simp only [zcm, zdh]
  split
  · rfl
  · split
    · split <;> rfl
    · rfl
theorem zky (T : Tm) {i l : Nat} (h : l ≠ i) (c : Tm) : tmK (zcm T i c) l = tmK T l := by
  obtain ⟨op, n, x, ks, ps⟩ := T
  simp only [zcm, tmK, List.getElem?_set_ne (fun e => h e.symm)]
theorem zm3 {fr : List Str} {i l : Nat} (h : l ≠ i) (c : Tm) : ∀ (xs : List Str) (j : Nat) (T : Tm) (m : List Str), xs.foldl (zfp fr l) (j, zcm T i c, m) = ((xs.foldl (zfp fr l) (j, T, m)).1, zcm (xs.foldl (zfp fr l) (j, T, m)).2.1 i c, (xs.foldl (zfp fr l) (j, T, m)).2.2)
  | [], j, T, m => rfl
  | x :: r, j, T, m => by
    simp only [List.foldl_cons, zfp]
    split
    · rw [zky T h, zxd T (fun e => h e.symm), ymx]
      exact zm3 h c r _ _ _
    · exact zm3 h c r _ _ _
theorem yi0 {fr : List Str} {i l : Nat} (h : l ≠ i) (c : Tm) (T : Tm) (m : List Str) : ziv fr l (zcm T i c) m = ((ziv fr l T m).1, zcm (ziv fr l T m).2.1 i c, (ziv fr l T m).2.2) := by
  rw [ziv, zcd]; exact zm3 h c _ _ _ _
def yab : Tm → Tm
  | .mk op n x _ ps => .mk op n x [] ps
theorem ynj (T : Tm) (i : Nat) (c : Tm) : yab (zcm T i c) = yab T := by obtain ⟨op, n, x, ks, ps⟩ := T; rfl
theorem tm_ext {T U : Tm} (h1 : yab T = yab U) (h2 : ∀ l, tmK T l = tmK U l) : T = U := by
  obtain ⟨op, n, x, ks, ps⟩ := T
  obtain ⟨op', n', x', ks', ps'⟩ := U
  simp only [yab, Tm.mk.injEq, true_and] at h1
  obtain ⟨rfl, rfl, rfl, rfl⟩ := h1
  simp only [tmK] at h2
  rw [List.ext_getElem? h2]
theorem zj2 {fr : List Str} : ∀ (k i : Nat) (T : Tm) (m : List Str), zag T = true → i + k = zc6 T → (∀ l, l < zc6 T → i ≤ l → ∀ s ∈ zad T l, s ∈ m) → m.length + zgq T k i ≤ 699 →
    zag (zis fr k i T m).1 = true ∧ zc6 (zis fr k i T m).1 = zc6 T ∧ (∀ l, l < i → tmK (zis fr k i T m).1 l = tmK T l ∧ zad (zis fr k i T m).1 l = zad T l) ∧ (∀ s ∈ m, s ∈ (zis fr k i T m).2) ∧ zni T (zis fr k i T m).1 ∧ (zis fr k i T m).2.length ≤ m.length + zgq T k i
  | 0, i, T, m, hn, _, _, _ => ⟨hn, rfl, fun _ _ => ⟨rfl, rfl⟩, fun _ h => h, zhi T, by simp [zis]⟩
  | k + 1, i, T, m, hn, hlen, hsub, hml => by
    simp only [zgq] at hml ⊢
    obtain ⟨_, a2, a3, a4, a5, a6, a7, a8, _, a10, a11, a12⟩ := ze9 (fr := fr) hn (by omega) (hsub i (by omega) (Nat.le_refl _)) (by omega) _ (Nat.le_refl _)
    rw [zgt] at a2 a3 a4 a5 a6 a7 a8 a10 a11 a12
    have hc : zgq (ziv fr i T m).2.1 k (i + 1) = zgq T k (i + 1) := ze6 (fun l => by
      obtain ⟨_, _, _, _, _, _, _, _, _, _, _, _, hb⟩ := a11
      exact hb l) k (i + 1)
    simp only [zis]
    generalize ziv fr i T m = r at *
    obtain ⟨r1, rT, rm⟩ := r
    simp only at *
    obtain ⟨b1, b2, b3, b4, b5, b6⟩ := zj2 (fr := fr) k (i + 1) rT rm a2 (by omega) (fun l hl hl2 s hs => by rw [a4 l (by omega) (by omega)] at hs; exact a5 s (hsub l (by omega) (by omega) s hs)) (by rw [hc]; omega)
    refine ⟨b1, by omega, fun l hl => ?_, fun s hs => b4 s (a5 s hs), zla a11 b5, by rw [hc] at b6; omega⟩
    obtain ⟨c1, c2⟩ := b3 l (by omega)
    exact ⟨by rw [c1, a10 l (by omega)], by rw [c2, a4 l (by omega) (by omega)]⟩
theorem zvj {rec : Tm → Tm} {nm : Str} {fr : List Str} {i : Nat} (c : Tm) : ∀ (k l : Nat) (T : Tm) (m : List Str), i < l → lpR rec nm fr k l (zcm T i c) m = zcm (lpR rec nm fr k l T m) i c
  | 0, l, T, m, h => rfl
  | k + 1, l, T, m, h => by
    simp only [lpR, yi0 (show l ≠ i by omega), zcd, zky _ (show l ≠ i by omega)]
    split
    · exact zvj c k (l + 1) _ _ (by omega)
    · rw [zxd _ (show i ≠ l by omega)]
      exact zvj c k (l + 1) _ _ (by omega)
theorem yb9 {rec : Tm → Tm} {nm : Str} {fr : List Str} : ∀ (k i : Nat) (T : Tm) (m : List Str), zag T = true → i + k = zc6 T → (∀ l, l < zc6 T → i ≤ l → ∀ s ∈ zad T l, s ∈ m) → m.length + zgq T k i ≤ 699 →
    yab (lpR rec nm fr k i T m) = yab (zis fr k i T m).1 ∧ ∀ l, tmK (lpR rec nm fr k i T m) l = (tmK (zis fr k i T m).1 l).map fun c => if i ≤ l then (if zbq (zad T l) nm = true then c else rec c) else c
  | 0, i, T, m, hn, hlen, _, _ => ⟨rfl, fun l => by
    simp only [lpR, zis]
    cases h : tmK T l with
    | none => rfl
    | some c =>
      have := ybc h
      simp only [Option.map_some, if_neg (show ¬ i ≤ l by omega)]⟩
  | k + 1, i, T, m, hn, hlen, hsub, hml => by
    simp only [zgq] at hml
    obtain ⟨_, a2, a3, a4, a5, a6, a7, a8, _, a10, a11, a12⟩ := ze9 (fr := fr) hn (by omega) (hsub i (by omega) (Nat.le_refl _)) (by omega) _ (Nat.le_refl _)
    rw [zgt] at a2 a3 a4 a5 a6 a7 a8 a10 a11 a12
    have hc : zgq (ziv fr i T m).2.1 k (i + 1) = zgq T k (i + 1) := ze6 (fun l => by
      obtain ⟨_, _, _, _, _, _, _, _, _, _, _, _, hb⟩ := a11
      exact hb l) k (i + 1)
    simp only [lpR, zis]
    generalize ziv fr i T m = r at *
    obtain ⟨r1, rT, rm⟩ := r
    simp only at *
    have hsub2 : ∀ l, l < zc6 rT → i + 1 ≤ l → ∀ s ∈ zad rT l, s ∈ rm := fun l hl hl2 s hs => by rw [a4 l (by omega) (by omega)] at hs; exact a5 s (hsub l (by omega) (by omega) s hs)
    obtain ⟨_, b2, b3, _⟩ := zj2 (fr := fr) k (i + 1) rT rm a2 (by omega) hsub2 (by rw [hc]; omega)
    obtain ⟨d1, d2⟩ := yb9 (rec := rec) (nm := nm) (fr := fr) k (i + 1) rT rm a2 (by omega) hsub2 (by rw [hc]; omega)
    have key : ∀ l, ((tmK (zis fr k (i + 1) rT rm).1 l).map fun c => if i + 1 ≤ l then (if zbq (zad rT l) nm = true then c else rec c) else c) = (tmK (zis fr k (i + 1) rT rm).1 l).map fun c => if i + 1 ≤ l then (if zbq (zad T l) nm = true then c else rec c) else c := fun l => by
      cases h : tmK (zis fr k (i + 1) rT rm).1 l with
      | none => rfl
      | some c =>
        simp only [Option.map_some]
        by_cases hl : i + 1 ≤ l
        · rw [if_pos hl, if_pos hl, a4 l (by have := ybc h; omega) (by omega)]
        · rw [if_neg hl, if_neg hl]
    split
    · rename_i hh
      refine ⟨d1, fun l => ?_⟩
      rw [d2 l, key l]
      cases h : tmK (zis fr k (i + 1) rT rm).1 l with
      | none => rfl
      | some c =>
        simp only [Option.map_some]
        by_cases hl : i + 1 ≤ l
        · rw [if_pos hl, if_pos (show i ≤ l by omega)]
        · rw [if_neg hl]
          by_cases hl2 : i ≤ l
          · have : l = i := by omega
            subst this
            rw [if_pos hl2, if_pos hh]
          · rw [if_neg hl2]
    · rename_i hh
      have hlp := zvj (rec := rec) (nm := nm) (fr := fr) (rec ((tmK rT i).getD zTm)) k (i + 1) rT rm (Nat.lt_succ_self i)
      rw [hlp]
      refine ⟨by rw [ynj]; exact d1, fun l => ?_⟩
      obtain ⟨kk, hkk⟩ := zls (show i < zc6 (zis fr k (i + 1) rT rm).1 by omega)
      have hkT : tmK rT i = some kk := by rw [← (b3 i (Nat.lt_succ_self i)).1]; exact hkk
      by_cases hl : l = i
      · subst hl
        have hkk2 : tmK (lpR rec nm fr k (l + 1) rT rm) l = some kk := by
          rw [d2 l, hkk]; simp only [Option.map_some, if_neg (show ¬ l + 1 ≤ l by omega)]
        rw [zfn hkk2, if_pos rfl, hkk, hkT]
        simp only [Option.map_some, if_pos (Nat.le_refl l), if_neg hh, Option.getD_some]
      · rw [zky _ hl, d2 l, key l]
        cases h : tmK (zis fr k (i + 1) rT rm).1 l with
        | none => rfl
        | some c =>
          simp only [Option.map_some]
          by_cases hl2 : i + 1 ≤ l
          · rw [if_pos hl2, if_pos (show i ≤ l by omega)]
          · rw [if_neg hl2, if_neg (show ¬ i ≤ l by omega)]
theorem zxt {fr : List Str} : ∀ (k i : Nat) (T : Tm) (m : List Str), zag T = true → i + k = zc6 T → (∀ l, l < zc6 T → i ≤ l → ∀ s ∈ zad T l, s ∈ m) → m.length + zgq T k i ≤ 699 → ∀ (l : Nat) (c : Tm), i ≤ l → tmK T l = some c → (∀ s ∈ zbc c, s ∈ m) →
    ∃ c', tmK (zis fr k i T m).1 l = some c' ∧ zcv c' = zcv c ∧ (∀ y, (inT c' y ∧ y ∉ zad (zis fr k i T m).1 l) ↔ (inT c y ∧ y ∉ zad T l)) ∧
      (∀ y ∈ zad (zis fr k i T m).1 l, (y ∈ zad T l ∧ zbq fr y = false) ∨ y ∉ m) ∧ (∀ y ∈ zad T l, zbq fr y = false → y ∈ zad (zis fr k i T m).1 l)
  | 0, i, T, m, hn, hlen, _, _, l, c, hl, hc, _ => by have := ybc hc; omega
  | k + 1, i, T, m, hn, hlen, hsub, hml, l, c, hl, hcl, hst => by
    simp only [zgq] at hml
    have hi := hsub i (by omega) (Nat.le_refl _)
    obtain ⟨_, a2, a3, a4, a5, a6, a7, a8, _, a10, a11, a12⟩ := ze9 (fr := fr) hn (by omega) hi (by omega) _ (Nat.le_refl _)
    rw [zgt] at a2 a3 a4 a5 a6 a7 a8 a10 a11 a12
    have hc : zgq (ziv fr i T m).2.1 k (i + 1) = zgq T k (i + 1) := ze6 (fun l => by
      obtain ⟨_, _, _, _, _, _, _, _, _, _, _, _, hb⟩ := a11
      exact hb l) k (i + 1)
    have hsub2 : ∀ l, l < zc6 (ziv fr i T m).2.1 → i + 1 ≤ l → ∀ s ∈ zad (ziv fr i T m).2.1 l, s ∈ (ziv fr i T m).2.2 := fun l hl hl2 s hs => by rw [a4 l (by omega) (by omega)] at hs; exact a5 s (hsub l (by omega) (by omega) s hs)
    simp only [zis]
    by_cases hli : l = i
    · subst hli
      obtain ⟨c', b1, b2, b3, b4, b5⟩ := ylj (fr := fr) hn (by omega) hi hst hcl (by omega)
      obtain ⟨c2, e1, e2⟩ := a12 c hcl
      rw [b1] at e1; cases e1
      obtain ⟨_, _, d3, _⟩ := zj2 (fr := fr) k (l + 1) (ziv fr l T m).2.1 (ziv fr l T m).2.2 a2 (by omega) hsub2 (by rw [hc]; omega)
      obtain ⟨f1, f2⟩ := d3 l (Nat.lt_succ_self l)
      rw [f1, f2]
      exact ⟨c', b1, e2, b3, b4, b5⟩
    · have hcl2 : tmK (ziv fr i T m).2.1 l = some c := by rw [a10 l hli]; exact hcl
      obtain ⟨c', b1, b2, b3, b4, b5⟩ := zxt (fr := fr) k (i + 1) (ziv fr i T m).2.1 (ziv fr i T m).2.2 a2 (by omega) hsub2 (by rw [hc]; omega) l c (by omega) hcl2 (fun s hs => a5 s (hst s hs))
      have hbl := a4 l (by have := ybc hcl; omega) hli
      rw [hbl] at b3 b4 b5
      exact ⟨c', b1, b2, b3, fun y hy => (b4 y hy).imp id fun h hm => h (a5 y hm), b5⟩
def zst (rec : Tm → Tm) (nm : Str) (T : Tm) : Nat → List Tm → List Tm
  | _, [] => []
  | i, k :: r => (if zbq (zad T i) nm = true then k else rec k) :: zst rec nm T (i + 1) r
def finT (rec : Tm → Tm) (nm : Str) : Tm → Tm
  | .mk op n x ks ps => .mk op n x (zst rec nm (.mk op n x ks ps) 0 ks) ps
theorem zym (rec : Tm → Tm) (nm : Str) (T : Tm) : ∀ (i : Nat) (l : List Tm), (zst rec nm T i l).length = l.length
  | _, [] => rfl
  | i, k :: r => by simp [zst, zym rec nm T (i + 1) r]
theorem zrm (rec : Tm → Tm) (nm : Str) (T : Tm) : ∀ (l : List Tm) (i j : Nat), (zst rec nm T i l)[j]? = (l[j]?).map fun c => if zbq (zad T ((i + j : Nat) : Int)) nm = true then c else rec c
  | [], i, j => by simp [zst]
  | k :: r, i, 0 => by simp [zst]
  | k :: r, i, j + 1 => by
    simp only [zst, List.getElem?_cons_succ]
    rw [zrm rec nm T r (i + 1) j, show i + 1 + j = i + (j + 1) by omega]
theorem zri {t : Tm} (h : zag t = true) (y : Str) : y ∈ zcq t [] [] ↔ inT t y := by
  rw [zvu t [] [] y (zfs t h)]
  simp [zbq]
theorem yjv {nm : Str} {by' : Tm} {fr : List Str} : ∀ (N : Nat) (t : Tm), zag t = true → ¬ inT t nm → rpl nm by' fr N t = t
  | 0, _, _, _ => rfl
  | N + 1, .mk op n x ks ps, hn, h => by
    rw [rpl, if_neg (fun hh => h ((zri hn nm).1 (zbg.1 hh)))]
theorem ym0 {nm : Str} {by' : Tm} {fr : List Str} {N : Nat} {op n : Int} {x : Str} {ks : List Tm} {ps : List Ty} (hn : zag (.mk op n x ks ps) = true) (h60 : zcv (.mk op n x ks ps) ≤ 60) (hfl : fr.length ≤ 60) (hyes : zbq (zcq (.mk op n x ks ps) [] []) nm = true) (e : ¬ op = 4) :
    rpl nm by' fr (N + 1) (.mk op n x ks ps) = finT (rpl nm by' fr N) nm (zis fr ks.length 0 (.mk op n x ks ps) (nm :: fr ++ zbc (.mk op n x ks ps))).1 := by
  rw [rpl, if_pos hyes, if_neg e]
  have htk := zuy hn h60 (nm := nm) hfl
  have hsub : ∀ l, l < zc6 (.mk op n x ks ps) → 0 ≤ l → ∀ s ∈ zad (.mk op n x ks ps) (l : Int), s ∈ nm :: fr ++ zbc (.mk op n x ks ps) := fun l hl _ s hs => by
    refine List.mem_append_right _ ?_
    simp only [zbc, List.mem_append]
    exact .inr (zep 0 ks l hl s (by simpa using hs))
  have hst : ∀ l c, tmK (.mk op n x ks ps) l = some c → ∀ s ∈ zbc c, s ∈ nm :: fr ++ zbc (.mk op n x ks ps) := fun l c hc s hs => by
    refine List.mem_append_right _ ?_
    simp only [zbc, List.mem_append]
    exact .inr (zk2 0 ks l c hc s hs)
  obtain ⟨h1, h2⟩ := yb9 (rec := rpl nm by' fr N) (nm := nm) (fr := fr) ks.length 0 (.mk op n x ks ps) (nm :: fr ++ zbc (.mk op n x ks ps)) hn (by simp [zc6]) hsub htk
  obtain ⟨k1, k2, _, _, _, _⟩ := zj2 (fr := fr) ks.length 0 (.mk op n x ks ps) (nm :: fr ++ zbc (.mk op n x ks ps)) hn (by simp [zc6]) hsub htk
  have hfree := zxt (fr := fr) ks.length 0 (.mk op n x ks ps) (nm :: fr ++ zbc (.mk op n x ks ps)) hn (by simp [zc6]) hsub htk
  generalize zis fr ks.length 0 (.mk op n x ks ps) (nm :: fr ++ zbc (.mk op n x ks ps)) = R at *
  obtain ⟨TR, mR⟩ := R
  simp only at *
  obtain ⟨op2, n2, x2, ks2, ps2⟩ := TR
  refine tm_ext (by rw [h1]; rfl) fun l => ?_
  rw [h2 l]
  show _ = (zst _ nm _ 0 ks2)[l]?
  rw [zrm, Nat.zero_add]
  show ((ks2[l]?).map _) = _
  cases hk : ks2[l]? with
  | none => rfl
  | some c' =>
    simp only [Option.map_some, if_pos (Nat.zero_le l), Option.some.injEq]
    obtain ⟨c, hc⟩ := zls (show l < zc6 (.mk op n x ks ps) by
      have := (List.getElem?_eq_some_iff.1 hk).1
      simp only [zc6] at k2 ⊢; omega)
    obtain ⟨c2, f1, _, f2, f3, f4⟩ := hfree l c (Nat.zero_le _) hc (hst l c hc)
    have : c2 = c' := by
      have f1 : ks2[l]? = some c2 := f1
      rw [hk] at f1; exact (Option.some.inj f1).symm
    subst this
    have hcn : zag c2 = true := zl7 (T := .mk op2 n2 x2 ks2 ps2) k1 hk
    by_cases hb : nm ∈ zad (.mk op n x ks ps) (l : Int)
    · rw [if_pos (zbg.2 hb)]
      by_cases hb2 : nm ∈ zad (.mk op2 n2 x2 ks2 ps2) (l : Int)
      · rw [if_pos (zbg.2 hb2)]
      · rw [if_neg (fun h => hb2 (zbg.1 h))]
        refine (yjv N c2 hcn fun hi => ?_).symm
        exact ((f2 nm).1 ⟨hi, hb2⟩).2 hb
    · rw [if_neg (fun h => hb (zbg.1 h))]
      rw [if_neg (fun h => ?_)]
      rcases f3 nm (zbg.1 h) with ⟨h3, _⟩ | h3
      · exact hb h3
      · exact h3 (by simp)
end Go.Hk

/- Contract of Subst: a term with another one in place of a name, or the error. -/
namespace Go.Hk
open Go.Proofs
def zij (t : Tm) (nm : Str) (by' : Tm) : Tm := rpl nm by' (zcq by' [] []) 60 t
def yc5 (t : Tm) (nm : Str) (by' : Tm) : Tm × Int := bif za8 t && zcp nm && za8 by' then (bif za8 (zij t nm by') then (zij t nm by', 0) else (zTm, 3)) else (zTm, 2)
theorem zno {t : Tm} (h : za8 t = true) : (zcq t [] []).length ≤ 60 ∧ ∀ s ∈ zcq t [] [], s.length ≤ 8 := by
  obtain ⟨h1, _, _, h4⟩ := zcs t h
  refine ⟨by have := zjl t [] []; simp at this; omega, fun s hs => ?_⟩
  simp only [za8, Bool.and_eq_true] at h
  rcases zh5 t [] [] h.2 s hs with h | h
  · cases h
  · exact h
theorem zzk {t : Tm} {nm : Str} {by' : Tm} (ht : za8 t = true) (hb : za8 by' = true) : zag (zij t nm by') = true := by
  have h60 := (zcs t ht).2.2.2
  have hfl := (zno hb).1
  simp only [za8, Bool.and_eq_true] at ht hb
  exact zxj hb.2 hfl 60 t h60 ht.2
set_option maxRecDepth 100000 in
theorem ycz (t : Tm) (nm : Str) (by' : Tm) (ht : zd8 t = za8 t) (hb : zd8 by' = za8 by') : zau Tryz.prog 9 [.agg (dTmc t), .str nm, .agg (dTmc by')] (.tup [.agg (dTmc (yc5 t nm by').1), .int .i64 (yc5 t nm by').2]) := by
  refine zaf ttX_ok Tryz.func9 (by decide +kernel) rfl [1, 2, 3, 4, 5, 6, 7, 8, 9] rfl rfl ?_
  refine xg [] rfl (by simp) ?_
  refine zac rfl (fun _ => zfy t) (by simp) ?_
  rw [ht]
  refine xg [] rfl (by simp [zai]) ?_
  refine zac rfl (fun _ => zfo nm) (by simp [zai]) ?_
  refine xg [] rfl (by simp [zai]) ?_
  refine zac rfl (fun _ => zfy by') (by simp [zai]) ?_
  rw [hb]
  refine xg [] rfl (by simp [zai]) ?_
  cases h1 : za8 t && zcp nm && za8 by' with
  | false =>
    refine zaa rfl (fun h => ?_) (fun h => ?_)
    · refine xd [] rfl (by simp) ?_
      rw [show yc5 t nm by' = (zTm, 2) by simp only [yc5, h1, cond_false]]
      exact zab ⟨_, rfl, tV rfl, trivial⟩
    · exfalso
      cases e1 : za8 t <;> cases e2 : zcp nm <;> cases e3 : za8 by' <;> simp [e1, e2, e3, yak] at h h1
  | true =>
    simp only [Bool.and_eq_true] at h1
    obtain ⟨⟨e1, e2⟩, e3⟩ := h1
    rw [e1, e2, e3]
    refine zaa rfl (fun h => by simp [yak] at h) (fun h => ?_)
    clear h
    obtain ⟨f1, f2, f3, f4⟩ := zcs by' e3
    obtain ⟨g1, g2⟩ := zno e3
    have h60 := (zcs t e1).2.2.2
    have htn : zag t = true := by simp only [za8, Bool.and_eq_true] at e1; exact e1.2
    have hS := ygl nm by' (zcq by' [] []) (zfz e3) g1 (fun s hs => by
      rcases List.mem_cons.1 hs with h | h
      · rw [h]; exact zqw e2
      · exact g2 s h) 60 t h60 htn h60
    have hso := zr5 (zzk (nm := nm) e1 e3)
    have hco := zfy (zij t nm by')
    rw [hso] at hco
    have esub : zij t nm by' = rpl nm by' (zcq by' [] []) 60 t := rfl
    obtain ⟨bo, bn, bx, bks, bps⟩ := by'
    refine xd [] rfl (by simp) ?_
    refine zji rfl ?_
    refine xg [] rfl (by simp) ?_
    refine zar (fr := []) [(4, 1)] [] rfl (by simp) (zrg (.mk bo bn bx bks bps) [] [] f2) ⟨⟨rfl, rfl, rfl⟩, trivial⟩ rfl rfl rfl rfl ?_
    refine xg [] rfl (by simp) ?_
    rw [← esub] at hS
    have eR : yc5 t nm (.mk bo bn bx bks bps) = bif za8 (zij t nm (.mk bo bn bx bks bps)) then (zij t nm (.mk bo bn bx bks bps), 0) else (zTm, 3) := by simp only [yc5, e1, e2, e3, Bool.and_self, cond_true]
    rw [eR]
    generalize zij t nm (.mk bo bn bx bks bps) = r at *
    obtain ⟨ro, rn, rx, rks, rps⟩ := r
    refine zar (fr := []) [(4, 7)] [] rfl (by simp) hS ⟨⟨rfl, rfl, rfl⟩, trivial⟩ rfl rfl rfl rfl ?_
    refine xg [] rfl (by simp) ?_
    refine zac rfl (fun _ => hco) (by simp) ?_
    refine xg [] rfl (by simp) ?_
    cases hr : za8 (.mk ro rn rx rks rps) with
    | false =>
      refine zaa rfl (fun h => ?_) (fun h => by simp at h)
      refine xd [] rfl (by simp) ?_
      exact zab ⟨_, rfl, tV rfl, trivial⟩
    | true =>
      refine zaa rfl (fun h => by simp at h) (fun h => ?_)
      refine xd [] rfl (by simp) ?_
      exact zab ⟨_, rfl, tV rfl, trivial⟩
end Go.Hk

/- Contract of hearthref01.Subst. -/
namespace Go.Hk
open Go.Proofs
set_option maxRecDepth 100000 in
theorem ydk (l : List Str) (len : Nat) (hl : l.length ≤ 699) : zdb Tryz.prog 44 [.own 1 len] [(1, some (.row 9 1 (zbb l)))] (.ret (.imm (.str (za3 l))) [(1, some (.row 9 1 (zbb l)))]) := by
  refine zmo (stL := [(1, some (.row 9 1 (zbb l)))]) (st0 := []) (st1 := []) (ydl l hl) rfl trivial (by simp [nms, nmD]) (fun i b h j hj => ?_) fun I J μ w hst hle hb xs hx => ?_
  · rcases zah.1 h with ⟨_, rfl⟩ | ⟨_, h⟩
    · simp [nmB] at hj
    · simp [zaq, lk] at h
  · refine ⟨hx.1, fun i v d h1 h2 => ?_⟩
    match i with
    | 0 =>
      simp at h2; subst h2
      have h3 := hx.2 0 v _ h1 rfl
      cases h3 with
      | own _ _ a cap hm =>
        have hl : zaq [(1, some (.row 9 1 (zbb l)))] 1 (.row 9 1 (zbb l)) := zah.2 (.inl ⟨rfl, rfl⟩)
        obtain ⟨g, q1, q2⟩ := hst.blk 1 _ hl
        rw [hm] at q1; cases q1
        exact .imm _ _ (zpl q2 hle fun b ho => hb 1 _ _ b hl hm ho)
    | i + 1 => simp at h2
theorem zlg : ∀ l : List Tm, (∀ k ∈ l, zcv k ≤ 60) → zci l ≤ 60 * l.length
  | [], _ => by simp [zci]
  | k :: r, h => by
    have h1 := h k (by simp)
    have h2 := zlg r fun c hc => h c (by simp [hc])
    simp only [zci, List.length_cons]; omega
theorem zth (fr : List Str) : ∀ (k i : Nat) (T : Tm) (l m : List Str), zzq l m → (zis fr k i T l).1 = (zis fr k i T m).1
  | 0, i, T, l, m, h => rfl
  | k + 1, i, T, l, m, h => by
    obtain ⟨h1, h2⟩ := zhr (fr := fr) (i := i) (zad T i) 0 T l m h
    simp only [zis, ziv]
    rw [h1]
    exact zth fr k (i + 1) _ _ _ h2
set_option maxRecDepth 100000 in
set_option maxHeartbeats 1000000 in
theorem zxs (nm : Str) (by' : Tm) (hb : za8 by' = true) : ∀ (N : Nat) (t : Tm), zcv t ≤ N → zag t = true → zcv t ≤ 60 →
    zau Tryz.prog 13 [.agg (dTmc t), .str nm, .agg (dTmc by')] (.agg (dTmc (rpl nm by' (zcq by' [] []) N t)))
  | 0, t, hc, hn, h60 => by have := zr3 t; omega
  | N + 1, t, hc, hn, h60 => by
    obtain ⟨op, n, x, ks, ps⟩ := t
    obtain ⟨f1, f2, f3, f4⟩ := zcs by' hb
    obtain ⟨g1, g2⟩ := zno hb
    have hn' := hn
    simp only [zag, Bool.and_eq_true] at hn'
    obtain ⟨⟨hn1, hn2⟩, hn3⟩ := hn'
    have hp2 := (zdf _ hn (by omega)).1
    have hpA := zfs _ hn
    have hK6 := zj4 hn1
    have hfm : ∀ s, zbq (zcn (.mk op n x ks ps)) s = zbq (zcq (.mk op n x ks ps) [] []) s := fun s => by
      rw [Bool.eq_iff_iff, zbg, zbg, zpf, zri hn]
    have hbn : zag by' = true := by simp only [za8, Bool.and_eq_true] at hb; exact hb.2
    have hFm : ∀ s, zbq (zcn by') s = zbq (zcq by' [] []) s := fun s => by
      rw [Bool.eq_iff_iff, zbg, zbg, zpf, zri hbn]
    have hFl : (zcn by').length ≤ 60 := ygf hb
    refine zaf zaz Tryz.func13 (by decide +kernel) rfl [1, 2, 3, 4, 5, 6, 7, 8, 9, 10, 11, 12] rfl rfl ?_
    refine qg [] rfl (by simp) ?_
    refine zac rfl (fun _ => zvc (.mk op n x ks ps) hp2 (by omega)) (by simp) ?_
    refine qg [] rfl (by simp) ?_
    refine zac rfl (fun _ => zo0 (zcn (.mk op n x ks ps)) nm) (by simp) ?_
    refine qg [] rfl (by simp) ?_
    refine zaa rfl (fun h => ?_) (fun h => ?_)
    · refine qd [] rfl (by simp) ?_
      have hno : ¬ zbq (zcq (.mk op n x ks ps) [] []) nm = true := by rw [← hfm]; simpa using h
      rw [show rpl nm by' (zcq by' [] []) (N + 1) (.mk op n x ks ps) = .mk op n x ks ps by rw [rpl, if_neg hno]]
      exact zab ⟨_, rfl, tV rfl, trivial⟩
    have hyes : zbq (zcq (.mk op n x ks ps) [] []) nm = true := by rw [← hfm]; simpa using h
    clear h
    refine qd [] rfl (by simp) ?_
    refine zaa rfl (fun h => ?_) (fun h => ?_)
    · have e : op = 4 := by simpa using h
      obtain ⟨bo, bn, bx, bks, bps⟩ := by'
      refine qd [] rfl (by simp) ?_
      rw [show rpl nm (.mk bo bn bx bks bps) (zcq (.mk bo bn bx bks bps) [] []) (N + 1) (.mk op n x ks ps) = .mk bo bn bx bks bps by rw [rpl, if_pos hyes, if_pos e]]
      exact zab ⟨_, rfl, tV rfl, trivial⟩
    have e : ¬ op = 4 := by simpa using h
    clear h
    rw [ym0 hn h60 g1 hyes e]
    have htk := zuy hn h60 (nm := nm) g1
    have hocc := zqt (.mk op n x ks ps) hn
    have hsl := zjy (.mk op n x ks ps)
    refine qd [] rfl (by simp) ?_
    refine zac rfl (fun _ => zvc by' f3 (by omega)) (by simp) ?_
    refine qg [] rfl (by simp) ?_
    refine zbz zaz rfl ⟨zgy _, by simp [maxLen]; omega, by simp; omega, by simp⟩ ?_
    refine qg [] rfl (by simp) ?_
    refine zbz zaz rfl ⟨by simp, by simp [maxLen]; omega, by simp; omega, trivial⟩ ?_
    refine qg [] rfl (by simp) ?_
    refine zac rfl (fun _ => ybd (.mk op n x ks ps) hn h60) (by simp) ?_
    refine qg [] rfl (by simp) ?_
    refine zbz zaz rfl ⟨zgy _, by simp [maxLen]; omega, by simp; omega, trivial⟩ ?_
    refine qg [] rfl (by simp; rfl) ?_
    rw [show (zis (zcq by' [] []) ks.length 0 (.mk op n x ks ps) (nm :: zcq by' [] [] ++ zbc (.mk op n x ks ps))).1 = (zis (zcq by' [] []) ks.length 0 (.mk op n x ks ps) (zcn by' ++ [nm] ++ zbc (.mk op n x ks ps))).1 from zth _ _ _ _ _ _ fun s => by
      have := hFm s
      rw [Bool.eq_iff_iff, zbg, zbg] at this
      simp only [List.mem_append, List.mem_cons, List.not_mem_nil, or_false, this]
      constructor
      · rintro ((h | h) | h)
        · exact .inl (.inr h)
        · exact .inl (.inl h)
        · exact .inr h
      · rintro ((h | h) | h)
        · exact .inl (.inr h)
        · exact .inl (.inl h)
        · exact .inr h]
    have hbd := yiz (op := op) (n := n) (x := x) (ks := ks) hn2 ks.length 0
    have htk2 : (zcn by' ++ [nm] ++ zbc (.mk op n x ks ps)).length + zgq (.mk op n x ks ps) ks.length 0 ≤ 699 := by
      simp only [List.length_append, List.length_singleton]; omega
    have hsub : ∀ l, l < ks.length → ∀ s ∈ zad (.mk op n x ks ps) (l : Int), s ∈ zcn by' ++ [nm] ++ zbc (.mk op n x ks ps) := fun l hl s hs => by
      refine List.mem_append_right _ ?_
      simp only [zbc, List.mem_append]
      exact .inr (zep 0 ks l hl s (by simpa using hs))
    have hdst : zbb (zcn by' ++ [nm] ++ zbc (.mk op n x ks ps)) = zbb (zcn by') ++ [[.str nm]] ++ zbb (zbc (.mk op n x ks ps)) := by simp [zbb]
    generalize htk0 : zcn by' ++ [nm] ++ zbc (.mk op n x ks ps) = tk0 at *
    generalize hRes : (zis (zcq by' [] []) ks.length 0 (.mk op n x ks ps) tk0).1 = TR
    generalize hfr : zcq by' [] [] = fr at *
    refine zaj (fun y : Nat × Tm × List Str => [(9, .imm (.int .i64 y.1)), (8, .own 6 (zbb y.2.2).length), (7, .imm (.sl (zbb (zcn by')))), (1, .imm (.str nm)), (3, .ref 1 0), (5, .ref 2 0), (6, .ref 3 0)])
      (fun y => [(6, some (.row 9 1 (zbb y.2.2))), (1, some (.immb 26 5 (dTmc y.2.1))), (2, some (.immb 26 5 (dTmc by'))), (3, some (.cells 26 5 [.imm (.int .i64 0), .imm (.int .i64 0), .imm (.str []), .nils, .nils]))]) [7, 8, 9, 10, 11, 12]
      (fun y => ks.length - y.1) (fun y => y.1 ≤ ks.length ∧ zag y.2.1 = true ∧ zni (.mk op n x ks ps) y.2.1 ∧ (∀ l, l < ks.length → y.1 ≤ l → ∀ s ∈ zad y.2.1 (l : Int), s ∈ y.2.2) ∧ y.2.2.length + zgq (.mk op n x ks ps) (ks.length - y.1) y.1 ≤ 699 ∧ (∀ l k, tmK y.2.1 l = some k → zcv k ≤ 60 ∧ zcv k ≤ N) ∧
        (zis fr (ks.length - y.1) y.1 y.2.1 y.2.2).1 = TR) (0, .mk op n x ks ps, tk0)
      ⟨Nat.zero_le _, hn, zhi _, fun l hl _ => hsub l hl, htk2, fun l k hk => by
        have := zet (l := ks) (i := l) (k := k) hk
        simp only [zcv] at h60 hc; omega, hRes⟩ ⟨rfl, by rw [hdst]; rfl, rfl, rfl, rfl, rfl, rfl, trivial⟩ ⟨by rw [hdst]; rfl, rfl, rfl, rfl, trivial⟩ rfl fun y hi ih => ?_
    obtain ⟨i, T, m⟩ := y
    obtain ⟨d1, d2, d3, d4, d5, d6, d7⟩ := hi
    simp only at d1 d2 d3 d4 d5 d6 d7
    have hlike := d3
    obtain ⟨p1, p2, p3, p4, p5, x1, kn, ps1, hT1, hT, hl1, hl2, hbl⟩ := d3
    cases hT1
    subst hT
    refine qd [] rfl (by simp) ?_
    refine zaa rfl (fun h => ?_) (fun h => ?_)
    · rw [dTms_length, hl1] at h
      simp at h
      have hiK : i < zc6 (.mk op n x1 kn ps1) := by simp only [zc6]; omega
      obtain ⟨k0, hk0⟩ := zls hiK
      have hn1' := d2
      simp only [zag, Bool.and_eq_true] at hn1'
      obtain ⟨⟨m1, m2⟩, m3⟩ := hn1'
      have hbS : zgq (.mk op n x ks ps) (ks.length - i) i = (zad (.mk op n x1 kn ps1) i).length + zgq (.mk op n x ks ps) (ks.length - (i + 1)) (i + 1) := by
        rw [show ks.length - i = (ks.length - (i + 1)) + 1 by omega, hbl]; rfl
      have hml : m.length + (zad (.mk op n x1 kn ps1) i).length ≤ 699 := by omega
      have hKeep := ze9 (fr := fr) d2 hiK (d4 i h (Nat.le_refl _)) hml
      have hp3 := (zdf (.mk op n x1 kn ps1) d2 (by
        have : zci kn ≤ 60 * kn.length := zlg kn fun k hk => by obtain ⟨l, hl⟩ := List.getElem?_of_mem hk; exact (d6 l k hl).1
        simp only [zcv]; omega)).1
      obtain ⟨q1, q2, q3⟩ := hp3
      refine qd [] rfl (by simp) ?_
      refine zac rfl (fun _ => zmw op n x1 kn ps1 i (by omega) (q2 i (by omega))) (by simp) ?_
      rw [zgm m2]
      refine qg [] rfl (by simp) ?_
      refine zaj (fun j : Nat => [(11, .imm (.int .i64 j)), (10, .imm (.sl (zbb (zad (.mk op n x1 kn ps1) i)))), (9, .imm (.int .i64 i)), (8, .own 6 (zbb (zdy fr i (.mk op n x1 kn ps1) m j).2.2).length), (7, .imm (.sl (zbb (zcn by')))), (1, .imm (.str nm)), (3, .ref 1 0), (5, .ref 2 0), (6, .ref 3 0)])
        (fun j => [(6, some (.row 9 1 (zbb (zdy fr i (.mk op n x1 kn ps1) m j).2.2))), (1, some (.immb 26 5 (dTmc (zdy fr i (.mk op n x1 kn ps1) m j).2.1))), (2, some (.immb 26 5 (dTmc by'))), (3, some (.cells 26 5 [.imm (.int .i64 0), .imm (.int .i64 0), .imm (.str []), .nils, .nils]))]) [7, 8, 9, 10, 11, 12]
        (fun j => (zad (.mk op n x1 kn ps1) i).length - j) (fun j => j ≤ (zad (.mk op n x1 kn ps1) i).length) 0 (Nat.zero_le _) ⟨rfl, rfl, rfl, rfl, rfl, rfl, rfl, rfl, rfl, trivial⟩ ⟨rfl, rfl, rfl, rfl, trivial⟩ rfl fun j hj jh => ?_
      obtain ⟨e1, e2, e3, e4, e5, e6, e7, e8, e9, e10, e11, e12⟩ := hKeep j hj
      refine qd [] rfl (by simp) ?_
      refine zaa rfl (fun h2 => ?_) (fun h2 => ?_)
      · simp at h2
        obtain ⟨z, hz⟩ := zal h2
        have hz2 := e9 j (Nat.le_refl _)
        rw [hz] at hz2
        obtain ⟨k1, hk1, hk1c⟩ := e12 k0 hk0
        have hk60 := (d6 i k0 hk0).1
        have hsucc := zga (fr := fr) (m := m) hz
        have hbl2 := (List.getElem?_eq_some_iff.1 hz).1
        have hb8 : (zad (.mk op n x1 kn ps1) i).length ≤ 8 := by rw [hbl]; exact zy7 hn2 i
        refine qd [] rfl (by simp) ?_
        refine qi_ rfl (c := [.str z]) (fun _ => ⟨by simp, by simpa using zdn hz, rfl⟩) (by simp) ?_
        refine qg [] rfl (by simp) ?_
        refine zac rfl (fun _ => zo0 (zcn by') z) (by simp) ?_
        refine qg [] rfl (by simp) ?_
        by_cases hf : zbq fr z = true
        · refine zaa rfl (fun h3 => ?_) (fun h3 => by rw [hFm] at h3; simp [hf] at h3)
          rw [show zdy fr i (.mk op n x1 kn ps1) m (j + 1) = (j + 1, zdh (zcm (zdy fr i (.mk op n x1 kn ps1) m j).2.1 i (ze7 k1 z (za3 (zdy fr i (.mk op n x1 kn ps1) m j).2.2))) i j (za3 (zdy fr i (.mk op n x1 kn ps1) m j).2.2), (zdy fr i (.mk op n x1 kn ps1) m j).2.2 ++ [za3 (zdy fr i (.mk op n x1 kn ps1) m j).2.2]) by
            rw [hsucc]; simp only [zfp, if_pos hf, hk1, Option.getD_some, e1]] at hsucc
          have hreb := yde (zdy fr i (.mk op n x1 kn ps1) m j).2.1 i j z (za3 (zdy fr i (.mk op n x1 kn ps1) m j).2.2) k1 e2 hk1 (by omega) hz2
          have hsu := hsucc
          clear hsucc
          have hsu : zdy fr i (.mk op n x1 kn ps1) m (j + 1) = (j + 1, zdh (zcm (zdy fr i (.mk op n x1 kn ps1) m j).2.1 i (ze7 k1 z (za3 (zdy fr i (.mk op n x1 kn ps1) m j).2.2))) i j (za3 (zdy fr i (.mk op n x1 kn ps1) m j).2.2), (zdy fr i (.mk op n x1 kn ps1) m j).2.2 ++ [za3 (zdy fr i (.mk op n x1 kn ps1) m j).2.2]) := by
            rw [zga (fr := fr) (m := m) hz]; simp only [zfp, if_pos hf, hk1, Option.getD_some, e1]
          obtain ⟨so, sn, sx, sks, sps, hshape⟩ := zhl (zdh (zcm (zdy fr i (.mk op n x1 kn ps1) m j).2.1 i (ze7 k1 z (za3 (zdy fr i (.mk op n x1 kn ps1) m j).2.2))) i j (za3 (zdy fr i (.mk op n x1 kn ps1) m j).2.2))
          rw [hshape] at hreb hsu
          generalize zdy fr i (.mk op n x1 kn ps1) m j = r at *
          obtain ⟨r1, rT, rm⟩ := r
          simp only at e1 e2 e3 e5 e6 e7 e8 e9 hreb hsu
          refine qd [] rfl (by simp) ?_
          refine zar (fr := []) [(6, 1)] [] rfl (by simp) (ydk rm _ (by omega)) ⟨⟨rfl, rfl, rfl⟩, trivial⟩ rfl rfl rfl rfl ?_
          refine qg [] rfl (by simp) ?_
          refine zbz zaz rfl ⟨by simp, by simp [maxLen]; omega, by simp; omega, trivial⟩ ?_
          refine qg [] rfl (by simp) ?_
          refine qi_ rfl (c := [.str z]) (fun _ => ⟨by simp, by simpa using zdn hz, rfl⟩) (by simp) ?_
          refine qg [] rfl (by simp) ?_
          refine zac rfl (fun _ => hreb) (by simp) ?_
          refine qg [] rfl (by simp; rfl) ?_
          refine zb5 6 7 rfl ?_
          have et : zbb (rm ++ [za3 rm]) = zbb rm ++ [[.str (za3 rm)]] := by simp [zbb]
          exact zae (jh (j + 1) (by omega) (by omega)) ⟨zcl (w64 (by omega) (by omega)), rfl, rfl, by rw [hsu]; simp only; rw [et]; rfl, rfl, rfl, rfl, rfl, rfl, trivial⟩ ⟨by rw [hsu]; simp only; rw [et]; rfl, by rw [hsu]; rfl, rfl, rfl, trivial⟩ rfl
        · refine zaa rfl (fun h3 => by rw [hFm] at h3; exact absurd (by simpa using h3) hf) (fun h3 => ?_)
          have hsu : zdy fr i (.mk op n x1 kn ps1) m (j + 1) = (j + 1, (zdy fr i (.mk op n x1 kn ps1) m j).2.1, (zdy fr i (.mk op n x1 kn ps1) m j).2.2) := by
            rw [hsucc]; simp only [zfp, if_neg hf, e1]
          refine qd [] rfl (by simp) ?_
          exact zae (jh (j + 1) (by omega) (by omega)) ⟨zcl (w64 (by omega) (by omega)), rfl, rfl, by rw [hsu]; rfl, rfl, rfl, rfl, rfl, rfl, trivial⟩ ⟨by rw [hsu]; rfl, by rw [hsu]; rfl, rfl, rfl, trivial⟩ rfl
      · simp at h2
        have hjl : j = (zad (.mk op n x1 kn ps1) i).length := by omega
        subst hjl
        rw [zgt] at e2 e3 e4 e5 e6 e7 e8 e10 e11 e12
        rw [zgt]
        clear jh
        rw [show ks.length - i = (ks.length - (i + 1)) + 1 by omega] at d7
        simp only [zis] at d7
        refine zav rfl ?_
        refine qd [] rfl (by simp) ?_
        refine zae (ih (i + 1, (ziv fr i (.mk op n x1 kn ps1) m).2.1, (ziv fr i (.mk op n x1 kn ps1) m).2.2) (by simp only; omega) ⟨by simp only; omega, e2, zla hlike e11, fun l hl hl2 s hs => ?_, by simp only; omega, fun l k hk => ?_, d7⟩) ⟨zcl (w64 (by omega) (by omega)), rfl, rfl, rfl, rfl, rfl, rfl, trivial⟩ ⟨rfl, rfl, rfl, rfl, trivial⟩ rfl
        · simp only at hs hl2
          rw [e4 l (by simp only [zc6]; omega) (by omega)] at hs
          exact e5 s (d4 l hl (by omega) s hs)
        · simp only at hk
          by_cases hli : l = i
          · subst hli
            obtain ⟨k1, hk1, hk1c⟩ := e12 k0 hk0
            rw [hk] at hk1; cases hk1
            have := d6 l k0 hk0
            omega
          · rw [e10 l hli] at hk
            exact d6 l k hk
    · rw [dTms_length, hl1] at h
      simp at h
      have hi : i = ks.length := by omega
      subst hi
      clear ih
      simp only [Nat.sub_self, zis] at d7
      subst d7
      have hn1' := d2
      simp only [zag, Bool.and_eq_true] at hn1'
      obtain ⟨⟨m1, m2⟩, m3⟩ := hn1'
      have hp3 := (zdf (.mk op n x1 kn ps1) d2 (by
        have : zci kn ≤ 60 * kn.length := zlg kn fun k hk => by obtain ⟨l, hl⟩ := List.getElem?_of_mem hk; exact (d6 l k hl).1
        simp only [zcv]; omega)).1
      obtain ⟨q1, q2, q3⟩ := hp3
      have hFl2 := zym (rpl nm by' fr N) nm (.mk op n x1 kn ps1) 0 kn
      have hFg := zrm (rpl nm by' fr N) nm (.mk op n x1 kn ps1) kn 0
      simp only [finT]
      generalize zst (rpl nm by' fr N) nm (.mk op n x1 kn ps1) 0 kn = R at *
      refine zav rfl ?_
      refine qd [] rfl (by simp) ?_
      refine zgk (e := 26) (sz := 5) 13 7 (by decide) rfl ?_
      refine zaj (fun y : Nat => [(14, .imm (.int .i64 y)), (13, .own 7 (zc2 (R.take y)).length), (1, .imm (.str nm)), (3, .ref 1 0), (5, .ref 2 0), (6, .ref 3 0)])
        (fun y => [(7, some (.row 26 5 (zc2 (R.take y)))), (1, some (.immb 26 5 (dTmc (.mk op n x1 kn ps1)))), (2, some (.immb 26 5 (dTmc by'))), (3, some (.cells 26 5 [.imm (.int .i64 0), .imm (.int .i64 0), .imm (.str []), .nils, .nils]))]) [8, 9, 10, 11, 12]
        (fun y => kn.length - y) (fun y => y ≤ kn.length) 0 (Nat.zero_le _) ⟨rfl, by rw [List.take_zero]; rfl, rfl, rfl, rfl, rfl, trivial⟩ ⟨by rw [List.take_zero]; rfl, rfl, rfl, rfl, trivial⟩ rfl fun i hi ih => ?_
      refine qd [] rfl (by simp) ?_
      refine zaa rfl (fun h => ?_) (fun h => ?_)
      · simp at h
        obtain ⟨k, hk⟩ := zal h
        obtain ⟨c60, cN⟩ := d6 i k hk
        have hkn := zco m3 hk
        have hg := hFg i
        rw [hk, Option.map_some, Nat.zero_add] at hg
        obtain ⟨kr, hkr⟩ : ∃ kr, kr = if zbq (zad (.mk op n x1 kn ps1) (i : Int)) nm = true then k else rpl nm by' fr N k := ⟨_, rfl⟩
        rw [← hkr] at hg
        have et : zc2 (R.take (i + 1)) = zc2 (R.take i) ++ [dTmc kr] := by rw [zbu hg, zlf]; simp [zc2]
        have IH := zxs nm by' hb N k cN hkn c60
        rw [hfr] at IH
        refine qd [] rfl (by simp) ?_
        refine qi_ rfl (c := dTmc k) (fun _ => ⟨by simp, by simpa using zbv hk, by simp⟩) (by simp) ?_
        refine qg [] rfl (by simp) ?_
        refine zac rfl (fun _ => zmw op n x1 kn ps1 i (by omega) (q2 i h)) (by simp) ?_
        rw [zgm m2]
        refine qg [] rfl (by simp) ?_
        refine zac rfl (fun _ => zo0 (zad (.mk op n x1 kn ps1) i) nm) (by simp) ?_
        refine qg [] rfl (by simp) ?_
        by_cases hbn2 : zbq (zad (.mk op n x1 kn ps1) (i : Int)) nm = true
        case' pos =>
          rw [if_pos hbn2] at hkr
          subst hkr
          refine zaa rfl (fun h => by simp [hbn2] at h) (fun h => ?_)
          obtain ⟨ko, kn2, kx, kks, kps⟩ := kr
          refine qd [] rfl (by simp) ?_
        case' neg =>
          rw [if_neg hbn2] at hkr
          rw [← hkr] at IH
          refine zaa rfl (fun h => ?_) (fun h => absurd (by simpa using h) hbn2)
          obtain ⟨ko, kn2, kx, kks, kps⟩ := kr
          refine qd [] rfl (by simp) ?_
          refine zac rfl (fun _ => IH) (by simp) ?_
          refine qg [] rfl (by simp) ?_
        all_goals
          refine zbz zaz rfl ⟨by simp, by simp [maxLen]; omega, by simp; omega, trivial⟩ ?_
          refine qg [] rfl (by simp) ?_
          refine zb5 7 9 rfl ?_
          exact zae (ih (i + 1) (by omega) (by omega)) ⟨zcl (w64 (by omega) (by omega)), by rw [et]; rfl, rfl, rfl, rfl, rfl, trivial⟩ ⟨by rw [et]; rfl, rfl, rfl, rfl, trivial⟩ rfl
      · simp at h
        have hi2 : i = kn.length := by omega
        refine zav rfl ?_
        refine zc9 7 rfl ?_
        refine qd [] rfl (by simp) ?_
        rw [List.take_of_length_le (by omega)]
        exact zab ⟨_, rfl, tV rfl, trivial⟩
end Go.Hk

/- Contracts of Canon and Alike; plain facts of what canon computes. -/
namespace Go.Hk
open Go.Proofs
theorem ye5 {t : Tm} (h : za8 t = true) : zag (ycu t) = true ∧ zcv (ycu t) = zcv t ∧ dpT (ycu t) = dpT t := by
  have hb := zr6 h
  have hn : zag t = true := by simp only [za8, Bool.and_eq_true] at h; exact h.2
  exact zuh t [] (zcn t) hn (by intro p hp; cases hp) (by omega)
theorem yiw {t : Tm} (h : za8 t = true) : za8 (ycu t) = true := by
  obtain ⟨h1, h2, h3⟩ := ye5 h
  rw [yft] at h ⊢
  exact ⟨h1, by rw [h2]; exact h.2.1, by rw [h3]; exact h.2.2⟩
def ynz (t : Tm) : Tm × Int := bif za8 t then (ycu t, 0) else (zTm, 2)
set_option maxRecDepth 100000 in
theorem ylw (t : Tm) (h : zd8 t = za8 t) : zau Tryz.prog 18 [.agg (dTmc t)] (.tup [.agg (dTmc (ynz t).1), .int .i64 (ynz t).2]) := by
  refine zaf ttX_ok Tryz.func18 (by decide +kernel) rfl [1, 2, 3] rfl rfl ?_
  refine xg [] rfl (by simp) ?_
  refine zac rfl (fun _ => zfy t) (by simp) ?_
  rw [h]
  cases ht : za8 t with
  | false =>
    refine xg [] rfl (by simp) ?_
    refine zaa rfl (fun h => ?_) (fun h => by simp [yak] at h)
    refine xd [] rfl (by simp) ?_
    rw [show ynz t = (zTm, 2) by simp [ynz, ht]]
    exact zab ⟨_, rfl, tV rfl, trivial⟩
  | true =>
    refine xg [] rfl (by simp) ?_
    refine zaa rfl (fun h => by simp [yak] at h) (fun h => ?_)
    refine xd [] rfl (by simp) ?_
    refine zac rfl (fun _ => zv5 t ht) (by simp) ?_
    refine xg [] rfl (by simp) ?_
    rw [show ynz t = (ycu t, 0) by simp [ynz, ht]]
    exact zab ⟨_, rfl, tV rfl, trivial⟩
def ylp (a b : Tm) : Bool × Int := bif za8 a && za8 b then (zsu (ycu a) (ycu b), 0) else (false, 2)
set_option maxRecDepth 100000 in
theorem ylx (a b : Tm) (ha : zd8 a = za8 a) (hb : zd8 b = za8 b) : zau Tryz.prog 17 [.agg (dTmc a), .agg (dTmc b)] (.tup [.bool (ylp a b).1, .int .i64 (ylp a b).2]) := by
  refine zaf ttX_ok Tryz.func17 (by decide +kernel) rfl [1, 2, 3, 4] rfl rfl ?_
  refine xg [] rfl (by simp) ?_
  refine zac rfl (fun _ => zfy a) (by simp) ?_
  rw [ha]
  refine xg [] rfl (by simp) ?_
  refine zac rfl (fun _ => zfy b) (by simp [zai]) ?_
  rw [hb]
  refine xg [] rfl (by simp [zai]) ?_
  cases hta : za8 a with
  | false =>
    refine zaa rfl (fun h => ?_) (fun h => by simp [yak] at h)
    refine xd [] rfl (by simp) ?_
    rw [show ylp a b = (false, 2) by simp [ylp, hta]]
    exact zab ⟨_, rfl, tV rfl, trivial⟩
  | true =>
  cases htb : za8 b with
  | false =>
    refine zaa rfl (fun h => ?_) (fun h => by simp [yak] at h)
    refine xd [] rfl (by simp) ?_
    rw [show ylp a b = (false, 2) by simp [ylp, htb]]
    exact zab ⟨_, rfl, tV rfl, trivial⟩
  | true =>
    refine zaa rfl (fun h => by simp [yak] at h) (fun h => ?_)
    refine xd [] rfl (by simp) ?_
    refine zac rfl (fun _ => zv5 a hta) (by simp) ?_
    refine xg [] rfl (by simp) ?_
    refine zac rfl (fun _ => zv5 b htb) (by simp) ?_
    refine xg [] rfl (by simp) ?_
    refine zac rfl (fun _ => yf5 (ycu a) (ycu b) (zfz (yiw hta))) (by simp) ?_
    refine xg [] rfl (by simp; rfl) ?_
    rw [show ylp a b = (zsu (ycu a) (ycu b), 0) by simp [ylp, hta, htb]]
    exact zab ⟨_, rfl, tV rfl, trivial⟩
set_option maxRecDepth 100000 in
theorem ylt (t : Tm) (h : zd8 t = za8 t) : zau Tryz.prog 15 [.agg (dTmc t)] (.tup [.sl (zbb (bif za8 t then zcn t else [])), .int .i64 (bif za8 t then 0 else 2)]) := by
  refine zaf zbf Tryz.func15 (by decide +kernel) rfl [1, 2, 3, 4] rfl rfl ?_
  refine fg_ [] rfl (by simp) ?_
  refine zac rfl (fun _ => zfy t) (by simp) ?_
  rw [h]
  cases ht : za8 t with
  | false =>
    refine fg_ [] rfl (by simp) ?_
    refine zaa rfl (fun h => ?_) (fun h => by simp [yak] at h)
    refine fd_ [] rfl (by simp) ?_
    exact zab ⟨_, rfl, tV rfl, trivial⟩
  | true =>
    refine fg_ [] rfl (by simp) ?_
    refine zaa rfl (fun h => by simp [yak] at h) (fun h => ?_)
    obtain ⟨h1, h2, h3, h4⟩ := zcs t ht
    refine fd_ [] rfl (by simp) ?_
    refine zji rfl ?_
    refine fg_ [] rfl (by simp) ?_
    refine zar (fr := []) [(2, 1)] [] rfl (by simp) (zrg t [] [] h2) ⟨⟨rfl, rfl, rfl⟩, trivial⟩ rfl rfl rfl rfl ?_
    refine fg_ [] rfl (by simp <;> rfl) ?_
    refine zar (fr := []) [(2, 1)] [] rfl (by simp) (zzn t ht) ⟨⟨rfl, rfl, rfl⟩, trivial⟩ rfl rfl rfl rfl ?_
    refine fg_ [] rfl (by simp <;> rfl) ?_
    exact zab ⟨_, rfl, tV rfl, trivial⟩
set_option maxRecDepth 100000 in
theorem ylu (t : Tm) (h : za8 t = true) : zau Tryz.prog 15 [.agg (dTmc t)] (.tup [.sl (zbb (zcn t)), .int .i64 0]) := by
  have := ylt t (zdd h)
  rw [h] at this; simp only [cond_true] at this; exact this
end Go.Hk

/- The chapter's examples, by the contracts of what they call. -/
namespace Go.Hk
open Go.Proofs
def cS (c : Nat) : Str := [UInt8.ofNat c]
def nmT (s : Str) : Tm := .mk 4 0 s [] []
def plT (a b : Tm) : Tm := .mk 9 0 [] [a, b] []
def eT : Tm := .mk 15 0 [] [nmT (cS 97), plT (nmT (cS 98)) (nmT (cS 100))] [.mk 6 0 [67, 111, 110, 115] [.mk 2 0 (cS 98) [], .mk 2 0 (cS 99) []]]
set_option maxRecDepth 100000 in
theorem zk7 (s : Str) : zau Tryz.prog 27 [.str s] (.agg (dTmc (nmT s))) := by
  refine zaf ttX_ok Tryz.func27 (by decide +kernel) rfl [1, 2, 3] rfl rfl ?_
  refine xg [] rfl (by simp) ?_
  exact zab ⟨_, rfl, tV rfl, trivial⟩
set_option maxRecDepth 100000 in
theorem yg4 (a b : Tm) : zau Tryz.prog 26 [.agg (dTmc a), .agg (dTmc b)] (.agg (dTmc (plT a b))) := by
  refine zaf ttX_ok Tryz.func26 (by decide +kernel) rfl [1, 2, 3] rfl rfl ?_
  obtain ⟨o, n, x, ks, ps⟩ := a
  obtain ⟨o', n', x', ks', ps'⟩ := b
  refine xg [] rfl (by simp) ?_
  exact zab ⟨_, rfl, tV rfl, trivial⟩
set_option maxRecDepth 100000 in
theorem E_ok : zau Tryz.prog 25 [] (.agg (dTmc eT)) := by
  refine zaf ttX_ok Tryz.func25 (by decide +kernel) rfl [1, 2, 3] rfl rfl ?_
  refine xg [] rfl (by simp) ?_
  refine zac rfl (fun _ => zk7 (cS 97)) (by simp) ?_
  refine xg [] rfl (by simp) ?_
  refine zac rfl (fun _ => zk7 (cS 98)) (by simp) ?_
  refine xg [] rfl (by simp) ?_
  refine zac rfl (fun _ => zk7 (cS 100)) (by simp) ?_
  refine xg [] rfl (by simp) ?_
  refine zac rfl (fun _ => yg4 (nmT (cS 98)) (nmT (cS 100))) (by simp) ?_
  refine xg [] rfl (by simp; rfl) ?_
  exact zab ⟨_, rfl, tV rfl, trivial⟩
def ykd (c : Nat) : Tm := .mk 5 0 (cS c) [nmT (cS c)] []
def sT : Tm := .mk 15 0 [] [nmT (cS 97), plT (nmT (cS 101)) (plT (nmT (cS 98)) (nmT (cS 99)))] [.mk 6 0 [67, 111, 110, 115] [.mk 2 0 (cS 101) [], .mk 2 0 (cS 102) []]]
theorem zns : za8 eT = true := by decide +kernel
theorem ykc : za8 (ykd 121) = true := by decide +kernel
theorem yba : za8 (ykd 120) = true := by decide +kernel
theorem yn2 : za8 (plT (nmT (cS 98)) (nmT (cS 99))) = true := by decide +kernel
theorem zzy {p : Tm × Int} {t : Tm} {n : Int} (h : (zsu p.1 t && p.2 == n) = true) : p = (t, n) := by
  obtain ⟨a, b⟩ := p
  simp only [Bool.and_eq_true, beq_iff_eq] at h
  rw [(zpp a t).1 h.1, h.2]
theorem sub_eT : yc5 eT (cS 100) (plT (nmT (cS 98)) (nmT (cS 99))) = (sT, 0) := zzy (by decide +kernel)
theorem at_eT : atR eT [1, 0] = (nmT (cS 98), 0) := zzy (by decide +kernel)
theorem yny : ynz (ykd 120) = (ykd 97, 0) := zzy (by decide +kernel)
theorem yn3 : ylp (ykd 121) (ykd 120) = (true, 0) := by decide +kernel
theorem yno : zcn eT = [cS 97, cS 100] := by decide +kernel
set_option maxRecDepth 100000 in
set_option maxHeartbeats 1000000 in
theorem zmf : zau Tryz.prog 8 [] (.bool true) := by
  have h1 := ylu eT zns
  rw [yno] at h1
  have h2 := ycz eT (cS 100) (plT (nmT (cS 98)) (nmT (cS 99))) (zdd zns) (zdd yn2)
  rw [sub_eT] at h2
  have h3 := yfu eT (zdd zns)
  have h4 := yfv eT (zdd zns)
  rw [zns] at h3 h4
  have h5 := At_ok eT [1, 0] (zdd zns)
  rw [at_eT] at h5
  have h6 := ylx (ykd 121) (ykd 120) (zdd ykc) (zdd yba)
  rw [yn3] at h6
  have h7 := ylw (ykd 120) (zdd yba)
  rw [yny] at h7
  refine zaf zaz Tryz.func8 (by decide +kernel) rfl [1, 2, 3, 4, 5, 6, 7, 8, 9] rfl rfl ?_
  refine qg [] rfl (by simp) ?_
  refine zac rfl (fun _ => E_ok) (by simp) ?_
  refine qg [] rfl (by simp) ?_
  refine zac rfl (fun _ => h1) (by simp) ?_
  refine qg [] rfl (by simp) ?_
  refine zac rfl (fun _ => E_ok) (by simp) ?_
  refine qg [] rfl (by simp) ?_
  refine zac rfl (fun _ => zk7 (cS 98)) (by simp) ?_
  refine qg [] rfl (by simp) ?_
  refine zac rfl (fun _ => zk7 (cS 99)) (by simp) ?_
  refine qg [] rfl (by simp) ?_
  refine zac rfl (fun _ => yg4 (nmT (cS 98)) (nmT (cS 99))) (by simp) ?_
  refine qg [] rfl (by simp) ?_
  refine zac rfl (fun _ => h2) (by simp) ?_
  refine qg [] rfl (by simp) ?_
  refine zac rfl (fun _ => E_ok) (by simp) ?_
  refine qg [] rfl (by simp) ?_
  refine zac rfl (fun _ => h3) (by simp) ?_
  refine qg [] rfl (by simp) ?_
  refine zac rfl (fun _ => E_ok) (by simp) ?_
  refine qg [] rfl (by simp) ?_
  refine zac rfl (fun _ => h4) (by simp) ?_
  refine qg [] rfl (by simp) ?_
  refine zac rfl (fun _ => E_ok) (by simp) ?_
  refine qg [] rfl (by simp) ?_
  refine zac rfl (fun _ => h5) (by simp) ?_
  refine qg [] rfl (by simp) ?_
  refine zac rfl (fun _ => zk7 (cS 120)) (by simp) ?_
  refine qg [] rfl (by simp) ?_
  refine zac rfl (fun _ => zk7 (cS 121)) (by simp) ?_
  refine qg [] rfl (by simp) ?_
  refine zac rfl (fun _ => h6) (by simp) ?_
  refine qg [] rfl (by simp) ?_
  refine zac rfl (fun _ => h7) (by simp) ?_
  refine qg [] rfl (by simp) ?_
  refine zaa rfl (fun h => by simp [dTmc, sT] at h) (fun h => ?_)
  clear h
  refine qd [] rfl (by simp) ?_
  refine zac rfl (fun _ => zoz [cS 97, cS 100] [cS 97, cS 100]) (by simp [zai]) ?_
  refine qg [] rfl (by simp [zai]) ?_
  refine qi_ rfl (c := [.int .i64 6, .int .i64 0, .str [67, 111, 110, 115], .sl (zcf [.mk 2 0 (cS 101) [], .mk 2 0 (cS 102) []])]) (fun _ => ⟨by simp, rfl, rfl⟩) (by simp [zai]) ?_
  refine qg [] rfl (by simp [zai]) ?_
  refine zac rfl (fun _ => zgo (.mk 6 0 [67, 111, 110, 115] [.mk 2 0 (cS 101) [], .mk 2 0 (cS 102) []]) (by decide)) (by simp [zai]) ?_
  refine qg [] rfl (by simp [zai]) ?_
  refine zac rfl (fun _ => zoz (za2 (.mk 6 0 [67, 111, 110, 115] [.mk 2 0 (cS 101) [], .mk 2 0 (cS 102) []])) [cS 101, cS 102]) (by simp [zai]) ?_
  refine qg [] rfl (by simp [zai]) ?_
  refine zac rfl (fun _ => zfo [97, 98, 99]) (by simp [zai]) ?_
  refine qg [] rfl (by simp [zai]) ?_
  refine zac rfl (fun _ => zfo [116, 104, 101, 110]) (by simp [zai]) ?_
  refine qg [] rfl (by simp [zai]) ?_
  refine zac rfl (fun _ => ziz [65]) (by simp [zai]) ?_
  refine qg [] rfl (by simp [zai]) ?_
  refine zac rfl (fun _ => zm2 [cS 97, cS 99] (by decide)) (by simp [zai]) ?_
  refine qg [] rfl (by simp [zai]) ?_
  refine zab ⟨_, rfl, tV (congrArg _ ?_), trivial⟩
  decide +kernel
end Go.Hk

/- The statement TermSubsts, of terms and a name by value: it returns true. -/
namespace Go.Hk
open Go.Proofs
set_option maxRecDepth 100000 in
set_option maxHeartbeats 1000000 in
theorem TermSubsts_pure (t : Tm) (s : Str) (by' : Tm) : zau Tryz.prog 3 [.agg (dTmc t), .str s, .agg (dTmc by')] (.bool true) := by
  refine zaf ttX_ok Tryz.func3 (by decide +kernel) rfl [1, 2, 3, 4, 5, 6, 7] rfl rfl ?_
  refine xg [] rfl (by simp) ?_
  refine zac rfl (fun _ => zoy t) (by simp) ?_
  refine xg [] rfl (by simp [zai]) ?_
  refine zac rfl (fun _ => zoy by') (by simp [zai]) ?_
  refine xg [] rfl (by simp [zai]) ?_
  refine zaa rfl (fun h => ?_) (fun h => ?_)
  · refine xd [] rfl (by simp) ?_
    refine zac rfl (fun _ => zmf) (by simp) ?_
    refine xg [] rfl (by simp) ?_
    exact zab ⟨_, rfl, tV rfl, trivial⟩
  have hs : zf3 t = true ∧ zf3 by' = true := by
    simp at h
    grind
  clear h
  have h1 := ycz t s by' (zug t hs.1) (zug by' hs.2)
  have hnz := ym7 zTm (by simp [zTm, zim, zn2])
  rw [show zsu zTm zTm = true from (zpp _ _).2 rfl] at hnz
  refine xd [] rfl (by simp) ?_
  obtain ⟨so, sn, sx, sks, sps, hshape⟩ : ∃ o n x ks ps, (yc5 t s by').1 = .mk o n x ks ps := by
    obtain ⟨o, n, x, ks, ps⟩ := (yc5 t s by').1; exact ⟨o, n, x, ks, ps, rfl⟩
  have hsh2 := hshape
  rw [hshape] at h1
  refine zac rfl (fun _ => h1) (by simp) ?_
  refine xg [] rfl (by simp) ?_
  refine zac rfl (fun _ => ya3 t) (by simp [zai]) ?_
  refine xg [] rfl (by simp [zai]) ?_
  refine zac rfl (fun _ => zlm s) (by simp [zai]) ?_
  refine xg [] rfl (by simp [zai]) ?_
  refine zac rfl (fun _ => ya3 by') (by simp [zai]) ?_
  refine xg [] rfl (by simp [zai]) ?_
  cases hall : za8 t && zcp s && za8 by' with
  | false =>
    have hR : yc5 t s by' = (zTm, 2) := by simp only [yc5, hall, cond_false]
    refine zaa rfl (fun h => ?_) (fun h => ?_)
    · rw [hR] at hshape ⊢
      rw [← hshape]
      refine xd [] rfl (by simp) ?_
      refine zac rfl (fun _ => hnz) (by simp [zai]) ?_
      refine xg [] rfl (by simp [zai]) ?_
      refine zac rfl (fun _ => zmf) (by simp [zai]) ?_
      refine xg [] rfl (by simp [zai] <;> rfl) ?_
      exact zab ⟨_, rfl, tV rfl, trivial⟩
    · exfalso
      cases e1 : za8 t <;> cases e2 : zcp s <;> cases e3 : za8 by' <;> simp [e1, e2, e3] at h hall
  | true =>
    simp only [Bool.and_eq_true] at hall
    obtain ⟨⟨e1, e2⟩, e3⟩ := hall
    rw [e1, e2, e3]
    refine zaa rfl (fun h => by simp at h) (fun h => ?_)
    clear h
    have h60 := (zcs t e1).2.2.2
    have htn : zag t = true := by simp only [za8, Bool.and_eq_true] at e1; exact e1.2
    have h2 := zxs s by' e3 60 t h60 htn h60
    have hR : yc5 t s by' = bif za8 (zij t s by') then (zij t s by', 0) else (zTm, 3) := by simp only [yc5, e1, e2, e3, Bool.and_self, cond_true]
    have hd : rpl s by' (zcq by' [] []) 60 t = zij t s by' := rfl
    rw [hd] at h2
    obtain ⟨ro, rn, rx, rks, rps, hr⟩ := zhl (zij t s by')
    rw [hr] at h2 hR
    refine xd [] rfl (by simp) ?_
    refine zac rfl (fun _ => h2) (by simp) ?_
    refine xg [] rfl (by simp) ?_
    refine zac rfl (fun _ => ya3 (.mk ro rn rx rks rps)) (by simp) ?_
    refine xg [] rfl (by simp) ?_
    cases ht : za8 (.mk ro rn rx rks rps) with
    | false =>
      rw [ht, cond_false] at hR
      refine zaa rfl (fun h => ?_) (fun h => by simp at h)
      rw [hR] at hshape ⊢
      rw [← hshape]
      refine xd [] rfl (by simp) ?_
      refine zac rfl (fun _ => hnz) (by simp [zai]) ?_
      refine xg [] rfl (by simp [zai]) ?_
      refine zac rfl (fun _ => zmf) (by simp [zai]) ?_
      refine xg [] rfl (by simp [zai] <;> rfl) ?_
      exact zab ⟨_, rfl, tV rfl, trivial⟩
    | true =>
      rw [ht, cond_true] at hR
      refine zaa rfl (fun h => by simp at h) (fun h => ?_)
      rw [hR] at hshape ⊢
      rw [← hshape]
      refine xd [] rfl (by simp) ?_
      refine zac rfl (fun _ => ya5 (.mk ro rn rx rks rps) (.mk ro rn rx rks rps) (zfz ht)) (by simp [zai]) ?_
      rw [show zsu (.mk ro rn rx rks rps) (.mk ro rn rx rks rps) = true from (zpp _ _).2 rfl]
      refine xg [] rfl (by simp [zai]) ?_
      refine zac rfl (fun _ => zmf) (by simp [zai]) ?_
      refine xg [] rfl (by simp [zai] <;> rfl) ?_
      exact zab ⟨_, rfl, tV rfl, trivial⟩
end Go.Hk

/- From a function that returns true and changes nothing that was there to a law's row. -/
namespace Go.Hk
open Go.RowKit Go.WideShapes Go.ChangeShapes
theorem Ext.below {I I' : Imm} {μ μ' : Mu} {w w' : World} {st' : St} (h : Ext I μ [] w I' μ' st' w') : Below w.heap.size w w' :=
  ⟨h.os, h.tape, h.output, h.size, fun k hk => h.block k hk (by rintro ⟨id, blk, g, hl, _⟩; cases hl)⟩
theorem ykp {H : Type} {enc : TypeId × Value → H} {P : Program} {f : Func} {s : ChangeSpec} {apart fresh handsOn again : Bool} {W W' : World} {args : Array Value} {v : Value} {ds gs : List (DataW H)} {before pa pv : List MemPlace}
    (hW : DataW.Whole enc P f.params.toList s.vars apart W args.toList ds gs before) (hb : Below W.heap.size W W') (hps : before = pa ++ pv)
    (hres : ∀ (b : Nat) (sp : Nat → Bool) (hd : Bool), DataW.TrodAll enc P W' b sp hd f.resultTypes.toList (v.resultList f.resultTypes.size) (s.fn H (ds ++ gs)).results [])
    (hargs : ∀ sp : Nat → Bool, (∀ p ∈ before, sp p.block = true) → DataW.TrodAll enc P W' 0 sp true f.params.toList args.toList (s.fn H (ds ++ gs)).args pa)
    (hvars : ∀ sp : Nat → Bool, (∀ p ∈ before, sp p.block = true) → DataW.TrodVars enc P W' sp s.vars (s.fn H (ds ++ gs)).vars pv)
    (hok : ∀ (j : Nat) (t : TypeId) (r : Value), f.resultTypes[j]? = some t → (v.resultList f.resultTypes.size)[j]? = some r → Value.okWide P W' .any 0 t r) :
    s.post enc P f apart fresh handsOn again W args v W' := by
  have lt : ∀ p ∈ before, decide (p.block < W.heap.size) = true := fun p hp => by simpa using hW.lt p hp
  refine ⟨ds, gs, before, [], pa, pv, hW, hres _ _ _, hargs (fun b => decide (b < W.heap.size)) lt, hvars (fun b => decide (b < W.heap.size)) lt, World.keptBut_mono (fun p hp => ⟨hp, .inr ?_⟩) (hb.frame (· ∈ before)), fun _ => ⟨hok, ?_⟩⟩
  · rw [hps] at hp; exact List.mem_append.1 hp
  · have hlt := hW.lt
    obtain ⟨_, _, _, _, _, hz, hn⟩ := hW
    refine ⟨(s.fn H (ds ++ gs)).results ++ (s.fn H (ds ++ gs)).args, (s.fn H (ds ++ gs)).vars, pa ++ pv, ⟨pa, pv, ?_, hvars _ (fun _ _ => rfl), rfl, fun b off hp => ?_, fun ha => ?_⟩, fun p hp _ => by rw [hps]; exact hp⟩
    · have := trodAll_append (hargs (fun _ => true) fun _ _ => rfl) (hres 0 (fun _ => true) true)
      simpa using this
    · have hin : MemPlace.cell b off ∈ before := by rw [hps]; exact hp
      rw [hb.frozen (hlt _ hin)]
      exact hz b off hin
    · rw [← hps]; exact hn ha
end Go.Hk

/- Arguments read: what a row's reading of an argument says of it as data by value, where all that was there is held immutable. -/
namespace Go.Hk
def yem (W : World) : Imm := fun b => W.heap[b]?
theorem yni (W : World) : (yem W).ok W := fun _ _ h => h
def Rds (P : Program) (W : World) (n : Nat) (t : TypeId) (cs : List Value) : Prop :=
  ∃ (H : Type) (enc : TypeId × Value → H) (x : DataW H × List MemPlace), DataW.trod enc P W 0 (fun _ => true) true n t cs = some x
def RV (W : World) (cs : List Value) (xs : List V) : Prop := RepVL (yem W) cs xs ∧ ∀ c ∈ cs, c.oneCell' = true
theorem RV.app {W : World} {a b : List Value} {x y : List V} (h : RV W a x) (k : RV W b y) : RV W (a ++ b) (x ++ y) :=
  ⟨h.1.append k.1, fun c hc => (List.mem_append.1 hc).elim (h.2 c) (k.2 c)⟩
theorem RV.one {W : World} {v : Value} {x : V} (h : RepV (yem W) v x) (h1 : v.oneCell' = true) : RV W [v] [x] :=
  ⟨.mk h .nil, fun c hc => by simp at hc; rw [hc]; exact h1⟩
theorem RV.agg {W : World} {cs : Array Value} {xs : List V} (h : RV W cs.toList xs) : RepV (yem W) (.agg cs) (.agg xs) :=
  .agg _ _ (by simpa using h.1.1) h.2 (fun i c x a b => h.1.2 i c x (by simpa using a) b)
theorem RV.len {W : World} {cs : List Value} {xs : List V} (h : RV W cs xs) : cs.length = xs.length := h.1.1
section
variable {P : Program} {W : World} {tt : TT} {n : Nat} {t : TypeId} {cs : List Value}
theorem zvb {k : IntKind} {a : Bool} {sz by_ : Nat} {z : List D} (htt : TTok P tt) (hl : lk tt t = some ⟨.int k, a, sz, by_, z⟩) (h : Rds P W n t cs) : ∃ m, RV W cs [.int k m] ∧ (Lit.int k m).wf = true := by
  obtain ⟨H, enc, x, h⟩ := h
  have hu : P.underlying t = some (.int k) := htt.sh hl
  cases n with
  | zero => simp [DataW.trod] at h
  | succ n =>
    unfold DataW.trod at h
    rw [hu] at h
    split at h <;> simp_all
    rename_i k' m heq
    exact ⟨m, .one (.int _ _) rfl, h.1.2⟩
theorem rds_str {a : Bool} {sz by_ : Nat} {z : List D} (htt : TTok P tt) (hl : lk tt t = some ⟨.str, a, sz, by_, z⟩) (h : Rds P W n t cs) : ∃ s, RV W cs [.str s] ∧ s.length ≤ maxLen := by
  obtain ⟨H, enc, x, h⟩ := h
  have hu : P.underlying t = some .string := htt.sh hl
  cases n with
  | zero => simp [DataW.trod] at h
  | succ n =>
    unfold DataW.trod at h
    rw [hu] at h
    split at h <;> simp_all
    rename_i s
    exact ⟨s.data.toList, .one (.str _ _ rfl) rfl, by have := h.1; simpa using this⟩
theorem zv4 {a : Addr} {k : Nat} {cs' : List Value} (h : W.cells? 0 a k = some cs') (hk : 0 < k) : a.spot = none ∧ ∀ (j : Nat) (v : Value), cs'[j]? = some v → (yem W).cell a.block (a.off + j) = some v := by
  obtain ⟨_, h2, h3⟩ := World.cells?_some h
  have cell : ∀ (b : Addr) (v : Value), W.cell? b = some v → b.spot = none ∧ (yem W).cell b.block b.off = some v := by
    intro b v hb
    unfold World.cell? at hb
    split at hb
    · rename_i c t0 fz hh
      split at hb
      · cases hb
      · rename_i hs
        refine ⟨by cases h : b.spot with | none => rfl | some _ => rw [h] at hs; exact absurd rfl hs, ?_⟩
        unfold Imm.cell yem
        rw [hh]
        exact hb
    · cases hb
  have hs : a.spot = none := by
    have hlt : 0 < cs'.length := by omega
    have := h3 0 hk
    rw [List.getElem?_eq_getElem hlt] at this
    exact (cell (a.add 0) _ this).1
  refine ⟨hs, fun j v hv => ?_⟩
  have hj := (List.getElem?_eq_some_iff.1 hv).1
  have := (cell (a.add j) v (by rw [h3 j (by omega)]; exact hv)).2
  unfold Addr.add at this
  by_cases h0 : j = 0
  · subst h0; simpa using this
  · rw [if_neg h0] at this; exact this
theorem zqj {α : Type} {e : TypeId} {a : Bool} {sz by_ : Nat} {z : List D} {i : TyI} {d : α → List V} (htt : TTok P tt) (hl : lk tt t = some ⟨.sl e, a, sz, by_, z⟩) (hi : lk tt e = some i) (hpos : 0 < i.size)
    (hd : ∀ x, (d x).length = i.size) (hel : ∀ m, m < n → ∀ cs', Rds P W m e cs' → ∃ x, RV W cs' (d x)) (h : Rds P W n t cs) : ∃ xs : List α, RV W cs [.sl (xs.map d)] := by
  obtain ⟨H, enc, x, h⟩ := h
  have hu : P.underlying t = some (.slice e) := htt.sh hl
  have hce : P.cellsOf e = i.size := (htt e i hi).cellsOf
  rcases DataW.trod_slice hu h with ⟨rfl, _⟩ | ⟨ad, len, cap, elems, rest, m, rfl, rfl, _, _, h1, h2, h3, h4, h5, _⟩
  · exact ⟨[], .one .slnil rfl⟩
  rw [hce] at h4 h5
  have he : ∀ k, k < len → ∃ (cs' : List Value) (x : α), W.cells? 0 (ad.add (k * i.size)) i.size = some cs' ∧ RV W cs' (d x) := by
    intro k hk
    have := h4 k hk
    rw [List.getElem?_eq_getElem (by omega)] at this
    obtain ⟨cs', q1, q2⟩ := Option.bind_eq_some_iff.1 this
    obtain ⟨x, hx⟩ := hel m (by omega) cs' ⟨H, enc, _, q2⟩
    exact ⟨cs', x, q1, hx⟩
  have hch : ∃ (C : Nat → List Value) (X : Nat → Option α), ∀ k, k < len → ∃ x, X k = some x ∧ W.cells? 0 (ad.add (k * i.size)) i.size = some (C k) ∧ RV W (C k) (d x) := by
    classical
    refine ⟨fun k => if hk : k < len then (he k hk).choose else [], fun k => if hk : k < len then some ((he k hk).choose_spec.choose) else none, fun k hk => ?_⟩
    simp only [hk, dif_pos]
    exact ⟨_, rfl, (he k hk).choose_spec.choose_spec⟩
  obtain ⟨C, X, hCX⟩ := hch
  have hlist : ∀ l, l ≤ len → ∃ xs : List α, xs.length = l ∧ ∀ k x, xs[k]? = some x → X k = some x := by
    intro l
    induction l with
    | zero => exact fun _ => ⟨[], rfl, fun k x h => by simp at h⟩
    | succ l ih =>
      intro hl'
      obtain ⟨xs, q1, q2⟩ := ih (by omega)
      obtain ⟨x, hx, _⟩ := hCX l (by omega)
      refine ⟨xs ++ [x], by simp [q1], fun k y hy => ?_⟩
      by_cases hk : k < xs.length
      · rw [List.getElem?_append_left hk] at hy; exact q2 k y hy
      · rw [List.getElem?_append_right (by omega)] at hy
        have : k - xs.length = 0 := by
          have := (List.getElem?_eq_some_iff.1 hy).1
          simp at this; omega
        rw [this] at hy
        cases hy
        have : k = l := by omega
        rw [this]; exact hx
  obtain ⟨xs, hx1, hx2⟩ := hlist len (Nat.le_refl _)
  refine ⟨xs, .one ?_ rfl⟩
  by_cases hcap : cap = 0
  · have : len = 0 := by omega
    subst this; subst hcap
    have : xs = [] := List.eq_nil_of_length_eq_zero hx1
    subst this
    exact .sl0 ad
  have hspot : ad.spot = none := by
    by_cases hlen : 0 < len
    · obtain ⟨x, _, q, _⟩ := hCX 0 hlen
      have := (zv4 q hpos).1
      simpa [Addr.add] using this
    · have h6 := h5 rfl
      have h7 := h6.2 0 (by omega)
      rw [List.getElem?_eq_getElem (by omega)] at h7
      obtain ⟨cs', q1, q2⟩ := Option.bind_eq_some_iff.1 h7
      have := (zv4 q1 hpos).1
      have hl0 : len = 0 := by omega
      subst hl0
      simpa [Addr.add] using this
  obtain ⟨b, o, sp⟩ := ad
  simp only at hspot
  subst hspot
  have hget : ∀ (k : Nat) (e : List V), (xs.map d)[k]? = some e → k < len ∧ ∃ x, X k = some x ∧ e = d x ∧ W.cells? 0 ⟨b, o + k * i.size, none⟩ i.size = some (C k) ∧ RV W (C k) (d x) := by
    intro k e hk
    rw [List.getElem?_map, Option.map_eq_some_iff] at hk
    obtain ⟨x, q1, q2⟩ := hk
    have hlt := (List.getElem?_eq_some_iff.1 q1).1
    obtain ⟨y, r1, r2, r3⟩ := hCX k (by omega)
    rw [hx2 k x q1] at r1
    cases r1
    refine ⟨by omega, x, hx2 k x q1, q2.symm, ?_, r3⟩
    rw [← r2]
    congr 1
    unfold Addr.add
    by_cases h0 : k * i.size = 0
    · simp [h0]
    · simp [h0]
  refine .sl b o len cap i.size _ (fun k j => (C k).getD j undef) (by simp [hx1]) h1 h2 (fun e he => ?_) (fun k e j x hk hj => ?_) (fun k e j x hk hj => ?_)
  · obtain ⟨x, _, rfl⟩ := List.mem_map.1 he; exact hd x
  · obtain ⟨_, y, _, rfl, q3, q4⟩ := hget k e hk
    have hlt : j < (C k).length := by rw [q4.len]; exact (List.getElem?_eq_some_iff.1 hj).1
    have hv : (C k)[j]? = some ((C k)[j]) := List.getElem?_eq_getElem hlt
    have hD : (C k).getD j undef = (C k)[j] := by simp [List.getD, hv]
    show (yem W).cell b (o + k * i.size + j) = some ((C k).getD j undef) ∧ ((C k).getD j undef).oneCell' = true
    rw [hD]
    exact ⟨(zv4 q3 hpos).2 j _ hv, q4.2 _ (List.getElem_mem _)⟩
  · obtain ⟨_, y, _, rfl, q3, q4⟩ := hget k e hk
    have hlt : j < (C k).length := by rw [q4.len]; exact (List.getElem?_eq_some_iff.1 hj).1
    have hv : (C k)[j]? = some ((C k)[j]) := List.getElem?_eq_getElem hlt
    have hD : (C k).getD j undef = (C k)[j] := by simp [List.getD, hv]
    show RepV (yem W) ((C k).getD j undef) x
    rw [hD]
    exact q4.1.2 j _ x hv hj
theorem ztg {fs : List (Nat × TypeId)} {a : Bool} {sz by_ : Nat} {z : List D} (htt : TTok P tt) (hl : lk tt t = some ⟨.struct fs, a, sz, by_, z⟩) (h : Rds P W n t cs) :
    cs.length = sz ∧ ∃ m, n = m + 1 ∧ ∀ (j off : Nat) (ft : TypeId) (i : TyI), fs[j]? = some (off, ft) → lk tt ft = some i → Rds P W m ft ((cs.drop off).take i.size) := by
  obtain ⟨H, enc, x, h⟩ := h
  obtain ⟨fields, hu, hmap, _⟩ : ∃ fields, P.underlying t = some (.struct fields) ∧ fields.toList.map (fun f => (f.offset, f.type)) = fs ∧ ∀ f ∈ fields.toList, 0 < P.cellsOf f.type := htt.sh hl
  obtain ⟨xs, m, rfl, _, h1, h2, h3⟩ := DataW.trod_struct hu h
  refine ⟨by rw [h1]; exact (htt t _ hl).cellsOf, m, rfl, fun j off ft i hj hi => ?_⟩
  rw [← hmap, List.getElem?_map, Option.map_eq_some_iff] at hj
  obtain ⟨f, q1, q2⟩ := hj
  cases q2
  have hf : fields[j]? = some f := by rw [← Array.getElem?_toList]; exact q1
  have hlt := (Array.getElem?_eq_some_iff.1 hf).1
  have := h3 j f hf
  rw [List.getElem?_eq_getElem (by omega), (htt _ i hi).cellsOf] at this
  exact ⟨H, enc, _, this⟩
end
end Go.Hk

/- Arguments of layers 1 and 3 read: types, patterns, terms, modules. -/
namespace Go.Hk
open Go.Proofs
section
variable {W : World}
theorem four {α : Type} {l : List α} (h : l.length = 4) : ∃ a b c d, l = [a, b, c, d] := by
  match l, h with
  | [a, b, c, d], _ => exact ⟨a, b, c, d, rfl⟩
theorem five {α : Type} {l : List α} (h : l.length = 5) : ∃ a b c d e, l = [a, b, c, d, e] := by
  match l, h with
  | [a, b, c, d, e], _ => exact ⟨a, b, c, d, e, rfl⟩
theorem yco (l : List Ty) : l.map zb2 = zcf l := (zg3 l).symm
theorem ylf (l : List Tm) : l.map dTmc = zc2 l := (ze3 l).symm
theorem ygr (tt0 ts tl : TypeId) (hs : lk ttK tt0 = some ⟨.struct [(0, ts), (1, 3), (2, 9), (3, tl)], true, 4, 56, [.imm (.int .i64 0), .imm (.int .i64 0), .imm (.str []), .nils]⟩)
    (h1 : lk ttK ts = some ⟨.int .i64, false, 1, 8, [.imm (.int .i64 0)]⟩) (h2 : lk ttK tl = some ⟨.sl tt0, false, 1, 24, [.nils]⟩) :
    ∀ (n : Nat) (cs : List Value), Rds Tryz.prog W n tt0 cs → ∃ t : Ty, RV W cs (zb2 t) := by
  intro n
  induction n using Nat.strongRecOn with
  | ind n ih =>
    intro cs h
    obtain ⟨hl, m, rfl, hf⟩ := ztg zb7 hs h
    obtain ⟨a, b, c, d, rfl⟩ := four hl
    obtain ⟨s, r1, _⟩ := zvb zb7 h1 (hf 0 0 ts _ rfl h1)
    obtain ⟨k, r2, _⟩ := zvb zb7 rfl (hf 1 1 3 _ rfl rfl)
    obtain ⟨x, r3, _⟩ := rds_str zb7 rfl (hf 2 2 9 _ rfl rfl)
    obtain ⟨ps, r4⟩ := zqj (d := zb2) zb7 h2 hs (show 0 < 4 by decide) dTyc_length (fun m' hm cs' => ih m' (by omega) cs') (hf 3 3 tl _ rfl h2)
    exact ⟨.mk s k x ps, by rw [zb2, ← yco]; exact ((r1.app r2).app r3).app r4⟩
theorem yj5 (n : Nat) (cs : List Value) (h : Rds Tryz.prog W n 58 cs) : ∃ t : Ty, RV W cs (zb2 t) := ygr 58 56 24 rfl rfl rfl n cs h
set_option maxRecDepth 100000 in
theorem read_term : ∀ (n : Nat) (cs : List Value), Rds Tryz.prog W n 26 cs → ∃ t : Tm, RV W cs (dTmc t) := by
  intro n
  induction n using Nat.strongRecOn with
  | ind n ih =>
    intro cs h
    obtain ⟨hl, m, rfl, hf⟩ := ztg zb7 rfl h
    obtain ⟨a, b, c, d, e, rfl⟩ := five hl
    obtain ⟨s, r1, _⟩ := zvb zb7 rfl (hf 0 0 22 _ rfl rfl)
    obtain ⟨k, r2, _⟩ := zvb zb7 rfl (hf 1 1 3 _ rfl rfl)
    obtain ⟨x, r3, _⟩ := rds_str zb7 rfl (hf 2 2 9 _ rfl rfl)
    obtain ⟨ks, r4⟩ := zqj (d := dTmc) zb7 rfl (e := 26) rfl (by decide) dTmc_length (fun m' hm cs' => ih m' (by omega) cs') (hf 3 3 23 _ rfl rfl)
    obtain ⟨ps, r5⟩ := zqj (d := zb2) zb7 rfl (e := 58) rfl (by decide) dTyc_length (fun m' hm cs' => yj5 m' cs') (hf 4 4 24 _ rfl rfl)
    exact ⟨.mk s k x ks ps, by rw [dTmc, ← yco, ← ylf]; exact (((r1.app r2).app r3).app r4).app r5⟩
end
end Go.Hk

namespace Go.Hk
open Go.RowKit Go.WideShapes Go.ChangeShapes Go.ChangeAt
theorem zn3 {H : Type} {enc : TypeId × Value → H} {P : Program} (hl : laidOutB P = true) {W W' : World} (hb : Below W.heap.size W W') {sp : Nat → Bool} :
    ∀ {ts : List TypeId} {vs : List Value} {ds : List (DataW H)} {ps : List MemPlace}, ts.all (fun t => P.readableRec t && decide (t < P.types.size)) = true → DataW.TrodAll enc P W 0 (fun _ => true) true ts vs ds ps →
      (∀ p ∈ ps, p.block < W.heap.size) → (∀ p ∈ ps, sp p.block = true) → DataW.TrodAll enc P W' 0 sp true ts vs ds ps
  | [], [], [], _, _, h, _, _ => h
  | [], [], _ :: _, _, _, h, _, _ => h.elim
  | [], _ :: _, _, _, _, h, _, _ => h.elim
  | _ :: _, [], _, _, _, h, _, _ => h.elim
  | _ :: _, _ :: _, [], _, _, h, _, _ => h.elim
  | t :: ts, v :: vs, d :: ds, ps, ht, h, hlt, hs => by
    obtain ⟨p, q, h1, h2, rfl⟩ := h
    rw [List.all_cons, Bool.and_eq_true, Bool.and_eq_true, decide_eq_true_eq] at ht
    refine ⟨p, q, WideElems.Trod_stays hl ht.1.1 ht.1.2 h1 (fun x hx => hb.same (hlt x (List.mem_append_left _ hx))) (fun x hx => hs x (List.mem_append_left _ hx)), ?_, rfl⟩
    exact zn3 hl hb ht.2 h2 (fun x hx => hlt x (List.mem_append_right _ hx)) (fun x hx => hs x (List.mem_append_right _ hx))
theorem Rds.of {H : Type} {enc : TypeId × Value → H} {P : Program} {W : World} {t : TypeId} {v : Value} {d : DataW H} {ps : List MemPlace} (h : DataW.Trod enc P W 0 (fun _ => true) true t v d ps) : ∃ n, Rds P W n t v.cells.toList := by
  obtain ⟨n, hn⟩ := h
  exact ⟨n, H, enc, _, hn⟩
section
variable {H : Type} {enc : TypeId × Value → H} {P : Program} {W : World} {sp : Nat → Bool} {hd : Bool}
theorem yjm {vs : List Value} {ds : List (DataW H)} {ps : List MemPlace} (h : DataW.TrodAll enc P W 0 sp hd [] vs ds ps) : vs = [] ∧ ds = [] := by
  cases vs with
  | nil => cases ds with
    | nil => exact ⟨rfl, rfl⟩
    | cons => exact h.elim
  | cons => cases ds <;> exact h.elim
theorem zuu {t : TypeId} {ts : List TypeId} {vs : List Value} {ds : List (DataW H)} {ps : List MemPlace} (h : DataW.TrodAll enc P W 0 sp hd (t :: ts) vs ds ps) :
    ∃ v vs' d ds' p q, vs = v :: vs' ∧ ds = d :: ds' ∧ DataW.Trod enc P W 0 sp hd t v d p ∧ DataW.TrodAll enc P W 0 sp hd ts vs' ds' q := by
  cases vs with
  | nil => cases ds <;> exact h.elim
  | cons v vs => cases ds with
    | nil => exact h.elim
    | cons d ds =>
      obtain ⟨p, q, h1, h2, _⟩ := h
      exact ⟨v, vs, d, ds, p, q, rfl, rfl, h1, h2⟩
theorem yjl {t : TypeId} {vs : List Value} {ds : List (DataW H)} {ps : List MemPlace} (h : DataW.TrodAll enc P W 0 sp hd [t] vs ds ps) : ∃ v d p, vs = [v] ∧ ds = [d] ∧ DataW.Trod enc P W 0 sp hd t v d p := by
  obtain ⟨v, vs', d, ds', p, q, rfl, rfl, h1, h2⟩ := zuu h
  obtain ⟨rfl, rfl⟩ := yjm h2
  exact ⟨v, d, p, rfl, rfl, h1⟩
theorem yjk {t u : TypeId} {vs : List Value} {ds : List (DataW H)} {ps : List MemPlace} (h : DataW.TrodAll enc P W 0 sp hd [t, u] vs ds ps) :
    ∃ v w d e p q, vs = [v, w] ∧ ds = [d, e] ∧ DataW.Trod enc P W 0 sp hd t v d p ∧ DataW.Trod enc P W 0 sp hd u w e q := by
  obtain ⟨v, vs', d, ds', p, q, rfl, rfl, h1, h2⟩ := zuu h
  obtain ⟨w, e, q, rfl, rfl, h3⟩ := yjl h2
  exact ⟨v, w, d, e, p, q, rfl, rfl, h1, h3⟩
theorem trodAll3 {t u x : TypeId} {vs : List Value} {ds : List (DataW H)} {ps : List MemPlace} (h : DataW.TrodAll enc P W 0 sp hd [t, u, x] vs ds ps) :
    ∃ v w y d e f p q r, vs = [v, w, y] ∧ ds = [d, e, f] ∧ DataW.Trod enc P W 0 sp hd t v d p ∧ DataW.Trod enc P W 0 sp hd u w e q ∧ DataW.Trod enc P W 0 sp hd x y f r := by
  obtain ⟨v, vs', d, ds', p, q, rfl, rfl, h1, h2⟩ := zuu h
  obtain ⟨w, y, e, f, q, r, rfl, rfl, h3, h4⟩ := yjk h2
  exact ⟨v, w, y, d, e, f, p, q, r, rfl, rfl, h1, h3, h4⟩
end
theorem agg_of {P : Program} {W : World} {base : Nat} {t : TypeId} {v : Value} {fs : Array Field} (hu : P.underlying t = some (.struct fs)) (h : Value.okWide P W .any base t v) : ∃ cs, v = .agg cs := by
  unfold Value.okWide at h
  rw [hu] at h
  obtain ⟨cs, e, _⟩ := h
  exact ⟨cs, e⟩
theorem one_of {P : Program} {W : World} {base : Nat} {t : TypeId} {v : Value} {x : V} (h : Value.okWide P W .any base t v) (hu : P.underlying t = some .string ∨ ∃ e, P.underlying t = some (.slice e)) (hr : RV W v.cells.toList [x]) : RepV (yem W) v x := by
  have hc : v.cells = #[v] := by
    cases v <;> first
      | rfl
      | (exfalso
         unfold Value.okWide at h
         rcases hu with hu | ⟨e, hu⟩ <;> (rw [hu] at h; unfold Cell.okWide Cell.ok at h; rw [hu] at h; exact h))
  rw [hc] at hr
  exact hr.1.2 0 v x rfl rfl
theorem zv7 {P : Program} {f : FuncId} {fn : Func} {c : Code} (hf : P.funcs[f]? = some fn) (hname : (fn.name == "runtime.NumGoroutine") = false) (hb : fn.body = some c) {W : World} {args : Array Value} {vs : List V} {b : Bool} (hv : RepVL (yem W) args.toList vs) (hp : zau P f vs (.bool b)) :
    Calls P f args W fun e W' => e = .returned (.bool b) ∧ Below W.heap.size W W' := by
  have h := hp (yem W) (fun _ => none) W args { imm := yni W, blk := fun id blk hl => (by cases hl), apart := fun id blk g b hl => (by cases hl), inj := fun i j bi bj gi gj b hl => (by cases hl), nodup := .nil, idsFree := fun id hi => (by cases hi) }
    ⟨by simpa using hv.1, fun i v d h1 h2 => by
      rw [List.getElem?_map, Option.map_eq_some_iff] at h2
      obtain ⟨x, q1, rfl⟩ := h2
      exact .imm _ _ (hv.2 i v x h1 q1)⟩
  rw [run_callFunc_body hf hname hb] at h
  refine Calls.mono h fun e w' he => ?_
  cases e with
  | returned v =>
    obtain ⟨I', μ', h1, _, _, h4⟩ := he
    cases h1 with
    | imm v x hx =>
      cases hx
      exact ⟨rfl, h4.below⟩
  | panicked => exact he.elim
  | outgrown => exact he.elim
theorem law_done {H : Type} {enc : TypeId × Value → H} {P : Program} {f : FuncId} {fn : Func} {c : Code} {s : ChangeSpec} {apart fresh handsOn again : Bool} {W : World} {args : Array Value} {ds gs : List (DataW H)} {before : List MemPlace} {tb : TypeId} {vs : List V}
    (hW : DataW.Whole enc P fn.params.toList s.vars apart W args.toList ds gs before) (hv : s.vars = []) (hf : P.funcs[f]? = some fn) (hname : (fn.name == "runtime.NumGoroutine") = false) (hb : fn.body = some c) (hrt : fn.resultTypes = #[tb]) (hbool : P.underlying tb = some .bool)
    (hl : laidOutB P = true) (hpar : fn.params.toList.all (fun t => P.readableRec t && decide (t < P.types.size)) = true) (hs : s.fn H ds = { results := [.lit (.bool true)], args := ds }) (hx : RepVL (yem W) args.toList vs) (hp : zau P f vs (.bool true)) :
    Calls P f args W fun e W' => ∃ v, e = .returned v ∧ s.post enc P fn apart fresh handsOn again W args v W' := by
  refine (zv7 hf hname hb hx hp).mono fun e W' ⟨he, hg⟩ => ?_
  subst he
  have hW' := hW
  obtain ⟨p, q, hA, hV, e1, hfz, hnd⟩ := hW
  rw [hv] at hV
  have hg0 : gs = [] ∧ q = [] := by
    cases gs with
    | nil => exact ⟨rfl, hV⟩
    | cons => exact hV.elim
  obtain ⟨rfl, rfl⟩ := hg0
  rw [List.append_nil] at e1
  subst e1
  have hlt := hW'.lt
  refine ⟨_, rfl, ykp (pa := before) (pv := []) hW' hg (by simp) (fun b sp hd => ?_) (fun sp hsp => ?_) (fun sp hsp => ?_) ?_⟩
  · rw [List.append_nil, hs, hrt]
    exact trodAll_cons_mk (shut_bool hbool _) trodAll_mk0
  · rw [List.append_nil, hs]
    exact zn3 hl hg hpar hA hlt hsp
  · rw [List.append_nil, hs, hv]; rfl
  · exact ok_one hrt rfl (okWide_bool_mk hbool _)
end Go.Hk
