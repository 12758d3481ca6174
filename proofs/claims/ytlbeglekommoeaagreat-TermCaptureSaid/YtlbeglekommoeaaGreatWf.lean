/- From a contract by value, `it returns true', to a law's row: arguments read, what was there is kept. (And what it stands on.) -/
import Derived.Test.YtlbeglekommoeaaGreatWe
import Derived.Test.YtlbeglekommoeaaGreatWd
import Derived.Test.YtlbeglekommoeaaGreatWb
import Derived.Below
import Derived.ChangeSame
import Derived.ChangeOld
import Derived.Carry
import Derived.ChangeArms
import Derived.DataReads
import Derived.WideKeyArgs
import Derived.OpenShut
import Derived.RowKit
import Derived.ProofKit
set_option linter.unusedSimpArgs false
set_option linter.unusedVariables false

/- Contract of replacer.in. -/
namespace Go.Hk
open Go.Proofs
theorem zqj {t T U : Tm} (h : zoq t T) (k : zoq T U) : zoq t U := by
  obtain ⟨op, n, y, ks, ps, y', ks', ps', rfl, rfl, h1, h2, h3⟩ := h
  obtain ⟨_, _, _, _, _, y2, ks2, ps2, e, rfl, k1, k2, k3⟩ := k
  cases e
  exact ⟨op, n, y, ks, ps, y2, ks2, ps2, rfl, rfl, k1.trans h1, k2.trans h2, fun m => (k3 m).trans (h3 m)⟩
theorem zc7 : ∀ {l : List Tm} {i : Nat} {k : Tm}, zas l = true → l[i]? = some k → zag k = true
  | [], i, k, _, h => by simp at h
  | a :: r, 0, k, h, hk => by
    simp at hk; subst hk
    simp only [zas, Bool.and_eq_true] at h; exact h.1
  | a :: r, i + 1, k, h, hk => by
    simp only [zas, Bool.and_eq_true] at h
    exact zc7 h.2 (by simpa using hk)
theorem zeh : ∀ {l : List Tm} {i : Nat} {k : Tm}, l[i]? = some k → zcx k ≤ zco l
  | [], i, k, h => by simp at h
  | a :: r, 0, k, h => by simp at h; subst h; simp only [zco]; omega
  | a :: r, i + 1, k, h => by
    have := zeh (l := r) (i := i) (k := k) (by simpa using h)
    simp only [zco]; omega
theorem skK_im {op n : Int} {x : Str} {v u : Value} {js qs : List An} {i : Nat} (h : i < js.length) : skK (er (.mk true op n x v (zu4 js) u qs)) i = some (.im true [] []) := by
  simp only [er, skK, zh8, List.getElem?_map, zu4]
  rw [List.getElem?_eq_getElem h]; rfl
set_option maxRecDepth 100000 in
theorem yfw (nm : Str) (by' : Tm) (fr : List Str) (hby : zj8 by') (hfl : fr.length ≤ 60) (hfs : ∀ s ∈ nm :: fr, s.length ≤ 8) : ∀ (N : Nat) (t : Tm), zcx t ≤ N → zag t = true → zcx t ≤ 60 →
    zc5 Tryz.prog 37 [.agg (rD nm by' 7), .imm (.agg (dTmc t))] [(7, some (.map (zem fr)))] (.ret (.imm (.agg (dTmc (rpl nm by' fr N t)))) [(7, some (.map (zem fr)))])
  | 0, t, hc, hn, h60 => by have := zla t; omega
  | N + 1, t, hc, hn, h60 => by
    have hw := zt7 t hn (by omega)
    have hp := (zhj t hn (by omega)).2
    obtain ⟨op, n, x, ks, ps⟩ := t
    obtain ⟨bo, bn, bx, bks, bps⟩ := by'
    refine zaf ttX_ok Tryz.func37 (by decide +kernel) rfl [2, 3, 4, 1, 5, 20, 8, 9, 10, 11, 12, 13, 14, 15, 6, 16, 17, 18, 19, 21, 22] rfl rfl ?_
    refine xg [] rfl (by simp) ?_
    refine zi8 rfl ?_
    refine xg [] rfl (by simp) ?_
    refine zar (fr := []) [(1, 1)] [] rfl (by simp) (zqt (.mk op n x ks ps) [] [] hp) ⟨⟨rfl, rfl, rfl⟩, trivial⟩ rfl rfl rfl rfl ?_
    refine xg [] rfl (by simp) ?_
    refine zm8 ttX_ok 1 rfl rfl rfl (zc0 _) (by simp [zai]) (z := .bool false) rfl (fun _ => .bool _) (zgv _ nm) ?_
    refine xg [] rfl (by simp [zai]) ?_
    refine zab rfl (fun h => ?_) (fun h => ?_)
    · refine xd [] rfl (by simp) ?_
      refine zar (fr := [5]) [] [(1, 5)] rfl (by simp) (zg6 (.mk op n x ks ps) hw) trivial rfl rfl rfl rfl ?_
      refine xg [] rfl (by simp) ?_
      refine zgk (ids' := [8, 9, 10, 11, 12, 13, 14, 15, 6, 16, 17, 18, 19, 21, 22]) 5 20 (fun y : { y : Value × List An × Value × List An // (vAs y.2.1 = zdg ks ∧ vAs y.2.2.2 = zcf ps) ∧ zcw y.2.1 ∧ zcw y.2.2.2 } => [y.1.1, y.1.2.2.1]) (fun y => zyt (.mk true op n x y.1.1 y.1.2.1 y.1.2.2.1 y.1.2.2.2)) rfl (fun vs I w bs h => zje h) fun y => ?_
      obtain ⟨⟨v, js, u, qs⟩, ⟨h5, h6⟩, hf1, hf2⟩ := y
      refine ze5 20 4 (dTmc (.mk op n x ks ps)) rfl rfl (fun vs I J w bs h1 h2 h3 cs hc => zud h5 h6 h1 h2 h3 cs hc) rfl ?_
      have hno : zbp (zc9 (.mk op n x ks ps) [] []) nm = false := by simpa using h
      rw [show rpl nm (.mk bo bn bx bks bps) fr (N + 1) (.mk op n x ks ps) = .mk op n x ks ps by simp only [rpl, hno, Bool.false_eq_true, if_false]]
      exact zaa ⟨_, rfl, tV rfl, rfl, trivial⟩
    have hyes : zbp (zc9 (.mk op n x ks ps) [] []) nm = true := by simpa using h
    clear h
    refine xd [] rfl (by simp) ?_
    refine zab rfl (fun h => ?_) (fun h => ?_)
    · have e : op = 4 := by simpa using h
      refine xd [] rfl (by simp) ?_
      refine zar (fr := [5]) [] [(1, 5)] rfl (by simp) (zg6 (.mk bo bn bx bks bps) hby) trivial rfl rfl rfl rfl ?_
      refine xg [] rfl (by simp) ?_
      refine zgk (ids' := [8, 9, 10, 11, 12, 13, 14, 15, 6, 16, 17, 18, 19, 21, 22]) 5 20 (fun y : { y : Value × List An × Value × List An // (vAs y.2.1 = zdg bks ∧ vAs y.2.2.2 = zcf bps) ∧ zcw y.2.1 ∧ zcw y.2.2.2 } => [y.1.1, y.1.2.2.1]) (fun y => zyt (.mk true bo bn bx y.1.1 y.1.2.1 y.1.2.2.1 y.1.2.2.2)) rfl (fun vs I w bs h => zje h) fun y => ?_
      obtain ⟨⟨v, js, u, qs⟩, ⟨h5, h6⟩, hf1, hf2⟩ := y
      refine ze5 20 4 (dTmc (.mk bo bn bx bks bps)) rfl rfl (fun vs I J w bs h1 h2 h3 cs hc => zud h5 h6 h1 h2 h3 cs hc) rfl ?_
      rw [show rpl nm (.mk bo bn bx bks bps) fr (N + 1) (.mk op n x ks ps) = .mk bo bn bx bks bps by simp only [rpl]; rw [if_pos hyes, if_pos e]]
      exact zaa ⟨_, rfl, tV rfl, rfl, trivial⟩
    have e : op ≠ 4 := by simpa using h
    clear h
    refine yhw 7 rfl fun bm es clock hes hst => ?_
    refine xd [] rfl (by simp) ?_
    refine zar (fr := [5]) [] [(1, 5)] rfl (by simp) (zg6 (.mk op n x ks ps) hw) trivial rfl rfl rfl rfl ?_
    refine xg [] rfl (by simp) ?_
    refine zi8 rfl ?_
    refine xg [] rfl (by simp) ?_
    refine zoa ttX_ok rfl rfl rfl (by simp) ?_
    refine xg [] rfl (by simp) ?_
    refine ykb ttX_ok rfl ?_
    refine xg [] rfl (by simp) ?_
    have hlen : es.size = fr.length := by simpa [zem] using hes
    refine zak (fun _ : Array Nat × List Str => [(37, .iter 9), (2, .ref 2 0), (3, .ref 3 0), (4, .ref 4 0), (6, .ref 8 0)])
      (fun y => [(2, some (.cells 63 7 (rD nm (.mk bo bn bx bks bps) 7))), (3, some (.cells 26 5 [.imm (.int .i64 op), .imm (.int .i64 n), .imm (.str x), .hv 5 0, .hv 5 1])), (4, some (.cells 26 5 [.imm (.int .i64 0), .imm (.int .i64 0), .imm (.str []), .nils, .nils])), (5, some (.hp (zvx true (dTmc (.mk op n x ks ps))))),
        (20, some (.map (zem y.2))), (7, some (.mapx (zem fr) bm es clock)), (8, some (.cells 61 1 [.mapr 20])), (9, some (.miter bm clock y.1 clock))]) [10, 11, 12, 13, 14, 15, 6, 16, 17, 18, 19, 21, 22]
      (fun y => (leftOf es y.1).size) (fun y => y.2.length + (leftOf es y.1).size ≤ 1 + fr.length ∧ ∀ s, s ∈ y.2 ↔ s = nm ∨ ∃ (j : Nat) (e : MapEntry), es[j]? = some e ∧ y.1.contains e.born = true ∧ fr[j]? = some s) (#[], [nm])
      ⟨by simp only [List.length_singleton]; have := ymq es #[]; omega, fun s => by simp⟩ ⟨rfl, rfl, rfl, rfl, rfl, trivial⟩ ⟨rfl, rfl, rfl, rfl, rfl, rfl, rfl, rfl, trivial⟩ rfl fun y hi ih => ?_
    obtain ⟨seen, m⟩ := y
    obtain ⟨hi1, hi2⟩ := hi
    simp only at hi1 hi2
    refine xd [] rfl (by simp) ?_
    refine ymy 7 rfl rfl (fun x hx => hst.1 x hx) (Nat.le_refl _) (by decide) fun z hz => ?_
    rcases z with _ | ⟨j, e1⟩
    rotate_left
    · obtain ⟨hz1, hz2⟩ := hz
      obtain ⟨s, hs⟩ : ∃ s, fr[j]? = some s := zal (by rw [← hlen]; exact (Array.getElem?_eq_some_iff.1 hz1).1)
      have hkv : (zem fr)[j]? = some (.str s, .bool true) := by simp [zem, hs]
      have hD : ygn (zem fr) (some (j, e1)) = .imm (.tup [.bool true, .str s, .bool true]) := by simp only [ygn, hkv]
      rw [hD]
      refine xd [] rfl (by simp) ?_
      refine zab rfl (fun h => ?_) (fun h => by simp at h)
      refine xd [] rfl (by simp) ?_
      refine ykc 7 rfl rfl rfl rfl hz1 hkv ?_
      refine xg [] rfl (by simp) ?_
      refine zoa ttX_ok rfl rfl rfl (zc0 m) ?_
      rw [zlp]
      refine xg [] rfl (by simp) ?_
      have hsh := left_shrinks es seen e1 hz2
      have hal := zvu m s
      refine zae (ih (seen.push e1.born, zlj m s) hsh ⟨by simp only; omega, fun y => ?_⟩) ⟨rfl, rfl, rfl, rfl, rfl, trivial⟩ ⟨rfl, rfl, rfl, rfl, rfl, rfl, rfl, rfl, trivial⟩ rfl
      simp only [zuv, hi2 y]
      constructor
      · rintro ((h1 | ⟨j', e', q1, q2, q3⟩) | h1)
        · exact .inl h1
        · exact .inr ⟨j', e', q1, by rw [contains_push, q2, Bool.true_or], q3⟩
        · subst h1; exact .inr ⟨j, e1, hz1, by rw [contains_push]; simp, hs⟩
      · rintro (h1 | ⟨j', e', q1, q2, q3⟩)
        · exact .inl (.inl h1)
        · rw [contains_push, Bool.or_eq_true] at q2
          rcases q2 with q2 | q2
          · exact .inl (.inr ⟨j', e', q1, q2, q3⟩)
          · right
            have hb : e'.born = e1.born := by simpa using q2
            have hjj : j' = j := by
              have hnd := hst.2.1
              have g1 : (es.toList.map (·.born))[j']? = some e'.born := by simp [q1]
              have g2 : (es.toList.map (·.born))[j]? = some e1.born := by simp [hz1]
              rw [hb] at g1
              exact (List.getElem?_inj (List.getElem?_eq_some_iff.1 g1).1 hnd).1 (g1.trans g2.symm)
            subst hjj
            rw [q3] at hs; cases hs; rfl
    have hz : (leftOf es seen).size = 0 := hz
    have hm1 : ∀ s, s ∈ m ↔ s = nm ∨ s ∈ fr := fun s => by
      rw [hi2 s]
      constructor
      · rintro (h | ⟨j, e, _, _, h⟩)
        · exact .inl h
        · exact .inr (List.mem_of_getElem? h)
      · rintro (h | h)
        · exact .inl h
        · obtain ⟨j, hj⟩ := List.getElem?_of_mem h
          obtain ⟨e, he⟩ : ∃ e, es[j]? = some e := ⟨_, Array.getElem?_eq_getElem (by rw [hlen]; exact (List.getElem?_eq_some_iff.1 hj).1)⟩
          exact .inr ⟨j, e, he, ygu hz he, hj⟩
    have hml : m.length ≤ 61 := by omega
    clear ih hi1 hi2
    refine xd [] rfl (by simp) ?_
    refine zab rfl (fun h => by simp at h) (fun h => ?_)
    refine za2 rfl ?_
    refine yd6 7 rfl ?_
    refine zgk (ids' := [11, 12, 13, 14, 15, 6, 16, 17, 18, 19, 21, 22]) 5 10 (fun y : { y : Value × List An × Value × List An // (vAs y.2.1 = zdg ks ∧ vAs y.2.2.2 = zcf ps) ∧ zcw y.2.1 ∧ zcw y.2.2.2 } => [y.1.1, y.1.2.2.1]) (fun y => zyt (.mk true op n x y.1.1 y.1.2.1 y.1.2.2.1 y.1.2.2.2)) rfl (fun vs I w bs h => zje h) fun y => ?_
    obtain ⟨⟨v, js, u, qs⟩, ⟨h5, h6⟩, hf1, hf2⟩ := y
    simp only at h5 h6 hf1 hf2
    refine zog (ids' := [12, 13, 14, 15, 6, 16, 17, 18, 19, 21, 22]) 3 11 rfl rfl fun b => ?_
    have hva : vA (.mk true op n x v (zu4 js) u qs) = dTmc (.mk op n x ks ps) := by simp only [vA, dTmc, yao, h5, h6]
    have hjl : js.length = ks.length := by have := congrArg List.length h5; simpa using this
    refine zz6 (ids' := [13, 14, 15, 6, 16, 17, 18, 19, 21, 22]) 10 11 12 (fun _ : Unit => zid b (.mk true op n x v js u qs)) rfl rfl (by decide) (fun vs us I w b1 b2 h1 h2 hd => ⟨(), b :: b1, fun k hk => ?_, ?_⟩) fun _ => ?_
    · obtain ⟨e, _⟩ := h2
      rcases List.mem_cons.1 hk with rfl | hk
      · right; simp [e]
      · exact .inl hk
    · obtain ⟨e1, e2, e3⟩ := h1
      obtain ⟨e, cur, z1, z2, z3⟩ := h2
      have hcs : cur.toList = cA (.mk true op n x v js u qs) := by
        obtain ⟨cur⟩ := cur
        have hl := z2.1
        match cur, hl with
        | [c0, c1, c2, c3, c4], _ =>
          have e0 := (z2.2 0 _ _ rfl rfl).immInv.intInv
          have e1 := (z2.2 1 _ _ rfl rfl).immInv.intInv
          have e2 := (z2.2 2 _ _ rfl rfl).immInv.strEq
          have e3 := (z2.2 3 _ _ rfl rfl).rawInv
          have e4 := (z2.2 4 _ _ rfl rfl).rawInv
          rw [e0, e1, e2, e3, e4]; rfl
      refine ⟨by rw [e1], List.nodup_cons.2 ⟨fun hb => hd b hb (by simp [e]), e2⟩, rfl, ⟨cur, z1, ?_⟩, ⟨cur, _, _, z1, fun j c hj => ?_⟩, e3⟩
      · have := congrArg List.length hcs; simpa [cA] using this
      · rw [← hcs] at hj; simpa using hj
    obtain ⟨sk, hsk⟩ : ∃ sk, sk = er (.mk true op n x v (zu4 js) u qs) := ⟨_, rfl⟩
    refine yd8 (ids' := [14, 15, 6, 16, 17, 18, 19, 21, 22]) 12 13 (fun _ : Unit => zck b sk (.mk op n x ks ps)) rfl (fun vs I w bs h => by
      obtain ⟨b1, q1, q2⟩ := ymf h
      exact ⟨(), b1, q1, fun J hJ hk => ⟨_, hsk.symm, hva, q2 J hJ hk⟩⟩) fun _ => ?_
    have hskK : ∀ i, i < ks.length → skK sk i = some (.im true [] []) := fun i hi => by rw [hsk]; exact skK_im (by omega)
    have hsk : sk = .mk true op n [] v (ers (zu4 js)) u (ers qs) := hsk
    have hfQ : yd1 sk := by rw [hsk]; exact (zeu qs).2 hf2
    have hkl : ks.length ≤ 1000000 := hw.1
    refine zd2 13 (fun _ : { _y : Unit // zhr sk (.mk op n x ks ps) } => zck b sk (.mk op n x ks ps)) rfl (fun vs I w bs h => ⟨⟨(), yhq hfQ hw.2.2.1 h⟩, h⟩) fun z => ?_
    obtain ⟨_, hfine⟩ := z
    have hv : ∃ ad c, v = .slice ad ks.length c ∧ (0 < ks.length → ∃ rb, ad = some ⟨rb, 0, none⟩) := by
      obtain ⟨a, o', n', x', ad, c, ks', u', qs', h1, h2, h3, _, _, h4, _⟩ := hfine
      obtain ⟨tks, tps, h5, h6, _⟩ := zlw h3 h2
      cases h5
      rw [hsk, h3] at h1
      simp only [er, An.mk.injEq] at h1
      exact ⟨ad, c, by rw [← h1.2.2.2.2.1, h6], by rw [← h6]; exact h4⟩
    obtain ⟨ad, c, rfl, hadr⟩ := hv
    refine xd [] rfl (by simp) ?_
    refine zbn ttX_ok 13 [.imm (.int .i64 op), .imm (.int .i64 n), .imm (.str x), .raw (.slice ad ks.length c), .raw u] rfl rfl (fun _ vs I w bs h => zk1 hsk rfl h) rfl rfl (by simp) ?_
    refine xg [] rfl (by simp) ?_
    refine zar (fr := []) [(13, 2), (20, 1)] [] rfl (by simp) (zwm b sk (.mk op n x ks ps) m op n x [] (.slice ad ks.length c) (ers (zu4 js)) u (ers qs) ks ps hsk rfl hp) ⟨⟨rfl, rfl, rfl⟩, ⟨rfl, rfl, rfl⟩, trivial⟩ rfl rfl rfl rfl ?_
    refine xg [] rfl (by simp) ?_
    refine zbn ttX_ok 13 [.raw (.slice ad ks.length c)] rfl rfl (fun _ vs I w bs h => (zd5 (by rw [hsk] at h; exact h)).1) rfl rfl (by simp) ?_
    refine xg [] rfl (by simp) ?_
    have hnm := hn
    simp only [zag, Bool.and_eq_true] at hnm
    have hK6 := ztb hnm.1.1
    have hocc := zzc (.mk op n x ks ps) hn
    have hbnd := ykx (op := op) (n := n) (x := x) (ks := ks) hnm.1.2 ks.length 0
    have hstl := zpk (.mk op n x ks ps) m
    have hsame : ycm (zc8 (.mk op n x ks ps) m) (nm :: fr ++ zbm (.mk op n x ks ps)) := fun s => by
      rw [zqa, hm1 s, List.mem_append, List.mem_cons]
    have hsh1 : ∀ s ∈ zc8 (.mk op n x ks ps) m, s.length ≤ 8 := fun s hs => by
      rcases List.mem_append.1 ((hsame s).1 hs) with h | h
      · exact hfs s h
      · exact zp8 (zpl _ hn s h)
    have hfin : rpl nm (.mk bo bn bx bks bps) fr (N + 1) (.mk op n x ks ps) = lpR (rpl nm (.mk bo bn bx bks bps) fr N) nm fr ks.length 0 (.mk op n x ks ps) (zc8 (.mk op n x ks ps) m) := by
      rw [rpl, if_pos hyes, if_neg e]
      exact (zxn _ nm fr ks.length 0 _ _ _ hsame).symm
    rw [hfin]
    generalize hm1' : zc8 (.mk op n x ks ps) m = m1 at *
    generalize hrp : lpR (rpl nm (.mk bo bn bx bks bps) fr N) nm fr ks.length 0 (.mk op n x ks ps) m1 = res
    refine zak (fun y : Nat × Tm × List Str => [(50, .imm (.int .i64 y.1)), (49, .imm (.int .i64 ks.length)), (2, .ref 2 0), (3, .raw (.pointer (some ⟨b, 0, none⟩))), (4, .ref 4 0), (6, .ref 8 0)])
      (fun y => [(2, some (.cells 63 7 (rD nm (.mk bo bn bx bks bps) 7))), (4, some (.cells 26 5 [.imm (.int .i64 0), .imm (.int .i64 0), .imm (.str []), .nils, .nils])), (7, some (.map (zem fr))), (13, some (.hp (zck b sk y.2.1))), (20, some (.map (zem y.2.2))), (8, some (.cells 61 1 [.mapr 20]))]) [14, 15, 6, 16, 17, 18, 19, 21, 22]
      (fun y => ks.length - y.1) (fun y => y.1 ≤ ks.length ∧ zhr sk y.2.1 ∧ zoq (.mk op n x ks ps) y.2.1 ∧ (∀ l k, y.1 ≤ l → ks[l]? = some k → tmK y.2.1 l = some k) ∧ y.2.2.length + zgp (.mk op n x ks ps) (ks.length - y.1) y.1 ≤ 699 ∧ (∀ s ∈ y.2.2, s.length ≤ 8) ∧
        lpR (rpl nm (.mk bo bn bx bks bps) fr N) nm fr (ks.length - y.1) y.1 y.2.1 y.2.2 = res) (0, .mk op n x ks ps, m1)
      ⟨Nat.zero_le _, hfine, zjv _, fun l k _ h => h, by simp only [Nat.sub_zero]; omega, hsh1, hrp⟩ ⟨rfl, rfl, rfl, rfl, rfl, rfl, trivial⟩ ⟨rfl, rfl, rfl, rfl, rfl, rfl, trivial⟩ rfl fun y hi ih => ?_
    obtain ⟨i, T, tm⟩ := y
    obtain ⟨d1, d2, d3, d4, d5, d6, d7⟩ := hi
    simp only at d1 d2 d3 d4 d5 d6 d7
    refine xd [] rfl (by simp) ?_
    refine zab rfl (fun h => ?_) (fun h => ?_)
    · simp at h
      obtain ⟨kid, hkid⟩ : ∃ kid, ks[i]? = some kid := zal h
      have hkT := d4 i kid (Nat.le_refl _) hkid
      obtain ⟨p1, p2, p3, p4, p5, x1, kn, ps1, hT1, hT, hl1, hl2, hbl⟩ := d3
      cases hT1
      subst hT
      refine xd [] rfl (by simp) ?_
      have hbi : (zad (.mk op n x1 kn ps1) i).length ≤ 8 := by rw [hbl]; exact yh8 hnm.1.2 i
      refine zar (fr := [15]) [(13, 1)] [(4, 15)] rfl (by simp) (yc6 b sk op n x1 kn ps1 i (by omega) (fun ho hp2 => by
        simp only [zad, if_pos hp2] at hbi
        cases hg : ps1[((i : Int) - 1).toNat]? with
        | none =>
          exfalso
          have := zm2 hnm.1.1 hp2 h
          rw [List.getElem?_eq_none_iff] at hg; omega
        | some q =>
          refine ⟨q, rfl, ?_⟩
          simp only [hg, ho, Bool.false_eq_true, if_false] at hbi
          omega)) ⟨⟨rfl, rfl, rfl⟩, trivial⟩ rfl rfl rfl rfl ?_
      refine xg [] rfl (by simp) ?_
      obtain ⟨rb, hrb⟩ : ∃ rb, rb = zgc fr i (.mk op n x1 kn ps1) tm (zad (.mk op n x1 kn ps1) i).length := ⟨_, rfl⟩
      have hskI := hskK i h
      have hknd : zag kid = true := zc7 hnm.2 hkid
      have hbS : zgp (.mk op n x ks ps) (ks.length - i) i = (zad (.mk op n x1 kn ps1) i).length + zgp (.mk op n x ks ps) (ks.length - (i + 1)) (i + 1) := by
        rw [show ks.length - i = (ks.length - (i + 1)) + 1 by omega, hbl]; rfl
      have hml9 : tm.length + (zad (.mk op n x1 kn ps1) i).length ≤ 699 := by omega
      obtain ⟨_, b2, b3, b4, _, b6, kid2, b7, b8, _⟩ := zuj (i := i) d2 hskI hkT fr tm _ (Nat.le_refl _)
      obtain ⟨c1, c2, kid3, c3, c4, c5⟩ := zpv (fr := fr) hkT hknd d6 hml9 _ (Nat.le_refl _)
      rw [← hrb] at b2 b3 b4 b6 b7 c1 c2 c3
      rw [b7] at c3; cases c3
      obtain ⟨rbd, hrb0⟩ := hadr (by omega)
      subst hrb0
      by_cases hB : zb2 op i = true ∨ (zb2 op i = false ∧ zci op i = true)
      case' pos =>
        obtain ⟨fB, ty, vB, fcB, cB, q1, q2, q3, q4, q5⟩ := yh9 (b := b) (i := i) d2 rfl (by omega) (by
            rcases hB with hB | ⟨hB1, hB2⟩
            · exact .inl hB
            · refine .inr ⟨hB1, hB2, ?_⟩
              have := zm2 hnm.1.1 hB2 h
              omega)
        refine zar (fr := [6]) [(13, 1)] [(6, 6)] rfl (by simp) q4 ⟨⟨rfl, rfl, rfl⟩, trivial⟩ rfl rfl rfl rfl ?_
        refine xg [] rfl (by simp) ?_
        refine zdq (y := 3) (j := 4) (j2 := 5) (stc := yeg ty vB) (stc' := yeg ty vB) (stx := stQ b sk nm (.mk bo bn bx bks bps) fr i (zad (.mk op n x1 kn ps1) i) (0, .mk op n x1 kn ps1, tm)) (stB := stQ b sk nm (.mk bo bn bx bks bps) fr i (zad (.mk op n x1 kn ps1) i) rb) (pend := none) (E := yns b ks.length i (zad (.mk op n x1 kn ps1) i)) (ids' := [6, 16, 17, 18, 19, 21, 22]) (d := .tup []) rfl q1 q2 q3 (show zy2 ∉ [7] by decide) ⟨rfl, rfl, rfl, rfl, rfl, rfl, rfl, rfl, trivial⟩
          (zb4 ⟨rfl, rfl, rfl, rfl, rfl, rfl, rfl, rfl, rfl, trivial⟩) (fun L h1 h2 h3 h4 h5 h6 h7 => ?_) ?_ ?_ ?_ ?_ ?_
        · have := q5 (fun j => zdl L (stQ b sk nm (.mk bo bn bx bks bps) fr i (zad (.mk op n x1 kn ps1) i) (zgc fr i (.mk op n x1 kn ps1) tm j)) none) (fun j => ⟨(zgc fr i (.mk op n x1 kn ps1) tm j).2.1, fun I w bb bs hP => ylw (i := 13) hP rfl⟩) fun j d hd => by
              have hj : j < (zad (.mk op n x1 kn ps1) i).length := by
                have := (List.getElem?_eq_some_iff.1 hd).1
                rwa [List.length_map, zyi d2] at this
              rw [Nat.zero_add]
              exact ycs b sk nm (.mk bo bn bx bks bps) fr (zad (.mk op n x1 kn ps1) i) i ks.length (.mk op n x1 kn ps1) kid tm d2 hsk hskI hkT (zhj kid hknd (by have := zeh hkid; simp only [zcx] at h60; omega)).2 h hkl (fun j hj s hs => by
                have := (zpv (fr := fr) hkT hknd d6 hml9 j hj).2.1 s hs
                unfold maxLen; omega) hml9 j hj d hd h1 h2 h3 h4 h5 h6 h7
          rw [Nat.zero_add, zyi d2, ← hrb] at this
          exact this
        · simp [yeg, stQ, nms]
        · simp [yeg, nms]
        · intro i hi
          have e : nmL (zlh (zie (zbq [(13, 1)] ++ [(6, 6)])) [] ++ zlh (zie (zbq [(13, 1)] ++ [(6, 6)])) [.ref 6 0]) = [6] := rfl
          rw [e] at hi
          simpa [yeg, nms, ze1, nmB, nmL, nmD] using hi
        · refine ⟨by decide, ?_⟩
          simp [stQ, yns, rD, nmE, nmD, ze1, nmB, nmL, nms]
      case' neg =>
        have hN : zb2 op i = false ∧ zci op i = false := by
          cases e1 : zb2 op i <;> cases e2 : zci op i <;> simp [e1, e2] at hB ⊢
        have hb0 : (zad (.mk op n x1 kn ps1) i).length = 0 := by simp [zad, hN.1, hN.2]
        have hrb0 : rb = (0, .mk op n x1 kn ps1, tm) := by rw [hrb, hb0]; rfl
        refine zar (fr := []) [(13, 1)] [] rfl (by simp) (zrr (zck b sk (.mk op n x1 kn ps1)) b op i (zox (zhq d2)) hN.1 hN.2) ⟨⟨rfl, rfl, rfl⟩, trivial⟩ rfl rfl rfl rfl ?_
        refine xg [] rfl (by simp) ?_
        refine zrb 56 rfl ?_
        refine zdq (y := 3) (j := 4) (j2 := 5) (stc := []) (stc' := []) (stx := stQ b sk nm (.mk bo bn bx bks bps) fr i (zad (.mk op n x1 kn ps1) i) (0, .mk op n x1 kn ps1, tm)) (stB := stQ b sk nm (.mk bo bn bx bks bps) fr i (zad (.mk op n x1 kn ps1) i) (0, .mk op n x1 kn ps1, tm)) (pend := none) (E := yns b ks.length i (zad (.mk op n x1 kn ps1) i)) (ids' := [6, 16, 17, 18, 19, 21, 22]) (d := .tup []) rfl Tryz.func99 (by decide +kernel) rfl (show zy2 ∉ [7] by decide) ⟨rfl, rfl, rfl, rfl, rfl, rfl, rfl, rfl, trivial⟩
          (zb4 ⟨rfl, rfl, rfl, rfl, rfl, rfl, rfl, rfl, trivial⟩) (fun L h1 h2 h3 h4 h5 h6 h7 => zml) ?_ ?_ ?_ ?_ ?_
        · simp [nms]
        · simp [nms]
        · intro i hi
          have e : nmL (([] : List D) ++ []) = [] := rfl
          rw [e] at hi
          simp [ze1] at hi
        · refine ⟨by decide, ?_⟩
          simp [stQ, yns, rD, nmE, nmD, ze1, nmB, nmL, nms]
        rw [← hrb0]
      all_goals
        refine xd [] rfl (by simp) ?_
        refine zar (fr := []) [(15, 1)] [] rfl (by simp) (zlr (zad (.mk op n x1 kn ps1) i) nm _) ⟨⟨rfl, rfl, rfl⟩, trivial⟩ rfl rfl rfl rfl ?_
        refine xg [] rfl (by simp) ?_
        have hlike := zqj ⟨op, n, x, ks, ps, x1, kn, ps1, rfl, rfl, hl1, hl2, hbl⟩ b4
        have hbs9 : rb.2.2.length + zgp (.mk op n x ks ps) (ks.length - (i + 1)) (i + 1) ≤ 699 := by omega
        have hother : ∀ l k, i + 1 ≤ l → ks[l]? = some k → tmK rb.2.1 l = some k := fun l k hl hk => by
          rw [b6 l (by omega)]; exact d4 l k (by omega) hk
        rw [show ks.length - i = (ks.length - (i + 1)) + 1 by omega, lpR, ← zjt, ← hrb, b7] at d7
        refine zab rfl (fun h2 => ?_) (fun h2 => ?_)
        · have hno : ¬ zbp (zad (.mk op n x1 kn ps1) i) nm = true := by simpa using h2
          rw [if_neg hno] at d7
          simp only [Option.getD_some] at d7
          have IH := yfw nm (.mk bo bn bx bks bps) fr hby hfl hfs N kid2 (by rw [b8]; have := zeh hkid; simp only [zcx] at hc; omega) c4 (by rw [b8]; have := zeh hkid; simp only [zcx] at h60; omega)
          obtain ⟨ro, rn, rx, rks, rps, hres⟩ := znj (rpl nm (.mk bo bn bx bks bps) fr N kid2)
          rw [hres] at IH d7
          have hkv : ∀ vs I w bs, (zck b sk rb.2.1).P vs I w bs → zc3 I w rbd (0 + ((i : Int)).toNat * 5) ((dTmc kid2).map .imm) := fun vs I w bs h => by
            have := znz (zhq b2) hsk hskI b7 h
            simpa using this
          have hks := zkf (b := b) (zhq b2) hsk hskI b7 (.mk ro rn rx rks rps)
          rw [show i * 5 = 0 + ((i : Int)).toNat * 5 by simp] at hks
          have hraw : ∀ vs I w bs, (zck b sk rb.2.1).P vs I w bs → zc3 I w b 3 [.raw (.slice (some ⟨rbd, 0, none⟩) ks.length c)] := fun vs I w bs h => (zd5 (by rw [hsk] at h; exact h)).1
          obtain ⟨ko, kn2, kx, kks, kps, rfl⟩ := znj kid2
          refine xd [] rfl (by simp) ?_
          refine zbn ttX_ok 13 [.raw (.slice (some ⟨rbd, 0, none⟩) ks.length c)] rfl rfl (fun _ => hraw) rfl rfl (by simp) ?_
          refine xg [] rfl (by simp) ?_
          refine zbn ttX_ok 13 [.raw (.slice (some ⟨rbd, 0, none⟩) ks.length c)] rfl rfl (fun _ => hraw) rfl rfl (by simp) ?_
          refine xg [] rfl (by simp) ?_
          refine zdf ttX_ok rfl rfl (fun _ => ⟨by simp, by simpa using h⟩) (by simp) ?_
          refine xg [] rfl (by simp) ?_
          refine zbn ttX_ok 13 [.imm (.int .i64 ko), .imm (.int .i64 kn2), .imm (.str kx), .imm (.sl (zdg kks)), .imm (.sl (zcf kps))] rfl rfl (fun _ => hkv) rfl rfl (by simp) ?_
          refine xg [] rfl (by simp) ?_
          refine zar (fr := []) [(7, 7)] [] rfl (by simp) IH ⟨⟨rfl, rfl, rfl⟩, trivial⟩ rfl rfl rfl rfl ?_
          refine xg [] rfl (by simp) ?_
          refine zdf ttX_ok rfl rfl (fun _ => ⟨by simp, by simpa using h⟩) (by simp) ?_
          refine zo4 ttX_ok 13 (zck b sk (zcs rb.2.1 i (.mk ro rn rx rks rps))) rfl rfl hks ?_
          refine xg [] rfl (by simp; rfl) ?_
          refine zae (ih (i + 1, zcs rb.2.1 i (.mk ro rn rx rks rps), rb.2.2) (by simp only; omega) ⟨by simp only; omega, zqx b2 hskI b7 _, zu0 hlike i _, fun l k hl hk => ?_, hbs9, c2, d7⟩) ⟨zcr (w64 (by omega) (by omega)), rfl, rfl, rfl, rfl, rfl, trivial⟩ ⟨rfl, rfl, rfl, rfl, rfl, rfl, trivial⟩ rfl
          simp only at hl ⊢
          rw [zfe b7, if_neg (by omega)]
          exact hother l k hl hk
        · have hyes2 : zbp (zad (.mk op n x1 kn ps1) i) nm = true := by simpa using h2
          rw [if_pos hyes2] at d7
          refine xd [] rfl (by simp) ?_
          exact zae (ih (i + 1, rb.2.1, rb.2.2) (by simp only; omega) ⟨by simp only; omega, b2, hlike, hother, hbs9, c2, d7⟩) ⟨zcr (w64 (by omega) (by omega)), rfl, rfl, rfl, rfl, rfl, trivial⟩ ⟨rfl, rfl, rfl, rfl, rfl, rfl, trivial⟩ rfl
    · simp at h
      have hi : i = ks.length := by omega
      subst hi
      simp only [Nat.sub_self, lpR] at d7
      subst d7
      obtain ⟨p1, p2, p3, p4, p5, x1, kn, ps1, hT1, hT, _⟩ := d3
      cases hT1
      subst hT
      clear ih
      refine za2 rfl ?_
      refine xd [] rfl (by simp) ?_
      refine zbn ttX_ok 13 [.imm (.int .i64 op), .imm (.int .i64 n), .imm (.str x1), .raw (.slice ad ks.length c), .raw u] rfl rfl (fun _ vs I w bs h => zk1 hsk rfl h) rfl rfl (by simp) ?_
      refine xg [] rfl (by simp) ?_
      refine ze5 13 4 (dTmc (.mk op n x1 kn ps1)) rfl rfl (fun vs I J w bs h1 h2 h3 cs hc => yfo hsk rfl h1 h2 h3 cs hc) rfl ?_
      exact zaa ⟨_, rfl, tV rfl, rfl, trivial⟩
end Go.Hk

/- Plain laws of names that are chosen anew: chosen again, nothing changes; the free names are as before. -/
namespace Go.Hk
open Go.Proofs
theorem ybu (t : Tm) (y : Str) : ∀ (ks : List Tm) (i : Nat), ydw t i ks y ↔ ∃ k c, ks[k]? = some c ∧ inT c y ∧ zbp (zrt t ((i + k : Nat) : Int)) y = false
  | [], i => by simp [ydw]
  | a :: r, i => by
    simp only [ydw]
    rw [ybu t y r (i + 1)]
    constructor
    · rintro (⟨h1, h2⟩ | ⟨k, c, h1, h2, h3⟩)
      · exact ⟨0, a, rfl, h1, h2⟩
      · exact ⟨k + 1, c, h1, h2, by rw [show i + (k + 1) = i + 1 + k from by omega]; exact h3⟩
    · rintro ⟨k, c, h1, h2, h3⟩
      cases k with
      | zero => simp at h1; subst h1; exact .inl ⟨h2, h3⟩
      | succ k => exact .inr ⟨k, c, by simpa using h1, h2, by rw [show i + 1 + k = i + (k + 1) from by omega]; exact h3⟩
theorem yah {op n : Int} {x : Str} {ks : List Tm} {ps : List Ty} (h : ps.all zcn = true) (i : Int) : zrt (.mk op n x ks ps) i = zad (.mk op n x ks ps) i := by
  rw [zrq]
  intro p hp
  have := List.all_eq_true.1 h p hp
  simp only [zcn, Bool.and_eq_true] at this
  exact this.1.2
theorem ztm {l : List Str} {y : Str} : zbp l y = false ↔ y ∉ l := by
  rw [← za1]; simp
end Go.Hk

/- Plain laws of what replacer.in computes: form. -/
namespace Go.Hk
open Go.Proofs
theorem ycz {l : List Str} {j : Nat} {f : Str} (h : l.Nodup) (hf : f ∉ l) : (l.set j f).Nodup := by
  induction l generalizing j with
  | nil => simp
  | cons a r ih =>
    obtain ⟨h1, h2⟩ := List.nodup_cons.1 h
    cases j with
    | zero => exact List.nodup_cons.2 ⟨fun hm => hf (by simp [hm]), h2⟩
    | succ j =>
      refine List.nodup_cons.2 ⟨fun hm => ?_, ih h2 fun hm => hf (by simp [hm])⟩
      rcases List.mem_or_eq_of_mem_set hm with hm | hm
      · exact h1 hm
      · exact hf (by simp [hm])
theorem ygh {p : Ty} {j : Nat} {f : Str} (h : zcn p = true) (hf : zcj f = true) (hn : f ∉ za8 p) : zcn (zer p j f) = true := by
  simp only [zcn, Bool.and_eq_true, decide_eq_true_eq] at h ⊢
  obtain ⟨a, b⟩ := zuh p j f hf h.1.2
  refine ⟨⟨by rw [b]; exact h.1.1, a⟩, ?_⟩
  rw [← zgz _ a, zht]
  have e : (zc6 (zer p j f)).map zij = (za8 p).set j f := zgy p j f
  rw [e]
  refine ycz ?_ hn
  have := h.2
  rw [← zgz _ h.1.2, zht] at this
  exact this
def zcy : Tm → Nat
  | .mk _ _ _ ks _ => ks.length
theorem zzd {T : Tm} {i j : Nat} {f : Str} (h : zag T = true) (hf : zcj f = true) (hn : f ∉ zad T i) : zag (zea T i j f) = true := by
  obtain ⟨op, n, x, ks, ps⟩ := T
  simp only [zag, Bool.and_eq_true] at h
  simp only [zad] at hn
  simp only [zea]
  by_cases h1 : zb2 op i = true
  · rw [if_pos h1]
    simp only [zag, Bool.and_eq_true]
    exact ⟨⟨zo0 (.inl h1) h.1.1 hf, h.1.2⟩, h.2⟩
  · rw [if_neg h1]
    by_cases h2 : zci op i = true
    · rw [if_pos h2]
      rw [if_neg h1, if_pos h2] at hn
      cases hp : ps[((i : Int) - 1).toNat]? with
      | none => simp only [zag, Bool.and_eq_true]; exact h
      | some p =>
        simp only [hp] at hn
        simp only [zag, Bool.and_eq_true, List.length_set]
        refine ⟨⟨h.1.1, ?_⟩, h.2⟩
        rw [List.all_eq_true]
        intro q hq
        rcases List.mem_or_eq_of_mem_set hq with hq | hq
        · exact List.all_eq_true.1 h.1.2 q hq
        · rw [hq]; exact ygh (List.all_eq_true.1 h.1.2 p (List.mem_of_getElem? hp)) hf hn
    · rw [if_neg h2]; simp only [zag, Bool.and_eq_true]; exact h
theorem zs8 {T k : Tm} {i : Nat} (h : zag T = true) (hk : zag k = true) : zag (zcs T i k) = true := by
  obtain ⟨op, n, x, ks, ps⟩ := T
  simp only [zcs, zag, Bool.and_eq_true, List.length_set] at h ⊢
  exact ⟨h.1, zn5 h.2 hk⟩
theorem zix {T k : Tm} {i : Nat} (h : zag T = true) (hk : tmK T i = some k) : zag k = true := by
  obtain ⟨op, n, x, ks, ps⟩ := T
  simp only [zag, Bool.and_eq_true] at h
  exact zc7 h.2 hk
theorem yac {T : Tm} {i l j : Nat} {f : Str} (h : zag T = true) (hi : i < zcy T) (hl : l < zcy T) (hne : l ≠ i) : zad (zea T i j f) l = zad T l := by
  obtain ⟨op, n, x, ks, ps⟩ := T
  simp only [zag, Bool.and_eq_true] at h
  simp only [zcy] at hi hl
  simp only [zea]
  by_cases h1 : zb2 op i = true
  · have h3 : ¬ zb2 op l = true := fun h3 => hne (ymj h.1.1 hl hi h3 h1)
    rw [if_pos h1]
    simp only [zad, if_neg h3]
  · rw [if_neg h1]
    by_cases h2 : zci op i = true
    · rw [if_pos h2]
      cases hp : ps[((i : Int) - 1).toNat]? with
      | none => rfl
      | some p =>
        simp only [zad]
        by_cases h3 : zb2 op l = true
        · rw [if_pos h3, if_pos h3]
        · rw [if_neg h3, if_neg h3]
          by_cases h4 : zci op l = true
          · rw [if_pos h4, if_pos h4]
            have : ((i : Int) - 1).toNat ≠ ((l : Int) - 1).toNat := by
              simp only [zci, Bool.and_eq_true, decide_eq_true_eq] at h2 h4
              omega
            rw [List.getElem?_set_ne this]
          · rw [if_neg h4, if_neg h4]
    · rw [if_neg h2]
theorem yj2 (T : Tm) (i : Int) (j : Nat) (f : Str) : zcy (zea T i j f) = zcy T := by
  obtain ⟨op, n, x, ks, ps⟩ := T
  obtain ⟨y', ps', h, _⟩ := zlq op n x ks ps i j f
  rw [h]; rfl
theorem zql (T : Tm) (i : Nat) (k : Tm) : zcy (zcs T i k) = zcy T := by
  obtain ⟨op, n, x, ks, ps⟩ := T
  simp [zcs, zcy]
theorem yas {T k : Tm} {i : Nat} (h : tmK T i = some k) : i < zcy T := by
  obtain ⟨op, n, x, ks, ps⟩ := T
  exact (List.getElem?_eq_some_iff.1 h).1
theorem zou {T : Tm} {i : Nat} (h : i < zcy T) : ∃ k, tmK T i = some k := by
  obtain ⟨op, n, x, ks, ps⟩ := T
  exact zal h
theorem zf1 {fr : List Str} {i : Nat} {T : Tm} {m : List Str} (hn : zag T = true) (hi : i < zcy T) (hsub : ∀ s ∈ zad T i, s ∈ m) (hml : m.length + (zad T i).length ≤ 699) : ∀ j, j ≤ (zad T i).length →
    (zgc fr i T m j).1 = j ∧ zag (zgc fr i T m j).2.1 = true ∧ (∀ s ∈ zad (zgc fr i T m j).2.1 i, s ∈ (zgc fr i T m j).2.2) ∧ (∀ l, l < zcy T → l ≠ i → zad (zgc fr i T m j).2.1 l = zad T l) ∧ (∀ s ∈ m, s ∈ (zgc fr i T m j).2.2) ∧
      (zgc fr i T m j).2.2.length ≤ m.length + j ∧ zcy (zgc fr i T m j).2.1 = zcy T ∧ (zad (zgc fr i T m j).2.1 i).length = (zad T i).length ∧ (∀ l, j ≤ l → (zad (zgc fr i T m j).2.1 i)[l]? = (zad T i)[l]?) ∧ (∀ l, l ≠ i → tmK (zgc fr i T m j).2.1 l = tmK T l) ∧ zoq T (zgc fr i T m j).2.1 ∧ (∀ k, tmK T i = some k → ∃ k', tmK (zgc fr i T m j).2.1 i = some k' ∧ zcx k' = zcx k)
  | 0, _ => ⟨rfl, hn, hsub, fun _ _ _ => rfl, fun _ h => h, by simp [zgc], rfl, rfl, fun _ _ => rfl, fun _ _ => rfl, zjv T, fun k hk => ⟨k, hk, rfl⟩⟩
  | j + 1, hj => by
    obtain ⟨h1, h2, h3, h4, h5, h6, h7, h8, h9, h10, h11, h12⟩ := zf1 (fr := fr) hn hi hsub hml j (by omega)
    obtain ⟨x, hx⟩ := zal (show j < (zad T i).length by omega)
    rw [ziq hx]
    generalize zgc fr i T m j = r at *
    obtain ⟨r1, rT, rm⟩ := r
    simp only at h1 h2 h3 h4 h5 h6 h7 h8 h9 h10 h11 h12
    subst h1
    simp only [zfy]
    by_cases hx2 : zbp fr x = true
    · rw [if_pos hx2]
      obtain ⟨q1, q2⟩ := ze2 rm (by omega)
      obtain ⟨k, hk⟩ := zou (show i < zcy rT by omega)
      have hkn := zix h2 hk
      have hKn : zag (zcs rT i (zh6 ((tmK rT i).getD zTm) x (zbc rm))) = true := zs8 h2 (by rw [hk]; exact zl0 _ _ q1 _ hkn)
      have hlt : r1 < (zad (zcs rT i (zh6 ((tmK rT i).getD zTm) x (zbc rm))) i).length := by rw [zb6, h8]; omega
      refine ⟨rfl, zzd hKn q1 (by rw [zb6]; exact fun hm => q2 (h3 _ hm)), fun s hs => ?_, fun l hl hne => ?_, fun s hs => List.mem_append_left _ (h5 s hs), by simp only [List.length_append, List.length_singleton]; omega, ?_, ?_, fun l hl => ?_, fun l hl => ?_, ybt (zu0 h11 i _) _ _ _, fun k1 hk1 => ?_⟩
      · rw [zjg _ hlt, zb6] at hs
        rcases List.mem_or_eq_of_mem_set hs with hs | hs
        · exact List.mem_append_left _ (h3 s hs)
        · exact List.mem_append_right _ (by rw [hs]; simp)
      · rw [yac hKn (by rw [zql]; omega) (by rw [zql]; omega) hne, zb6, h4 l hl hne]
      · rw [yj2, zql, h7]
      · rw [zfn, zb6, h8]
      · rw [zjg _ hlt, List.getElem?_set_ne (by omega), zb6, h9 l (by omega)]
      · rw [zgs, zfe hk, if_neg hl, h10 l hl]
      · obtain ⟨k2, e1, e2⟩ := h12 k1 hk1
        rw [hk] at e1; cases e1
        exact ⟨zh6 k x (zbc rm), by rw [zgs, zfe hk, if_pos rfl, hk]; rfl, by rw [zo5, e2]⟩
    · rw [if_neg hx2]
      exact ⟨rfl, h2, h3, h4, h5, by simp only; omega, h7, h8, fun l hl => h9 l (by omega), h10, h11, h12⟩
theorem zqc {rec : Tm → Tm} {nm : Str} {fr : List Str} {C : Nat} (hrec : ∀ k, zag k = true → zcx k ≤ C → zag (rec k) = true) : ∀ (k i : Nat) (T : Tm) (m : List Str), zag T = true → i + k = zcy T → (∀ l, l < zcy T → i ≤ l → ∀ s ∈ zad T l, s ∈ m) → m.length + zgp T k i ≤ 699 → (∀ l k, i ≤ l → tmK T l = some k → zcx k ≤ C) → zag (lpR rec nm fr k i T m) = true
  | 0, i, T, m, hn, _, _, _, _ => hn
  | k + 1, i, T, m, hn, hlen, hsub, hml, hC => by
    simp only [zgp] at hml
    obtain ⟨_, a2, a3, a4, a5, a6, a7, a8, _, a10, a11, a12⟩ := zf1 (fr := fr) hn (by omega) (hsub i (by omega) (Nat.le_refl _)) (by omega) _ (Nat.le_refl _)
    rw [zjt] at a2 a3 a4 a5 a6 a7 a8 a10 a11 a12
    simp only [lpR]
    generalize zj6 fr i T m = r at *
    obtain ⟨r1, rT, rm⟩ := r
    simp only at *
    obtain ⟨k0, hk0⟩ := zou (show i < zcy T by omega)
    obtain ⟨kk, hkk, hcn⟩ := a12 k0 hk0
    have hCk := hC i k0 (Nat.le_refl _) hk0
    have hc : ∀ U, (∀ l : Int, zad U l = zad rT l) → zgp U k (i + 1) = zgp T k (i + 1) := fun U hU => zey (fun l => by
      obtain ⟨_, _, _, _, _, _, _, _, _, _, _, _, hb⟩ := a11
      rw [hU]; exact hb l) k (i + 1)
    split
    · exact zqc hrec k (i + 1) rT rm a2 (by omega) (fun l hl hl2 s hs => by rw [a4 l (by omega) (by omega)] at hs; exact a5 s (hsub l (by omega) (by omega) s hs)) (by rw [hc _ fun _ => rfl]; omega) (fun l k hl hk => hC l k (by omega) (by rw [← a10 l (by omega)]; exact hk))
    · refine zqc hrec k (i + 1) _ rm (zs8 a2 (by rw [hkk]; exact hrec kk (zix a2 hkk) (by omega))) (by rw [zql]; omega) (fun l hl hl2 s hs => ?_) (by rw [hc _ fun l => zb6 rT i _ l]; omega) (fun l k hl hk => ?_)
      rw [zql] at hl
      rw [zb6, a4 l (by omega) (by omega)] at hs
      exact a5 s (hsub l (by omega) (by omega) s hs)
      rw [zfe hkk, if_neg (by omega), a10 l (by omega)] at hk
      exact hC l k (by omega) hk
theorem zee {T : Tm} : ∀ (i : Nat) (ks : List Tm) (l : Nat), l < ks.length → ∀ s ∈ zad T ((i + l : Nat) : Int), s ∈ zcm T i ks
  | i, [], l, hl, s, hs => by simp at hl
  | i, k :: r, 0, hl, s, hs => by simp only [zcm, List.mem_append]; exact .inl (.inl hs)
  | i, k :: r, l + 1, hl, s, hs => by
    simp only [zcm, List.mem_append]
    refine .inr (zee (i + 1) r l (by simpa using hl) s ?_)
    rw [show i + 1 + l = i + (l + 1) by omega]; exact hs
mutual
theorem zso : ∀ t : Tm, (zbm t).length = ymk t
  | .mk op n x ks ps => by
    simp only [zbm, ymk, List.length_append, zpm]
    split <;> rfl
theorem zpm (T : Tm) : ∀ (i : Nat) (l : List Tm), (zcm T i l).length = zr7 T i l
  | _, [] => rfl
  | i, k :: r => by simp only [zcm, zr7, List.length_append, zso k, zpm T (i + 1) r]
end
theorem zuc {op n : Int} {x : Str} {ks : List Tm} {ps : List Ty} (hn : zag (.mk op n x ks ps) = true) (h60 : zcx (.mk op n x ks ps) ≤ 60) {nm : Str} {fr : List Str} (hfl : fr.length ≤ 60) : (nm :: fr ++ zbm (.mk op n x ks ps)).length + zgp (.mk op n x ks ps) ks.length 0 ≤ 699 := by
  have hnm := hn
  simp only [zag, Bool.and_eq_true] at hnm
  have hK6 := ztb hnm.1.1
  have hocc := zzc (.mk op n x ks ps) hn
  have hbnd := ykx (op := op) (n := n) (x := x) (ks := ks) hnm.1.2 ks.length 0
  simp only [List.length_append, List.length_cons, zso]
  omega
theorem zpt {nm : Str} {by' : Tm} {fr : List Str} (hb : zag by' = true) (hfl : fr.length ≤ 60) : ∀ (N : Nat) (t : Tm), zcx t ≤ 60 → zag t = true → zag (rpl nm by' fr N t) = true
  | 0, t, _, hn => hn
  | N + 1, .mk op n x ks ps, h60, hn => by
    rw [rpl]
    split
    · split
      · exact hb
      · have hnm := hn
        simp only [zag, Bool.and_eq_true] at hnm
        refine zqc (C := 60) (fun k hk hc => zpt hb hfl N k hc hk) ks.length 0 _ _ hn (by simp [zcy]) (fun l hl _ s hs => ?_) (zuc hn h60 hfl) fun l k _ hk => ?_
        · refine List.mem_append_right _ ?_
          simp only [zbm, List.mem_append]
          exact .inr (zee 0 ks l hl s (by simpa using hs))
        · have := zeh (l := ks) (i := l) (k := k) hk
          simp only [zcx] at h60
          omega
    · exact hn
theorem zjs {T : Tm} {a b : Str} : ∀ {l : List Tm} {i j : Nat} {c : Tm}, l[j]? = some c → (zek T i l a b)[j]? = some (if zbp (zad T ((i + j : Nat) : Int)) a = true then c else zh6 c a b)
  | [], i, j, c, h => by simp at h
  | x :: r, i, 0, c, h => by simp at h; subst h; simp [zek]
  | x :: r, i, j + 1, c, h => by
    have := zjs (T := T) (a := a) (b := b) (l := r) (i := i + 1) (j := j) (c := c) (by simpa using h)
    simp only [zek, List.getElem?_cons_succ]
    rw [this, show i + 1 + j = i + (j + 1) by omega]
end Go.Hk

/- Plain laws: the free names of a term in which a free name became another one, and of a term with another one in place of a name. -/
namespace Go.Hk
open Go.Proofs
mutual
theorem zxw : ∀ (t : Tm) (y : Str), zag t = true → inT t y → y ∈ zbm t
  | .mk op n x ks ps, y, h, hy => by
    simp only [zag, Bool.and_eq_true] at h
    simp only [inT] at hy
    simp only [zbm, List.mem_append]
    by_cases e : op = 4
    · rw [if_pos e] at hy
      left; rw [if_pos e, hy]; simp
    · rw [if_neg e] at hy
      right; exact zth (.mk op n x ks ps) 0 ks y h.2 hy
theorem zth (T : Tm) : ∀ (i : Nat) (l : List Tm) (y : Str), zas l = true → ydw T i l y → y ∈ zcm T i l
  | _, [], _, _, h => h.elim
  | i, k :: r, y, h, hy => by
    simp only [zas, Bool.and_eq_true] at h
    simp only [zcm, List.mem_append]
    rcases hy with ⟨hy, _⟩ | hy
    · exact .inl (.inr (zxw k y h.1 hy))
    · exact .inr (zth T (i + 1) r y h.2 hy)
end
mutual
theorem zw3 (a b : Str) : ∀ (t : Tm) (s : Str), s ∈ zbm (zh6 t a b) → s ∈ zbm t ∨ s = b
  | .mk op n x ks ps, s, h => by
    rw [zh6] at h
    simp only [zbm, List.mem_append] at h ⊢
    rcases h with h | h
    · by_cases e : op = 4
      · rw [if_pos e] at h ⊢
        unfold ya6 at h
        split at h
        · exact .inr (List.mem_singleton.1 h)
        · exact .inl (.inl h)
      · rw [if_neg e] at h; cases h
    · rcases zsw a b op n (ya6 op x a b) [] ps _ 0 ks s h with h | h
      · by_cases hx : ya6 op x a b = x
        · rw [hx] at h; exact .inl (.inr ((zhb (T := .mk op n x [] ps) (U := .mk op n x ks ps) (fun _ => rfl) 0 ks s).1 h))
        · have hop : op = 4 := by
            unfold ya6 at hx
            split at hx
            · rename_i h2; simp only [Bool.and_eq_true, beq_iff_eq] at h2; exact h2.1
            · exact absurd rfl hx
          refine .inl (.inr ((zhb (fun i => ?_) 0 ks s).1 h))
          simp [zad, hop, zb2, zci]
      · exact .inr h
theorem zsw (a b : Str) (op n : Int) (x : Str) (k0 : List Tm) (ps : List Ty) (k1 : List Tm) : ∀ (i : Nat) (l : List Tm) (s : Str), s ∈ zcm (.mk op n x k1 ps) i (zek (.mk op n x k0 ps) i l a b) → s ∈ zcm (.mk op n x k0 ps) i l ∨ s = b
  | _, [], _, h => by cases h
  | i, k :: r, s, h => by
    simp only [zek, zcm, List.mem_append] at h ⊢
    rcases h with (h | h) | h
    · exact .inl (.inl (.inl h))
    · split at h
      · exact .inl (.inl (.inr h))
      · rcases zw3 a b k s h with h | h
        · exact .inl (.inl (.inr h))
        · exact .inr h
    · rcases zsw a b op n x k0 ps k1 (i + 1) r s h with h | h
      · exact .inl (.inr h)
      · exact .inr h
theorem zhb {T U : Tm} (hb : ∀ i : Int, zad T i = zad U i) : ∀ (i : Nat) (l : List Tm) (s : Str), s ∈ zcm T i l ↔ s ∈ zcm U i l
  | _, [], _ => Iff.rfl
  | i, k :: r, s => by simp only [zcm, List.mem_append, hb, zhb hb (i + 1) r s]
end
theorem zha {T : Tm} : ∀ (i : Nat) (l : List Tm) (k : Nat) (c : Tm), l[k]? = some c → ∀ s ∈ zbm c, s ∈ zcm T i l
  | _, [], _, _, h, _, _ => by simp at h
  | i, x :: r, 0, c, h, s, hs => by
    simp at h; subst h
    simp only [zcm, List.mem_append]; exact .inl (.inr hs)
  | i, x :: r, k + 1, c, h, s, hs => by
    simp only [zcm, List.mem_append]
    exact .inr (zha (i + 1) r k c (by simpa using h) s hs)
theorem ydv {T : Tm} (hb : ∀ i : Int, zrt T i = zad T i) (y : Str) (ks : List Tm) (i : Nat) : ydw T i ks y ↔ ∃ k c, ks[k]? = some c ∧ inT c y ∧ y ∉ zad T ((i + k : Nat) : Int) := by
  rw [ybu]
  constructor
  · rintro ⟨k, c, h1, h2, h3⟩
    exact ⟨k, c, h1, h2, by rw [hb] at h3; exact ztm.1 h3⟩
  · rintro ⟨k, c, h1, h2, h3⟩
    exact ⟨k, c, h1, h2, by rw [hb]; exact ztm.2 h3⟩
theorem zf7 {op n : Int} {x : Str} {ks : List Tm} {ps : List Ty} (h : zag (.mk op n x ks ps) = true) (e : op ≠ 4) (y : Str) : inT (.mk op n x ks ps) y ↔ ∃ (k : Nat) (c : Tm), ks[k]? = some c ∧ inT c y ∧ y ∉ zad (.mk op n x ks ps) (k : Int) := by
  simp only [zag, Bool.and_eq_true] at h
  rw [inT, if_neg e, ydv (yah h.1.2) y ks 0]
  simp only [Nat.zero_add]
theorem ya5 (a b : Str) (hb : zcj b = true) : ∀ (N : Nat) (t : Tm), zcx t ≤ N → zag t = true → b ∉ zbm t → ∀ y, inT (zh6 t a b) y ↔ (inT t y ∧ y ≠ a) ∨ (y = b ∧ inT t a)
  | 0, t, hc, _, _, _ => by have := zla t; omega
  | N + 1, .mk op n x ks ps, hc, hn, hs, y => by
    have hn' := hn
    have hn2 := zl0 a b hb (.mk op n x ks ps) hn
    simp only [zag, Bool.and_eq_true] at hn
    rw [zh6] at hn2 ⊢
    by_cases e : op = 4
    · simp only [inT, if_pos e]
      unfold ya6
      by_cases hx : x = a
      · rw [if_pos (by simp [e, hx])]
        constructor
        · intro h; exact .inr ⟨h, hx.symm⟩
        · rintro (⟨h1, h2⟩ | ⟨h1, _⟩)
          · exact absurd (h1.trans hx) h2
          · exact h1
      · rw [if_neg (by simp [hx])]
        constructor
        · intro h; exact .inl ⟨h, fun h2 => hx (h ▸ h2)⟩
        · rintro (⟨h1, _⟩ | ⟨_, h2⟩)
          · exact h1
          · exact absurd h2.symm hx
    · have hX : ya6 op x a b = x := by simp [ya6, e]
      rw [hX] at hn2 ⊢
      rw [zf7 hn2 e, zf7 hn' e, zf7 hn' e]
      have hbd : ∀ (l : List Tm) (i : Int), zad (.mk op n x l ps) i = zad (.mk op n x ks ps) i := fun _ _ => rfl
      simp only [hbd]
      have hst : ∀ (k : Nat) (c : Tm), ks[k]? = some c → b ∉ zbm c ∧ b ∉ zad (.mk op n x ks ps) (k : Int) := fun k c hk => by
        constructor
        · intro h; exact hs (by simp only [zbm, List.mem_append]; exact .inr (zha 0 ks k c hk b h))
        · intro h; exact hs (by simp only [zbm, List.mem_append]; exact .inr (zee 0 ks k (List.getElem?_eq_some_iff.1 hk).1 b (by simpa using h)))
      have hlt : ∀ (k : Nat) (c : Tm), ks[k]? = some c → zcx c ≤ N := fun k c hk => by have := zeh hk; simp only [zcx] at hc; omega
      constructor
      · rintro ⟨k, c', h1, h2, h3⟩
        have hk : k < ks.length := by
          have := (List.getElem?_eq_some_iff.1 h1).1
          rwa [zd6] at this
        have hkc : ks[k]? = some ks[k] := by simp [hk]
        have h4 := zjs (T := .mk op n x [] ps) (a := a) (b := b) (i := 0) hkc
        rw [h1] at h4
        simp only [Option.some.injEq, Nat.zero_add, hbd] at h4
        obtain ⟨q1, q2⟩ := hst k _ hkc
        by_cases ha : zbp (zad (.mk op n x ks ps) (k : Int)) a = true
        · rw [if_pos ha] at h4
          subst h4
          exact .inl ⟨⟨k, _, hkc, h2, h3⟩, fun hy => h3 (by rw [hy]; exact za1.1 ha)⟩
        · rw [if_neg ha] at h4
          subst h4
          rcases (ya5 a b hb N _ (hlt k _ hkc) (zc7 hn.2 hkc) q1 y).1 h2 with ⟨g1, g2⟩ | ⟨g1, g2⟩
          · exact .inl ⟨⟨k, _, hkc, g1, h3⟩, g2⟩
          · exact .inr ⟨g1, k, _, hkc, g2, fun hm => ha (za1.2 hm)⟩
      · rintro (⟨⟨k, c, h1, h2, h3⟩, h4⟩ | ⟨h0, k, c, h1, h2, h3⟩)
        · obtain ⟨q1, q2⟩ := hst k c h1
          have h5 := zjs (T := .mk op n x [] ps) (a := a) (b := b) (i := 0) h1
          refine ⟨k, _, h5, ?_, h3⟩
          split
          · exact h2
          · exact (ya5 a b hb N c (hlt k c h1) (zc7 hn.2 h1) q1 y).2 (.inl ⟨h2, h4⟩)
        · obtain ⟨q1, q2⟩ := hst k c h1
          have h5 := zjs (T := .mk op n x [] ps) (a := a) (b := b) (i := 0) h1
          refine ⟨k, _, h5, ?_, by rw [h0]; exact q2⟩
          rw [if_neg (by simp only [Nat.zero_add, hbd]; exact fun hm => h3 (za1.1 hm))]
          exact (ya5 a b hb N c (hlt k c h1) (zc7 hn.2 h1) q1 y).2 (.inr ⟨h0, h2⟩)
theorem yad {T : Tm} (h : zag T = true) (i : Int) : (zad T i).Nodup := by
  obtain ⟨op, n, x, ks, ps⟩ := T
  simp only [zag, Bool.and_eq_true] at h
  simp only [zad]
  split
  · simp
  · split
    · cases hp : ps[(i - 1).toNat]? with
      | none => simp
      | some p =>
        have := List.all_eq_true.1 h.1.2 p (List.mem_of_getElem? hp)
        simp only [zcn, Bool.and_eq_true] at this
        have h3 := this.2
        rw [← zgz _ this.1.2, zht] at h3
        exact h3
    · simp
theorem zuu {l : List Str} {j : Nat} {x f y : Str} (hn : l.Nodup) (hx : l[j]? = some x) : y ∈ l.set j f ↔ y = f ∨ (y ∈ l ∧ y ≠ x) := by
  induction l generalizing j with
  | nil => simp at hx
  | cons a r ih =>
    obtain ⟨h1, h2⟩ := List.nodup_cons.1 hn
    cases j with
    | zero =>
      simp at hx; subst hx
      simp only [List.set_cons_zero, List.mem_cons]
      constructor
      · rintro (h | h)
        · exact .inl h
        · exact .inr ⟨.inr h, fun e => h1 (e ▸ h)⟩
      · rintro (h | ⟨h | h, h3⟩)
        · exact .inl h
        · exact absurd h h3
        · exact .inr h
    | succ j =>
      have hx : r[j]? = some x := by simpa using hx
      simp only [List.set_cons_succ, List.mem_cons, ih h2 hx]
      constructor
      · rintro (h | h | ⟨h, h3⟩)
        · exact .inr ⟨.inl h, fun e => h1 (by rw [← h, e]; exact List.mem_of_getElem? hx)⟩
        · exact .inl h
        · exact .inr ⟨.inr h, h3⟩
      · rintro (h | ⟨h | h, h3⟩)
        · exact .inr (.inl h)
        · exact .inl h
        · exact .inr (.inr ⟨h, h3⟩)
theorem ya7 {fr : List Str} {i : Nat} {T k : Tm} {m : List Str} (hn : zag T = true) (hi : i < zcy T) (hsub : ∀ s ∈ zad T i, s ∈ m) (hst : ∀ s ∈ zbm k, s ∈ m) (hk : tmK T i = some k) (hml : m.length + (zad T i).length ≤ 699) : ∀ j, j ≤ (zad T i).length →
    ∃ k', tmK (zgc fr i T m j).2.1 i = some k' ∧ (∀ s ∈ zbm k', s ∈ (zgc fr i T m j).2.2) ∧ (∀ y, (inT k' y ∧ y ∉ zad (zgc fr i T m j).2.1 i) ↔ (inT k y ∧ y ∉ zad T i)) ∧
      (∀ p, p < j → ∃ x y, (zad T i)[p]? = some x ∧ (zad (zgc fr i T m j).2.1 i)[p]? = some y ∧ ((zbp fr x = false ∧ y = x) ∨ (zbp fr x = true ∧ y ∉ m)))
  | 0, _ => ⟨k, hk, hst, fun _ => Iff.rfl, fun p hp => by omega⟩
  | j + 1, hj => by
    obtain ⟨k', h1, h2, h3, h4⟩ := ya7 (fr := fr) hn hi hsub hst hk hml j (by omega)
    obtain ⟨e1, e2, e3, e4, e5, e6, e7, e8, e9, _⟩ := zf1 (fr := fr) hn hi hsub hml j (by omega)
    obtain ⟨x, hx⟩ := zal (show j < (zad T i).length by omega)
    rw [ziq hx]
    have hx2 := e9 j (Nat.le_refl _)
    generalize zgc fr i T m j = r at *
    obtain ⟨r1, rT, rm⟩ := r
    simp only at *
    subst e1
    rw [hx] at hx2
    simp only [zfy]
    by_cases hf : zbp fr x = true
    · rw [if_pos hf]
      obtain ⟨q1, q2⟩ := ze2 rm (by omega)
      generalize hfr : zbc rm = f at *
      have hk'n := zix e2 h1
      have hfk : f ∉ zbm k' := fun h => q2 (h2 f h)
      have hlt : r1 < (zad (zcs rT i (zh6 ((tmK rT i).getD zTm) x f)) i).length := by rw [zb6, e8]; omega
      have hB : zad (zea (zcs rT i (zh6 ((tmK rT i).getD zTm) x f)) i r1 f) i = (zad rT i).set r1 f := by rw [zjg _ hlt, zb6]
      have hnd := yad e2 i
      have hfb : f ∉ zad rT i := fun h => q2 (e3 f h)
      have hin := ya5 x f q1 _ k' (Nat.le_refl _) hk'n hfk
      refine ⟨zh6 k' x f, by rw [zgs, zfe h1, if_pos rfl, h1]; rfl, fun s hs => ?_, fun y => ?_, fun p hp => ?_⟩
      · rcases zw3 x f k' s hs with h | h
        · exact List.mem_append_left _ (h2 s h)
        · exact List.mem_append_right _ (by rw [h]; simp)
      · rw [hB, ← h3 y, hin y, zuu hnd hx2]
        constructor
        · rintro ⟨⟨g1, g2⟩ | ⟨g1, g2⟩, g3⟩
          · refine ⟨g1, fun hm => g3 (.inr ⟨hm, g2⟩)⟩
          · exact absurd (.inl g1) g3
        · rintro ⟨g1, g2⟩
          have hyx : y ≠ x := fun e => g2 (e ▸ List.mem_of_getElem? hx2)
          refine ⟨.inl ⟨g1, hyx⟩, fun hm => ?_⟩
          rcases hm with hm | ⟨hm, _⟩
          · exact hfk (hm ▸ zxw k' y hk'n g1)
          · exact g2 hm
      · rw [hB]
        by_cases hp2 : p = r1
        · subst hp2
          refine ⟨x, f, hx, ?_, .inr ⟨hf, fun hm => q2 (e5 f hm)⟩⟩
          rw [List.getElem?_set_self (by rw [e8]; omega)]
        · obtain ⟨x', y', g1, g2, g3⟩ := h4 p (by omega)
          exact ⟨x', y', g1, by rw [List.getElem?_set_ne (by omega)]; exact g2, g3⟩
    · rw [if_neg hf]
      refine ⟨k', h1, h2, h3, fun p hp => ?_⟩
      by_cases hp2 : p = r1
      · subst hp2
        exact ⟨x, x, hx, hx2, .inl ⟨by simpa using hf, rfl⟩⟩
      · exact h4 p (by omega)
theorem ykw {fr : List Str} {i : Nat} {T k : Tm} {m : List Str} (hn : zag T = true) (hi : i < zcy T) (hsub : ∀ s ∈ zad T i, s ∈ m) (hst : ∀ s ∈ zbm k, s ∈ m) (hk : tmK T i = some k) (hml : m.length + (zad T i).length ≤ 699) :
    ∃ k', tmK (zj6 fr i T m).2.1 i = some k' ∧ (∀ s ∈ zbm k', s ∈ (zj6 fr i T m).2.2) ∧ (∀ y, (inT k' y ∧ y ∉ zad (zj6 fr i T m).2.1 i) ↔ (inT k y ∧ y ∉ zad T i)) ∧
      (∀ y ∈ zad (zj6 fr i T m).2.1 i, (y ∈ zad T i ∧ zbp fr y = false) ∨ y ∉ m) ∧ (∀ y ∈ zad T i, zbp fr y = false → y ∈ zad (zj6 fr i T m).2.1 i) := by
  obtain ⟨k', h1, h2, h3, h4⟩ := ya7 (fr := fr) hn hi hsub hst hk hml _ (Nat.le_refl _)
  obtain ⟨_, _, _, _, _, _, _, e8, _⟩ := zf1 (fr := fr) hn hi hsub hml _ (Nat.le_refl _)
  rw [zjt] at h1 h2 h3 h4 e8
  refine ⟨k', h1, h2, h3, fun y hy => ?_, fun y hy hf => ?_⟩
  · obtain ⟨p, hp⟩ := List.getElem?_of_mem hy
    obtain ⟨x', y', g1, g2, g3⟩ := h4 p (by rw [← e8]; exact (List.getElem?_eq_some_iff.1 hp).1)
    rw [hp] at g2; cases g2
    rcases g3 with ⟨g3, rfl⟩ | ⟨_, g3⟩
    · exact .inl ⟨List.mem_of_getElem? g1, g3⟩
    · exact .inr g3
  · obtain ⟨p, hp⟩ := List.getElem?_of_mem hy
    obtain ⟨x', y', g1, g2, g3⟩ := h4 p (List.getElem?_eq_some_iff.1 hp).1
    rw [hp] at g1; cases g1
    rcases g3 with ⟨_, rfl⟩ | ⟨g3, _⟩
    · exact List.mem_of_getElem? g2
    · rw [hf] at g3; cases g3
end Go.Hk

/- Plain laws of what replacer.in computes: all rounds first, then the parts. -/
namespace Go.Hk
open Go.Proofs
def zli (fr : List Str) : Nat → Nat → Tm → List Str → Tm × List Str
  | 0, _, T, m => (T, m)
  | k + 1, i, T, m => zli fr k (i + 1) (zj6 fr i T m).2.1 (zj6 fr i T m).2.2
theorem zwv (T : Tm) {i l : Nat} (h : i ≠ l) (a b : Tm) : zcs (zcs T i a) l b = zcs (zcs T l b) i a := by
  obtain ⟨op, n, x, ks, ps⟩ := T
  simp only [zcs, List.set_comm _ _ h]
theorem ymc (T : Tm) (i : Int) (j : Nat) (f : Str) (l : Nat) (c : Tm) : zea (zcs T l c) i j f = zcs (zea T i j f) l c := by
  obtain ⟨op, n, x, ks, ps⟩ := T
  simp only [zcs, zea]
  split
  · rfl
  · split
    · split <;> rfl
    · rfl
theorem zkt (T : Tm) {i l : Nat} (h : l ≠ i) (c : Tm) : tmK (zcs T i c) l = tmK T l := by
  obtain ⟨op, n, x, ks, ps⟩ := T
  simp only [zcs, tmK, List.getElem?_set_ne (fun e => h e.symm)]
theorem zmt {fr : List Str} {i l : Nat} (h : l ≠ i) (c : Tm) : ∀ (xs : List Str) (j : Nat) (T : Tm) (m : List Str), xs.foldl (zfy fr l) (j, zcs T i c, m) = ((xs.foldl (zfy fr l) (j, T, m)).1, zcs (xs.foldl (zfy fr l) (j, T, m)).2.1 i c, (xs.foldl (zfy fr l) (j, T, m)).2.2)
  | [], j, T, m => rfl
  | x :: r, j, T, m => by
    simp only [List.foldl_cons, zfy]
    split
    · rw [zkt T h, zwv T (fun e => h e.symm), ymc]
      exact zmt h c r _ _ _
    · exact zmt h c r _ _ _
theorem yia {fr : List Str} {i l : Nat} (h : l ≠ i) (c : Tm) (T : Tm) (m : List Str) : zj6 fr l (zcs T i c) m = ((zj6 fr l T m).1, zcs (zj6 fr l T m).2.1 i c, (zj6 fr l T m).2.2) := by
  rw [zj6, zb6]; exact zmt h c _ _ _ _
def zzn : Tm → Tm
  | .mk op n x _ ps => .mk op n x [] ps
theorem ymw (T : Tm) (i : Nat) (c : Tm) : zzn (zcs T i c) = zzn T := by obtain ⟨op, n, x, ks, ps⟩ := T; rfl
theorem tm_ext {T U : Tm} (h1 : zzn T = zzn U) (h2 : ∀ l, tmK T l = tmK U l) : T = U := by
  obtain ⟨op, n, x, ks, ps⟩ := T
  obtain ⟨op', n', x', ks', ps'⟩ := U
  simp only [zzn, Tm.mk.injEq, true_and] at h1
  obtain ⟨rfl, rfl, rfl, rfl⟩ := h1
  simp only [tmK] at h2
  rw [List.ext_getElem? h2]
theorem zgx {fr : List Str} : ∀ (k i : Nat) (T : Tm) (m : List Str), zag T = true → i + k = zcy T → (∀ l, l < zcy T → i ≤ l → ∀ s ∈ zad T l, s ∈ m) → m.length + zgp T k i ≤ 699 →
    zag (zli fr k i T m).1 = true ∧ zcy (zli fr k i T m).1 = zcy T ∧ (∀ l, l < i → tmK (zli fr k i T m).1 l = tmK T l ∧ zad (zli fr k i T m).1 l = zad T l) ∧ (∀ s ∈ m, s ∈ (zli fr k i T m).2) ∧ zoq T (zli fr k i T m).1 ∧ (zli fr k i T m).2.length ≤ m.length + zgp T k i
  | 0, i, T, m, hn, _, _, _ => ⟨hn, rfl, fun _ _ => ⟨rfl, rfl⟩, fun _ h => h, zjv T, by simp [zli]⟩
  | k + 1, i, T, m, hn, hlen, hsub, hml => by
    simp only [zgp] at hml ⊢
    obtain ⟨_, a2, a3, a4, a5, a6, a7, a8, _, a10, a11, a12⟩ := zf1 (fr := fr) hn (by omega) (hsub i (by omega) (Nat.le_refl _)) (by omega) _ (Nat.le_refl _)
    rw [zjt] at a2 a3 a4 a5 a6 a7 a8 a10 a11 a12
    have hc : zgp (zj6 fr i T m).2.1 k (i + 1) = zgp T k (i + 1) := zey (fun l => by
      obtain ⟨_, _, _, _, _, _, _, _, _, _, _, _, hb⟩ := a11
      exact hb l) k (i + 1)
    simp only [zli]
    generalize zj6 fr i T m = r at *
    obtain ⟨r1, rT, rm⟩ := r
    simp only at *
    obtain ⟨b1, b2, b3, b4, b5, b6⟩ := zgx (fr := fr) k (i + 1) rT rm a2 (by omega) (fun l hl hl2 s hs => by rw [a4 l (by omega) (by omega)] at hs; exact a5 s (hsub l (by omega) (by omega) s hs)) (by rw [hc]; omega)
    refine ⟨b1, by omega, fun l hl => ?_, fun s hs => b4 s (a5 s hs), zqj a11 b5, by rw [hc] at b6; omega⟩
    obtain ⟨c1, c2⟩ := b3 l (by omega)
    exact ⟨by rw [c1, a10 l (by omega)], by rw [c2, a4 l (by omega) (by omega)]⟩
theorem zuw {rec : Tm → Tm} {nm : Str} {fr : List Str} {i : Nat} (c : Tm) : ∀ (k l : Nat) (T : Tm) (m : List Str), i < l → lpR rec nm fr k l (zcs T i c) m = zcs (lpR rec nm fr k l T m) i c
  | 0, l, T, m, h => rfl
  | k + 1, l, T, m, h => by
    simp only [lpR, yia (show l ≠ i by omega), zb6, zkt _ (show l ≠ i by omega)]
    split
    · exact zuw c k (l + 1) _ _ (by omega)
    · rw [zwv _ (show i ≠ l by omega)]
      exact zuw c k (l + 1) _ _ (by omega)
theorem ybq {rec : Tm → Tm} {nm : Str} {fr : List Str} : ∀ (k i : Nat) (T : Tm) (m : List Str), zag T = true → i + k = zcy T → (∀ l, l < zcy T → i ≤ l → ∀ s ∈ zad T l, s ∈ m) → m.length + zgp T k i ≤ 699 →
    zzn (lpR rec nm fr k i T m) = zzn (zli fr k i T m).1 ∧ ∀ l, tmK (lpR rec nm fr k i T m) l = (tmK (zli fr k i T m).1 l).map fun c => if i ≤ l then (if zbp (zad T l) nm = true then c else rec c) else c
  | 0, i, T, m, hn, hlen, _, _ => ⟨rfl, fun l => by
    simp only [lpR, zli]
    cases h : tmK T l with
    | none => rfl
    | some c =>
      have := yas h
      simp only [Option.map_some, if_neg (show ¬ i ≤ l by omega)]⟩
  | k + 1, i, T, m, hn, hlen, hsub, hml => by
    simp only [zgp] at hml
    obtain ⟨_, a2, a3, a4, a5, a6, a7, a8, _, a10, a11, a12⟩ := zf1 (fr := fr) hn (by omega) (hsub i (by omega) (Nat.le_refl _)) (by omega) _ (Nat.le_refl _)
    rw [zjt] at a2 a3 a4 a5 a6 a7 a8 a10 a11 a12
    have hc : zgp (zj6 fr i T m).2.1 k (i + 1) = zgp T k (i + 1) := zey (fun l => by
      obtain ⟨_, _, _, _, _, _, _, _, _, _, _, _, hb⟩ := a11
      exact hb l) k (i + 1)
    simp only [lpR, zli]
    generalize zj6 fr i T m = r at *
    obtain ⟨r1, rT, rm⟩ := r
    simp only at *
    have hsub2 : ∀ l, l < zcy rT → i + 1 ≤ l → ∀ s ∈ zad rT l, s ∈ rm := fun l hl hl2 s hs => by rw [a4 l (by omega) (by omega)] at hs; exact a5 s (hsub l (by omega) (by omega) s hs)
    obtain ⟨_, b2, b3, _⟩ := zgx (fr := fr) k (i + 1) rT rm a2 (by omega) hsub2 (by rw [hc]; omega)
    obtain ⟨d1, d2⟩ := ybq (rec := rec) (nm := nm) (fr := fr) k (i + 1) rT rm a2 (by omega) hsub2 (by rw [hc]; omega)
    have key : ∀ l, ((tmK (zli fr k (i + 1) rT rm).1 l).map fun c => if i + 1 ≤ l then (if zbp (zad rT l) nm = true then c else rec c) else c) = (tmK (zli fr k (i + 1) rT rm).1 l).map fun c => if i + 1 ≤ l then (if zbp (zad T l) nm = true then c else rec c) else c := fun l => by
      cases h : tmK (zli fr k (i + 1) rT rm).1 l with
      | none => rfl
      | some c =>
        simp only [Option.map_some]
        by_cases hl : i + 1 ≤ l
        · rw [if_pos hl, if_pos hl, a4 l (by have := yas h; omega) (by omega)]
        · rw [if_neg hl, if_neg hl]
    split
    · rename_i hh
      refine ⟨d1, fun l => ?_⟩
      rw [d2 l, key l]
      cases h : tmK (zli fr k (i + 1) rT rm).1 l with
      | none => rfl
      | some c =>
        simp only [Option.map_some]
        by_cases hl : i + 1 ≤ l
        · rw [if_pos hl, if_pos (show i ≤ l by omega)]
        · rw [if_neg hl]
          by_cases hl2 : i ≤ l
          · have : l = i := by omega
            subst this
            rw [if_pos hl2, if_pos hh]
          · rw [if_neg hl2]
    · rename_i hh
      have hlp := zuw (rec := rec) (nm := nm) (fr := fr) (rec ((tmK rT i).getD zTm)) k (i + 1) rT rm (Nat.lt_succ_self i)
      rw [hlp]
      refine ⟨by rw [ymw]; exact d1, fun l => ?_⟩
      obtain ⟨kk, hkk⟩ := zou (show i < zcy (zli fr k (i + 1) rT rm).1 by omega)
      have hkT : tmK rT i = some kk := by rw [← (b3 i (Nat.lt_succ_self i)).1]; exact hkk
      by_cases hl : l = i
      · subst hl
        have hkk2 : tmK (lpR rec nm fr k (l + 1) rT rm) l = some kk := by
          rw [d2 l, hkk]; simp only [Option.map_some, if_neg (show ¬ l + 1 ≤ l by omega)]
        rw [zfe hkk2, if_pos rfl, hkk, hkT]
        simp only [Option.map_some, if_pos (Nat.le_refl l), if_neg hh, Option.getD_some]
      · rw [zkt _ hl, d2 l, key l]
        cases h : tmK (zli fr k (i + 1) rT rm).1 l with
        | none => rfl
        | some c =>
          simp only [Option.map_some]
          by_cases hl2 : i + 1 ≤ l
          · rw [if_pos hl2, if_pos (show i ≤ l by omega)]
          · rw [if_neg hl2, if_neg (show ¬ i ≤ l by omega)]
theorem zpz {fr : List Str} : ∀ (k i : Nat) (T : Tm) (m : List Str), zag T = true → i + k = zcy T → (∀ l, l < zcy T → i ≤ l → ∀ s ∈ zad T l, s ∈ m) → m.length + zgp T k i ≤ 699 → ∀ (l : Nat) (c : Tm), i ≤ l → tmK T l = some c → (∀ s ∈ zbm c, s ∈ m) →
    ∃ c', tmK (zli fr k i T m).1 l = some c' ∧ zcx c' = zcx c ∧ (∀ y, (inT c' y ∧ y ∉ zad (zli fr k i T m).1 l) ↔ (inT c y ∧ y ∉ zad T l)) ∧
      (∀ y ∈ zad (zli fr k i T m).1 l, (y ∈ zad T l ∧ zbp fr y = false) ∨ y ∉ m) ∧ (∀ y ∈ zad T l, zbp fr y = false → y ∈ zad (zli fr k i T m).1 l)
  | 0, i, T, m, hn, hlen, _, _, l, c, hl, hc, _ => by have := yas hc; omega
  | k + 1, i, T, m, hn, hlen, hsub, hml, l, c, hl, hcl, hst => by
    simp only [zgp] at hml
    have hi := hsub i (by omega) (Nat.le_refl _)
    obtain ⟨_, a2, a3, a4, a5, a6, a7, a8, _, a10, a11, a12⟩ := zf1 (fr := fr) hn (by omega) hi (by omega) _ (Nat.le_refl _)
    rw [zjt] at a2 a3 a4 a5 a6 a7 a8 a10 a11 a12
    have hc : zgp (zj6 fr i T m).2.1 k (i + 1) = zgp T k (i + 1) := zey (fun l => by
      obtain ⟨_, _, _, _, _, _, _, _, _, _, _, _, hb⟩ := a11
      exact hb l) k (i + 1)
    have hsub2 : ∀ l, l < zcy (zj6 fr i T m).2.1 → i + 1 ≤ l → ∀ s ∈ zad (zj6 fr i T m).2.1 l, s ∈ (zj6 fr i T m).2.2 := fun l hl hl2 s hs => by rw [a4 l (by omega) (by omega)] at hs; exact a5 s (hsub l (by omega) (by omega) s hs)
    simp only [zli]
    by_cases hli : l = i
    · subst hli
      obtain ⟨c', b1, b2, b3, b4, b5⟩ := ykw (fr := fr) hn (by omega) hi hst hcl (by omega)
      obtain ⟨c2, e1, e2⟩ := a12 c hcl
      rw [b1] at e1; cases e1
      obtain ⟨_, _, d3, _⟩ := zgx (fr := fr) k (l + 1) (zj6 fr l T m).2.1 (zj6 fr l T m).2.2 a2 (by omega) hsub2 (by rw [hc]; omega)
      obtain ⟨f1, f2⟩ := d3 l (Nat.lt_succ_self l)
      rw [f1, f2]
      exact ⟨c', b1, e2, b3, b4, b5⟩
    · have hcl2 : tmK (zj6 fr i T m).2.1 l = some c := by rw [a10 l hli]; exact hcl
      obtain ⟨c', b1, b2, b3, b4, b5⟩ := zpz (fr := fr) k (i + 1) (zj6 fr i T m).2.1 (zj6 fr i T m).2.2 a2 (by omega) hsub2 (by rw [hc]; omega) l c (by omega) hcl2 (fun s hs => a5 s (hst s hs))
      have hbl := a4 l (by have := yas hcl; omega) hli
      rw [hbl] at b3 b4 b5
      exact ⟨c', b1, b2, b3, fun y hy => (b4 y hy).imp id fun h hm => h (a5 y hm), b5⟩
def zr9 (rec : Tm → Tm) (nm : Str) (T : Tm) : Nat → List Tm → List Tm
  | _, [] => []
  | i, k :: r => (if zbp (zad T i) nm = true then k else rec k) :: zr9 rec nm T (i + 1) r
def finT (rec : Tm → Tm) (nm : Str) : Tm → Tm
  | .mk op n x ks ps => .mk op n x (zr9 rec nm (.mk op n x ks ps) 0 ks) ps
theorem zma (rec : Tm → Tm) (nm : Str) (T : Tm) : ∀ (l : List Tm) (i j : Nat), (zr9 rec nm T i l)[j]? = (l[j]?).map fun c => if zbp (zad T ((i + j : Nat) : Int)) nm = true then c else rec c
  | [], i, j => by simp [zr9]
  | k :: r, i, 0 => by simp [zr9]
  | k :: r, i, j + 1 => by
    simp only [zr9, List.getElem?_cons_succ]
    rw [zma rec nm T r (i + 1) j, show i + 1 + j = i + (j + 1) by omega]
theorem zg3 {t : Tm} (h : zag t = true) (y : Str) : y ∈ zc9 t [] [] ↔ inT t y := by
  rw [zu7 t [] [] y (zhi t h)]
  simp [zbp]
theorem yi6 {nm : Str} {by' : Tm} {fr : List Str} : ∀ (N : Nat) (t : Tm), zag t = true → ¬ inT t nm → rpl nm by' fr N t = t
  | 0, _, _, _ => rfl
  | N + 1, .mk op n x ks ps, hn, h => by
    rw [rpl, if_neg (fun hh => h ((zg3 hn nm).1 (za1.1 hh)))]
theorem yfk {nm : Str} {by' : Tm} {fr : List Str} {N : Nat} {op n : Int} {x : Str} {ks : List Tm} {ps : List Ty} (hn : zag (.mk op n x ks ps) = true) (h60 : zcx (.mk op n x ks ps) ≤ 60) (hfl : fr.length ≤ 60) (hyes : zbp (zc9 (.mk op n x ks ps) [] []) nm = true) (e : ¬ op = 4) :
    rpl nm by' fr (N + 1) (.mk op n x ks ps) = finT (rpl nm by' fr N) nm (zli fr ks.length 0 (.mk op n x ks ps) (nm :: fr ++ zbm (.mk op n x ks ps))).1 := by
  rw [rpl, if_pos hyes, if_neg e]
  have htk := zuc hn h60 (nm := nm) hfl
  have hsub : ∀ l, l < zcy (.mk op n x ks ps) → 0 ≤ l → ∀ s ∈ zad (.mk op n x ks ps) (l : Int), s ∈ nm :: fr ++ zbm (.mk op n x ks ps) := fun l hl _ s hs => by
    refine List.mem_append_right _ ?_
    simp only [zbm, List.mem_append]
    exact .inr (zee 0 ks l hl s (by simpa using hs))
  have hst : ∀ l c, tmK (.mk op n x ks ps) l = some c → ∀ s ∈ zbm c, s ∈ nm :: fr ++ zbm (.mk op n x ks ps) := fun l c hc s hs => by
    refine List.mem_append_right _ ?_
    simp only [zbm, List.mem_append]
    exact .inr (zha 0 ks l c hc s hs)
  obtain ⟨h1, h2⟩ := ybq (rec := rpl nm by' fr N) (nm := nm) (fr := fr) ks.length 0 (.mk op n x ks ps) (nm :: fr ++ zbm (.mk op n x ks ps)) hn (by simp [zcy]) hsub htk
  obtain ⟨k1, k2, _, _, _, _⟩ := zgx (fr := fr) ks.length 0 (.mk op n x ks ps) (nm :: fr ++ zbm (.mk op n x ks ps)) hn (by simp [zcy]) hsub htk
  have hfree := zpz (fr := fr) ks.length 0 (.mk op n x ks ps) (nm :: fr ++ zbm (.mk op n x ks ps)) hn (by simp [zcy]) hsub htk
  generalize zli fr ks.length 0 (.mk op n x ks ps) (nm :: fr ++ zbm (.mk op n x ks ps)) = R at *
  obtain ⟨TR, mR⟩ := R
  simp only at *
  obtain ⟨op2, n2, x2, ks2, ps2⟩ := TR
  refine tm_ext (by rw [h1]; rfl) fun l => ?_
  rw [h2 l]
  show _ = (zr9 _ nm _ 0 ks2)[l]?
  rw [zma, Nat.zero_add]
  show ((ks2[l]?).map _) = _
  cases hk : ks2[l]? with
  | none => rfl
  | some c' =>
    simp only [Option.map_some, if_pos (Nat.zero_le l), Option.some.injEq]
    obtain ⟨c, hc⟩ := zou (show l < zcy (.mk op n x ks ps) by
      have := (List.getElem?_eq_some_iff.1 hk).1
      simp only [zcy] at k2 ⊢; omega)
    obtain ⟨c2, f1, _, f2, f3, f4⟩ := hfree l c (Nat.zero_le _) hc (hst l c hc)
    have : c2 = c' := by
      have f1 : ks2[l]? = some c2 := f1
      rw [hk] at f1; exact (Option.some.inj f1).symm
    subst this
    have hcn : zag c2 = true := zix (T := .mk op2 n2 x2 ks2 ps2) k1 hk
    by_cases hb : nm ∈ zad (.mk op n x ks ps) (l : Int)
    · rw [if_pos (za1.2 hb)]
      by_cases hb2 : nm ∈ zad (.mk op2 n2 x2 ks2 ps2) (l : Int)
      · rw [if_pos (za1.2 hb2)]
      · rw [if_neg (fun h => hb2 (za1.1 h))]
        refine (yi6 N c2 hcn fun hi => ?_).symm
        exact ((f2 nm).1 ⟨hi, hb2⟩).2 hb
    · rw [if_neg (fun h => hb (za1.1 h))]
      rw [if_neg (fun h => ?_)]
      rcases f3 nm (za1.1 h) with ⟨h3, _⟩ | h3
      · exact hb h3
      · exact h3 (by simp)
end Go.Hk

/- Contract of Subst: a term with another one in place of a name, or the error. -/
namespace Go.Hk
open Go.Proofs
def zfb (t : Tm) (nm : Str) (by' : Tm) : Tm := rpl nm by' (zc9 by' [] []) 60 t
def ye6 (t : Tm) (nm : Str) (by' : Tm) : Tm × Int := bif za6 t && zcj nm && za6 by' then (bif za6 (zfb t nm by') then (zfb t nm by', 0) else (zTm, 3)) else (zTm, 2)
theorem znb {t : Tm} (h : za6 t = true) : (zc9 t [] []).length ≤ 60 ∧ ∀ s ∈ zc9 t [] [], s.length ≤ 8 := by
  obtain ⟨h1, _, _, h4⟩ := zcl t h
  refine ⟨by have := zja t [] []; simp at this; omega, fun s hs => ?_⟩
  simp only [za6, Bool.and_eq_true] at h
  rcases zhp t [] [] h.2 s hs with h | h
  · cases h
  · exact h
theorem zpf {t : Tm} {nm : Str} {by' : Tm} (ht : za6 t = true) (hb : za6 by' = true) : zag (zfb t nm by') = true := by
  have h60 := (zcl t ht).2.2.2
  have hfl := (znb hb).1
  simp only [za6, Bool.and_eq_true] at ht hb
  exact zpt hb.2 hfl 60 t h60 ht.2
set_option maxRecDepth 100000 in
theorem zj7 (t : Tm) (nm : Str) (by' : Tm) (ht : zei t = za6 t) (hb : zei by' = za6 by') : zax Tryz.prog 9 [.agg (dTmc t), .str nm, .agg (dTmc by')] (.tup [.agg (dTmc (ye6 t nm by').1), .int .i64 (ye6 t nm by').2]) := by
  refine zaf ttX_ok Tryz.func9 (by decide +kernel) rfl [1, 2, 3, 4, 5, 6, 7, 8, 9] rfl rfl ?_
  refine xg [] rfl (by simp) ?_
  refine zac rfl (fun _ => zfp t) (by simp) ?_
  rw [ht]
  refine xg [] rfl (by simp [zai]) ?_
  refine zac rfl (fun _ => zff nm) (by simp [zai]) ?_
  refine xg [] rfl (by simp [zai]) ?_
  refine zac rfl (fun _ => zfp by') (by simp [zai]) ?_
  rw [hb]
  refine xg [] rfl (by simp [zai]) ?_
  cases h1 : za6 t && zcj nm && za6 by' with
  | false =>
    refine zab rfl (fun h => ?_) (fun h => ?_)
    · refine xd [] rfl (by simp) ?_
      rw [show ye6 t nm by' = (zTm, 2) by simp only [ye6, h1, cond_false]]
      exact zaa ⟨_, rfl, tV rfl, trivial⟩
    · exfalso
      cases e1 : za6 t <;> cases e2 : zcj nm <;> cases e3 : za6 by' <;> simp [e1, e2, e3, zzx] at h h1
  | true =>
    simp only [Bool.and_eq_true] at h1
    obtain ⟨⟨e1, e2⟩, e3⟩ := h1
    rw [e1, e2, e3]
    refine zab rfl (fun h => by simp [zzx] at h) (fun h => ?_)
    clear h
    obtain ⟨f1, f2, f3, f4⟩ := zcl by' e3
    obtain ⟨g1, g2⟩ := znb e3
    have h60 := (zcl t e1).2.2.2
    have htn : zag t = true := by simp only [za6, Bool.and_eq_true] at e1; exact e1.2
    have hS := yfw nm by' (zc9 by' [] []) (zfq e3) g1 (fun s hs => by
      rcases List.mem_cons.1 hs with h | h
      · rw [h]; exact zp8 e2
      · exact g2 s h) 60 t h60 htn h60
    have hso := zri (zpf (nm := nm) e1 e3)
    have hco := zfp (zfb t nm by')
    rw [hso] at hco
    have esub : zfb t nm by' = rpl nm by' (zc9 by' [] []) 60 t := rfl
    obtain ⟨bo, bn, bx, bks, bps⟩ := by'
    refine xd [] rfl (by simp) ?_
    refine zi8 rfl ?_
    refine xg [] rfl (by simp) ?_
    refine zar (fr := []) [(4, 1)] [] rfl (by simp) (zqt (.mk bo bn bx bks bps) [] [] f2) ⟨⟨rfl, rfl, rfl⟩, trivial⟩ rfl rfl rfl rfl ?_
    refine xg [] rfl (by simp) ?_
    rw [← esub] at hS
    have eR : ye6 t nm (.mk bo bn bx bks bps) = bif za6 (zfb t nm (.mk bo bn bx bks bps)) then (zfb t nm (.mk bo bn bx bks bps), 0) else (zTm, 3) := by simp only [ye6, e1, e2, e3, Bool.and_self, cond_true]
    rw [eR]
    generalize zfb t nm (.mk bo bn bx bks bps) = r at *
    obtain ⟨ro, rn, rx, rks, rps⟩ := r
    refine zar (fr := []) [(4, 7)] [] rfl (by simp) hS ⟨⟨rfl, rfl, rfl⟩, trivial⟩ rfl rfl rfl rfl ?_
    refine xg [] rfl (by simp) ?_
    refine zac rfl (fun _ => hco) (by simp) ?_
    refine xg [] rfl (by simp) ?_
    cases hr : za6 (.mk ro rn rx rks rps) with
    | false =>
      refine zab rfl (fun h => ?_) (fun h => by simp at h)
      refine xd [] rfl (by simp) ?_
      exact zaa ⟨_, rfl, tV rfl, trivial⟩
    | true =>
      refine zab rfl (fun h => by simp at h) (fun h => ?_)
      refine xd [] rfl (by simp) ?_
      exact zaa ⟨_, rfl, tV rfl, trivial⟩
end Go.Hk

/- Plain laws of replacement: free names; a term without free names; two replacements. -/
namespace Go.Hk
open Go.Proofs
theorem yle {nm : Str} {by' : Tm} {fr : List Str} (hbn : zag by' = true) (hfr : ∀ y, y ∈ fr ↔ inT by' y) (hfl : fr.length ≤ 60) : ∀ (N : Nat) (t : Tm), zcx t ≤ N → zag t = true → zcx t ≤ 60 → ∀ y, inT (rpl nm by' fr N t) y ↔ (inT t y ∧ y ≠ nm) ∨ (inT t nm ∧ inT by' y)
  | 0, t, hc, _, _, _ => by have := zla t; omega
  | N + 1, .mk op n x ks ps, hc, hn, h60, y => by
    by_cases hyes : zbp (zc9 (.mk op n x ks ps) [] []) nm = true
    · have hin : inT (.mk op n x ks ps) nm := (zg3 hn nm).1 (za1.1 hyes)
      by_cases e : op = 4
      · rw [rpl, if_pos hyes, if_pos e]
        simp only [inT, if_pos e] at hin ⊢
        constructor
        · intro h; exact .inr ⟨hin, h⟩
        · rintro (⟨h1, h2⟩ | ⟨_, h⟩)
          · exact absurd (h1.trans hin.symm) h2
          · exact h
      · have hnr := zpt (nm := nm) (fr := fr) hbn hfl (N + 1) (.mk op n x ks ps) h60 hn
        rw [yfk hn h60 hfl hyes e] at hnr ⊢
        have htk := zuc hn h60 (nm := nm) hfl
        have hsub : ∀ l, l < zcy (.mk op n x ks ps) → 0 ≤ l → ∀ s ∈ zad (.mk op n x ks ps) (l : Int), s ∈ nm :: fr ++ zbm (.mk op n x ks ps) := fun l hl _ s hs => by
          refine List.mem_append_right _ ?_
          simp only [zbm, List.mem_append]
          exact .inr (zee 0 ks l hl s (by simpa using hs))
        have hst : ∀ l c, tmK (.mk op n x ks ps) l = some c → ∀ s ∈ zbm c, s ∈ nm :: fr ++ zbm (.mk op n x ks ps) := fun l c hc s hs => by
          refine List.mem_append_right _ ?_
          simp only [zbm, List.mem_append]
          exact .inr (zha 0 ks l c hc s hs)
        obtain ⟨k1, k2, _, _, k5, _⟩ := zgx (fr := fr) ks.length 0 (.mk op n x ks ps) (nm :: fr ++ zbm (.mk op n x ks ps)) hn (by simp [zcy]) hsub htk
        have hfree := zpz (fr := fr) ks.length 0 (.mk op n x ks ps) (nm :: fr ++ zbm (.mk op n x ks ps)) hn (by simp [zcy]) hsub htk
        generalize zli fr ks.length 0 (.mk op n x ks ps) (nm :: fr ++ zbm (.mk op n x ks ps)) = R at *
        obtain ⟨TR, mR⟩ := R
        simp only at *
        obtain ⟨_, _, _, _, _, x2, ks2, ps2, e1, e2, _⟩ := k5
        cases e1
        subst e2
        simp only [finT] at hnr ⊢
        rw [zf7 hnr e, zf7 hn e, zf7 hn e]
        have hbd : ∀ i : Int, zad (.mk op n x2 (zr9 (rpl nm by' fr N) nm (.mk op n x2 ks2 ps2) 0 ks2) ps2) i = zad (.mk op n x2 ks2 ps2) i := fun _ => rfl
        simp only [hbd]
        have key : ∀ (l : Nat) (c c' : Tm), ks[l]? = some c → ks2[l]? = some c' → ((inT (if zbp (zad (.mk op n x2 ks2 ps2) (l : Int)) nm = true then c' else rpl nm by' fr N c') y ∧ y ∉ zad (.mk op n x2 ks2 ps2) (l : Int)) ↔
            (inT c y ∧ y ∉ zad (.mk op n x ks ps) (l : Int)) ∧ y ≠ nm ∨ (inT c nm ∧ nm ∉ zad (.mk op n x ks ps) (l : Int)) ∧ inT by' y) := fun l c c' hc1 hc2 => by
          obtain ⟨c2, f1, fc, f2, f3, f4⟩ := hfree l c (Nat.zero_le _) hc1 (hst l c hc1)
          have f1 : ks2[l]? = some c2 := f1
          rw [hc2] at f1; cases f1
          have hcn : zag c' = true := zix (T := .mk op n x2 ks2 ps2) k1 hc2
          have hcc := zeh hc1
          simp only [zcx] at hc h60
          have IH := yle (nm := nm) hbn hfr hfl N c' (by omega) hcn (by omega) y
          have hnb : inT by' y → y ∉ zad (.mk op n x2 ks2 ps2) (l : Int) := fun hb hm => by
            have hyf := (hfr y).2 hb
            rcases f3 y hm with ⟨_, h⟩ | h
            · rw [za1.2 hyf] at h; cases h
            · exact h (by simp [hyf])
          by_cases hb : nm ∈ zad (.mk op n x2 ks2 ps2) (l : Int)
          · rw [if_pos (za1.2 hb), f2 y]
            have hb2 : nm ∈ zad (.mk op n x ks ps) (l : Int) := by
              rcases f3 nm hb with ⟨h, _⟩ | h
              · exact h
              · exact absurd (by simp) h
            constructor
            · rintro ⟨h1, h2⟩; exact .inl ⟨⟨h1, h2⟩, fun h => h2 (h ▸ hb2)⟩
            · rintro (⟨h, _⟩ | ⟨⟨_, h⟩, _⟩)
              · exact h
              · exact absurd hb2 h
          · rw [if_neg (fun h => hb (za1.1 h)), IH]
            constructor
            · rintro ⟨⟨h1, h2⟩ | ⟨h1, h2⟩, h3⟩
              · exact .inl ⟨(f2 y).1 ⟨h1, h3⟩, h2⟩
              · exact .inr ⟨(f2 nm).1 ⟨h1, hb⟩, h2⟩
            · rintro (⟨h1, h2⟩ | ⟨h1, h2⟩)
              · obtain ⟨g1, g2⟩ := (f2 y).2 h1
                exact ⟨.inl ⟨g1, h2⟩, g2⟩
              · obtain ⟨g1, g2⟩ := (f2 nm).2 h1
                exact ⟨.inr ⟨g1, h2⟩, hnb h2⟩
        simp only [zcy] at k2
        constructor
        · rintro ⟨l, c'', h1, h2, h3⟩
          rw [zma, Nat.zero_add] at h1
          obtain ⟨c', hc2, rfl⟩ := Option.map_eq_some_iff.1 h1
          obtain ⟨c, hc1⟩ : ∃ c, ks[l]? = some c := zal (by have := (List.getElem?_eq_some_iff.1 hc2).1; omega)
          rcases (key l c c' hc1 hc2).1 ⟨h2, h3⟩ with ⟨⟨g1, g2⟩, g3⟩ | ⟨⟨g1, g2⟩, g3⟩
          · exact .inl ⟨⟨l, c, hc1, g1, g2⟩, g3⟩
          · exact .inr ⟨⟨l, c, hc1, g1, g2⟩, g3⟩
        · intro h
          have : ∃ (l : Nat) (c : Tm), ks[l]? = some c ∧ ((inT c y ∧ y ∉ zad (.mk op n x ks ps) (l : Int)) ∧ y ≠ nm ∨ (inT c nm ∧ nm ∉ zad (.mk op n x ks ps) (l : Int)) ∧ inT by' y) := by
            rcases h with ⟨⟨l, c, h1, h2, h3⟩, h4⟩ | ⟨⟨l, c, h1, h2, h3⟩, h4⟩
            · exact ⟨l, c, h1, .inl ⟨⟨h2, h3⟩, h4⟩⟩
            · exact ⟨l, c, h1, .inr ⟨⟨h2, h3⟩, h4⟩⟩
          obtain ⟨l, c, hc1, hh⟩ := this
          obtain ⟨c', hc2⟩ : ∃ c', ks2[l]? = some c' := zal (by have := (List.getElem?_eq_some_iff.1 hc1).1; omega)
          obtain ⟨g1, g2⟩ := (key l c c' hc1 hc2).2 hh
          exact ⟨l, _, by rw [zma, Nat.zero_add, hc2]; rfl, g1, g2⟩
    · have hno : ¬ inT (.mk op n x ks ps) nm := fun h => hyes (za1.2 ((zg3 hn nm).2 h))
      rw [rpl, if_neg hyes]
      constructor
      · intro h; exact .inl ⟨h, fun h2 => hno (h2 ▸ h)⟩
      · rintro (⟨h, _⟩ | ⟨h, _⟩)
        · exact h
        · exact absurd h hno
mutual
def zgo (nm : Str) (by' : Tm) : Tm → Tm
  | .mk op n x ks ps => if op = 4 then (if x = nm then by' else .mk op n x ks ps) else .mk op n x (zkv nm by' (.mk op n x [] ps) 0 ks) ps
def zkv (nm : Str) (by' : Tm) (T : Tm) : Nat → List Tm → List Tm
  | _, [] => []
  | i, k :: r => (if zbp (zad T i) nm = true then k else zgo nm by' k) :: zkv nm by' T (i + 1) r
end
theorem zwl {i : Nat} : ∀ (xs : List Str) (j : Nat) (T : Tm) (m : List Str), (xs.foldl (zfy [] i) (j, T, m)).2 = (T, m)
  | [], j, T, m => rfl
  | x :: r, j, T, m => by
    simp only [List.foldl_cons, zfy, zbp, Bool.false_eq_true, if_false]
    exact zwl r _ _ _
theorem yba : ∀ (k i : Nat) (T : Tm) (m : List Str), zli [] k i T m = (T, m)
  | 0, _, _, _ => rfl
  | k + 1, i, T, m => by
    have := zwl (i := i) (zad T i) 0 T m
    simp only [zli, zj6, this]
    exact yba k (i + 1) T m
theorem zwi (nm : Str) (by' : Tm) : ∀ (N : Nat) (t : Tm), zcx t ≤ N → zag t = true → ¬ inT t nm → zgo nm by' t = t
  | 0, t, hc, _, _ => by have := zla t; omega
  | N + 1, .mk op n x ks ps, hc, hn, h => by
    rw [zgo]
    by_cases e : op = 4
    · rw [if_pos e, if_neg]
      intro hx
      exact h (by simp only [inT, if_pos e]; exact hx.symm)
    · rw [if_neg e]
      have key : ∀ (l : List Tm) (i : Nat), (∀ j c, l[j]? = some c → zag c = true ∧ zcx c ≤ N ∧ (inT c nm → nm ∈ zad (.mk op n x ks ps) ((i + j : Nat) : Int))) → zkv nm by' (.mk op n x [] ps) i l = l := by
        intro l
        induction l with
        | nil => intro i _; rfl
        | cons k r ih =>
          intro i hl
          simp only [zkv]
          rw [ih (i + 1) fun j c hj => by
            have := hl (j + 1) c (by simpa using hj)
            rwa [show i + (j + 1) = i + 1 + j by omega] at this]
          obtain ⟨g1, g2, g3⟩ := hl 0 k rfl
          congr 1
          split
          · rfl
          · rename_i hb
            exact zwi nm by' N k g2 g1 fun hi => hb (za1.2 (g3 hi))
      have hn' := hn
      simp only [zag, Bool.and_eq_true] at hn'
      rw [key ks 0 fun j c hj => ⟨zc7 hn'.2 hj, by have := zeh hj; simp only [zcx] at hc; omega, fun hi => ?_⟩]
      refine Classical.byContradiction fun hb => h ?_
      rw [zf7 hn e]
      exact ⟨j, c, hj, hi, by simpa using hb⟩
theorem ya2 {nm : Str} {by' : Tm} : ∀ (N : Nat) (t : Tm), zcx t ≤ N → zag t = true → zcx t ≤ 60 → rpl nm by' [] N t = zgo nm by' t
  | 0, t, hc, _, _ => by have := zla t; omega
  | N + 1, .mk op n x ks ps, hc, hn, h60 => by
    by_cases hyes : zbp (zc9 (.mk op n x ks ps) [] []) nm = true
    · by_cases e : op = 4
      · have hin : inT (.mk op n x ks ps) nm := (zg3 hn nm).1 (za1.1 hyes)
        simp only [inT, if_pos e] at hin
        rw [rpl, if_pos hyes, if_pos e, zgo, if_pos e, if_pos hin.symm]
      · rw [yfk hn h60 (by simp) hyes e, yba, zgo, if_neg e]
        simp only [finT]
        congr 1
        have hn' := hn
        simp only [zag, Bool.and_eq_true] at hn'
        have key : ∀ (l : List Tm) (i : Nat), (∀ c ∈ l, zag c = true ∧ zcx c ≤ N ∧ zcx c ≤ 60) → zr9 (rpl nm by' [] N) nm (.mk op n x ks ps) i l = zkv nm by' (.mk op n x [] ps) i l := by
          intro l
          induction l with
          | nil => intro i _; rfl
          | cons k r ih =>
            intro i hl
            simp only [zr9, zkv]
            obtain ⟨g1, g2, g3⟩ := hl k (by simp)
            rw [ih (i + 1) fun c hc => hl c (by simp [hc]), ya2 N k g2 g1 g3]
            rfl
        refine key ks 0 fun c hc' => ?_
        obtain ⟨j, hj⟩ := List.getElem?_of_mem hc'
        have := zeh hj
        simp only [zcx] at hc h60
        exact ⟨zc7 hn'.2 hj, by omega, by omega⟩
    · rw [rpl, if_neg hyes]
      exact (zwi nm by' _ _ (Nat.le_refl _) hn fun h => hyes (za1.2 ((zg3 hn nm).2 h))).symm
def zcg (op n : Int) : Tm := .mk op n [] [] []
theorem zwj (nm : Str) (by' : Tm) {op n : Int} (h : op ≠ 4) : zgo nm by' (zcg op n) = zcg op n := by
  simp only [zcg, zgo, if_neg h, zkv]
mutual
theorem zwk {s o : Str} {p q v w : Int} (hso : s ≠ o) (hp : p ≠ 4) (hq : q ≠ 4) : ∀ t : Tm, zgo o (zcg q w) (zgo s (zcg p v) t) = zgo s (zcg p v) (zgo o (zcg q w) t)
  | .mk op n x ks ps => by
    by_cases e : op = 4
    · by_cases h1 : x = s
      · have h2 : ¬ x = o := fun h => hso (h1.symm.trans h)
        have e1 : zgo s (zcg p v) (.mk op n x ks ps) = zcg p v := by rw [zgo, if_pos e, if_pos h1]
        have e2 : zgo o (zcg q w) (.mk op n x ks ps) = .mk op n x ks ps := by rw [zgo, if_pos e, if_neg h2]
        rw [e1, e2, e1, zwj o _ hp]
      · by_cases h2 : x = o
        · have e1 : zgo s (zcg p v) (.mk op n x ks ps) = .mk op n x ks ps := by rw [zgo, if_pos e, if_neg h1]
          have e2 : zgo o (zcg q w) (.mk op n x ks ps) = zcg q w := by rw [zgo, if_pos e, if_pos h2]
          rw [e1, e2, zwj s _ hq]
        · have e1 : zgo s (zcg p v) (.mk op n x ks ps) = .mk op n x ks ps := by rw [zgo, if_pos e, if_neg h1]
          have e2 : zgo o (zcg q w) (.mk op n x ks ps) = .mk op n x ks ps := by rw [zgo, if_pos e, if_neg h2]
          rw [e1, e2, e1]
    · simp only [zgo, if_neg e]
      rw [zsn hso hp hq (.mk op n x [] ps) 0 ks]
theorem zsn {s o : Str} {p q v w : Int} (hso : s ≠ o) (hp : p ≠ 4) (hq : q ≠ 4) (T : Tm) : ∀ (i : Nat) (l : List Tm), zkv o (zcg q w) T i (zkv s (zcg p v) T i l) = zkv s (zcg p v) T i (zkv o (zcg q w) T i l)
  | _, [] => rfl
  | i, k :: r => by
    simp only [zkv]
    rw [zsn hso hp hq T (i + 1) r]
    congr 1
    by_cases h1 : zbp (zad T i) s = true <;> by_cases h2 : zbp (zad T i) o = true
    · simp [h1, h2]
    · simp [h1, h2]
    · simp [h1, h2]
    · simp [h1, h2, zwk hso hp hq k]
end
mutual
theorem zwh (nm : Str) {p v : Int} : ∀ t : Tm, zag t = true → zcx (zgo nm (zcg p v) t) = zcx t ∧ dpT (zgo nm (zcg p v) t) = dpT t
  | .mk op n x ks ps, h => by
    simp only [zag, Bool.and_eq_true] at h
    rw [zgo]
    by_cases e : op = 4
    · have hks : ks = [] := List.eq_nil_of_length_eq_zero (by
        have := h.1.1
        simp [za9, e] at this
        simp [this.1.1])
      subst hks
      rw [if_pos e]
      split
      · exact ⟨rfl, rfl⟩
      · exact ⟨rfl, rfl⟩
    · rw [if_neg e]
      obtain ⟨h1, h2⟩ := zsm nm (p := p) (v := v) (.mk op n x [] ps) 0 ks h.2
      exact ⟨by simp only [zcx, h1], by simp only [dpT, h2]⟩
theorem zsm (nm : Str) {p v : Int} (T : Tm) : ∀ (i : Nat) (l : List Tm), zas l = true → zco (zkv nm (zcg p v) T i l) = zco l ∧ ∀ m, zq8 (zkv nm (zcg p v) T i l) m = zq8 l m
  | _, [], _ => ⟨rfl, fun _ => rfl⟩
  | i, k :: r, h => by
    simp only [zas, Bool.and_eq_true] at h
    obtain ⟨h1, h2⟩ := zsm nm (p := p) (v := v) T (i + 1) r h.2
    obtain ⟨h3, h4⟩ := zwh nm (p := p) (v := v) k h.1
    simp only [zkv, zco, zq8]
    split
    · exact ⟨by rw [h1], fun m => h2 _⟩
    · exact ⟨by rw [h1, h3], fun m => by rw [h4]; exact h2 _⟩
end
theorem zi4 {p v : Int} (h : p = 1 ∧ -1000 < v ∧ v < 1000 ∨ p = 3 ∧ v = 0) : za6 (zcg p v) = true := by
  rw [zgt]
  refine ⟨?_, by simp [zcg, zcx, zco], by simp [zcg, dpT, zq8]⟩
  rcases h with ⟨rfl, h1, h2⟩ | ⟨rfl, rfl⟩
  · simp [zcg, zag, zas, za9, zbe, inI]; omega
  · decide
theorem zjn {t : Tm} {nm : Str} {p v : Int} (ht : za6 t = true) (hs : zcj nm = true) (h : p = 1 ∧ -1000 < v ∧ v < 1000 ∨ p = 3 ∧ v = 0) : ye6 t nm (zcg p v) = (zgo nm (zcg p v) t, 0) ∧ za6 (zgo nm (zcg p v) t) = true := by
  have hl := zi4 h
  have hp : p ≠ 4 := by rcases h with ⟨h, _⟩ | ⟨h, _⟩ <;> omega
  have hf : zc9 (zcg p v) [] [] = [] := by simp [zcg, zc9, hp, zep]
  have h60 := (zcl t ht).2.2.2
  have ht2 := ht
  rw [zgt] at ht2
  have e : zfb t nm (zcg p v) = zgo nm (zcg p v) t := by
    rw [zfb, hf]; exact ya2 60 t h60 ht2.1 h60
  have hn := zpf (nm := nm) ht hl
  rw [e] at hn
  obtain ⟨s1, s2⟩ := zwh nm (p := p) (v := v) t ht2.1
  have hT : za6 (zgo nm (zcg p v) t) = true := by
    rw [zgt, s1, s2]; exact ⟨hn, ht2.2⟩
  refine ⟨?_, hT⟩
  simp only [ye6, ht, hs, hl, Bool.and_self, cond_true, e, hT]
end Go.Hk

/- Contracts of Canon and Alike; plain facts of what canon computes. -/
namespace Go.Hk
open Go.Proofs
theorem yee {t : Tm} (h : za6 t = true) : zag (ycb t) = true ∧ zcx (ycb t) = zcx t ∧ dpT (ycb t) = dpT t := by
  have hb := zrj h
  have hn : zag t = true := by simp only [za6, Bool.and_eq_true] at h; exact h.2
  exact ztx t [] (zes t) hn (by intro p hp; cases hp) (by omega)
theorem yh6 {t : Tm} (h : za6 t = true) : za6 (ycb t) = true := by
  obtain ⟨h1, h2, h3⟩ := yee h
  rw [zgt] at h ⊢
  exact ⟨h1, by rw [h2]; exact h.2.1, by rw [h3]; exact h.2.2⟩
def ync (t : Tm) : Tm × Int := bif za6 t then (ycb t, 0) else (zTm, 2)
set_option maxRecDepth 100000 in
theorem yk9 (t : Tm) (h : zei t = za6 t) : zax Tryz.prog 18 [.agg (dTmc t)] (.tup [.agg (dTmc (ync t).1), .int .i64 (ync t).2]) := by
  refine zaf ttX_ok Tryz.func18 (by decide +kernel) rfl [1, 2, 3] rfl rfl ?_
  refine xg [] rfl (by simp) ?_
  refine zac rfl (fun _ => zfp t) (by simp) ?_
  rw [h]
  cases ht : za6 t with
  | false =>
    refine xg [] rfl (by simp) ?_
    refine zab rfl (fun h => ?_) (fun h => by simp [zzx] at h)
    refine xd [] rfl (by simp) ?_
    rw [show ync t = (zTm, 2) by simp [ync, ht]]
    exact zaa ⟨_, rfl, tV rfl, trivial⟩
  | true =>
    refine xg [] rfl (by simp) ?_
    refine zab rfl (fun h => by simp [zzx] at h) (fun h => ?_)
    refine xd [] rfl (by simp) ?_
    refine zac rfl (fun _ => zvj t ht) (by simp) ?_
    refine xg [] rfl (by simp) ?_
    rw [show ync t = (ycb t, 0) by simp [ync, ht]]
    exact zaa ⟨_, rfl, tV rfl, trivial⟩
def yk3 (a b : Tm) : Bool × Int := bif za6 a && za6 b then (zv2 (ycb a) (ycb b), 0) else (false, 2)
set_option maxRecDepth 100000 in
theorem yla (a b : Tm) (ha : zei a = za6 a) (hb : zei b = za6 b) : zax Tryz.prog 17 [.agg (dTmc a), .agg (dTmc b)] (.tup [.bool (yk3 a b).1, .int .i64 (yk3 a b).2]) := by
  refine zaf ttX_ok Tryz.func17 (by decide +kernel) rfl [1, 2, 3, 4] rfl rfl ?_
  refine xg [] rfl (by simp) ?_
  refine zac rfl (fun _ => zfp a) (by simp) ?_
  rw [ha]
  refine xg [] rfl (by simp) ?_
  refine zac rfl (fun _ => zfp b) (by simp [zai]) ?_
  rw [hb]
  refine xg [] rfl (by simp [zai]) ?_
  cases hta : za6 a with
  | false =>
    refine zab rfl (fun h => ?_) (fun h => by simp [zzx] at h)
    refine xd [] rfl (by simp) ?_
    rw [show yk3 a b = (false, 2) by simp [yk3, hta]]
    exact zaa ⟨_, rfl, tV rfl, trivial⟩
  | true =>
  cases htb : za6 b with
  | false =>
    refine zab rfl (fun h => ?_) (fun h => by simp [zzx] at h)
    refine xd [] rfl (by simp) ?_
    rw [show yk3 a b = (false, 2) by simp [yk3, htb]]
    exact zaa ⟨_, rfl, tV rfl, trivial⟩
  | true =>
    refine zab rfl (fun h => by simp [zzx] at h) (fun h => ?_)
    refine xd [] rfl (by simp) ?_
    refine zac rfl (fun _ => zvj a hta) (by simp) ?_
    refine xg [] rfl (by simp) ?_
    refine zac rfl (fun _ => zvj b htb) (by simp) ?_
    refine xg [] rfl (by simp) ?_
    refine zac rfl (fun _ => yfg (ycb a) (ycb b) (zfq (yh6 hta))) (by simp) ?_
    refine xg [] rfl (by simp; rfl) ?_
    rw [show yk3 a b = (zv2 (ycb a) (ycb b), 0) by simp [yk3, hta, htb]]
    exact zaa ⟨_, rfl, tV rfl, trivial⟩
set_option maxRecDepth 100000 in
theorem yk7 (t : Tm) (h : zei t = za6 t) : zax Tryz.prog 15 [.agg (dTmc t)] (.tup [.sl (zbu (bif za6 t then zes t else [])), .int .i64 (bif za6 t then 0 else 2)]) := by
  refine zaf zbl Tryz.func15 (by decide +kernel) rfl [1, 2, 3, 4] rfl rfl ?_
  refine fg_ [] rfl (by simp) ?_
  refine zac rfl (fun _ => zfp t) (by simp) ?_
  rw [h]
  cases ht : za6 t with
  | false =>
    refine fg_ [] rfl (by simp) ?_
    refine zab rfl (fun h => ?_) (fun h => by simp [zzx] at h)
    refine fd_ [] rfl (by simp) ?_
    exact zaa ⟨_, rfl, tV rfl, trivial⟩
  | true =>
    refine fg_ [] rfl (by simp) ?_
    refine zab rfl (fun h => by simp [zzx] at h) (fun h => ?_)
    obtain ⟨h1, h2, h3, h4⟩ := zcl t ht
    refine fd_ [] rfl (by simp) ?_
    refine zi8 rfl ?_
    refine fg_ [] rfl (by simp) ?_
    refine zar (fr := []) [(2, 1)] [] rfl (by simp) (zqt t [] [] h2) ⟨⟨rfl, rfl, rfl⟩, trivial⟩ rfl rfl rfl rfl ?_
    refine fg_ [] rfl (by simp <;> rfl) ?_
    refine zar (fr := []) [(2, 1)] [] rfl (by simp) (zyz t ht) ⟨⟨rfl, rfl, rfl⟩, trivial⟩ rfl rfl rfl rfl ?_
    refine fg_ [] rfl (by simp <;> rfl) ?_
    exact zaa ⟨_, rfl, tV rfl, trivial⟩
set_option maxRecDepth 100000 in
theorem zo8 (t : Tm) (h : za6 t = true) : zax Tryz.prog 15 [.agg (dTmc t)] (.tup [.sl (zbu (zes t)), .int .i64 0]) := by
  have := yk7 t (zba h)
  rw [h] at this; simp only [cond_true] at this; exact this
end Go.Hk

/- The chapter's examples, by the contracts of what they call. -/
namespace Go.Hk
open Go.Proofs
def cS (c : Nat) : Str := [UInt8.ofNat c]
def nmT (s : Str) : Tm := .mk 4 0 s [] []
def plT (a b : Tm) : Tm := .mk 9 0 [] [a, b] []
def eT : Tm := .mk 15 0 [] [nmT (cS 97), plT (nmT (cS 98)) (nmT (cS 100))] [.mk 6 0 [67, 111, 110, 115] [.mk 2 0 (cS 98) [], .mk 2 0 (cS 99) []]]
set_option maxRecDepth 100000 in
theorem zk4 (s : Str) : zax Tryz.prog 27 [.str s] (.agg (dTmc (nmT s))) := by
  refine zaf ttX_ok Tryz.func27 (by decide +kernel) rfl [1, 2, 3] rfl rfl ?_
  refine xg [] rfl (by simp) ?_
  exact zaa ⟨_, rfl, tV rfl, trivial⟩
set_option maxRecDepth 100000 in
theorem ygd (a b : Tm) : zax Tryz.prog 26 [.agg (dTmc a), .agg (dTmc b)] (.agg (dTmc (plT a b))) := by
  refine zaf ttX_ok Tryz.func26 (by decide +kernel) rfl [1, 2, 3] rfl rfl ?_
  obtain ⟨o, n, x, ks, ps⟩ := a
  obtain ⟨o', n', x', ks', ps'⟩ := b
  refine xg [] rfl (by simp) ?_
  exact zaa ⟨_, rfl, tV rfl, trivial⟩
set_option maxRecDepth 100000 in
theorem E_ok : zax Tryz.prog 25 [] (.agg (dTmc eT)) := by
  refine zaf ttX_ok Tryz.func25 (by decide +kernel) rfl [1, 2, 3] rfl rfl ?_
  refine xg [] rfl (by simp) ?_
  refine zac rfl (fun _ => zk4 (cS 97)) (by simp) ?_
  refine xg [] rfl (by simp) ?_
  refine zac rfl (fun _ => zk4 (cS 98)) (by simp) ?_
  refine xg [] rfl (by simp) ?_
  refine zac rfl (fun _ => zk4 (cS 100)) (by simp) ?_
  refine xg [] rfl (by simp) ?_
  refine zac rfl (fun _ => ygd (nmT (cS 98)) (nmT (cS 100))) (by simp) ?_
  refine xg [] rfl (by simp; rfl) ?_
  exact zaa ⟨_, rfl, tV rfl, trivial⟩
def yjo (c : Nat) : Tm := .mk 5 0 (cS c) [nmT (cS c)] []
def sT : Tm := .mk 15 0 [] [nmT (cS 97), plT (nmT (cS 101)) (plT (nmT (cS 98)) (nmT (cS 99)))] [.mk 6 0 [67, 111, 110, 115] [.mk 2 0 (cS 101) [], .mk 2 0 (cS 102) []]]
theorem znf : za6 eT = true := by decide +kernel
theorem yjn : za6 (yjo 121) = true := by decide +kernel
theorem yaq : za6 (yjo 120) = true := by decide +kernel
theorem ynf : za6 (plT (nmT (cS 98)) (nmT (cS 99))) = true := by decide +kernel
theorem zza {p : Tm × Int} {t : Tm} {n : Int} (h : (zv2 p.1 t && p.2 == n) = true) : p = (t, n) := by
  obtain ⟨a, b⟩ := p
  simp only [Bool.and_eq_true, beq_iff_eq] at h
  rw [(zvd a t).1 h.1, h.2]
theorem sub_eT : ye6 eT (cS 100) (plT (nmT (cS 98)) (nmT (cS 99))) = (sT, 0) := zza (by decide +kernel)
theorem at_eT : atR eT [1, 0] = (nmT (cS 98), 0) := zza (by decide +kernel)
theorem ynb : ync (yjo 120) = (yjo 97, 0) := zza (by decide +kernel)
theorem yng : yk3 (yjo 121) (yjo 120) = (true, 0) := by decide +kernel
theorem ym1 : zes eT = [cS 97, cS 100] := by decide +kernel
set_option maxRecDepth 100000 in
set_option maxHeartbeats 1000000 in
theorem zl6 : zax Tryz.prog 8 [] (.bool true) := by
  have h1 := zo8 eT znf
  rw [ym1] at h1
  have h2 := zj7 eT (cS 100) (plT (nmT (cS 98)) (nmT (cS 99))) (zba znf) (zba ynf)
  rw [sub_eT] at h2
  have h3 := ye4 eT (zba znf)
  have h4 := ye5 eT (zba znf)
  rw [znf] at h3 h4
  have h5 := At_ok eT [1, 0] (zba znf)
  rw [at_eT] at h5
  have h6 := yla (yjo 121) (yjo 120) (zba yjn) (zba yaq)
  rw [yng] at h6
  have h7 := yk9 (yjo 120) (zba yaq)
  rw [ynb] at h7
  refine zaf zca Tryz.func8 (by decide +kernel) rfl [1, 2, 3, 4, 5, 6, 7, 8, 9] rfl rfl ?_
  refine qg [] rfl (by simp) ?_
  refine zac rfl (fun _ => E_ok) (by simp) ?_
  refine qg [] rfl (by simp) ?_
  refine zac rfl (fun _ => h1) (by simp) ?_
  refine qg [] rfl (by simp) ?_
  refine zac rfl (fun _ => E_ok) (by simp) ?_
  refine qg [] rfl (by simp) ?_
  refine zac rfl (fun _ => zk4 (cS 98)) (by simp) ?_
  refine qg [] rfl (by simp) ?_
  refine zac rfl (fun _ => zk4 (cS 99)) (by simp) ?_
  refine qg [] rfl (by simp) ?_
  refine zac rfl (fun _ => ygd (nmT (cS 98)) (nmT (cS 99))) (by simp) ?_
  refine qg [] rfl (by simp) ?_
  refine zac rfl (fun _ => h2) (by simp) ?_
  refine qg [] rfl (by simp) ?_
  refine zac rfl (fun _ => E_ok) (by simp) ?_
  refine qg [] rfl (by simp) ?_
  refine zac rfl (fun _ => h3) (by simp) ?_
  refine qg [] rfl (by simp) ?_
  refine zac rfl (fun _ => E_ok) (by simp) ?_
  refine qg [] rfl (by simp) ?_
  refine zac rfl (fun _ => h4) (by simp) ?_
  refine qg [] rfl (by simp) ?_
  refine zac rfl (fun _ => E_ok) (by simp) ?_
  refine qg [] rfl (by simp) ?_
  refine zac rfl (fun _ => h5) (by simp) ?_
  refine qg [] rfl (by simp) ?_
  refine zac rfl (fun _ => zk4 (cS 120)) (by simp) ?_
  refine qg [] rfl (by simp) ?_
  refine zac rfl (fun _ => zk4 (cS 121)) (by simp) ?_
  refine qg [] rfl (by simp) ?_
  refine zac rfl (fun _ => h6) (by simp) ?_
  refine qg [] rfl (by simp) ?_
  refine zac rfl (fun _ => h7) (by simp) ?_
  refine qg [] rfl (by simp) ?_
  refine zab rfl (fun h => by simp [dTmc, sT] at h) (fun h => ?_)
  clear h
  refine qd [] rfl (by simp) ?_
  refine zac rfl (fun _ => zol [cS 97, cS 100] [cS 97, cS 100]) (by simp [zai]) ?_
  refine qg [] rfl (by simp [zai]) ?_
  refine qi_ rfl (c := [.int .i64 6, .int .i64 0, .str [67, 111, 110, 115], .sl (zcf [.mk 2 0 (cS 101) [], .mk 2 0 (cS 102) []])]) (fun _ => ⟨by simp, rfl, rfl⟩) (by simp [zai]) ?_
  refine qg [] rfl (by simp [zai]) ?_
  refine zac rfl (fun _ => zh4 (.mk 6 0 [67, 111, 110, 115] [.mk 2 0 (cS 101) [], .mk 2 0 (cS 102) []]) (by decide)) (by simp [zai]) ?_
  refine qg [] rfl (by simp [zai]) ?_
  refine zac rfl (fun _ => zol (za3 (.mk 6 0 [67, 111, 110, 115] [.mk 2 0 (cS 101) [], .mk 2 0 (cS 102) []])) [cS 101, cS 102]) (by simp [zai]) ?_
  refine qg [] rfl (by simp [zai]) ?_
  refine zac rfl (fun _ => zff [97, 98, 99]) (by simp [zai]) ?_
  refine qg [] rfl (by simp [zai]) ?_
  refine zac rfl (fun _ => zff [116, 104, 101, 110]) (by simp [zai]) ?_
  refine qg [] rfl (by simp [zai]) ?_
  refine zac rfl (fun _ => zik [65]) (by simp [zai]) ?_
  refine qg [] rfl (by simp [zai]) ?_
  refine zac rfl (fun _ => zms [cS 97, cS 99] (by decide)) (by simp [zai]) ?_
  refine qg [] rfl (by simp [zai]) ?_
  refine zaa ⟨_, rfl, tV (congrArg _ ?_), trivial⟩
  decide +kernel
end Go.Hk

/- The statement TermCapture, of terms, names and a number by value: it returns true. -/
namespace Go.Hk
open Go.Proofs
theorem yfq {t : Tm} {s : Str} {by' : Tm} (ht : za6 t = true) (hb : za6 by' = true) (y : Str) : zbp (zes (zfb t s by')) y = true ↔ (zbp (zes t) y = true ∧ y ≠ s) ∨ (zbp (zes t) s = true ∧ zbp (zes by') y = true) := by
  have h60 := (zcl t ht).2.2.2
  have htn : zag t = true := ((zgt t).1 ht).1
  have hbn : zag by' = true := ((zgt by').1 hb).1
  simp only [za1, zuk]
  exact yle hbn (fun y => zg3 hbn y) (znb hb).1 60 t h60 htn h60 y
set_option maxRecDepth 100000 in
set_option maxHeartbeats 2000000 in
theorem TermCapture_pure (t : Tm) (s : Str) (by' : Tm) (o : Str) (n : Int) : zax Tryz.prog 4 [.agg (dTmc t), .str s, .agg (dTmc by'), .str o, .int .i64 n] (.bool true) := by
  refine zaf ttX_ok Tryz.func4 (by decide +kernel) rfl [1, 2, 3, 4, 5, 6, 7, 8, 9, 10, 11, 12, 13, 14] rfl rfl ?_
  refine xg [] rfl (by simp) ?_
  refine zac rfl (fun _ => zok t) (by simp) ?_
  refine xg [] rfl (by simp [zai]) ?_
  refine zac rfl (fun _ => zok by') (by simp [zai]) ?_
  refine xg [] rfl (by simp [zai]) ?_
  refine zac rfl (fun _ => yid t) (by simp [zai]) ?_
  refine xg [] rfl (by simp [zai]) ?_
  refine zac rfl (fun _ => yid by') (by simp [zai]) ?_
  refine xg [] rfl (by simp [zai]) ?_
  refine zac rfl (fun _ => zlg s) (by simp [zai]) ?_
  refine xg [] rfl (by simp [zai]) ?_
  refine zac rfl (fun _ => zlg o) (by simp [zai]) ?_
  refine xg [] rfl (by simp [zai]) ?_
  refine zab rfl (fun h => ?_) (fun h => ?_)
  · refine xd [] rfl (by simp) ?_
    refine zac rfl (fun _ => zl6) (by simp) ?_
    refine xg [] rfl (by simp) ?_
    exact zaa ⟨_, rfl, tV rfl, trivial⟩
  have hs : za6 t = true ∧ za6 by' = true ∧ zcj s = true ∧ zcj o = true := by
    simp at h
    grind
  clear h
  obtain ⟨ht, hb, hns, hno⟩ := hs
  have hFt := zo8 t ht
  have hFb := zo8 by' hb
  have hS := zj7 t s by' (zba ht) (zba hb)
  have hmem := fun y => yfq (s := s) ht hb y
  have hR : ye6 t s by' = bif za6 (zfb t s by') then (zfb t s by', 0) else (zTm, 3) := by simp only [ye6, ht, hns, hb, Bool.and_self, cond_true]
  have hWl := zul ht
  have hOl := zul hb
  refine xd [] rfl (by simp) ?_
  refine zac rfl (fun _ => hFt) (by simp) ?_
  refine xg [] rfl (by simp) ?_
  refine zac rfl (fun _ => hFb) (by simp) ?_
  refine xg [] rfl (by simp) ?_
  cases hx : za6 (zfb t s by') with
  | false =>
    rw [hx, cond_false] at hR
    rw [hR] at hS
    refine zac rfl (fun _ => hS) (by simp) ?_
    refine xg [] rfl (by simp) ?_
    refine zab rfl (fun h => by simp at h) (fun h => ?_)
    refine xd [] rfl (by simp) ?_
    refine zab rfl (fun h => ?_) (fun h => by simp at h)
    refine xd [] rfl (by simp [zai]) ?_
    refine zac rfl (fun _ => zl6) (by simp [zai]) ?_
    refine xg [] rfl (by simp [zai]) ?_
    exact zaa ⟨_, rfl, tV rfl, trivial⟩
  | true =>
    rw [hx, cond_true] at hR
    rw [hR] at hS
    have hXl := zul hx
    have hFx := zo8 (zfb t s by') hx
    generalize zfb t s by' = x at *
    obtain ⟨xo, xn, xx, xks, xps⟩ := x
    generalize zes (.mk xo xn xx xks xps) = X at *
    generalize hW : zes t = W at *
    generalize zes by' = O at *
    refine zac rfl (fun _ => hS) (by simp) ?_
    refine xg [] rfl (by simp) ?_
    refine zab rfl (fun h => by simp at h) (fun h => ?_)
    refine xd [] rfl (by simp) ?_
    refine zab rfl (fun h => by simp at h) (fun h => ?_)
    refine xd [] rfl (by simp) ?_
    refine zac rfl (fun _ => hFx) (by simp) ?_
    refine xg [] rfl (by simp) ?_
    refine zab rfl (fun h => by simp at h) (fun h => ?_)
    refine xd [] rfl (by simp) ?_
    refine zac rfl (fun _ => zrz W s) (by simp) ?_
    refine xg [] rfl (by simp) ?_
    refine zak (fun i : Nat => [(20, .imm (.int .i64 i)), (17, .imm (.sl (zbu X))), (11, .imm (.sl (zbu W))), (13, .imm (.sl (zbu O))), (19, .imm (.bool (zbp W s))), (1, .imm (.str s)), (3, .imm (.str o)), (4, .imm (.int .i64 n)), (5, .ref 1 0)])
      (fun _ => [(1, some (.immb 26 5 (dTmc t)))]) [4, 5, 6, 7, 8, 9, 10, 11, 12, 13, 14] (fun i => X.length - i) (fun i => i ≤ X.length) 0 (Nat.zero_le _) ⟨rfl, rfl, rfl, rfl, rfl, rfl, rfl, rfl, rfl, trivial⟩ ⟨rfl, trivial⟩ rfl fun i hi ih => ?_
    refine xd [] rfl (by simp) ?_
    refine zab rfl (fun h => ?_) (fun h => ?_)
    · simp at h
      obtain ⟨y, hy⟩ := zal h
      have hyx := (hmem y).1 (za1.2 (List.mem_of_getElem? hy))
      refine xd [] rfl (by simp) ?_
      refine zeg ttX_ok rfl (c := [.str y]) (fun _ => ⟨by simp, by simpa using zdh hy, rfl⟩) (by simp) ?_
      refine xg [] rfl (by simp) ?_
      refine zac rfl (fun _ => zrz W y) (by simp) ?_
      refine xg [] rfl (by simp [zai]) ?_
      refine zeg ttX_ok rfl (c := [.str y]) (fun _ => ⟨by simp, by simpa using zdh hy, rfl⟩) (by simp [zai]) ?_
      refine xg [] rfl (by simp [zai]) ?_
      refine zeg ttX_ok rfl (c := [.str y]) (fun _ => ⟨by simp, by simpa using zdh hy, rfl⟩) (by simp [zai]) ?_
      refine xg [] rfl (by simp [zai]) ?_
      refine zac rfl (fun _ => zrz O y) (by simp [zai]) ?_
      refine xg [] rfl (by simp [zai]; exact fun a b => ⟨a, b⟩) ?_
      refine zab rfl (fun h2 => ?_) (fun h2 => ?_)
      · exfalso
        rcases hyx with ⟨g1, g2⟩ | ⟨g1, g2⟩ <;> simp [g1, g2] at h2
      · refine xd [] rfl (by simp) ?_
        exact zae (ih (i + 1) (by omega) (by omega)) ⟨zcr (w64 (by omega) (by omega)), rfl, rfl, rfl, rfl, rfl, rfl, rfl, rfl, trivial⟩ ⟨rfl, trivial⟩ rfl
    clear ih
    refine za2 rfl ?_
    refine xd [] rfl (by simp) ?_
    refine zak (fun i : Nat => [(21, .imm (.int .i64 i)), (17, .imm (.sl (zbu X))), (11, .imm (.sl (zbu W))), (13, .imm (.sl (zbu O))), (19, .imm (.bool (zbp W s))), (1, .imm (.str s)), (3, .imm (.str o)), (4, .imm (.int .i64 n)), (5, .ref 1 0)])
      (fun _ => [(1, some (.immb 26 5 (dTmc t)))]) [4, 5, 6, 7, 8, 9, 10, 11, 12, 13, 14] (fun i => W.length - i) (fun i => i ≤ W.length) 0 (Nat.zero_le _) ⟨rfl, rfl, rfl, rfl, rfl, rfl, rfl, rfl, rfl, trivial⟩ ⟨rfl, trivial⟩ rfl fun i hi ih => ?_
    refine xd [] rfl (by simp) ?_
    refine zab rfl (fun h => ?_) (fun h => ?_)
    · simp at h
      obtain ⟨y, hy⟩ := zal h
      have hyw := za1.2 (List.mem_of_getElem? hy)
      refine xd [] rfl (by simp) ?_
      refine zeg ttX_ok rfl (c := [.str y]) (fun _ => ⟨by simp, by simpa using zdh hy, rfl⟩) (by simp) ?_
      refine xg [] rfl (by simp) ?_
      refine zeg ttX_ok rfl (c := [.str y]) (fun _ => ⟨by simp, by simpa using zdh hy, rfl⟩) (by simp [zai]) ?_
      refine xg [] rfl (by simp [zai]) ?_
      refine zac rfl (fun _ => zrz X y) (by simp [zai]) ?_
      refine xg [] rfl (by simp [zai]) ?_
      refine zab rfl (fun h2 => ?_) (fun h2 => ?_)
      · exfalso
        by_cases hys : y = s
        · simp [hys] at h2
        · have := (hmem y).2 (.inl ⟨hyw, hys⟩)
          simp [this] at h2
      · refine xd [] rfl (by simp) ?_
        exact zae (ih (i + 1) (by omega) (by omega)) ⟨zcr (w64 (by omega) (by omega)), rfl, rfl, rfl, rfl, rfl, rfl, rfl, rfl, trivial⟩ ⟨rfl, trivial⟩ rfl
    clear ih
    refine za2 rfl ?_
    refine xd [] rfl (by simp) ?_
    refine zak (fun i : Nat => [(22, .imm (.int .i64 i)), (17, .imm (.sl (zbu X))), (13, .imm (.sl (zbu O))), (19, .imm (.bool (zbp W s))), (1, .imm (.str s)), (3, .imm (.str o)), (4, .imm (.int .i64 n)), (5, .ref 1 0)])
      (fun _ => [(1, some (.immb 26 5 (dTmc t)))]) [4, 5, 6, 7, 8, 9, 10, 11, 12, 13, 14] (fun i => O.length - i) (fun i => i ≤ O.length) 0 (Nat.zero_le _) ⟨rfl, rfl, rfl, rfl, rfl, rfl, rfl, rfl, trivial⟩ ⟨rfl, trivial⟩ rfl fun i hi ih => ?_
    refine xd [] rfl (by simp [zai]) ?_
    refine zab rfl (fun h => ?_) (fun h => ?_)
    · have hh : i < O.length ∧ zbp W s = true := by simp at h; grind
      obtain ⟨y, hy⟩ := zal hh.1
      have hyo := za1.2 (List.mem_of_getElem? hy)
      refine xd [] rfl (by simp) ?_
      refine zeg ttX_ok rfl (c := [.str y]) (fun _ => ⟨by simp, by simpa using zdh hy, rfl⟩) (by simp) ?_
      refine xg [] rfl (by simp) ?_
      refine zac rfl (fun _ => zrz X y) (by simp) ?_
      refine xg [] rfl (by simp) ?_
      refine zab rfl (fun h2 => ?_) (fun h2 => ?_)
      · exfalso
        have := (hmem y).2 (.inr ⟨hh.2, hyo⟩)
        simp [this] at h2
      · refine xd [] rfl (by simp) ?_
        exact zae (ih (i + 1) (by omega) (by omega)) ⟨zcr (w64 (by omega) (by omega)), rfl, rfl, rfl, rfl, rfl, rfl, rfl, trivial⟩ ⟨rfl, trivial⟩ rfl
    clear ih
    refine za2 rfl ?_
    refine xd [] rfl (by simp) ?_
    have hv : 1 = (1 : Int) ∧ -1000 < n.tmod 1000 ∧ n.tmod 1000 < 1000 ∨ 1 = (3 : Int) ∧ n.tmod 1000 = 0 := .inl ⟨rfl, by have := Int.lt_tmod_of_pos n (show (0 : Int) < 1000 by decide); omega, Int.tmod_lt_of_pos n (by decide)⟩
    have hu : 3 = (1 : Int) ∧ -1000 < (0 : Int) ∧ (0 : Int) < 1000 ∨ 3 = (3 : Int) ∧ (0 : Int) = 0 := .inr ⟨rfl, rfl⟩
    by_cases hso : s = o
    · refine zab rfl (fun h => ?_) (fun h => by simp [hso] at h)
      refine xd [] rfl (by simp) ?_
      refine zac rfl (fun _ => zl6) (by simp) ?_
      refine xg [] rfl (by simp) ?_
      exact zaa ⟨_, rfl, tV rfl, trivial⟩
    · refine zab rfl (fun h => absurd (by simpa using h) hso) (fun h => ?_)
      obtain ⟨a1, a2⟩ := zjn (nm := s) ht hns hv
      obtain ⟨b1, b2⟩ := zjn (nm := o) ht hno hu
      obtain ⟨c1, c2⟩ := zjn (nm := o) a2 hno hu
      obtain ⟨e1, e2⟩ := zjn (nm := s) b2 hns hv
      have hA := zj7 t s (zcg 1 (n.tmod 1000)) (zba ht) (zba (zi4 hv))
      have hB := zj7 t o (zcg 3 0) (zba ht) (zba (zi4 hu))
      have hC := zj7 (zgo s (zcg 1 (n.tmod 1000)) t) o (zcg 3 0) (zba a2) (zba (zi4 hu))
      have hE := zj7 (zgo o (zcg 3 0) t) s (zcg 1 (n.tmod 1000)) (zba b2) (zba (zi4 hv))
      have hcomm := zwk (s := s) (o := o) (p := 1) (q := 3) (v := n.tmod 1000) (w := 0) hso (by decide) (by decide) t
      rw [a1] at hA
      rw [b1] at hB
      rw [c1] at hC
      rw [e1, ← hcomm] at hE
      have hSm := yie (zgo o (zcg 3 0) (zgo s (zcg 1 (n.tmod 1000)) t)) (zgo o (zcg 3 0) (zgo s (zcg 1 (n.tmod 1000)) t)) (zfq c2)
      rw [(zvd _ _).2 rfl] at hSm
      generalize zgo o (zcg 3 0) (zgo s (zcg 1 (n.tmod 1000)) t) = C at *
      generalize zgo s (zcg 1 (n.tmod 1000)) t = A at *
      generalize zgo o (zcg 3 0) t = B at *
      obtain ⟨co, cn, cx, cks, cps⟩ := C
      obtain ⟨ao, an, ax, aks, aps⟩ := A
      obtain ⟨bo, bn, bx, bks, bps⟩ := B
      refine xd [] rfl (by simp) ?_
      refine zac rfl (fun _ => hA) (by simp) ?_
      refine xg [] rfl (by simp) ?_
      refine zac rfl (fun _ => hB) (by simp) ?_
      refine xg [] rfl (by simp) ?_
      refine zab rfl (fun h => by simp at h) (fun h => ?_)
      refine xd [] rfl (by simp) ?_
      refine zac rfl (fun _ => hC) (by simp) ?_
      refine xg [] rfl (by simp) ?_
      refine zac rfl (fun _ => hE) (by simp) ?_
      refine xg [] rfl (by simp [zai]) ?_
      refine zac rfl (fun _ => hSm) (by simp [zai]) ?_
      refine xg [] rfl (by simp [zai]) ?_
      refine zac rfl (fun _ => zl6) (by simp [zai]) ?_
      refine xg [] rfl (by simp [zai] <;> rfl) ?_
      exact zaa ⟨_, rfl, tV rfl, trivial⟩
end Go.Hk

/- From a function that returns true and changes nothing that was there to a law's row. -/
namespace Go.Hk
open Go.RowKit Go.WideShapes Go.ChangeShapes
theorem Ext.below {I I' : Imm} {μ μ' : Mu} {w w' : World} {st' : St} (h : Ext I μ [] w I' μ' st' w') : Below w.heap.size w w' :=
  ⟨h.os, h.tape, h.output, h.size, fun k hk => h.block k hk (by rintro ⟨id, blk, g, hl, _⟩; cases hl)⟩
theorem yj1 {H : Type} {enc : TypeId × Value → H} {P : Program} {f : Func} {s : ChangeSpec} {apart fresh handsOn again : Bool} {W W' : World} {args : Array Value} {v : Value} {ds gs : List (DataW H)} {before pa pv : List MemPlace}
    (hW : DataW.Whole enc P f.params.toList s.vars apart W args.toList ds gs before) (hb : Below W.heap.size W W') (hps : before = pa ++ pv)
    (hres : ∀ (b : Nat) (sp : Nat → Bool) (hd : Bool), DataW.TrodAll enc P W' b sp hd f.resultTypes.toList (v.resultList f.resultTypes.size) (s.fn H (ds ++ gs)).results [])
    (hargs : ∀ sp : Nat → Bool, (∀ p ∈ before, sp p.block = true) → DataW.TrodAll enc P W' 0 sp true f.params.toList args.toList (s.fn H (ds ++ gs)).args pa)
    (hvars : ∀ sp : Nat → Bool, (∀ p ∈ before, sp p.block = true) → DataW.TrodVars enc P W' sp s.vars (s.fn H (ds ++ gs)).vars pv)
    (hok : ∀ (j : Nat) (t : TypeId) (r : Value), f.resultTypes[j]? = some t → (v.resultList f.resultTypes.size)[j]? = some r → Value.okWide P W' .any 0 t r) :
    s.post enc P f apart fresh handsOn again W args v W' := by
  have lt : ∀ p ∈ before, decide (p.block < W.heap.size) = true := fun p hp => by simpa using hW.lt p hp
  refine ⟨ds, gs, before, [], pa, pv, hW, hres _ _ _, hargs (fun b => decide (b < W.heap.size)) lt, hvars (fun b => decide (b < W.heap.size)) lt, World.keptBut_mono (fun p hp => ⟨hp, .inr ?_⟩) (hb.frame (· ∈ before)), fun _ => ⟨hok, ?_⟩⟩
  · rw [hps] at hp; exact List.mem_append.1 hp
  · have hlt := hW.lt
    obtain ⟨_, _, _, _, _, hz, hn⟩ := hW
    refine ⟨(s.fn H (ds ++ gs)).results ++ (s.fn H (ds ++ gs)).args, (s.fn H (ds ++ gs)).vars, pa ++ pv, ⟨pa, pv, ?_, hvars _ (fun _ _ => rfl), rfl, fun b off hp => ?_, fun ha => ?_⟩, fun p hp _ => by rw [hps]; exact hp⟩
    · have := trodAll_append (hargs (fun _ => true) fun _ _ => rfl) (hres 0 (fun _ => true) true)
      simpa using this
    · have hin : MemPlace.cell b off ∈ before := by rw [hps]; exact hp
      rw [hb.frozen (hlt _ hin)]
      exact hz b off hin
    · rw [← hps]; exact hn ha
end Go.Hk

/- Arguments read: what a row's reading of an argument says of it as data by value, where all that was there is held immutable. -/
namespace Go.Hk
def immW (W : World) : Imm := fun b => W.heap[b]?
theorem ymv (W : World) : (immW W).ok W := fun _ _ h => h
def Rds (P : Program) (W : World) (n : Nat) (t : TypeId) (cs : List Value) : Prop :=
  ∃ (H : Type) (enc : TypeId × Value → H) (x : DataW H × List MemPlace), DataW.trod enc P W 0 (fun _ => true) true n t cs = some x
def RV (W : World) (cs : List Value) (xs : List V) : Prop := RepVL (immW W) cs xs ∧ ∀ c ∈ cs, c.oneCell' = true
theorem RV.app {W : World} {a b : List Value} {x y : List V} (h : RV W a x) (k : RV W b y) : RV W (a ++ b) (x ++ y) :=
  ⟨h.1.append k.1, fun c hc => (List.mem_append.1 hc).elim (h.2 c) (k.2 c)⟩
theorem RV.one {W : World} {v : Value} {x : V} (h : RepV (immW W) v x) (h1 : v.oneCell' = true) : RV W [v] [x] :=
  ⟨.mk h .nil, fun c hc => by simp at hc; rw [hc]; exact h1⟩
theorem RV.agg {W : World} {cs : Array Value} {xs : List V} (h : RV W cs.toList xs) : RepV (immW W) (.agg cs) (.agg xs) :=
  .agg _ _ (by simpa using h.1.1) h.2 (fun i c x a b => h.1.2 i c x (by simpa using a) b)
theorem RV.len {W : World} {cs : List Value} {xs : List V} (h : RV W cs xs) : cs.length = xs.length := h.1.1
section
variable {P : Program} {W : World} {tt : TT} {n : Nat} {t : TypeId} {cs : List Value}
theorem zuq {k : IntKind} {a : Bool} {sz by_ : Nat} {z : List D} (htt : TTok P tt) (hl : lk tt t = some ⟨.int k, a, sz, by_, z⟩) (h : Rds P W n t cs) : ∃ m, RV W cs [.int k m] ∧ (Lit.int k m).wf = true := by
  obtain ⟨H, enc, x, h⟩ := h
  have hu : P.underlying t = some (.int k) := htt.sh hl
  cases n with
  | zero => simp [DataW.trod] at h
  | succ n =>
    unfold DataW.trod at h
    rw [hu] at h
    split at h <;> simp_all
    rename_i k' m heq
    exact ⟨m, .one (.int _ _) rfl, h.1.2⟩
theorem rds_str {a : Bool} {sz by_ : Nat} {z : List D} (htt : TTok P tt) (hl : lk tt t = some ⟨.str, a, sz, by_, z⟩) (h : Rds P W n t cs) : ∃ s, RV W cs [.str s] ∧ s.length ≤ maxLen := by
  obtain ⟨H, enc, x, h⟩ := h
  have hu : P.underlying t = some .string := htt.sh hl
  cases n with
  | zero => simp [DataW.trod] at h
  | succ n =>
    unfold DataW.trod at h
    rw [hu] at h
    split at h <;> simp_all
    rename_i s
    exact ⟨s.data.toList, .one (.str _ _ rfl) rfl, by have := h.1; simpa using this⟩
theorem zvi {a : Addr} {k : Nat} {cs' : List Value} (h : W.cells? 0 a k = some cs') (hk : 0 < k) : a.spot = none ∧ ∀ (j : Nat) (v : Value), cs'[j]? = some v → (immW W).cell a.block (a.off + j) = some v := by
  obtain ⟨_, h2, h3⟩ := World.cells?_some h
  have cell : ∀ (b : Addr) (v : Value), W.cell? b = some v → b.spot = none ∧ (immW W).cell b.block b.off = some v := by
    intro b v hb
    unfold World.cell? at hb
    split at hb
    · rename_i c t0 fz hh
      split at hb
      · cases hb
      · rename_i hs
        refine ⟨by cases h : b.spot with | none => rfl | some _ => rw [h] at hs; exact absurd rfl hs, ?_⟩
        unfold Imm.cell immW
        rw [hh]
        exact hb
    · cases hb
  have hs : a.spot = none := by
    have hlt : 0 < cs'.length := by omega
    have := h3 0 hk
    rw [List.getElem?_eq_getElem hlt] at this
    exact (cell (a.add 0) _ this).1
  refine ⟨hs, fun j v hv => ?_⟩
  have hj := (List.getElem?_eq_some_iff.1 hv).1
  have := (cell (a.add j) v (by rw [h3 j (by omega)]; exact hv)).2
  unfold Addr.add at this
  by_cases h0 : j = 0
  · subst h0; simpa using this
  · rw [if_neg h0] at this; exact this
theorem zpy {α : Type} {e : TypeId} {a : Bool} {sz by_ : Nat} {z : List D} {i : TyI} {d : α → List V} (htt : TTok P tt) (hl : lk tt t = some ⟨.sl e, a, sz, by_, z⟩) (hi : lk tt e = some i) (hpos : 0 < i.size)
    (hd : ∀ x, (d x).length = i.size) (hel : ∀ m, m < n → ∀ cs', Rds P W m e cs' → ∃ x, RV W cs' (d x)) (h : Rds P W n t cs) : ∃ xs : List α, RV W cs [.sl (xs.map d)] := by
  obtain ⟨H, enc, x, h⟩ := h
  have hu : P.underlying t = some (.slice e) := htt.sh hl
  have hce : P.cellsOf e = i.size := (htt e i hi).cellsOf
  rcases DataW.trod_slice hu h with ⟨rfl, _⟩ | ⟨ad, len, cap, elems, rest, m, rfl, rfl, _, _, h1, h2, h3, h4, h5, _⟩
  · exact ⟨[], .one .slnil rfl⟩
  rw [hce] at h4 h5
  have he : ∀ k, k < len → ∃ (cs' : List Value) (x : α), W.cells? 0 (ad.add (k * i.size)) i.size = some cs' ∧ RV W cs' (d x) := by
    intro k hk
    have := h4 k hk
    rw [List.getElem?_eq_getElem (by omega)] at this
    obtain ⟨cs', q1, q2⟩ := Option.bind_eq_some_iff.1 this
    obtain ⟨x, hx⟩ := hel m (by omega) cs' ⟨H, enc, _, q2⟩
    exact ⟨cs', x, q1, hx⟩
  have hch : ∃ (C : Nat → List Value) (X : Nat → Option α), ∀ k, k < len → ∃ x, X k = some x ∧ W.cells? 0 (ad.add (k * i.size)) i.size = some (C k) ∧ RV W (C k) (d x) := by
    classical
    refine ⟨fun k => if hk : k < len then (he k hk).choose else [], fun k => if hk : k < len then some ((he k hk).choose_spec.choose) else none, fun k hk => ?_⟩
    simp only [hk, dif_pos]
    exact ⟨_, rfl, (he k hk).choose_spec.choose_spec⟩
  obtain ⟨C, X, hCX⟩ := hch
  have hlist : ∀ l, l ≤ len → ∃ xs : List α, xs.length = l ∧ ∀ k x, xs[k]? = some x → X k = some x := by
    intro l
    induction l with
    | zero => exact fun _ => ⟨[], rfl, fun k x h => by simp at h⟩
    | succ l ih =>
      intro hl'
      obtain ⟨xs, q1, q2⟩ := ih (by omega)
      obtain ⟨x, hx, _⟩ := hCX l (by omega)
      refine ⟨xs ++ [x], by simp [q1], fun k y hy => ?_⟩
      by_cases hk : k < xs.length
      · rw [List.getElem?_append_left hk] at hy; exact q2 k y hy
      · rw [List.getElem?_append_right (by omega)] at hy
        have : k - xs.length = 0 := by
          have := (List.getElem?_eq_some_iff.1 hy).1
          simp at this; omega
        rw [this] at hy
        cases hy
        have : k = l := by omega
        rw [this]; exact hx
  obtain ⟨xs, hx1, hx2⟩ := hlist len (Nat.le_refl _)
  refine ⟨xs, .one ?_ rfl⟩
  by_cases hcap : cap = 0
  · have : len = 0 := by omega
    subst this; subst hcap
    have : xs = [] := List.eq_nil_of_length_eq_zero hx1
    subst this
    exact .sl0 ad
  have hspot : ad.spot = none := by
    by_cases hlen : 0 < len
    · obtain ⟨x, _, q, _⟩ := hCX 0 hlen
      have := (zvi q hpos).1
      simpa [Addr.add] using this
    · have h6 := h5 rfl
      have h7 := h6.2 0 (by omega)
      rw [List.getElem?_eq_getElem (by omega)] at h7
      obtain ⟨cs', q1, q2⟩ := Option.bind_eq_some_iff.1 h7
      have := (zvi q1 hpos).1
      have hl0 : len = 0 := by omega
      subst hl0
      simpa [Addr.add] using this
  obtain ⟨b, o, sp⟩ := ad
  simp only at hspot
  subst hspot
  have hget : ∀ (k : Nat) (e : List V), (xs.map d)[k]? = some e → k < len ∧ ∃ x, X k = some x ∧ e = d x ∧ W.cells? 0 ⟨b, o + k * i.size, none⟩ i.size = some (C k) ∧ RV W (C k) (d x) := by
    intro k e hk
    rw [List.getElem?_map, Option.map_eq_some_iff] at hk
    obtain ⟨x, q1, q2⟩ := hk
    have hlt := (List.getElem?_eq_some_iff.1 q1).1
    obtain ⟨y, r1, r2, r3⟩ := hCX k (by omega)
    rw [hx2 k x q1] at r1
    cases r1
    refine ⟨by omega, x, hx2 k x q1, q2.symm, ?_, r3⟩
    rw [← r2]
    congr 1
    unfold Addr.add
    by_cases h0 : k * i.size = 0
    · simp [h0]
    · simp [h0]
  refine .sl b o len cap i.size _ (fun k j => (C k).getD j undef) (by simp [hx1]) h1 h2 (fun e he => ?_) (fun k e j x hk hj => ?_) (fun k e j x hk hj => ?_)
  · obtain ⟨x, _, rfl⟩ := List.mem_map.1 he; exact hd x
  · obtain ⟨_, y, _, rfl, q3, q4⟩ := hget k e hk
    have hlt : j < (C k).length := by rw [q4.len]; exact (List.getElem?_eq_some_iff.1 hj).1
    have hv : (C k)[j]? = some ((C k)[j]) := List.getElem?_eq_getElem hlt
    have hD : (C k).getD j undef = (C k)[j] := by simp [List.getD, hv]
    show (immW W).cell b (o + k * i.size + j) = some ((C k).getD j undef) ∧ ((C k).getD j undef).oneCell' = true
    rw [hD]
    exact ⟨(zvi q3 hpos).2 j _ hv, q4.2 _ (List.getElem_mem _)⟩
  · obtain ⟨_, y, _, rfl, q3, q4⟩ := hget k e hk
    have hlt : j < (C k).length := by rw [q4.len]; exact (List.getElem?_eq_some_iff.1 hj).1
    have hv : (C k)[j]? = some ((C k)[j]) := List.getElem?_eq_getElem hlt
    have hD : (C k).getD j undef = (C k)[j] := by simp [List.getD, hv]
    show RepV (immW W) ((C k).getD j undef) x
    rw [hD]
    exact q4.1.2 j _ x hv hj
theorem zsy {fs : List (Nat × TypeId)} {a : Bool} {sz by_ : Nat} {z : List D} (htt : TTok P tt) (hl : lk tt t = some ⟨.struct fs, a, sz, by_, z⟩) (h : Rds P W n t cs) :
    cs.length = sz ∧ ∃ m, n = m + 1 ∧ ∀ (j off : Nat) (ft : TypeId) (i : TyI), fs[j]? = some (off, ft) → lk tt ft = some i → Rds P W m ft ((cs.drop off).take i.size) := by
  obtain ⟨H, enc, x, h⟩ := h
  obtain ⟨fields, hu, hmap, _⟩ : ∃ fields, P.underlying t = some (.struct fields) ∧ fields.toList.map (fun f => (f.offset, f.type)) = fs ∧ ∀ f ∈ fields.toList, 0 < P.cellsOf f.type := htt.sh hl
  obtain ⟨xs, m, rfl, _, h1, h2, h3⟩ := DataW.trod_struct hu h
  refine ⟨by rw [h1]; exact (htt t _ hl).cellsOf, m, rfl, fun j off ft i hj hi => ?_⟩
  rw [← hmap, List.getElem?_map, Option.map_eq_some_iff] at hj
  obtain ⟨f, q1, q2⟩ := hj
  cases q2
  have hf : fields[j]? = some f := by rw [← Array.getElem?_toList]; exact q1
  have hlt := (Array.getElem?_eq_some_iff.1 hf).1
  have := h3 j f hf
  rw [List.getElem?_eq_getElem (by omega), (htt _ i hi).cellsOf] at this
  exact ⟨H, enc, _, this⟩
end
end Go.Hk

/- Arguments of layers 1 and 3 read: types, patterns, terms, modules. -/
namespace Go.Hk
open Go.Proofs
section
variable {W : World}
theorem four {α : Type} {l : List α} (h : l.length = 4) : ∃ a b c d, l = [a, b, c, d] := by
  match l, h with
  | [a, b, c, d], _ => exact ⟨a, b, c, d, rfl⟩
theorem five {α : Type} {l : List α} (h : l.length = 5) : ∃ a b c d e, l = [a, b, c, d, e] := by
  match l, h with
  | [a, b, c, d, e], _ => exact ⟨a, b, c, d, e, rfl⟩
theorem yb4 (l : List Ty) : l.map zb5 = zcf l := (zhy l).symm
theorem yks (l : List Tm) : l.map dTmc = zdg l := (ze9 l).symm
theorem yf2 (tt0 ts tl : TypeId) (hs : lk ttK tt0 = some ⟨.struct [(0, ts), (1, 3), (2, 9), (3, tl)], true, 4, 56, [.imm (.int .i64 0), .imm (.int .i64 0), .imm (.str []), .nils]⟩)
    (h1 : lk ttK ts = some ⟨.int .i64, false, 1, 8, [.imm (.int .i64 0)]⟩) (h2 : lk ttK tl = some ⟨.sl tt0, false, 1, 24, [.nils]⟩) :
    ∀ (n : Nat) (cs : List Value), Rds Tryz.prog W n tt0 cs → ∃ t : Ty, RV W cs (zb5 t) := by
  intro n
  induction n using Nat.strongRecOn with
  | ind n ih =>
    intro cs h
    obtain ⟨hl, m, rfl, hf⟩ := zsy zby hs h
    obtain ⟨a, b, c, d, rfl⟩ := four hl
    obtain ⟨s, r1, _⟩ := zuq zby h1 (hf 0 0 ts _ rfl h1)
    obtain ⟨k, r2, _⟩ := zuq zby rfl (hf 1 1 3 _ rfl rfl)
    obtain ⟨x, r3, _⟩ := rds_str zby rfl (hf 2 2 9 _ rfl rfl)
    obtain ⟨ps, r4⟩ := zpy (d := zb5) zby h2 hs (show 0 < 4 by decide) dTyc_length (fun m' hm cs' => ih m' (by omega) cs') (hf 3 3 tl _ rfl h2)
    exact ⟨.mk s k x ps, by rw [zb5, ← yb4]; exact ((r1.app r2).app r3).app r4⟩
theorem yjg (n : Nat) (cs : List Value) (h : Rds Tryz.prog W n 58 cs) : ∃ t : Ty, RV W cs (zb5 t) := yf2 58 56 24 rfl rfl rfl n cs h
set_option maxRecDepth 100000 in
theorem read_term : ∀ (n : Nat) (cs : List Value), Rds Tryz.prog W n 26 cs → ∃ t : Tm, RV W cs (dTmc t) := by
  intro n
  induction n using Nat.strongRecOn with
  | ind n ih =>
    intro cs h
    obtain ⟨hl, m, rfl, hf⟩ := zsy zby rfl h
    obtain ⟨a, b, c, d, e, rfl⟩ := five hl
    obtain ⟨s, r1, _⟩ := zuq zby rfl (hf 0 0 22 _ rfl rfl)
    obtain ⟨k, r2, _⟩ := zuq zby rfl (hf 1 1 3 _ rfl rfl)
    obtain ⟨x, r3, _⟩ := rds_str zby rfl (hf 2 2 9 _ rfl rfl)
    obtain ⟨ks, r4⟩ := zpy (d := dTmc) zby rfl (e := 26) rfl (by decide) dTmc_length (fun m' hm cs' => ih m' (by omega) cs') (hf 3 3 23 _ rfl rfl)
    obtain ⟨ps, r5⟩ := zpy (d := zb5) zby rfl (e := 58) rfl (by decide) dTyc_length (fun m' hm cs' => yjg m' cs') (hf 4 4 24 _ rfl rfl)
    exact ⟨.mk s k x ks ps, by rw [dTmc, ← yb4, ← yks]; exact (((r1.app r2).app r3).app r4).app r5⟩
end
end Go.Hk

namespace Go.Hk
open Go.RowKit Go.WideShapes Go.ChangeShapes Go.ChangeAt
theorem znr {H : Type} {enc : TypeId × Value → H} {P : Program} (hl : laidOutB P = true) {W W' : World} (hb : Below W.heap.size W W') {sp : Nat → Bool} :
    ∀ {ts : List TypeId} {vs : List Value} {ds : List (DataW H)} {ps : List MemPlace}, ts.all (fun t => P.readableRec t && decide (t < P.types.size)) = true → DataW.TrodAll enc P W 0 (fun _ => true) true ts vs ds ps →
      (∀ p ∈ ps, p.block < W.heap.size) → (∀ p ∈ ps, sp p.block = true) → DataW.TrodAll enc P W' 0 sp true ts vs ds ps
  | [], [], [], _, _, h, _, _ => h
  | [], [], _ :: _, _, _, h, _, _ => h.elim
  | [], _ :: _, _, _, _, h, _, _ => h.elim
  | _ :: _, [], _, _, _, h, _, _ => h.elim
  | _ :: _, _ :: _, [], _, _, h, _, _ => h.elim
  | t :: ts, v :: vs, d :: ds, ps, ht, h, hlt, hs => by
    obtain ⟨p, q, h1, h2, rfl⟩ := h
    rw [List.all_cons, Bool.and_eq_true, Bool.and_eq_true, decide_eq_true_eq] at ht
    refine ⟨p, q, WideElems.Trod_stays hl ht.1.1 ht.1.2 h1 (fun x hx => hb.same (hlt x (List.mem_append_left _ hx))) (fun x hx => hs x (List.mem_append_left _ hx)), ?_, rfl⟩
    exact znr hl hb ht.2 h2 (fun x hx => hlt x (List.mem_append_right _ hx)) (fun x hx => hs x (List.mem_append_right _ hx))
theorem Rds.of {H : Type} {enc : TypeId × Value → H} {P : Program} {W : World} {t : TypeId} {v : Value} {d : DataW H} {ps : List MemPlace} (h : DataW.Trod enc P W 0 (fun _ => true) true t v d ps) : ∃ n, Rds P W n t v.cells.toList := by
  obtain ⟨n, hn⟩ := h
  exact ⟨n, H, enc, _, hn⟩
section
variable {H : Type} {enc : TypeId × Value → H} {P : Program} {W : World} {sp : Nat → Bool} {hd : Bool}
theorem yix {vs : List Value} {ds : List (DataW H)} {ps : List MemPlace} (h : DataW.TrodAll enc P W 0 sp hd [] vs ds ps) : vs = [] ∧ ds = [] := by
  cases vs with
  | nil => cases ds with
    | nil => exact ⟨rfl, rfl⟩
    | cons => exact h.elim
  | cons => cases ds <;> exact h.elim
theorem trodAllS {t : TypeId} {ts : List TypeId} {vs : List Value} {ds : List (DataW H)} {ps : List MemPlace} (h : DataW.TrodAll enc P W 0 sp hd (t :: ts) vs ds ps) :
    ∃ v vs' d ds' p q, vs = v :: vs' ∧ ds = d :: ds' ∧ DataW.Trod enc P W 0 sp hd t v d p ∧ DataW.TrodAll enc P W 0 sp hd ts vs' ds' q := by
  cases vs with
  | nil => cases ds <;> exact h.elim
  | cons v vs => cases ds with
    | nil => exact h.elim
    | cons d ds =>
      obtain ⟨p, q, h1, h2, _⟩ := h
      exact ⟨v, vs, d, ds, p, q, rfl, rfl, h1, h2⟩
theorem yiw {t : TypeId} {vs : List Value} {ds : List (DataW H)} {ps : List MemPlace} (h : DataW.TrodAll enc P W 0 sp hd [t] vs ds ps) : ∃ v d p, vs = [v] ∧ ds = [d] ∧ DataW.Trod enc P W 0 sp hd t v d p := by
  obtain ⟨v, vs', d, ds', p, q, rfl, rfl, h1, h2⟩ := trodAllS h
  obtain ⟨rfl, rfl⟩ := yix h2
  exact ⟨v, d, p, rfl, rfl, h1⟩
theorem yiv {t u : TypeId} {vs : List Value} {ds : List (DataW H)} {ps : List MemPlace} (h : DataW.TrodAll enc P W 0 sp hd [t, u] vs ds ps) :
    ∃ v w d e p q, vs = [v, w] ∧ ds = [d, e] ∧ DataW.Trod enc P W 0 sp hd t v d p ∧ DataW.Trod enc P W 0 sp hd u w e q := by
  obtain ⟨v, vs', d, ds', p, q, rfl, rfl, h1, h2⟩ := trodAllS h
  obtain ⟨w, e, q, rfl, rfl, h3⟩ := yiw h2
  exact ⟨v, w, d, e, p, q, rfl, rfl, h1, h3⟩
theorem trodAll3 {t u x : TypeId} {vs : List Value} {ds : List (DataW H)} {ps : List MemPlace} (h : DataW.TrodAll enc P W 0 sp hd [t, u, x] vs ds ps) :
    ∃ v w y d e f p q r, vs = [v, w, y] ∧ ds = [d, e, f] ∧ DataW.Trod enc P W 0 sp hd t v d p ∧ DataW.Trod enc P W 0 sp hd u w e q ∧ DataW.Trod enc P W 0 sp hd x y f r := by
  obtain ⟨v, vs', d, ds', p, q, rfl, rfl, h1, h2⟩ := trodAllS h
  obtain ⟨w, y, e, f, q, r, rfl, rfl, h3, h4⟩ := yiv h2
  exact ⟨v, w, y, d, e, f, p, q, r, rfl, rfl, h1, h3, h4⟩
end
theorem agg_of {P : Program} {W : World} {base : Nat} {t : TypeId} {v : Value} {fs : Array Field} (hu : P.underlying t = some (.struct fs)) (h : Value.okWide P W .any base t v) : ∃ cs, v = .agg cs := by
  unfold Value.okWide at h
  rw [hu] at h
  obtain ⟨cs, e, _⟩ := h
  exact ⟨cs, e⟩
theorem one_of {P : Program} {W : World} {base : Nat} {t : TypeId} {v : Value} {x : V} (h : Value.okWide P W .any base t v) (hu : P.underlying t = some .string ∨ ∃ e, P.underlying t = some (.slice e)) (hr : RV W v.cells.toList [x]) : RepV (immW W) v x := by
  have hc : v.cells = #[v] := by
    cases v <;> first
      | rfl
      | (exfalso
         unfold Value.okWide at h
         rcases hu with hu | ⟨e, hu⟩ <;> (rw [hu] at h; unfold Cell.okWide Cell.ok at h; rw [hu] at h; exact h))
  rw [hc] at hr
  exact hr.1.2 0 v x rfl rfl
theorem zvl {P : Program} {f : FuncId} {fn : Func} {c : Code} (hf : P.funcs[f]? = some fn) (hname : (fn.name == "runtime.NumGoroutine") = false) (hb : fn.body = some c) {W : World} {args : Array Value} {vs : List V} {b : Bool} (hv : RepVL (immW W) args.toList vs) (hp : zax P f vs (.bool b)) :
    Calls P f args W fun e W' => e = .returned (.bool b) ∧ Below W.heap.size W W' := by
  have h := hp (immW W) (fun _ => none) W args { imm := ymv W, blk := fun id blk hl => (by cases hl), apart := fun id blk g b hl => (by cases hl), inj := fun i j bi bj gi gj b hl => (by cases hl), nodup := .nil, idsFree := fun id hi => (by cases hi) }
    ⟨by simpa using hv.1, fun i v d h1 h2 => by
      rw [List.getElem?_map, Option.map_eq_some_iff] at h2
      obtain ⟨x, q1, rfl⟩ := h2
      exact .imm _ _ (hv.2 i v x h1 q1)⟩
  rw [run_callFunc_body hf hname hb] at h
  refine Calls.mono h fun e w' he => ?_
  cases e with
  | returned v =>
    obtain ⟨I', μ', h1, _, _, h4⟩ := he
    cases h1 with
    | imm v x hx =>
      cases hx
      exact ⟨rfl, h4.below⟩
  | panicked => exact he.elim
  | outgrown => exact he.elim
theorem law_done {H : Type} {enc : TypeId × Value → H} {P : Program} {f : FuncId} {fn : Func} {c : Code} {s : ChangeSpec} {apart fresh handsOn again : Bool} {W : World} {args : Array Value} {ds gs : List (DataW H)} {before : List MemPlace} {tb : TypeId} {vs : List V}
    (hW : DataW.Whole enc P fn.params.toList s.vars apart W args.toList ds gs before) (hv : s.vars = []) (hf : P.funcs[f]? = some fn) (hname : (fn.name == "runtime.NumGoroutine") = false) (hb : fn.body = some c) (hrt : fn.resultTypes = #[tb]) (hbool : P.underlying tb = some .bool)
    (hl : laidOutB P = true) (hpar : fn.params.toList.all (fun t => P.readableRec t && decide (t < P.types.size)) = true) (hs : s.fn H ds = { results := [.lit (.bool true)], args := ds }) (hx : RepVL (immW W) args.toList vs) (hp : zax P f vs (.bool true)) :
    Calls P f args W fun e W' => ∃ v, e = .returned v ∧ s.post enc P fn apart fresh handsOn again W args v W' := by
  refine (zvl hf hname hb hx hp).mono fun e W' ⟨he, hg⟩ => ?_
  subst he
  have hW' := hW
  obtain ⟨p, q, hA, hV, e1, hfz, hnd⟩ := hW
  rw [hv] at hV
  have hg0 : gs = [] ∧ q = [] := by
    cases gs with
    | nil => exact ⟨rfl, hV⟩
    | cons => exact hV.elim
  obtain ⟨rfl, rfl⟩ := hg0
  rw [List.append_nil] at e1
  subst e1
  have hlt := hW'.lt
  refine ⟨_, rfl, yj1 (pa := before) (pv := []) hW' hg (by simp) (fun b sp hd => ?_) (fun sp hsp => ?_) (fun sp hsp => ?_) ?_⟩
  · rw [List.append_nil, hs, hrt]
    exact trodAll_cons_mk (shut_bool hbool _) trodAll_mk0
  · rw [List.append_nil, hs]
    exact znr hl hg hpar hA hlt hsp
  · rw [List.append_nil, hs, hv]; rfl
  · exact ok_one hrt rfl (okWide_bool_mk hbool _)
end Go.Hk
