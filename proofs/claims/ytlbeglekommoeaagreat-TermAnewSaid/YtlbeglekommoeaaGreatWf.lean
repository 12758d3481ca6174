/- From a contract by value, `it returns true', to a law's row: arguments read, what was there is kept. (And what it stands on.) -/
import Derived.Test.YtlbeglekommoeaaGreatWe
import Derived.Test.YtlbeglekommoeaaGreatWd
import Derived.Test.YtlbeglekommoeaaGreatWb
import Derived.Below
import Derived.ChangeSame
import Derived.ChangeOld
import Derived.Carry
import Derived.ChangeArms
import Derived.DataReads
import Derived.WideKeyArgs
import Derived.OpenShut
import Derived.RowKit
import Derived.ProofKit
set_option linter.unusedSimpArgs false
set_option linter.unusedVariables false

/- Contract of replacer.in. -/
namespace Go.Hk
open Go.Proofs
theorem zy3 {t T U : Tm} (h : zp8 t T) (k : zp8 T U) : zp8 t U := by
  obtain ⟨op, n, y, ks, ps, y', ks', ps', rfl, rfl, h1, h2, h3⟩ := h
  obtain ⟨_, _, _, _, _, y2, ks2, ps2, e, rfl, k1, k2, k3⟩ := k
  cases e
  exact ⟨op, n, y, ks, ps, y2, ks2, ps2, rfl, rfl, k1.trans h1, k2.trans h2, fun m => (k3 m).trans (h3 m)⟩
theorem zil : ∀ {l : List Tm} {i : Nat} {k : Tm}, zar l = true → l[i]? = some k → zaj k = true
  | [], i, k, _, h => by simp at h
  | a :: r, 0, k, h, hk => by
    simp at hk; subst hk
    simp only [zar, Bool.and_eq_true] at h; exact h.1
  | a :: r, i + 1, k, h, hk => by
    simp only [zar, Bool.and_eq_true] at h
    exact zil h.2 (by simpa using hk)
theorem zi4 : ∀ {l : List Tm} {i : Nat} {k : Tm}, l[i]? = some k → zdr k ≤ zcs l
  | [], i, k, h => by simp at h
  | a :: r, 0, k, h => by simp at h; subst h; simp only [zcs]; omega
  | a :: r, i + 1, k, h => by
    have := zi4 (l := r) (i := i) (k := k) (by simpa using h)
    simp only [zcs]; omega
theorem skK_im {op n : Int} {x : Str} {v u : Value} {js qs : List An} {i : Nat} (h : i < js.length) : skK (er (.mk true op n x v (zun js) u qs)) i = some (.im true [] []) := by
  simp only [er, skK, zhu, List.getElem?_map, zun]
  rw [List.getElem?_eq_getElem h]; rfl
set_option maxRecDepth 100000 in
theorem yfk (nm : Str) (by' : Tm) (fr : List Str) (hby : zjt by') (hfl : fr.length ≤ 60) (hfs : ∀ s ∈ nm :: fr, s.length ≤ 8) : ∀ (N : Nat) (t : Tm), zdr t ≤ N → zaj t = true → zdr t ≤ 60 →
    zc0 Tryz.prog 37 [.agg (rD nm by' 7), .imm (.agg (dTmc t))] [(7, some (.map (zeg fr)))] (.ret (.imm (.agg (dTmc (rpl nm by' fr N t)))) [(7, some (.map (zeg fr)))])
  | 0, t, hc, hn, h60 => by have := zzw t; omega
  | N + 1, t, hc, hn, h60 => by
    have hw := ztr t hn (by omega)
    have hp := (zg6 t hn (by omega)).2
    obtain ⟨op, n, x, ks, ps⟩ := t
    obtain ⟨bo, bn, bx, bks, bps⟩ := by'
    refine zaf za4 Tryz.func37 (by decide +kernel) rfl [2, 3, 4, 1, 5, 20, 8, 9, 10, 11, 12, 13, 14, 15, 6, 16, 17, 18, 19, 21, 22] rfl rfl ?_
    refine xg [] rfl (by simp) ?_
    refine ziw rfl ?_
    refine xg [] rfl (by simp) ?_
    refine zas (fr := []) [(1, 1)] [] rfl (by simp) (zqj (.mk op n x ks ps) [] [] hp) ⟨⟨rfl, rfl, rfl⟩, trivial⟩ rfl rfl rfl rfl ?_
    refine xg [] rfl (by simp) ?_
    refine zmw za4 1 rfl rfl rfl (zcv _) (by simp [zai]) (z := .bool false) rfl (fun _ => .bool _) (zgj _ nm) ?_
    refine xg [] rfl (by simp [zai]) ?_
    refine zab rfl (fun h => ?_) (fun h => ?_)
    · refine xd [] rfl (by simp) ?_
      refine zas (fr := [5]) [] [(1, 5)] rfl (by simp) (zgt (.mk op n x ks ps) hw) trivial rfl rfl rfl rfl ?_
      refine xg [] rfl (by simp) ?_
      refine zga (ids' := [8, 9, 10, 11, 12, 13, 14, 15, 6, 16, 17, 18, 19, 21, 22]) 5 20 (fun y : { y : Value × List An × Value × List An // (vAs y.2.1 = zdb ks ∧ vAs y.2.2.2 = zce ps) ∧ zcr y.2.1 ∧ zcr y.2.2.2 } => [y.1.1, y.1.2.2.1]) (fun y => zya (.mk true op n x y.1.1 y.1.2.1 y.1.2.2.1 y.1.2.2.2)) rfl (fun vs I w bs h => zi3 h) fun y => ?_
      obtain ⟨⟨v, js, u, qs⟩, ⟨h5, h6⟩, hf1, hf2⟩ := y
      refine ze0 20 4 (dTmc (.mk op n x ks ps)) rfl rfl (fun vs I J w bs h1 h2 h3 cs hc => ztw h5 h6 h1 h2 h3 cs hc) rfl ?_
      have hno : zcf (zdt (.mk op n x ks ps) [] []) nm = false := by simpa using h
      rw [show rpl nm (.mk bo bn bx bks bps) fr (N + 1) (.mk op n x ks ps) = .mk op n x ks ps by simp only [rpl, hno, Bool.false_eq_true, if_false]]
      exact zaa ⟨_, rfl, tV rfl, rfl, trivial⟩
    have hyes : zcf (zdt (.mk op n x ks ps) [] []) nm = true := by simpa using h
    clear h
    refine xd [] rfl (by simp) ?_
    refine zab rfl (fun h => ?_) (fun h => ?_)
    · have e : op = 4 := by simpa using h
      refine xd [] rfl (by simp) ?_
      refine zas (fr := [5]) [] [(1, 5)] rfl (by simp) (zgt (.mk bo bn bx bks bps) hby) trivial rfl rfl rfl rfl ?_
      refine xg [] rfl (by simp) ?_
      refine zga (ids' := [8, 9, 10, 11, 12, 13, 14, 15, 6, 16, 17, 18, 19, 21, 22]) 5 20 (fun y : { y : Value × List An × Value × List An // (vAs y.2.1 = zdb bks ∧ vAs y.2.2.2 = zce bps) ∧ zcr y.2.1 ∧ zcr y.2.2.2 } => [y.1.1, y.1.2.2.1]) (fun y => zya (.mk true bo bn bx y.1.1 y.1.2.1 y.1.2.2.1 y.1.2.2.2)) rfl (fun vs I w bs h => zi3 h) fun y => ?_
      obtain ⟨⟨v, js, u, qs⟩, ⟨h5, h6⟩, hf1, hf2⟩ := y
      refine ze0 20 4 (dTmc (.mk bo bn bx bks bps)) rfl rfl (fun vs I J w bs h1 h2 h3 cs hc => ztw h5 h6 h1 h2 h3 cs hc) rfl ?_
      rw [show rpl nm (.mk bo bn bx bks bps) fr (N + 1) (.mk op n x ks ps) = .mk bo bn bx bks bps by simp only [rpl]; rw [if_pos hyes, if_pos e]]
      exact zaa ⟨_, rfl, tV rfl, rfl, trivial⟩
    have e : op ≠ 4 := by simpa using h
    clear h
    refine yhl 7 rfl fun bm es clock hes hst => ?_
    refine xd [] rfl (by simp) ?_
    refine zas (fr := [5]) [] [(1, 5)] rfl (by simp) (zgt (.mk op n x ks ps) hw) trivial rfl rfl rfl rfl ?_
    refine xg [] rfl (by simp) ?_
    refine ziw rfl ?_
    refine xg [] rfl (by simp) ?_
    refine znz za4 rfl rfl rfl (by simp) ?_
    refine xg [] rfl (by simp) ?_
    refine yjv za4 rfl ?_
    refine xg [] rfl (by simp) ?_
    have hlen : es.size = fr.length := by simpa [zeg] using hes
    refine zak (fun _ : Array Nat × List Str => [(37, .iter 9), (2, .ref 2 0), (3, .ref 3 0), (4, .ref 4 0), (6, .ref 8 0)])
      (fun y => [(2, some (.cells 63 7 (rD nm (.mk bo bn bx bks bps) 7))), (3, some (.cells 26 5 [.imm (.int .i64 op), .imm (.int .i64 n), .imm (.str x), .hv 5 0, .hv 5 1])), (4, some (.cells 26 5 [.imm (.int .i64 0), .imm (.int .i64 0), .imm (.str []), .nils, .nils])), (5, some (.hp (zvf true (dTmc (.mk op n x ks ps))))),
        (20, some (.map (zeg y.2))), (7, some (.mapx (zeg fr) bm es clock)), (8, some (.cells 61 1 [.mapr 20])), (9, some (.miter bm clock y.1 clock))]) [10, 11, 12, 13, 14, 15, 6, 16, 17, 18, 19, 21, 22]
      (fun y => (leftOf es y.1).size) (fun y => y.2.length + (leftOf es y.1).size ≤ 1 + fr.length ∧ ∀ s, s ∈ y.2 ↔ s = nm ∨ ∃ (j : Nat) (e : MapEntry), es[j]? = some e ∧ y.1.contains e.born = true ∧ fr[j]? = some s) (#[], [nm])
      ⟨by simp only [List.length_singleton]; have := yl9 es #[]; omega, fun s => by simp⟩ ⟨rfl, rfl, rfl, rfl, rfl, trivial⟩ ⟨rfl, rfl, rfl, rfl, rfl, rfl, rfl, rfl, trivial⟩ rfl fun y hi ih => ?_
    obtain ⟨seen, m⟩ := y
    obtain ⟨hi1, hi2⟩ := hi
    simp only at hi1 hi2
    refine xd [] rfl (by simp) ?_
    refine ymg 7 rfl rfl (fun x hx => hst.1 x hx) (Nat.le_refl _) (by decide) fun z hz => ?_
    rcases z with _ | ⟨j, e1⟩
    rotate_left
    · obtain ⟨hz1, hz2⟩ := hz
      obtain ⟨s, hs⟩ : ∃ s, fr[j]? = some s := zan (by rw [← hlen]; exact (Array.getElem?_eq_some_iff.1 hz1).1)
      have hkv : (zeg fr)[j]? = some (.str s, .bool true) := by simp [zeg, hs]
      have hD : ygd (zeg fr) (some (j, e1)) = .imm (.tup [.bool true, .str s, .bool true]) := by simp only [ygd, hkv]
      rw [hD]
      refine xd [] rfl (by simp) ?_
      refine zab rfl (fun h => ?_) (fun h => by simp at h)
      refine xd [] rfl (by simp) ?_
      refine yjw 7 rfl rfl rfl rfl hz1 hkv ?_
      refine xg [] rfl (by simp) ?_
      refine znz za4 rfl rfl rfl (zcv m) ?_
      rw [zk9]
      refine xg [] rfl (by simp) ?_
      have hsh := left_shrinks es seen e1 hz2
      have hal := zvb m s
      refine zae (ih (seen.push e1.born, zk4 m s) hsh ⟨by simp only; omega, fun y => ?_⟩) ⟨rfl, rfl, rfl, rfl, rfl, trivial⟩ ⟨rfl, rfl, rfl, rfl, rfl, rfl, rfl, rfl, trivial⟩ rfl
      simp only [zud, hi2 y]
      constructor
      · rintro ((h1 | ⟨j', e', q1, q2, q3⟩) | h1)
        · exact .inl h1
        · exact .inr ⟨j', e', q1, by rw [contains_push, q2, Bool.true_or], q3⟩
        · subst h1; exact .inr ⟨j, e1, hz1, by rw [contains_push]; simp, hs⟩
      · rintro (h1 | ⟨j', e', q1, q2, q3⟩)
        · exact .inl (.inl h1)
        · rw [contains_push, Bool.or_eq_true] at q2
          rcases q2 with q2 | q2
          · exact .inl (.inr ⟨j', e', q1, q2, q3⟩)
          · right
            have hb : e'.born = e1.born := by simpa using q2
            have hjj : j' = j := by
              have hnd := hst.2.1
              have g1 : (es.toList.map (·.born))[j']? = some e'.born := by simp [q1]
              have g2 : (es.toList.map (·.born))[j]? = some e1.born := by simp [hz1]
              rw [hb] at g1
              exact (List.getElem?_inj (List.getElem?_eq_some_iff.1 g1).1 hnd).1 (g1.trans g2.symm)
            subst hjj
            rw [q3] at hs; cases hs; rfl
    have hz : (leftOf es seen).size = 0 := hz
    have hm1 : ∀ s, s ∈ m ↔ s = nm ∨ s ∈ fr := fun s => by
      rw [hi2 s]
      constructor
      · rintro (h | ⟨j, e, _, _, h⟩)
        · exact .inl h
        · exact .inr (List.mem_of_getElem? h)
      · rintro (h | h)
        · exact .inl h
        · obtain ⟨j, hj⟩ := List.getElem?_of_mem h
          obtain ⟨e, he⟩ : ∃ e, es[j]? = some e := ⟨_, Array.getElem?_eq_getElem (by rw [hlen]; exact (List.getElem?_eq_some_iff.1 hj).1)⟩
          exact .inr ⟨j, e, he, ygk hz he, hj⟩
    have hml : m.length ≤ 61 := by omega
    clear ih hi1 hi2
    refine xd [] rfl (by simp) ?_
    refine zab rfl (fun h => by simp at h) (fun h => ?_)
    refine za7 rfl ?_
    refine ydp 7 rfl ?_
    refine zga (ids' := [11, 12, 13, 14, 15, 6, 16, 17, 18, 19, 21, 22]) 5 10 (fun y : { y : Value × List An × Value × List An // (vAs y.2.1 = zdb ks ∧ vAs y.2.2.2 = zce ps) ∧ zcr y.2.1 ∧ zcr y.2.2.2 } => [y.1.1, y.1.2.2.1]) (fun y => zya (.mk true op n x y.1.1 y.1.2.1 y.1.2.2.1 y.1.2.2.2)) rfl (fun vs I w bs h => zi3 h) fun y => ?_
    obtain ⟨⟨v, js, u, qs⟩, ⟨h5, h6⟩, hf1, hf2⟩ := y
    simp only at h5 h6 hf1 hf2
    refine zn5 (ids' := [12, 13, 14, 15, 6, 16, 17, 18, 19, 21, 22]) 3 11 rfl rfl fun b => ?_
    have hva : vA (.mk true op n x v (zun js) u qs) = dTmc (.mk op n x ks ps) := by simp only [vA, dTmc, zz9, h5, h6]
    have hjl : js.length = ks.length := by have := congrArg List.length h5; simpa using this
    refine zzq (ids' := [13, 14, 15, 6, 16, 17, 18, 19, 21, 22]) 10 11 12 (fun _ : Unit => zh1 b (.mk true op n x v js u qs)) rfl rfl (by decide) (fun vs us I w b1 b2 h1 h2 hd => ⟨(), b :: b1, fun k hk => ?_, ?_⟩) fun _ => ?_
    · obtain ⟨e, _⟩ := h2
      rcases List.mem_cons.1 hk with rfl | hk
      · right; simp [e]
      · exact .inl hk
    · obtain ⟨e1, e2, e3⟩ := h1
      obtain ⟨e, cur, z1, z2, z3⟩ := h2
      have hcs : cur.toList = cA (.mk true op n x v js u qs) := by
        obtain ⟨cur⟩ := cur
        have hl := z2.1
        match cur, hl with
        | [c0, c1, c2, c3, c4], _ =>
          have e0 := (z2.2 0 _ _ rfl rfl).immInv.intInv
          have e1 := (z2.2 1 _ _ rfl rfl).immInv.intInv
          have e2 := (z2.2 2 _ _ rfl rfl).immInv.strEq
          have e3 := (z2.2 3 _ _ rfl rfl).rawInv
          have e4 := (z2.2 4 _ _ rfl rfl).rawInv
          rw [e0, e1, e2, e3, e4]; rfl
      refine ⟨by rw [e1], List.nodup_cons.2 ⟨fun hb => hd b hb (by simp [e]), e2⟩, rfl, ⟨cur, z1, ?_⟩, ⟨cur, _, _, z1, fun j c hj => ?_⟩, e3⟩
      · have := congrArg List.length hcs; simpa [cA] using this
      · rw [← hcs] at hj; simpa using hj
    obtain ⟨sk, hsk⟩ : ∃ sk, sk = er (.mk true op n x v (zun js) u qs) := ⟨_, rfl⟩
    refine ydr (ids' := [14, 15, 6, 16, 17, 18, 19, 21, 22]) 12 13 (fun _ : Unit => zch b sk (.mk op n x ks ps)) rfl (fun vs I w bs h => by
      obtain ⟨b1, q1, q2⟩ := ylw h
      exact ⟨(), b1, q1, fun J hJ hk => ⟨_, hsk.symm, hva, q2 J hJ hk⟩⟩) fun _ => ?_
    have hskK : ∀ i, i < ks.length → skK sk i = some (.im true [] []) := fun i hi => by rw [hsk]; exact skK_im (by omega)
    have hsk : sk = .mk true op n [] v (ers (zun js)) u (ers qs) := hsk
    have hfQ : ydk sk := by rw [hsk]; exact (zen qs).2 hf2
    have hkl : ks.length ≤ 1000000 := hw.1
    refine zd2 13 (fun _ : { _y : Unit // zhe sk (.mk op n x ks ps) } => zch b sk (.mk op n x ks ps)) rfl (fun vs I w bs h => ⟨⟨(), yhf hfQ hw.2.2.1 h⟩, h⟩) fun z => ?_
    obtain ⟨_, hfine⟩ := z
    have hv : ∃ ad c, v = .slice ad ks.length c ∧ (0 < ks.length → ∃ rb, ad = some ⟨rb, 0, none⟩) := by
      obtain ⟨a, o', n', x', ad, c, ks', u', qs', h1, h2, h3, _, _, h4, _⟩ := hfine
      obtain ⟨tks, tps, h5, h6, _⟩ := zli h3 h2
      cases h5
      rw [hsk, h3] at h1
      simp only [er, An.mk.injEq] at h1
      exact ⟨ad, c, by rw [← h1.2.2.2.2.1, h6], by rw [← h6]; exact h4⟩
    obtain ⟨ad, c, rfl, hadr⟩ := hv
    refine xd [] rfl (by simp) ?_
    refine zbm za4 13 [.imm (.int .i64 op), .imm (.int .i64 n), .imm (.str x), .raw (.slice ad ks.length c), .raw u] rfl rfl (fun _ vs I w bs h => zkk hsk rfl h) rfl rfl (by simp) ?_
    refine xg [] rfl (by simp) ?_
    refine zas (fr := []) [(13, 2), (20, 1)] [] rfl (by simp) (zvz b sk (.mk op n x ks ps) m op n x [] (.slice ad ks.length c) (ers (zun js)) u (ers qs) ks ps hsk rfl hp) ⟨⟨rfl, rfl, rfl⟩, ⟨rfl, rfl, rfl⟩, trivial⟩ rfl rfl rfl rfl ?_
    refine xg [] rfl (by simp) ?_
    refine zbm za4 13 [.raw (.slice ad ks.length c)] rfl rfl (fun _ vs I w bs h => (zd6 (by rw [hsk] at h; exact h)).1) rfl rfl (by simp) ?_
    refine xg [] rfl (by simp) ?_
    have hnm := hn
    simp only [zaj, Bool.and_eq_true] at hnm
    have hK6 := zsu hnm.1.1
    have hocc := zyv (.mk op n x ks ps) hn
    have hbnd := ykg (op := op) (n := n) (x := x) (ks := ks) hnm.1.2 ks.length 0
    have hstl := zo9 (.mk op n x ks ps) m
    have hsame : yb7 (zc1 (.mk op n x ks ps) m) (nm :: fr ++ zh9 (.mk op n x ks ps)) := fun s => by
      rw [zpz, hm1 s, List.mem_append, List.mem_cons]
    have hsh1 : ∀ s ∈ zc1 (.mk op n x ks ps) m, s.length ≤ 8 := fun s hs => by
      rcases List.mem_append.1 ((hsame s).1 hs) with h | h
      · exact hfs s h
      · exact zpx (zpa _ hn s h)
    have hfin : rpl nm (.mk bo bn bx bks bps) fr (N + 1) (.mk op n x ks ps) = lpR (rpl nm (.mk bo bn bx bks bps) fr N) nm fr ks.length 0 (.mk op n x ks ps) (zc1 (.mk op n x ks ps) m) := by
      rw [rpl, if_pos hyes, if_neg e]
      exact (zw3 _ nm fr ks.length 0 _ _ _ hsame).symm
    rw [hfin]
    generalize hm1' : zc1 (.mk op n x ks ps) m = m1 at *
    generalize hrp : lpR (rpl nm (.mk bo bn bx bks bps) fr N) nm fr ks.length 0 (.mk op n x ks ps) m1 = res
    refine zak (fun y : Nat × Tm × List Str => [(50, .imm (.int .i64 y.1)), (49, .imm (.int .i64 ks.length)), (2, .ref 2 0), (3, .raw (.pointer (some ⟨b, 0, none⟩))), (4, .ref 4 0), (6, .ref 8 0)])
      (fun y => [(2, some (.cells 63 7 (rD nm (.mk bo bn bx bks bps) 7))), (4, some (.cells 26 5 [.imm (.int .i64 0), .imm (.int .i64 0), .imm (.str []), .nils, .nils])), (7, some (.map (zeg fr))), (13, some (.hp (zch b sk y.2.1))), (20, some (.map (zeg y.2.2))), (8, some (.cells 61 1 [.mapr 20]))]) [14, 15, 6, 16, 17, 18, 19, 21, 22]
      (fun y => ks.length - y.1) (fun y => y.1 ≤ ks.length ∧ zhe sk y.2.1 ∧ zp8 (.mk op n x ks ps) y.2.1 ∧ (∀ l k, y.1 ≤ l → ks[l]? = some k → tmK y.2.1 l = some k) ∧ y.2.2.length + zkw (.mk op n x ks ps) (ks.length - y.1) y.1 ≤ 699 ∧ (∀ s ∈ y.2.2, s.length ≤ 8) ∧
        lpR (rpl nm (.mk bo bn bx bks bps) fr N) nm fr (ks.length - y.1) y.1 y.2.1 y.2.2 = res) (0, .mk op n x ks ps, m1)
      ⟨Nat.zero_le _, hfine, zmu _, fun l k _ h => h, by simp only [Nat.sub_zero]; omega, hsh1, hrp⟩ ⟨rfl, rfl, rfl, rfl, rfl, rfl, trivial⟩ ⟨rfl, rfl, rfl, rfl, rfl, rfl, trivial⟩ rfl fun y hi ih => ?_
    obtain ⟨i, T, tm⟩ := y
    obtain ⟨d1, d2, d3, d4, d5, d6, d7⟩ := hi
    simp only at d1 d2 d3 d4 d5 d6 d7
    refine xd [] rfl (by simp) ?_
    refine zab rfl (fun h => ?_) (fun h => ?_)
    · simp at h
      obtain ⟨kid, hkid⟩ : ∃ kid, ks[i]? = some kid := zan h
      have hkT := d4 i kid (Nat.le_refl _) hkid
      obtain ⟨p1, p2, p3, p4, p5, x1, kn, ps1, hT1, hT, hl1, hl2, hbl⟩ := d3
      cases hT1
      subst hT
      refine xd [] rfl (by simp) ?_
      have hbi : (zad (.mk op n x1 kn ps1) i).length ≤ 8 := by rw [hbl]; exact yhx hnm.1.2 i
      refine zas (fr := [15]) [(13, 1)] [(4, 15)] rfl (by simp) (ycr b sk op n x1 kn ps1 i (by omega) (fun ho hp2 => by
        simp only [zad, if_pos hp2] at hbi
        cases hg : ps1[((i : Int) - 1).toNat]? with
        | none =>
          exfalso
          have := zmp hnm.1.1 hp2 h
          rw [List.getElem?_eq_none_iff] at hg; omega
        | some q =>
          refine ⟨q, rfl, ?_⟩
          simp only [hg, ho, Bool.false_eq_true, if_false] at hbi
          omega)) ⟨⟨rfl, rfl, rfl⟩, trivial⟩ rfl rfl rfl rfl ?_
      refine xg [] rfl (by simp) ?_
      obtain ⟨rb, hrb⟩ : ∃ rb, rb = zgl fr i (.mk op n x1 kn ps1) tm (zad (.mk op n x1 kn ps1) i).length := ⟨_, rfl⟩
      have hskI := hskK i h
      have hknd : zaj kid = true := zil hnm.2 hkid
      have hbS : zkw (.mk op n x ks ps) (ks.length - i) i = (zad (.mk op n x1 kn ps1) i).length + zkw (.mk op n x ks ps) (ks.length - (i + 1)) (i + 1) := by
        rw [show ks.length - i = (ks.length - (i + 1)) + 1 by omega, hbl]; rfl
      have hml9 : tm.length + (zad (.mk op n x1 kn ps1) i).length ≤ 699 := by omega
      obtain ⟨_, b2, b3, b4, _, b6, kid2, b7, b8, _⟩ := zt3 (i := i) d2 hskI hkT fr tm _ (Nat.le_refl _)
      obtain ⟨c1, c2, kid3, c3, c4, c5⟩ := zpk (fr := fr) hkT hknd d6 hml9 _ (Nat.le_refl _)
      rw [← hrb] at b2 b3 b4 b6 b7 c1 c2 c3
      rw [b7] at c3; cases c3
      obtain ⟨rbd, hrb0⟩ := hadr (by omega)
      subst hrb0
      by_cases hB : zbp op i = true ∨ (zbp op i = false ∧ zca op i = true)
      case' pos =>
        obtain ⟨fB, ty, vB, fcB, cB, q1, q2, q3, q4, q5⟩ := yhy (b := b) (i := i) d2 rfl (by omega) (by
            rcases hB with hB | ⟨hB1, hB2⟩
            · exact .inl hB
            · refine .inr ⟨hB1, hB2, ?_⟩
              have := zmp hnm.1.1 hB2 h
              omega)
        refine zas (fr := [6]) [(13, 1)] [(6, 6)] rfl (by simp) q4 ⟨⟨rfl, rfl, rfl⟩, trivial⟩ rfl rfl rfl rfl ?_
        refine xg [] rfl (by simp) ?_
        refine zdl (y := 3) (j := 4) (j2 := 5) (stc := yd0 ty vB) (stc' := yd0 ty vB) (stx := stQ b sk nm (.mk bo bn bx bks bps) fr i (zad (.mk op n x1 kn ps1) i) (0, .mk op n x1 kn ps1, tm)) (stB := stQ b sk nm (.mk bo bn bx bks bps) fr i (zad (.mk op n x1 kn ps1) i) rb) (pend := none) (E := yna b ks.length i (zad (.mk op n x1 kn ps1) i)) (ids' := [6, 16, 17, 18, 19, 21, 22]) (d := .tup []) rfl q1 q2 q3 (show zyk ∉ [7] by decide) ⟨rfl, rfl, rfl, rfl, rfl, rfl, rfl, rfl, trivial⟩
          (zb3 ⟨rfl, rfl, rfl, rfl, rfl, rfl, rfl, rfl, rfl, trivial⟩) (fun L h1 h2 h3 h4 h5 h6 h7 => ?_) ?_ ?_ ?_ ?_ ?_
        · have := q5 (fun j => zdf L (stQ b sk nm (.mk bo bn bx bks bps) fr i (zad (.mk op n x1 kn ps1) i) (zgl fr i (.mk op n x1 kn ps1) tm j)) none) (fun j => ⟨(zgl fr i (.mk op n x1 kn ps1) tm j).2.1, fun I w bb bs hP => yla (i := 13) hP rfl⟩) fun j d hd => by
              have hj : j < (zad (.mk op n x1 kn ps1) i).length := by
                have := (List.getElem?_eq_some_iff.1 hd).1
                rwa [List.length_map, zxz d2] at this
              rw [Nat.zero_add]
              exact ycd b sk nm (.mk bo bn bx bks bps) fr (zad (.mk op n x1 kn ps1) i) i ks.length (.mk op n x1 kn ps1) kid tm d2 hsk hskI hkT (zg6 kid hknd (by have := zi4 hkid; simp only [zdr] at h60; omega)).2 h hkl (fun j hj s hs => by
                have := (zpk (fr := fr) hkT hknd d6 hml9 j hj).2.1 s hs
                unfold maxLen; omega) hml9 j hj d hd h1 h2 h3 h4 h5 h6 h7
          rw [Nat.zero_add, zxz d2, ← hrb] at this
          exact this
        · simp [yd0, stQ, nms]
        · simp [yd0, nms]
        · intro i hi
          have e : nmL (zk3 (zh2 (zbo [(13, 1)] ++ [(6, 6)])) [] ++ zk3 (zh2 (zbo [(13, 1)] ++ [(6, 6)])) [.ref 6 0]) = [6] := rfl
          rw [e] at hi
          simpa [yd0, nms, zew, nmB, nmL, nmD] using hi
        · refine ⟨by decide, ?_⟩
          simp [stQ, yna, rD, nmE, nmD, zew, nmB, nmL, nms]
      case' neg =>
        have hN : zbp op i = false ∧ zca op i = false := by
          cases e1 : zbp op i <;> cases e2 : zca op i <;> simp [e1, e2] at hB ⊢
        have hb0 : (zad (.mk op n x1 kn ps1) i).length = 0 := by simp [zad, hN.1, hN.2]
        have hrb0 : rb = (0, .mk op n x1 kn ps1, tm) := by rw [hrb, hb0]; rfl
        refine zas (fr := []) [(13, 1)] [] rfl (by simp) (zrg (zch b sk (.mk op n x1 kn ps1)) b op i (zok (zhd d2)) hN.1 hN.2) ⟨⟨rfl, rfl, rfl⟩, trivial⟩ rfl rfl rfl rfl ?_
        refine xg [] rfl (by simp) ?_
        refine zqz 56 rfl ?_
        refine zdl (y := 3) (j := 4) (j2 := 5) (stc := []) (stc' := []) (stx := stQ b sk nm (.mk bo bn bx bks bps) fr i (zad (.mk op n x1 kn ps1) i) (0, .mk op n x1 kn ps1, tm)) (stB := stQ b sk nm (.mk bo bn bx bks bps) fr i (zad (.mk op n x1 kn ps1) i) (0, .mk op n x1 kn ps1, tm)) (pend := none) (E := yna b ks.length i (zad (.mk op n x1 kn ps1) i)) (ids' := [6, 16, 17, 18, 19, 21, 22]) (d := .tup []) rfl Tryz.func99 (by decide +kernel) rfl (show zyk ∉ [7] by decide) ⟨rfl, rfl, rfl, rfl, rfl, rfl, rfl, rfl, trivial⟩
          (zb3 ⟨rfl, rfl, rfl, rfl, rfl, rfl, rfl, rfl, trivial⟩) (fun L h1 h2 h3 h4 h5 h6 h7 => zl8) ?_ ?_ ?_ ?_ ?_
        · simp [nms]
        · simp [nms]
        · intro i hi
          have e : nmL (([] : List D) ++ []) = [] := rfl
          rw [e] at hi
          simp [zew] at hi
        · refine ⟨by decide, ?_⟩
          simp [stQ, yna, rD, nmE, nmD, zew, nmB, nmL, nms]
        rw [← hrb0]
      all_goals
        refine xd [] rfl (by simp) ?_
        refine zas (fr := []) [(15, 1)] [] rfl (by simp) (zlb (zad (.mk op n x1 kn ps1) i) nm _) ⟨⟨rfl, rfl, rfl⟩, trivial⟩ rfl rfl rfl rfl ?_
        refine xg [] rfl (by simp) ?_
        have hlike := zy3 ⟨op, n, x, ks, ps, x1, kn, ps1, rfl, rfl, hl1, hl2, hbl⟩ b4
        have hbs9 : rb.2.2.length + zkw (.mk op n x ks ps) (ks.length - (i + 1)) (i + 1) ≤ 699 := by omega
        have hother : ∀ l k, i + 1 ≤ l → ks[l]? = some k → tmK rb.2.1 l = some k := fun l k hl hk => by
          rw [b6 l (by omega)]; exact d4 l k (by omega) hk
        rw [show ks.length - i = (ks.length - (i + 1)) + 1 by omega, lpR, ← yar, ← hrb, b7] at d7
        refine zab rfl (fun h2 => ?_) (fun h2 => ?_)
        · have hno : ¬ zcf (zad (.mk op n x1 kn ps1) i) nm = true := by simpa using h2
          rw [if_neg hno] at d7
          simp only [Option.getD_some] at d7
          have IH := yfk nm (.mk bo bn bx bks bps) fr hby hfl hfs N kid2 (by rw [b8]; have := zi4 hkid; simp only [zdr] at hc; omega) c4 (by rw [b8]; have := zi4 hkid; simp only [zdr] at h60; omega)
          obtain ⟨ro, rn, rx, rks, rps, hres⟩ := zm5 (rpl nm (.mk bo bn bx bks bps) fr N kid2)
          rw [hres] at IH d7
          have hkv : ∀ vs I w bs, (zch b sk rb.2.1).P vs I w bs → zcy I w rbd (0 + ((i : Int)).toNat * 5) ((dTmc kid2).map .imm) := fun vs I w bs h => by
            have := zno (zhd b2) hsk hskI b7 h
            simpa using this
          have hks := zjz (b := b) (zhd b2) hsk hskI b7 (.mk ro rn rx rks rps)
          rw [show i * 5 = 0 + ((i : Int)).toNat * 5 by simp] at hks
          have hraw : ∀ vs I w bs, (zch b sk rb.2.1).P vs I w bs → zcy I w b 3 [.raw (.slice (some ⟨rbd, 0, none⟩) ks.length c)] := fun vs I w bs h => (zd6 (by rw [hsk] at h; exact h)).1
          obtain ⟨ko, kn2, kx, kks, kps, rfl⟩ := zm5 kid2
          refine xd [] rfl (by simp) ?_
          refine zbm za4 13 [.raw (.slice (some ⟨rbd, 0, none⟩) ks.length c)] rfl rfl (fun _ => hraw) rfl rfl (by simp) ?_
          refine xg [] rfl (by simp) ?_
          refine zbm za4 13 [.raw (.slice (some ⟨rbd, 0, none⟩) ks.length c)] rfl rfl (fun _ => hraw) rfl rfl (by simp) ?_
          refine xg [] rfl (by simp) ?_
          refine zda za4 rfl rfl (fun _ => ⟨by simp, by simpa using h⟩) (by simp) ?_
          refine xg [] rfl (by simp) ?_
          refine zbm za4 13 [.imm (.int .i64 ko), .imm (.int .i64 kn2), .imm (.str kx), .imm (.sl (zdb kks)), .imm (.sl (zce kps))] rfl rfl (fun _ => hkv) rfl rfl (by simp) ?_
          refine xg [] rfl (by simp) ?_
          refine zas (fr := []) [(7, 7)] [] rfl (by simp) IH ⟨⟨rfl, rfl, rfl⟩, trivial⟩ rfl rfl rfl rfl ?_
          refine xg [] rfl (by simp) ?_
          refine zda za4 rfl rfl (fun _ => ⟨by simp, by simpa using h⟩) (by simp) ?_
          refine zor za4 13 (zch b sk (zet rb.2.1 i (.mk ro rn rx rks rps))) rfl rfl hks ?_
          refine xg [] rfl (by simp; rfl) ?_
          refine zae (ih (i + 1, zet rb.2.1 i (.mk ro rn rx rks rps), rb.2.2) (by simp only; omega) ⟨by simp only; omega, zqm b2 hskI b7 _, zui hlike i _, fun l k hl hk => ?_, hbs9, c2, d7⟩) ⟨zcm (w64 (by omega) (by omega)), rfl, rfl, rfl, rfl, rfl, trivial⟩ ⟨rfl, rfl, rfl, rfl, rfl, rfl, trivial⟩ rfl
          simp only at hl ⊢
          rw [zgx b7, if_neg (by omega)]
          exact hother l k hl hk
        · have hyes2 : zcf (zad (.mk op n x1 kn ps1) i) nm = true := by simpa using h2
          rw [if_pos hyes2] at d7
          refine xd [] rfl (by simp) ?_
          exact zae (ih (i + 1, rb.2.1, rb.2.2) (by simp only; omega) ⟨by simp only; omega, b2, hlike, hother, hbs9, c2, d7⟩) ⟨zcm (w64 (by omega) (by omega)), rfl, rfl, rfl, rfl, rfl, trivial⟩ ⟨rfl, rfl, rfl, rfl, rfl, rfl, trivial⟩ rfl
    · simp at h
      have hi : i = ks.length := by omega
      subst hi
      simp only [Nat.sub_self, lpR] at d7
      subst d7
      obtain ⟨p1, p2, p3, p4, p5, x1, kn, ps1, hT1, hT, _⟩ := d3
      cases hT1
      subst hT
      clear ih
      refine za7 rfl ?_
      refine xd [] rfl (by simp) ?_
      refine zbm za4 13 [.imm (.int .i64 op), .imm (.int .i64 n), .imm (.str x1), .raw (.slice ad ks.length c), .raw u] rfl rfl (fun _ vs I w bs h => zkk hsk rfl h) rfl rfl (by simp) ?_
      refine xg [] rfl (by simp) ?_
      refine ze0 13 4 (dTmc (.mk op n x1 kn ps1)) rfl rfl (fun vs I J w bs h1 h2 h3 cs hc => yfd hsk rfl h1 h2 h3 cs hc) rfl ?_
      exact zaa ⟨_, rfl, tV rfl, rfl, trivial⟩
end Go.Hk

/- Plain laws of names that are chosen anew: chosen again, nothing changes; the free names are as before. -/
namespace Go.Hk
open Go.Proofs
theorem zzx (T : Tm) (ks : List Tm) (i : Int) : zad (zhy T ks) i = zad T i := by
  obtain ⟨op, n, y, k0, ps⟩ := T; rfl
theorem zv8 (T : Tm) (ks : List Tm) (i : Int) : ∀ (fl : List Str) (j : Nat), zc5 (zhy T ks) i j fl = zhy (zc5 T i j fl) ks := by
  intro fl j
  obtain ⟨op, n, y, k0, ps⟩ := T
  simp only [zhy]
  rw [zdg, zdg]
  split
  · rfl
  · split
    · split <;> rfl
    · rfl
theorem ybb (ks : List Tm) (s : Sc) : ∀ (m i : Nat) (T : Tm) (tk : List Str) (acc : List Sc), l1 m i (zhy T ks) tk s acc = (zhy (l1 m i T tk s acc).1 ks, (l1 m i T tk s acc).2.1, (l1 m i T tk s acc).2.2)
  | 0, i, T, tk, acc => rfl
  | m + 1, i, T, tk, acc => by
    simp only [l1, zl9, zzx, zv8]
    rw [ybb ks s m (i + 1)]
theorem zyu {op n : Int} {x : Str} {ks : List Tm} {ps : List Ty} (h : za8 op n x ks.length ps.length = true) : ym5 ks.length (.mk op n x ks ps) := fun i j hi hj h1 h2 => yf9 h hi hj h1 h2
theorem zi5 : ∀ (l : List Tm) (scs : List Sc) (tk : List Str), (zc2 l scs tk).1.length = l.length
  | [], _, _ => rfl
  | k :: r, scs, tk => by simp [zc2, zi5 r]
mutual
theorem ztg : ∀ (t : Tm) (s s2 : Sc) (tk : List Str), zaj t = true → idS s2 → ze8 (ze8 t s tk).1 s2 tk = ze8 t s tk
  | .mk op n x ks ps, s, s2, tk, h, hs => by
    simp only [zaj, Bool.and_eq_true] at h
    by_cases e : op = 4
    · simp only [ze8, if_pos e]
      rw [yl8 hs]
    · obtain ⟨scs, h1, h2⟩ := ybd (K := ks.length) ks.length 0 (.mk op n x ks ps) tk s s2 [] [] (by omega) (zyu h.1.1) hs
      obtain ⟨x', ps', hsh, hpl⟩ := zls ks.length 0 (.mk op n x ks ps) tk s [] op n x ks ps rfl
      have hk := zq9 ks (l1 ks.length 0 (.mk op n x ks ps) tk s []).2.2 scs (l1 ks.length 0 (.mk op n x ks ps) tk s []).2.1 h.2 h2
      have hlen := zi5 ks (l1 ks.length 0 (.mk op n x ks ps) tk s []).2.2 (l1 ks.length 0 (.mk op n x ks ps) tk s []).2.1
      have e0 : (ze8 (.mk op n x ks ps) s tk).1 = zhy (l1 ks.length 0 (.mk op n x ks ps) tk s []).1 (zc2 ks (l1 ks.length 0 (.mk op n x ks ps) tk s []).2.2 (l1 ks.length 0 (.mk op n x ks ps) tk s []).2.1).1 := by
        simp only [ze8, if_neg e]
      have e1 : ze8 (.mk op n x ks ps) s tk = (zhy (l1 ks.length 0 (.mk op n x ks ps) tk s []).1 (zc2 ks (l1 ks.length 0 (.mk op n x ks ps) tk s []).2.2 (l1 ks.length 0 (.mk op n x ks ps) tk s []).2.1).1, (zc2 ks (l1 ks.length 0 (.mk op n x ks ps) tk s []).2.2 (l1 ks.length 0 (.mk op n x ks ps) tk s []).2.1).2) := by
        simp only [ze8, if_neg e]
      rw [e0, e1]
      generalize l1 ks.length 0 (.mk op n x ks ps) tk s [] = r at *
      obtain ⟨T1, tk1, scs1⟩ := r
      simp only at *
      subst hsh
      generalize zc2 ks scs1 tk1 = c at *
      obtain ⟨ks1, tk2⟩ := c
      simp only [zhy] at *
      simp only [ze8, if_neg e, hlen]
      have h3 := ybb ks1 s2 ks.length 0 (.mk op n x' ks ps') tk []
      simp only [zhy] at h3
      rw [h3, h1]
      simp only [List.nil_append, zhy, hk]
theorem zq9 : ∀ (l : List Tm) (scs scs2 : List Sc) (tk : List Str), zar l = true → (∀ sc ∈ scs2, idS sc) → zc2 (zc2 l scs tk).1 scs2 tk = zc2 l scs tk
  | [], scs, scs2, tk, _, _ => rfl
  | k :: r, scs, scs2, tk, h, hs => by
    simp only [zar, Bool.and_eq_true] at h
    have hh : idS (scs2.headD []) := by
      cases scs2 with
      | nil => intro p hp; cases hp
      | cons a q => exact hs a (by simp)
    simp only [zc2]
    rw [ztg k (scs.headD []) (scs2.headD []) tk h.1 hh, zq9 r scs.tail scs2.tail _ h.2 fun sc hsc => hs sc (List.mem_of_mem_tail hsc)]
end
theorem zum (t : Tm) (y : Str) : ∀ (ks : List Tm) (i : Nat), yg2 t i ks y ↔ ∃ k c, ks[k]? = some c ∧ inT c y ∧ zcf (zn9 t ((i + k : Nat) : Int)) y = false
  | [], i => by simp [yg2]
  | a :: r, i => by
    simp only [yg2]
    rw [zum t y r (i + 1)]
    constructor
    · rintro (⟨h1, h2⟩ | ⟨k, c, h1, h2, h3⟩)
      · exact ⟨0, a, rfl, h1, h2⟩
      · exact ⟨k + 1, c, h1, h2, by rw [show i + (k + 1) = i + 1 + k from by omega]; exact h3⟩
    · rintro ⟨k, c, h1, h2, h3⟩
      cases k with
      | zero => simp at h1; subst h1; exact .inl ⟨h2, h3⟩
      | succ k => exact .inr ⟨k, c, by simpa using h1, h2, by rw [show i + 1 + k = i + (k + 1) from by omega]; exact h3⟩
theorem zue {a b : List Str} {s : Sc} {y : Str} (hl : a.length = b.length) : (y ∈ a → (zdz ((a.zip b).reverse ++ s) y).getD y ∈ b) ∧ (y ∉ a → zdz ((a.zip b).reverse ++ s) y = zdz s y) := by
  have key : ∀ (l : List (Str × Str)), ((∃ p ∈ l, p.1 = y) → ∃ p ∈ l, p.1 = y ∧ zdz (l ++ s) y = some p.2) ∧ ((∀ p ∈ l, p.1 ≠ y) → zdz (l ++ s) y = zdz s y) := by
    intro l
    induction l with
    | nil => simp
    | cons p r ih =>
      obtain ⟨u, v⟩ := p
      refine ⟨fun h => ?_, fun h => ?_⟩
      · by_cases e : u = y
        · exact ⟨(u, v), by simp, e, by simp [zdz, e]⟩
        · obtain ⟨q, hq, he⟩ := h
          rcases List.mem_cons.1 hq with rfl | hq
          · exact absurd he e
          · obtain ⟨p, h1, h2, h3⟩ := ih.1 ⟨q, hq, he⟩
            refine ⟨p, by simp [h1], h2, ?_⟩
            simp only [List.cons_append, zdz]
            rw [if_neg (by simpa using e), h3]
      · have e : u ≠ y := h (u, v) (by simp)
        simp only [List.cons_append, zdz]
        rw [if_neg (by simpa using e)]
        exact ih.2 fun q hq => h q (by simp [hq])
  refine ⟨fun h => ?_, fun h => ?_⟩
  · obtain ⟨i, hi⟩ := List.getElem?_of_mem h
    have hlt : i < b.length := by rw [← hl]; exact (List.getElem?_eq_some_iff.1 hi).1
    have hz : (y, b[i]) ∈ a.zip b := by
      refine List.mem_iff_getElem?.2 ⟨i, ?_⟩
      rw [List.getElem?_zip_eq_some]
      exact ⟨hi, by simp [hlt]⟩
    obtain ⟨p, h1, h2, h3⟩ := (key (a.zip b).reverse).1 ⟨_, List.mem_reverse.2 hz, rfl⟩
    rw [h3]
    exact (List.of_mem_zip (List.mem_reverse.1 h1)).2
  · refine (key (a.zip b).reverse).2 fun p hp e => h ?_
    rw [← e]; exact (List.of_mem_zip (List.mem_reverse.1 hp)).1
theorem l1_pre {op n : Int} {x : Str} {ks : List Tm} {ps : List Ty} (h : za8 op n x ks.length ps.length = true) (tk : List Str) (s : Sc) : ∃ g, (l1 ks.length 0 (.mk op n x ks ps) tk s []).2.1 = tk ++ g := by
  obtain ⟨_, _, ⟨g, h1, _⟩, _⟩ := zuk (K := ks.length) ks.length 0 (.mk op n x ks ps) tk s [] (by omega) (zyu h)
  exact ⟨g, h1⟩
mutual
theorem ybv : ∀ (t : Tm) (s : Sc) (tk : List Str), zaj t = true → ∃ g, (ze8 t s tk).2 = tk ++ g
  | .mk op n x ks ps, s, tk, h => by
    simp only [zaj, Bool.and_eq_true] at h
    by_cases e : op = 4
    · exact ⟨[], by simp [ze8, e]⟩
    · obtain ⟨g, h1⟩ := l1_pre h.1.1 tk s
      obtain ⟨g2, h2⟩ := zxw ks (l1 ks.length 0 (.mk op n x ks ps) tk s []).2.2 (l1 ks.length 0 (.mk op n x ks ps) tk s []).2.1 h.2
      refine ⟨g ++ g2, ?_⟩
      simp only [ze8, if_neg e]
      rw [h2, h1, List.append_assoc]
theorem zxw : ∀ (l : List Tm) (scs : List Sc) (tk : List Str), zar l = true → ∃ g, (zc2 l scs tk).2 = tk ++ g
  | [], scs, tk, _ => ⟨[], by simp [zc2]⟩
  | k :: r, scs, tk, h => by
    simp only [zar, Bool.and_eq_true] at h
    obtain ⟨g, h1⟩ := ybv k (scs.headD []) tk h.1
    obtain ⟨g2, h2⟩ := zxw r scs.tail (ze8 k (scs.headD []) tk).2 h.2
    exact ⟨g ++ g2, by simp only [zc2]; rw [h2, h1, List.append_assoc]⟩
end
theorem zkx {op n : Int} {x : Str} {ks : List Tm} {ps : List Ty} (h : ps.all zcl = true) (i : Int) : zn9 (.mk op n x ks ps) i = zad (.mk op n x ks ps) i := by
  rw [zrf]
  intro p hp
  have := List.all_eq_true.1 h p hp
  simp only [zcl, Bool.and_eq_true] at this
  exact this.1.2
theorem zs4 {l : List Str} {y : Str} : zcf l y = false ↔ y ∉ l := by
  rw [← zdw]; simp
def yid (s : Sc) (y : Str) : Str := (zdz s y).getD y
mutual
theorem yhv : ∀ (t : Tm) (s : Sc) (tk : List Str), zaj t = true → zhr s → tk.length + zwr t ≤ 700 → (∀ y, inT t y → yid s y ∈ tk) → ∀ z, inT (ze8 t s tk).1 z ↔ ∃ y, inT t y ∧ yid s y = z
  | .mk op n x ks ps, s, tk, h, hv, hb, hin, z => by
    have h0 := h
    simp only [zaj, Bool.and_eq_true] at h
    by_cases e : op = 4
    · simp only [ze8, if_pos e, inT, yid]
      constructor
      · intro hz; exact ⟨x, rfl, hz.symm⟩
      · rintro ⟨y, rfl, hz⟩; exact hz.symm
    · obtain ⟨_, a2, ⟨g, a3, a4⟩, a5, a6⟩ := zuk (K := ks.length) ks.length 0 (.mk op n x ks ps) tk s [] (by omega) (zyu h.1.1)
      simp only [zwr, if_neg e] at hb
      have a5 := a5 (by omega)
      obtain ⟨x', ps', hsh, hpl⟩ := zls ks.length 0 (.mk op n x ks ps) tk s [] op n x ks ps rfl
      have hln := (ybc ks.length 0 (.mk op n x ks ps) tk s []).1
      obtain ⟨g1, g2⟩ := zy4 ks.length 0 (.mk op n x ks ps) tk s [] ⟨h.1.1, h.1.2⟩ hv (by simp) (by omega)
      have e1 : (ze8 (.mk op n x ks ps) s tk).1 = zhy (l1 ks.length 0 (.mk op n x ks ps) tk s []).1 (zc2 ks (l1 ks.length 0 (.mk op n x ks ps) tk s []).2.2 (l1 ks.length 0 (.mk op n x ks ps) tk s []).2.1).1 := by
        simp only [ze8, if_neg e]
      rw [e1]
      have hin' : ∀ y, (∃ (k : Nat) (c : Tm), ks[k]? = some c ∧ inT c y ∧ y ∉ zad (.mk op n x ks ps) (k : Int)) → yid s y ∈ tk := by
        rintro y ⟨k, c, h1, h2, h3⟩
        refine hin y ?_
        simp only [inT, if_neg e, zum]
        refine ⟨k, c, h1, h2, ?_⟩
        rw [zkx h.1.2, Nat.zero_add, zs4]; exact h3
      have hks := ybw ks (l1 ks.length 0 (.mk op n x ks ps) tk s []).2.2 (l1 ks.length 0 (.mk op n x ks ps) tk s []).2.1 h.2 g2 (by omega)
      have hfull := zm9 (.mk op n x ks ps) s tk h0 hv (by simp only [zwr, if_neg e]; omega)
      rw [e1] at hfull
      generalize hr : l1 ks.length 0 (.mk op n x ks ps) tk s [] = r at *
      obtain ⟨T1, tk1, scs⟩ := r
      simp only at *
      have hsc : ∀ k, k < ks.length → scs[k]? = some (((zad (.mk op n x ks ps) (k : Int)).zip (zad T1 (k : Int))).reverse ++ s) := by
        intro k hk
        rw [a6, List.nil_append, List.getElem?_map, List.getElem?_range' hk]; simp
      have hks := hks fun k c hc y hy => by
        have hk := (List.getElem?_eq_some_iff.1 hc).1
        rw [hsc k hk, a3]
        obtain ⟨z1, z2⟩ := zue (s := s) (y := y) (a := zad (.mk op n x ks ps) (k : Int)) (b := zad T1 (k : Int)) (a2 k (by omega) (by omega)).symm
        simp only [yid, Option.getD_some]
        by_cases hm : y ∈ zad (.mk op n x ks ps) (k : Int)
        · exact List.mem_append_right _ (a4 k (by omega) (by omega) _ (z1 hm))
        · rw [z2 hm]
          exact List.mem_append_left _ (hin' y ⟨k, c, hc, hy, hm⟩)
      subst hsh
      simp only [zhy, inT, if_neg e, zum]
      simp only [zhy, zaj, Bool.and_eq_true] at hfull
      have hb1 : ∀ k : Nat, zn9 (.mk op n x' (zc2 ks scs tk1).1 ps') ((0 + k : Nat) : Int) = zad (.mk op n x' ks ps') (k : Int) := fun k => by
        rw [zkx hfull.1.1.2, Nat.zero_add]; rfl
      have hb2 : ∀ k : Nat, zn9 (.mk op n x ks ps) ((0 + k : Nat) : Int) = zad (.mk op n x ks ps) (k : Int) := fun k => by
        rw [zkx h.1.2, Nat.zero_add]
      simp only [hb1, hb2, zs4]
      constructor
      · rintro ⟨k, c', h1, h2, h3⟩
        have hk : k < ks.length := by
          have := (List.getElem?_eq_some_iff.1 h1).1
          rwa [zi5] at this
        obtain ⟨c'', q1, q2⟩ := hks k ks[k] (by simp [hk])
        rw [h1] at q1; cases q1
        obtain ⟨y, y1, y2⟩ := (q2 z).1 h2
        rw [hsc k hk] at y2
        obtain ⟨z1, z2⟩ := zue (s := s) (y := y) (a := zad (.mk op n x ks ps) (k : Int)) (b := zad (.mk op n x' ks ps') (k : Int)) (a2 k (by omega) (by omega)).symm
        simp only [yid, Option.getD_some] at y2
        have hm : y ∉ zad (.mk op n x ks ps) (k : Int) := fun hm => h3 (by rw [← y2]; exact z1 hm)
        rw [z2 hm] at y2
        exact ⟨y, ⟨k, ks[k], by simp [hk], y1, hm⟩, y2⟩
      · rintro ⟨y, ⟨k, c, h1, h2, h3⟩, h4⟩
        have hk := (List.getElem?_eq_some_iff.1 h1).1
        obtain ⟨c', q1, q2⟩ := hks k c h1
        refine ⟨k, c', q1, (q2 z).2 ⟨y, h2, ?_⟩, fun hm => ?_⟩
        · rw [hsc k hk]
          obtain ⟨z1, z2⟩ := zue (s := s) (y := y) (a := zad (.mk op n x ks ps) (k : Int)) (b := zad (.mk op n x' ks ps') (k : Int)) (a2 k (by omega) (by omega)).symm
          simp only [yid, Option.getD_some]
          rw [z2 h3]; exact h4
        · exact a5 k (by omega) (by omega) z hm (by rw [← h4]; exact hin' y ⟨k, c, h1, h2, h3⟩)
theorem ybw : ∀ (l : List Tm) (scs : List Sc) (tk : List Str), zar l = true → (∀ sc ∈ scs, zhr sc) → tk.length + zkn l ≤ 700 → (∀ (k : Nat) (c : Tm), l[k]? = some c → ∀ y, inT c y → yid (scs[k]?.getD []) y ∈ tk) →
    ∀ (k : Nat) (c : Tm), l[k]? = some c → ∃ c', (zc2 l scs tk).1[k]? = some c' ∧ ∀ z, inT c' z ↔ ∃ y, inT c y ∧ yid (scs[k]?.getD []) y = z
  | [], scs, tk, _, _, _, _, k, c, hc => by simp at hc
  | a :: r, scs, tk, h, hv, hb, hin, k, c, hc => by
    simp only [zar, Bool.and_eq_true] at h
    simp only [zkn] at hb
    have hh : scs.headD [] = scs[0]?.getD [] := by cases scs <;> rfl
    have ht : ∀ k : Nat, scs.tail[k]?.getD [] = scs[k + 1]?.getD [] := fun k => by cases scs <;> simp
    have hv0 : zhr (scs.headD []) := by
      cases scs with
      | nil => intro p hp; cases hp
      | cons b q => exact hv b (by simp)
    have hl := zow a (scs.headD []) tk
    obtain ⟨g, hg⟩ := ybv a (scs.headD []) tk h.1
    cases k with
    | zero =>
      simp at hc; subst hc
      refine ⟨_, rfl, fun z => ?_⟩
      rw [← hh]
      exact yhv a (scs.headD []) tk h.1 hv0 (by omega) (fun y hy => by rw [hh]; exact hin 0 a rfl y hy) z
    | succ k =>
      obtain ⟨c', q1, q2⟩ := ybw r scs.tail (ze8 a (scs.headD []) tk).2 h.2 (fun sc hsc => hv sc (List.mem_of_mem_tail hsc)) (by omega)
        (fun k c hc y hy => by rw [ht, hg]; exact List.mem_append_left _ (hin (k + 1) c (by simpa using hc) y hy)) k c (by simpa using hc)
      exact ⟨c', by simpa [zc2] using q1, fun z => by rw [q2 z, ht]⟩
end
end Go.Hk

/- Plain laws of what replacer.in computes: form. -/
namespace Go.Hk
open Go.Proofs
theorem yck {l : List Str} {j : Nat} {f : Str} (h : l.Nodup) (hf : f ∉ l) : (l.set j f).Nodup := by
  induction l generalizing j with
  | nil => simp
  | cons a r ih =>
    obtain ⟨h1, h2⟩ := List.nodup_cons.1 h
    cases j with
    | zero => exact List.nodup_cons.2 ⟨fun hm => hf (by simp [hm]), h2⟩
    | succ j =>
      refine List.nodup_cons.2 ⟨fun hm => ?_, ih h2 fun hm => hf (by simp [hm])⟩
      rcases List.mem_or_eq_of_mem_set hm with hm | hm
      · exact h1 hm
      · exact hf (by simp [hm])
theorem yf6 {p : Ty} {j : Nat} {f : Str} (h : zcl p = true) (hf : zcp f = true) (hn : f ∉ za5 p) : zcl (zdx p j f) = true := by
  simp only [zcl, Bool.and_eq_true, decide_eq_true_eq] at h ⊢
  obtain ⟨a, b⟩ := zt0 p j f hf h.1.2
  refine ⟨⟨by rw [b]; exact h.1.1, a⟩, ?_⟩
  rw [← zii _ a, zku]
  have e : (zck (zdx p j f)).map zgh = (za5 p).set j f := zgm p j f
  rw [e]
  refine yck ?_ hn
  have := h.2
  rw [← zii _ h.1.2, zku] at this
  exact this
def zh0 : Tm → Nat
  | .mk _ _ _ ks _ => ks.length
theorem zyw {T : Tm} {i j : Nat} {f : Str} (h : zaj T = true) (hf : zcp f = true) (hn : f ∉ zad T i) : zaj (zeu T i j f) = true := by
  obtain ⟨op, n, x, ks, ps⟩ := T
  simp only [zaj, Bool.and_eq_true] at h
  simp only [zad] at hn
  simp only [zeu]
  by_cases h1 : zbp op i = true
  · rw [if_pos h1]
    simp only [zaj, Bool.and_eq_true]
    exact ⟨⟨zon (.inl h1) h.1.1 hf, h.1.2⟩, h.2⟩
  · rw [if_neg h1]
    by_cases h2 : zca op i = true
    · rw [if_pos h2]
      rw [if_neg h1, if_pos h2] at hn
      cases hp : ps[((i : Int) - 1).toNat]? with
      | none => simp only [zaj, Bool.and_eq_true]; exact h
      | some p =>
        simp only [hp] at hn
        simp only [zaj, Bool.and_eq_true, List.length_set]
        refine ⟨⟨h.1.1, ?_⟩, h.2⟩
        rw [List.all_eq_true]
        intro q hq
        rcases List.mem_or_eq_of_mem_set hq with hq | hq
        · exact List.all_eq_true.1 h.1.2 q hq
        · rw [hq]; exact yf6 (List.all_eq_true.1 h.1.2 p (List.mem_of_getElem? hp)) hf hn
    · rw [if_neg h2]; simp only [zaj, Bool.and_eq_true]; exact h
theorem zsr {T k : Tm} {i : Nat} (h : zaj T = true) (hk : zaj k = true) : zaj (zet T i k) = true := by
  obtain ⟨op, n, x, ks, ps⟩ := T
  simp only [zet, zaj, Bool.and_eq_true, List.length_set] at h ⊢
  exact ⟨h.1, znu h.2 hk⟩
theorem zws {T k : Tm} {i : Nat} (h : zaj T = true) (hk : tmK T i = some k) : zaj k = true := by
  obtain ⟨op, n, x, ks, ps⟩ := T
  simp only [zaj, Bool.and_eq_true] at h
  exact zil h.2 hk
theorem zzy {T : Tm} {i l j : Nat} {f : Str} (h : zaj T = true) (hi : i < zh0 T) (hl : l < zh0 T) (hne : l ≠ i) : zad (zeu T i j f) l = zad T l := by
  obtain ⟨op, n, x, ks, ps⟩ := T
  simp only [zaj, Bool.and_eq_true] at h
  simp only [zh0] at hi hl
  simp only [zeu]
  by_cases h1 : zbp op i = true
  · have h3 : ¬ zbp op l = true := fun h3 => hne (yf9 h.1.1 hl hi h3 h1)
    rw [if_pos h1]
    simp only [zad, if_neg h3]
  · rw [if_neg h1]
    by_cases h2 : zca op i = true
    · rw [if_pos h2]
      cases hp : ps[((i : Int) - 1).toNat]? with
      | none => rfl
      | some p =>
        simp only [zad]
        by_cases h3 : zbp op l = true
        · rw [if_pos h3, if_pos h3]
        · rw [if_neg h3, if_neg h3]
          by_cases h4 : zca op l = true
          · rw [if_pos h4, if_pos h4]
            have : ((i : Int) - 1).toNat ≠ ((l : Int) - 1).toNat := by
              simp only [zca, Bool.and_eq_true, decide_eq_true_eq] at h2 h4
              omega
            rw [List.getElem?_set_ne this]
          · rw [if_neg h4, if_neg h4]
    · rw [if_neg h2]
theorem yjm (T : Tm) (i : Int) (j : Nat) (f : Str) : zh0 (zeu T i j f) = zh0 T := by
  obtain ⟨op, n, x, ks, ps⟩ := T
  obtain ⟨y', ps', h, _⟩ := zla op n x ks ps i j f
  rw [h]; rfl
theorem zqa (T : Tm) (i : Nat) (k : Tm) : zh0 (zet T i k) = zh0 T := by
  obtain ⟨op, n, x, ks, ps⟩ := T
  simp [zet, zh0]
theorem yae {T : Tm} {i : Nat} (h : i < zh0 T) : ∃ k, tmK T i = some k := by
  obtain ⟨op, n, x, ks, ps⟩ := T
  exact zan h
theorem zwi {fr : List Str} {i : Nat} {T : Tm} {m : List Str} (hn : zaj T = true) (hi : i < zh0 T) (hsub : ∀ s ∈ zad T i, s ∈ m) (hml : m.length + (zad T i).length ≤ 699) : ∀ j, j ≤ (zad T i).length →
    (zgl fr i T m j).1 = j ∧ zaj (zgl fr i T m j).2.1 = true ∧ (∀ s ∈ zad (zgl fr i T m j).2.1 i, s ∈ (zgl fr i T m j).2.2) ∧ (∀ l, l < zh0 T → l ≠ i → zad (zgl fr i T m j).2.1 l = zad T l) ∧ (∀ s ∈ m, s ∈ (zgl fr i T m j).2.2) ∧
      (zgl fr i T m j).2.2.length ≤ m.length + j ∧ zh0 (zgl fr i T m j).2.1 = zh0 T ∧ (zad (zgl fr i T m j).2.1 i).length = (zad T i).length ∧ (∀ l, j ≤ l → (zad (zgl fr i T m j).2.1 i)[l]? = (zad T i)[l]?) ∧ (∀ l, l ≠ i → tmK (zgl fr i T m j).2.1 l = tmK T l) ∧ zp8 T (zgl fr i T m j).2.1 ∧ (∀ k, tmK T i = some k → ∃ k', tmK (zgl fr i T m j).2.1 i = some k' ∧ zdr k' = zdr k)
  | 0, _ => ⟨rfl, hn, hsub, fun _ _ _ => rfl, fun _ h => h, by simp [zgl], rfl, rfl, fun _ _ => rfl, fun _ _ => rfl, zmu T, fun k hk => ⟨k, hk, rfl⟩⟩
  | j + 1, hj => by
    obtain ⟨h1, h2, h3, h4, h5, h6, h7, h8, h9, h10, h11, h12⟩ := zwi (fr := fr) hn hi hsub hml j (by omega)
    obtain ⟨x, hx⟩ := zan (show j < (zad T i).length by omega)
    rw [zle hx]
    generalize zgl fr i T m j = r at *
    obtain ⟨r1, rT, rm⟩ := r
    simp only at h1 h2 h3 h4 h5 h6 h7 h8 h9 h10 h11 h12
    subst h1
    simp only [zkh]
    by_cases hx2 : zcf fr x = true
    · rw [if_pos hx2]
      obtain ⟨q1, q2⟩ := zf9 rm (by omega)
      obtain ⟨k, hk⟩ := yae (show i < zh0 rT by omega)
      have hkn := zws h2 hk
      have hKn : zaj (zet rT i (zk2 ((tmK rT i).getD zTm) x (zbc rm))) = true := zsr h2 (by rw [hk]; exact zpv _ _ q1 _ hkn)
      have hlt : r1 < (zad (zet rT i (zk2 ((tmK rT i).getD zTm) x (zbc rm))) i).length := by rw [zc3, h8]; omega
      refine ⟨rfl, zyw hKn q1 (by rw [zc3]; exact fun hm => q2 (h3 _ hm)), fun s hs => ?_, fun l hl hne => ?_, fun s hs => List.mem_append_left _ (h5 s hs), by simp only [List.length_append, List.length_singleton]; omega, ?_, ?_, fun l hl => ?_, fun l hl => ?_, yba (zui h11 i _) _ _ _, fun k1 hk1 => ?_⟩
      · rw [zl7 _ hlt, zc3] at hs
        rcases List.mem_or_eq_of_mem_set hs with hs | hs
        · exact List.mem_append_left _ (h3 s hs)
        · exact List.mem_append_right _ (by rw [hs]; simp)
      · rw [zzy hKn (by rw [zqa]; omega) (by rw [zqa]; omega) hne, zc3, h4 l hl hne]
      · rw [yjm, zqa, h7]
      · rw [zfh, zc3, h8]
      · rw [zl7 _ hlt, List.getElem?_set_ne (by omega), zc3, h9 l (by omega)]
      · rw [zh7, zgx hk, if_neg hl, h10 l hl]
      · obtain ⟨k2, e1, e2⟩ := h12 k1 hk1
        rw [hk] at e1; cases e1
        exact ⟨zk2 k x (zbc rm), by rw [zh7, zgx hk, if_pos rfl, hk]; rfl, by rw [zou, e2]⟩
    · rw [if_neg hx2]
      exact ⟨rfl, h2, h3, h4, h5, by simp only; omega, h7, h8, fun l hl => h9 l (by omega), h10, h11, h12⟩
theorem zp1 {rec : Tm → Tm} {nm : Str} {fr : List Str} {C : Nat} (hrec : ∀ k, zaj k = true → zdr k ≤ C → zaj (rec k) = true) : ∀ (k i : Nat) (T : Tm) (m : List Str), zaj T = true → i + k = zh0 T → (∀ l, l < zh0 T → i ≤ l → ∀ s ∈ zad T l, s ∈ m) → m.length + zkw T k i ≤ 699 → (∀ l k, i ≤ l → tmK T l = some k → zdr k ≤ C) → zaj (lpR rec nm fr k i T m) = true
  | 0, i, T, m, hn, _, _, _, _ => hn
  | k + 1, i, T, m, hn, hlen, hsub, hml, hC => by
    simp only [zkw] at hml
    obtain ⟨_, a2, a3, a4, a5, a6, a7, a8, _, a10, a11, a12⟩ := zwi (fr := fr) hn (by omega) (hsub i (by omega) (Nat.le_refl _)) (by omega) _ (Nat.le_refl _)
    rw [yar] at a2 a3 a4 a5 a6 a7 a8 a10 a11 a12
    simp only [lpR]
    generalize ylb fr i T m = r at *
    obtain ⟨r1, rT, rm⟩ := r
    simp only at *
    obtain ⟨k0, hk0⟩ := yae (show i < zh0 T by omega)
    obtain ⟨kk, hkk, hcn⟩ := a12 k0 hk0
    have hCk := hC i k0 (Nat.le_refl _) hk0
    have hc : ∀ U, (∀ l : Int, zad U l = zad rT l) → zkw U k (i + 1) = zkw T k (i + 1) := fun U hU => zgu (fun l => by
      obtain ⟨_, _, _, _, _, _, _, _, _, _, _, _, hb⟩ := a11
      rw [hU]; exact hb l) k (i + 1)
    split
    · exact zp1 hrec k (i + 1) rT rm a2 (by omega) (fun l hl hl2 s hs => by rw [a4 l (by omega) (by omega)] at hs; exact a5 s (hsub l (by omega) (by omega) s hs)) (by rw [hc _ fun _ => rfl]; omega) (fun l k hl hk => hC l k (by omega) (by rw [← a10 l (by omega)]; exact hk))
    · refine zp1 hrec k (i + 1) _ rm (zsr a2 (by rw [hkk]; exact hrec kk (zws a2 hkk) (by omega))) (by rw [zqa]; omega) (fun l hl hl2 s hs => ?_) (by rw [hc _ fun l => zc3 rT i _ l]; omega) (fun l k hl hk => ?_)
      rw [zqa] at hl
      rw [zc3, a4 l (by omega) (by omega)] at hs
      exact a5 s (hsub l (by omega) (by omega) s hs)
      rw [zgx hkk, if_neg (by omega), a10 l (by omega)] at hk
      exact hC l k (by omega) hk
theorem zk7 {T : Tm} : ∀ (i : Nat) (ks : List Tm) (l : Nat), l < ks.length → ∀ s ∈ zad T ((i + l : Nat) : Int), s ∈ ze3 T i ks
  | i, [], l, hl, s, hs => by simp at hl
  | i, k :: r, 0, hl, s, hs => by simp only [ze3, List.mem_append]; exact .inl (.inl hs)
  | i, k :: r, l + 1, hl, s, hs => by
    simp only [ze3, List.mem_append]
    refine .inr (zk7 (i + 1) r l (by simpa using hl) s ?_)
    rw [show i + 1 + l = i + (l + 1) by omega]; exact hs
mutual
theorem zr9 : ∀ t : Tm, (zh9 t).length = yl2 t
  | .mk op n x ks ps => by
    simp only [zh9, yl2, List.length_append, zpb]
    split <;> rfl
theorem zpb (T : Tm) : ∀ (i : Nat) (l : List Tm), (ze3 T i l).length = zrv T i l
  | _, [] => rfl
  | i, k :: r => by simp only [ze3, zrv, List.length_append, zr9 k, zpb T (i + 1) r]
end
theorem yim {op n : Int} {x : Str} {ks : List Tm} {ps : List Ty} (hn : zaj (.mk op n x ks ps) = true) (h60 : zdr (.mk op n x ks ps) ≤ 60) {nm : Str} {fr : List Str} (hfl : fr.length ≤ 60) : (nm :: fr ++ zh9 (.mk op n x ks ps)).length + zkw (.mk op n x ks ps) ks.length 0 ≤ 699 := by
  have hnm := hn
  simp only [zaj, Bool.and_eq_true] at hnm
  have hK6 := zsu hnm.1.1
  have hocc := zyv (.mk op n x ks ps) hn
  have hbnd := ykg (op := op) (n := n) (x := x) (ks := ks) hnm.1.2 ks.length 0
  simp only [List.length_append, List.length_cons, zr9]
  omega
theorem zwf {nm : Str} {by' : Tm} {fr : List Str} (hb : zaj by' = true) (hfl : fr.length ≤ 60) : ∀ (N : Nat) (t : Tm), zdr t ≤ 60 → zaj t = true → zaj (rpl nm by' fr N t) = true
  | 0, t, _, hn => hn
  | N + 1, .mk op n x ks ps, h60, hn => by
    rw [rpl]
    split
    · split
      · exact hb
      · have hnm := hn
        simp only [zaj, Bool.and_eq_true] at hnm
        refine zp1 (C := 60) (fun k hk hc => zwf hb hfl N k hc hk) ks.length 0 _ _ hn (by simp [zh0]) (fun l hl _ s hs => ?_) (yim hn h60 hfl) fun l k _ hk => ?_
        · refine List.mem_append_right _ ?_
          simp only [zh9, List.mem_append]
          exact .inr (zk7 0 ks l hl s (by simpa using hs))
        · have := zi4 (l := ks) (i := l) (k := k) hk
          simp only [zdr] at h60
          omega
    · exact hn
end Go.Hk

/- Contract of Subst: a term with another one in place of a name, or the error. -/
namespace Go.Hk
open Go.Proofs
def znh (t : Tm) (nm : Str) (by' : Tm) : Tm := rpl nm by' (zdt by' [] []) 60 t
def yln (t : Tm) (nm : Str) (by' : Tm) : Tm × Int := bif za9 t && zcp nm && za9 by' then (bif za9 (znh t nm by') then (znh t nm by', 0) else (zTm, 3)) else (zTm, 2)
theorem zs6 {t : Tm} (h : za9 t = true) : (zdt t [] []).length ≤ 60 ∧ ∀ s ∈ zdt t [] [], s.length ≤ 8 := by
  obtain ⟨h1, _, _, h4⟩ := zcu t h
  refine ⟨by have := ziz t [] []; simp at this; omega, fun s hs => ?_⟩
  simp only [za9, Bool.and_eq_true] at h
  rcases zhc t [] [] h.2 s hs with h | h
  · cases h
  · exact h
theorem zye {t : Tm} {nm : Str} {by' : Tm} (ht : za9 t = true) (hb : za9 by' = true) : zaj (znh t nm by') = true := by
  have h60 := (zcu t ht).2.2.2
  have hfl := (zs6 hb).1
  simp only [za9, Bool.and_eq_true] at ht hb
  exact zwf hb.2 hfl 60 t h60 ht.2
set_option maxRecDepth 100000 in
theorem ykm (t : Tm) (nm : Str) (by' : Tm) (ht : zee t = za9 t) (hb : zee by' = za9 by') : zax Tryz.prog 9 [.agg (dTmc t), .str nm, .agg (dTmc by')] (.tup [.agg (dTmc (yln t nm by').1), .int .i64 (yln t nm by').2]) := by
  refine zaf za4 Tryz.func9 (by decide +kernel) rfl [1, 2, 3, 4, 5, 6, 7, 8, 9] rfl rfl ?_
  refine xg [] rfl (by simp) ?_
  refine zac rfl (fun _ => zfj t) (by simp) ?_
  rw [ht]
  refine xg [] rfl (by simp [zai]) ?_
  refine zac rfl (fun _ => ze9 nm) (by simp [zai]) ?_
  refine xg [] rfl (by simp [zai]) ?_
  refine zac rfl (fun _ => zfj by') (by simp [zai]) ?_
  rw [hb]
  refine xg [] rfl (by simp [zai]) ?_
  cases h1 : za9 t && zcp nm && za9 by' with
  | false =>
    refine zab rfl (fun h => ?_) (fun h => ?_)
    · refine xd [] rfl (by simp) ?_
      rw [show yln t nm by' = (zTm, 2) by simp only [yln, h1, cond_false]]
      exact zaa ⟨_, rfl, tV rfl, trivial⟩
    · exfalso
      cases e1 : za9 t <;> cases e2 : zcp nm <;> cases e3 : za9 by' <;> simp [e1, e2, e3, zzh] at h h1
  | true =>
    simp only [Bool.and_eq_true] at h1
    obtain ⟨⟨e1, e2⟩, e3⟩ := h1
    rw [e1, e2, e3]
    refine zab rfl (fun h => by simp [zzh] at h) (fun h => ?_)
    clear h
    obtain ⟨f1, f2, f3, f4⟩ := zcu by' e3
    obtain ⟨g1, g2⟩ := zs6 e3
    have h60 := (zcu t e1).2.2.2
    have htn : zaj t = true := by simp only [za9, Bool.and_eq_true] at e1; exact e1.2
    have hS := yfk nm by' (zdt by' [] []) (zej e3) g1 (fun s hs => by
      rcases List.mem_cons.1 hs with h | h
      · rw [h]; exact zpx e2
      · exact g2 s h) 60 t h60 htn h60
    have hso := zq6 (zye (nm := nm) e1 e3)
    have hco := zfj (znh t nm by')
    rw [hso] at hco
    have esub : znh t nm by' = rpl nm by' (zdt by' [] []) 60 t := rfl
    obtain ⟨bo, bn, bx, bks, bps⟩ := by'
    refine xd [] rfl (by simp) ?_
    refine ziw rfl ?_
    refine xg [] rfl (by simp) ?_
    refine zas (fr := []) [(4, 1)] [] rfl (by simp) (zqj (.mk bo bn bx bks bps) [] [] f2) ⟨⟨rfl, rfl, rfl⟩, trivial⟩ rfl rfl rfl rfl ?_
    refine xg [] rfl (by simp) ?_
    rw [← esub] at hS
    have eR : yln t nm (.mk bo bn bx bks bps) = bif za9 (znh t nm (.mk bo bn bx bks bps)) then (znh t nm (.mk bo bn bx bks bps), 0) else (zTm, 3) := by simp only [yln, e1, e2, e3, Bool.and_self, cond_true]
    rw [eR]
    generalize znh t nm (.mk bo bn bx bks bps) = r at *
    obtain ⟨ro, rn, rx, rks, rps⟩ := r
    refine zas (fr := []) [(4, 7)] [] rfl (by simp) hS ⟨⟨rfl, rfl, rfl⟩, trivial⟩ rfl rfl rfl rfl ?_
    refine xg [] rfl (by simp) ?_
    refine zac rfl (fun _ => hco) (by simp) ?_
    refine xg [] rfl (by simp) ?_
    cases hr : za9 (.mk ro rn rx rks rps) with
    | false =>
      refine zab rfl (fun h => ?_) (fun h => by simp at h)
      refine xd [] rfl (by simp) ?_
      exact zaa ⟨_, rfl, tV rfl, trivial⟩
    | true =>
      refine zab rfl (fun h => by simp at h) (fun h => ?_)
      refine xd [] rfl (by simp) ?_
      exact zaa ⟨_, rfl, tV rfl, trivial⟩
end Go.Hk

/- Contracts of Canon and Alike; plain facts of what canon computes. -/
namespace Go.Hk
open Go.Proofs
theorem ydx {t : Tm} (h : za9 t = true) : zaj (zhv t) = true ∧ zdr (zhv t) = zdr t ∧ dpT (zhv t) = dpT t := by
  have hb := zkv h
  have hn : zaj t = true := by simp only [za9, Bool.and_eq_true] at h; exact h.2
  exact zm9 t [] (zel t) hn (by intro p hp; cases hp) (by omega)
theorem zq7 {t : Tm} (h : za9 t = true) : za9 (zhv t) = true := by
  obtain ⟨h1, h2, h3⟩ := ydx h
  rw [yeq] at h ⊢
  exact ⟨h1, by rw [h2]; exact h.2.1, by rw [h3]; exact h.2.2⟩
theorem zxv {t : Tm} (h : za9 t = true) : zel (zhv t) = zel t := by
  have hb := zkv h
  have hn : zaj t = true := by simp only [za9, Bool.and_eq_true] at h; exact h.2
  refine zg0 _ _ (zid _) (zid _) fun z => ?_
  rw [zlf, zlf]
  have := yhv t [] (zel t) hn (by intro p hp; cases hp) (by omega) (fun y hy => (zlf t y).2 hy) z
  rw [zhv, this]
  simp [yid, zdz]
theorem zth {t : Tm} (h : za9 t = true) : zhv (zhv t) = zhv t := by
  have hn : zaj t = true := by simp only [za9, Bool.and_eq_true] at h; exact h.2
  have e := zxv h
  have : zhv (zhv t) = (ze8 (zhv t) [] (zel t)).1 := by rw [← e]; rfl
  rw [this]
  exact congrArg Prod.fst (ztg t [] [] (zel t) hn (by intro p hp; cases hp))
def ydy (t : Tm) : Tm × Int := bif za9 t then (zhv t, 0) else (zTm, 2)
set_option maxRecDepth 100000 in
theorem zoy (t : Tm) (h : zee t = za9 t) : zax Tryz.prog 18 [.agg (dTmc t)] (.tup [.agg (dTmc (ydy t).1), .int .i64 (ydy t).2]) := by
  refine zaf za4 Tryz.func18 (by decide +kernel) rfl [1, 2, 3] rfl rfl ?_
  refine xg [] rfl (by simp) ?_
  refine zac rfl (fun _ => zfj t) (by simp) ?_
  rw [h]
  cases ht : za9 t with
  | false =>
    refine xg [] rfl (by simp) ?_
    refine zab rfl (fun h => ?_) (fun h => by simp [zzh] at h)
    refine xd [] rfl (by simp) ?_
    rw [show ydy t = (zTm, 2) by simp [ydy, ht]]
    exact zaa ⟨_, rfl, tV rfl, trivial⟩
  | true =>
    refine xg [] rfl (by simp) ?_
    refine zab rfl (fun h => by simp [zzh] at h) (fun h => ?_)
    refine xd [] rfl (by simp) ?_
    refine zac rfl (fun _ => zu1 t ht) (by simp) ?_
    refine xg [] rfl (by simp) ?_
    rw [show ydy t = (zhv t, 0) by simp [ydy, ht]]
    exact zaa ⟨_, rfl, tV rfl, trivial⟩
def yd4 (a b : Tm) : Bool × Int := bif za9 a && za9 b then (zuu (zhv a) (zhv b), 0) else (false, 2)
set_option maxRecDepth 100000 in
theorem zvi (a b : Tm) (ha : zee a = za9 a) (hb : zee b = za9 b) : zax Tryz.prog 17 [.agg (dTmc a), .agg (dTmc b)] (.tup [.bool (yd4 a b).1, .int .i64 (yd4 a b).2]) := by
  refine zaf za4 Tryz.func17 (by decide +kernel) rfl [1, 2, 3, 4] rfl rfl ?_
  refine xg [] rfl (by simp) ?_
  refine zac rfl (fun _ => zfj a) (by simp) ?_
  rw [ha]
  refine xg [] rfl (by simp) ?_
  refine zac rfl (fun _ => zfj b) (by simp [zai]) ?_
  rw [hb]
  refine xg [] rfl (by simp [zai]) ?_
  cases hta : za9 a with
  | false =>
    refine zab rfl (fun h => ?_) (fun h => by simp [zzh] at h)
    refine xd [] rfl (by simp) ?_
    rw [show yd4 a b = (false, 2) by simp [yd4, hta]]
    exact zaa ⟨_, rfl, tV rfl, trivial⟩
  | true =>
  cases htb : za9 b with
  | false =>
    refine zab rfl (fun h => ?_) (fun h => by simp [zzh] at h)
    refine xd [] rfl (by simp) ?_
    rw [show yd4 a b = (false, 2) by simp [yd4, htb]]
    exact zaa ⟨_, rfl, tV rfl, trivial⟩
  | true =>
    refine zab rfl (fun h => by simp [zzh] at h) (fun h => ?_)
    refine xd [] rfl (by simp) ?_
    refine zac rfl (fun _ => zu1 a hta) (by simp) ?_
    refine xg [] rfl (by simp) ?_
    refine zac rfl (fun _ => zu1 b htb) (by simp) ?_
    refine xg [] rfl (by simp) ?_
    refine zac rfl (fun _ => ye5 (zhv a) (zhv b) (zej (zq7 hta))) (by simp) ?_
    refine xg [] rfl (by simp; rfl) ?_
    rw [show yd4 a b = (zuu (zhv a) (zhv b), 0) by simp [yd4, hta, htb]]
    exact zaa ⟨_, rfl, tV rfl, trivial⟩
set_option maxRecDepth 100000 in
theorem ykp (t : Tm) (h : zee t = za9 t) : zax Tryz.prog 15 [.agg (dTmc t)] (.tup [.sl (zb1 (bif za9 t then zel t else [])), .int .i64 (bif za9 t then 0 else 2)]) := by
  refine zaf zbk Tryz.func15 (by decide +kernel) rfl [1, 2, 3, 4] rfl rfl ?_
  refine fg_ [] rfl (by simp) ?_
  refine zac rfl (fun _ => zfj t) (by simp) ?_
  rw [h]
  cases ht : za9 t with
  | false =>
    refine fg_ [] rfl (by simp) ?_
    refine zab rfl (fun h => ?_) (fun h => by simp [zzh] at h)
    refine fd_ [] rfl (by simp) ?_
    exact zaa ⟨_, rfl, tV rfl, trivial⟩
  | true =>
    refine fg_ [] rfl (by simp) ?_
    refine zab rfl (fun h => by simp [zzh] at h) (fun h => ?_)
    obtain ⟨h1, h2, h3, h4⟩ := zcu t ht
    refine fd_ [] rfl (by simp) ?_
    refine ziw rfl ?_
    refine fg_ [] rfl (by simp) ?_
    refine zas (fr := []) [(2, 1)] [] rfl (by simp) (zqj t [] [] h2) ⟨⟨rfl, rfl, rfl⟩, trivial⟩ rfl rfl rfl rfl ?_
    refine fg_ [] rfl (by simp <;> rfl) ?_
    refine zas (fr := []) [(2, 1)] [] rfl (by simp) (zyh t ht) ⟨⟨rfl, rfl, rfl⟩, trivial⟩ rfl rfl rfl rfl ?_
    refine fg_ [] rfl (by simp <;> rfl) ?_
    exact zaa ⟨_, rfl, tV rfl, trivial⟩
set_option maxRecDepth 100000 in
theorem zvd (t : Tm) (h : za9 t = true) : zax Tryz.prog 15 [.agg (dTmc t)] (.tup [.sl (zb1 (zel t)), .int .i64 0]) := by
  have := ykp t (zbl h)
  rw [h] at this; simp only [cond_true] at this; exact this
end Go.Hk

/- The chapter's examples, by the contracts of what they call. -/
namespace Go.Hk
open Go.Proofs
def cS (c : Nat) : Str := [UInt8.ofNat c]
def nmT (s : Str) : Tm := .mk 4 0 s [] []
def plT (a b : Tm) : Tm := .mk 9 0 [] [a, b] []
def eT : Tm := .mk 15 0 [] [nmT (cS 97), plT (nmT (cS 98)) (nmT (cS 100))] [.mk 6 0 [67, 111, 110, 115] [.mk 2 0 (cS 98) [], .mk 2 0 (cS 99) []]]
set_option maxRecDepth 100000 in
theorem zko (s : Str) : zax Tryz.prog 27 [.str s] (.agg (dTmc (nmT s))) := by
  refine zaf za4 Tryz.func27 (by decide +kernel) rfl [1, 2, 3] rfl rfl ?_
  refine xg [] rfl (by simp) ?_
  exact zaa ⟨_, rfl, tV rfl, trivial⟩
set_option maxRecDepth 100000 in
theorem yf2 (a b : Tm) : zax Tryz.prog 26 [.agg (dTmc a), .agg (dTmc b)] (.agg (dTmc (plT a b))) := by
  refine zaf za4 Tryz.func26 (by decide +kernel) rfl [1, 2, 3] rfl rfl ?_
  obtain ⟨o, n, x, ks, ps⟩ := a
  obtain ⟨o', n', x', ks', ps'⟩ := b
  refine xg [] rfl (by simp) ?_
  exact zaa ⟨_, rfl, tV rfl, trivial⟩
set_option maxRecDepth 100000 in
theorem E_ok : zax Tryz.prog 25 [] (.agg (dTmc eT)) := by
  refine zaf za4 Tryz.func25 (by decide +kernel) rfl [1, 2, 3] rfl rfl ?_
  refine xg [] rfl (by simp) ?_
  refine zac rfl (fun _ => zko (cS 97)) (by simp) ?_
  refine xg [] rfl (by simp) ?_
  refine zac rfl (fun _ => zko (cS 98)) (by simp) ?_
  refine xg [] rfl (by simp) ?_
  refine zac rfl (fun _ => zko (cS 100)) (by simp) ?_
  refine xg [] rfl (by simp) ?_
  refine zac rfl (fun _ => yf2 (nmT (cS 98)) (nmT (cS 100))) (by simp) ?_
  refine xg [] rfl (by simp; rfl) ?_
  exact zaa ⟨_, rfl, tV rfl, trivial⟩
def yi8 (c : Nat) : Tm := .mk 5 0 (cS c) [nmT (cS c)] []
def sT : Tm := .mk 15 0 [] [nmT (cS 97), plT (nmT (cS 101)) (plT (nmT (cS 98)) (nmT (cS 99)))] [.mk 6 0 [67, 111, 110, 115] [.mk 2 0 (cS 101) [], .mk 2 0 (cS 102) []]]
theorem zm1 : za9 eT = true := by decide +kernel
theorem yi7 : za9 (yi8 121) = true := by decide +kernel
theorem yab : za9 (yi8 120) = true := by decide +kernel
theorem ymw : za9 (plT (nmT (cS 98)) (nmT (cS 99))) = true := by decide +kernel
theorem zys {p : Tm × Int} {t : Tm} {n : Int} (h : (zuu p.1 t && p.2 == n) = true) : p = (t, n) := by
  obtain ⟨a, b⟩ := p
  simp only [Bool.and_eq_true, beq_iff_eq] at h
  rw [(zot a t).1 h.1, h.2]
theorem sub_eT : yln eT (cS 100) (plT (nmT (cS 98)) (nmT (cS 99))) = (sT, 0) := zys (by decide +kernel)
theorem at_eT : atR eT [1, 0] = (nmT (cS 98), 0) := zys (by decide +kernel)
theorem ymt : ydy (yi8 120) = (yi8 97, 0) := zys (by decide +kernel)
theorem ymx : yd4 (yi8 121) (yi8 120) = (true, 0) := by decide +kernel
theorem ymj : zel eT = [cS 97, cS 100] := by decide +kernel
set_option maxRecDepth 100000 in
set_option maxHeartbeats 1000000 in
theorem zxa : zax Tryz.prog 8 [] (.bool true) := by
  have h1 := zvd eT zm1
  rw [ymj] at h1
  have h2 := ykm eT (cS 100) (plT (nmT (cS 98)) (nmT (cS 99))) (zbl zm1) (zbl ymw)
  rw [sub_eT] at h2
  have h3 := yer eT (zbl zm1)
  have h4 := yet eT (zbl zm1)
  rw [zm1] at h3 h4
  have h5 := At_ok eT [1, 0] (zbl zm1)
  rw [at_eT] at h5
  have h6 := zvi (yi8 121) (yi8 120) (zbl yi7) (zbl yab)
  rw [ymx] at h6
  have h7 := zoy (yi8 120) (zbl yab)
  rw [ymt] at h7
  refine zaf zb8 Tryz.func8 (by decide +kernel) rfl [1, 2, 3, 4, 5, 6, 7, 8, 9] rfl rfl ?_
  refine qg [] rfl (by simp) ?_
  refine zac rfl (fun _ => E_ok) (by simp) ?_
  refine qg [] rfl (by simp) ?_
  refine zac rfl (fun _ => h1) (by simp) ?_
  refine qg [] rfl (by simp) ?_
  refine zac rfl (fun _ => E_ok) (by simp) ?_
  refine qg [] rfl (by simp) ?_
  refine zac rfl (fun _ => zko (cS 98)) (by simp) ?_
  refine qg [] rfl (by simp) ?_
  refine zac rfl (fun _ => zko (cS 99)) (by simp) ?_
  refine qg [] rfl (by simp) ?_
  refine zac rfl (fun _ => yf2 (nmT (cS 98)) (nmT (cS 99))) (by simp) ?_
  refine qg [] rfl (by simp) ?_
  refine zac rfl (fun _ => h2) (by simp) ?_
  refine qg [] rfl (by simp) ?_
  refine zac rfl (fun _ => E_ok) (by simp) ?_
  refine qg [] rfl (by simp) ?_
  refine zac rfl (fun _ => h3) (by simp) ?_
  refine qg [] rfl (by simp) ?_
  refine zac rfl (fun _ => E_ok) (by simp) ?_
  refine qg [] rfl (by simp) ?_
  refine zac rfl (fun _ => h4) (by simp) ?_
  refine qg [] rfl (by simp) ?_
  refine zac rfl (fun _ => E_ok) (by simp) ?_
  refine qg [] rfl (by simp) ?_
  refine zac rfl (fun _ => h5) (by simp) ?_
  refine qg [] rfl (by simp) ?_
  refine zac rfl (fun _ => zko (cS 120)) (by simp) ?_
  refine qg [] rfl (by simp) ?_
  refine zac rfl (fun _ => zko (cS 121)) (by simp) ?_
  refine qg [] rfl (by simp) ?_
  refine zac rfl (fun _ => h6) (by simp) ?_
  refine qg [] rfl (by simp) ?_
  refine zac rfl (fun _ => h7) (by simp) ?_
  refine qg [] rfl (by simp) ?_
  refine zab rfl (fun h => by simp [dTmc, sT] at h) (fun h => ?_)
  clear h
  refine qd [] rfl (by simp) ?_
  refine zac rfl (fun _ => zjb [cS 97, cS 100] [cS 97, cS 100]) (by simp [zai]) ?_
  refine qg [] rfl (by simp [zai]) ?_
  refine qi_ rfl (c := [.int .i64 6, .int .i64 0, .str [67, 111, 110, 115], .sl (zce [.mk 2 0 (cS 101) [], .mk 2 0 (cS 102) []])]) (fun _ => ⟨by simp, rfl, rfl⟩) (by simp [zai]) ?_
  refine qg [] rfl (by simp [zai]) ?_
  refine zac rfl (fun _ => zhq (.mk 6 0 [67, 111, 110, 115] [.mk 2 0 (cS 101) [], .mk 2 0 (cS 102) []]) (by decide)) (by simp [zai]) ?_
  refine qg [] rfl (by simp [zai]) ?_
  refine zac rfl (fun _ => zjb (za1 (.mk 6 0 [67, 111, 110, 115] [.mk 2 0 (cS 101) [], .mk 2 0 (cS 102) []])) [cS 101, cS 102]) (by simp [zai]) ?_
  refine qg [] rfl (by simp [zai]) ?_
  refine zac rfl (fun _ => ze9 [97, 98, 99]) (by simp [zai]) ?_
  refine qg [] rfl (by simp [zai]) ?_
  refine zac rfl (fun _ => ze9 [116, 104, 101, 110]) (by simp [zai]) ?_
  refine qg [] rfl (by simp [zai]) ?_
  refine zac rfl (fun _ => zh8 [65]) (by simp [zai]) ?_
  refine qg [] rfl (by simp [zai]) ?_
  refine zac rfl (fun _ => zmg [cS 97, cS 99] (by decide)) (by simp [zai]) ?_
  refine qg [] rfl (by simp [zai]) ?_
  refine zaa ⟨_, rfl, tV (congrArg _ ?_), trivial⟩
  decide +kernel
end Go.Hk

/- The statement TermAnew, of terms by value: it returns true. -/
namespace Go.Hk
open Go.Proofs
set_option maxRecDepth 100000 in
set_option maxHeartbeats 1000000 in
theorem TermAnew_pure (a b : Tm) : zax Tryz.prog 6 [.agg (dTmc a), .agg (dTmc b)] (.bool true) := by
  refine zaf za4 Tryz.func6 (by decide +kernel) rfl [1, 2, 3, 4, 5, 6, 7] rfl rfl ?_
  refine xg [] rfl (by simp) ?_
  refine zac rfl (fun _ => zoa a) (by simp) ?_
  refine xg [] rfl (by simp [zai]) ?_
  refine zac rfl (fun _ => zoa b) (by simp [zai]) ?_
  refine xg [] rfl (by simp [zai]) ?_
  refine zac rfl (fun _ => yh1 a) (by simp [zai]) ?_
  refine xg [] rfl (by simp [zai]) ?_
  refine zac rfl (fun _ => yh1 b) (by simp [zai]) ?_
  refine xg [] rfl (by simp [zai]) ?_
  refine zab rfl (fun h => ?_) (fun h => ?_)
  · refine xd [] rfl (by simp) ?_
    refine zac rfl (fun _ => zxa) (by simp) ?_
    refine xg [] rfl (by simp) ?_
    exact zaa ⟨_, rfl, tV rfl, trivial⟩
  have hs : za9 a = true ∧ za9 b = true := by
    simp at h
    grind
  clear h
  obtain ⟨ht, hu⟩ := hs
  have hx := zq7 ht
  have hy := zq7 hu
  have ea : ydy a = (zhv a, 0) := by simp [ydy, ht]
  have eb : ydy b = (zhv b, 0) := by simp [ydy, hu]
  have ex : ydy (zhv a) = (zhv a, 0) := by simp [ydy, hx, zth ht]
  have ec : yd4 a (zhv a) = (true, 0) := by
    simp only [yd4, ht, hx, zth ht, Bool.and_self, cond_true]
    rw [(zot _ _).2 rfl]
  have ed : yd4 a b = (zuu (zhv a) (zhv b), 0) := by simp [yd4, ht, hu]
  have h1 := zoy a (zbl ht)
  have h2 := zoy b (zbl hu)
  have h3 := zoy (zhv a) (zbl hx)
  have h4 := zvi a (zhv a) (zbl ht) (zbl hx)
  have h5 := zvi a b (zbl ht) (zbl hu)
  have h6 := zvd a ht
  have h7 := zvd (zhv a) hx
  rw [ea] at h1
  rw [eb] at h2
  rw [ex] at h3
  rw [ec] at h4
  rw [ed] at h5
  rw [zxv ht] at h7
  refine xd [] rfl (by simp) ?_
  refine zac rfl (fun _ => h1) (by simp) ?_
  refine xg [] rfl (by simp) ?_
  refine zac rfl (fun _ => h2) (by simp) ?_
  refine xg [] rfl (by simp) ?_
  refine zac rfl (fun _ => h3) (by simp) ?_
  refine xg [] rfl (by simp) ?_
  refine zac rfl (fun _ => h4) (by simp) ?_
  refine xg [] rfl (by simp) ?_
  refine zac rfl (fun _ => h5) (by simp) ?_
  refine xg [] rfl (by simp) ?_
  refine zac rfl (fun _ => h6) (by simp) ?_
  refine xg [] rfl (by simp) ?_
  refine zac rfl (fun _ => h7) (by simp) ?_
  refine xg [] rfl (by simp) ?_
  refine zac rfl (fun _ => zz5 (zhv a) (zhv a) (zej hx)) (by simp [zai]) ?_
  refine xg [] rfl (by simp [zai]) ?_
  refine zac rfl (fun _ => zz5 (zhv a) (zhv b) (zej hx)) (by simp [zai]) ?_
  refine xg [] rfl (by simp [zai]) ?_
  refine zac rfl (fun _ => zjb (zel a) (zel a)) (by simp [zai]) ?_
  refine xg [] rfl (by simp [zai]) ?_
  refine zac rfl (fun _ => zxa) (by simp [zai]) ?_
  refine xg [] rfl (by simp [zai] <;> rfl) ?_
  refine zaa ⟨_, rfl, tV (congrArg _ ?_), trivial⟩
  have e0 := (zot (zhv a) (zhv a)).2 rfl
  simp [ye6, e0]
end Go.Hk

/- From a function that returns true and changes nothing that was there to a law's row. -/
namespace Go.Hk
open Go.RowKit Go.WideShapes Go.ChangeShapes
theorem Ext.below {I I' : Imm} {μ μ' : Mu} {w w' : World} {st' : St} (h : Ext I μ [] w I' μ' st' w') : Below w.heap.size w w' :=
  ⟨h.os, h.tape, h.output, h.size, fun k hk => h.block k hk (by rintro ⟨id, blk, g, hl, _⟩; cases hl)⟩
theorem yjl {H : Type} {enc : TypeId × Value → H} {P : Program} {f : Func} {s : ChangeSpec} {apart fresh handsOn again : Bool} {W W' : World} {args : Array Value} {v : Value} {ds gs : List (DataW H)} {before pa pv : List MemPlace}
    (hW : DataW.Whole enc P f.params.toList s.vars apart W args.toList ds gs before) (hb : Below W.heap.size W W') (hps : before = pa ++ pv)
    (hres : ∀ (b : Nat) (sp : Nat → Bool) (hd : Bool), DataW.TrodAll enc P W' b sp hd f.resultTypes.toList (v.resultList f.resultTypes.size) (s.fn H (ds ++ gs)).results [])
    (hargs : ∀ sp : Nat → Bool, (∀ p ∈ before, sp p.block = true) → DataW.TrodAll enc P W' 0 sp true f.params.toList args.toList (s.fn H (ds ++ gs)).args pa)
    (hvars : ∀ sp : Nat → Bool, (∀ p ∈ before, sp p.block = true) → DataW.TrodVars enc P W' sp s.vars (s.fn H (ds ++ gs)).vars pv)
    (hok : ∀ (j : Nat) (t : TypeId) (r : Value), f.resultTypes[j]? = some t → (v.resultList f.resultTypes.size)[j]? = some r → Value.okWide P W' .any 0 t r) :
    s.post enc P f apart fresh handsOn again W args v W' := by
  have lt : ∀ p ∈ before, decide (p.block < W.heap.size) = true := fun p hp => by simpa using hW.lt p hp
  refine ⟨ds, gs, before, [], pa, pv, hW, hres _ _ _, hargs (fun b => decide (b < W.heap.size)) lt, hvars (fun b => decide (b < W.heap.size)) lt, World.keptBut_mono (fun p hp => ⟨hp, .inr ?_⟩) (hb.frame (· ∈ before)), fun _ => ⟨hok, ?_⟩⟩
  · rw [hps] at hp; exact List.mem_append.1 hp
  · have hlt := hW.lt
    obtain ⟨_, _, _, _, _, hz, hn⟩ := hW
    refine ⟨(s.fn H (ds ++ gs)).results ++ (s.fn H (ds ++ gs)).args, (s.fn H (ds ++ gs)).vars, pa ++ pv, ⟨pa, pv, ?_, hvars _ (fun _ _ => rfl), rfl, fun b off hp => ?_, fun ha => ?_⟩, fun p hp _ => by rw [hps]; exact hp⟩
    · have := trodAll_append (hargs (fun _ => true) fun _ _ => rfl) (hres 0 (fun _ => true) true)
      simpa using this
    · have hin : MemPlace.cell b off ∈ before := by rw [hps]; exact hp
      rw [hb.frozen (hlt _ hin)]
      exact hz b off hin
    · rw [← hps]; exact hn ha
end Go.Hk

/- Arguments read: what a row's reading of an argument says of it as data by value, where all that was there is held immutable. -/
namespace Go.Hk
def yee (W : World) : Imm := fun b => W.heap[b]?
theorem yme (W : World) : (yee W).ok W := fun _ _ h => h
def Rds (P : Program) (W : World) (n : Nat) (t : TypeId) (cs : List Value) : Prop :=
  ∃ (H : Type) (enc : TypeId × Value → H) (x : DataW H × List MemPlace), DataW.trod enc P W 0 (fun _ => true) true n t cs = some x
def RV (W : World) (cs : List Value) (xs : List V) : Prop := RepVL (yee W) cs xs ∧ ∀ c ∈ cs, c.oneCell' = true
theorem RV.app {W : World} {a b : List Value} {x y : List V} (h : RV W a x) (k : RV W b y) : RV W (a ++ b) (x ++ y) :=
  ⟨h.1.append k.1, fun c hc => (List.mem_append.1 hc).elim (h.2 c) (k.2 c)⟩
theorem RV.one {W : World} {v : Value} {x : V} (h : RepV (yee W) v x) (h1 : v.oneCell' = true) : RV W [v] [x] :=
  ⟨.mk h .nil, fun c hc => by simp at hc; rw [hc]; exact h1⟩
theorem RV.agg {W : World} {cs : Array Value} {xs : List V} (h : RV W cs.toList xs) : RepV (yee W) (.agg cs) (.agg xs) :=
  .agg _ _ (by simpa using h.1.1) h.2 (fun i c x a b => h.1.2 i c x (by simpa using a) b)
theorem RV.len {W : World} {cs : List Value} {xs : List V} (h : RV W cs xs) : cs.length = xs.length := h.1.1
section
variable {P : Program} {W : World} {tt : TT} {n : Nat} {t : TypeId} {cs : List Value}
theorem zt8 {k : IntKind} {a : Bool} {sz by_ : Nat} {z : List D} (htt : TTok P tt) (hl : lk tt t = some ⟨.int k, a, sz, by_, z⟩) (h : Rds P W n t cs) : ∃ m, RV W cs [.int k m] ∧ (Lit.int k m).wf = true := by
  obtain ⟨H, enc, x, h⟩ := h
  have hu : P.underlying t = some (.int k) := htt.sh hl
  cases n with
  | zero => simp [DataW.trod] at h
  | succ n =>
    unfold DataW.trod at h
    rw [hu] at h
    split at h <;> simp_all
    rename_i k' m heq
    exact ⟨m, .one (.int _ _) rfl, h.1.2⟩
theorem yfu {a : Bool} {sz by_ : Nat} {z : List D} (htt : TTok P tt) (hl : lk tt t = some ⟨.str, a, sz, by_, z⟩) (h : Rds P W n t cs) : ∃ s, RV W cs [.str s] ∧ s.length ≤ maxLen := by
  obtain ⟨H, enc, x, h⟩ := h
  have hu : P.underlying t = some .string := htt.sh hl
  cases n with
  | zero => simp [DataW.trod] at h
  | succ n =>
    unfold DataW.trod at h
    rw [hu] at h
    split at h <;> simp_all
    rename_i s
    exact ⟨s.data.toList, .one (.str _ _ rfl) rfl, by have := h.1; simpa using this⟩
theorem zu0 {a : Addr} {k : Nat} {cs' : List Value} (h : W.cells? 0 a k = some cs') (hk : 0 < k) : a.spot = none ∧ ∀ (j : Nat) (v : Value), cs'[j]? = some v → (yee W).cell a.block (a.off + j) = some v := by
  obtain ⟨_, h2, h3⟩ := World.cells?_some h
  have cell : ∀ (b : Addr) (v : Value), W.cell? b = some v → b.spot = none ∧ (yee W).cell b.block b.off = some v := by
    intro b v hb
    unfold World.cell? at hb
    split at hb
    · rename_i c t0 fz hh
      split at hb
      · cases hb
      · rename_i hs
        refine ⟨by cases h : b.spot with | none => rfl | some _ => rw [h] at hs; exact absurd rfl hs, ?_⟩
        unfold Imm.cell yee
        rw [hh]
        exact hb
    · cases hb
  have hs : a.spot = none := by
    have hlt : 0 < cs'.length := by omega
    have := h3 0 hk
    rw [List.getElem?_eq_getElem hlt] at this
    exact (cell (a.add 0) _ this).1
  refine ⟨hs, fun j v hv => ?_⟩
  have hj := (List.getElem?_eq_some_iff.1 hv).1
  have := (cell (a.add j) v (by rw [h3 j (by omega)]; exact hv)).2
  unfold Addr.add at this
  by_cases h0 : j = 0
  · subst h0; simpa using this
  · rw [if_neg h0] at this; exact this
theorem zpn {α : Type} {e : TypeId} {a : Bool} {sz by_ : Nat} {z : List D} {i : TyI} {d : α → List V} (htt : TTok P tt) (hl : lk tt t = some ⟨.sl e, a, sz, by_, z⟩) (hi : lk tt e = some i) (hpos : 0 < i.size)
    (hd : ∀ x, (d x).length = i.size) (hel : ∀ m, m < n → ∀ cs', Rds P W m e cs' → ∃ x, RV W cs' (d x)) (h : Rds P W n t cs) : ∃ xs : List α, RV W cs [.sl (xs.map d)] := by
  obtain ⟨H, enc, x, h⟩ := h
  have hu : P.underlying t = some (.slice e) := htt.sh hl
  have hce : P.cellsOf e = i.size := (htt e i hi).cellsOf
  rcases DataW.trod_slice hu h with ⟨rfl, _⟩ | ⟨ad, len, cap, elems, rest, m, rfl, rfl, _, _, h1, h2, h3, h4, h5, _⟩
  · exact ⟨[], .one .slnil rfl⟩
  rw [hce] at h4 h5
  have he : ∀ k, k < len → ∃ (cs' : List Value) (x : α), W.cells? 0 (ad.add (k * i.size)) i.size = some cs' ∧ RV W cs' (d x) := by
    intro k hk
    have := h4 k hk
    rw [List.getElem?_eq_getElem (by omega)] at this
    obtain ⟨cs', q1, q2⟩ := Option.bind_eq_some_iff.1 this
    obtain ⟨x, hx⟩ := hel m (by omega) cs' ⟨H, enc, _, q2⟩
    exact ⟨cs', x, q1, hx⟩
  have hch : ∃ (C : Nat → List Value) (X : Nat → Option α), ∀ k, k < len → ∃ x, X k = some x ∧ W.cells? 0 (ad.add (k * i.size)) i.size = some (C k) ∧ RV W (C k) (d x) := by
    classical
    refine ⟨fun k => if hk : k < len then (he k hk).choose else [], fun k => if hk : k < len then some ((he k hk).choose_spec.choose) else none, fun k hk => ?_⟩
    simp only [hk, dif_pos]
    exact ⟨_, rfl, (he k hk).choose_spec.choose_spec⟩
  obtain ⟨C, X, hCX⟩ := hch
  have hlist : ∀ l, l ≤ len → ∃ xs : List α, xs.length = l ∧ ∀ k x, xs[k]? = some x → X k = some x := by
    intro l
    induction l with
    | zero => exact fun _ => ⟨[], rfl, fun k x h => by simp at h⟩
    | succ l ih =>
      intro hl'
      obtain ⟨xs, q1, q2⟩ := ih (by omega)
      obtain ⟨x, hx, _⟩ := hCX l (by omega)
      refine ⟨xs ++ [x], by simp [q1], fun k y hy => ?_⟩
      by_cases hk : k < xs.length
      · rw [List.getElem?_append_left hk] at hy; exact q2 k y hy
      · rw [List.getElem?_append_right (by omega)] at hy
        have : k - xs.length = 0 := by
          have := (List.getElem?_eq_some_iff.1 hy).1
          simp at this; omega
        rw [this] at hy
        cases hy
        have : k = l := by omega
        rw [this]; exact hx
  obtain ⟨xs, hx1, hx2⟩ := hlist len (Nat.le_refl _)
  refine ⟨xs, .one ?_ rfl⟩
  by_cases hcap : cap = 0
  · have : len = 0 := by omega
    subst this; subst hcap
    have : xs = [] := List.eq_nil_of_length_eq_zero hx1
    subst this
    exact .sl0 ad
  have hspot : ad.spot = none := by
    by_cases hlen : 0 < len
    · obtain ⟨x, _, q, _⟩ := hCX 0 hlen
      have := (zu0 q hpos).1
      simpa [Addr.add] using this
    · have h6 := h5 rfl
      have h7 := h6.2 0 (by omega)
      rw [List.getElem?_eq_getElem (by omega)] at h7
      obtain ⟨cs', q1, q2⟩ := Option.bind_eq_some_iff.1 h7
      have := (zu0 q1 hpos).1
      have hl0 : len = 0 := by omega
      subst hl0
      simpa [Addr.add] using this
  obtain ⟨b, o, sp⟩ := ad
  simp only at hspot
  subst hspot
  have hget : ∀ (k : Nat) (e : List V), (xs.map d)[k]? = some e → k < len ∧ ∃ x, X k = some x ∧ e = d x ∧ W.cells? 0 ⟨b, o + k * i.size, none⟩ i.size = some (C k) ∧ RV W (C k) (d x) := by
    intro k e hk
    rw [List.getElem?_map, Option.map_eq_some_iff] at hk
    obtain ⟨x, q1, q2⟩ := hk
    have hlt := (List.getElem?_eq_some_iff.1 q1).1
    obtain ⟨y, r1, r2, r3⟩ := hCX k (by omega)
    rw [hx2 k x q1] at r1
    cases r1
    refine ⟨by omega, x, hx2 k x q1, q2.symm, ?_, r3⟩
    rw [← r2]
    congr 1
    unfold Addr.add
    by_cases h0 : k * i.size = 0
    · simp [h0]
    · simp [h0]
  refine .sl b o len cap i.size _ (fun k j => (C k).getD j undef) (by simp [hx1]) h1 h2 (fun e he => ?_) (fun k e j x hk hj => ?_) (fun k e j x hk hj => ?_)
  · obtain ⟨x, _, rfl⟩ := List.mem_map.1 he; exact hd x
  · obtain ⟨_, y, _, rfl, q3, q4⟩ := hget k e hk
    have hlt : j < (C k).length := by rw [q4.len]; exact (List.getElem?_eq_some_iff.1 hj).1
    have hv : (C k)[j]? = some ((C k)[j]) := List.getElem?_eq_getElem hlt
    have hD : (C k).getD j undef = (C k)[j] := by simp [List.getD, hv]
    show (yee W).cell b (o + k * i.size + j) = some ((C k).getD j undef) ∧ ((C k).getD j undef).oneCell' = true
    rw [hD]
    exact ⟨(zu0 q3 hpos).2 j _ hv, q4.2 _ (List.getElem_mem _)⟩
  · obtain ⟨_, y, _, rfl, q3, q4⟩ := hget k e hk
    have hlt : j < (C k).length := by rw [q4.len]; exact (List.getElem?_eq_some_iff.1 hj).1
    have hv : (C k)[j]? = some ((C k)[j]) := List.getElem?_eq_getElem hlt
    have hD : (C k).getD j undef = (C k)[j] := by simp [List.getD, hv]
    show RepV (yee W) ((C k).getD j undef) x
    rw [hD]
    exact q4.1.2 j _ x hv hj
theorem zsh {fs : List (Nat × TypeId)} {a : Bool} {sz by_ : Nat} {z : List D} (htt : TTok P tt) (hl : lk tt t = some ⟨.struct fs, a, sz, by_, z⟩) (h : Rds P W n t cs) :
    cs.length = sz ∧ ∃ m, n = m + 1 ∧ ∀ (j off : Nat) (ft : TypeId) (i : TyI), fs[j]? = some (off, ft) → lk tt ft = some i → Rds P W m ft ((cs.drop off).take i.size) := by
  obtain ⟨H, enc, x, h⟩ := h
  obtain ⟨fields, hu, hmap, _⟩ : ∃ fields, P.underlying t = some (.struct fields) ∧ fields.toList.map (fun f => (f.offset, f.type)) = fs ∧ ∀ f ∈ fields.toList, 0 < P.cellsOf f.type := htt.sh hl
  obtain ⟨xs, m, rfl, _, h1, h2, h3⟩ := DataW.trod_struct hu h
  refine ⟨by rw [h1]; exact (htt t _ hl).cellsOf, m, rfl, fun j off ft i hj hi => ?_⟩
  rw [← hmap, List.getElem?_map, Option.map_eq_some_iff] at hj
  obtain ⟨f, q1, q2⟩ := hj
  cases q2
  have hf : fields[j]? = some f := by rw [← Array.getElem?_toList]; exact q1
  have hlt := (Array.getElem?_eq_some_iff.1 hf).1
  have := h3 j f hf
  rw [List.getElem?_eq_getElem (by omega), (htt _ i hi).cellsOf] at this
  exact ⟨H, enc, _, this⟩
end
end Go.Hk

/- Arguments of layers 1 and 3 read: types, patterns, terms, modules. -/
namespace Go.Hk
open Go.Proofs
section
variable {W : World}
theorem four {α : Type} {l : List α} (h : l.length = 4) : ∃ a b c d, l = [a, b, c, d] := by
  match l, h with
  | [a, b, c, d], _ => exact ⟨a, b, c, d, rfl⟩
theorem five {α : Type} {l : List α} (h : l.length = 5) : ∃ a b c d e, l = [a, b, c, d, e] := by
  match l, h with
  | [a, b, c, d, e], _ => exact ⟨a, b, c, d, e, rfl⟩
theorem ybo (l : List Ty) : l.map zb4 = zce l := (zhk l).symm
theorem ykc (l : List Tm) : l.map dTmc = zdb l := (ze5 l).symm
theorem yfq (tt0 ts tl : TypeId) (hs : lk ttK tt0 = some ⟨.struct [(0, ts), (1, 3), (2, 9), (3, tl)], true, 4, 56, [.imm (.int .i64 0), .imm (.int .i64 0), .imm (.str []), .nils]⟩)
    (h1 : lk ttK ts = some ⟨.int .i64, false, 1, 8, [.imm (.int .i64 0)]⟩) (h2 : lk ttK tl = some ⟨.sl tt0, false, 1, 24, [.nils]⟩) :
    ∀ (n : Nat) (cs : List Value), Rds Tryz.prog W n tt0 cs → ∃ t : Ty, RV W cs (zb4 t) := by
  intro n
  induction n using Nat.strongRecOn with
  | ind n ih =>
    intro cs h
    obtain ⟨hl, m, rfl, hf⟩ := zsh zbx hs h
    obtain ⟨a, b, c, d, rfl⟩ := four hl
    obtain ⟨s, r1, _⟩ := zt8 zbx h1 (hf 0 0 ts _ rfl h1)
    obtain ⟨k, r2, _⟩ := zt8 zbx rfl (hf 1 1 3 _ rfl rfl)
    obtain ⟨x, r3, _⟩ := yfu zbx rfl (hf 2 2 9 _ rfl rfl)
    obtain ⟨ps, r4⟩ := zpn (d := zb4) zbx h2 hs (show 0 < 4 by decide) dTyc_length (fun m' hm cs' => ih m' (by omega) cs') (hf 3 3 tl _ rfl h2)
    exact ⟨.mk s k x ps, by rw [zb4, ← ybo]; exact ((r1.app r2).app r3).app r4⟩
theorem yi0 (n : Nat) (cs : List Value) (h : Rds Tryz.prog W n 58 cs) : ∃ t : Ty, RV W cs (zb4 t) := yfq 58 56 24 rfl rfl rfl n cs h
set_option maxRecDepth 100000 in
theorem read_term : ∀ (n : Nat) (cs : List Value), Rds Tryz.prog W n 26 cs → ∃ t : Tm, RV W cs (dTmc t) := by
  intro n
  induction n using Nat.strongRecOn with
  | ind n ih =>
    intro cs h
    obtain ⟨hl, m, rfl, hf⟩ := zsh zbx rfl h
    obtain ⟨a, b, c, d, e, rfl⟩ := five hl
    obtain ⟨s, r1, _⟩ := zt8 zbx rfl (hf 0 0 22 _ rfl rfl)
    obtain ⟨k, r2, _⟩ := zt8 zbx rfl (hf 1 1 3 _ rfl rfl)
    obtain ⟨x, r3, _⟩ := yfu zbx rfl (hf 2 2 9 _ rfl rfl)
    obtain ⟨ks, r4⟩ := zpn (d := dTmc) zbx rfl (e := 26) rfl (by decide) dTmc_length (fun m' hm cs' => ih m' (by omega) cs') (hf 3 3 23 _ rfl rfl)
    obtain ⟨ps, r5⟩ := zpn (d := zb4) zbx rfl (e := 58) rfl (by decide) dTyc_length (fun m' hm cs' => yi0 m' cs') (hf 4 4 24 _ rfl rfl)
    exact ⟨.mk s k x ks ps, by rw [dTmc, ← ybo, ← ykc]; exact (((r1.app r2).app r3).app r4).app r5⟩
end
end Go.Hk

namespace Go.Hk
open Go.RowKit Go.WideShapes Go.ChangeShapes Go.ChangeAt
theorem zne {H : Type} {enc : TypeId × Value → H} {P : Program} (hl : laidOutB P = true) {W W' : World} (hb : Below W.heap.size W W') {sp : Nat → Bool} :
    ∀ {ts : List TypeId} {vs : List Value} {ds : List (DataW H)} {ps : List MemPlace}, ts.all (fun t => P.readableRec t && decide (t < P.types.size)) = true → DataW.TrodAll enc P W 0 (fun _ => true) true ts vs ds ps →
      (∀ p ∈ ps, p.block < W.heap.size) → (∀ p ∈ ps, sp p.block = true) → DataW.TrodAll enc P W' 0 sp true ts vs ds ps
  | [], [], [], _, _, h, _, _ => h
  | [], [], _ :: _, _, _, h, _, _ => h.elim
  | [], _ :: _, _, _, _, h, _, _ => h.elim
  | _ :: _, [], _, _, _, h, _, _ => h.elim
  | _ :: _, _ :: _, [], _, _, h, _, _ => h.elim
  | t :: ts, v :: vs, d :: ds, ps, ht, h, hlt, hs => by
    obtain ⟨p, q, h1, h2, rfl⟩ := h
    rw [List.all_cons, Bool.and_eq_true, Bool.and_eq_true, decide_eq_true_eq] at ht
    refine ⟨p, q, WideElems.Trod_stays hl ht.1.1 ht.1.2 h1 (fun x hx => hb.same (hlt x (List.mem_append_left _ hx))) (fun x hx => hs x (List.mem_append_left _ hx)), ?_, rfl⟩
    exact zne hl hb ht.2 h2 (fun x hx => hlt x (List.mem_append_right _ hx)) (fun x hx => hs x (List.mem_append_right _ hx))
theorem Rds.of {H : Type} {enc : TypeId × Value → H} {P : Program} {W : World} {t : TypeId} {v : Value} {d : DataW H} {ps : List MemPlace} (h : DataW.Trod enc P W 0 (fun _ => true) true t v d ps) : ∃ n, Rds P W n t v.cells.toList := by
  obtain ⟨n, hn⟩ := h
  exact ⟨n, H, enc, _, hn⟩
section
variable {H : Type} {enc : TypeId × Value → H} {P : Program} {W : World} {sp : Nat → Bool} {hd : Bool}
theorem yij {vs : List Value} {ds : List (DataW H)} {ps : List MemPlace} (h : DataW.TrodAll enc P W 0 sp hd [] vs ds ps) : vs = [] ∧ ds = [] := by
  cases vs with
  | nil => cases ds with
    | nil => exact ⟨rfl, rfl⟩
    | cons => exact h.elim
  | cons => cases ds <;> exact h.elim
theorem yac {t : TypeId} {ts : List TypeId} {vs : List Value} {ds : List (DataW H)} {ps : List MemPlace} (h : DataW.TrodAll enc P W 0 sp hd (t :: ts) vs ds ps) :
    ∃ v vs' d ds' p q, vs = v :: vs' ∧ ds = d :: ds' ∧ DataW.Trod enc P W 0 sp hd t v d p ∧ DataW.TrodAll enc P W 0 sp hd ts vs' ds' q := by
  cases vs with
  | nil => cases ds <;> exact h.elim
  | cons v vs => cases ds with
    | nil => exact h.elim
    | cons d ds =>
      obtain ⟨p, q, h1, h2, _⟩ := h
      exact ⟨v, vs, d, ds, p, q, rfl, rfl, h1, h2⟩
theorem yii {t : TypeId} {vs : List Value} {ds : List (DataW H)} {ps : List MemPlace} (h : DataW.TrodAll enc P W 0 sp hd [t] vs ds ps) : ∃ v d p, vs = [v] ∧ ds = [d] ∧ DataW.Trod enc P W 0 sp hd t v d p := by
  obtain ⟨v, vs', d, ds', p, q, rfl, rfl, h1, h2⟩ := yac h
  obtain ⟨rfl, rfl⟩ := yij h2
  exact ⟨v, d, p, rfl, rfl, h1⟩
theorem trodAll2 {t u : TypeId} {vs : List Value} {ds : List (DataW H)} {ps : List MemPlace} (h : DataW.TrodAll enc P W 0 sp hd [t, u] vs ds ps) :
    ∃ v w d e p q, vs = [v, w] ∧ ds = [d, e] ∧ DataW.Trod enc P W 0 sp hd t v d p ∧ DataW.Trod enc P W 0 sp hd u w e q := by
  obtain ⟨v, vs', d, ds', p, q, rfl, rfl, h1, h2⟩ := yac h
  obtain ⟨w, e, q, rfl, rfl, h3⟩ := yii h2
  exact ⟨v, w, d, e, p, q, rfl, rfl, h1, h3⟩
end
theorem agg_of {P : Program} {W : World} {base : Nat} {t : TypeId} {v : Value} {fs : Array Field} (hu : P.underlying t = some (.struct fs)) (h : Value.okWide P W .any base t v) : ∃ cs, v = .agg cs := by
  unfold Value.okWide at h
  rw [hu] at h
  obtain ⟨cs, e, _⟩ := h
  exact ⟨cs, e⟩
theorem zu2 {P : Program} {f : FuncId} {fn : Func} {c : Code} (hf : P.funcs[f]? = some fn) (hname : (fn.name == "runtime.NumGoroutine") = false) (hb : fn.body = some c) {W : World} {args : Array Value} {vs : List V} {b : Bool} (hv : RepVL (yee W) args.toList vs) (hp : zax P f vs (.bool b)) :
    Calls P f args W fun e W' => e = .returned (.bool b) ∧ Below W.heap.size W W' := by
  have h := hp (yee W) (fun _ => none) W args { imm := yme W, blk := fun id blk hl => (by cases hl), apart := fun id blk g b hl => (by cases hl), inj := fun i j bi bj gi gj b hl => (by cases hl), nodup := .nil, idsFree := fun id hi => (by cases hi) }
    ⟨by simpa using hv.1, fun i v d h1 h2 => by
      rw [List.getElem?_map, Option.map_eq_some_iff] at h2
      obtain ⟨x, q1, rfl⟩ := h2
      exact .imm _ _ (hv.2 i v x h1 q1)⟩
  rw [run_callFunc_body hf hname hb] at h
  refine Calls.mono h fun e w' he => ?_
  cases e with
  | returned v =>
    obtain ⟨I', μ', h1, _, _, h4⟩ := he
    cases h1 with
    | imm v x hx =>
      cases hx
      exact ⟨rfl, h4.below⟩
  | panicked => exact he.elim
  | outgrown => exact he.elim
theorem law_done {H : Type} {enc : TypeId × Value → H} {P : Program} {f : FuncId} {fn : Func} {c : Code} {s : ChangeSpec} {apart fresh handsOn again : Bool} {W : World} {args : Array Value} {ds gs : List (DataW H)} {before : List MemPlace} {tb : TypeId} {vs : List V}
    (hW : DataW.Whole enc P fn.params.toList s.vars apart W args.toList ds gs before) (hv : s.vars = []) (hf : P.funcs[f]? = some fn) (hname : (fn.name == "runtime.NumGoroutine") = false) (hb : fn.body = some c) (hrt : fn.resultTypes = #[tb]) (hbool : P.underlying tb = some .bool)
    (hl : laidOutB P = true) (hpar : fn.params.toList.all (fun t => P.readableRec t && decide (t < P.types.size)) = true) (hs : s.fn H ds = { results := [.lit (.bool true)], args := ds }) (hx : RepVL (yee W) args.toList vs) (hp : zax P f vs (.bool true)) :
    Calls P f args W fun e W' => ∃ v, e = .returned v ∧ s.post enc P fn apart fresh handsOn again W args v W' := by
  refine (zu2 hf hname hb hx hp).mono fun e W' ⟨he, hg⟩ => ?_
  subst he
  have hW' := hW
  obtain ⟨p, q, hA, hV, e1, hfz, hnd⟩ := hW
  rw [hv] at hV
  have hg0 : gs = [] ∧ q = [] := by
    cases gs with
    | nil => exact ⟨rfl, hV⟩
    | cons => exact hV.elim
  obtain ⟨rfl, rfl⟩ := hg0
  rw [List.append_nil] at e1
  subst e1
  have hlt := hW'.lt
  refine ⟨_, rfl, yjl (pa := before) (pv := []) hW' hg (by simp) (fun b sp hd => ?_) (fun sp hsp => ?_) (fun sp hsp => ?_) ?_⟩
  · rw [List.append_nil, hs, hrt]
    exact trodAll_cons_mk (shut_bool hbool _) trodAll_mk0
  · rw [List.append_nil, hs]
    exact zne hl hg hpar hA hlt hsp
  · rw [List.append_nil, hs, hv]; rfl
  · exact ok_one hrt rfl (okWide_bool_mk hbool _)
end Go.Hk
