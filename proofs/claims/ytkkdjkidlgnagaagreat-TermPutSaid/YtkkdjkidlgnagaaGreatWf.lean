/- The ghost machine: a long run in pieces. Between two pieces the state is written anew: only what is still needed, in blocks numbered from 0 on. (And what it stands on.) -/
import Derived.Test.YtkkdjkidlgnagaaGreatWe
set_option linter.unusedSimpArgs false
set_option linter.unusedVariables false

/- A function that does something and tells whether it gave up: out of its walk what the ghost machine makes of it. -/
namespace Go.Gx

/-- What the walk shows of it. -/
def HoldsSpec (P : Program) (f : FuncId) (t tb : TypeId) : Prop := ∀ (g : FuncId) (fi ca : Array Value) (w : World) (K Kp : World → Prop),
  (callFunc g (fi ++ ca)).run P (w.alloc (.cells #[.bool false] tb)) = .ok (.enter g (fi ++ ca)) (w.alloc (.cells #[.bool false] tb)) →
  Calls P g (fi ++ ca) (w.alloc (.cells #[.bool false] tb)) (fun e w' => match e with
    | .returned _ => K w'
    | .panicked chain => chain = [{ v := .iface t (.agg #[]), recovered := false }] ∧ Kp w'
    | .outgrown => False) →
  (∀ w', K w' → w'.heap[w.heap.size]? = some (.cells #[.bool false] tb (0, 0))) → (∀ w', Kp w' → w'.heap[w.heap.size]? = some (.cells #[.bool false] tb (0, 0))) →
  Calls P f #[.func (.func g) fi ca] w fun e w' => (e = .returned (.bool true) ∧ ∃ w1, K w1 ∧ w' = w1.setCell ⟨w.heap.size, 0, none⟩ (.bool true)) ∨
    (e = .returned (.bool false) ∧ ∃ w1, Kp w1 ∧ w' = (w1.setCell ⟨w.heap.size, 0, none⟩ (.bool false)).alloc (.cells #[] t))

theorem setCell_block {w : World} {b : Nat} {v x : Value} {t : TypeId} (h : w.heap[b]? = some (.cells #[x] t (0, 0))) : w.setCell ⟨b, 0, none⟩ v = { w with heap := w.heap.setIfInBounds b (.cells #[v] t (0, 0)) } := by
  obtain ⟨hb, hx⟩ := Array.getElem?_eq_some_iff.1 h
  have : ∀ (A : Array Obj) (f : Obj → Obj), A[b]? = some (.cells #[x] t (0, 0)) → A.modify b f = A.setIfInBounds b (f (.cells #[x] t (0, 0))) := by
    intro A f hA
    apply Array.ext_getElem?
    intro i
    rw [Array.getElem?_modify, Array.getElem?_setIfInBounds]
    by_cases hi : b = i
    · subst hi; rw [if_pos rfl, if_pos rfl, hA]; simp [(Array.getElem?_eq_some_iff.1 hA).1]
    · rw [if_neg hi, if_neg hi]
  unfold World.setCell
  rw [this _ _ h]
  rfl

/-- Blocks for which nothing of the ghost stands may change. -/
theorem HRep.change {B B' : Bl} {ρ : Rho} {h : GH} {w w2 : World} (hr : HRep B' ρ h w) (hsub : ∀ r, B.r r → B'.r r) (hp : B'.p = B.p) (hsz : w.heap.size ≤ w2.heap.size) (hs : ∀ r, r < w.heap.size → ¬ B'.r r → w2.heap[r]? = w.heap[r]?) : HRep B ρ h w2 :=
  { blk := fun b r z hb h1 => (hr.blk b r z hb h1).frame (Rho.le_refl ρ) (hs r (hr.lo b r z h1).2 (hr.lo b r z h1).1) fun _ _ _ _ _ kv rm zm _ hm hk => .inl ⟨kv, hk, hs rm (hr.lo _ _ _ hm).2 (hr.lo _ _ _ hm).1⟩,
    inj := hr.inj, lo := fun b r z h1 => ⟨fun hB => (hr.lo b r z h1).1 (hsub r hB), Nat.lt_of_lt_of_le (hr.lo b r z h1).2 hsz⟩, dom := hr.dom, top := fun r hB => Nat.lt_of_lt_of_le (hr.top r (hsub r hB)) hsz, pl := by rw [← hp]; exact hr.pl, pt := by rw [← hp]; exact hr.pt }

theorem hold_of {P : Program} {f : FuncId} {t tb : TypeId} {fn : Func} {cf : Code} (hf : P.funcs[f]? = some fn) (hn : (fn.name == "runtime.NumGoroutine") = false) (hb : fn.body = some cf) (hs : HoldsSpec P f t tb) : HoldOk P f t := by
  intro g fi ca h res fc c hgf hgn hgb hS B ρ w xs hr hargs
  have hxs : ∃ first cap : Array Value, xs = #[.func (.func g) first cap] ∧ RepGs ρ (first ++ cap).toList (fi ++ ca) := by
    obtain ⟨l, rfl⟩ : ∃ l : List Value, xs = l.toArray := ⟨xs.toList, by simp⟩
    rw [List.toList_toArray] at hargs
    match l, hargs with
    | [v], hargs =>
      have hv := hargs.cons.1
      cases hv with
      | fn _ first cap _ _ h1 h2 h3 h4 =>
        refine ⟨first, cap, rfl, ?_⟩
        rw [Array.toList_append]
        exact RepGs.append ⟨by simpa using h1, fun i v g p q => h3 i v g (by simpa using p) q⟩ ⟨by simpa using h2, fun i v g p q => h4 i v g (by simpa using p) q⟩
    | [], hargs => simp [RepGs] at hargs
    | _ :: _ :: _, hargs => simp [RepGs] at hargs
  obtain ⟨first, cap, rfl, hg⟩ := hxs
  rw [Hk.run_callFunc_body hf hn hb]
  have hheap : (w.alloc (.cells #[.bool false] tb)).heap = w.heap.push (.cells #[.bool false] tb (0, 0)) := by rw [alloc_eq]
  have hgrow : ∀ r, r < w.heap.size → (w.alloc (.cells #[.bool false] tb)).heap[r]? = w.heap[r]? := fun r hr => by
    rw [hheap]; simp [Array.getElem?_push, Nat.ne_of_lt hr]
  have hself : (w.alloc (.cells #[.bool false] tb)).heap[w.heap.size]? = some (.cells #[.bool false] tb (0, 0)) := by rw [hheap]; simp
  have hsize : (w.alloc (.cells #[.bool false] tb)).heap.size = w.heap.size + 1 := by rw [hheap]; simp
  -- the block of the result is kept
  have hr1 : HRep ⟨fun r => B.r r ∨ r = w.heap.size, B.p⟩ ρ h (w.alloc (.cells #[.bool false] tb)) := by
    have h0 : HRep B ρ h (w.alloc (.cells #[.bool false] tb)) := hr.change (fun _ h => h) rfl (by omega) fun r hr _ => hgrow r hr
    exact { blk := h0.blk, inj := h0.inj, lo := fun b r z h1 => ⟨fun hB => hB.elim (h0.lo b r z h1).1 fun e => by have := (hr.lo b r z h1).2; omega, (h0.lo b r z h1).2⟩, dom := h0.dom,
            top := fun r hB => hB.elim (h0.top r) fun e => by omega, pl := h0.pl, pt := h0.pt }
  have hcall := hS ⟨fun r => B.r r ∨ r = w.heap.size, B.p⟩ ρ _ (first ++ cap) hr1 hg
  have hrun := Hk.run_callFunc_body (w := w.alloc (.cells #[.bool false] tb)) hgf hgn hgb (first ++ cap)
  rw [hrun] at hcall
  have hk0 : Kept B w (w.alloc (.cells #[.bool false] tb)) := Kept.push hr.top
  have keep : ∀ w1, Kept ⟨fun r => B.r r ∨ r = w.heap.size, B.p⟩ (w.alloc (.cells #[.bool false] tb)) w1 → w1.heap[w.heap.size]? = some (.cells #[.bool false] tb (0, 0)) := fun w1 hk => (hk.block _ (.inr rfl)).trans hself
  have fin : ∀ (ρ1 : Rho) (h1 : GH) (w1 : World) (x : Value), HRep ⟨fun r => B.r r ∨ r = w.heap.size, B.p⟩ ρ1 h1 w1 → Kept ⟨fun r => B.r r ∨ r = w.heap.size, B.p⟩ (w.alloc (.cells #[.bool false] tb)) w1 →
      HRep B ρ1 h1 (w1.setCell ⟨w.heap.size, 0, none⟩ x) ∧ Kept B w (w1.setCell ⟨w.heap.size, 0, none⟩ x) := by
    intro ρ1 h1 w1 x q1 q2
    have hc := keep w1 q2
    rw [setCell_block hc]
    refine ⟨q1.change (fun _ h => .inl h) rfl (by simp) fun r _ hB => ?_, ⟨q2.os, q2.tape, q2.output, ?_, fun r hB => ?_⟩⟩
    · have : r ≠ w.heap.size := fun e => hB (.inr e)
      simp [Array.getElem?_setIfInBounds_ne (Ne.symm this)]
    · have := q2.size; simp; omega
    · have hlt := hr.top r hB
      have : w.heap.size ≠ r := by omega
      simp only [Array.getElem?_setIfInBounds_ne this]
      exact (q2.block r (.inl hB)).trans (hgrow r hlt)
  cases res with
  | fail => trivial
  | fr => trivial
  | rv v h1 =>
    have hcall : Calls P g (first ++ cap) (w.alloc (.cells #[.bool false] tb)) (fun e w' => match e with | .returned v' => OutK ⟨fun r => B.r r ∨ r = w.heap.size, B.p⟩ ρ (w.alloc (.cells #[.bool false] tb)) v h1 v' w' | .panicked _ => False | .outgrown => False) := hcall
    refine Calls.mono (hs g first cap w (fun w1 => ∃ ρ1, HRep ⟨fun r => B.r r ∨ r = w.heap.size, B.p⟩ ρ1 h1 w1 ∧ ρ.le ρ1 ∧ Kept ⟨fun r => B.r r ∨ r = w.heap.size, B.p⟩ (w.alloc (.cells #[.bool false] tb)) w1) (fun _ => False) hrun (Calls.mono hcall ?_) (fun w1 ⟨_, _, _, hk⟩ => keep w1 hk) (fun _ h => h.elim)) ?_
    · intro e w1 he
      cases e with
      | returned v1 => obtain ⟨ρ1, g1, g2, g3, g4⟩ := he; exact ⟨ρ1, g1, g2, g4⟩
      | panicked => exact he.elim
      | outgrown => exact he.elim
    · rintro e w2 (⟨rfl, w1, ⟨ρ1, g1, g2, g3⟩, rfl⟩ | ⟨_, _, hf, _⟩)
      · obtain ⟨k1, k2⟩ := fin ρ1 h1 w1 (.bool true) g1 g3
        exact ⟨ρ1, k1, g2, .bool true, k2⟩
      · exact hf.elim
  | rp v h1 =>
    unfold holdR
    split
    · rename_i hh; cases hh
    · rename_i t' g' _ hh
      cases hh
      split
      · rename_i l
        split
        · cases htt : Nat.beq t' t with
          | false => trivial
          | true =>
            have htt := Nat.eq_of_beq_eq_true htt
            subst htt
            have hcall : Calls P g (first ++ cap) (w.alloc (.cells #[.bool false] tb)) (fun e w' => match e with | .returned _ => False | .panicked chain => PanK ⟨fun r => B.r r ∨ r = w.heap.size, B.p⟩ ρ (w.alloc (.cells #[.bool false] tb)) (.if_ t' (.agg [])) h1 chain w' | .outgrown => False) := hcall
            refine Calls.mono (hs g first cap w (fun _ => False) (fun w1 => ∃ ρ1, HRep ⟨fun r => B.r r ∨ r = w.heap.size, B.p⟩ ρ1 h1 w1 ∧ ρ.le ρ1 ∧ Kept ⟨fun r => B.r r ∨ r = w.heap.size, B.p⟩ (w.alloc (.cells #[.bool false] tb)) w1) hrun (Calls.mono hcall ?_) (fun _ h => h.elim) (fun w1 ⟨_, _, _, hk⟩ => keep w1 hk)) ?_
            · intro e w1 he
              cases e with
              | returned v1 => exact he.elim
              | panicked chain =>
                obtain ⟨ρ1, v1, g0, g1, g2, g3, g4⟩ := he
                cases g3 with
                | if_ _ x _ hx =>
                  cases hx with
                  | agg cs l hl _ _ =>
                    have : cs = #[] := Array.eq_empty_of_size_eq_zero (by simpa using hl)
                    subst this
                    exact ⟨g0, ρ1, g1, g2, g4⟩
              | outgrown => exact he.elim
            · rintro e w2 (⟨_, _, hf, _⟩ | ⟨rfl, w1, ⟨ρ1, g1, g2, g3⟩, rfl⟩)
              · exact hf.elim
              · obtain ⟨k1, k2⟩ := fin ρ1 h1 w1 (.bool false) g1 g3
                refine ⟨ρ1, k1.change (fun _ h => h) rfl (by rw [alloc_eq]; simp) (fun r hr _ => by rw [alloc_eq]; rw [Array.getElem?_push, if_neg (Nat.ne_of_lt hr)]), g2, .bool false, k2.trans (Kept.push k1.top)⟩
        · trivial
      · trivial
    · trivial

end Go.Gx

namespace Go.Gx
end Go.Gx

/- term.sorted, of a set that lies in a block: what it gives, whatever the order in which the set gives its names. -/
namespace Go.Hk
open Go.Proofs Go.RowKit Go.Maps Go.Sort Go.MapKept
open Go.WideElems (Fit rd rg rg_of rd_mk)

def keyB : Value → List UInt8
  | .string s => s.data.toList
  | _ => []

theorem sorted_calls (w : World) (bm : Nat) (es : Array MapEntry) (clock : Nat) (hb : w.heap[bm]? = some (.map es clock)) (hst : Stamped es clock) (hk : ∀ e ∈ es.toList, (∃ s : ByteArray, e.key = .string s ∧ s.size ≤ maxLen) ∧ ∃ c, e.val = .bool c) (hsz : es.size ≤ 1000000) :
    Calls Tryz.prog 49 #[.map (some bm)] w fun e w' => ∃ (v : Value) (ss : List (List UInt8)), e = .returned v ∧ ss.Perm (es.toList.map fun e => keyB e.key) ∧
      w'.ownsRow w.heap.size 9 1 v ss.length ((ss.mergeSort (fun x y => decide (x ≤ y))).map encStr) ∧ (v = .slice none 0 0 ↔ ss = []) ∧ Below w.heap.size w w' := by
  have hread : ∀ e ∈ es.toList, ∃ d, rd (H := Unit) Tryz.prog 9 (plainElem Tryz.prog 4) e = some (.string (keyB e.key), d) := by
    intro e he
    obtain ⟨⟨s, h1, h2⟩, c, h3⟩ := hk e he
    obtain ⟨k, v, born⟩ := e
    simp only at h1 h3
    subst h1; subst h3
    have hu := Tryz.underlying4
    have hv : plainElem (H := Unit) Tryz.prog 4 (.bool c) = some (.lit (.bool c), []) := by
      unfold plainElem
      generalize Tryz.prog.underlying 4 = u at hu
      subst hu; rfl
    exact ⟨_, rd_mk (WideMaps.keyOf_string_mk Tryz.underlying9 h2) hv⟩
  have hfit : Fit (H := Unit) Tryz.prog 9 (plainElem Tryz.prog 4) es clock := ⟨by unfold maxLen; omega, hst, fun x hx => by obtain ⟨d, hd⟩ := hread x hx; exact ⟨_, hd⟩⟩
  have hown : w.ownsMap (H := Unit) Tryz.prog 9 (plainElem Tryz.prog 4) bm es.size (.map ((es.toList.map (rg Tryz.prog 9 (plainElem Tryz.prog 4))).foldr DataW.insert [])) := ⟨es, clock, hb, hfit, Nat.le_refl _, rfl⟩
  have hsize : Maps.size (H := Unit) (.map ((es.toList.map (rg Tryz.prog 9 (plainElem Tryz.prog 4))).foldr DataW.insert [])) = es.size := by
    show (List.foldr DataW.insert [] _).length = _
    rw [length_sorted]; simp
  refine (callsIn_wide.1 (sorted_anyIn bm es.size _ w hown (by rw [hsize]; unfold maxLen; omega) (by rw [hsize]; omega))).mono ?_
  rintro e w' ⟨v, ss, h1, h2, h3, h4, h5⟩
  refine ⟨v, ss, h1, h2.trans ?_, h3, h4, h5⟩
  show (List.map (fun p => strOf p.1) (List.foldr DataW.insert [] (es.toList.map (rg Tryz.prog 9 (plainElem Tryz.prog 4))))).Perm _
  refine ((WideShapes.sorted_perm _).map _).trans ?_
  rw [List.map_map]
  refine List.Perm.of_eq (List.map_congr_left fun e he => ?_)
  obtain ⟨d, hd⟩ := hread e he
  simp only [Function.comp_apply, rg_of hd, strOf]

end Go.Hk

namespace Go.Gx
open Go.Hk (keyB sorted_calls)
open Go.Proofs Go.RowKit Go.Maps Go.Sort

def phi (b : List UInt8) : Nat × Nat := (b.length, pk b)
noncomputable def psi (p : Nat × Nat) : List UInt8 := (upk p.1 p.2).map UInt8.ofNat

theorem upk_pk : ∀ b : List UInt8, upk b.length (pk b) = b.map (·.toNat)
  | [] => rfl
  | x :: b => by
    have hx := x.toNat_lt
    show Nat.mod (x.toNat + 256 * pk b) 256 :: upk b.length (Nat.div (x.toNat + 256 * pk b) 256) = _
    have h1 : Nat.mod (x.toNat + 256 * pk b) 256 = x.toNat := by show (_ + _) % 256 = _; omega
    have h2 : Nat.div (x.toNat + 256 * pk b) 256 = pk b := by show (_ + _) / 256 = _; omega
    rw [h1, h2, upk_pk b]; rfl

theorem psi_phi (b : List UInt8) : psi (phi b) = b := by
  simp only [psi, phi, upk_pk, List.map_map]
  conv => rhs; rw [← List.map_id b]
  exact List.map_congr_left fun x _ => by simp

theorem ltN_lt : ∀ {x y : List UInt8}, ltN (x.map (·.toNat)) (y.map (·.toNat)) = true → x < y
  | [], [], h => by cases h
  | [], _ :: _, _ => List.nil_lt_cons _ _
  | _ :: _, [], h => by cases h
  | a :: x, b :: y, h => by
    simp only [List.map_cons, ltN] at h
    rw [List.cons_lt_cons_iff]
    split at h
    · rename_i hb
      rw [Nat.blt_eq] at hb
      exact .inl (UInt8.lt_iff_toNat_lt.2 hb)
    · split at h
      · rename_i hb
        exact .inr ⟨UInt8.toNat_inj.1 (Nat.eq_of_beq_eq_true hb), ltN_lt h⟩
      · cases h

theorem insK_perm (k : Nat × Nat) : ∀ l : List (Nat × Nat), (insK k l).Perm (k :: l)
  | [] => .refl _
  | j :: r => by
    simp only [insK]
    split
    · exact .refl _
    · exact ((insK_perm k r).cons j).trans (List.Perm.swap k j r)

theorem sortK_perm : ∀ l : List (Nat × Nat), (sortK l).Perm l
  | [] => .nil
  | k :: r => (insK_perm k (sortK r)).trans ((sortK_perm r).cons k)

theorem up_pairwise : ∀ {l : List (List UInt8)}, upB (l.map phi) = true → l.Pairwise (· < ·)
  | [], _ => .nil
  | [a], _ => List.pairwise_singleton _ a
  | a :: b :: r, h => by
    have h : (ltK (phi a) (phi b) && upB ((b :: r).map phi)) = true := h
    rw [Bool.and_eq_true] at h
    have ih := up_pairwise h.2
    have hab : a < b := by
      have := h.1
      simp only [ltK, phi, upk_pk] at this
      exact ltN_lt this
    refine List.Pairwise.cons (fun x hx => ?_) ih
    rcases List.mem_cons.1 hx with rfl | hx
    · exact hab
    · exact List.lt_trans hab ((List.pairwise_cons.1 ih).1 x hx)

theorem strsK_eq {R : Type} : ∀ (l : List (Nat × Nat)) (k : List G → R), strsK l k = k (l.map fun p => .str p.1 p.2)
  | [], k => rfl
  | p :: r, k => by simp only [strsK]; rw [strsK_eq r]; rfl

theorem keysK_rep {ρ : Rho} : ∀ {kv : List (G × G)} {K : List (Nat × Nat)} {l : List MapEntry}, keysK kv = some K → l.length = kv.length → (∀ (i : Nat) (e : MapEntry) (p : G × G), l[i]? = some e → kv[i]? = some p → RepG ρ e.key p.1 ∧ RepG ρ e.val p.2) →
    K = l.map (fun e => phi (keyB e.key)) ∧ kv.map (·.1) = K.map (fun p => .str p.1 p.2) ∧ ∀ e ∈ l, (∃ s : ByteArray, e.key = .string s ∧ s.size ≤ maxLen) ∧ ∃ c, e.val = .bool c
  | [], K, l, h, hl, _ => by
    cases h
    cases l with
    | nil => exact ⟨rfl, rfl, fun e he => by cases he⟩
    | cons => simp at hl
  | p :: r, K, l, h, hl, hr => by
    cases l with
    | nil => simp at hl
    | cons e l =>
      simp only [keysK] at h
      split at h
      case h_2 => cases h
      rename_i len n c t h1 h2 h3
      split at h
      case h_2 => cases h
      rename_i hle
      rw [Nat.ble_eq] at hle
      cases h
      obtain ⟨q1, q2, q3⟩ := keysK_rep h3 (by simpa using hl) (fun i e' p' a b => hr (i + 1) e' p' (by simpa using a) (by simpa using b))
      obtain ⟨r1, r2⟩ := hr 0 e p rfl rfl
      rw [h1] at r1
      rw [h2] at r2
      obtain ⟨s, e1, e2, e3⟩ := r1.strInv
      have e4 := r2.boolInv
      have hphi : phi (keyB e.key) = (len, n) := by
        rw [e1]
        show (s.data.toList.length, pk s.data.toList) = _
        rw [e3, ← e2]; rfl
      refine ⟨by rw [List.map_cons, hphi, q1], by rw [List.map_cons, List.map_cons, q2, h1], fun e' he' => ?_⟩
      rcases List.mem_cons.1 he' with rfl | he'
      · exact ⟨⟨s, e1, by unfold maxLen; omega⟩, c, e4⟩
      · exact q3 e' he'

set_option maxRecDepth 100000 in
theorem sort_ok : SortOk Tryz.prog 49 := by
  intro args h B ρ w xs hr hx
  unfold sortR
  split
  case h_2 => trivial
  rename_i m
  split
  case h_2 => trivial
  rename_i ver kv hm
  have hx1 : xs.toList.length = 1 := hx.1
  obtain ⟨xl⟩ := xs
  match xl, hx1 with
  | [x], _ =>
  have hxm : RepG ρ x (.map m) := hx.2 0 x _ rfl rfl
  obtain ⟨r, z, hρ⟩ := hxm.mapρ
  have hxv : x = .map (some r) := by
    cases hxm with
    | map _ r' z' h' => rw [hρ] at h'; cases h'; rfl
  subst hxv
  obtain ⟨es, clock, e1, e2, e3, e4, e5, e6⟩ := hr.atρ hm rfl hρ
  have hrun : (callFunc 49 #[.map (some r)]).run Tryz.prog w = .ok (.enter 49 #[.map (some r)]) w := Hk.run_callFunc_body (Go.Proofs.Tryz.func49) (by decide +kernel) rfl _
  have main : ∀ K, keysK kv = some K → K.length ≤ 1000000 → Calls Tryz.prog 49 #[.map (some r)] w fun e w' => ∃ (v : Value) (ss : List (List UInt8)), e = .returned v ∧ (ss.map phi).Perm K ∧
      w'.ownsRow w.heap.size 9 1 v ss.length ((ss.mergeSort (fun x y => decide (x ≤ y))).map encStr) ∧ (v = .slice none 0 0 ↔ ss = []) ∧ Below w.heap.size w w' := by
    intro K hK hlen
    obtain ⟨l, k1, k2, k3⟩ := e2
    obtain ⟨q1, q2, q3⟩ := keysK_rep hK k2 k3
    have hnd : (es.toList.map (·.key)).Nodup := by
      have h1 : (kv.map (·.1)).Nodup := e3
      rw [q2, q1, List.map_map] at h1
      have h2 : (l.map (·.key)).Nodup := by
        have : (l.map (·.key)).map (fun v => G.str (phi (keyB v)).1 (phi (keyB v)).2) = l.map ((fun p => G.str p.1 p.2) ∘ fun e => phi (keyB e.key)) := by rw [List.map_map]; rfl
        rw [← this] at h1
        exact (List.pairwise_map.1 h1).imp (fun {a b} hab e0 => hab (by rw [e0]))
      exact (k1.map _).nodup_iff.1 h2
    have hes : es.size ≤ 1000000 := by
      have h1 := k1.length_eq
      have h2 := congrArg List.length q1
      simp at h1 h2
      omega
    refine (sorted_calls w r es clock e1 ⟨e5, e6, hnd⟩ (fun e he => q3 e (k1.mem_iff.2 he)) hes).mono ?_
    rintro e w' ⟨v, ss, h1, h2, h3, h4, h5⟩
    refine ⟨v, ss, h1, ?_, h3, h4, h5⟩
    rw [q1]
    have := (h2.trans (k1.symm.map _)).map phi
    rw [List.map_map] at this
    exact this
  have kept : ∀ w', Below w.heap.size w w' → HRep B ρ h w' ∧ Kept B w w' := by
    intro w' hb
    refine ⟨hr.change (fun _ h => h) rfl hb.size (fun r' hr' _ => hb.block r' hr'), ⟨hb.os, hb.tape, hb.output, hb.size, fun r' hr' => hb.block r' (hr.top r' hr')⟩⟩
  split
  · rename_i hK
    show valY Tryz.prog ((callFunc 49 #[.map (some r)]).run Tryz.prog w) (OutK B ρ w .nils h) (fun _ _ => False)
    rw [hrun]
    refine (main [] hK (by simp)).mono ?_
    rintro e w' ⟨v, ss, rfl, h2, h3, h4, h5⟩
    have hss : ss = [] := by simpa using h2.eq_nil
    have hv := h4.2 hss
    subst hv
    exact ⟨ρ, (kept w' h5).1, Rho.le_refl ρ, .nils, (kept w' h5).2⟩
  · rename_i k ks hK
    split
    case h_2 => trivial
    rename_i hup
    rw [Bool.and_eq_true, Nat.ble_eq] at hup
    rw [strsK_eq, nw_eq]
    cases hp : h.push? (.cells ((sortK (k :: ks)).map fun p => .str p.1 p.2)) with
    | none => trivial
    | some h' =>
    show valY Tryz.prog ((callFunc 49 #[.map (some r)]).run Tryz.prog w) (OutK B ρ w (.sl h.size 0 (ks.length + 1) (ks.length + 1) (some 1)) h') (fun _ _ => False)
    rw [hrun]
    refine (main _ hK (by simp; omega)).mono ?_
    rintro e w' ⟨v, ss, rfl, h2, h3, h4, h5⟩
    have hlen : ss.length = ks.length + 1 := by simpa using h2.length_eq
    have hsort : (ss.mergeSort fun x y => decide (x ≤ y)).map phi = sortK (k :: ks) := by
      have hb' : ((sortK (k :: ks)).map psi).map phi = sortK (k :: ks) := by
        rw [List.map_map]
        conv => rhs; rw [← List.map_id (sortK (k :: ks))]
        refine List.map_congr_left fun p hp => ?_
        have : p ∈ ss.map phi := h2.symm.mem_iff.1 ((sortK_perm _).mem_iff.1 hp)
        obtain ⟨b, _, rfl⟩ := List.mem_map.1 this
        simp [psi_phi]
      have hpw : ((sortK (k :: ks)).map psi).Pairwise (· < ·) := up_pairwise (by rw [hb']; exact hup.1)
      have hperm : ss.Perm ((sortK (k :: ks)).map psi) := by
        have := (h2.trans (sortK_perm (k :: ks)).symm).map psi
        rw [List.map_map] at this
        have e0 : ss.map (psi ∘ phi) = ss := by
          conv => rhs; rw [← List.map_id ss]
          exact List.map_congr_left fun b _ => psi_phi b
        rwa [e0] at this
      have e1 : ss.mergeSort (fun x y => decide (x ≤ y)) = ((sortK (k :: ks)).map psi).mergeSort (fun x y => decide (x ≤ y)) := mergeSort_of_perm hperm
      rw [e1, List.mergeSort_of_pairwise (hpw.imp fun {a b} hab => by simpa using List.le_of_lt hab), hb']
    rcases h3.2 with ⟨hnil, hz⟩ | ⟨g, cap, cur, hv, hbase, hgb, r1, r2, r3, r4⟩
    · omega
    subst hv
    obtain ⟨p1, p2⟩ := kept w' h5
    have hglt := (Array.getElem?_eq_some_iff.1 hgb).1
    have hsame : ({ w' with heap := w'.heap.setIfInBounds g (.cells cur 9 (0, 0)) } : World) = w' := by
      have : w'.heap.setIfInBounds g (.cells cur 9 (0, 0)) = w'.heap := by
        apply Array.ext_getElem?
        intro i
        by_cases hi : g = i
        · subst hi; rw [Array.getElem?_setIfInBounds_self_of_lt hglt, hgb]
        · rw [Array.getElem?_setIfInBounds_ne hi]
      rw [this]
    have hcells : BRep (ρ.add h.size (g, cur.size)) h' { w' with heap := w'.heap.setIfInBounds g (.cells cur 9 (0, 0)) } g cur.size (.cells ((sortK (k :: ks)).map fun p => .str p.1 p.2)) := by
      rw [hsame]
      have hl : ((sortK (k :: ks)).map fun p => G.str p.1 p.2).length = ss.length := by
        rw [← hsort]; simp
      refine ⟨cur, 9, hgb, rfl, ?_, ?_, ?_⟩
      · rw [hl]; omega
      · rw [hl]
        simp only [Nat.mul_one] at r4
        rw [r4, ← hsort, List.map_map]
        refine ⟨by simp, fun i u g' hu hg' => ?_⟩
        rw [List.getElem?_map, Option.map_eq_some_iff] at hu hg'
        obtain ⟨b, hb1, rfl⟩ := hu
        obtain ⟨b', hb2, rfl⟩ := hg'
        rw [hb1] at hb2; cases hb2
        exact .str _ _ _ (rfl) rfl
      · rw [hl]
        simp only [Nat.mul_one] at r4
        rw [r4]
        intro v hv
        obtain ⟨b, _, rfl⟩ := List.mem_map.1 hv
        rfl
    have hbind := p1.bind hp (r := g) (z := cur.size) (o := .cells cur 9 (0, 0)) (fun j r' z' _ hj => by have := (hr.lo j r' z' hj).2; omega) (fun hB => by have := hr.top g hB; omega) hglt hcells
    rw [hsame] at hbind
    refine ⟨_, hbind, p1.le_add _, ?_, p2⟩
    rw [← hlen]
    exact .sl _ g cur.size 0 _ _ cap (some 1) (by simp [Rho.add]) (Nat.le_refl _) r1 r2 (by show 0 + cap * 1 = cur.size; omega)
  · trivial

end Go.Gx

/- The ghost machine: calls; frames that leave with marks; rounds; all of it, by fuel. -/
namespace Go.Gx
open Go.Hk (TT TTok TyI Sh lk TyOk ShOk nth nth_eq)

/-- The marks that a frame leaves with are come to. -/
def Marks (P : Program) : List Deferred → World → World → Prop
  | [], w, w' => w' = w
  | d :: ds, w, w' => ∃ r w1, d.target = .collected r ∧ (Instr.takeDeferred r).run P w = .ok [] w1 ∧ Marks P ds w1 w'

section
variable {P : Program} {tb : Tab} {ih : Cfg → Res} {n : Nat} {fn : FuncId} {ro : Option Nat} {s s' : S} {d d' : List Nat} {h h' : GH} {g : G} {res : Res} {B : Bl} {ρ : Rho} {w : World} {a : Act} {b : Frame} {cs : List Frame} {is k : List Item} {Q : Exit → Act → World → Prop} {x : GX}

theorem marks_steps : ∀ (ds : List Deferred) (w w' : World) (fr : Frame), fr.mode ≠ .run → fr.defers = ds → Marks P ds w w' → Steps P (lone fr cs w) (lone { fr with defers := [] } cs w')
  | [], w, w', fr, hm, hd, h => by
    subst h
    have : ({ fr with defers := [] } : Frame) = fr := by rw [← hd]
    rw [this]; exact Steps.refl _ _
  | d :: ds, w, w', fr, hm, hd, ⟨r, w1, h1, h2, h3⟩ => by
    have s1 := step_collected (cs := cs) hm hd h1 h2
    exact .head s1 (marks_steps ds w1 w' { fr with defers := [] ++ ds } hm rfl h3)

/-- How a function's frame ends. -/
def endPostM (P : Program) (fc : Func) (R : Ending → World → Prop) : Exit → Act → World → Prop
  | .normal, a, w | .ret, a, w => ∃ w' v, Marks P a.defers w w' ∧ (results fc a.tmps).run P w' = .ok v w' ∧ R (.returned v) w'
  | .panic chain, a, w => ∃ w', Marks P a.defers w w' ∧ R (.panicked chain) w'
  | _, _, _ => False

theorem calls_of_reachM {f : FuncId} {fc : Func} {c : Code} {args : Array Value} {R : Ending → World → Prop} (hf : P.funcs[f]? = some fc) (hb : fc.body = some c)
    (h : ∀ (b : Frame) (cs : List Frame), b.fn = f → b.kind = .normal → b.roundOf = none → Hk.Reach P b cs (endPostM P fc R) [.code c] { tmps := args ++ Array.replicate (fc.ntmps - args.size) undef, defers := [] } w) :
    Calls P f args w R := by
  intro cs
  obtain ⟨b, hb0⟩ : ∃ b : Frame, b = { (default : Frame) with fn := f, kind := .normal } := ⟨_, rfl⟩
  have henter : Frame.enter P f args .normal = b.atR { tmps := args ++ Array.replicate (fc.ntmps - args.size) undef, defers := [] } [.code c] := by
    subst hb0; simp [Frame.enter, Frame.atR, hf, hb]; rfl
  have hfn : b.fn = f := by rw [hb0]
  have hk : b.kind = .normal := by rw [hb0]
  have hro : b.roundOf = none := by rw [hb0]; rfl
  obtain ⟨e, a', w', hq, harr⟩ := h b cs hfn hk hro
  rw [← henter] at harr
  cases e with
  | normal =>
    obtain ⟨w2, v, hm, hr, hR⟩ := hq
    refine ⟨.returned v, w2, { ({ b.atR a' [] with mode := .returning } : Frame) with defers := [] }, hR, Steps.trans harr (.head (stepR_end hro) (marks_steps a'.defers w' w2 { b.atR a' [] with mode := .returning } (by simp) rfl hm)), hfn, rfl, rfl, hk, fc, by rw [show ({ ({ b.atR a' [] with mode := .returning } : Frame) with defers := [] } : Frame).fn = f from hfn]; exact hf, hr⟩
  | ret =>
    obtain ⟨w2, v, hm, hr, hR⟩ := hq
    obtain ⟨todo, hs⟩ := harr
    refine ⟨.returned v, w2, { ({ b.atR a' (.code .ret :: todo) with mode := .returning } : Frame) with defers := [] }, hR, Steps.trans hs (.head (stepR_ret hro) (marks_steps a'.defers w' w2 { b.atR a' (.code .ret :: todo) with mode := .returning } (by simp) rfl hm)), hfn, rfl, rfl, hk, fc, by rw [show ({ ({ b.atR a' (.code .ret :: todo) with mode := .returning } : Frame) with defers := [] } : Frame).fn = f from hfn]; exact hf, hr⟩
  | panic chain =>
    obtain ⟨w2, hm, hR⟩ := hq
    obtain ⟨todo, hs⟩ := harr
    exact ⟨.panicked chain, w2, { ({ b.atR a' todo with mode := .panicking chain } : Frame) with defers := [] }, hR, Steps.trans hs (marks_steps a'.defers w' w2 { b.atR a' todo with mode := .panicking chain } (by simp) rfl hm), hfn, rfl, rfl, fc, by rw [show ({ ({ b.atR a' todo with mode := .panicking chain } : Frame) with defers := [] } : Frame).fn = f from hfn]; exact hf⟩
  | exit id => exact hq.elim
  | goto l => exact hq.elim
  | outgrown => exact hq.elim

theorem killM_ok : ∀ (d : List Nat) (rs : List Nat) (h : GH) (w : World) (k : GH → Res) (res : Res), killM d h k = res → res ≠ .fail → HRep B ρ h w → rs.length = d.length →
    (∀ (i r b : Nat), rs[i]? = some r → d[i]? = some b → ∃ z, ρ b = some (r, z)) → ∃ h2 w2, k h2 = res ∧ HRep B ρ h2 w2 ∧ Kept B w w2 ∧ Marks P (marksOf rs) w w2
  | [], [], h, w, k, res, e, _, hr, _, _ => ⟨h, w, e, hr, Kept.refl B w, rfl⟩
  | [], _ :: _, _, _, _, _, _, _, _, hl, _ => by simp at hl
  | _ :: _, [], _, _, _, _, _, _, _, hl, _ => by simp at hl
  | b :: d, r :: rs, h, w, k, res, e, hne, hr, hl, hd => by
    have e : (match h.get b with | .defd => wr h b .dead (fun h1 => killM d h1 k) .fail | _ => .fail) = res := e
    cases hg : h.get b <;> rw [hg] at e <;> first | (exact absurd e.symm hne) | skip
    simp only at e
    rw [wr_eq] at e
    cases hs : h.set? b .dead with
    | none => rw [hs] at e; exact absurd e.symm hne
    | some h1 =>
      rw [hs] at e
      simp only at e
      obtain ⟨z, hz⟩ := hd 0 r b rfl rfl
      have hb := hr.atρ hg rfl hz
      have ht := run_takeDeferred (P := P) (b := r) (ds := []) hb
      rw [putObj_eq] at ht
      have hr1 : HRep B ρ h1 { w with heap := w.heap.setIfInBounds r (.deferred none) } := hr.write1 hs (by rw [hg]; rfl) hz trivial (fun _ _ h => by cases h)
      obtain ⟨h2, w2, q1, q2, q3, q4⟩ := killM_ok d rs h1 _ k res e hne hr1 (by simpa using hl) (fun i r' b' p q => hd (i + 1) r' b' (by simpa using p) (by simpa using q))
      exact ⟨h2, w2, q1, q2, (Kept.write (hr.lo _ _ _ hz).1).trans q3, r, _, rfl, ht, q4⟩

theorem resG_ok (hc : Ctx3 P tb) (hr : HRep B ρ h w) {tmps : Array Value} (hs : SRep ρ s tmps) : ∀ (rs : List ResultVar) (gs : List G), resG tb.tt s h rs = some gs →
    ∃ vs : List Value, (rs.mapM (fun | .tmp t => pure (tmps.getD t undef) | .cell a t => do loadVar t (← asAddr (tmps.getD a undef)) : ResultVar → Sem Value)).run P w = .ok vs w ∧ RepGs ρ vs gs
  | [], gs, e => by cases e; exact ⟨[], rfl, .nil⟩
  | .tmp t :: r, gs, e => by
    simp only [resG] at e
    cases hr' : resG tb.tt s h r with
    | none => rw [hr'] at e; cases e
    | some gs' =>
      rw [hr'] at e; cases e
      obtain ⟨vs, q1, q2⟩ := resG_ok hc hr hs r gs' hr'
      exact ⟨_, by simp only [List.mapM_cons, Sem.run_bind, Sem.run_pure, Result.andThen_ok, q1], .mk (hs.2 t) q2⟩
  | .cell t ty :: r, gs, e => by
    simp only [resG] at e
    split at e
    · rename_i b o i gs' hg hl hr'
      split at e
      · rename_i l hb
        split at e
        · rename_i g hld
          cases e
          obtain ⟨vs, q1, q2⟩ := resG_ok hc hr hs r gs' hr'
          have hv := hs.2 t
          rw [hg] at hv
          generalize hvt : tmps.getD t Go.undef = vt at hv
          cases hv with
          | ptr _ rr z _ hρ =>
            obtain ⟨us, bt, p1, p2, p3, p4, p5⟩ := hr.atρ hb rfl hρ
            obtain ⟨v, hv, hrep⟩ := ldG_ok (P := P) (hc.c.ty ty i hl) p1 (by omega) p4 p5 hld
            have hv' : (loadVar ty ⟨rr, o, none⟩).run P w = .ok v w := by simpa [Instr.loadAt, Instr.sureAddr] using hv
            exact ⟨_, by simp only [List.mapM_cons, Sem.run_bind, Sem.run_pure, Result.andThen_ok, q1, hvt, Hk.run_asAddr, hv'], .mk hrep q2⟩
        · cases e
      · cases e
    · cases e

theorem results_G (hc : Ctx3 P tb) (hr : HRep B ρ h w) {tmps : Array Value} (hs : SRep ρ s tmps) {fc : Func} {gs : List G} (e : resG tb.tt s h fc.results.toList = some gs) : ∃ v, (results fc tmps).run P w = .ok v w ∧ RepG ρ v (resOfG gs) := by
  obtain ⟨vs, q1, q2⟩ := resG_ok hc hr hs _ _ e
  have hm : ∀ (f : ResultVar → Sem Value) (vs : List Value), (fc.results.toList.mapM f).run P w = .ok vs w → (fc.results.mapM f).run P w = .ok vs.toArray w := fun f vs hf => by
    rw [Array.mapM_eq_mapM_toList]
    change Sem.run P (List.mapM f fc.results.toList >>= fun l => pure l.toArray) w = _
    simp only [Sem.run_bind, hf, Sem.run_pure, Result.andThen_ok]
  have q := hm _ vs q1
  refine ⟨if h : vs.toArray.size = 1 then vs.toArray[0] else .tuple vs.toArray, ?_, ?_⟩
  · unfold results
    simp only [Sem.run_bind]
    exact Eq.trans (congrArg (Result.andThen · (fun vs w => Sem.run P (pure (if h : vs.size = 1 then vs[0] else .tuple vs)) w)) q) (by simp)
  · have tup : RepG ρ (.tuple vs.toArray) (.tup gs) := .tup _ _ (by simpa using q2.1) fun i c x hc hx => q2.2 i c x (by simpa using hc) hx
    match vs, gs, q2, tup with
    | [], [], _, tup => simpa [resOfG] using tup
    | [v], [d], h, _ => simpa [resOfG] using h.2 0 v d rfl rfl
    | v :: v' :: r, d :: d' :: s, _, tup => simpa [resOfG] using tup
    | [], _ :: _, h, _ => simp [RepGs] at h
    | _ :: _, [], h, _ => simp [RepGs] at h
    | [_], _ :: _ :: _, h, _ => simp [RepGs] at h
    | _ :: _ :: _, [_], h, _ => simp [RepGs] at h

theorem getS_argS : ∀ (gs : List G) (i : Nat) (s : S) (t : Nat), getS t (argS i gs s) = if i ≤ t ∧ t < i + gs.length then gs.getD (t - i) .undef else getS t s
  | [], i, s, t => by
    rw [if_neg (by simp <;> omega)]; rfl
  | g :: r, i, s, t => by
    show getS t (argS (i + 1) r (setS i s g)) = _
    rw [getS_argS r (i + 1) _ t, getS_setS]
    by_cases h1 : i + 1 ≤ t ∧ t < i + 1 + r.length
    · rw [if_pos h1, if_pos ⟨by omega, by simp; omega⟩]
      have : t - i = (t - (i + 1)) + 1 := by omega
      rw [this]; simp
    · rw [if_neg h1]
      by_cases h2 : t = i
      · subst h2; rw [if_pos rfl, if_pos ⟨Nat.le_refl _, by simp⟩]; simp
      · rw [if_neg h2, if_neg (by simp; omega)]

theorem argS_rep {xs : Array Value} {gs : List G} (h : RepGs ρ xs.toList gs) {m : Nat} (hm : gs.length ≤ m) (hm2 : m ≤ 256) : FRep ρ m (argS 0 gs S0) [] { tmps := xs ++ Array.replicate (m - xs.size) undef, defers := [] } := by
  have hl : xs.size = gs.length := by simpa using h.1
  have hsz : (xs ++ Array.replicate (m - xs.size) undef).size = m := by simp; omega
  refine ⟨⟨by simp only; omega, fun t => ?_⟩, hsz, [], rfl, rfl, fun i r b p => by simp at p⟩
  rw [getS_argS]
  by_cases ht : 0 ≤ t ∧ t < 0 + gs.length
  · rw [if_pos ht, Nat.sub_zero]
    have h1 : xs.toList[t]? = some xs[t] := by simp <;> omega
    have h2 : gs[t]? = some gs[t] := by simp <;> omega
    have := h.2 t _ _ h1 h2
    rw [List.getD_eq_getElem?_getD, h2, Array.getD_eq_getD_getElem?, Array.getElem?_append_left (by omega)]
    have h3 : xs[t]? = some xs[t] := by simp <;> omega
    rw [h3]; exact this
  · rw [if_neg ht]; exact .undef _

theorem gcall_ok (hc : Ctx3 P tb) (hih : ∀ c, CfgX P c (ih c)) (f : FuncId) (args : List G) (h : GH) : CfgS P (.call f args h) (gcall tb ih f args h) := by
  unfold gcall
  cases hh : hlk tb.hold f with
  | some t =>
    simp only
    split
    · rename_i g fi ca
      cases hg : tb.fn g with
      | none => exact fun B ρ w xs _ _ => trivial
      | some fc =>
      simp only
      cases hb : fc.body with
      | none => exact fun B ρ w xs _ _ => trivial
      | some c =>
      simp only
      rw [gappK_eq]
      obtain ⟨hf1, hf2⟩ := hc.fn g fc hg
      exact hc.hold f t hh g fi ca h _ fc c hf1 hf2 hb ((hih (.call g (id (fi ++ ca)) h)).s)
    · exact fun B ρ w xs _ _ => trivial
  | none =>
    simp only
    cases hso : memF tb.sorts f with
    | true => exact hc.sort f hso args h
    | false =>
    simp only
    cases hfn : tb.fn f with
    | none => exact fun B ρ w xs _ _ => trivial
    | some fc =>
    simp only
    cases hb : fc.body with
    | none => exact fun B ρ w xs _ _ => trivial
    | some c =>
    simp only
    obtain ⟨hf1, hf2⟩ := hc.fn f fc hfn
    cases hn1 : Nat.ble args.length fc.ntmps with
    | false => exact fun B ρ w xs _ _ => trivial
    | true =>
    cases hn2 : Nat.ble fc.ntmps 256 with
    | false => exact fun B ρ w xs _ _ => trivial
    | true =>
    simp only
    rw [Nat.ble_eq] at hn1 hn2
    cases hr : ih (.go fc.ntmps f none c (argS 0 args S0) [] h) with
    | fail => exact fun B ρ w xs _ _ => trivial
    | rv => exact fun B ρ w xs _ _ => trivial
    | rp => exact fun B ρ w xs _ _ => trivial
    | fr x s d h1 =>
    simp only
    intro B ρ w xs hrep hargs
    have hgo : GoS P fc.ntmps f none c (argS 0 args S0) [] h (.fr x s d h1) := by have := hih (.go fc.ntmps f none c (argS 0 args S0) [] h); rw [hr] at this; exact this
    rw [Hk.run_callFunc_body hf1 hf2 hb]
    generalize hres : killM d h1 _ = res
    have base : ∀ (R : Ending → World → Prop), (∀ ρ' a' w', HRep B ρ' h1 w' → ρ.le ρ' → FRep ρ' fc.ntmps s d a' → Kept B w w' → After P default [] (endPostM P fc R) ρ' x [] a' w' → True) → True := fun _ _ => trivial
    have main : ∀ (R : Ending → World → Prop), (∀ (b : Frame) (cs : List Frame) ρ' a' w', HRep B ρ' h1 w' → ρ.le ρ' → FRep ρ' fc.ntmps s d a' → Kept B w w' → After P b cs (endPostM P fc R) ρ' x [] a' w') → Calls P f xs w R := by
      intro R hR
      refine calls_of_reachM hf1 hb fun b cs hbf _ hbr => ?_
      exact hgo x s d h1 rfl B ρ w _ b cs [] _ ⟨hbf, by rw [hbr]; trivial, hrep, argS_rep hargs hn1 hn2⟩ fun ρ' a' w' hF hρ hk => hR b cs ρ' a' w' hF.h hρ hF.s hk
    have ret : ∀ v h2, res = .rv v h2 → (match resG tb.tt s h2 fc.results.toList with | some gs => Res.rv (resOfG gs) h2 | none => .fail) = .rv v h2 → ∀ ρ' a' w' w2, HRep B ρ' h2 w2 → ρ.le ρ' → FRep ρ' fc.ntmps s d a' → Kept B w w2 → Marks P a'.defers w' w2 →
        ∃ w3 v', Marks P a'.defers w' w3 ∧ (results fc a'.tmps).run P w3 = .ok v' w3 ∧ OutK B ρ w v h2 v' w3 := by
      intro v h2 _ e ρ' a' w' w2 q1 q2 q3 q4 q5
      cases hg : resG tb.tt s h2 fc.results.toList with
      | none => rw [hg] at e; cases e
      | some gs =>
        rw [hg] at e
        cases e
        obtain ⟨v', p1, p2⟩ := results_G hc q1 q3.s hg
        exact ⟨w2, v', q5, p1, ρ', q1, q2, p2, q4⟩
    cases res with
    | fail => trivial
    | fr => trivial
    | rv v h2 =>
      refine main (fun e w' => match e with | .returned v' => OutK B ρ w v h2 v' w' | .panicked _ => False | .outgrown => False) fun b cs ρ' a' w' q1 q2 q3 q4 => ?_
      obtain ⟨rs, r1, r2, r3⟩ := q3.d
      obtain ⟨h3, w3, p1, p2, p3, p4⟩ := killM_ok (P := P) d rs h1 w' _ _ hres (by simp) q1 r2 r3
      rw [← r1] at p4
      have hnorm : (match resG tb.tt s h3 fc.results.toList with | some gs => Res.rv (resOfG gs) h3 | none => .fail) = .rv v h2 → endPostM P fc (fun e w' => match e with | .returned v' => OutK B ρ w v h2 v' w' | .panicked _ => False | .outgrown => False) .normal a' w' := by
        intro e
        have : h3 = h2 := by
          cases hg : resG tb.tt s h3 fc.results.toList with
          | none => rw [hg] at e; cases e
          | some gs => rw [hg] at e; cases e; rfl
        subst this
        obtain ⟨w4, v', m1, m2, m3⟩ := ret v h3 rfl e ρ' a' w' w3 p2 q2 q3 (q4.trans p3) p4
        exact ⟨w4, v', m1, m2, m3⟩
      cases x with
      | norm => exact Hk.reach_end (hnorm p1)
      | ret => exact hnorm p1
      | exit id => cases p1
      | goto l => cases p1
      | pan v => cases p1
    | rp v h2 =>
      refine main (fun e w' => match e with | .returned _ => False | .panicked chain => PanK B ρ w v h2 chain w' | .outgrown => False) fun b cs ρ' a' w' q1 q2 q3 q4 => ?_
      obtain ⟨rs, r1, r2, r3⟩ := q3.d
      obtain ⟨h3, w3, p1, p2, p3, p4⟩ := killM_ok (P := P) d rs h1 w' _ _ hres (by simp) q1 r2 r3
      rw [← r1] at p4
      cases x with
      | norm => simp only at p1; split at p1 <;> cases p1
      | ret => simp only at p1; split at p1 <;> cases p1
      | exit id => cases p1
      | goto l => cases p1
      | pan u =>
        cases p1
        intro v' hv'
        exact ⟨w3, p4, ρ', v', rfl, p2, q2, hv', q4.trans p3⟩

end
end Go.Gx

/- The ghost machine: rounds; all of it, by fuel. -/
namespace Go.Gx
open Go.Hk (TT TTok TyI Sh lk TyOk ShOk nth nth_eq)

section
variable {P : Program} {tb : Tab} {ih : Cfg → Res} {n : Nat} {fn : FuncId} {ro : Option Nat} {s s' : S} {d d' : List Nat} {h h' : GH} {g : G} {res : Res} {B : Bl} {ρ : Rho} {w : World} {a : Act} {b : Frame} {cs : List Frame} {is k : List Item} {Q : Exit → Act → World → Prop} {x : GX}

/-- How a round's frame ends. -/
def roundQ (P : Program) (l : Nat) (R : Ending → World → Prop) : Exit → Act → World → Prop
  | .normal, _, w => ∃ v w', (Instr.endRound l none).run P w = .ok v w' ∧ R (.returned v) w'
  | .ret, _, w => ∃ v w', (Instr.endRound l (some .ret)).run P w = .ok v w' ∧ R (.returned v) w'
  | .exit id, _, w => ∃ v w', (Instr.endRound l (some (.exit id))).run P w = .ok v w' ∧ R (.returned v) w'
  | .goto t, _, w => ∃ v w', (Instr.endRound l (some (.goto t))).run P w = .ok v w' ∧ R (.returned v) w'
  | .panic chain, a, w => a.defers = [] ∧ R (.panicked chain) w
  | .outgrown, _, _ => False

theorem roundIn_of_reach {l : Nat} {f : FuncId} {fc : Func} {tmps : Array Value} {asg body : Code} {R : Ending → World → Prop} (hf : P.funcs[f]? = some fc)
    (h : ∀ (b : Frame) (cs : List Frame), b.fn = f → b.roundOf = some l → Hk.Reach P b cs (roundQ P l R) [.code asg, .beginRound, .code body] { tmps := tmps, defers := [] } w) : RoundIn Fence.wide 0 P l f tmps asg body w R := by
  refine ⟨trivial, fun c cs _ => ?_⟩
  obtain ⟨b, hb0⟩ : ∃ b : Frame, b = { (default : Frame) with fn := f, kind := .normal, roundOf := some l } := ⟨_, rfl⟩
  have henter : Frame.round l f tmps asg body .normal = b.atR { tmps := tmps, defers := [] } [.code asg, .beginRound, .code body] := by
    subst hb0; simp [Frame.round, Frame.atR]
  have hfn : b.fn = f := by rw [hb0]
  have hk : b.kind = .normal := by rw [hb0]
  have hro : b.roundOf = some l := by rw [hb0]
  obtain ⟨e, a', w', hq, harr⟩ := h b (c :: cs) hfn hro
  rw [← henter] at harr
  have ok : ∀ v w2, R (.returned v) w2 → Steps P (lone (Frame.round l f tmps asg body .normal) (c :: cs) w) (lone (c.finish v) cs w2) → ∃ e w', R e w' ∧ ComesIn (Machine.fenced P Fence.wide) P (lone (Frame.round l f tmps asg body .normal) (c :: cs) w)
      (match e with | .returned v => lone (c.finish v) cs w' | .panicked chain => lone (c.raise chain) cs w' | .outgrown => lone c cs w') e := fun v w2 hR hs => ⟨.returned v, w2, hR, comesIn_wide.2 hs⟩
  cases e with
  | normal =>
    obtain ⟨v, w2, hend, hR⟩ := hq
    exact ok v w2 hR (Steps.trans harr (.one (stepR_round_end hro hk hend)))
  | ret =>
    obtain ⟨v, w2, hend, hR⟩ := hq
    obtain ⟨k, hs⟩ := harr
    exact ok v w2 hR (Steps.trans hs (.one (stepR_round_ret hro hk hend)))
  | exit id =>
    obtain ⟨v, w2, hend, hR⟩ := hq
    obtain ⟨k, hx, hs⟩ := harr
    exact ok v w2 hR (Steps.trans hs (.one (stepR_round_exit hro hk hx hend)))
  | goto t =>
    obtain ⟨v, w2, hend, hR⟩ := hq
    obtain ⟨k, hx, hs⟩ := harr
    exact ok v w2 hR (Steps.trans hs (.one (stepR_round_goto hro hk hx hend)))
  | panic chain =>
    obtain ⟨hd, hR⟩ := hq
    obtain ⟨todo, hs⟩ := harr
    exact ⟨.panicked chain, w', hR, comesIn_wide.2 (Steps.trans hs (.one (step_leave_panicked ⟨rfl, hd, fc, by rw [show ({ b.atR a' todo with mode := .panicking chain } : Frame).fn = f from hfn]; exact hf⟩)))⟩
  | outgrown => exact hq.elim

theorem gendR_ok {l rl z : Nat} {pend : Option Code} {v : G} (e : gendR l h pend = .rv v h') (hr : HRep B ρ h w) (hl : ρ l = some (rl, z)) : ∃ w', (Instr.endRound rl pend).run P w = .ok (.bool pend.isNone) w' ∧ HRep B ρ h' w' ∧ RepG ρ (.bool pend.isNone) v ∧ Kept B w w' := by
  unfold gendR at e
  cases hg : h.get l <;> rw [hg] at e <;> first | (cases e; done) | skip
  rename_i st pend0 fn s n ps asg body db
  obtain ⟨lr, rd, zd, b1, b2, b3, b4, b5, b6⟩ := hr.atρ hg rfl hl
  obtain ⟨k1, k2, k3, k4, k5, k6⟩ := b2
  have hrun := run_endRound (P := P) pend b1
  rw [putObj_eq] at hrun
  have hlt := (hr.lo _ _ _ hl).2
  have hlive : (h.get l).isDead = false := by rw [hg]; rfl
  cases pend with
  | none =>
    simp only at e
    rw [wr_eq] at e
    cases hs : h.set? l (.loop .ready none fn s n ps asg body db) with
    | none => rw [hs] at e; cases e
    | some h1 =>
      rw [hs] at e
      cases e
      refine ⟨_, hrun, ?_, .bool _, Kept.write (hr.lo _ _ _ hl).1⟩
      exact hr.write1 hs hlive hl ⟨{ lr with state := .ready, pending := none }, rd, zd, by simp [hlt], ⟨rfl, rfl, k3, k4, k5, k6⟩, b3, b4, b5, b6⟩ (fun _ _ h => by cases h)
  | some c =>
    simp only at e
    rw [wr_eq] at e
    cases hs : h.set? l (.loop .done (some c) fn s n ps asg body db) with
    | none => rw [hs] at e; cases e
    | some h1 =>
      rw [hs] at e
      cases e
      refine ⟨_, hrun, ?_, .bool _, Kept.write (hr.lo _ _ _ hl).1⟩
      exact hr.write1 hs hlive hl ⟨{ lr with state := .done, pending := some c }, rd, zd, by simp [hlt], ⟨rfl, rfl, k3, k4, k5, k6⟩, b3, b4, b5, b6⟩ (fun _ _ h => by cases h)

theorem gendR_cases {l : Nat} {pend : Option Code} : gendR l h pend = .fail ∨ ∃ v h', gendR l h pend = .rv v h' := by
  unfold gendR
  split
  · split <;> (rw [wr_eq]; split <;> simp)
  · exact .inl rfl

theorem parS_ok {n : Nat} : ∀ (ps : List Nat) (args : List G) (s s1 : S) (xs : List Value) (tmps : Array Value), parS n ps args s = some s1 → RepGs ρ xs args → SRep ρ s tmps → tmps.size = n →
    ps.length = args.length ∧ SRep ρ s1 ((ps.zip xs).foldl (fun tmps (t, a) => tmps.setIfInBounds t a) tmps) ∧ ((ps.zip xs).foldl (fun tmps (t, a) => tmps.setIfInBounds t a) tmps).size = n
  | [], [], s, s1, xs, tmps, e, hx, hs, hn => by cases e; exact ⟨rfl, by simpa using hs, by simpa using hn⟩
  | [], _ :: _, _, _, _, _, e, _, _, _ => by cases e
  | _ :: _, [], _, _, _, _, e, _, _, _ => by cases e
  | t :: ts, g :: gs, s, s1, xs, tmps, e, hx, hs, hn => by
    cases xs with
    | nil => simp [RepGs] at hx
    | cons v vs =>
      simp only [parS] at e
      cases hb : Nat.blt t n with
      | false => rw [hb] at e; cases e
      | true =>
        rw [hb] at e
        rw [Nat.blt_eq] at hb
        obtain ⟨q1, q2, q3⟩ := parS_ok ts gs (setS t s g) s1 vs (tmps.setIfInBounds t v) e hx.cons.2 (hs.set (by omega) hx.cons.1) (by simpa using hn)
        exact ⟨by simp [q1], q2, q3⟩

theorem ground_ok (hc : Ctx3 P tb) (hih : ∀ c, CfgX P c (ih c)) (l : Nat) (args : List G) (h : GH) : CfgS P (.round l args h) (ground tb ih l args h) := by
  intro B ρ w xs rl zl hr hl hargs
  generalize hres : ground tb ih l args h = res
  unfold ground at hres
  cases hg : h.get l <;> rw [hg] at hres <;> first | (subst hres; trivial) | skip
  rename_i st pend fn s n ps asg body db
  simp only at hres
  cases hfn : tb.fn fn with
  | none => rw [hfn] at hres; subst hres; trivial
  | some fc =>
  rw [hfn] at hres
  simp only at hres
  cases hp : parS n ps.toList args s with
  | none => rw [hp] at hres; subst hres; trivial
  | some s1 =>
  rw [hp] at hres
  simp only at hres
  obtain ⟨lr, rd, zd, b1, b2, b3, b4, b5, b6⟩ := hr.atρ hg rfl hl
  obtain ⟨k1, k2, k3, k4, k5, k6⟩ := b2
  subst k3; subst k4; subst k5; subst k6
  obtain ⟨p1, p2, p3⟩ := parS_ok _ _ _ _ _ _ hp hargs b3 b4
  have hsz : xs.size = lr.params.size := by
    have := hargs.1
    simp at this p1
    omega
  rw [run_yield b1 hsz]
  have hfold : ((lr.params.zip xs).foldl (fun tmps (t, a) => tmps.setIfInBounds t a) lr.tmps) = ((lr.params.toList.zip xs.toList).foldl (fun tmps (t, a) => tmps.setIfInBounds t a) lr.tmps) := by
    rw [← Array.foldl_toList, Array.toList_zip]
  rw [← hfold] at p2 p3
  have main : ∀ (R : Ending → World → Prop), (∀ (b : Frame) (cs : List Frame), b.fn = lr.fn → b.roundOf = some rl → Hk.Reach P b cs (roundQ P rl R) [.code lr.assign, .beginRound, .code lr.body] { tmps := (lr.params.zip xs).foldl (fun tmps (t, a) => tmps.setIfInBounds t a) lr.tmps, defers := [] } w) →
      RoundIn Fence.wide 0 P rl lr.fn ((lr.params.zip xs).foldl (fun tmps (t, a) => tmps.setIfInBounds t a) lr.tmps) lr.assign lr.body w R := fun R hR => roundIn_of_reach (hc.fn _ _ hfn).1 hR
  -- the walk of a round
  have walk : res ≠ .fail → ∀ (R : Ending → World → Prop), (∀ v g h' w', res = .rv g h' → OutK B ρ w g h' v w' → R (.returned v) w') → (∀ chain g h' w', res = .rp g h' → PanK B ρ w g h' chain w' → R (.panicked chain) w') →
      RoundIn Fence.wide 0 P rl lr.fn ((lr.params.zip xs).foldl (fun tmps (t, a) => tmps.setIfInBounds t a) lr.tmps) lr.assign lr.body w R := by
    intro hne R hRv hRp
    refine main R fun b cs hbf hbr => ?_
    have hgo1 := hih (.go n lr.fn (some l) lr.assign s1 [] h)
    cases h1e : ih (.go n lr.fn (some l) lr.assign s1 [] h) with
    | fr x1 s2 d2 h2 =>
      rw [h1e] at hres hgo1
      cases x1 with
      | norm =>
        cases d2 with
        | nil =>
          simp only at hres
          refine hgo1 _ _ _ _ rfl B ρ w _ b cs [.beginRound, .code lr.body] _ ⟨hbf, by rw [hbr]; exact ⟨zl, hl⟩, hr, p2, p3, [], rfl, rfl, fun i r b p => by simp at p⟩ fun ρ1 a1 w1 hF1 hρ1 hk1 => ?_
          show Hk.Reach P b cs _ [.beginRound, .code lr.body] a1 w1
          cases h2g : h2.get l <;> rw [h2g] at hres <;> first | (exact absurd hres.symm hne) | skip
          rename_i st2 pend2 fn2 s22 n2 ps2 asg2 body2 db2
          cases st2 <;> first | (exact absurd hres.symm hne) | skip
          simp only at hres
          rw [wr_eq] at hres
          cases h3e : h2.set? l (.loop .busy pend2 fn2 s22 n2 ps2 asg2 body2 db2) with
          | none => rw [h3e] at hres; exact absurd hres.symm hne
          | some h3 =>
          rw [h3e] at hres
          simp only at hres
          have hl1 := hρ1 _ _ hl
          obtain ⟨lr2, rd2, zd2, c1, c2, c3, c4, c5, c6⟩ := hF1.h.atρ h2g rfl hl1
          obtain ⟨m1, m2, m3, m4, m5, m6⟩ := c2
          have hbeg := run_beginRound (P := P) c1 m1
          rw [putObj_eq] at hbeg
          have hlt := (hF1.h.lo _ _ _ hl1).2
          have hr3 : HRep B ρ1 h3 { w1 with heap := w1.heap.setIfInBounds rl (.loop { lr2 with state := .busy }) } :=
            hF1.h.write1 h3e (by rw [h2g]; rfl) hl1 ⟨{ lr2 with state := .busy }, rd2, zd2, by simp [hlt], ⟨rfl, m2, m3, m4, m5, m6⟩, c3, c4, c5, c6⟩ (fun _ _ h => by cases h)
          have hk3 : Kept B w { w1 with heap := w1.heap.setIfInBounds rl (.loop { lr2 with state := .busy }) } := hk1.trans (Kept.write (hF1.h.lo _ _ _ hl1).1)
          refine Hk.Reach.step (stepR_beginRound hbr hbeg) ?_
          have hgo2 := hih (.go n lr.fn (some l) lr.body s2 [] h3)
          cases h4e : ih (.go n lr.fn (some l) lr.body s2 [] h3) with
          | fr x4 s4 d4 h4 =>
            rw [h4e] at hres hgo2
            cases d4 with
            | cons => exact absurd hres.symm hne
            | nil =>
            simp only at hres
            refine hgo2 _ _ _ _ rfl B ρ1 _ a1 b cs [] _ ⟨hbf, hF1.ro, hr3, hF1.s⟩ fun ρ2 a2 w2 hF2 hρ2 hk2 => ?_
            have hl2 := hρ2 _ _ hl1
            have fin : ∀ pend, gendR l h4 pend = res → ∃ v w', (Instr.endRound rl pend).run P w2 = .ok v w' ∧ R (.returned v) w' := by
              intro pend hp
              rcases gendR_cases (h := h4) (l := l) (pend := pend) with hf | ⟨v, h5, hv⟩
              · rw [hf] at hp; exact absurd hp.symm hne
              · rw [hv] at hp
                obtain ⟨w5, q1, q2, q3, q4⟩ := gendR_ok (P := P) hv hF2.h hl2
                exact ⟨_, w5, q1, hRv _ v h5 w5 hp.symm ⟨ρ2, q2, Rho.le_trans hρ1 hρ2, q3, (hk3.trans hk2).trans q4⟩⟩
            cases x4 with
            | norm => exact Hk.reach_end (fin none hres)
            | ret => exact fin (some .ret) hres
            | exit id => exact fin (some (.exit id)) hres
            | goto t => exact fin (some (.goto t)) hres
            | pan g =>
              intro v hv
              obtain ⟨rs, r1, r2, _⟩ := hF2.s.d
              have hrs : rs = [] := by cases rs with | nil => rfl | cons => simp at r2
              subst hrs
              exact ⟨r1, hRp _ g h4 w2 hres.symm ⟨ρ2, v, rfl, hF2.h, Rho.le_trans hρ1 hρ2, hv, hk3.trans hk2⟩⟩
          | _ => rw [h4e] at hres; exact absurd hres.symm hne
        | cons => exact absurd hres.symm hne
      | _ => exact absurd hres.symm hne
    | _ => rw [h1e] at hres; exact absurd hres.symm hne
  cases res with
  | fail => trivial
  | fr => trivial
  | rv g h' =>
    exact walk (by simp) _ (fun v g' h'' w' e ho => by cases e; exact ho) (fun chain g' h'' w' e => by cases e)
  | rp g h' =>
    exact walk (by simp) _ (fun v g' h'' w' e => by cases e) (fun chain g' h'' w' e ho => by cases e; exact ho)

/-- All of it. -/
theorem gx_ok (hc : Ctx3 P tb) : ∀ (f : Nat) (c : Cfg), CfgX P c (gx tb f c)
  | 0, c => by
    cases c with
    | go => exact Items.fail
    | call => exact fun _ _ _ _ _ _ => trivial
    | round => exact fun _ _ _ _ _ _ _ _ _ => trivial
  | f + 1, c => by
    show CfgX P c (gstep tb (gx tb f) c)
    cases c with
    | go n fn ro c s d h => exact gcode_ok hc (gx_ok hc f) c s d h
    | call g args h => exact gcall_ok hc (gx_ok hc f) g args h
    | round l args h => exact ground_ok hc (gx_ok hc f) l args h

end
end Go.Gx

namespace Go.Gx
open Go.Hk (TT TTok)

/-! ### A state written anew -/
/-! ### Pieces of a body -/
/-- From a state of the ghost on the rest of a body leads to its end. -/
def At (P : Program) (fc : Func) (n : Nat) (fn : FuncId) (R : Ending → World → Prop) (Br : Nat → Prop) (w0 : World) (c : Code) (s : S) (h : GH) : Prop :=
  ∀ ρ w a b cs, Fr ⟨Br, fun _ => False⟩ n fn none b ρ s [] h a w → Kept ⟨Br, fun _ => False⟩ w0 w → Hk.Reach P b cs (Hk.endPost P fc R) [.code c] a w

section
variable {P : Program} {tb : Tab} {fc : Func} {n : Nat} {fn : FuncId} {R : Ending → World → Prop} {Br : Nat → Prop} {w0 : World}

/-- The last piece: it returns a value. -/
noncomputable def lastB (tb : Tab) (rs : List ResultVar) (q : Res) : Bool := match q with
  | .fr .ret s [] h => match resG tb.tt s h rs with
    | some [.bool b] => b
    | _ => false
  | _ => false

theorem at_last (hc : Ctx3 P tb) (fuel : Nat) {c : Code} {s : S} {h : GH} (he : lastB tb fc.results.toList (gcode tb (gx tb fuel) n fn none c s [] h) = true) (hR : ∀ w, Kept ⟨Br, fun _ => False⟩ w0 w → R (.returned (.bool true)) w) : At P fc n fn R Br w0 c s h := by
  intro ρ w a b cs hF hk
  unfold lastB at he
  split at he
  · rename_i s' h' hg
    refine gcode_ok hc (gx_ok hc fuel) c s [] h _ _ _ _ hg ⟨Br, fun _ => False⟩ ρ w a b cs [] _ hF fun ρ' a' w' hF' _ hk' => ?_
    split at he
    · rename_i bb hrs
      subst he
      obtain ⟨v, k1, k2⟩ := results_G hc hF'.h hF'.s.s hrs
      have hv : v = .bool true := k2.boolInv
      subst hv
      obtain ⟨rs, d1, d2, _⟩ := hF'.s.d
      have : rs = [] := List.length_eq_zero_iff.1 d2
      subst this
      exact ⟨d1, _, k1, hR w' (hk.trans hk')⟩
    · cases he
  · cases he

/-- A function without parameters that returns true: nothing that was there is changed. -/
theorem pure_at {f : FuncId} {c : Code} (hf : P.funcs[f]? = some fc) (hname : (fc.name == "runtime.NumGoroutine") = false) (hb : fc.body = some c) (hn : fc.ntmps ≤ 256)
    (h : ∀ (R : Ending → World → Prop) (Br : Nat → Prop) (w0 : World), (∀ w, Kept ⟨Br, fun _ => False⟩ w0 w → R (.returned (.bool true)) w) → At P fc fc.ntmps f R Br w0 c S0 ⟨0, .e⟩) : Hk.PureC P f [] (.bool true) := by
  intro I μ w xs hst hxs
  have hx0 : xs = #[] := by
    have := hxs.1
    simp at this
    exact Array.eq_empty_of_size_eq_zero (by simpa using this)
  subst hx0
  rw [Hk.run_callFunc_body hf hname hb]
  show Calls P f #[] w _
  refine Hk.calls_of_reach hf hb fun b cs hbf hk hro => ?_
  refine h _ (fun r => r < w.heap.size) w ?_ (fun _ => none) w _ b cs ⟨hbf, ?_, ?_, ?_⟩ (Kept.refl _ _)
  · intro w' hk
    refine ⟨I, μ, .imm _ _ (.bool true), ?_, Hk.Pin.refl _ _, ?_⟩
    · exact { imm := fun b o ho => (hk.block b (Array.getElem?_eq_some_iff.1 (hst.imm b o ho)).1).trans (hst.imm b o ho),
              blk := fun id blk hl => (by cases hl), apart := fun id blk g b hl => (by cases hl), inj := fun i j bi bj gi gj b hl => (by cases hl), nodup := .nil, idsFree := fun id hi => (by cases hi) }
    · exact { imm := Hk.Imm.le_refl I, os := hk.os, tape := hk.tape, output := hk.output, size := hk.size, block := fun b hb _ => hk.block b hb, fresh := fun b _ ho => ho, old := fun _ _ _ => rfl }
  · rw [hro]; trivial
  · exact { blk := fun b r z _ h => (by cases h), inj := fun b b' r z z' _ _ h => (by cases h), lo := fun b r z h => (by cases h), dom := fun b x h => (by cases h), top := fun r hr => hr, pl := fun _ _ _ h => h, pt := fun _ h => h.elim }
  · have := argS_rep (ρ := fun _ => none) (xs := #[]) (gs := []) ⟨rfl, fun i v g h => by simp at h⟩ (m := fc.ntmps) (by simp) hn
    exact this

end
end Go.Gx
