/- A function that does something and tells whether it gave up: out of its walk what the ghost machine makes of it. (And what it stands on.) -/
import Derived.Test.YtmbfpjbnckfjhaaGreatWc

namespace Go.Gx

/-- What the walk shows of it. -/
def HoldsSpec (P : Program) (f : FuncId) (t tb : TypeId) : Prop := ∀ (g : FuncId) (fi ca : Array Value) (w : World) (K Kp : World → Prop),
  (callFunc g (fi ++ ca)).run P (w.alloc (.cells #[.bool false] tb)) = .ok (.enter g (fi ++ ca)) (w.alloc (.cells #[.bool false] tb)) →
  Calls P g (fi ++ ca) (w.alloc (.cells #[.bool false] tb)) (fun e w' => match e with
    | .returned _ => K w'
    | .panicked chain => chain = [{ v := .iface t (.agg #[]), recovered := false }] ∧ Kp w'
    | .outgrown => False) →
  (∀ w', K w' → w'.heap[w.heap.size]? = some (.cells #[.bool false] tb (0, 0))) → (∀ w', Kp w' → w'.heap[w.heap.size]? = some (.cells #[.bool false] tb (0, 0))) →
  Calls P f #[.func (.func g) fi ca] w fun e w' => (e = .returned (.bool true) ∧ ∃ w1, K w1 ∧ w' = w1.setCell ⟨w.heap.size, 0, none⟩ (.bool true)) ∨
    (e = .returned (.bool false) ∧ ∃ w1, Kp w1 ∧ w' = (w1.setCell ⟨w.heap.size, 0, none⟩ (.bool false)).alloc (.cells #[] t))

theorem setCell_block {w : World} {b : Nat} {v x : Value} {t : TypeId} (h : w.heap[b]? = some (.cells #[x] t (0, 0))) : w.setCell ⟨b, 0, none⟩ v = { w with heap := w.heap.setIfInBounds b (.cells #[v] t (0, 0)) } := by
  obtain ⟨hb, hx⟩ := Array.getElem?_eq_some_iff.1 h
  have : ∀ (A : Array Obj) (f : Obj → Obj), A[b]? = some (.cells #[x] t (0, 0)) → A.modify b f = A.setIfInBounds b (f (.cells #[x] t (0, 0))) := by
    intro A f hA
    apply Array.ext_getElem?
    intro i
    rw [Array.getElem?_modify, Array.getElem?_setIfInBounds]
    by_cases hi : b = i
    · subst hi; rw [if_pos rfl, if_pos rfl, hA]; simp [(Array.getElem?_eq_some_iff.1 hA).1]
    · rw [if_neg hi, if_neg hi]
  unfold World.setCell
  rw [this _ _ h]
  rfl

/-- Blocks for which nothing of the ghost stands may change. -/
theorem HRep.change {B B' : Bl} {ρ : Rho} {h : GH} {w w2 : World} (hr : HRep B' ρ h w) (hsub : ∀ r, B.r r → B'.r r) (hp : B'.p = B.p) (hsz : w.heap.size ≤ w2.heap.size) (hs : ∀ r, r < w.heap.size → ¬ B'.r r → w2.heap[r]? = w.heap[r]?) : HRep B ρ h w2 :=
  { blk := fun b r z hb h1 => (hr.blk b r z hb h1).frame (Rho.le_refl ρ) (hs r (hr.lo b r z h1).2 (hr.lo b r z h1).1) fun _ _ _ _ kv rm zm _ hm hk => .inl ⟨kv, hk, hs rm (hr.lo _ _ _ hm).2 (hr.lo _ _ _ hm).1⟩,
    inj := hr.inj, lo := fun b r z h1 => ⟨fun hB => (hr.lo b r z h1).1 (hsub r hB), Nat.lt_of_lt_of_le (hr.lo b r z h1).2 hsz⟩, dom := hr.dom, top := fun r hB => Nat.lt_of_lt_of_le (hr.top r (hsub r hB)) hsz, pl := by rw [← hp]; exact hr.pl, pt := by rw [← hp]; exact hr.pt }

theorem hold_of {P : Program} {f : FuncId} {t tb : TypeId} {fn : Func} {cf : Code} (hf : P.funcs[f]? = some fn) (hn : (fn.name == "runtime.NumGoroutine") = false) (hb : fn.body = some cf) (hs : HoldsSpec P f t tb) : HoldOk P f t := by
  intro g fi ca h res fc c hgf hgn hgb hS B ρ w xs hr hargs
  have hxs : ∃ first cap : Array Value, xs = #[.func (.func g) first cap] ∧ RepGs ρ (first ++ cap).toList (fi ++ ca) := by
    obtain ⟨l, rfl⟩ : ∃ l : List Value, xs = l.toArray := ⟨xs.toList, by simp⟩
    rw [List.toList_toArray] at hargs
    match l, hargs with
    | [v], hargs =>
      have hv := hargs.cons.1
      cases hv with
      | fn _ first cap _ _ h1 h2 h3 h4 =>
        refine ⟨first, cap, rfl, ?_⟩
        rw [Array.toList_append]
        exact RepGs.append ⟨by simpa using h1, fun i v g p q => h3 i v g (by simpa using p) q⟩ ⟨by simpa using h2, fun i v g p q => h4 i v g (by simpa using p) q⟩
    | [], hargs => simp [RepGs] at hargs
    | _ :: _ :: _, hargs => simp [RepGs] at hargs
  obtain ⟨first, cap, rfl, hg⟩ := hxs
  rw [Hk.run_callFunc_body hf hn hb]
  have hheap : (w.alloc (.cells #[.bool false] tb)).heap = w.heap.push (.cells #[.bool false] tb (0, 0)) := by rw [alloc_eq]
  have hgrow : ∀ r, r < w.heap.size → (w.alloc (.cells #[.bool false] tb)).heap[r]? = w.heap[r]? := fun r hr => by
    rw [hheap]; simp [Array.getElem?_push, Nat.ne_of_lt hr]
  have hself : (w.alloc (.cells #[.bool false] tb)).heap[w.heap.size]? = some (.cells #[.bool false] tb (0, 0)) := by rw [hheap]; simp
  have hsize : (w.alloc (.cells #[.bool false] tb)).heap.size = w.heap.size + 1 := by rw [hheap]; simp
  -- the block of the result is kept
  have hr1 : HRep ⟨fun r => B.r r ∨ r = w.heap.size, B.p⟩ ρ h (w.alloc (.cells #[.bool false] tb)) := by
    have h0 : HRep B ρ h (w.alloc (.cells #[.bool false] tb)) := hr.change (fun _ h => h) rfl (by omega) fun r hr _ => hgrow r hr
    exact { blk := h0.blk, inj := h0.inj, lo := fun b r z h1 => ⟨fun hB => hB.elim (h0.lo b r z h1).1 fun e => by have := (hr.lo b r z h1).2; omega, (h0.lo b r z h1).2⟩, dom := h0.dom,
            top := fun r hB => hB.elim (h0.top r) fun e => by omega, pl := h0.pl, pt := h0.pt }
  have hcall := hS ⟨fun r => B.r r ∨ r = w.heap.size, B.p⟩ ρ _ (first ++ cap) hr1 hg
  have hrun := Hk.run_callFunc_body (w := w.alloc (.cells #[.bool false] tb)) hgf hgn hgb (first ++ cap)
  rw [hrun] at hcall
  have hk0 : Kept B w (w.alloc (.cells #[.bool false] tb)) := Kept.push hr.top
  have keep : ∀ w1, Kept ⟨fun r => B.r r ∨ r = w.heap.size, B.p⟩ (w.alloc (.cells #[.bool false] tb)) w1 → w1.heap[w.heap.size]? = some (.cells #[.bool false] tb (0, 0)) := fun w1 hk => (hk.block _ (.inr rfl)).trans hself
  have fin : ∀ (ρ1 : Rho) (h1 : GH) (w1 : World) (x : Value), HRep ⟨fun r => B.r r ∨ r = w.heap.size, B.p⟩ ρ1 h1 w1 → Kept ⟨fun r => B.r r ∨ r = w.heap.size, B.p⟩ (w.alloc (.cells #[.bool false] tb)) w1 →
      HRep B ρ1 h1 (w1.setCell ⟨w.heap.size, 0, none⟩ x) ∧ Kept B w (w1.setCell ⟨w.heap.size, 0, none⟩ x) := by
    intro ρ1 h1 w1 x q1 q2
    have hc := keep w1 q2
    rw [setCell_block hc]
    refine ⟨q1.change (fun _ h => .inl h) rfl (by simp) fun r _ hB => ?_, ⟨q2.os, q2.tape, q2.output, ?_, fun r hB => ?_⟩⟩
    · have : r ≠ w.heap.size := fun e => hB (.inr e)
      simp [Array.getElem?_setIfInBounds_ne (Ne.symm this)]
    · have := q2.size; simp; omega
    · have hlt := hr.top r hB
      have : w.heap.size ≠ r := by omega
      simp only [Array.getElem?_setIfInBounds_ne this]
      exact (q2.block r (.inl hB)).trans (hgrow r hlt)
  cases res with
  | fail => trivial
  | fr => trivial
  | rv v h1 =>
    have hcall : Calls P g (first ++ cap) (w.alloc (.cells #[.bool false] tb)) (fun e w' => match e with | .returned v' => OutK ⟨fun r => B.r r ∨ r = w.heap.size, B.p⟩ ρ (w.alloc (.cells #[.bool false] tb)) v h1 v' w' | .panicked _ => False | .outgrown => False) := hcall
    refine Calls.mono (hs g first cap w (fun w1 => ∃ ρ1, HRep ⟨fun r => B.r r ∨ r = w.heap.size, B.p⟩ ρ1 h1 w1 ∧ ρ.le ρ1 ∧ Kept ⟨fun r => B.r r ∨ r = w.heap.size, B.p⟩ (w.alloc (.cells #[.bool false] tb)) w1) (fun _ => False) hrun (Calls.mono hcall ?_) (fun w1 ⟨_, _, _, hk⟩ => keep w1 hk) (fun _ h => h.elim)) ?_
    · intro e w1 he
      cases e with
      | returned v1 => obtain ⟨ρ1, g1, g2, g3, g4⟩ := he; exact ⟨ρ1, g1, g2, g4⟩
      | panicked => exact he.elim
      | outgrown => exact he.elim
    · rintro e w2 (⟨rfl, w1, ⟨ρ1, g1, g2, g3⟩, rfl⟩ | ⟨_, _, hf, _⟩)
      · obtain ⟨k1, k2⟩ := fin ρ1 h1 w1 (.bool true) g1 g3
        exact ⟨ρ1, k1, g2, .bool true, k2⟩
      · exact hf.elim
  | rp v h1 =>
    unfold holdR
    split
    · rename_i hh; cases hh
    · rename_i t' g' _ hh
      cases hh
      split
      · rename_i l
        split
        · cases htt : Nat.beq t' t with
          | false => trivial
          | true =>
            have htt := Nat.eq_of_beq_eq_true htt
            subst htt
            have hcall : Calls P g (first ++ cap) (w.alloc (.cells #[.bool false] tb)) (fun e w' => match e with | .returned _ => False | .panicked chain => PanK ⟨fun r => B.r r ∨ r = w.heap.size, B.p⟩ ρ (w.alloc (.cells #[.bool false] tb)) (.if_ t' (.agg [])) h1 chain w' | .outgrown => False) := hcall
            refine Calls.mono (hs g first cap w (fun _ => False) (fun w1 => ∃ ρ1, HRep ⟨fun r => B.r r ∨ r = w.heap.size, B.p⟩ ρ1 h1 w1 ∧ ρ.le ρ1 ∧ Kept ⟨fun r => B.r r ∨ r = w.heap.size, B.p⟩ (w.alloc (.cells #[.bool false] tb)) w1) hrun (Calls.mono hcall ?_) (fun _ h => h.elim) (fun w1 ⟨_, _, _, hk⟩ => keep w1 hk)) ?_
            · intro e w1 he
              cases e with
              | returned v1 => exact he.elim
              | panicked chain =>
                obtain ⟨ρ1, v1, g0, g1, g2, g3, g4⟩ := he
                cases g3 with
                | if_ _ x _ hx =>
                  cases hx with
                  | agg cs l hl _ _ =>
                    have : cs = #[] := Array.eq_empty_of_size_eq_zero (by simpa using hl)
                    subst this
                    exact ⟨g0, ρ1, g1, g2, g4⟩
              | outgrown => exact he.elim
            · rintro e w2 (⟨_, _, hf, _⟩ | ⟨rfl, w1, ⟨ρ1, g1, g2, g3⟩, rfl⟩)
              · exact hf.elim
              · obtain ⟨k1, k2⟩ := fin ρ1 h1 w1 (.bool false) g1 g3
                refine ⟨ρ1, k1.change (fun _ h => h) rfl (by rw [alloc_eq]; simp) (fun r hr _ => by rw [alloc_eq]; rw [Array.getElem?_push, if_neg (Nat.ne_of_lt hr)]), g2, .bool false, k2.trans (Kept.push k1.top)⟩
        · trivial
      · trivial
    · trivial

end Go.Gx

namespace Go.Gx
/-- A method of a type itself, that takes its receiver by value. -/
def methB (P : Program) (t : TypeId) (m : String) (f : FuncId) : Bool := match P.info? t with
  | some i => match i.methods.find? (·.name == m) with
    | some r => r.path.toList.isEmpty && (match r.func with
      | some (f', pr) => Nat.beq f' f && !pr
      | none => false) && (match P.underlying t with
      | some (.pointer _) => false
      | some _ => true
      | none => false)
    | none => false
  | none => false

theorem meth_of {P : Program} {t : TypeId} {m : String} {f : FuncId} (h : methB P t m f = true) (n : Nat) (v : Value) (w : World) : (method (n + 1) t v m).run P w = .ok (f, v) w := by
  unfold methB at h
  split at h
  · rename_i i hi
    split at h
    · rename_i r hr
      simp only [Bool.and_eq_true] at h
      obtain ⟨⟨h1, h2⟩, h3⟩ := h
      split at h2
      · rename_i f' pr hf
        simp only [Bool.and_eq_true, Bool.not_eq_true'] at h2
        have hff := Nat.eq_of_beq_eq_true h2.1
        subst hff
        have hpr := h2.2
        subst hpr
        have hp : r.path.toList = [] := List.isEmpty_iff.1 h1
        split at h3
        · cases h3
        · rename_i u hne hu
          have hrecv : ∀ wr, (receiverAt t (.val v) false wr).run P w = .ok v w := fun wr => by
            unfold receiverAt
            rw [Sem.run_bind, run_underlying hu, Result.andThen_ok]
            cases u <;> first | rfl | exact absurd rfl (hne _)
          simp only [method, typeInfo, Sem.run_bind, run_program, Result.andThen_ok, hi, hr, hp, follow, Sem.run_pure, hf, hrecv]
        · cases h3
      · cases h2
    · cases h
  · cases h
end Go.Gx
