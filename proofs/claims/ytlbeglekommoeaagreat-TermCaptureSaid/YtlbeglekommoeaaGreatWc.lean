/- Rows that are owned, by name and by address. (And what it stands on.) -/
import Derived.Test.YtlbeglekommoeaaGreatWb
import Derived.MapKept
import Derived.Test.YtlbeglekommoeaaGreatProg
import Derived.WalkKit
import Derived.RowKit3
import Derived.Laws.NewBlocks
import Derived.Defers
import Derived.Recover
set_option linter.unusedSimpArgs false
set_option linter.unusedVariables false

/- Strings that are gone through, rune by rune; maps that are zbx. -/
namespace Go.Hk
structure PRng where
  s : List UInt8
  id' : Nat
  ids' : List Nat
  dst : Option Nat
  todo : List DI
def prng (tt : TT) (n : Nat) (env : Env) (ids : List Nat) (todo : List DI) : Option PRng :=
  match yer todo, ids with
  | some o, id' :: ids' => match o.guard, o.op with
    | none, .range t x => match lk tt t, evO env x, zc2 n o.dst, zce todo ([], [id']) with
      | some { sh := .str, .. }, some (.imm (.str s)), true, some (_, _, todo') => some ⟨s, id', ids', o.dst, todo'⟩
      | _, _, _, _ => none
    | _, _ => none
  | _, _ => none
structure PNxt where
  s : List UInt8
  pos : Nat
  id : Nat
  dst : Option Nat
  todo : List DI
def pnxt (n : Nat) (env : Env) (st : St) (wr : Bool) (todo : List DI) : Option PNxt :=
  match yer todo with
  | some o => match o.guard, o.op with
    | none, .next x true => match evO env x, zc2 n o.dst with
      | some (.iter id), true => match lk st id, zce todo ([id], bif wr then [id] else []) with
        | some (some (.siter s pos)), some (_, _, todo') => some ⟨s, pos, id, o.dst, todo'⟩
        | _, _ => none
      | _, _ => none
    | _, _ => none
  | none => none
def zew (s : List UInt8) (pos : Nat) : Nat × Nat := Utf8.decode ⟨s.toArray⟩ pos
section
variable {P : Program} {n : Nat} {F : List Nat} {Q : DQ} {tt : TT} {env env' : Env} {st st' : St} {ids ids' : List Nat} {k todo todo' : List DI} {I : Imm} {μ : Mu} {w : World} {a : Act} {Pn : V → Prop} {d : D} {cx : Prop} {ob : List Prop}
theorem zet {s : Sem Value} {v : Value} {w' : World} (h : s.run P w = .ok v w') : (do pure (.value (← s)) : Sem Next).run P w = .ok (.value v) w' := by simp [h]
theorem RepD.iterInv {v : Value} {id : Nat} (h : RepD I μ v (.iter id)) : ∃ b, v = .pointer (some ⟨b, 0, none⟩) ∧ μ id = some v := by
  cases h with
  | iter _ b h => exact ⟨b, rfl, h⟩
theorem yj9 (htt : TTok P tt) {s0 : List UInt8} {i0 : Nat} {ids0 : List Nat} {d0 : Option Nat} {todo0 : List DI} (h : prng tt n env ids todo = some ⟨s0, i0, ids0, d0, todo0⟩) (hk : G P n F Q todo0 (zdz d0 (.iter i0) env) ((i0, some (.siter s0 0)) :: st) ids0) : G P n F Q todo env st ids := by
  unfold prng at h
  split at h
  · rename_i o id' ids' ho
    split at h
    · rename_i t x hg hop
      split at h
      · rename_i _ _ _ _ s all o' todo' ht hx hd h1
        cases h
        have ho' : o' = o := zdn ho h1
        subst ho'
        refine zcv (fr := [i0]) (wr := [(i0, some (.siter s0 0))]) (rd := []) h1 ?_ hd (fun c hc => by rw [hop] at hc; cases hc) hk
        intro I μ st1 ids1 a w hag hst hon
        refine ⟨fun _ => ?_, fun hw => by rw [zau hg] at hw; cases hw⟩
        have hops := zbi hon
        rw [hop] at hops
        obtain ⟨bs, e1, e2⟩ := (hops x (by simp [Op.operands]) _ hx).immInv.strInv
        have hu : P.underlying t = some .string := htt.sh ht
        have hrun : (execOp a.eval o').run P w = .ok (.value (.pointer (some ⟨w.heap.size, 0, none⟩))) (w.alloc (.stringIter bs 0)) := by
          simp only [execOp, hop, e1]
          refine zet ?_
          simp only [Instr.range, Sem.run_bind, run_underlying hu, Result.andThen_ok, Sem.run_pure, run_newObj]
          rfl
        rw [hrun]
        obtain ⟨μ', q1, q2, q3, q4⟩ := hst.allocO (.stringIter bs 0) (.pointer (some ⟨w.heap.size, 0, none⟩)) (fun _ h => Eq.symm h) (.siter s0 0) (fun μ' _ => ⟨w.heap.size, bs, rfl, zgm w _, e2⟩)
        exact ⟨I, μ', q3, .iter _ _ q1, q2, q4⟩
      · cases h
    · cases h
  · cases h
theorem zwt {id pos : Nat} {s : List UInt8} {v : Value} (hst : StRep I μ st ids w) (hl : zap st id (.siter s pos)) (hv : RepD I μ v (.iter id)) :
    ∃ b, v = .pointer (some ⟨b, 0, none⟩) ∧ μ id = some v ∧ w.heap[b]? = some (.stringIter ⟨s.toArray⟩ pos) := by
  obtain ⟨b, rfl, hm⟩ := hv.iterInv
  obtain ⟨g, hg, b', bs, rfl, hheap, hs⟩ := hst.blk id _ hl
  rw [hm] at hg; cases hg
  refine ⟨b, rfl, hm, ?_⟩
  rw [hheap, ← hs]
theorem yhh {s0 : List UInt8} {p0 i0 : Nat} {d0 : Option Nat} {todo0 : List DI} (h : pnxt n env st true todo = some ⟨s0, p0, i0, d0, todo0⟩) (hp : p0 < s0.length) {dc : Nat × Nat} (hdc : zew s0 p0 = dc)
    (hk : G P n F Q todo0 (zdz d0 (.imm (.tup [.bool true, .int .i64 p0, .int .i32 dc.1])) env) ((i0, some (.siter s0 (p0 + dc.2))) :: st) ids) : G P n F Q todo env st ids := by
  subst hdc
  unfold pnxt at h
  split at h
  · rename_i o ho
    split at h
    · rename_i x hg hop
      split at h
      · rename_i id hx hd
        split at h
        · rename_i s pos all o' todo' hl h1
          cases h
          have ho' : o' = o := zdn ho h1
          subst ho'
          refine zcv (fr := []) (wr := [(i0, some (.siter s0 (p0 + (zew s0 p0).2)))]) (rd := [i0]) h1 ?_ hd (fun c hc => by rw [hop] at hc; cases hc) hk
          intro I μ st1 ids1 a w hag hst hon
          refine ⟨fun _ => ?_, fun hw => by rw [zau hg] at hw; cases hw⟩
          have hops := zbi hon
          rw [hop] at hops
          have hl1 : zap st1 i0 (.siter s0 p0) := by unfold zap; rw [hag i0 (by simp)]; exact hl
          obtain ⟨b, e1, hm, hheap⟩ := zwt hst hl1 (hops x (by simp [Op.operands]) _ hx)
          have hget : (getObj b).run P w = .ok (.stringIter ⟨s0.toArray⟩ p0) w := by simp [getObj, Sem.run, hheap]
          have hset : (setObj b (.stringIter ⟨s0.toArray⟩ (p0 + (zew s0 p0).2))).run P w = .ok () { w with heap := w.heap.setIfInBounds b (.stringIter ⟨s0.toArray⟩ (p0 + (zew s0 p0).2)) } := by simp [setObj, Sem.run, hheap]
          have hlt : p0 < (ByteArray.mk s0.toArray).size := by simpa [ByteArray.size] using hp
          have hrun : (execOp a.eval o').run P w = .ok (.value (.tuple #[.bool true, .int .i64 p0, .int .i32 (zew s0 p0).1])) { w with heap := w.heap.setIfInBounds b (.stringIter ⟨s0.toArray⟩ (p0 + (zew s0 p0).2)) } := by
            simp only [execOp, hop, e1]
            refine zet ?_
            simp only [Instr.next, Sem.run_bind, hget, Result.andThen_ok, if_pos hlt]
            have : (setObj b (.stringIter ⟨s0.toArray⟩ (p0 + (Utf8.decode ⟨s0.toArray⟩ p0).2))).run P w = _ := hset
            simp only [Sem.run_bind, this, Result.andThen_ok, Sem.run_pure]
            rfl
          rw [hrun]
          have hbl := zct hheap
          obtain ⟨q1, q2⟩ := hst.update (blk' := .siter s0 (p0 + (zew s0 p0).2)) (w' := { w with heap := w.heap.setIfInBounds b (.stringIter ⟨s0.toArray⟩ (p0 + (zew s0 p0).2)) }) hl1 hm (by rw [e1]; rfl) (by simp) rfl rfl rfl
            (fun k hk => Array.getElem?_setIfInBounds_ne (Ne.symm hk)) ⟨b, ⟨s0.toArray⟩, e1, by simp [hbl], rfl⟩
          refine ⟨I, μ, q1, .imm _ _ (.tup _ _ rfl fun i c x hc hx => ?_), Mu.le_refl μ, q2⟩
          match i, hc, hx with
          | 0, hc, hx => cases hc; cases hx; exact .bool _
          | 1, hc, hx => cases hc; cases hx; exact .int _ _
          | 2, hc, hx => cases hc; cases hx; exact .int _ _
          | i + 3, hc, hx => simp at hx
        · cases h
      · cases h
    · cases h
  · cases h
theorem ymx {s0 : List UInt8} {p0 i0 : Nat} {d0 : Option Nat} {todo0 : List DI} (h : pnxt n env st false todo = some ⟨s0, p0, i0, d0, todo0⟩) (hp : s0.length ≤ p0)
    (hk : G P n F Q todo0 (zdz d0 (.imm (.tup [.bool false])) env) st ids) : G P n F Q todo env st ids := by
  unfold pnxt at h
  split at h
  · rename_i o ho
    split at h
    · rename_i x hg hop
      split at h
      · rename_i id hx hd
        split at h
        · rename_i s pos all o' todo' hl h1
          cases h
          have ho' : o' = o := zdn ho h1
          subst ho'
          refine zcv (fr := []) (wr := []) (rd := [i0]) h1 ?_ hd (fun c hc => by rw [hop] at hc; cases hc) hk
          intro I μ st1 ids1 a w hag hst hon
          refine ⟨fun _ => ?_, fun hw => by rw [zau hg] at hw; cases hw⟩
          have hops := zbi hon
          rw [hop] at hops
          have hl1 : zap st1 i0 (.siter s0 p0) := by unfold zap; rw [hag i0 (by simp)]; exact hl
          obtain ⟨b, e1, hm, hheap⟩ := zwt hst hl1 (hops x (by simp [Op.operands]) _ hx)
          have hget : (getObj b).run P w = .ok (.stringIter ⟨s0.toArray⟩ p0) w := by simp [getObj, Sem.run, hheap]
          have hlt : ¬ p0 < (ByteArray.mk s0.toArray).size := by simpa [ByteArray.size] using hp
          have hrun : (execOp a.eval o').run P w = .ok (.value (.tuple #[.bool false])) w := by
            simp only [execOp, hop, e1]
            refine zet ?_
            simp only [Instr.next, Sem.run_bind, hget, Result.andThen_ok, if_neg hlt, Sem.run_pure]
          rw [hrun]
          refine ⟨I, μ, hst, .imm _ _ (.tup _ _ rfl fun i c x hc hx => ?_), Mu.le_refl μ, Ext.refl _ _ _ _⟩
          match i, hc, hx with
          | 0, hc, hx => cases hc; cases hx; exact .bool _
          | i + 1, hc, hx => simp at hx
        · cases h
      · cases h
    · cases h
  · cases h
end
end Go.Hk

/- Contracts of term: names. -/
namespace Go.Hk
open Go.Proofs
theorem yeb {s : Str} {pos : Nat} {c : UInt8} (h : s[pos]? = some c) (hc : c.toNat < 128) : zew s pos = (c.toNat, 1) := by
  have hg : (ByteArray.mk s.toArray).get! pos = c := by simp [ByteArray.get!, h]
  simp only [zew, Utf8.decode, Nat.add_zero, hg]
  rw [if_pos hc]
theorem zz9 {s : Str} {pos : Nat} {c : UInt8} (h : s[pos]? = some c) (hc : 128 ≤ c.toNat) : 128 ≤ (zew s pos).1 := by
  have hg : (ByteArray.mk s.toArray).get! pos = c := by simp [ByteArray.get!, h]
  simp only [zew, Utf8.decode, Nat.add_zero, hg, Utf8.runeError]
  rw [if_neg (by omega)]
  repeat' split
  all_goals first | (simp only; omega) | decide | (simp only [Bool.and_eq_true, decide_eq_true_eq] at *; omega)
set_option maxRecDepth 100000 in
theorem zwe (s : Str) : zax Tryz.prog 56 [.str s] (.bool (zf0 s)) := by
  refine zaf zbj Tryz.func56 (by decide +kernel) rfl [1, 2] rfl rfl ?_
  refine tg [] rfl (by simp) ?_
  refine yj9 zbj rfl ?_
  refine tg [] rfl (by simp) ?_
  refine zak (fun i : Nat => [(6, .iter 1)]) (fun i => [(1, some (.siter s i))]) [2] (fun i => s.length - i) (fun i => i ≤ s.length ∧ zf0 s = zf0 (s.drop i)) 0
    ⟨Nat.zero_le _, rfl⟩ ⟨rfl, trivial⟩ ⟨rfl, trivial⟩ rfl fun i hi ih => ?_
  refine td [] rfl (by simp) ?_
  by_cases hl : i < s.length
  · obtain ⟨c, hc⟩ := zal hl
    have e := hi.2
    rw [zpo hc] at e
    by_cases hlow : c.toNat < 128
    · refine yhh rfl hl (yeb hc hlow) ?_
      refine tg [.a] rfl (by simp) ?_
      refine zab rfl (fun h => ?_) (fun h => ?_)
      · refine td [] rfl (by simp) ?_
        refine zaa ⟨_, rfl, tV (congrArg _ ?_), trivial⟩
        rw [e]; simp at h; simp [UInt8.le_iff_toNat_le]; omega
      · refine td [] rfl (by simp) ?_
        refine zae (ih (i + 1) (by omega) ⟨by omega, ?_⟩) ⟨rfl, trivial⟩ ⟨rfl, trivial⟩ rfl
        rw [e]; simp at h; simp [UInt8.le_iff_toNat_le]; omega
    · refine yhh (dc := zew s i) rfl hl rfl ?_
      have hh := zz9 hc (by omega)
      refine tg [.a] rfl (by simp) ?_
      refine zab rfl (fun h => ?_) (fun h => ?_)
      · refine td [] rfl (by simp) ?_
        refine zaa ⟨_, rfl, tV (congrArg _ ?_), trivial⟩
        rw [e]; simp [UInt8.le_iff_toNat_le]; omega
      · exfalso
        simp at h
        omega
  · refine ymx rfl (by omega) ?_
    refine tg [.a] rfl (by simp) ?_
    refine zaa ⟨_, rfl, tV (congrArg _ ?_), trivial⟩
    rw [hi.2, List.drop_eq_nil_of_le (by omega)]; rfl
set_option maxRecDepth 100000 in
theorem yc9 (s : Str) (h : yj4 s = false) : zax Tryz.prog 57 [.str s] (.bool false) := by
  simp only [yj4, zi5, zbp, Bool.or_eq_false_iff] at h
  refine zaf zbj Tryz.func57 (by decide +kernel) rfl [1, 2] rfl rfl ?_
  refine tg [.f, .f, .f, .f, .f, .f, .f, .f, .f, .f, .f, .f, .f, .f, .f, .f, .f, .f, .f, .f, .f, .f, .f, .f, .f, .f, .f, .f, .f] rfl (by simp at h; simp; grind) ?_
  exact zaa ⟨_, rfl, tV rfl, trivial⟩
set_option maxRecDepth 100000 in
theorem yhb : zax Tryz.prog 57 [.str [98, 111, 111, 108]] (.bool true) := by
  refine zaf zbj Tryz.func57 (by decide +kernel) rfl [1, 2] rfl rfl ?_
  refine tg [.a, .a] rfl (by simp) ?_
  exact zaa ⟨_, rfl, tV rfl, trivial⟩
set_option maxRecDepth 100000 in
theorem yha : zax Tryz.prog 57 [.str [99, 101, 108, 108]] (.bool true) := by
  refine zaf zbj Tryz.func57 (by decide +kernel) rfl [1, 2] rfl rfl ?_
  refine tg [.a, .a, .a] rfl (by simp) ?_
  exact zaa ⟨_, rfl, tV rfl, trivial⟩
set_option maxRecDepth 100000 in
theorem yg9 : zax Tryz.prog 57 [.str [99, 104, 97, 110]] (.bool true) := by
  refine zaf zbj Tryz.func57 (by decide +kernel) rfl [1, 2] rfl rfl ?_
  refine tg [.a, .a, .a, .a] rfl (by simp) ?_
  exact zaa ⟨_, rfl, tV rfl, trivial⟩
set_option maxRecDepth 100000 in
theorem yg8 : zax Tryz.prog 57 [.str [101, 108, 115, 101]] (.bool true) := by
  refine zaf zbj Tryz.func57 (by decide +kernel) rfl [1, 2] rfl rfl ?_
  refine tg [.a, .a, .a, .a, .a] rfl (by simp) ?_
  exact zaa ⟨_, rfl, tV rfl, trivial⟩
set_option maxRecDepth 100000 in
theorem yg7 : zax Tryz.prog 57 [.str [102, 97, 108, 115, 101]] (.bool true) := by
  refine zaf zbj Tryz.func57 (by decide +kernel) rfl [1, 2] rfl rfl ?_
  refine tg [.a, .a, .a, .a, .a, .a] rfl (by simp) ?_
  exact zaa ⟨_, rfl, tV rfl, trivial⟩
set_option maxRecDepth 100000 in
theorem yg6 : zax Tryz.prog 57 [.str [102, 117, 110]] (.bool true) := by
  refine zaf zbj Tryz.func57 (by decide +kernel) rfl [1, 2] rfl rfl ?_
  refine tg [.a, .a, .a, .a, .a, .a, .a] rfl (by simp) ?_
  exact zaa ⟨_, rfl, tV rfl, trivial⟩
set_option maxRecDepth 100000 in
theorem yg5 : zax Tryz.prog 57 [.str [103, 101, 116]] (.bool true) := by
  refine zaf zbj Tryz.func57 (by decide +kernel) rfl [1, 2] rfl rfl ?_
  refine tg [.a, .a, .a, .a, .a, .a, .a, .a] rfl (by simp) ?_
  exact zaa ⟨_, rfl, tV rfl, trivial⟩
set_option maxRecDepth 100000 in
theorem yg4 : zax Tryz.prog 57 [.str [105, 102]] (.bool true) := by
  refine zaf zbj Tryz.func57 (by decide +kernel) rfl [1, 2] rfl rfl ?_
  refine tg [.a, .a, .a, .a, .a, .a, .a, .a, .a] rfl (by simp) ?_
  exact zaa ⟨_, rfl, tV rfl, trivial⟩
set_option maxRecDepth 100000 in
theorem yg3 : zax Tryz.prog 57 [.str [105, 110]] (.bool true) := by
  refine zaf zbj Tryz.func57 (by decide +kernel) rfl [1, 2] rfl rfl ?_
  refine tg [.a, .a, .a, .a, .a, .a, .a, .a, .a, .a] rfl (by simp) ?_
  exact zaa ⟨_, rfl, tV rfl, trivial⟩
set_option maxRecDepth 100000 in
theorem yg2 : zax Tryz.prog 57 [.str [105, 110, 112, 117, 116]] (.bool true) := by
  refine zaf zbj Tryz.func57 (by decide +kernel) rfl [1, 2] rfl rfl ?_
  refine tg [.a, .a, .a, .a, .a, .a, .a, .a, .a, .a, .a] rfl (by simp) ?_
  exact zaa ⟨_, rfl, tV rfl, trivial⟩
set_option maxRecDepth 100000 in
theorem ydr : zax Tryz.prog 57 [.str [105, 110, 116]] (.bool true) := by
  refine zaf zbj Tryz.func57 (by decide +kernel) rfl [1, 2] rfl rfl ?_
  refine tg [.a, .a, .a, .a, .a, .a, .a, .a, .a, .a, .a, .a] rfl (by simp) ?_
  exact zaa ⟨_, rfl, tV rfl, trivial⟩
set_option maxRecDepth 100000 in
theorem ydq : zax Tryz.prog 57 [.str [106, 111, 105, 110]] (.bool true) := by
  refine zaf zbj Tryz.func57 (by decide +kernel) rfl [1, 2] rfl rfl ?_
  refine tg [.a, .a, .a, .a, .a, .a, .a, .a, .a, .a, .a, .a, .a] rfl (by simp) ?_
  exact zaa ⟨_, rfl, tV rfl, trivial⟩
set_option maxRecDepth 100000 in
theorem ydp : zax Tryz.prog 57 [.str [108, 101, 116]] (.bool true) := by
  refine zaf zbj Tryz.func57 (by decide +kernel) rfl [1, 2] rfl rfl ?_
  refine tg [.a, .a, .a, .a, .a, .a, .a, .a, .a, .a, .a, .a, .a, .a] rfl (by simp) ?_
  exact zaa ⟨_, rfl, tV rfl, trivial⟩
set_option maxRecDepth 100000 in
theorem ydo : zax Tryz.prog 57 [.str [109, 97, 116, 99, 104]] (.bool true) := by
  refine zaf zbj Tryz.func57 (by decide +kernel) rfl [1, 2] rfl rfl ?_
  refine tg [.a, .a, .a, .a, .a, .a, .a, .a, .a, .a, .a, .a, .a, .a, .a] rfl (by simp) ?_
  exact zaa ⟨_, rfl, tV rfl, trivial⟩
set_option maxRecDepth 100000 in
theorem ydn : zax Tryz.prog 57 [.str [109, 111, 100, 117, 108, 101]] (.bool true) := by
  refine zaf zbj Tryz.func57 (by decide +kernel) rfl [1, 2] rfl rfl ?_
  refine tg [.a, .a, .a, .a, .a, .a, .a, .a, .a, .a, .a, .a, .a, .a, .a, .a] rfl (by simp) ?_
  exact zaa ⟨_, rfl, tV rfl, trivial⟩
set_option maxRecDepth 100000 in
theorem ydm : zax Tryz.prog 57 [.str [111, 117, 116]] (.bool true) := by
  refine zaf zbj Tryz.func57 (by decide +kernel) rfl [1, 2] rfl rfl ?_
  refine tg [.a, .a, .a, .a, .a, .a, .a, .a, .a, .a, .a, .a, .a, .a, .a, .a, .a] rfl (by simp) ?_
  exact zaa ⟨_, rfl, tV rfl, trivial⟩
set_option maxRecDepth 100000 in
theorem ydl : zax Tryz.prog 57 [.str [112, 97, 117, 115, 101]] (.bool true) := by
  refine zaf zbj Tryz.func57 (by decide +kernel) rfl [1, 2] rfl rfl ?_
  refine tg [.a, .a, .a, .a, .a, .a, .a, .a, .a, .a, .a, .a, .a, .a, .a, .a, .a, .a] rfl (by simp) ?_
  exact zaa ⟨_, rfl, tV rfl, trivial⟩
set_option maxRecDepth 100000 in
theorem ydk : zax Tryz.prog 57 [.str [112, 117, 116]] (.bool true) := by
  refine zaf zbj Tryz.func57 (by decide +kernel) rfl [1, 2] rfl rfl ?_
  refine tg [.a, .a, .a, .a, .a, .a, .a, .a, .a, .a, .a, .a, .a, .a, .a, .a, .a, .a, .a] rfl (by simp) ?_
  exact zaa ⟨_, rfl, tV rfl, trivial⟩
set_option maxRecDepth 100000 in
theorem ydj : zax Tryz.prog 57 [.str [114, 101, 115, 101, 116]] (.bool true) := by
  refine zaf zbj Tryz.func57 (by decide +kernel) rfl [1, 2] rfl rfl ?_
  refine tg [.a, .a, .a, .a, .a, .a, .a, .a, .a, .a, .a, .a, .a, .a, .a, .a, .a, .a, .a, .a] rfl (by simp) ?_
  exact zaa ⟨_, rfl, tV rfl, trivial⟩
set_option maxRecDepth 100000 in
theorem ydi : zax Tryz.prog 57 [.str [115, 101, 110, 100]] (.bool true) := by
  refine zaf zbj Tryz.func57 (by decide +kernel) rfl [1, 2] rfl rfl ?_
  refine tg [.a, .a, .a, .a, .a, .a, .a, .a, .a, .a, .a, .a, .a, .a, .a, .a, .a, .a, .a, .a, .a] rfl (by simp) ?_
  exact zaa ⟨_, rfl, tV rfl, trivial⟩
set_option maxRecDepth 100000 in
theorem ydh : zax Tryz.prog 57 [.str [115, 104, 105, 102, 116]] (.bool true) := by
  refine zaf zbj Tryz.func57 (by decide +kernel) rfl [1, 2] rfl rfl ?_
  refine tg [.a, .a, .a, .a, .a, .a, .a, .a, .a, .a, .a, .a, .a, .a, .a, .a, .a, .a, .a, .a, .a, .a] rfl (by simp) ?_
  exact zaa ⟨_, rfl, tV rfl, trivial⟩
set_option maxRecDepth 100000 in
theorem ydg : zax Tryz.prog 57 [.str [115, 112, 97, 119, 110]] (.bool true) := by
  refine zaf zbj Tryz.func57 (by decide +kernel) rfl [1, 2] rfl rfl ?_
  refine tg [.a, .a, .a, .a, .a, .a, .a, .a, .a, .a, .a, .a, .a, .a, .a, .a, .a, .a, .a, .a, .a, .a, .a] rfl (by simp) ?_
  exact zaa ⟨_, rfl, tV rfl, trivial⟩
set_option maxRecDepth 100000 in
theorem ydf : zax Tryz.prog 57 [.str [116, 97, 107, 101]] (.bool true) := by
  refine zaf zbj Tryz.func57 (by decide +kernel) rfl [1, 2] rfl rfl ?_
  refine tg [.a, .a, .a, .a, .a, .a, .a, .a, .a, .a, .a, .a, .a, .a, .a, .a, .a, .a, .a, .a, .a, .a, .a, .a] rfl (by simp) ?_
  exact zaa ⟨_, rfl, tV rfl, trivial⟩
set_option maxRecDepth 100000 in
theorem yde : zax Tryz.prog 57 [.str [116, 97, 115, 107]] (.bool true) := by
  refine zaf zbj Tryz.func57 (by decide +kernel) rfl [1, 2] rfl rfl ?_
  refine tg [.a, .a, .a, .a, .a, .a, .a, .a, .a, .a, .a, .a, .a, .a, .a, .a, .a, .a, .a, .a, .a, .a, .a, .a, .a] rfl (by simp) ?_
  exact zaa ⟨_, rfl, tV rfl, trivial⟩
set_option maxRecDepth 100000 in
theorem ydd : zax Tryz.prog 57 [.str [116, 104, 101, 110]] (.bool true) := by
  refine zaf zbj Tryz.func57 (by decide +kernel) rfl [1, 2] rfl rfl ?_
  refine tg [.a, .a, .a, .a, .a, .a, .a, .a, .a, .a, .a, .a, .a, .a, .a, .a, .a, .a, .a, .a, .a, .a, .a, .a, .a, .a] rfl (by simp) ?_
  exact zaa ⟨_, rfl, tV rfl, trivial⟩
set_option maxRecDepth 100000 in
theorem ydc : zax Tryz.prog 57 [.str [116, 114, 117, 101]] (.bool true) := by
  refine zaf zbj Tryz.func57 (by decide +kernel) rfl [1, 2] rfl rfl ?_
  refine tg [.a, .a, .a, .a, .a, .a, .a, .a, .a, .a, .a, .a, .a, .a, .a, .a, .a, .a, .a, .a, .a, .a, .a, .a, .a, .a, .a] rfl (by simp) ?_
  exact zaa ⟨_, rfl, tV rfl, trivial⟩
set_option maxRecDepth 100000 in
theorem ydb : zax Tryz.prog 57 [.str [116, 121, 112, 101]] (.bool true) := by
  refine zaf zbj Tryz.func57 (by decide +kernel) rfl [1, 2] rfl rfl ?_
  refine tg [.a, .a, .a, .a, .a, .a, .a, .a, .a, .a, .a, .a, .a, .a, .a, .a, .a, .a, .a, .a, .a, .a, .a, .a, .a, .a, .a, .a] rfl (by simp) ?_
  exact zaa ⟨_, rfl, tV rfl, trivial⟩
set_option maxRecDepth 100000 in
theorem yda : zax Tryz.prog 57 [.str [117, 110, 105, 116]] (.bool true) := by
  refine zaf zbj Tryz.func57 (by decide +kernel) rfl [1, 2] rfl rfl ?_
  refine tg [.a, .a, .a, .a, .a, .a, .a, .a, .a, .a, .a, .a, .a, .a, .a, .a, .a, .a, .a, .a, .a, .a, .a, .a, .a, .a, .a, .a, .a] rfl (by simp) ?_
  exact zaa ⟨_, rfl, tV rfl, trivial⟩
set_option maxRecDepth 100000 in
theorem yc8 (s : Str) : zax Tryz.prog 57 [.str s] (.bool (yj4 s)) := by
  cases h : yj4 s with
  | false => exact yc9 s h
  | true =>
    simp only [yj4, zi5, zbp, Bool.or_eq_true, beq_iff_eq, Bool.or_false] at h
    rcases h with rfl | rfl | rfl | rfl | rfl | rfl | rfl | rfl | rfl | rfl | rfl | rfl | rfl | rfl | rfl | rfl | rfl | rfl | rfl | rfl | rfl | rfl | rfl | rfl | rfl | rfl | rfl | rfl
    · exact yhb
    · exact yha
    · exact yg9
    · exact yg8
    · exact yg7
    · exact yg6
    · exact yg5
    · exact yg4
    · exact yg3
    · exact yg2
    · exact ydr
    · exact ydq
    · exact ydp
    · exact ydo
    · exact ydn
    · exact ydm
    · exact ydl
    · exact ydk
    · exact ydj
    · exact ydi
    · exact ydh
    · exact ydg
    · exact ydf
    · exact yde
    · exact ydd
    · exact ydc
    · exact ydb
    · exact yda
set_option maxRecDepth 100000 in
theorem zff (s : Str) : zax Tryz.prog 32 [.str s] (.bool (zcj s)) := by
  refine zaf zbj Tryz.func32 (by decide +kernel) rfl [1, 2] rfl rfl ?_
  refine tg [] rfl (by simp) ?_
  refine zac rfl (v := .bool (zf0 s)) (fun h => zwe s) (by simp [zai]) ?_
  refine tg [] rfl (by simp) ?_
  refine zac rfl (v := .bool (yj4 s)) (fun h => yc8 s) (by simp [zai]) ?_
  refine tg [] rfl (by simp) ?_
  refine zaa ⟨_, rfl, tV (congrArg _ ?_), trivial⟩
  cases s with
  | nil => simp [zcj]
  | cons a r => simp [zcj]; norm_cast; simp
set_option maxRecDepth 100000 in
theorem zik (s : Str) : zax Tryz.prog 33 [.str s] (.bool (zkj s)) := by
  refine zaf zbj Tryz.func33 (by decide +kernel) rfl [1, 2] rfl rfl ?_
  refine tg [] rfl (by cases s with | nil => simp [zai] | cons a r => simp [zai]; omega) ?_
  refine zac rfl (v := .bool (zf0 (s.drop 1))) (fun h => zwe _) (by simp [zai]) ?_
  refine tg [] rfl (by simp) ?_
  refine zaa ⟨_, rfl, tV (congrArg _ ?_), trivial⟩
  cases s with
  | nil => simp [zkj]
  | cons a r => simp [zkj, UInt8.le_iff_toNat_le, Bool.and_assoc]; norm_cast; simp
def zaw (n : Int) : Bool := decide (-1000000000 ≤ n) && decide (n ≤ 1000000000)
set_option maxRecDepth 100000 in
theorem zjw (n : Int) : zax Tryz.prog 111 [.int .i64 n] (.bool (zaw n)) := by
  refine zaf zbj Tryz.func111 (by decide +kernel) rfl [1, 2] rfl rfl ?_
  refine tg [] rfl (by simp) ?_
  refine zaa ⟨_, rfl, tV (congrArg _ ?_), trivial⟩
  simp [zaw]
end Go.Hk

/- Contracts of term: types. -/
namespace Go.Hk
open Go.Proofs
def zwc : D := .imm (.tup [])
end Go.Hk

/- A function that does something and tells whether it gave up: the walks of term.holds and of what it defers. -/
namespace Go.Hk
open Go.Proofs
theorem hmf : ∀ (fn : Fn) (first cap : Array Value) (w : World), (Instr.makeFunc fn first cap).run Tryz.prog w = .ok (.func fn first cap) w := fun _ _ _ _ => rfl
theorem zzp (p : Addr) (w : World) :
    CallsD Tryz.prog 108 #[.pointer (some p)] .returning w fun e u' w' => e = .returned (.tuple #[]) ∧ u' = .returning ∧ w' = w := by
  refine callsD_of_wpS Tryz.func108 rfl fun c₀ cs hu => ?_
  apply wpS_seq
  apply wpS_region
  simp [wpOpsS, go_sem, recoverD, hu, Tryz.ntmps108, Exit.thenS]
  apply wpS_seq
  apply wpS_region
  simp [wpOpsS, go_sem, Exit.thenS]
  refine wpS_cond (t := false) (by simp [Act.eval, Array.replicate]) ?_
  simp only [if_false, Bool.false_eq_true]
  refine wpS_of_wp (wp_skip ?_)
  cases c₀
  simp_all [bodyPostS, results, Tryz.results108]
set_option maxRecDepth 100000 in
theorem zzq (pb : Nat) (x : Value) (w : World) (hpb : pb < w.heap.size) (hx : w.cell? ⟨pb, 0, none⟩ = some x) (hz : w.frozen? ⟨pb, 0, none⟩ = false) :
    CallsD Tryz.prog 108 #[.pointer (some ⟨pb, 0, none⟩)] (.panicking [{ v := .iface 139 (.agg #[]), recovered := false }]) w fun e u' w' => e = .returned (.tuple #[]) ∧
      u' = .panicking [{ v := .iface 139 (.agg #[]), recovered := true }] ∧ w' = (w.setCell ⟨pb, 0, none⟩ (.bool false)).alloc (.cells #[] 139) := by
  refine callsD_of_wpS Tryz.func108 rfl fun c₀ cs hu => ?_
  change Code.wpS _ _ _ { tmps := #[.pointer (some ⟨pb, 0, none⟩), undef, undef, undef, undef, undef, undef, undef, undef, undef, undef, undef, undef, undef, undef], defers := [] } _ _
  apply wpS_seq
  apply wpS_region
  simp [wpOpsS, go_sem, recoverD, hu, Tryz.ntmps108, Exit.thenS]
  apply wpS_seq
  apply wpS_region
  simp [wpOpsS, go_sem, Exit.thenS]
  refine wpS_cond (t := true) (by simp [Act.eval, Array.replicate]) ?_
  simp only [if_true]
  refine wpS_of_wp ?_
  clear hu
  have hta : ∀ w : World, (Instr.typeAssert (.iface 139 (.agg #[])) 20 139 true).run Tryz.prog w = .ok (.tuple #[.agg #[], .bool true]) w := fun _ => by kernel_rfl
  have hx' : (w.alloc (.cells #[] 139)).cell? ⟨pb, 0, none⟩ = some x := by rw [World.cell?_alloc_past _ _ _ hpb]; exact hx
  have hz' : (w.alloc (.cells #[] 139)).frozen? ⟨pb, 0, none⟩ = false := by rw [RowKit.frozen?_alloc_cells]; exact hz
  go_wp2
  simp [bodyPostS, results, Tryz.results108]
set_option maxRecDepth 100000 in
theorem zzo (g : FuncId) (fi ca : Array Value) (w : World) (K : World → Prop) (Kp : World → Prop)
    (hen : (callFunc g (fi ++ ca)).run Tryz.prog (w.alloc (.cells #[.bool false] 4)) = .ok (.enter g (fi ++ ca)) (w.alloc (.cells #[.bool false] 4)))
    (hcall : Calls Tryz.prog g (fi ++ ca) (w.alloc (.cells #[.bool false] 4)) fun e w' => match e with
      | .returned _ => K w'
      | .panicked chain => chain = [{ v := .iface 139 (.agg #[]), recovered := false }] ∧ Kp w'
      | .outgrown => False)
    (hK : ∀ w', K w' → w'.heap[w.heap.size]? = some (.cells #[.bool false] 4 (0, 0))) (hKp : ∀ w', Kp w' → w'.heap[w.heap.size]? = some (.cells #[.bool false] 4 (0, 0))) :
    Calls Tryz.prog 94 #[.func (.func g) fi ca] w fun e w' => (e = .returned (.bool true) ∧ ∃ w1, K w1 ∧ w' = w1.setCell ⟨w.heap.size, 0, none⟩ (.bool true)) ∨
      (e = .returned (.bool false) ∧ ∃ w1, Kp w1 ∧ w' = (w1.setCell ⟨w.heap.size, 0, none⟩ (.bool false)).alloc (.cells #[] 139)) := by
  go_enter_defers Tryz.func94, Tryz.ntmps94
  have hmf := hmf
  go_wp2_with fail
  clear hen
  refine hcall.mono ?_
  intro e w' he
  cases e with
  | outgrown => exact he.elim
  | returned v =>
    have hc : w'.cell? ⟨w.heap.size, 0, none⟩ = some (.bool false) := by unfold World.cell?; simp [hK w' he]
    have hz : w'.frozen? ⟨w.heap.size, 0, none⟩ = false := by unfold World.frozen?; simp [hK w' he]
    simp only
    go_wp2
    refine leaves_cons (f := 108) (args := #[.pointer (some ⟨w.heap.size, 0, none⟩)]) (by simp) (by simp [go_sem]) ?_
    refine (zzp ⟨w.heap.size, 0, none⟩ _).mono ?_
    rintro e u' w'' ⟨rfl, rfl, rfl⟩
    simp [Leaves, settle, results, Tryz.results94, go_sem, hc]
    exact ⟨w', he, rfl⟩
  | panicked chain =>
    obtain ⟨rfl, he⟩ := he
    have hc : w'.cell? ⟨w.heap.size, 0, none⟩ = some (.bool false) := by unfold World.cell?; simp [hKp w' he]
    have hz : w'.frozen? ⟨w.heap.size, 0, none⟩ = false := by unfold World.frozen?; simp [hKp w' he]
    have hlt : w.heap.size < w'.heap.size := (Array.getElem?_eq_some_iff.1 (hKp w' he)).1
    refine leaves_cons (f := 108) (args := #[.pointer (some ⟨w.heap.size, 0, none⟩)]) (by simp) (by simp [go_sem]) ?_
    refine (zzq w.heap.size _ _ hlt hc hz).mono ?_
    rintro e u' w'' ⟨rfl, rfl, rfl⟩
    have hc2 : ((w'.setCell ⟨w.heap.size, 0, none⟩ (.bool false)).alloc (.cells #[] 139)).cell? ⟨w.heap.size, 0, none⟩ = some (.bool false) := by
      rw [zhf (hKp w' he), World.cell?_alloc_past _ _ _ (by simpa using hlt)]
      unfold World.cell?
      simp [hlt]
    simp [Leaves, settle, results, Tryz.results94, go_sem, hc2]
    exact ⟨w', he, rfl⟩
theorem ztk : zry Tryz.prog 94 139 4 := fun g fi ca w K Kp h1 h2 h3 h4 => zzo g fi ca w K Kp h1 h2 h3 h4
end Go.Hk

/- Contracts of term: types that are formed. -/
namespace Go.Hk
open Go.Proofs
set_option maxRecDepth 100000 in
theorem zoh {g : FuncId} {fg : Func} {cg : Code} (hg : Tryz.prog.funcs[g]? = some fg) (hn : (fg.name == "runtime.NumGoroutine") = false) (hc : fg.body = some cg) {t1 : TypeId} {s1 : Nat} {x1 y1 : List V} (hE : zc5 Tryz.prog g [.ref 1 0] [(1, some (.immb t1 s1 x1))] (.ret zwc [(1, some (.immb t1 s1 y1))])) :
    zc5 Tryz.prog 59 [.fn (.func g) [] [.ref 1 0]] [(1, some (.immb t1 s1 x1))] (.ret (.imm (.int .i64 0)) [(1, some (.immb t1 s1 y1))]) := by
  refine zaf zbj Tryz.func59 (by decide +kernel) rfl [2, 3, 4] rfl rfl ?_
  refine tg [] rfl (by simp) ?_
  refine zar (fr := []) [(1, 1)] [] rfl (by simp) (yhe Tryz.func94 (by decide +kernel) rfl ztk hg hn hc hE) ⟨⟨rfl, rfl, rfl⟩, trivial⟩ rfl rfl rfl rfl ?_
  refine tg [.a] rfl (by simp) ?_
  exact zaa ⟨_, rfl, tV rfl, ⟨rfl, trivial⟩⟩
set_option maxRecDepth 100000 in
theorem zrh {g : FuncId} {fg : Func} {cg : Code} (hg : Tryz.prog.funcs[g]? = some fg) (hn : (fg.name == "runtime.NumGoroutine") = false) (hc : fg.body = some cg) {t1 : TypeId} {s1 : Nat} {x1 : List V} (hE : zc5 Tryz.prog g [.ref 1 0] [(1, some (.immb t1 s1 x1))] (.pan znc)) :
    zc5 Tryz.prog 59 [.fn (.func g) [] [.ref 1 0]] [(1, some (.immb t1 s1 x1))] (.ret (.imm (.int .i64 2)) []) := by
  refine zaf zbj Tryz.func59 (by decide +kernel) rfl [2, 3, 4] rfl rfl ?_
  refine tg [] rfl (by simp) ?_
  refine zar (fr := []) [(1, 1)] [] rfl (by simp) (yj6 Tryz.func94 (by decide +kernel) rfl ztk hg hn hc hE) ⟨⟨rfl, rfl, rfl⟩, trivial⟩ rfl rfl rfl rfl ?_
  refine tg [.a] rfl (by simp) ?_
  exact zaa ⟨_, rfl, tV rfl, trivial⟩
def zzx (b : Bool) : V := .int .i64 (bif b then 0 else 2)
end Go.Hk

/- Maps that are zbx: made, looked at, changed. -/
namespace Go.Hk
open Go.MapKept
def eqK : V → V → Bool
  | .str a, .str b => a == b
  | .int _ a, .int _ b => a == b
  | .bool a, .bool b => a == b
  | _, _ => false
def zux : List (V × V) → V → Option V
  | [], _ => none
  | (k, d) :: r, x => if eqK x k then some d else zux r x
def zv0 : List (V × V) → V → V → List (V × V)
  | [], x, d => [(x, d)]
  | (k, e) :: r, x, d => if eqK x k then (x, d) :: r else (k, e) :: zv0 r x d
def zrd : Sh → Option TypeDesc
  | .str => some .string
  | .int k => some (.int k)
  | _ => none
def zzm : Sh → V → Bool
  | .str, .str _ => true
  | .int k, .int k' _ => decide (k' = k)
  | _, _ => false
section
variable {P : Program} {n : Nat} {F : List Nat} {Q : DQ} {tt : TT} {env env' : Env} {st st' : St} {ids ids' : List Nat} {k todo todo' : List DI} {I : Imm} {μ : Mu} {w : World} {a : Act} {Pn : V → Prop} {d : D} {cx : Prop} {ob : List Prop}
theorem zya {t : TypeId} {sh : Sh} {dd : TypeDesc} (h : zrd sh = some dd) (hs : yis P t sh) : P.underlying t = some dd := by
  cases sh <;> simp only [zrd, reduceCtorEq, Option.some.injEq] at h <;> subst h <;> exact hs
theorem zl7 {sh : Sh} {dd : TypeDesc} {v : Value} {x : V} (h : zrd sh = some dd) (hk : zzm sh x = true) (hv : RepV I v x) : IsKey dd v := by
  cases sh <;> simp only [zrd, reduceCtorEq, Option.some.injEq] at h <;> subst h <;> cases x <;> simp [zzm] at hk <;> cases hv <;> simp [IsKey, hk]
theorem ym7 {sh : Sh} {v u : Value} {x y : V} (hx : zzm sh x = true) (hy : zzm sh y = true) (hv : RepV I v x) (hu : RepV I u y) : eqK x y = true ↔ v = u := by
  cases x with
  | str a =>
    cases y with
    | str b =>
      obtain ⟨s, rfl, rfl⟩ := hv.strInv
      obtain ⟨t, rfl, rfl⟩ := hu.strInv
      simp only [eqK, beq_iff_eq, Value.string.injEq]
      constructor
      · intro h
        obtain ⟨⟨s⟩⟩ := s
        obtain ⟨⟨t⟩⟩ := t
        simp at h
        rw [h]
      · intro h; rw [h]
    | _ => cases sh <;> simp [zzm] at hx hy
  | int k i =>
    cases y with
    | int k' j =>
      obtain rfl := hv.intInv
      obtain rfl := hu.intInv
      cases sh <;> simp [zzm] at hx hy
      subst hx; subst hy
      simp [eqK]
    | _ => cases sh <;> simp [zzm] at hx hy
  | _ => cases sh <;> simp [zzm] at hx
theorem zu9 {sh : Sh} {dd : TypeDesc} {v : Value} {x : V} (hd : zrd sh = some dd) (hk : zzm sh x = true) (hv : RepV I v x) : ∀ (l : List MapEntry) (kv : List (V × V)) (i : Nat), l.length = kv.length →
    (∀ (j : Nat) (e : MapEntry) (p : V × V), l[j]? = some e → kv[j]? = some p → RepV I e.key p.1 ∧ RepV I e.val p.2) → (∀ p ∈ kv, zzm sh p.1 = true) →
    (Instr.findNow dd v l i = some none ∧ zux kv x = none ∧ (∀ y, zv0 kv x y = kv ++ [(x, y)]) ∧ ∀ e ∈ l, e.key ≠ v) ∨
      ∃ j e y, Instr.findNow dd v l i = some (some (i + j, e.val)) ∧ l[j]? = some e ∧ e.key = v ∧ zux kv x = some y ∧ RepV I e.val y ∧ ∀ z, zv0 kv x z = kv.set j (x, z)
  | [], [], i, _, _, _ => .inl ⟨rfl, rfl, fun _ => rfl, fun _ h => by cases h⟩
  | [], _ :: _, _, h, _, _ => by simp at h
  | _ :: _, [], _, h, _, _ => by simp at h
  | e :: l, p :: kv, i, hl, h, hkv => by
    obtain ⟨h1, h2⟩ := h 0 e p rfl rfl
    obtain ⟨y, dy⟩ := p
    have hky := hkv (y, dy) (by simp)
    obtain ⟨r, hr, hiff⟩ := sameNow_of_keys (zl7 hd hk hv) (zl7 hd hky h1)
    have he := ym7 hk hky hv h1
    cases r with
    | true =>
      have hvy := hiff.1 rfl
      have := he.2 hvy
      exact .inr ⟨0, e, dy, by simp [Instr.findNow, hr], rfl, hvy.symm, by simp [zux, this], h2, fun z => by simp [zv0, this]⟩
    | false =>
      have hne : v ≠ e.key := fun q => by have := hiff.2 q; cases this
      have hf : eqK x y = false := by
        cases hq : eqK x y with
        | false => rfl
        | true => exact absurd (he.1 hq) hne
      rcases zu9 hd hk hv l kv (i + 1) (by simpa using hl) (fun j e' p' a b => h (j + 1) e' p' (by simpa using a) (by simpa using b)) (fun p' hp => hkv p' (by simp [hp])) with ⟨q1, q2, q3, q4⟩ | ⟨j, e', y', q1, q2, q3, q4, q5, q6⟩
      · refine .inl ⟨by simp [Instr.findNow, hr, q1], by simp [zux, hf, q2], fun z => by simp [zv0, hf, q3], fun e' he' => ?_⟩
        rcases List.mem_cons.1 he' with rfl | he'
        · exact fun q => hne q.symm
        · exact q4 e' he'
      · exact .inr ⟨j + 1, e', y', by simp [Instr.findNow, hr, q1]; omega, by simpa using q2, q3, by simp [zux, hf, q4], q5, fun z => by simp [zv0, hf, q6]⟩
def pmk (n : Nat) (ids : List Nat) (todo : List DI) : Option (Nat × List Nat × Option Nat × List DI) :=
  match yer todo, ids with
  | some o, id' :: ids' => match o.guard, o.op with
    | none, .makeMap _ none => match zc2 n o.dst, zce todo ([], [id']) with
      | true, some (_, _, todo') => some (id', ids', o.dst, todo')
      | _, _ => none
    | _, _ => none
  | _, _ => none
theorem zi8 {i0 : Nat} {ids0 : List Nat} {d0 : Option Nat} {todo0 : List DI} (h : pmk n ids todo = some (i0, ids0, d0, todo0)) (hk : G P n F Q todo0 (zdz d0 (.mapr i0) env) ((i0, some (.map [])) :: st) ids0) : G P n F Q todo env st ids := by
  unfold pmk at h
  split at h
  · rename_i o id' ids' ho
    split at h
    · rename_i t hg hop
      split at h
      · rename_i all o' todo' hd h1
        cases h
        have ho' : o' = o := zdn ho h1
        subst ho'
        refine zcv (fr := [i0]) (wr := [(i0, some (.map []))]) (rd := []) h1 ?_ hd (fun c hc => by rw [hop] at hc; cases hc) hk
        intro I μ st1 ids1 a w hag hst hon
        refine ⟨fun _ => ?_, fun hw => by rw [zau hg] at hw; cases hw⟩
        have hrun : (execOp a.eval o').run P w = .ok (.value (.map (some w.heap.size))) (w.alloc (.map #[] 0)) := by
          simp only [execOp, hop, Option.map_none]
          refine zet ?_
          simp only [Instr.makeMap, Sem.run_bind, Result.andThen_ok, Sem.run_pure, run_newObj]
          rfl
        rw [hrun]
        obtain ⟨μ', q1, q2, q3, q4⟩ := hst.allocO (.map #[] 0) (.map (some w.heap.size)) (fun _ h => Eq.symm h) (.map []) (fun μ' _ => ⟨w.heap.size, #[], 0, rfl, zgm w _, rfl, stamped_empty 0, fun i e p h => by simp at h⟩)
        exact ⟨I, μ', q3, .mapr _ _ q1, q2, q4⟩
      · cases h
    · cases h
  · cases h
theorem ygq {id : Nat} {kv : List (V × V)} {v : Value} (hst : StRep I μ st ids w) (hl : zap st id (.map kv)) (hv : RepD I μ v (.mapr id)) :
    ∃ b es clock, v = .map (some b) ∧ μ id = some v ∧ w.heap[b]? = some (.map es clock) ∧ es.size = kv.length ∧ Stamped es clock ∧ ∀ (i : Nat) (e : MapEntry) (p : V × V), es[i]? = some e → kv[i]? = some p → RepV I e.key p.1 ∧ RepV I e.val p.2 := by
  cases hv with
  | mapr _ b hm =>
    obtain ⟨g, hg, b', es, clock, rfl, h1, h2, h3, h4⟩ := hst.blk id _ hl
    rw [hm] at hg; cases hg
    exact ⟨b, es, clock, rfl, hm, h1, h2, h3, h4⟩
def ymb : Op → Option (TypeId × Operand × Operand × Operand)
  | .mapUpdate t m x y => some (t, m, x, y)
  | .insert t m x y => some (t, m, x, y)
  | _ => none
theorem zwu {op : Op} {t : TypeId} {m x y : Operand} (h : ymb op = some (t, m, x, y)) : (op = .mapUpdate t m x y ∨ op = .insert t m x y) ∧ ∀ z ∈ [m, x, y], z ∈ op.operands.toList := by
  unfold ymb at h
  split at h
  · cases h; exact ⟨.inl rfl, by simp [Op.operands]⟩
  · cases h; exact ⟨.inr rfl, by simp [Op.operands]⟩
  · cases h
def pmset (tt : TT) (env : Env) (st : St) (todo : List DI) : Option (Nat × List (V × V) × Sh × V × V × List DI) :=
  match yer todo with
  | some o => match o.guard, ymb o.op with
    | none, some (t, m, x, y) => match o.dst, lk tt t, evO env m, evO env x, evO env y with
      | none, some { sh := .map kt _, .. }, some (.mapr id), some (.imm kx), some dy => match lk tt kt, lk st id, zce todo ([id], [id]), toV dy with
        | some i, some (some (.map kv)), some (_, _, todo'), some vy => some (id, kv, i.sh, kx, vy, todo')
        | _, _, _, _ => none
      | _, _, _, _, _ => none
    | _, _ => none
  | none => none
theorem zoa (htt : TTok P tt) {i0 : Nat} {kv : List (V × V)} {sh : Sh} {kx : V} {dy : V} {todo0 : List DI} {dd : TypeDesc} (h : pmset tt env st todo = some (i0, kv, sh, kx, dy, todo0)) (hd : zrd sh = some dd) (hk : zzm sh kx = true)
    (hkv : ∀ p ∈ kv, zzm sh p.1 = true) (hg : G P n F Q todo0 env ((i0, some (.map (zv0 kv kx dy))) :: st) ids) : G P n F Q todo env st ids := by
  unfold pmset at h
  split at h
  · rename_i o ho
    split at h
    · rename_i t m x y hgd hop
      split at h
      · rename_i kt et _ _ _ _ id kx' dy' hdst ht hm hx hy
        split at h
        · rename_i i kv' all o' todo' vy hi hl h1 hng
          cases h
          have ho' : o' = o := zdn ho h1
          subst ho'
          have hg : G P n F Q todo0 (zdz o'.dst .undef env) ((i0, some (.map (zv0 kv kx dy))) :: st) ids := by rw [hdst]; exact hg
          refine zcv (fr := []) (wr := [(i0, some (.map (zv0 kv kx dy)))]) (rd := [i0]) h1 ?_ (by simp [zc2, hdst]) (fun c hc => by rcases (zwu hop).1 with e | e <;> rw [e] at hc <;> cases hc) hg
          intro I μ st1 ids1 a w hag hst hon
          refine ⟨fun _ => ?_, fun hw => by rw [zau hgd] at hw; cases hw⟩
          have hops := zbi hon
          obtain ⟨hop2, hop3⟩ := zwu hop
          have hl1 : zap st1 i0 (.map kv) := by unfold zap; rw [hag i0 (by simp)]; exact hl
          obtain ⟨b, es, clock, e1, hmu, hheap, hlen, hst2, hent⟩ := ygq hst hl1 (hops m (hop3 m (by simp)) _ hm)
          have rx := (hops x (hop3 x (by simp)) _ hx).immInv
          have ry := zub hng (hops y (hop3 y (by simp)) _ hy)
          have hu : P.underlying t = some (.map kt et) := htt.sh ht
          have hkd : P.underlying kt = some dd := zya hd (htt.sh hi)
          have hik := zl7 hd hk rx
          have hbl := zct hheap
          have fin : ∀ (es' : Array MapEntry) (c' : Nat), (Instr.mapUpdate t (.map (some b)) (a.eval x) (a.eval y)).run P w = .ok () { w with heap := w.heap.setIfInBounds b (.map es' c') } → es'.size = (zv0 kv kx dy).length → Stamped es' c' →
              (∀ (i : Nat) (e : MapEntry) (p : V × V), es'[i]? = some e → (zv0 kv kx dy)[i]? = some p → RepV I e.key p.1 ∧ RepV I e.val p.2) →
              valX P ((execOp a.eval o').run P w) (fun v w' => ∃ I' μ', StRep I' μ' ([(i0, some (.map (zv0 kv kx dy)))] ++ st1) ids1 w' ∧ RepD I' μ' v .undef ∧ μ.le μ' ∧ Ext I μ st1 w I' μ' ([(i0, some (.map (zv0 kv kx dy)))] ++ st1) w') (yep (yip Q) I μ st1 w) := by
            intro es' c' hr h2 h3 h4
            have hrun : (execOp a.eval o').run P w = .ok .skip { w with heap := w.heap.setIfInBounds b (.map es' c') } := by
              rcases hop2 with e | e <;> (simp only [execOp, e, e1]; simp [hr])
            rw [hrun]
            obtain ⟨q1, q2⟩ := hst.update (blk' := .map (zv0 kv kx dy)) (w' := { w with heap := w.heap.setIfInBounds b (.map es' c') }) hl1 hmu (by rw [e1]; rfl) (by simp) rfl rfl rfl
              (fun k hk => Array.getElem?_setIfInBounds_ne (Ne.symm hk)) ⟨b, es', c', e1, by simp [hbl], h2, h3, h4⟩
            exact ⟨I, μ, q1, .undef _, Mu.le_refl μ, q2⟩
          rcases zu9 (I := I) hd hk rx es.toList kv 0 (by simpa using hlen) (fun j e p h1 h2 => hent j e p (by simpa using h1) h2) hkv with ⟨q1, _, q3, q4⟩ | ⟨j, e, y', q1, q2, q3, _, q5, q6⟩
          · refine fin _ _ ?_ (by rw [q3]; simp [hlen]) (stamped_push hst2 (key := a.eval x) (val := a.eval y) q4) fun i e p h1 h2 => ?_
            · simp [Instr.mapUpdate, run_underlying hu, MapKept.run_getObj_map hheap, MapKept.run_checkKey hkd hik, MapKept.run_findKey hkd q1, MapKept.run_setObj_map _ hheap, Result.andThen]
            · rw [q3] at h2
              rw [Array.getElem?_push] at h1
              rw [List.getElem?_append] at h2
              by_cases hi : i = es.size
              · rw [if_pos hi] at h1; cases h1
                rw [if_neg (by omega)] at h2
                rw [show i - kv.length = 0 by omega] at h2
                cases h2
                exact ⟨rx, ry⟩
              · rw [if_neg hi] at h1
                have := (Array.getElem?_eq_some_iff.1 h1).1
                rw [if_pos (by omega)] at h2
                exact hent i e p h1 h2
          · have hj : es[j]? = some e := by simpa using q2
            have hkey : ∀ e', es[j]? = some e' → ({ e' with key := a.eval x, val := a.eval y } : MapEntry).key = e'.key := fun e' he' => by rw [hj] at he'; cases he'; exact q3.symm
            refine fin (es.modify j fun e => { e with key := a.eval x, val := a.eval y }) clock ?_ (by rw [q6]; simp [hlen]) (stamped_modify hst2 _ _ (fun _ _ => rfl) (fun e' _ he' => hkey e' he')) fun i e' p h1 h2 => ?_
            · simp [Instr.mapUpdate, run_underlying hu, MapKept.run_getObj_map hheap, MapKept.run_checkKey hkd hik, MapKept.run_findKey hkd q1, hj, q3, MapKept.run_keyThatStays hik, MapKept.run_setObj_map _ hheap, Result.andThen]
            · rw [q6] at h2
              rw [Array.getElem?_modify] at h1
              rw [List.getElem?_set] at h2
              by_cases hi : j = i
              · subst hi
                rw [if_pos rfl, hj] at h1
                cases h1
                rw [if_pos rfl] at h2
                split at h2
                · cases h2; exact ⟨rx, ry⟩
                · cases h2
              · rw [if_neg hi] at h1 h2
                exact hent i e' p h1 h2
        · cases h
      · cases h
    · cases h
  · cases h
structure PMl where
  kv : List (V × V)
  sh : Sh
  kx : V
  et : TypeId
  two : Bool
  g : Option (Bool × Bool)
  ob : List Prop
  t : Nat
  todo : List DI
def ylo (tt : TT) (n : Nat) (env : Env) (st : St) (nm : Nat) (todo : List DI) : Option PMl :=
  match zce todo ([nm], []) with
  | some (all, o, todo') => match o.op, zdw all env o with
    | .lookup t m k two, some g => match lk tt t, yap (zai g) env m, yap (zai g) env k with
      | some { sh := .map kt et, .. }, some (.mapr id, o1), some (.imm kx, o2) => match Nat.beq id nm, lk tt kt, lk st id, zc2 n o.dst with
        | true, some i, some (some (.map kv)), true => match o.dst with
          | some t => some ⟨kv, i.sh, kx, et, two, g, cat o1 o2, t, todo'⟩
          | none => none
        | _, _, _, _ => none
      | _, _, _ => none
    | _, _ => none
  | none => none
theorem zon {t : TypeId} {z : Value} (h : (P.info? t).bind (·.zero) = some z) : (zeroValue t).run P w = .ok z w := by
  cases hi : P.info? t with
  | none => rw [hi] at h; cases h
  | some inf =>
    rw [hi] at h
    have h : inf.zero = some z := h
    simp [zeroValue, typeInfo, hi, h]
def zxo (two : Bool) (kv : List (V × V)) (x : V) (zd : V) : D :=
  let r := match zux kv x with
    | some y => (y, true)
    | none => (zd, false)
  if two then .imm (.tup [r.1, .bool r.2]) else .imm r.1
theorem zm8 (htt : TTok P tt) (nm : Nat) {kv : List (V × V)} {sh : Sh} {kx : V} {et : TypeId} {two : Bool} {g : Option (Bool × Bool)} {ob : List Prop} {t0 : Nat} {todo0 : List DI} {dd : TypeDesc} {z : Value} {zd : V} {dr : D}
    (h : ylo tt n env st nm todo = some ⟨kv, sh, kx, et, two, g, ob, t0, todo0⟩) (hd : zrd sh = some dd) (hk : zzm sh kx = true) (hkv : ∀ p ∈ kv, zzm sh p.1 = true) (hob : zbw ob)
    (hz : (P.info? et).bind (·.zero) = some z) (hzr : ∀ I, RepV I z zd) (hdr : zxo two kv kx zd = dr) (hg : G P n F Q todo0 ((t0, gD g dr) :: env) st ids) : G P n F Q todo env st ids := by
  unfold ylo at h
  split at h
  · rename_i all o todo' h1
    split at h
    · rename_i t m k two' g' hop hgd
      split at h
      · rename_i kt et' _ _ _ _ id o1 kx' o2 ht hm hx
        split at h
        · rename_i i kv' hid hi hl hdo
          split at h
          · rename_i t' hdst
            cases h
            have hid := Nat.eq_of_beq_eq_true hid
            subst hid
            subst hdr
            have hg : G P n F Q todo0 (zdz o.dst (gD g (zxo two kv kx zd)) env) st ids := by rw [hdst]; exact hg
            refine zcv (fr := []) (wr := []) (rd := [id]) h1 (zd7 hgd fun I μ st1 ids1 a w hag hst hops hcx => ?_) hdo (fun c hc => by rw [hop] at hc; cases hc) hg
            rw [hop] at hops
            obtain ⟨ho1, ho2⟩ := zbb hob
            have rm := zds hm ho1 hcx (hops m (by simp [Op.operands]))
            have rx := (zds hx ho2 hcx (hops k (by simp [Op.operands]))).immInv
            have hl1 : zap st1 id (.map kv) := by unfold zap; rw [hag id (by simp)]; exact hl
            obtain ⟨b, es, clock, e1, hmu, hheap, hlen, hst2, hent⟩ := ygq hst hl1 rm
            have hu : P.underlying t = some (.map kt et) := htt.sh ht
            have hkd : P.underlying kt = some dd := zya hd (htt.sh hi)
            have hik := zl7 hd hk rx
            have fin : ∀ (v : Value) (ok : Bool) (d : V), (Instr.lookup t (.map (some b)) (a.eval k) two).run P w = .ok (if two then .tuple #[v, .bool ok] else v) w → RepV I v d →
                zxo two kv kx zd = (if two then .imm (.tup [d, .bool ok]) else .imm d) →
                valX P ((execOp a.eval o).run P w) (fun u w' => ∃ I' μ', StRep I' μ' st1 ids1 w' ∧ RepD I' μ' u (zxo two kv kx zd) ∧ μ.le μ' ∧ Ext I μ st1 w I' μ' st1 w') (yep (yip Q) I μ st1 w) := by
              intro v ok d hr hv he
              have hrun : (execOp a.eval o).run P w = .ok (.value (if two then .tuple #[v, .bool ok] else v)) w := by
                simp only [execOp, hop, e1]
                exact zan hr
              rw [hrun]
              refine ⟨I, μ, hst, ?_, Mu.le_refl μ, Ext.refl _ _ _ _⟩
              rw [he]
              cases two with
              | false => exact .imm _ _ hv
              | true =>
                refine .imm _ _ (.tup _ _ rfl fun i c x hc hx => ?_)
                match i, hc, hx with
                | 0, hc, hx => cases hc; cases hx; exact hv
                | 1, hc, hx => cases hc; cases hx; exact .bool _
                | i + 2, hc, hx => simp at hx
            rcases zu9 (I := I) hd hk rx es.toList kv 0 (by simpa using hlen) (fun j e p h1 h2 => hent j e p (by simpa using h1) h2) hkv with ⟨q1, q2, _, _⟩ | ⟨j, e, y', q1, q2, q3, q4, q5, q6⟩
            · refine fin z false zd ?_ (hzr I) (by simp [zxo, q2])
              simp [Instr.lookup, run_underlying hu, MapKept.run_getObj_map hheap, MapKept.run_checkKey hkd hik, MapKept.run_findKey hkd q1, zon hz, Result.andThen]
            · refine fin e.val true y' ?_ q5 (by simp [zxo, q4])
              simp [Instr.lookup, run_underlying hu, MapKept.run_getObj_map hheap, MapKept.run_checkKey hkd hik, MapKept.run_findKey hkd q1, Result.andThen]
          · cases h
        · cases h
      · cases h
    · cases h
  · cases h
end
end Go.Hk

/- Contracts of term: patterns. -/
namespace Go.Hk
open Go.Proofs
def ttP : TT := ttT ++ [
  (61, ⟨.map 9 4, false, 1, 8, [.imm .nilmap]⟩)]
theorem zih : TTok Tryz.prog ttP := .of_eq (l := [4, 3, 9, 26, 58, 22, 24, 5, 36, 23, 56, 29, 139, 83, 1, 61]) (by kernel_rfl)
section
variable {n : Nat} {F : List Nat} {Q : DQ} {env env' : Env} {st st' : St} {ids ids' : List Nat} {k todo : List DI} {ob : List Prop}
theorem pd (path : List Pt) (h : run ttP n 300 path todo env st ids [] = .at k env' st' ids' ob) (hob : zbw ob) (hd : G Tryz.prog n F Q k env' st' ids') : DGo Tryz.prog n F Q todo env st ids := zrf zih mixed 300 path h hob hd
theorem pg (path : List Pt) (h : run ttP n 300 path todo env st ids [] = .at k env' st' ids' ob) (hob : zbw ob) (hd : G Tryz.prog n F Q k env' st' ids') : G Tryz.prog n F Q todo env st ids := zqo zih mixed 300 path h hob hd
theorem pi {es : List (List V)} {m : Int} {sz : Nat} {e : TypeId} {g : Option (Bool × Bool)} {ob : List Prop} {t : Nat} {todo' : List DI} {c : List V} (h : yio ttP n env todo = some ⟨es, m, sz, e, g, ob, some t, todo'⟩)
    (hc : zai g → 0 ≤ m ∧ es[m.toNat]? = some c ∧ c.length = sz) (hob : zbw ob) (hk : G Tryz.prog n F Q todo' ((t, gD g (.ip e c 0)) :: env) st ids) : G Tryz.prog n F Q todo env st ids := zeg zih h hc hob hk
end
def zem (l : List Str) : List (V × V) := l.map fun s => (.str s, .bool true)
def yin (l : List Str) : Blk := .map (zem l)
theorem zc0 (l : List Str) : ∀ p ∈ zem l, zzm .str p.1 = true := by
  intro p hp
  obtain ⟨s, _, rfl⟩ := List.mem_map.1 hp
  rfl
theorem yk0 (s x : Str) : (s == x) = (x == s) := by
  rw [Bool.eq_iff_iff, beq_iff_eq, beq_iff_eq]; exact ⟨Eq.symm, Eq.symm⟩
theorem yfe (l : List Str) (s : Str) : zux (zem l) (.str s) = if zbp l s then some (.bool true) else none := by
  induction l with
  | nil => rfl
  | cons x r ih =>
    simp only [zem, List.map_cons, zux, eqK, zbp] at ih ⊢
    rw [ih]
    by_cases h : x = s
    · subst h; simp
    · have h1 : (s == x) = false := by simpa using fun e => h e.symm
      have h2 : (x == s) = false := by simpa using h
      simp [h1, h2]
theorem zgv (l : List Str) (s : Str) : zxo false (zem l) (.str s) (.bool false) = .imm (.bool (zbp l s)) := by
  simp only [zxo, yfe]
  cases zbp l s <;> rfl
theorem zui (l : List Str) (s : Str) (h : zbp l s = false) : zv0 (zem l) (.str s) (.bool true) = zem (l ++ [s]) := by
  induction l with
  | nil => rfl
  | cons x r ih =>
    simp only [zbp, Bool.or_eq_false_iff] at h
    have h1 : (s == x) = false := by rw [yk0]; exact h.1
    simp only [zem, List.map_cons, zv0, eqK, h1, List.cons_append] at ih ⊢
    simp [ih h.2]
theorem zga : ∀ (a b p : List Str), zbg p (a ++ b) = (zbg p a && zbg (p ++ a) b)
  | [], b, p => by simp [zbg]
  | x :: r, b, p => by simp [zbg, zga r b (p ++ [x]), Bool.and_assoc]
set_option maxRecDepth 100000 in
theorem zpe : ∀ (t : Ty) (met : List Str), (zcc t && zbg met (za3 t)) = true → zc5 Tryz.prog 128 [.imm (.agg (zb5 t)), .mapr 1] [(1, some (yin met))] (.ret zwc [(1, some (yin (met ++ za3 t)))])
  | .mk s n x ps, met, hy => by
    refine zjb 0 rfl fun hok => ?_
    have hv : ps.length ≤ 9223372036854775807 := by
      simp [zks, vOk, zb5, maxLen] at hok
      have := hok.1
      omega
    refine zaf zih Tryz.func128 (by decide +kernel) rfl [2, 3, 4] rfl rfl ?_
    have J : ∀ m0 : List Str, (zbr ps && zbg m0 (zat ps)) = true → m0 ++ zat ps = met ++ za3 (.mk s n x ps) → DGo Tryz.prog Tryz.f128.ntmps (nms [(1, some (yin met))]) (yex ttP Tryz.f128.results.toList (.ret zwc [(1, some (yin (met ++ za3 (.mk s n x ps))))]))
        [.code (zh9 Tryz.f128 2)] [(1, .mapr 1), (2, .ref 2 0)] [(2, some (.immb 58 4 (zb5 (.mk s n x ps)))), (1, some (yin m0))] [3, 4] := by
      intro m0 hy he
      refine pd [] rfl (by simp) ?_
      refine zak (fun i : Nat => [(113, .imm (.int .i64 i)), (112, .imm (.int .i64 ps.length)), (111, .imm (.sl (zcf ps))), (1, .mapr 1), (2, .ref 2 0)]) (fun i => [(2, some (.immb 58 4 (zb5 (.mk s n x ps)))), (1, some (yin (m0 ++ zat (ps.take i))))]) [3, 4] (fun i => ps.length - i)
        (fun i => i ≤ ps.length ∧ (zbr (ps.drop i) && zbg (m0 ++ zat (ps.take i)) (zat (ps.drop i))) = true) 0 ⟨Nat.zero_le _, by simpa [zat] using hy⟩ ⟨rfl, zcr (by simp), rfl, rfl, rfl, trivial⟩ ⟨rfl, by simp [zat]; rfl, trivial⟩ rfl fun i hi ih => ?_
      refine pd [] rfl (by simp) ?_
      have hi2 := hi.2
      refine zab rfl (fun h => ?_) (fun h => ?_)
      · simp at h
        obtain ⟨t, ht⟩ := zal h
        have htk : zat (ps.take (i + 1)) = zat (ps.take i) ++ za3 t := by rw [zb7 ht, zef]; simp [zat]
        rw [zaq ht] at hi2
        simp only [zbr, zat, zga] at hi2
        refine pd [] rfl (by simp) ?_
        refine pi rfl (c := zb5 t) (fun _ => ⟨by simp, by simpa using zb8 ht, by simp⟩) (by simp) ?_
        refine pg [] rfl (by simp) ?_
        refine zar (fr := []) [(1, 1)] [] rfl (by simp) (zpe t (m0 ++ zat (ps.take i)) (by simp only [Bool.and_eq_true] at hi2 ⊢; exact ⟨hi2.1.1, hi2.2.1⟩)) ⟨⟨rfl, rfl, rfl⟩, trivial⟩ rfl rfl rfl rfl ?_
        refine pg [] rfl (by simp) ?_
        exact zae (ih (i + 1) (by omega) ⟨by omega, by rw [htk, ← List.append_assoc]; simp only [Bool.and_eq_true] at hi2 ⊢; exact ⟨hi2.1.2, hi2.2.2⟩⟩) ⟨zcr (w64 (by omega) (by omega)), rfl, rfl, rfl, rfl, trivial⟩ ⟨rfl, by rw [htk, ← List.append_assoc]; rfl, trivial⟩ rfl
      · refine pd [] rfl (by simp) ?_
        simp at h
        refine zb0 ⟨_, rfl, rfl, ⟨?_, trivial⟩⟩
        rw [List.take_of_length_le (by omega), he]
        rfl
    simp only [zcc, Bool.and_eq_true] at hy
    obtain ⟨⟨hp, hps⟩, hdf⟩ := hy
    by_cases h1 : s = 1
    · subst h1
      simp [zib, inI] at hp
      refine pg [.a, .a] rfl (by simp [zai] <;> grind) ?_
      refine zac rfl (fun _ => zb3 _ (by simp [zaw] at hp ⊢; grind)) (by simp) ?_
      refine pg [.s] rfl (by simp) ?_
      exact zae (J met (by simpa [za3, hps] using hdf) (by simp [za3])) ⟨rfl, rfl, trivial⟩ ⟨rfl, rfl, trivial⟩ rfl
    by_cases h5 : s = 5
    · subst h5
      simp [zib, inI] at hp
      refine pg [.a, .a] rfl (by simp [zai] <;> grind) ?_
      refine zac rfl (fun _ => zb3 _ (by simp [zaw] at hp ⊢; grind)) (by simp) ?_
      refine pg [.s] rfl (by simp) ?_
      exact zae (J met (by simpa [za3, hps] using hdf) (by simp [za3])) ⟨rfl, rfl, trivial⟩ ⟨rfl, rfl, trivial⟩ rfl
    by_cases h3 : s = 3
    · subst h3
      simp [zib, inI] at hp
      refine pg [.a, .a, .a, .a] rfl (by simp [zai] <;> grind) ?_
      refine zac rfl (fun _ => zjw n) (by simp [zai]) ?_
      refine pg [] rfl (by simp [zai]) ?_
      refine zac rfl (fun _ => zb3 _ (by simp [zaw] at hp ⊢; grind)) (by simp) ?_
      refine pg [.s] rfl (by simp) ?_
      exact zae (J met (by simpa [za3, hps] using hdf) (by simp [za3])) ⟨rfl, rfl, trivial⟩ ⟨rfl, rfl, trivial⟩ rfl
    by_cases h4 : s = 4
    · subst h4
      simp [zib, inI] at hp
      refine pg [.a, .a, .a, .a, .a] rfl (by simp [zai] <;> grind) ?_
      refine zac rfl (fun _ => zb3 _ (by obtain ⟨⟨rfl, rfl⟩, ha, hb⟩ := hp; have : n = 0 ∨ n = 1 := (by omega); rcases this with rfl | rfl <;> simp)) (by simp) ?_
      refine pg [.s] rfl (by simp) ?_
      exact zae (J met (by simpa [za3, hps] using hdf) (by simp [za3])) ⟨rfl, rfl, trivial⟩ ⟨rfl, rfl, trivial⟩ rfl
    by_cases h6 : s = 6
    · subst h6
      simp [zib, inI] at hp
      refine pg [.a, .a, .a, .a, .a, .a] rfl (by simp [zai] <;> grind) ?_
      refine zac rfl (fun _ => zik x) (by simp [zai]) ?_
      refine pg [] rfl (by simp [zai]) ?_
      refine zac rfl (fun _ => zb3 _ (by simp [zaw] at hp ⊢; grind)) (by simp) ?_
      refine pg [.s] rfl (by simp) ?_
      exact zae (J met (by simpa [za3, hps] using hdf) (by simp [za3])) ⟨rfl, rfl, trivial⟩ ⟨rfl, rfl, trivial⟩ rfl
    by_cases h2 : s = 2
    · subst h2
      simp [zib, inI] at hp
      refine pg [.a, .a, .a] rfl (by simp [zai] <;> grind) ?_
      refine zac rfl (fun _ => zff x) (by simp [zai]) ?_
      refine pg [] rfl (by simp [zai]) ?_
      have hx : zbp met x = false := by simpa [za3, zbg] using hdf
      refine zm8 zih 1 rfl rfl rfl (zc0 met) (by simp [zai]) (z := .bool false) rfl (fun _ => .bool _) (zgv met x) ?_
      refine pg [] rfl (by simp [zai]) ?_
      refine zac rfl (fun _ => zb3 _ (by simp at hp ⊢; rw [hx]; grind)) (by simp) ?_
      refine pg [] rfl (by simp) ?_
      refine zoa zih rfl rfl rfl (zc0 met) ?_
      rw [zui met x hx]
      have he : ps = [] := by simpa using hp.1.1
      subst he
      refine pg [.s] rfl (by simp) ?_
      exact zae (J (met ++ [x]) (by simp [zbr, zat, zbg]) (by simp [za3, zat])) ⟨rfl, rfl, trivial⟩ ⟨rfl, rfl, trivial⟩ rfl
    exfalso
    simp [zib, h1, h2, h3, h4, h5, h6] at hp
termination_by t => SizeOf.sizeOf t
decreasing_by
  all_goals
    have := List.sizeOf_lt_of_mem (List.mem_of_getElem? ht)
    simp_wf
    omega
set_option maxRecDepth 100000 in
theorem yar : ∀ (t : Ty) (met : List Str), (zcc t && zbg met (za3 t)) = false → zc5 Tryz.prog 128 [.imm (.agg (zb5 t)), .mapr 1] [(1, some (yin met))] (.pan znc)
  | .mk s n x ps, met, hy => by
    refine zjb 0 rfl fun hok => ?_
    have hv : ps.length ≤ 9223372036854775807 := by
      simp [zks, vOk, zb5, maxLen] at hok
      have := hok.1
      omega
    refine zaf zih Tryz.func128 (by decide +kernel) rfl [2, 3, 4] rfl rfl ?_
    have J : ∀ m0 : List Str, (zbr ps && zbg m0 (zat ps)) = false → DGo Tryz.prog Tryz.f128.ntmps (nms [(1, some (yin met))]) (yex ttP Tryz.f128.results.toList (.pan znc))
        [.code (zh9 Tryz.f128 2)] [(1, .mapr 1), (2, .ref 2 0)] [(2, some (.immb 58 4 (zb5 (.mk s n x ps)))), (1, some (yin m0))] [3, 4] := by
      intro m0 hy 
      refine pd [] rfl (by simp) ?_
      refine zak (fun i : Nat => [(113, .imm (.int .i64 i)), (112, .imm (.int .i64 ps.length)), (111, .imm (.sl (zcf ps))), (1, .mapr 1), (2, .ref 2 0)]) (fun i => [(2, some (.immb 58 4 (zb5 (.mk s n x ps)))), (1, some (yin (m0 ++ zat (ps.take i))))]) [3, 4] (fun i => ps.length - i)
        (fun i => i ≤ ps.length ∧ (zbr (ps.drop i) && zbg (m0 ++ zat (ps.take i)) (zat (ps.drop i))) = false) 0 ⟨Nat.zero_le _, by simpa [zat] using hy⟩ ⟨rfl, zcr (by simp), rfl, rfl, rfl, trivial⟩ ⟨rfl, by simp [zat]; rfl, trivial⟩ rfl fun i hi ih => ?_
      refine pd [] rfl (by simp) ?_
      have hi2 := hi.2
      refine zab rfl (fun h => ?_) (fun h => ?_)
      · simp at h
        obtain ⟨t, ht⟩ := zal h
        have htk : zat (ps.take (i + 1)) = zat (ps.take i) ++ za3 t := by rw [zb7 ht, zef]; simp [zat]
        rw [zaq ht] at hi2
        simp only [zbr, zat, zga] at hi2
        refine pd [] rfl (by simp) ?_
        refine pi rfl (c := zb5 t) (fun _ => ⟨by simp, by simpa using zb8 ht, by simp⟩) (by simp) ?_
        refine pg [] rfl (by simp) ?_
        by_cases hz : (zcc t && zbg (m0 ++ zat (ps.take i)) (za3 t)) = true
        · refine zar (fr := []) [(1, 1)] [] rfl (by simp) (zpe t (m0 ++ zat (ps.take i)) hz) ⟨⟨rfl, rfl, rfl⟩, trivial⟩ rfl rfl rfl rfl ?_
          refine pg [] rfl (by simp) ?_
          exact zae (ih (i + 1) (by omega) ⟨by omega, by rw [htk, ← List.append_assoc]; simp only [Bool.and_eq_true] at hz; rw [hz.1, hz.2] at hi2; simpa using hi2⟩) ⟨zcr (w64 (by omega) (by omega)), rfl, rfl, rfl, rfl, trivial⟩ ⟨rfl, by rw [htk, ← List.append_assoc]; rfl, trivial⟩ rfl
        · exact zav [(1, 1)] rfl (by simp) (yar t (m0 ++ zat (ps.take i)) (by simpa using hz)) ⟨⟨rfl, rfl, rfl⟩, trivial⟩ rfl rfl
      · exfalso
        simp at h
        rw [List.drop_eq_nil_of_le (by omega)] at hi2
        simp [zbr, zat, zbg] at hi2
    by_cases h1 : s = 1
    · subst h1
      refine pg [.a, .a] rfl (by simp [zai] <;> grind) ?_
      by_cases hp : zib 1 n x ps.length = true
      · have hps : (zbr ps && zbg met (zat ps)) = false := by simpa [zcc, hp, za3] using hy
        simp [zib, inI] at hp
        refine zac rfl (fun _ => zb3 _ (by simp [zaw] at hp ⊢; grind)) (by simp) ?_
        refine pg [.s] rfl (by simp) ?_
        exact zae (J met hps) ⟨rfl, rfl, trivial⟩ ⟨rfl, rfl, trivial⟩ rfl
      · simp [zib, inI] at hp
        exact zav [] rfl (by simp) (zcz _ (by simp [zaw] at hp ⊢; grind)) trivial rfl rfl
    by_cases h5 : s = 5
    · subst h5
      refine pg [.a, .a] rfl (by simp [zai] <;> grind) ?_
      by_cases hp : zib 5 n x ps.length = true
      · have hps : (zbr ps && zbg met (zat ps)) = false := by simpa [zcc, hp, za3] using hy
        simp [zib, inI] at hp
        refine zac rfl (fun _ => zb3 _ (by simp [zaw] at hp ⊢; grind)) (by simp) ?_
        refine pg [.s] rfl (by simp) ?_
        exact zae (J met hps) ⟨rfl, rfl, trivial⟩ ⟨rfl, rfl, trivial⟩ rfl
      · simp [zib, inI] at hp
        exact zav [] rfl (by simp) (zcz _ (by simp [zaw] at hp ⊢; grind)) trivial rfl rfl
    by_cases h3 : s = 3
    · subst h3
      refine pg [.a, .a, .a, .a] rfl (by simp [zai] <;> grind) ?_
      refine zac rfl (fun _ => zjw n) (by simp [zai]) ?_
      refine pg [] rfl (by simp [zai]) ?_
      by_cases hp : zib 3 n x ps.length = true
      · have hps : (zbr ps && zbg met (zat ps)) = false := by simpa [zcc, hp, za3] using hy
        simp [zib, inI] at hp
        refine zac rfl (fun _ => zb3 _ (by simp [zaw] at hp ⊢; grind)) (by simp) ?_
        refine pg [.s] rfl (by simp) ?_
        exact zae (J met hps) ⟨rfl, rfl, trivial⟩ ⟨rfl, rfl, trivial⟩ rfl
      · simp [zib, inI] at hp
        exact zav [] rfl (by simp) (zcz _ (by simp [zaw] at hp ⊢; grind)) trivial rfl rfl
    by_cases h4 : s = 4
    · subst h4
      refine pg [.a, .a, .a, .a, .a] rfl (by simp [zai] <;> grind) ?_
      by_cases hp : zib 4 n x ps.length = true
      · have hps : (zbr ps && zbg met (zat ps)) = false := by simpa [zcc, hp, za3] using hy
        simp [zib, inI] at hp
        refine zac rfl (fun _ => zb3 _ (by obtain ⟨⟨rfl, rfl⟩, ha, hb⟩ := hp; have : n = 0 ∨ n = 1 := (by omega); rcases this with rfl | rfl <;> simp)) (by simp) ?_
        refine pg [.s] rfl (by simp) ?_
        exact zae (J met hps) ⟨rfl, rfl, trivial⟩ ⟨rfl, rfl, trivial⟩ rfl
      · simp [zib, inI] at hp
        exact zav [] rfl (by simp) (zcz _ (by simp [zaw] at hp ⊢; grind)) trivial rfl rfl
    by_cases h6 : s = 6
    · subst h6
      refine pg [.a, .a, .a, .a, .a, .a] rfl (by simp [zai] <;> grind) ?_
      refine zac rfl (fun _ => zik x) (by simp [zai]) ?_
      refine pg [] rfl (by simp [zai]) ?_
      by_cases hp : zib 6 n x ps.length = true
      · have hps : (zbr ps && zbg met (zat ps)) = false := by simpa [zcc, hp, za3] using hy
        simp [zib, inI] at hp
        refine zac rfl (fun _ => zb3 _ (by simp [zaw] at hp ⊢; grind)) (by simp) ?_
        refine pg [.s] rfl (by simp) ?_
        exact zae (J met hps) ⟨rfl, rfl, trivial⟩ ⟨rfl, rfl, trivial⟩ rfl
      · simp [zib, inI] at hp
        exact zav [] rfl (by simp) (zcz _ (by simp [zaw] at hp ⊢; grind)) trivial rfl rfl
    by_cases h2 : s = 2
    · subst h2
      refine pg [.a, .a, .a] rfl (by simp [zai] <;> grind) ?_
      refine zac rfl (fun _ => zff x) (by simp [zai]) ?_
      refine pg [] rfl (by simp [zai]) ?_
      refine zm8 zih 1 rfl rfl rfl (zc0 met) (by simp [zai]) (z := .bool false) rfl (fun _ => .bool _) (zgv met x) ?_
      refine pg [] rfl (by simp [zai]) ?_
      refine zav [] rfl (by simp) (zcz _ ?_) trivial rfl rfl
      simp [zcc, zib, za3, zbg] at hy
      cases hm : zbp met x with
      | true => simp
      | false =>
        simp only [hm] at hy
        by_cases hq : ps = []
        · subst hq; simp [zbr] at hy ⊢; grind
        · simp [hq]
    refine pg [.f, .f, .f, .f, .f, .f] rfl (by simp [h1, h2, h3, h4, h5, h6]) ?_
    exact zav [] rfl (by simp) (zcz _ rfl) trivial rfl rfl
termination_by t => SizeOf.sizeOf t
decreasing_by
  all_goals
    have := List.sizeOf_lt_of_mem (List.mem_of_getElem? ht)
    simp_wf
    omega
def zcp (t : Ty) : Bool := decide (zbk t ≤ 12) && (zcc t && zjc (za3 t))
set_option maxRecDepth 100000 in
theorem zvh (t : Ty) (h : zcp t = true) : zc5 Tryz.prog 126 [.ref 1 0] [(1, some (.immb 58 4 (zb5 t)))] (.ret zwc [(1, some (.immb 58 4 (zb5 t)))]) := by
  simp only [zcp, Bool.and_eq_true, decide_eq_true_eq] at h
  refine zaf zih Tryz.func126 (by decide +kernel) rfl [2, 3, 4] rfl rfl ?_
  refine pg [] rfl (by simp) ?_
  refine zar (fr := []) [(2, 1)] [] rfl (by simp) (zo3 t 12 (by omega) (by decide)) ⟨⟨rfl, rfl, rfl⟩, trivial⟩ rfl rfl rfl rfl ?_
  refine pg [] rfl (by simp) ?_
  refine zi8 rfl ?_
  refine pg [] rfl (by simp) ?_
  refine zar (fr := []) [(3, 1)] [] rfl (by simp) (zpe t [] (by simpa [zjc] using h.2)) ⟨⟨rfl, rfl, rfl⟩, trivial⟩ rfl rfl rfl rfl ?_
  refine pg [] rfl (by simp) ?_
  exact zb0 ⟨_, rfl, rfl, ⟨rfl, trivial⟩⟩
set_option maxRecDepth 100000 in
theorem zyf (t : Ty) (h : zcp t = false) : zc5 Tryz.prog 126 [.ref 1 0] [(1, some (.immb 58 4 (zb5 t)))] (.pan znc) := by
  refine zaf zih Tryz.func126 (by decide +kernel) rfl [2, 3, 4] rfl rfl ?_
  refine pg [] rfl (by simp) ?_
  by_cases h1 : zbk t ≤ 12
  · refine zar (fr := []) [(2, 1)] [] rfl (by simp) (zo3 t 12 (by omega) (by decide)) ⟨⟨rfl, rfl, rfl⟩, trivial⟩ rfl rfl rfl rfl ?_
    refine pg [] rfl (by simp) ?_
    refine zi8 rfl ?_
    refine pg [] rfl (by simp) ?_
    exact zav [(3, 1)] rfl (by simp) (yar t [] (by simpa [zcp, h1, zjc] using h)) ⟨⟨rfl, rfl, rfl⟩, trivial⟩ rfl rfl
  · exact zav [(2, 1)] rfl (by simp) (yhf t 12 (by omega) (by decide) (by decide)) ⟨⟨rfl, rfl, rfl⟩, trivial⟩ rfl rfl
set_option maxRecDepth 100000 in
theorem zr2 (t : Ty) : zax Tryz.prog 112 [.agg (zb5 t)] (zzx (zcp t)) := by
  refine zaf zih Tryz.func112 (by decide +kernel) rfl [1, 2, 3] rfl rfl ?_
  refine pg [] rfl (by simp) ?_
  cases h : zcp t with
  | true =>
    refine zar (fr := []) [(1, 1)] [] rfl (by simp) (zoh Tryz.func126 (by decide +kernel) rfl (zvh t h)) ⟨⟨rfl, rfl, rfl⟩, trivial⟩ rfl rfl rfl rfl ?_
    refine pg [] rfl (by simp) ?_
    exact zaa ⟨_, rfl, tV rfl, trivial⟩
  | false =>
    refine zar (fr := []) [(1, 1)] [] rfl (by simp) (zrh Tryz.func126 (by decide +kernel) rfl (zyf t h)) ⟨⟨rfl, rfl, rfl⟩, trivial⟩ rfl rfl rfl rfl ?_
    refine pg [] rfl (by simp) ?_
    exact zaa ⟨_, rfl, tV rfl, trivial⟩
end Go.Hk

/- Contracts of term: what nodes have. -/
namespace Go.Hk
open Go.Proofs
def ttS : TT := ttP ++ [
  (143, ⟨.struct [(0, 4), (1, 4), (2, 4), (3, 3)], true, 4, 16, [.imm (.bool false), .imm (.bool false), .imm (.bool false), .imm (.int .i64 0)]⟩)]
theorem zig : TTok Tryz.prog ttS := .of_eq (l := [4, 3, 9, 26, 58, 22, 24, 5, 36, 23, 56, 29, 139, 83, 1, 61, 143]) (by kernel_rfl)
section
variable {n : Nat} {F : List Nat} {Q : DQ} {env env' : Env} {st st' : St} {ids ids' : List Nat} {k todo : List DI} {ob : List Prop}
theorem sd (path : List Pt) (h : run ttS n 300 path todo env st ids [] = .at k env' st' ids' ob) (hob : zbw ob) (hd : G Tryz.prog n F Q k env' st' ids') : DGo Tryz.prog n F Q todo env st ids := zrf zig mixed 300 path h hob hd
theorem sg (path : List Pt) (h : run ttS n 300 path todo env st ids [] = .at k env' st' ids' ob) (hob : zbw ob) (hd : G Tryz.prog n F Q k env' st' ids') : G Tryz.prog n F Q todo env st ids := zqo zig mixed 300 path h hob hd
theorem si {es : List (List V)} {m : Int} {sz : Nat} {e : TypeId} {g : Option (Bool × Bool)} {ob : List Prop} {t : Nat} {todo' : List DI} {c : List V} (h : yio ttS n env todo = some ⟨es, m, sz, e, g, ob, some t, todo'⟩)
    (hc : zai g → 0 ≤ m ∧ es[m.toNat]? = some c ∧ c.length = sz) (hob : zbw ob) (hk : G Tryz.prog n F Q todo' ((t, gD g (.ip e c 0)) :: env) st ids) : G Tryz.prog n F Q todo env st ids := zeg zig h hc hob hk
end
structure Has where
  n : Bool
  text : Bool
  pats : Bool
  kids : Int
  is : Bool
def zay (op : Int) (k p : Nat) : Has :=
  if op = 1 ∨ op = 2 then ⟨true, false, false, 0, true⟩
  else if op = 3 ∨ op = 21 ∨ op = 25 ∨ op = 28 then ⟨false, false, false, 0, true⟩
  else if op = 4 then ⟨false, true, false, 0, true⟩
  else if op = 5 ∨ op = 27 then ⟨false, true, false, 1, true⟩
  else if op = 7 then ⟨false, true, false, 2, true⟩
  else if op = 8 then ⟨false, false, false, 3, true⟩
  else if op = 14 then ⟨false, true, false, (if (3 : Int) < k then 3 else k), true⟩
  else if op = 15 then ⟨false, false, true, (IntKind.i64.wrap (1 + (p : Int))), true⟩
  else if op = 16 ∨ op = 17 ∨ op = 19 ∨ op = 20 ∨ op = 23 ∨ op = 26 then ⟨false, false, false, 1, true⟩
  else if op = 24 then ⟨true, false, false, 1, true⟩
  else if op = 6 ∨ op = 9 ∨ op = 10 ∨ op = 11 ∨ op = 12 ∨ op = 13 ∨ op = 18 ∨ op = 22 then ⟨false, false, false, 2, true⟩
  else ⟨false, false, false, 0, false⟩
def zif (h : Has) : List V := [.bool h.n, .bool h.text, .bool h.pats, .int .i64 h.kids]
set_option maxRecDepth 100000 in
set_option maxHeartbeats 1000000 in
theorem ya0 (op n : Int) (x : Str) (ks : List Tm) (ps : List Ty) : zax Tryz.prog 110 [.agg (dTmc (.mk op n x ks ps))] (.tup [.agg (zif (zay op ks.length ps.length)), .bool (zay op ks.length ps.length).is]) := by
  refine zde fun hv => ?_
  simp [zks, vOk, dTmc, maxLen] at hv
  refine zaf zig Tryz.func110 (by decide +kernel) rfl [1, 2, 3] rfl rfl ?_
  by_cases h1 : op = 1
  · subst h1
    refine sg [.a, .a] rfl (by simp) ?_
    refine zaa ⟨_, rfl, tV ?_, trivial⟩
    simp [zay, zif]
  by_cases h2 : op = 2
  · subst h2
    refine sg [.a, .a] rfl (by simp) ?_
    refine zaa ⟨_, rfl, tV ?_, trivial⟩
    simp [zay, zif]
  by_cases h3 : op = 3
  · subst h3
    refine sg [.a, .a, .a, .a] rfl (by simp) ?_
    refine zaa ⟨_, rfl, tV ?_, trivial⟩
    simp [zay, zif]
  by_cases h21 : op = 21
  · subst h21
    refine sg [.a, .a, .a, .a, .a] rfl (by simp) ?_
    refine zaa ⟨_, rfl, tV ?_, trivial⟩
    simp [zay, zif]
  by_cases h25 : op = 25
  · subst h25
    refine sg [.a, .a, .a, .a, .a, .a] rfl (by simp) ?_
    refine zaa ⟨_, rfl, tV ?_, trivial⟩
    simp [zay, zif]
  by_cases h28 : op = 28
  · subst h28
    refine sg [.a, .a, .a, .a, .a, .a] rfl (by simp) ?_
    refine zaa ⟨_, rfl, tV ?_, trivial⟩
    simp [zay, zif]
  by_cases h4 : op = 4
  · subst h4
    refine sg [.a, .a, .a, .a, .a, .a, .a] rfl (by simp) ?_
    refine zaa ⟨_, rfl, tV ?_, trivial⟩
    simp [zay, zif]
  by_cases h5 : op = 5
  · subst h5
    refine sg [.a, .a, .a, .a, .a, .a, .a, .a, .a] rfl (by simp) ?_
    refine zaa ⟨_, rfl, tV ?_, trivial⟩
    simp [zay, zif]
  by_cases h27 : op = 27
  · subst h27
    refine sg [.a, .a, .a, .a, .a, .a, .a, .a, .a] rfl (by simp) ?_
    refine zaa ⟨_, rfl, tV ?_, trivial⟩
    simp [zay, zif]
  by_cases h7 : op = 7
  · subst h7
    refine sg [.a, .a, .a, .a, .a, .a, .a, .a, .a, .a] rfl (by simp) ?_
    refine zaa ⟨_, rfl, tV ?_, trivial⟩
    simp [zay, zif]
  by_cases h8 : op = 8
  · subst h8
    refine sg [.a, .a, .a, .a, .a, .a, .a, .a, .a, .a, .a] rfl (by simp) ?_
    refine zaa ⟨_, rfl, tV ?_, trivial⟩
    simp [zay, zif]
  by_cases h14 : op = 14
  · subst h14
    refine sg [.a, .a, .a, .a, .a, .a, .a, .a, .a, .a, .a, .a] rfl (by simp) ?_
    refine zaa ⟨_, rfl, tV ?_, trivial⟩
    simp [zay, zif]
  by_cases h15 : op = 15
  · subst h15
    refine sg [.a, .a, .a, .a, .a, .a, .a, .a, .a, .a, .a, .a, .a] rfl (by simp) ?_
    refine zaa ⟨_, rfl, tV ?_, trivial⟩
    simp [zay, zif]
  by_cases h16 : op = 16
  · subst h16
    refine sg [.a, .a, .a, .a, .a, .a, .a, .a, .a, .a, .a, .a, .a, .a, .a] rfl (by simp) ?_
    refine zaa ⟨_, rfl, tV ?_, trivial⟩
    simp [zay, zif]
  by_cases h17 : op = 17
  · subst h17
    refine sg [.a, .a, .a, .a, .a, .a, .a, .a, .a, .a, .a, .a, .a, .a, .a, .a] rfl (by simp) ?_
    refine zaa ⟨_, rfl, tV ?_, trivial⟩
    simp [zay, zif]
  by_cases h19 : op = 19
  · subst h19
    refine sg [.a, .a, .a, .a, .a, .a, .a, .a, .a, .a, .a, .a, .a, .a, .a, .a, .a] rfl (by simp) ?_
    refine zaa ⟨_, rfl, tV ?_, trivial⟩
    simp [zay, zif]
  by_cases h20 : op = 20
  · subst h20
    refine sg [.a, .a, .a, .a, .a, .a, .a, .a, .a, .a, .a, .a, .a, .a, .a, .a, .a, .a] rfl (by simp) ?_
    refine zaa ⟨_, rfl, tV ?_, trivial⟩
    simp [zay, zif]
  by_cases h23 : op = 23
  · subst h23
    refine sg [.a, .a, .a, .a, .a, .a, .a, .a, .a, .a, .a, .a, .a, .a, .a, .a, .a, .a, .a] rfl (by simp) ?_
    refine zaa ⟨_, rfl, tV ?_, trivial⟩
    simp [zay, zif]
  by_cases h26 : op = 26
  · subst h26
    refine sg [.a, .a, .a, .a, .a, .a, .a, .a, .a, .a, .a, .a, .a, .a, .a, .a, .a, .a, .a] rfl (by simp) ?_
    refine zaa ⟨_, rfl, tV ?_, trivial⟩
    simp [zay, zif]
  by_cases h24 : op = 24
  · subst h24
    refine sg [.a, .a, .a, .a, .a, .a, .a, .a, .a, .a, .a, .a, .a, .a, .a, .a, .a, .a, .a, .a] rfl (by simp) ?_
    refine zaa ⟨_, rfl, tV ?_, trivial⟩
    simp [zay, zif]
  by_cases h6 : op = 6
  · subst h6
    refine sg [.a, .a, .a, .a, .a, .a, .a, .a, .a, .a, .a, .a, .a, .a, .a, .a, .a, .a, .a, .a, .a, .a] rfl (by simp) ?_
    refine zaa ⟨_, rfl, tV ?_, trivial⟩
    simp [zay, zif]
  by_cases h9 : op = 9
  · subst h9
    refine sg [.a, .a, .a, .a, .a, .a, .a, .a, .a, .a, .a, .a, .a, .a, .a, .a, .a, .a, .a, .a, .a, .a, .a] rfl (by simp) ?_
    refine zaa ⟨_, rfl, tV ?_, trivial⟩
    simp [zay, zif]
  by_cases h10 : op = 10
  · subst h10
    refine sg [.a, .a, .a, .a, .a, .a, .a, .a, .a, .a, .a, .a, .a, .a, .a, .a, .a, .a, .a, .a, .a, .a, .a, .a] rfl (by simp) ?_
    refine zaa ⟨_, rfl, tV ?_, trivial⟩
    simp [zay, zif]
  by_cases h11 : op = 11
  · subst h11
    refine sg [.a, .a, .a, .a, .a, .a, .a, .a, .a, .a, .a, .a, .a, .a, .a, .a, .a, .a, .a, .a, .a, .a, .a, .a, .a] rfl (by simp) ?_
    refine zaa ⟨_, rfl, tV ?_, trivial⟩
    simp [zay, zif]
  by_cases h12 : op = 12
  · subst h12
    refine sg [.a, .a, .a, .a, .a, .a, .a, .a, .a, .a, .a, .a, .a, .a, .a, .a, .a, .a, .a, .a, .a, .a, .a, .a, .a, .a] rfl (by simp) ?_
    refine zaa ⟨_, rfl, tV ?_, trivial⟩
    simp [zay, zif]
  by_cases h13 : op = 13
  · subst h13
    refine sg [.a, .a, .a, .a, .a, .a, .a, .a, .a, .a, .a, .a, .a, .a, .a, .a, .a, .a, .a, .a, .a, .a, .a, .a, .a, .a, .a] rfl (by simp) ?_
    refine zaa ⟨_, rfl, tV ?_, trivial⟩
    simp [zay, zif]
  by_cases h18 : op = 18
  · subst h18
    refine sg [.a, .a, .a, .a, .a, .a, .a, .a, .a, .a, .a, .a, .a, .a, .a, .a, .a, .a, .a, .a, .a, .a, .a, .a, .a, .a, .a, .a] rfl (by simp) ?_
    refine zaa ⟨_, rfl, tV ?_, trivial⟩
    simp [zay, zif]
  by_cases h22 : op = 22
  · subst h22
    refine sg [.a, .a, .a, .a, .a, .a, .a, .a, .a, .a, .a, .a, .a, .a, .a, .a, .a, .a, .a, .a, .a, .a, .a, .a, .a, .a, .a, .a] rfl (by simp) ?_
    refine zaa ⟨_, rfl, tV ?_, trivial⟩
    simp [zay, zif]
  refine sg [.f, .f, .f, .f, .f, .f, .f, .f, .f, .f, .f, .f, .f, .f, .f, .f, .f, .f, .f, .f, .f, .f, .f, .f, .f, .f, .f, .f] rfl (by simp [h1, h2, h3, h21, h25, h28, h4, h5, h27, h7, h8, h14, h15, h16, h17, h19, h20, h23, h26, h24, h6, h9, h10, h11, h12, h13, h18, h22]) ?_
  refine zaa ⟨_, rfl, tV ?_, trivial⟩
  simp [zay, zif, h1, h2, h3, h21, h25, h28, h4, h5, h27, h7, h8, h14, h15, h16, h17, h19, h20, h23, h26, h24, h6, h9, h10, h11, h12, h13, h18, h22]
end Go.Hk

/- Contracts of term: nodes. -/
namespace Go.Hk
open Go.Proofs
def zdu (op n : Int) (x : Str) (k p : Nat) : Bool := let h := zay op k p
  h.is && ((k : Int) == h.kids) && (h.n || n == 0) && (h.text || x == []) && (h.pats || (p : Int) == 0)
def zc4 (op : Int) (x : Str) (k p : Nat) : Bool := !((zay op k p).text && op != 14) || zcj x
set_option maxRecDepth 100000 in
theorem zdb (op n : Int) (x : Str) (ks : List Tm) (ps : List Ty) (hl : zc4 op x ks.length ps.length = true) : DGo Tryz.prog Tryz.f96.ntmps (nms []) (yex ttS Tryz.f96.results.toList (.ret zwc []))
    [.code (zh9 Tryz.f96 4)] [(1, .ref 1 0), (2, .ref 2 0)] [(2, some (.immb 143 4 (zif (zay op ks.length ps.length)))), (1, some (.immb 26 5 (dTmc (.mk op n x ks ps))))] [3, 4] := by
  refine sd [] rfl (by simp [zai]) ?_
  refine zab rfl (fun h => ?_) (fun h => ?_)
  · refine sd [] rfl (by simp) ?_
    refine zac rfl (fun _ => zff x) (by simp [zai]) ?_
    refine sg [] rfl (by simp) ?_
    have hx : zcj x = true := by simp [zc4] at hl h; grind
    refine zac rfl (fun _ => zb3 _ hx) (by simp) ?_
    refine sg [] rfl (by simp) ?_
    exact zb0 ⟨_, rfl, rfl, trivial⟩
  · refine sd [] rfl (by simp) ?_
    exact zb0 ⟨_, rfl, rfl, trivial⟩
set_option maxRecDepth 100000 in
theorem zdt (op n : Int) (x : Str) (ks : List Tm) (ps : List Ty) (hl : zc4 op x ks.length ps.length = false) : DGo Tryz.prog Tryz.f96.ntmps (nms []) (yex ttS Tryz.f96.results.toList (.pan znc))
    [.code (zh9 Tryz.f96 4)] [(1, .ref 1 0), (2, .ref 2 0)] [(2, some (.immb 143 4 (zif (zay op ks.length ps.length)))), (1, some (.immb 26 5 (dTmc (.mk op n x ks ps))))] [3, 4] := by
  refine sd [] rfl (by simp [zai]) ?_
  refine zab rfl (fun h => ?_) (fun h => ?_)
  · refine sd [] rfl (by simp) ?_
    refine zac rfl (fun _ => zff x) (by simp [zai]) ?_
    refine sg [] rfl (by simp) ?_
    have hx : zcj x = false := by simp [zc4] at hl h; grind
    exact zav [] rfl (by simp) (zcz _ hx) trivial rfl rfl
  · exfalso
    simp [zc4] at hl h
    grind
def zbf (op n : Int) (x : Str) (ps : List Ty) : Bool :=
  if op = 1 then zaw n
  else if op = 2 then n == 0 || n == 1
  else if op = 24 then decide (0 ≤ n) && decide (n < 4)
  else if op = 14 then zkj x
  else if op = 15 then decide (1 ≤ (ps.length : Int)) && decide ((ps.length : Int) ≤ 5) && ps.all zcp
  else true
def zdk (op n : Int) (x : Str) (k : Nat) (ps : List Ty) : Bool := zdu op n x k ps.length && zbf op n x ps && zc4 op x k ps.length
set_option maxRecDepth 100000 in
theorem zwg (op n : Int) (x : Str) (ks : List Tm) (ps : List Ty) (hy : zdk op n x ks.length ps = true) : zc5 Tryz.prog 96 [.imm (.agg (dTmc (.mk op n x ks ps)))] [] (.ret zwc []) := by
  simp only [zdk] at hy
  refine zaf zig Tryz.func96 (by decide +kernel) rfl [1, 2, 3, 4] rfl rfl ?_
  refine sg [] rfl (by simp) ?_
  refine zac rfl (fun _ => ya0 op n x ks ps) (by simp [zai]) ?_
  refine sg [] rfl (by simp [zai, zif] <;> grind) ?_
  simp only [Bool.and_eq_true] at hy
  obtain ⟨⟨hh, he⟩, hl⟩ := hy
  refine zac rfl (fun _ => zb3 _ (by simp [zdu] at hh ⊢; grind)) (by simp) ?_
  by_cases h1 : op = 1
  · subst h1
    refine sg [.a] rfl (by simp [zai]) ?_
    refine zac rfl (fun _ => zjw n) (by simp) ?_
    refine sg [] rfl (by simp) ?_
    simp [zbf] at he
    refine zac rfl (fun _ => zb3 _ (by first | exact he | (simp at he ⊢; grind) | (simp; grind) | grind)) (by simp) ?_
    refine sg [.s] rfl (by simp) ?_
    exact zae (zdb _ n x ks ps hl) ⟨rfl, rfl, trivial⟩ ⟨rfl, rfl, trivial⟩ rfl
  by_cases h2 : op = 2
  · subst h2
    refine sg [.a, .a] rfl (by simp [zai]) ?_
    simp [zbf] at he
    refine zac rfl (fun _ => zb3 _ (by first | exact he | (simp at he ⊢; grind) | (simp; grind) | grind)) (by simp) ?_
    refine sg [.s] rfl (by simp) ?_
    exact zae (zdb _ n x ks ps hl) ⟨rfl, rfl, trivial⟩ ⟨rfl, rfl, trivial⟩ rfl
  by_cases h24 : op = 24
  · subst h24
    refine sg [.a, .a, .a] rfl (by simp [zai]) ?_
    simp [zbf] at he
    refine zac rfl (fun _ => zb3 _ (by first | exact he | (simp at he ⊢; grind) | (simp; grind) | grind)) (by simp) ?_
    refine sg [.s] rfl (by simp) ?_
    exact zae (zdb _ n x ks ps hl) ⟨rfl, rfl, trivial⟩ ⟨rfl, rfl, trivial⟩ rfl
  by_cases h14 : op = 14
  · subst h14
    refine sg [.a, .a, .a, .a] rfl (by simp [zai]) ?_
    refine zac rfl (fun _ => zik x) (by simp) ?_
    refine sg [] rfl (by simp) ?_
    simp [zbf] at he
    refine zac rfl (fun _ => zb3 _ (by first | exact he | (simp at he ⊢; grind) | (simp; grind) | grind)) (by simp) ?_
    refine sg [.s] rfl (by simp) ?_
    exact zae (zdb _ n x ks ps hl) ⟨rfl, rfl, trivial⟩ ⟨rfl, rfl, trivial⟩ rfl
  by_cases h15 : op = 15
  · subst h15
    refine sg [.a, .a, .a, .a, .a] rfl (by simp [zai]) ?_
    simp [zbf] at he
    refine zac rfl (fun _ => zb3 _ (by simp; grind)) (by simp) ?_
    refine sg [] rfl (by simp) ?_
    refine zak (fun i : Nat => [(101, .imm (.int .i64 i)), (100, .imm (.int .i64 ps.length)), (99, .imm (.sl (zcf ps))), (1, .ref 1 0), (2, .ref 2 0)]) (fun _ => [(2, some (.immb 143 4 (zif (zay 15 ks.length ps.length)))), (1, some (.immb 26 5 (dTmc (.mk 15 n x ks ps))))]) [3, 4] (fun i => ps.length - i)
      (fun i => i ≤ ps.length ∧ (ps.drop i).all zcp = true) 0 ⟨Nat.zero_le _, by simpa using he.2⟩ ⟨rfl, zcr (by simp), rfl, rfl, rfl, trivial⟩ ⟨rfl, rfl, trivial⟩ rfl fun i hi ih => ?_
    refine sd [] rfl (by simp) ?_
    have hi2 := hi.2
    refine zab rfl (fun h => ?_) (fun h => ?_)
    · simp at h
      obtain ⟨t, ht⟩ := zal h
      rw [zaq ht, List.all_cons] at hi2
      refine sd [] rfl (by simp) ?_
      refine si rfl (c := zb5 t) (fun _ => ⟨by simp, by simpa using zb8 ht, by simp⟩) (by simp) ?_
      refine sg [] rfl (by simp) ?_
      refine zac rfl (fun _ => zr2 t) (by simp) ?_
      refine sg [] rfl (by simp) ?_
      simp only [Bool.and_eq_true] at hi2
      have hz := hi2.1
      refine zac rfl (fun _ => zb3 _ (by first | rfl | (rw [hz]; rfl))) (by simp) ?_
      refine sg [] rfl (by simp) ?_
      exact zae (ih (i + 1) (by omega) ⟨by omega, hi2.2⟩) ⟨zcr (w64 (by omega) (by omega)), rfl, rfl, rfl, rfl, trivial⟩ ⟨rfl, rfl, trivial⟩ rfl
    · simp at h
      rw [List.drop_eq_nil_of_le (by omega)] at hi2
      refine sd [.s] rfl (by simp) ?_
      exact zae (zdb _ n x ks ps hl) ⟨rfl, rfl, trivial⟩ ⟨rfl, rfl, trivial⟩ rfl
  refine sg [.f, .f, .f, .f, .f, .s] rfl (by simp [h1, h2, h24, h14, h15]) ?_
  exact zae (zdb _ n x ks ps hl) ⟨rfl, rfl, trivial⟩ ⟨rfl, rfl, trivial⟩ rfl
set_option maxRecDepth 100000 in
theorem yiz (op n : Int) (x : Str) (ks : List Tm) (ps : List Ty) (hy : zdk op n x ks.length ps = false) : zc5 Tryz.prog 96 [.imm (.agg (dTmc (.mk op n x ks ps)))] [] (.pan znc) := by
  simp only [zdk] at hy
  refine zaf zig Tryz.func96 (by decide +kernel) rfl [1, 2, 3, 4] rfl rfl ?_
  refine sg [] rfl (by simp) ?_
  refine zac rfl (fun _ => ya0 op n x ks ps) (by simp [zai]) ?_
  refine sg [] rfl (by simp [zai, zif] <;> grind) ?_
  by_cases hh : zdu op n x ks.length ps.length = true
  rotate_left
  · exact zav [] rfl (by simp) (zcz _ (by simp [zdu] at hh ⊢; grind)) trivial rfl rfl
  rw [hh] at hy
  refine zac rfl (fun _ => zb3 _ (by simp [zdu] at hh ⊢; grind)) (by simp) ?_
  by_cases h1 : op = 1
  · subst h1
    refine sg [.a] rfl (by simp [zai]) ?_
    refine zac rfl (fun _ => zjw n) (by simp) ?_
    refine sg [] rfl (by simp) ?_
    by_cases he : zbf 1 n x ps = true
    · have hl : zc4 1 x ks.length ps.length = false := by simpa [he] using hy
      simp [zbf] at he
      refine zac rfl (fun _ => zb3 _ (by first | exact he | (simp at he ⊢; grind) | (simp; grind) | grind)) (by simp) ?_
      refine sg [.s] rfl (by simp) ?_
      exact zae (zdt _ n x ks ps hl) ⟨rfl, rfl, trivial⟩ ⟨rfl, rfl, trivial⟩ rfl
    · simp [zbf] at he
      exact zav [] rfl (by simp) (zcz _ (by first | exact he | (simp at he ⊢; grind) | (simp; grind) | grind)) trivial rfl rfl
  by_cases h2 : op = 2
  · subst h2
    refine sg [.a, .a] rfl (by simp [zai]) ?_
    by_cases he : zbf 2 n x ps = true
    · have hl : zc4 2 x ks.length ps.length = false := by simpa [he] using hy
      simp [zbf] at he
      refine zac rfl (fun _ => zb3 _ (by first | exact he | (simp at he ⊢; grind) | (simp; grind) | grind)) (by simp) ?_
      refine sg [.s] rfl (by simp) ?_
      exact zae (zdt _ n x ks ps hl) ⟨rfl, rfl, trivial⟩ ⟨rfl, rfl, trivial⟩ rfl
    · simp [zbf] at he
      exact zav [] rfl (by simp) (zcz _ (by first | exact he | (simp at he ⊢; grind) | (simp; grind) | grind)) trivial rfl rfl
  by_cases h24 : op = 24
  · subst h24
    refine sg [.a, .a, .a] rfl (by simp [zai]) ?_
    by_cases he : zbf 24 n x ps = true
    · have hl : zc4 24 x ks.length ps.length = false := by simpa [he] using hy
      simp [zbf] at he
      refine zac rfl (fun _ => zb3 _ (by first | exact he | (simp at he ⊢; grind) | (simp; grind) | grind)) (by simp) ?_
      refine sg [.s] rfl (by simp) ?_
      exact zae (zdt _ n x ks ps hl) ⟨rfl, rfl, trivial⟩ ⟨rfl, rfl, trivial⟩ rfl
    · simp [zbf] at he
      exact zav [] rfl (by simp) (zcz _ (by first | exact he | (simp at he ⊢; grind) | (simp; grind) | grind)) trivial rfl rfl
  by_cases h14 : op = 14
  · subst h14
    refine sg [.a, .a, .a, .a] rfl (by simp [zai]) ?_
    refine zac rfl (fun _ => zik x) (by simp) ?_
    refine sg [] rfl (by simp) ?_
    by_cases he : zbf 14 n x ps = true
    · have hl : zc4 14 x ks.length ps.length = false := by simpa [he] using hy
      simp [zbf] at he
      refine zac rfl (fun _ => zb3 _ (by first | exact he | (simp at he ⊢; grind) | (simp; grind) | grind)) (by simp) ?_
      refine sg [.s] rfl (by simp) ?_
      exact zae (zdt _ n x ks ps hl) ⟨rfl, rfl, trivial⟩ ⟨rfl, rfl, trivial⟩ rfl
    · simp [zbf] at he
      exact zav [] rfl (by simp) (zcz _ (by first | exact he | (simp at he ⊢; grind) | (simp; grind) | grind)) trivial rfl rfl
  by_cases h15 : op = 15
  · subst h15
    refine sg [.a, .a, .a, .a, .a] rfl (by simp [zai]) ?_
    by_cases he : (decide (1 ≤ (ps.length : Int)) && decide ((ps.length : Int) ≤ 5)) = true
    rotate_left
    · exact zav [] rfl (by simp) (zcz _ (by simp at he ⊢; grind)) trivial rfl rfl
    have he5 : ps.length ≤ 5 := by simp at he; omega
    have hy : ps.all zcp = false ∨ zc4 15 x ks.length ps.length = false := by
      have e : zbf 15 n x ps = ((decide (1 ≤ (ps.length : Int)) && decide ((ps.length : Int) ≤ 5)) && ps.all zcp) := by simp only [zbf]; rfl
      rw [e, he] at hy
      simpa only [Bool.true_and, Bool.and_eq_false_iff] using hy
    refine zac rfl (fun _ => zb3 _ (by simp at he ⊢; grind)) (by simp) ?_
    refine sg [] rfl (by simp) ?_
    refine zak (fun i : Nat => [(101, .imm (.int .i64 i)), (100, .imm (.int .i64 ps.length)), (99, .imm (.sl (zcf ps))), (1, .ref 1 0), (2, .ref 2 0)]) (fun _ => [(2, some (.immb 143 4 (zif (zay 15 ks.length ps.length)))), (1, some (.immb 26 5 (dTmc (.mk 15 n x ks ps))))]) [3, 4] (fun i => ps.length - i)
      (fun i => i ≤ ps.length ∧ ((ps.drop i).all zcp = false ∨ zc4 15 x ks.length ps.length = false)) 0 ⟨Nat.zero_le _, hy⟩ ⟨rfl, zcr (by simp), rfl, rfl, rfl, trivial⟩ ⟨rfl, rfl, trivial⟩ rfl fun i hi ih => ?_
    refine sd [] rfl (by simp) ?_
    have hi2 := hi.2
    refine zab rfl (fun h => ?_) (fun h => ?_)
    · simp at h
      obtain ⟨t, ht⟩ := zal h
      rw [zaq ht, List.all_cons] at hi2
      refine sd [] rfl (by simp) ?_
      refine si rfl (c := zb5 t) (fun _ => ⟨by simp, by simpa using zb8 ht, by simp⟩) (by simp) ?_
      refine sg [] rfl (by simp) ?_
      refine zac rfl (fun _ => zr2 t) (by simp) ?_
      refine sg [] rfl (by simp) ?_
      cases hz : zcp t with
      | true =>
        rw [hz, Bool.true_and] at hi2
        refine zac rfl (fun _ => zb3 _ (by first | rfl | (rw [hz]; rfl))) (by simp) ?_
        refine sg [] rfl (by simp) ?_
        exact zae (ih (i + 1) (by omega) ⟨by omega, hi2⟩) ⟨zcr (w64 (by omega) (by omega)), rfl, rfl, rfl, rfl, trivial⟩ ⟨rfl, rfl, trivial⟩ rfl
      | false => exact zav [] rfl (by simp) (zcz _ (by first | rfl | (rw [hz]; rfl))) trivial rfl rfl
    · simp at h
      rw [List.drop_eq_nil_of_le (by omega)] at hi2
      refine sd [.s] rfl (by simp) ?_
      exact zae (zdt _ n x ks ps (by simpa using hi2)) ⟨rfl, rfl, trivial⟩ ⟨rfl, rfl, trivial⟩ rfl
  refine sg [.f, .f, .f, .f, .f, .s] rfl (by simp [h1, h2, h24, h14, h15]) ?_
  exact zae (zdt _ n x ks ps (by simpa [zbf, h1, h2, h24, h14, h15] using hy)) ⟨rfl, rfl, trivial⟩ ⟨rfl, rfl, trivial⟩ rfl
end Go.Hk

/- Contracts of term: terms that are formed. -/
namespace Go.Hk
open Go.Proofs
mutual
def zhk : Tm → Bool
  | .mk op n x ks ps => zdk op n x ks.length ps && zfj ks
def zfj : List Tm → Bool
  | [] => true
  | t :: r => zhk t && zfj r
end
set_option maxRecDepth 100000 in
theorem zmr : ∀ (t : Tm), zhk t = true → zc5 Tryz.prog 62 [.imm (.agg (dTmc t))] [] (.ret zwc [])
  | .mk op n x ks ps, hy => by
    refine zjb 0 rfl fun hok => ?_
    have hv : ks.length ≤ 9223372036854775807 := by
      simp [zks, vOk, dTmc, maxLen] at hok
      have := hok.1
      omega
    simp only [zhk, Bool.and_eq_true_iff] at hy
    refine zaf zig Tryz.func62 (by decide +kernel) rfl [1, 2, 3] rfl rfl ?_
    refine sg [] rfl (by simp) ?_
    refine zar (fr := []) [] [] rfl (by simp) (zwg op n x ks ps hy.1) trivial rfl rfl rfl rfl ?_
    refine sg [] rfl (by simp) ?_
    refine zak (fun i : Nat => [(9, .imm (.int .i64 i)), (8, .imm (.int .i64 ks.length)), (7, .imm (.sl (zdg ks))), (1, .ref 1 0)]) (fun _ => [(1, some (.immb 26 5 (dTmc (.mk op n x ks ps))))]) [2, 3] (fun i => ks.length - i)
      (fun i => i ≤ ks.length ∧ zfj (ks.drop i) = true) 0 ⟨Nat.zero_le _, hy.2⟩ ⟨rfl, zcr (by simp), rfl, rfl, trivial⟩ ⟨rfl, trivial⟩ rfl fun i hi ih => ?_
    refine sd [] rfl (by simp) ?_
    have hi2 := hi.2
    refine zab rfl (fun h => ?_) (fun h => ?_)
    · simp at h
      obtain ⟨t, ht⟩ := zal h
      rw [zaq ht] at hi2
      simp only [zfj, Bool.and_eq_true_iff] at hi2
      refine sd [] rfl (by simp) ?_
      refine si rfl (c := dTmc t) (fun _ => ⟨by simp, by simpa using zch ht, by simp⟩) (by simp) ?_
      refine sg [] rfl (by simp) ?_
      · refine zar (fr := []) [] [] rfl (by simp) (zmr t hi2.1) trivial rfl rfl rfl rfl ?_
        refine sg [] rfl (by simp) ?_
        exact zae (ih (i + 1) (by omega) ⟨by omega, hi2.2⟩) ⟨zcr (w64 (by omega) (by omega)), rfl, rfl, rfl, trivial⟩ ⟨rfl, trivial⟩ rfl
    · refine sd [] rfl (by simp) ?_
      exact zb0 ⟨_, rfl, rfl, trivial⟩
termination_by t => SizeOf.sizeOf t
decreasing_by
  all_goals
    have := List.sizeOf_lt_of_mem (List.mem_of_getElem? ht)
    simp_wf
    omega
set_option maxRecDepth 100000 in
theorem zwf : ∀ (t : Tm), zhk t = false → zc5 Tryz.prog 62 [.imm (.agg (dTmc t))] [] (.pan znc)
  | .mk op n x ks ps, hy => by
    refine zjb 0 rfl fun hok => ?_
    have hv : ks.length ≤ 9223372036854775807 := by
      simp [zks, vOk, dTmc, maxLen] at hok
      have := hok.1
      omega
    simp only [zhk, Bool.and_eq_false_iff] at hy
    refine zaf zig Tryz.func62 (by decide +kernel) rfl [1, 2, 3] rfl rfl ?_
    refine sg [] rfl (by simp) ?_
    by_cases hn : zdk op n x ks.length ps = true
    rotate_left
    · exact zav [] rfl (by simp) (yiz op n x ks ps (by simpa using hn)) trivial rfl rfl
    rw [hn] at hy
    simp only [Bool.true_eq_false, false_or] at hy
    refine zar (fr := []) [] [] rfl (by simp) (zwg op n x ks ps hn) trivial rfl rfl rfl rfl ?_
    refine sg [] rfl (by simp) ?_
    refine zak (fun i : Nat => [(9, .imm (.int .i64 i)), (8, .imm (.int .i64 ks.length)), (7, .imm (.sl (zdg ks))), (1, .ref 1 0)]) (fun _ => [(1, some (.immb 26 5 (dTmc (.mk op n x ks ps))))]) [2, 3] (fun i => ks.length - i)
      (fun i => i ≤ ks.length ∧ zfj (ks.drop i) = false) 0 ⟨Nat.zero_le _, hy⟩ ⟨rfl, zcr (by simp), rfl, rfl, trivial⟩ ⟨rfl, trivial⟩ rfl fun i hi ih => ?_
    refine sd [] rfl (by simp) ?_
    have hi2 := hi.2
    refine zab rfl (fun h => ?_) (fun h => ?_)
    · simp at h
      obtain ⟨t, ht⟩ := zal h
      rw [zaq ht] at hi2
      simp only [zfj, Bool.and_eq_false_iff] at hi2
      refine sd [] rfl (by simp) ?_
      refine si rfl (c := dTmc t) (fun _ => ⟨by simp, by simpa using zch ht, by simp⟩) (by simp) ?_
      refine sg [] rfl (by simp) ?_
      by_cases hz : zhk t = true
      · refine zar (fr := []) [] [] rfl (by simp) (zmr t hz) trivial rfl rfl rfl rfl ?_
        refine sg [] rfl (by simp) ?_
        exact zae (ih (i + 1) (by omega) ⟨by omega, by rw [hz] at hi2; simpa using hi2⟩) ⟨zcr (w64 (by omega) (by omega)), rfl, rfl, rfl, trivial⟩ ⟨rfl, trivial⟩ rfl
      · exact zav [] rfl (by simp) (zwf t (by simpa using hz)) trivial rfl rfl
    · exfalso
      simp at h
      rw [List.drop_eq_nil_of_le (by omega)] at hi2
      simp [zfj] at hi2
termination_by t => SizeOf.sizeOf t
decreasing_by
  all_goals
    have := List.sizeOf_lt_of_mem (List.mem_of_getElem? ht)
    simp_wf
    omega
def zei (t : Tm) : Bool := decide (0 ≤ za4 t 60 14) && zhk t
set_option maxRecDepth 100000 in
theorem yec (t : Tm) (h : zei t = true) : zc5 Tryz.prog 60 [.ref 1 0] [(1, some (.immb 26 5 (dTmc t)))] (.ret zwc [(1, some (.immb 26 5 (dTmc t)))]) := by
  simp only [zei, Bool.and_eq_true, decide_eq_true_eq] at h
  refine zaf zig Tryz.func60 (by decide +kernel) rfl [2, 3, 4] rfl rfl ?_
  refine sg [] rfl (by simp) ?_
  refine zar (fr := []) [(2, 1)] [] rfl (by simp) (zl8 t 60 14 1 (by decide) (by decide) (by decide) (by decide) (by decide) (by decide) h.1) ⟨⟨rfl, rfl, rfl⟩, trivial⟩ rfl rfl rfl rfl ?_
  refine sg [] rfl (by simp) ?_
  refine zar (fr := []) [] [] rfl (by simp) (zmr t h.2) trivial rfl rfl rfl rfl ?_
  refine sg [] rfl (by simp) ?_
  exact zb0 ⟨_, rfl, rfl, ⟨rfl, trivial⟩⟩
set_option maxRecDepth 100000 in
theorem yh4 (t : Tm) (h : zei t = false) : zc5 Tryz.prog 60 [.ref 1 0] [(1, some (.immb 26 5 (dTmc t)))] (.pan znc) := by
  refine zaf zig Tryz.func60 (by decide +kernel) rfl [2, 3, 4] rfl rfl ?_
  refine sg [] rfl (by simp) ?_
  by_cases h1 : 0 ≤ za4 t 60 14
  · refine zar (fr := []) [(2, 1)] [] rfl (by simp) (zl8 t 60 14 1 (by decide) (by decide) (by decide) (by decide) (by decide) (by decide) h1) ⟨⟨rfl, rfl, rfl⟩, trivial⟩ rfl rfl rfl rfl ?_
    refine sg [] rfl (by simp) ?_
    exact zav [] rfl (by simp) (zwf t (by simpa [zei, h1] using h)) trivial rfl rfl
  · exact zav [(2, 1)] rfl (by simp) (ybx t 60 14 1 (by decide) (by decide) (by decide) (by decide) (by decide) (by decide) (by show za4 t 60 14 < 0; omega)) ⟨⟨rfl, rfl, rfl⟩, trivial⟩ rfl rfl
set_option maxRecDepth 100000 in
theorem zfp (t : Tm) : zax Tryz.prog 35 [.agg (dTmc t)] (zzx (zei t)) := by
  refine zaf zig Tryz.func35 (by decide +kernel) rfl [1, 2, 3] rfl rfl ?_
  refine sg [] rfl (by simp) ?_
  cases h : zei t with
  | true =>
    refine zar (fr := []) [(1, 1)] [] rfl (by simp) (zoh Tryz.func60 (by decide +kernel) rfl (yec t h)) ⟨⟨rfl, rfl, rfl⟩, trivial⟩ rfl rfl rfl rfl ?_
    refine sg [] rfl (by simp) ?_
    exact zaa ⟨_, rfl, tV rfl, trivial⟩
  | false =>
    refine zar (fr := []) [(1, 1)] [] rfl (by simp) (zrh Tryz.func60 (by decide +kernel) rfl (yh4 t h)) ⟨⟨rfl, rfl, rfl⟩, trivial⟩ rfl rfl rfl rfl ?_
    refine sg [] rfl (by simp) ?_
    exact zaa ⟨_, rfl, tV rfl, trivial⟩
end Go.Hk

/- Contracts of term and of slices: whether something is so for all elements of a list. -/
namespace Go.Hk
open Go.Proofs
def ttA : TT := ttS ++ []
theorem ylc : TTok Tryz.prog ttA := .of_eq (l := [4, 3, 9, 26, 58, 22, 24, 5, 36, 23, 56, 29, 139, 83, 1, 61, 143]) (by kernel_rfl)
section
variable {n : Nat} {F : List Nat} {Q : DQ} {env env' : Env} {st st' : St} {ids ids' : List Nat} {k todo : List DI} {ob : List Prop}
theorem ad (path : List Pt) (h : run ttA n 300 path todo env st ids [] = .at k env' st' ids' ob) (hob : zbw ob) (hd : G Tryz.prog n F Q k env' st' ids') : DGo Tryz.prog n F Q todo env st ids := zrf ylc mixed 300 path h hob hd
theorem ag (path : List Pt) (h : run ttA n 300 path todo env st ids [] = .at k env' st' ids' ob) (hob : zbw ob) (hd : G Tryz.prog n F Q k env' st' ids') : G Tryz.prog n F Q todo env st ids := zqo ylc mixed 300 path h hob hd
end
end Go.Hk

/- A value of an interface is asked for its type. -/
namespace Go.Hk
section
variable {P : Program} {n : Nat} {F : List Nat} {Q : DQ} {tt : TT} {env env' : Env} {st st' : St} {ids ids' : List Nat} {k todo todo' : List DI} {I : Imm} {μ : Mu} {w : World} {a : Act} {Pn : V → Prop} {d : D} {cx : Prop} {ob : List Prop}
end
end Go.Hk

/- Contracts of term: modules that are formed. -/
namespace Go.Hk
open Go.Proofs
end Go.Hk

/- Ranges over functions in the D-logic: calls of yield by contract; what rounds own is known as a whole (bundles). -/
namespace Go.Hk
def EffW (P : Program) (I : Imm) (μ : Mu) (st : St) (w : World) (d : D) (st' : St) (r : Result Next) : Prop :=
  valX P r (fun u w' => ∃ I' μ', RepD I' μ' u d ∧ StRep I' μ' st' [] w' ∧ Pin (nms st) μ μ' ∧ Ext I μ st w I' μ' st' w') (fun _ _ => False)
def yst (j : Nat) (S : Bun) : St := [(0, some .pin), (j, some (.bun 0 S))]
def yal (P : Program) (ds : List D) (S : Bun) (r : Bool) (S' : Bun) : Prop :=
  ∀ I μ w b (xs : Array Value), μ 0 = some (.func (.yield b) #[] #[]) → StRep I μ (yst 1 S) [] w → RepL I μ xs.toList ds → EffW P I μ (yst 1 S) w (.imm (.bool r)) (yst 2 S') ((Instr.yield b xs).run P w)
section
variable {P : Program} {n : Nat} {F : List Nat} {Q : DQ} {tt : TT} {env E : Env} {st st0 st1 : St} {ids ids' : List Nat} {k todo todo' : List DI} {I : Imm} {μ : Mu} {w : World} {Pn : V → Prop} {d : D} {das : List D} {f : FuncId}
theorem zbv : ∀ {st : St} {i : Nat} {b : Blk}, zap st i b → i ∈ nms st
  | [], i, b, h => by simp [zap, lk] at h
  | (s, x) :: r, i, b, h => by
    by_cases hs : s = i
    · subst hs; simp [nms]
    · have : zap r i b := by unfold zap at h ⊢; rwa [zam _ _ hs] at h
      simp only [nms, List.map_cons, List.mem_cons]
      exact .inr (zbv this)
theorem yjx {s t : St} {i : Nat} {b : Blk} (h : zap (s ++ t) i b) : zap s i b ∨ (i ∉ nms s ∧ zap t i b) := by
  by_cases hm : i ∈ s.map (·.1)
  · left; unfold zap at h ⊢; rwa [zfu hm] at h
  · right; unfold zap at h ⊢; rw [zi3 hm] at h; exact ⟨hm, h⟩
theorem zxs {s t : St} {i : Nat} {b : Blk} (h : zap s i b) : zap (s ++ t) i b := by
  have hm : i ∈ s.map (·.1) := zbv h
  unfold zap at h ⊢; rwa [zfu hm]
theorem zxr {s t : St} {i : Nat} {b : Blk} (hn : i ∉ nms s) (h : zap t i b) : zap (s ++ t) i b := by
  unfold zap at h ⊢; rwa [zi3 hn]
theorem ld_not {all : List Oper} {o : Oper} {g : Option (Bool × Bool)} (hg : zdw all env o = some g) (hcx : ¬ zai g) : LD P Pn all o env st [] [] [] (gD g d) := by
  intro I μ st2 ids1 a w hag hst hon
  have hwant := zgj hg hon
  refine ⟨fun hw => absurd (hwant.1 hw) hcx, fun _ => ⟨rfl, rfl, ?_⟩⟩
  cases g with
  | none => exact absurd trivial hcx
  | some p => exact .guard _ _ _ _ (fun h => absurd h hcx) (fun _ => rfl)
structure ynh where
  id : Nat
  das : List D
  g : Option (Bool × Bool)
  ob : List Prop
  dst : Option Nat
  o : Oper
  all : List Oper
def yl0 (n : Nat) (env : Env) (todo : List DI) : Option ynh :=
  match zce todo ([], []) with
  | some (all, o, _) => match zdw all env o, o.op with
    | some g, .call { callee := .value (.tmp t), args := ⟨args⟩, .. } => match lk env t, yev (zai g) env args, zc2 n o.dst with
      | some (.yld id), some (ds, ob), true => some ⟨id, ds, g, ob, o.dst, o, all⟩
      | some (.guard c w (.yld id)), some (ds, ob), true => some ⟨id, ds, g, (zai g → c = w) :: ob, o.dst, o, all⟩
      | _, _, _ => none
    | _, _ => none
  | none => none
theorem RepD.yldInv {v : Value} {id : Nat} (h : RepD I μ v (.yld id)) : ∃ b, μ id = some (.func (.yield b) #[] #[]) ∧ v = .func (.yield b) #[] #[] := by
  cases h with
  | yld b _ h => exact ⟨b, h, rfl⟩
theorem yez {o : Oper} {t b : Nat} {args : List Operand} {ts : Array TypeId} {a : Act} (ho : o.op = .call { callee := .value (.tmp t), args := ⟨args⟩, argTypes := ts }) (hv : a.eval (.tmp t) = .func (.yield b) #[] #[]) :
    (execOp a.eval o).run P w = (Instr.yield b (args.map a.eval).toArray).run P w := by
  simp only [execOp, ho, resolve, hv, Deferred.ofValue, Sem.run_bind, Sem.run_pure, Result.andThen_ok, invoke]
  congr 2
  simp
theorem ye0 {c : ynh} (h : yl0 n env todo = some c) (hob : zbw c.ob) (hcx : zai c.g) :
    (∀ f, ∃ todo', zce todo f = some (c.all, c.o, todo')) ∧ zdw c.all env c.o = some c.g ∧ zc2 n c.dst = true ∧ c.dst = c.o.dst ∧ (∀ x, c.o.op ≠ .defer x) ∧
    ∀ I μ a, ze6 I μ env a c.o.op → ∃ b, ∃ xs : Array Value, μ c.id = some (.func (.yield b) #[] #[]) ∧ RepL I μ xs.toList c.das ∧ ∀ w, (execOp a.eval c.o).run P w = (Instr.yield b xs).run P w := by
  unfold yl0 at h
  have hnext : ∀ {all : List Oper} {o : Oper} {t : List DI}, zce todo ([], []) = some (all, o, t) → ∀ f, ∃ todo', zce todo f = some (all, o, todo') := by
    intro all o t h f
    rcases zl2 h with ⟨r, k, rfl, _⟩ | ⟨r, fs, k, rfl, _⟩
    · exact ⟨_, rfl⟩
    · exact ⟨_, rfl⟩
  split at h
  · rename_i all o t h1
    split at h
    · rename_i g t' args ts hg ho
      have fin : ∀ {dv : D} {ds : List D} {ob : List Prop} {id : Nat}, lk env t' = some dv → yev (zai g) env args = some (ds, ob) → zbw ob → zai g → (∀ {I : Imm} {μ : Mu} {v : Value}, RepD I μ v dv → ∃ b, μ id = some (.func (.yield b) #[] #[]) ∧ v = .func (.yield b) #[] #[]) →
          ∀ I μ a, ze6 I μ env a o.op → ∃ b, ∃ xs : Array Value, μ id = some (.func (.yield b) #[] #[]) ∧ RepL I μ xs.toList ds ∧ ∀ w, (execOp a.eval o).run P w = (Instr.yield b xs).run P w := by
        intro dv ds ob id ht ha hob hcx hyl I μ a hop
        rw [ho] at hop
        have hargs := zj2 (I := I) (μ := μ) (a := a) hcx ha hob fun x hx => hop x (by simp [Op.operands, Call.operands, hx])
        obtain ⟨b, q1, q2⟩ := hyl (hop (.tmp t') (by simp [Op.operands, Call.operands]) _ ht)
        exact ⟨b, _, q1, by simpa using hargs, fun w => yez ho q2⟩
      split at h
      · rename_i id ds ob ht ha hd
        cases h
        exact ⟨hnext h1, hg, hd, rfl, (fun x hx => by rw [ho] at hx; cases hx), fin ht ha hob hcx (fun h => h.yldInv)⟩
      · rename_i cc ww id ds ob ht ha hd
        cases h
        exact ⟨hnext h1, hg, hd, rfl, (fun x hx => by rw [ho] at hx; cases hx), fin ht ha hob.2 hcx (fun h => (h.guardInv (hob.1 hcx)).yldInv)⟩
      · cases h
    · cases h
  · cases h
theorem zi7 {c : ynh} {j j2 : Nat} {S S' : Bun} {r : Bool} (h : yl0 n env todo = some c) (hob : zbw c.ob) (hcx : zai c.g) (hE : yal P (zlh (zie [(c.id, 0), (j, 1)]) c.das) S r S') (hy : lk st c.id = some (some .pin)) (hj : lk st j = some (some (.bun c.id S)))
    (hn : zxj [(c.id, 0), (j, 1)] [(2, j2)] c.das (yst 1 S) (.imm (.bool r)) (yst 2 S') [j2] = true) (h1 : zce todo ([c.id, j], [c.id, j2, c.id, j]) = some (c.all, c.o, todo')) (hids : ids = j2 :: ids')
    (hk : G P n F Q todo' (zdz c.dst (gD c.g (.imm (.bool r))) env) ((c.id, some .pin) :: (j2, some (.bun c.id S')) :: (c.id, none) :: (j, none) :: st) ids') : G P n F Q todo env st ids := by
  obtain ⟨_, q2, q3, q4, q5, q6⟩ := ye0 (P := P) h hob hcx
  rw [q4] at q3 hk
  subst hids
  have hN := zxi hn
  have hb : zji [(c.id, 0), (j, 1)] st (yst 1 S) := by
    have hne : Nat.beq c.id j = false := by
      have := hN.inv
      simp only [List.map_cons, List.map_nil, zd9, zbq] at this
      cases hb : Nat.beq c.id j with
      | false => rfl
      | true =>
        have := Nat.eq_of_beq_eq_true hb
        rw [← this] at hj
        rw [hy] at hj
        cases hj
    have e0 : lk (zbq [(c.id, 0), (j, 1)]) 0 = some c.id := rfl
    have e1 : lk (zbq [(c.id, 0), (j, 1)]) 1 = some j := rfl
    have f0 : lk [(c.id, 0), (j, 1)] c.id = some 0 := zaj _ _ _
    have f1 : lk [(c.id, 0), (j, 1)] j = some 1 := by
      have : c.id ≠ j := fun e => by rw [e] at hne; simp at hne
      rw [zam _ _ this]; exact zaj _ _ _
    have g0 : zie [(c.id, 0), (j, 1)] c.id = 0 := by simp [zie, f0]
    refine ⟨?_, ?_, trivial⟩
    · simp only [e0, f0, hy]
      exact ⟨rfl, rfl, rfl⟩
    · simp only [e1, f1, hj]
      refine ⟨rfl, ?_, ?_⟩
      · simp only [yjf, g0]
      · simp only [nmB, zd9, f0, e0]; simp
  have hl : LD P (yip Q) c.all c.o env st (ybz [(c.id, 0), (j, 1)]) [j2] (zlu (zbq [(c.id, 0), (j, 1)] ++ [(2, j2)]) (yst 2 S') ++ zd3 (ybz [(c.id, 0), (j, 1)])) (gD c.g (.imm (.bool r))) := by
    intro I μ st2 ids1 a w hag hst hon
    have hwant := zgj q2 hon
    refine ⟨fun _ => ?_, fun hw => by rw [hwant.2 hcx] at hw; cases hw⟩
    obtain ⟨b, xs, m1, m2, m3⟩ := q6 I μ a (zbi hon)
    have hb' := zjh hag hb
    obtain ⟨g1, g2, g3⟩ := zj5 hst hb' hN.args m2
    rw [m3]
    refine (hE I _ w b xs (by simpa [zkw, zbq, lk] using m1) g1 g2).mono (fun u w' hu => ?_) (fun _ _ h => h.elim)
    obtain ⟨I', μ', r1, r2, r3, r4⟩ := hu
    obtain ⟨ν, s1, s2, s3, s4⟩ := zrm hst hb' hN r1 r2 r3 r4 g3
    rw [← zqq] at s1 s4
    refine ⟨I', ν, s1, ?_, s3, s4⟩
    cases hg : c.g with
    | none => exact s2
    | some p => rw [hg] at hcx; exact .guard _ _ _ _ (fun _ => s2) (fun hn => absurd hcx hn)
  have ew : zlu (zbq [(c.id, 0), (j, 1)] ++ [(2, j2)]) (yst 2 S') ++ zd3 (ybz [(c.id, 0), (j, 1)]) = [(c.id, some .pin), (j2, some (.bun c.id S')), (c.id, none), (j, none)] := rfl
  rw [ew] at hl
  exact zcv (fr := [j2]) (wr := [(c.id, some .pin), (j2, some (.bun c.id S')), (c.id, none), (j, none)]) h1 hl q3 q5 hk
structure NCall where
  g : Option (Bool × Bool)
  dst : Option Nat
  todo : List DI
def ncall (n : Nat) (env : Env) (todo : List DI) : Option NCall :=
  match zce todo ([], []) with
  | some (all, o, todo') => match zdw all env o, o.op, zc2 n o.dst with
    | some g, .call _, true => some ⟨g, o.dst, todo'⟩
    | _, _, _ => none
  | none => none
theorem yhi {c : NCall} (d : D) (h : ncall n env todo = some c) (hcx : ¬ zai c.g) (hk : G P n F Q c.todo (zdz c.dst (gD c.g d) env) st ids) : G P n F Q todo env st ids := by
  unfold ncall at h
  split at h
  · rename_i all o todo' h1
    split at h
    · rename_i g cc hg ho hd
      cases h
      exact zcv (fr := []) (wr := []) h1 (ld_not hg hcx) hd (fun x hx => by rw [ho] at hx; cases hx) hk
    · cases h
  · cases h
end
end Go.Hk

/- Ranges over functions in the D-logic: what a round does, out of a walk through the loop's body; the loop, by the contract of its function. -/
namespace Go.Hk
def BodyQ (pend : Option Code) (stB : St) : DQ := fun x _ st _ => match x, pend with
  | .norm, none => zku st stB
  | .ret, some .ret => zku st stB
  | .exit j, some (.exit j') => j = j' ∧ zku st stB
  | _, _ => False
structure znp where
  fn : FuncId
  ps : Array Tmp
  asg : Code
  body : Code
  tmps : Array Value
  E : Env
  F : List Nat
  μ0 : Mu
def yly (pend : Option Code) (r : Go.Loop) : Prop := r.state = (match pend with | none => .ready | some _ => .done) ∧ r.pending = pend
def bunP (L : znp) (st : St) (pend : Option Code) (I : Imm) (w : World) (b : Nat) (bs : List Nat) : Prop :=
  ∃ (r : Go.Loop) (μ : Mu) (bs0 : List Nat), bs = b :: bs0 ∧ w.heap[b]? = some (.loop r) ∧ yly pend r ∧ (r.fn = L.fn ∧ r.params = L.ps ∧ r.assign = L.asg ∧ r.body = L.body ∧ r.tmps = L.tmps) ∧
    (∀ t d, lk L.E t = some d → RepD I μ (L.tmps.getD t undef) d) ∧ (∀ i blk, zap st i blk → ∃ g, μ i = some g ∧ BlkRep I μ w g blk) ∧
    (∀ i j bi bj gi gj k, zap st i bi → zap st j bj → μ i = some gi → μ j = some gj → zgd gi k → zgd gj k → i = j) ∧ (∀ k, k ∈ bs0 ↔ zbx μ st k) ∧ b ∉ bs0 ∧ Pin L.F L.μ0 μ
def zdl (L : znp) (st : St) (pend : Option Code) : Bun where
  P := bunP L st pend
  mono := fun {I J w b bs} h hp => by
    obtain ⟨r, μ, bs0, h1, h2, h3, h4, h5, h6, h7, h8, h9, h10⟩ := hp
    exact ⟨r, μ, bs0, h1, h2, h3, h4, fun t d hl => (h5 t d hl).mono h (Mu.le_refl μ), fun i blk hl => let ⟨g, q1, q2⟩ := h6 i blk hl; ⟨g, q1, q2.mono h (Mu.le_refl μ)⟩, h7, h8, h9, h10⟩
  loc := fun {I w w' b bs} h hp => by
    obtain ⟨r, μ, bs0, h1, h2, h3, h4, h5, h6, h7, h8, h9, h10⟩ := hp
    subst h1
    exact ⟨r, μ, bs0, rfl, (h b (by simp)).trans h2, h3, h4, h5, fun i blk hl => let ⟨g, q1, q2⟩ := h6 i blk hl; ⟨g, q1, q2.world fun k hk => h k (by simp [(h8 k).2 ⟨i, blk, g, hl, q1, hk⟩])⟩, h7, h8, h9, h10⟩
def yag : Value → List Nat
  | .pointer (some a) => [a.block]
  | .slice (some a) _ _ => [a.block]
  | .map (some c) => [c]
  | .agg cs => cs.toList.filterMap fun | .pointer (some a) => some a.block | _ => none
  | .tuple ⟨[_, .agg cs]⟩ => cs.toList.filterMap fun | .pointer (some a) => some a.block | _ => none
  | _ => []
theorem zrs {g : Value} {k : Nat} : k ∈ yag g ↔ zgd g k := by
  unfold yag zgd
  split <;> simp [eq_comm]
  all_goals
    constructor
    · rintro ⟨a, h1, h2⟩
      split at h2
      · cases h2; exact ⟨_, h1, rfl⟩
      · cases h2
    · rintro ⟨a, h1, h2⟩
      exact ⟨_, h1, by rw [h2]⟩
open Classical in
theorem zs6 (μ : Mu) (st : St) : ∃ l : List Nat, ∀ k, k ∈ l ↔ zbx μ st k := by
  refine ⟨(nms st).flatMap fun i => if (∃ b, zap st i b) then (match μ i with | some g => yag g | none => []) else [], fun k => ?_⟩
  rw [List.mem_flatMap]
  constructor
  · rintro ⟨i, _, h⟩
    split at h
    · rename_i hb
      obtain ⟨b, hb⟩ := hb
      cases hg : μ i with
      | none => rw [hg] at h; cases h
      | some g => rw [hg] at h; exact ⟨i, b, g, hb, hg, zrs.1 h⟩
    · cases h
  · rintro ⟨i, b, g, h1, h2, h3⟩
    refine ⟨i, zbv h1, ?_⟩
    rw [if_pos ⟨b, h1⟩, h2]
    exact zrs.2 h3
def yho (ids : List Nat) (E : Env) (st : St) (F : List Nat) : Prop := ids.Nodup ∧ ∀ i ∈ ids, i ∉ nmE E ∧ i ∉ ze1 st ∧ i ∉ F
section
variable {P : Program} {n : Nat} {F : List Nat} {Q : DQ} {tt : TT} {env E : Env} {st st0 st1 : St} {ids ids' : List Nat} {k todo todo' : List DI} {I : Imm} {μ : Mu} {w : World} {Pn : V → Prop} {d : D} {das : List D} {f : FuncId}
theorem ymn : ∀ {st : St} {i : Nat} {b : Blk}, zap st i b → i ∈ ze1 st := fun h => (zc1 h).1
theorem ycc {L : znp} {pend : Option Code} {b : Nat} {bs : List Nat} (h : bunP L st pend I w b bs) (hf : yho ids L.E st L.F) (hI : I.ok w) (hbs : ∀ k ∈ bs, I k = none ∧ k < w.heap.size) :
    ∃ (r : Go.Loop) (ν : Mu) (bs0 : List Nat), bs = b :: bs0 ∧ w.heap[b]? = some (.loop r) ∧ yly pend r ∧ (r.fn = L.fn ∧ r.params = L.ps ∧ r.assign = L.asg ∧ r.body = L.body ∧ r.tmps = L.tmps) ∧
      (∀ t d, lk L.E t = some d → RepD I ν (L.tmps.getD t undef) d) ∧ StRep I ν st ids w ∧ (∀ k, k ∈ bs0 ↔ zbx ν st k) ∧ b ∉ bs0 ∧ Pin L.F L.μ0 ν := by
  obtain ⟨r, μ, bs0, h1, h2, h3, h4, h5, h6, h7, h8, h9, h10⟩ := h
  obtain ⟨hf1, hf2⟩ := hf
  obtain ⟨ν, hν⟩ : ∃ ν : Mu, ν = fun i => if i ∈ ids then none else μ i := ⟨_, rfl⟩
  have hν1 : ∀ i, i ∉ ids → ν i = μ i := fun i hi => by rw [hν]; exact if_neg hi
  have hv1 : ∀ i, i ∈ nmE L.E ∨ i ∈ ze1 st ∨ i ∈ L.F → ν i = μ i := fun i hi => hν1 i fun hm => by
    obtain ⟨q1, q2, q3⟩ := hf2 i hm
    rcases hi with h | h | h
    · exact q1 h
    · exact q2 h
    · exact q3 h
  have hv2 : ∀ {i bi}, zap st i bi → ν i = μ i := fun hl => hv1 _ (.inr (.inl (ymn hl)))
  have hown : ∀ k, zbx ν st k ↔ zbx μ st k := fun k => by
    constructor <;> rintro ⟨i, bi, g, q1, q2, q3⟩
    · exact ⟨i, bi, g, q1, by rw [← hv2 q1]; exact q2, q3⟩
    · exact ⟨i, bi, g, q1, by rw [hv2 q1]; exact q2, q3⟩
  refine ⟨r, ν, bs0, h1, h2, h3, h4, fun t d hl => (h5 t d hl).sub fun j hj g hg => by rw [hv1 j (.inl (ygm hl j hj))]; exact hg, ?_, fun k => by rw [hown k]; exact h8 k, h9, fun i hi g hg => by rw [hv1 i (.inr (.inr hi))]; exact h10 i hi g hg⟩
  exact
    { imm := hI
      blk := fun i bi hl => by
        obtain ⟨g, q1, q2⟩ := h6 i bi hl
        exact ⟨g, by rw [hv2 hl]; exact q1, q2.sub fun j hj g hg => by rw [hv1 j (.inr (.inl ((zc1 hl).2 j hj)))]; exact hg⟩
      apart := fun i bi g k hl hgi hk => hbs k (by rw [h1]; exact List.mem_cons_of_mem _ ((h8 k).2 ⟨i, bi, g, hl, by rw [← hv2 hl]; exact hgi, hk⟩))
      inj := fun i j bi bj gi gj k hi hj hgi hgj => h7 i j bi bj gi gj k hi hj (by rw [← hv2 hi]; exact hgi) (by rw [← hv2 hj]; exact hgj)
      nodup := hf1
      idsFree := fun i hi => by rw [hν]; exact if_pos hi }
theorem zlk {j : Nat} {S : Bun} (hj : j ≠ 0) {i : Nat} {bi : Blk} (h : zap (yst j S) i bi) : (i = 0 ∧ bi = .pin) ∨ (i = j ∧ bi = .bun 0 S) := by
  rcases zah.1 h with h | ⟨_, h⟩
  · exact .inl h
  · rcases zah.1 h with h | ⟨_, h⟩
    · exact .inr h
    · simp [zap, lk] at h
theorem zne {L : znp} {p t rid : Nat} {fc : Func} {o : Oper} {d : D} {stB : St} {pend : Option Code} (hf : P.funcs[L.fn]? = some fc) (hps : L.ps = #[p]) (hasg : L.asg = .region rid ⟨[o]⟩ false) (hsz : L.tmps.size = n)
    (hd : nmD d = []) (ho : o.op = .assign (.tmp p)) (hog : o.guard = none) (hod : o.dst = some t) (hp : p < n) (ht : t < n) (hfree : yho ids L.E st L.F)
    (h : DGo P n (zy2 :: (L.F ++ nmE L.E)) (BodyQ pend stB) [.code L.body] ((t, d) :: (p, d) :: L.E) st ids) : yal P [d] (zdl L st none) pend.isNone (zdl L stB pend) := by
  intro I μ w b xs hμ hst hx
  have hl0 : zap (yst 1 (zdl L st none)) 0 .pin := zah.2 (.inl ⟨rfl, rfl⟩)
  have hl1 : zap (yst 1 (zdl L st none)) 1 (.bun 0 (zdl L st none)) := zah.2 (.inr ⟨by simp, zah.2 (.inl ⟨rfl, rfl⟩)⟩)
  obtain ⟨g1, hg1, b', bs, hb1, rfl, hP⟩ := hst.blk 1 _ hl1
  rw [hμ] at hb1
  cases hb1
  have hbs : ∀ k ∈ bs, I k = none ∧ k < w.heap.size := fun k hk => hst.apart 1 _ _ k hl1 hg1 (zdm.2 hk)
  have hP0 := hP
  obtain ⟨r, ν, bs0, e1, hr1, ⟨hr2, hr3⟩, ⟨hr4, hr5, hr6, hr7, hr8⟩, hE1, hS, hown, hnb, hF⟩ := ycc hP hfree hst.imm hbs
  subst e1
  obtain ⟨x, rfl⟩ : ∃ x, xs = #[x] := by
    obtain ⟨l⟩ := xs
    have := hx.1
    match l, this with
    | [x], _ => exact ⟨x, rfl⟩
  have hxd0 : RepD I μ x d := hx.2 0 x d rfl rfl
  have hxd1 : RepD I ν x d := hxd0.sub fun j hj => by rw [hd] at hj; cases hj
  have hsz1 : (#[x] : Array Value).size = r.params.size := by rw [hr5, hps]; rfl
  unfold EffW
  rw [run_yield hr1 hsz1]
  refine zoo (fc := fc) (by rw [hr4]; exact hf) fun fb cs hbf hbr => ?_
  rw [hr5, hps, hr6, hasg, hr7, hr8]
  have hfold : ((#[p] : Array Nat).zip #[x]).foldl (fun tmps (t, a) => tmps.setIfInBounds t a) L.tmps = L.tmps.setIfInBounds p x := by simp
  rw [hfold]
  obtain ⟨hIb, hblt⟩ := hbs b (by simp)
  have hnob : ¬ zbx ν st b := fun h => hnb ((hown b).2 h)
  obtain ⟨w1, hw1⟩ : ∃ w1 : World, w1 = w.putObj b (.loop { r with state := .busy }) := ⟨_, rfl⟩
  have hput : ∀ (w : World) (o : Obj), (w.putObj b o).heap = w.heap.setIfInBounds b o := fun w o => by
    unfold World.putObj
    by_cases hi : b < w.heap.size <;> simp [hi]
  have hoth : ∀ (w : World) (o : Obj) k, k ≠ b → (w.putObj b o).heap[k]? = w.heap[k]? := fun w o k hk => by rw [hput, Array.getElem?_setIfInBounds_ne (Ne.symm hk)]
  have hbeg := run_beginRound (P := P) hr1 hr2
  -- the assignment
  refine zn0 ?_
  show Reach P fb cs _ (.inRegion #[o] [0] :: [.beginRound, .code L.body]) _ w
  refine zfh (o := o) rfl (zau hog) (fun c hc => by rw [ho] at hc; cases hc) ?_
  refine valX.upon ?_
  have hex : ∀ a : Act, (execOp a.eval o).run P w = .ok (.value (a.eval (.tmp p))) w := fun a => by simp [execOp, ho]
  rw [hex]
  show Reach P fb cs _ _ _ w
  refine zf3 (Reach.step (stepR_beginRound hbr hbeg) ?_)
  rw [← hw1]
  have hpx : (Act.eval { tmps := L.tmps.setIfInBounds p x, defers := [] } (.tmp p)) = x := by
    have hlt : p < L.tmps.size := by omega
    simp [Act.eval, hlt]
  rw [hpx, hod]
  obtain ⟨e1, e2, e3⟩ := zit (n := n) (w := w) (a := { tmps := L.tmps, defers := [] }) (dst := some p) hE1 hsz (fun t ht => by cases ht; exact hp) hxd1
  obtain ⟨c1, c2, c3⟩ := zit (n := n) (w := w) (dst := some t) e1 e2 (fun t' ht' => by cases ht'; exact ht) hxd1
  have hc : Conc n I ν ((t, d) :: (p, d) :: L.E) st ids ((Act.put { tmps := L.tmps, defers := [] } (some p) x).put (some t) x) w1 :=
    { hS.other (by rw [hw1, hput]; simp) (fun k o hk => by rw [hw1]; exact hoth _ _ k (fun e => by rw [e, hIb] at hk; cases hk)) (fun k hk => by rw [hw1]; exact hoth _ _ k (fun e => hnob (e ▸ hk))) with
      size := c2
      env := c1
      defers := by rw [c3, e3]; exact MarksOk.nil _ _ _ _ }
  have hgo := h ⟨fb, .inl (by simp)⟩ cs I ν _ w1 [.code L.body] ⟨rfl, trivial⟩ hc
  refine Reach.mono (fun e a' w' hpost => ?_) hgo
  obtain ⟨x', env', st', ids2, I', μ', p1, p2, p3, p4, p5, p6⟩ := hpost
  have hb1 : w1.heap[b]? = some (.loop { r with state := .busy }) := by rw [hw1, hput]; simp [hblt]
  have hsz1 : w1.heap.size = w.heap.size := by rw [hw1, hput]; simp
  have hb' : w'.heap[b]? = some (.loop { r with state := .busy }) := by rw [p5.block b (by omega) hnob]; exact hb1
  have hno' : ¬ zbx μ' st' b := fun ho => hnob (p5.fresh b (by omega) ho)
  have hI' : I' b = none := by rw [p5.old b (by omega) hnob]; exact hIb
  have hblt' : b < w'.heap.size := (Array.getElem?_eq_some_iff.1 hb').1
  have fin : zku st' stB → ∃ v w'', (Instr.endRound b pend).run P w' = .ok v w'' ∧ (∃ I2 μ2, RepD I2 μ2 v (.imm (.bool pend.isNone)) ∧ StRep I2 μ2 (yst 2 (zdl L stB pend)) [] w'' ∧
      Pin (nms (yst 1 (zdl L st none))) μ μ2 ∧ Ext I μ (yst 1 (zdl L st none)) w I2 μ2 (yst 2 (zdl L stB pend)) w'') := by
    intro hsub
    have hSB : StRep I' μ' stB [] w' := p3.toStRep.less (zb4 hsub) .nil (fun _ h => by simp at h)
    have hownB' : ∀ k, zbx μ' stB k → zbx μ' st' k := fun k ⟨i, bi, g, q1, q2⟩ => ⟨i, bi, g, zb4 hsub i bi q1, q2⟩
    have hnoB : ¬ zbx μ' stB b := fun h => hno' (hownB' b h)
    obtain ⟨w2, hw2⟩ : ∃ w2 : World, w2 = w'.putObj b (.loop { r with state := if pend.isNone then .ready else .done, pending := pend }) := ⟨_, rfl⟩
    have hend : (Instr.endRound b pend).run P w' = .ok (.bool pend.isNone) w2 := by
      have := run_endRound (P := P) pend hb'
      rw [hw2]; exact this
    have hw2s : w2.heap.size = w'.heap.size := by rw [hw2, hput]; simp
    have hw2o : ∀ k, k ≠ b → w2.heap[k]? = w'.heap[k]? := fun k hk => by rw [hw2]; exact hoth _ _ k hk
    have hSB2 : StRep I' μ' stB [] w2 := hSB.other (by omega) (fun k o hk => hw2o k (fun e => by rw [e, hI'] at hk; cases hk)) (fun k hk => hw2o k (fun e => hnoB (e ▸ hk)))
    obtain ⟨bsN, hbsN⟩ := zs6 μ' stB
    -- the new bundle
    have hPN : (zdl L stB pend).P I' w2 b (b :: bsN) := by
      refine ⟨{ r with state := if pend.isNone then .ready else .done, pending := pend }, μ', bsN, rfl, by rw [hw2, hput]; simp [hblt'], ⟨by cases pend <;> rfl, rfl⟩, ⟨hr4, hr5, hr6, hr7, hr8⟩, fun t d hl => ?_, hSB2.blk, hSB2.inj, hbsN, fun hm => hnoB ((hbsN b).1 hm), fun i hi => ?_⟩
      · exact ((hE1 t d hl).mono p5.imm (Mu.le_refl ν)).sub fun j hj g hg => p4 j (by simp [ygm hl j hj]) g hg
      · exact fun g hg0 => p4 i (by simp [hi]) g (hF i hi g hg0)
    obtain ⟨μ2, hμ2⟩ : ∃ μ2 : Mu, μ2 = fun i => if i = 2 then some (.agg (yjj (b :: bsN))) else μ i := ⟨_, rfl⟩
    have hm0 : μ2 0 = some (.func (.yield b) #[] #[]) := by rw [hμ2]; simpa using hμ
    have hm2 : μ2 2 = some (.agg (yjj (b :: bsN))) := by rw [hμ2]; simp
    have hold : ∀ k, k ∈ b :: bsN → k < w.heap.size → k ∈ b :: bs0 := fun k hk hlt => by
      rcases List.mem_cons.1 hk with rfl | hk
      · simp
      · exact List.mem_cons_of_mem _ ((hown k).2 (p5.fresh k (by omega) (hownB' k ((hbsN k).1 hk))))
    have hnew : ∀ k ∈ b :: bsN, I' k = none ∧ k < w2.heap.size := fun k hk => by
      rcases List.mem_cons.1 hk with rfl | hk
      · exact ⟨hI', by omega⟩
      · obtain ⟨i, bi, g, q1, q2, q3⟩ := (hbsN k).1 hk
        exact hSB2.apart i bi g k q1 q2 q3
    have hownO : ∀ k, zbx μ (yst 1 (zdl L st none)) k ↔ k ∈ b :: bs0 := fun k => by
      constructor
      · rintro ⟨i, bi, g, q1, q2, q3⟩
        rcases zlk (by simp) q1 with ⟨rfl, rfl⟩ | ⟨rfl, rfl⟩
        · rw [hμ] at q2; cases q2; exact q3.elim
        · rw [hg1] at q2; cases q2; exact zdm.1 q3
      · intro hk; exact ⟨1, _, _, hl1, hg1, zdm.2 hk⟩
    have hownN : ∀ k, zbx μ2 (yst 2 (zdl L stB pend)) k → k ∈ b :: bsN := fun k => by
      rintro ⟨i, bi, g, q1, q2, q3⟩
      rcases zlk (by simp) q1 with ⟨rfl, rfl⟩ | ⟨rfl, rfl⟩
      · rw [hm0] at q2; cases q2; exact q3.elim
      · rw [hm2] at q2; cases q2; exact zdm.1 q3
    refine ⟨_, w2, hend, I', μ2, .imm _ _ (.bool _), ?_, ?_, ?_⟩
    · refine { imm := hSB2.imm, blk := fun i bi hl => ?_, apart := fun i bi g k hl hgi hk => hnew k (hownN k ⟨i, bi, g, hl, hgi, hk⟩), inj := fun i j bi bj gi gj k hi hj hgi hgj hki hkj => ?_, nodup := .nil, idsFree := fun _ h => by simp at h }
      · rcases zlk (by simp) hl with ⟨rfl, rfl⟩ | ⟨rfl, rfl⟩
        · exact ⟨_, hm0, b, rfl⟩
        · exact ⟨_, hm2, b, _, hm0, rfl, hPN⟩
      · rcases zlk (by simp) hi with ⟨rfl, rfl⟩ | ⟨rfl, rfl⟩ <;> rcases zlk (by simp) hj with ⟨rfl, rfl⟩ | ⟨rfl, rfl⟩
        · rfl
        · rw [hm0] at hgi; cases hgi; exact hki.elim
        · rw [hm0] at hgj; cases hgj; exact hkj.elim
        · rfl
    · intro i hi g hg
      simp only [yst, nms, List.map_cons, List.map_nil, List.mem_cons, List.not_mem_nil, or_false] at hi
      have : i ≠ 2 := by omega
      rw [hμ2]; simp only [if_neg this]; exact hg
    · refine { imm := p5.imm, os := ?_, tape := ?_, output := ?_, size := ?_, block := fun k hk hno => ?_, fresh := fun k hk ho => (hownO k).2 (hold k (hownN k ho) hk), old := fun k hk hno => p5.old k (by omega) (fun h => hno ((hownO k).2 (List.mem_cons_of_mem _ ((hown k).2 h)))) }
      · have := p5.os; rw [hw1] at this; rw [hw2]; unfold World.putObj at this ⊢; exact this
      · have := p5.tape; rw [hw1] at this; rw [hw2]; unfold World.putObj at this ⊢; exact this
      · have := p5.output; rw [hw1] at this; rw [hw2]; unfold World.putObj at this ⊢; exact this
      · have := p5.size; omega
      · have hkb : k ≠ b := fun e => hno ((hownO k).2 (by simp [e]))
        rw [hw2o k hkb, p5.block k (by omega) (fun h => hno ((hownO k).2 (List.mem_cons_of_mem _ ((hown k).2 h)))), hw1, hoth _ _ k hkb]
  cases e with
  | normal =>
    cases x' <;> simp only [yel] at p1
    cases pend with
    | none => exact fin p2
    | some c => exact p2.elim
  | ret =>
    cases x' <;> simp only [yel] at p1
    cases pend with
    | none => exact p2.elim
    | some c => cases c <;> first | exact p2.elim | exact fin p2
  | exit j =>
    cases x' <;> simp only [yel] at p1
    cases pend with
    | none => exact p2.elim
    | some c =>
      cases c <;> first | exact p2.elim | skip
      obtain ⟨q1, q2⟩ := p2
      subst q1; subst p1
      exact fin q2
  | goto l =>
    cases x' <;> simp only [yel] at p1
    cases pend <;> exact p2.elim
  | panic chain =>
    cases x' <;> simp only [yel] at p1
    cases pend <;> exact p2.elim
  | outgrown => cases x' <;> simp only [yel] at p1
def jumpI : Option Code → List DI
  | none => []
  | some c => [.code c]
theorem zdq {g : Operand} {ps : Array Tmp} {asg body c : Code} {f y j j2 : Nat} {fc : Func} {df dc : List D} {stc stc' stx stB : St} {pend : Option Code} (hg : evO env g = some (.fn (.func f) df dc)) (hf : P.funcs[f]? = some fc)
    (hname : (fc.name == "runtime.NumGoroutine") = false) (hb : fc.body = some c) (hF : zy2 ∉ F) (hEE : ynk env E) (hl : ∀ i b, zap (stc ++ stx) i b → zap st i b)
    (hE : ∀ L : znp, P.funcs[L.fn]?.isSome → L.tmps.size = n → L.ps = ps → L.asg = asg → L.body = body → L.E = E → L.F = F →
      zc5 P f (df ++ .yld y :: dc) ((y, some .pin) :: (j, some (.bun y (zdl L stx none))) :: stc) (.ret d ((y, some .pin) :: (j2, some (.bun y (zdl L stB pend))) :: stc')))
    (hdis : ∀ i ∈ nms stc, i ∉ nms stx) (hyj : y ≠ j ∧ y ≠ j2 ∧ y ∉ nms stc ∧ j ∉ nms stc) (hcl : ∀ i, i ∈ nmL (df ++ dc) ∨ i ∈ ze1 stc → i ∈ nms stc) (hfree : yho ids' E stB F)
    (hk : DGo P n F Q (jumpI pend ++ k) E stB ids') : DGo P n F Q (.code (.rangeFunc g ps asg body) :: k) env st ids := by
  intro b cs I μ a w items hd hc
  obtain ⟨is, rfl, hki⟩ := zj4 hd
  rcases b.2 with hb0 | ⟨hb0, fcb, hfb⟩
  · exact absurd hb0 hF
  have he := run_enterLoop_outer (P := P) (w := w) b.1.fn a.tmps ps asg body
  obtain ⟨ro, hro⟩ : ∃ ro, ro = b.1.roundOf := ⟨_, rfl⟩
  have he' : (Instr.enterLoop b.1.fn a.tmps ps asg body ro).run P w = (Instr.enterLoop b.1.fn a.tmps ps asg body none).run P w := by rw [hro, hb0]
  rw [← he', hro] at he
  clear he'
  obtain ⟨L, hL⟩ : ∃ L : znp, L = ⟨b.1.fn, ps, asg, body, a.tmps, E, F, μ⟩ := ⟨_, rfl⟩
  obtain ⟨wa, hwa⟩ : ∃ wa : World, wa = w.alloc (.deferred (some [])) := ⟨_, rfl⟩
  rw [← hwa] at he
  have hwas : wa.heap.size = w.heap.size + 1 := by rw [hwa]; simp
  obtain ⟨R, hR⟩ : ∃ R : Go.Loop, R = { state := .ready, pending := none, fn := b.1.fn, tmps := a.tmps, params := ps, assign := asg, body, defers := w.heap.size } := ⟨_, rfl⟩
  rw [← hR, ← hwas] at he
  obtain ⟨w1, hw1⟩ : ∃ w1 : World, w1 = wa.alloc (.loop R) := ⟨_, rfl⟩
  rw [← hw1] at he
  have hw1s : w1.heap.size = w.heap.size + 2 := by rw [hw1]; simp; omega
  have hw1o : ∀ i, i < w.heap.size → w1.heap[i]? = w.heap[i]? := fun i hi => by rw [hw1, zm7 wa _ (by omega), hwa]; exact zm7 w _ hi
  have hw1m : w1.heap[w.heap.size]? = some (.deferred (some [])) := by rw [hw1, zm7 wa _ (by omega), hwa]; exact zgm w _
  have hw1r : w1.heap[wa.heap.size]? = some (.loop R) := by rw [hw1]; exact zgm wa _
  have hInew : ∀ k, w.heap.size ≤ k → I k = none := fun k hk => by
    cases hI : I k with
    | none => rfl
    | some o => have := zct (hc.imm k o hI); omega
  -- the caller's state in the new world
  have hS1 : StRep I μ st ids w1 := hc.toStRep.other (by omega) (fun i o hi => hw1o i (zct (hc.imm i o hi))) (fun i hi => hw1o i (zfi hc.toStRep hi))
  have hlx : ∀ i bi, zap stx i bi → zap st i bi := fun i bi h => hl i bi (zxr (fun hm => hdis i hm (zbv h)) h)
  have hlc : ∀ i bi, zap stc i bi → zap st i bi := fun i bi h => hl i bi (zxs h)
  obtain ⟨bs0, hbs0⟩ := zs6 μ stx
  have hownx : ∀ k, k ∈ bs0 → zbx μ st k := fun k hk => let ⟨i, bi, g, h1, h2⟩ := (hbs0 k).1 hk; ⟨i, bi, g, hlx i bi h1, h2⟩
  have hltx : ∀ k, k ∈ bs0 → k < w.heap.size := fun k hk => zfi hc.toStRep (hownx k hk)
  have hEnv : ∀ t d', lk E t = some d' → RepD I μ (a.tmps.getD t undef) d' := fun t d' hl => by
    obtain ⟨d, h1, h2⟩ := zpg hEE t d' hl
    exact zt9 h2 (hc.env t d h1)
  have hB1 : (zdl L stx none).P I w1 wa.heap.size (wa.heap.size :: bs0) := by
    refine ⟨R, μ, bs0, rfl, hw1r, ⟨by rw [hR], by rw [hR]⟩, ?_, ?_, fun i bi h => hS1.blk i bi (hlx i bi h), fun i j bi bj gi gj k hi hj => hS1.inj i j bi bj gi gj k (hlx i bi hi) (hlx j bj hj), hbs0, fun hm => by have := hltx _ hm; omega, ?_⟩
    · rw [hR, hL]; exact ⟨rfl, rfl, rfl, rfl, rfl⟩
    · rw [hL]; exact hEnv
    · rw [hL]; exact .refl _ _
  obtain ⟨μc, hμc⟩ : ∃ μc : Mu, μc = fun i => if i = y then some (.func (.yield wa.heap.size) #[] #[]) else if i = j then some (.agg (yjj (wa.heap.size :: bs0))) else μ i := ⟨_, rfl⟩
  have hmy : μc y = some (.func (.yield wa.heap.size) #[] #[]) := by rw [hμc]; simp
  have hmj : μc j = some (.agg (yjj (wa.heap.size :: bs0))) := by rw [hμc]; simp [Ne.symm hyj.1]
  have hmo : ∀ i ∈ nms stc, μc i = μ i := fun i hi => by
    have h1 : i ≠ y := fun e => hyj.2.2.1 (e ▸ hi)
    have h2 : i ≠ j := fun e => hyj.2.2.2 (e ▸ hi)
    rw [hμc]; simp [h1, h2]
  obtain ⟨st0, hst0⟩ : ∃ st0 : St, st0 = (y, some .pin) :: (j, some (.bun y (zdl L stx none))) :: stc := ⟨_, rfl⟩
  have hl0 : ∀ {i bi}, zap st0 i bi → (i = y ∧ bi = .pin) ∨ (i = j ∧ bi = .bun y (zdl L stx none)) ∨ (i ≠ y ∧ i ≠ j ∧ zap stc i bi) := fun {i bi} h => by
    rw [hst0] at h
    rcases zah.1 h with h | ⟨h1, h⟩
    · exact .inl h
    · rcases zah.1 h with h | ⟨h2, h⟩
      · exact .inr (.inl h)
      · exact .inr (.inr ⟨h1, h2, h⟩)
  have hown0 : ∀ k, zbx μc st0 k → k = wa.heap.size ∨ k ∈ bs0 ∨ zbx μ stc k := fun k ⟨i, bi, g, h1, h2, h3⟩ => by
    rcases hl0 h1 with ⟨rfl, rfl⟩ | ⟨rfl, rfl⟩ | ⟨_, _, h⟩
    · rw [hmy] at h2; cases h2; exact h3.elim
    · rw [hmj] at h2; cases h2
      rcases List.mem_cons.1 (zdm.1 h3) with h | h
      · exact .inl h
      · exact .inr (.inl h)
    · exact .inr (.inr ⟨i, bi, g, h, by rw [← hmo i (zbv h)]; exact h2, h3⟩)
  have hcx : ∀ {i bi g k}, zap stc i bi → μ i = some g → zgd g k → k ∉ bs0 := fun {i bi g k} h1 h2 h3 hm => by
    obtain ⟨i', bi', g', q1, q2, q3⟩ := (hbs0 k).1 hm
    have := hS1.inj i i' bi bi' g g' k (hlc i bi h1) (hlx i' bi' q1) h2 q2 h3 q3
    subst this
    exact hdis i (zbv h1) (zbv q1)
  have hS0 : StRep I μc st0 [] w1 := by
    refine { imm := hS1.imm, blk := fun i bi h => ?_, apart := fun i bi g k h hgi hk => ?_, inj := fun i i' bi bj gi gj k hi hj hgi hgj hki hkj => ?_, nodup := .nil, idsFree := fun _ h => by simp at h }
    · rcases hl0 h with ⟨rfl, rfl⟩ | ⟨rfl, rfl⟩ | ⟨_, _, h⟩
      · exact ⟨_, hmy, _, rfl⟩
      · exact ⟨_, hmj, _, _, hmy, rfl, hB1⟩
      · obtain ⟨g, q1, q2⟩ := hS1.blk i bi (hlc i bi h)
        exact ⟨g, by rw [hmo i (zbv h)]; exact q1, q2.sub fun x hx g hg => by rw [hmo x (hcl x (.inr ((zc1 h).2 x hx)))]; exact hg⟩
    · rcases hown0 k ⟨i, bi, g, h, hgi, hk⟩ with h | h | ⟨i', bi', g', q1, q2, q3⟩
      · rw [h]; exact ⟨hInew _ (by omega), by omega⟩
      · obtain ⟨i', bi', g', q1, q2, q3⟩ := hownx k h
        exact hS1.apart i' bi' g' k q1 q2 q3
      · exact hS1.apart i' bi' g' k (hlc i' bi' q1) q2 q3
    · rcases hl0 hi with ⟨rfl, rfl⟩ | ⟨rfl, rfl⟩ | ⟨_, _, hi⟩ <;> rcases hl0 hj with ⟨rfl, rfl⟩ | ⟨rfl, rfl⟩ | ⟨_, _, hj⟩
      · rfl
      · rw [hmy] at hgi; cases hgi; exact hki.elim
      · rw [hmy] at hgi; cases hgi; exact hki.elim
      · rw [hmy] at hgj; cases hgj; exact hkj.elim
      · rfl
      · rw [hmj] at hgi; cases hgi
        have q := hmo i' (zbv hj)
        rw [hgj] at q
        rcases List.mem_cons.1 (zdm.1 hki) with h | h
        · have := (hS1.apart i' bj gj k (hlc _ _ hj) q.symm hkj)
          have hlt := zfi hc.toStRep ⟨i', bj, gj, hlc _ _ hj, q.symm, hkj⟩
          omega
        · exact absurd h (hcx hj q.symm hkj)
      · rw [hmy] at hgj; cases hgj; exact hkj.elim
      · rw [hmj] at hgj; cases hgj
        have q := hmo i (zbv hi)
        rw [hgi] at q
        rcases List.mem_cons.1 (zdm.1 hkj) with h | h
        · have hlt := zfi hc.toStRep ⟨i, bi, gi, hlc _ _ hi, q.symm, hki⟩
          omega
        · exact absurd h (hcx hi q.symm hki)
      · have q1 := hmo i (zbv hi)
        have q2 := hmo i' (zbv hj)
        rw [hgi] at q1
        rw [hgj] at q2
        exact hS1.inj i i' bi bj gi gj k (hlc _ _ hi) (hlc _ _ hj) q1.symm q2.symm hki hkj
  -- the call
  have hvg := zzw (I := I) (μ := μ) (a := a) hg fun t _ d hl => hc.env t d hl
  generalize hve : a.eval g = vg at hvg
  cases hvg with
  | fn _ first cap _ _ hl1 hl2 q1 q2 =>
  have hnL : ∀ {l m : List D} {i}, i ∈ nmL l ∨ i ∈ nmL m → i ∈ nmL (l ++ m) := fun {l m i} h => by
    have : ∀ (l m : List D), nmL (l ++ m) = nmL l ++ nmL m := fun l m => by
      induction l with
      | nil => rfl
      | cons x r ih => simp [nmL, ih]
    rw [this]; simpa using h
  have hargs : RepL I μc (first ++ #[Value.func (.yield wa.heap.size) #[] #[]] ++ cap).toList (df ++ .yld y :: dc) := by
    have e : df ++ .yld y :: dc = df ++ [.yld y] ++ dc := by simp
    rw [e, Array.toList_append, Array.toList_append]
    have h1 : RepL I μ first.toList df := ⟨by simpa using hl1, fun i v d p q => q1 i v d (by simpa using p) q⟩
    have h2 : RepL I μ cap.toList dc := ⟨by simpa using hl2, fun i v d p q => q2 i v d (by simpa using p) q⟩
    refine RepL.append (RepL.append (h1.sub fun x hx g hg => ?_) (.mk (.yld _ _ hmy) .nil)) (h2.sub fun x hx g hg => ?_)
    · rw [hmo x (hcl x (.inl (hnL (.inl hx))))]; exact hg
    · rw [hmo x (hcl x (.inl (hnL (.inr hx))))]; exact hg
  have hEL := hE L (by rw [hL]; simp [hfb]) (by rw [hL]; exact hc.size) (by rw [hL]) (by rw [hL]) (by rw [hL]) (by rw [hL]) (by rw [hL])
  rw [← hst0] at hEL
  have hcall := hEL I μc w1 _ hS0 hargs
  rw [run_callFunc_body hf hname hb] at hcall
  have hres : ∃ dd, (resolve a.eval (rangeCall g wa.heap.size) 0).run P w1 = .ok dd w1 ∧ (invoke dd.target dd.args).run P w1 = .ok (.enter f (first ++ #[Value.func (.yield wa.heap.size) #[] #[]] ++ cap)) w1 := by
    refine ⟨⟨.fn (.func f) cap, first ++ #[Value.func (.yield wa.heap.size) #[] #[]]⟩, ?_, ?_⟩
    · have hcv : a.eval (.const (.func (.yield wa.heap.size) #[] #[])) = .func (.yield wa.heap.size) #[] #[] := rfl
      simp [rangeCall, resolve, Deferred.ofValue, hve, hcv]
    · simpa [invoke] using run_callFunc_body (w := w1) hf hname hb (first ++ #[Value.func (.yield wa.heap.size) #[] #[]] ++ cap)
  obtain ⟨dd, hr1, hr2⟩ := hres
  refine zpx he hr1 hr2 (Calls.mono hcall fun en w3 hen => ?_)
  cases en with
  | panicked chain => exact hen.elim
  | outgrown => exact hen.elim
  | returned v =>
    obtain ⟨I', μ', p1, p2, p3, p4⟩ := hen
    have hly : zap ((y, some .pin) :: (j2, some (.bun y (zdl L stB pend))) :: stc') j2 (.bun y (zdl L stB pend)) := zah.2 (.inr ⟨Ne.symm hyj.2.1, zah.2 (.inl ⟨rfl, rfl⟩)⟩)
    obtain ⟨g2, hg2, b2, bs2, hb2, rfl, hP2⟩ := p2.blk j2 _ hly
    have hyy : μ' y = some (.func (.yield wa.heap.size) #[] #[]) := p3 y (by rw [hst0]; simp [nms]) _ hmy
    rw [hyy] at hb2
    cases hb2
    have hbs2 : ∀ k ∈ bs2, I' k = none ∧ k < w3.heap.size := fun k hk => p2.apart j2 _ _ k hly hg2 (zdm.2 hk)
    obtain ⟨r, ν, bsN, e1, hrr, ⟨hr2', hr3⟩, ⟨hr4, hr5, hr6, hr7, hr8⟩, hE3, hS3, hownN, hnbN, hFN⟩ := ycc hP2 (ids := ids') (by rw [hL]; exact hfree) p2.imm hbs2
    subst e1
    have hend := run_endLoop (P := P) hrr (by rw [hr2']; cases pend <;> simp)
    obtain ⟨w4, hw4⟩ : ∃ w4 : World, w4 = w3.putObj wa.heap.size (.loop { r with state := .exhausted }) := ⟨_, rfl⟩
    have hend' : (Instr.endLoop wa.heap.size).run P w3 = .ok pend w4 := by rw [hw4, hend, hr3]
    refine ⟨pend, w4, hend', ?_⟩
    have hlb : wa.heap.size < w3.heap.size := zct hrr
    have hoth : ∀ i, i ≠ wa.heap.size → w4.heap[i]? = w3.heap[i]? := fun i hi => by
      rw [hw4]; unfold World.putObj
      simp [Array.getElem?_setIfInBounds_ne (Ne.symm hi)]
    have hw4s : w4.heap.size = w3.heap.size := by rw [hw4]; unfold World.putObj; simp
    obtain ⟨hIb, _⟩ := hbs2 _ (List.mem_cons_self ..)
    have hS4 : StRep I' ν stB ids' w4 := hS3.other (by omega) (fun i o hi => hoth i (fun e => by rw [e, hIb] at hi; cases hi)) (fun i hi => hoth i (fun e => hnbN ((hownN _).2 (e ▸ hi))))
    have hsz3 := p4.size
    -- what is not zbx stays
    have hno0 : ∀ k, k < w.heap.size → ¬ zbx μ st k → ¬ zbx μc st0 k := fun k hk hno h => by
      rcases hown0 k h with h | h | ⟨i, bi, g, q1, q2⟩
      · omega
      · exact hno (hownx k h)
      · exact hno ⟨i, bi, g, hlc i bi q1, q2⟩
    have hblk : ∀ k, k < w1.heap.size → k ≠ wa.heap.size → ¬ zbx μc st0 k → w4.heap[k]? = w1.heap[k]? := fun k hk hne hno => (hoth k hne).trans (p4.block k hk hno)
    have hfr : ∀ k, k < w1.heap.size → zbx ν stB k → zbx μc st0 k := fun k hk ho => p4.fresh k hk ⟨j2, _, _, hly, hg2, zdm.2 (List.mem_cons_of_mem _ ((hownN k).2 ho))⟩
    have hExt : Ext I μ st w I' ν stB w4 :=
      { imm := p4.imm
        os := by rw [hw4]; unfold World.putObj; exact p4.os.trans (by rw [hw1, hwa]; rfl)
        tape := by rw [hw4]; unfold World.putObj; exact p4.tape.trans (by rw [hw1, hwa]; rfl)
        output := by rw [hw4]; unfold World.putObj; exact p4.output.trans (by rw [hw1, hwa]; rfl)
        size := by omega
        block := fun k hk hno => (hblk k (by omega) (by omega) (hno0 k hk hno)).trans (hw1o k hk)
        fresh := fun k hk ho => by
          rcases hown0 k (hfr k (by omega) ho) with h | h | ⟨i, bi, g, q1, q2⟩
          · omega
          · exact hownx k h
          · exact ⟨i, bi, g, hlc i bi q1, q2⟩
        old := fun k hk hno => p4.old k (by omega) (hno0 k hk hno) }
    have hMk : MarksOk I' ν stB w4 ([{ target := .collected w.heap.size, args := #[] }] ++ a.defers) := by
      obtain ⟨rs, r1, r2, r3⟩ := hc.defers
      refine ⟨w.heap.size :: rs, by rw [r1]; rfl, List.nodup_cons.2 ⟨fun hm => ?_, r2⟩, fun r hr => ?_⟩
      · have := zct (r3 _ hm).1; omega
      have hno : ¬ zbx μc st0 r ∧ r < w1.heap.size ∧ r ≠ wa.heap.size ∧ w1.heap[r]? = some (.deferred (some [])) ∧ I r = none := by
        rcases List.mem_cons.1 hr with rfl | hr
        · refine ⟨fun h => ?_, by omega, by omega, hw1m, hInew _ (Nat.le_refl _)⟩
          rcases hown0 _ h with h | h | ⟨i, bi, g, q1, q2, q3⟩
          · omega
          · have := hltx _ h; omega
          · have := zfi hc.toStRep ⟨i, bi, g, hlc i bi q1, q2, q3⟩; omega
        · obtain ⟨h1, h2, h3⟩ := r3 r hr
          have hlt := zct h1
          exact ⟨hno0 r hlt h3, by omega, by omega, (hw1o r hlt).trans h1, h2⟩
      obtain ⟨h1, h2, h3, h4, h5⟩ := hno
      exact ⟨(hblk r h2 h3 h1).trans h4, (p4.old r h2 h1).trans h5, fun ho => h1 (hfr r h2 ho)⟩
    have hC : Conc n I' ν E stB ids' { a with defers := [{ target := .collected w.heap.size, args := #[] }] ++ a.defers } w4 :=
      { hS4 with size := hc.size, env := fun t d hl => by have := hE3 t d (by rw [hL]; exact hl); rw [hL] at this; exact this, defers := hMk }
    have hden : Den (jumpI pend ++ k) ((pend.map Item.code).toList ++ is) := by
      cases pend with
      | none => exact hki
      | some c => exact ⟨rfl, hki⟩
    refine Reach.mono (fun e a' w' hp => ?_) (hk b cs I' ν _ w4 _ hden hC)
    obtain ⟨x', env', st', ids2, I2, μ2, t1, t2, t3, t4, t5, t6⟩ := hp
    have hpin : Pin F μ ν := by rw [hL] at hFN; exact hFN
    refine ⟨x', env', st', ids2, I2, μ2, t1, t2, t3, hpin.trans t4, hExt.trans t5, fun r hr => ?_⟩
    rcases t6 r hr with h | h
    · simp only [List.singleton_append, List.mem_cons] at h
      rcases h with h | h
      · simp only [mkD, Deferred.mk.injEq, Target.collected.injEq, and_true] at h
        exact .inr (by omega)
      · exact .inl h
    · exact .inr (by omega)
end
end Go.Hk

/- A block behind a pointer that nobody writes any more; what a function does that ranges (iterators). -/
namespace Go.Hk
section
variable {P : Program} {n : Nat} {F : List Nat} {Q : DQ} {tt : TT} {env : Env} {st : St} {ids : List Nat} {todo : List DI}
theorem zhv (t : Nat) {id off : Nat} {ty : TypeId} {sz : Nat} {xs : List V} (he : lk env t = some (.ref id off)) (hl : lk st id = some (some (.immb ty sz xs))) (h : DGo P n F Q todo ((t, .ip ty xs off) :: env) ((id, none) :: st) ids) :
    DGo P n F Q todo env st ids := by
  intro b cs I μ a w items hd hc
  have hlive : zap st id (.immb ty sz xs) := hl
  obtain ⟨g, hg, hlen, gb, vs, rfl, hheap, hrep, hone⟩ := hc.blk id _ hlive
  obtain ⟨hno, hlt⟩ := hc.apart id _ _ gb hlive hg rfl
  obtain ⟨J, hJ⟩ : ∃ J : Imm, J = fun k => if k = gb then some (.cells vs ty (0, 0)) else I k := ⟨_, rfl⟩
  have hle : I.le J := fun k o h => by
    have : k ≠ gb := fun e => by rw [e, hno] at h; cases h
    rw [hJ]; simp [this, h]
  have hJo : ∀ k o, J k = some o → I k = some o ∨ (k = gb ∧ w.heap[k]? = some o) := fun k o h => by
    rw [hJ] at h
    by_cases hk : k = gb
    · subst hk; simp at h; subst h; exact .inr ⟨rfl, hheap⟩
    · simp [hk] at h; exact .inl h
  have hE : Ext I μ st w J μ ((id, none) :: st) w :=
    { imm := hle, os := rfl, tape := rfl, output := rfl, size := Nat.le_refl _
      block := fun _ _ _ => rfl
      fresh := fun k _ ⟨i, bi, gi, h1, h2, h3⟩ => ⟨i, bi, gi, (za7.1 h1).2, h2, h3⟩
      old := fun k _ ho => by
        have : k ≠ gb := fun e => ho (e ▸ ⟨id, _, _, hlive, hg, rfl⟩)
        rw [hJ]; simp [this] }
  have hv : RepD I μ (a.tmps.getD t undef) (.ref id off) := hc.env t _ he
  have hptr : a.tmps.getD t undef = .pointer (some ⟨gb, off, none⟩) := by
    generalize a.tmps.getD t undef = v at hv
    cases hv with
    | ref b' _ _ hm => rw [hg] at hm; cases hm; rfl
  have hip : RepD J μ (a.tmps.getD t undef) (.ip ty xs off) := by
    rw [hptr]
    have := RepD.ip (I := J) (μ := μ) gb 0 ty xs off (fun j => (vs[j]?).getD undef) (fun j x hx => ?_) (fun j x hx => ?_)
    · simpa using this
    · have hj : j < vs.size := by have := hrep.1; have := (List.getElem?_eq_some_iff.1 hx).1; simp at *; omega
      rw [hJ]
      simp only [Imm.cell, if_true, Nat.zero_add, Array.getElem?_eq_getElem hj, Option.getD_some, true_and]
      exact hone _ (by simp)
    · have hj : j < vs.size := by have := hrep.1; have := (List.getElem?_eq_some_iff.1 hx).1; simp at *; omega
      simp only [Array.getElem?_eq_getElem hj, Option.getD_some]
      exact (hrep.2 j _ x (by simp [hj]) hx).mono hle
  have hc' : Conc n J μ ((t, .ip ty xs off) :: env) ((id, none) :: st) ids a w :=
    { imm := fun k o h => (hJo k o h).elim (fun h => hc.imm k o h) fun h => h.2
      blk := fun i bi hli => by
        obtain ⟨_, h2⟩ := za7.1 hli
        obtain ⟨gi, hgi, hr⟩ := hc.blk i bi h2
        exact ⟨gi, hgi, hr.mono hle (Mu.le_refl μ)⟩
      apart := fun i bi gi k hli hgi hk => by
        obtain ⟨h1, h2⟩ := za7.1 hli
        obtain ⟨q1, q2⟩ := hc.apart i bi gi k h2 hgi hk
        refine ⟨?_, q2⟩
        cases hJk : J k with
        | none => rfl
        | some o =>
          rcases hJo k o hJk with h | ⟨h, _⟩
          · rw [q1] at h; cases h
          · exact absurd (hc.inj i id bi _ gi _ k h2 hlive hgi hg hk (by rw [h]; rfl)) h1
      inj := fun i j bi bj gi gj k hi hj hgi hgj hki hkj => hc.inj i j bi bj gi gj k (za7.1 hi).2 (za7.1 hj).2 hgi hgj hki hkj
      nodup := hc.nodup
      idsFree := hc.idsFree
      size := hc.size
      env := fun t' d hlt => by
        by_cases ht : t = t'
        · subst ht; rw [zaj] at hlt; cases hlt; exact hip
        · rw [zam _ _ ht] at hlt; exact (hc.env t' d hlt).mono hle (Mu.le_refl μ)
      defers := hc.defers.ext hE }
  exact (h b cs J μ a w items hd hc').mono fun e' a' w' hp => hp.back (.refl _ _) hE
theorem zz4 (t : Nat) {ty : TypeId} {off : Nat} {xs : List V} (he : lk env t = some (.imm (.ip ty xs off))) (h : DGo P n F Q todo ((t, .ip ty xs off) :: env) st ids) : DGo P n F Q todo env st ids := by
  intro b cs I μ a w items hd hc
  refine h b cs I μ a w items hd { hc with env := fun t' d hl => ?_ }
  by_cases ht : t = t'
  · subst ht
    rw [zaj] at hl; cases hl
    exact ((hc.env t _ he).immInv).ipD
  · rw [zam _ _ ht] at hl; exact hc.env t' d hl
theorem zbt (i j : Nat) {ids' : List Nat} {blk : Blk} (hl : lk st i = some (some blk)) (hj : (zk5 ids j && zn3 ids' && zyo ids' ids && !zk5 ids' j) = true) (h : DGo P n F Q todo env ((j, some blk) :: (i, none) :: st) ids') : DGo P n F Q todo env st ids := by
  intro b cs I μ a w items hd hc
  simp only [Bool.and_eq_true, Bool.not_eq_true'] at hj
  obtain ⟨⟨⟨hj1, hj2⟩, hj3⟩, hj4⟩ := hj
  have hlive : zap st i blk := hl
  obtain ⟨g, hg, hr⟩ := hc.blk i _ hlive
  have hjn : μ j = none := hc.idsFree j (zbo.1 hj1)
  have hij : i ≠ j := fun e => by rw [e, hjn] at hg; cases hg
  obtain ⟨ν, hν⟩ : ∃ ν : Mu, ν = fun k => if k = j then some g else μ k := ⟨_, rfl⟩
  have hνj : ν j = some g := by rw [hν]; simp
  have hνo : ∀ k, k ≠ j → ν k = μ k := fun k hk => by rw [hν]; simp [hk]
  have hle : μ.le ν := fun k v hk => by
    have : k ≠ j := fun e => by rw [e, hjn] at hk; cases hk
    rw [hνo k this]; exact hk
  have hst : ∀ k bk, zap ((j, some blk) :: (i, none) :: st) k bk → (k = j ∧ bk = blk) ∨ (k ≠ j ∧ k ≠ i ∧ zap st k bk) := fun k bk h => by
    rcases zah.1 h with h | ⟨h1, h⟩
    · exact .inl h
    · obtain ⟨h2, h3⟩ := za7.1 h
      exact .inr ⟨h1, h2, h3⟩
  have hE : Ext I μ st w I ν ((j, some blk) :: (i, none) :: st) w :=
    { imm := Imm.le_refl I, os := rfl, tape := rfl, output := rfl, size := Nat.le_refl _, block := fun _ _ _ => rfl
      fresh := fun k _ ⟨x, bx, gx, h1, h2, h3⟩ => by
        rcases hst x bx h1 with ⟨rfl, rfl⟩ | ⟨q1, _, q3⟩
        · rw [hνj] at h2; cases h2; exact ⟨i, _, _, hlive, hg, h3⟩
        · exact ⟨x, bx, gx, q3, by rw [← hνo x q1]; exact h2, h3⟩
      old := fun _ _ _ => rfl }
  have hc' : Conc n I ν env ((j, some blk) :: (i, none) :: st) ids' a w :=
    { imm := hc.imm
      blk := fun k bk hk => by
        rcases hst k bk hk with ⟨rfl, rfl⟩ | ⟨q1, _, q3⟩
        · exact ⟨g, hνj, hr.mono (Imm.le_refl I) hle⟩
        · obtain ⟨g', h1, h2⟩ := hc.blk k bk q3
          exact ⟨g', hle _ _ h1, h2.mono (Imm.le_refl I) hle⟩
      apart := fun k bk gk m hk hgk hm => by
        rcases hst k bk hk with ⟨rfl, rfl⟩ | ⟨q1, _, q3⟩
        · rw [hνj] at hgk; cases hgk; exact hc.apart i _ _ m hlive hg hm
        · exact hc.apart k bk gk m q3 (by rw [← hνo k q1]; exact hgk) hm
      inj := fun k k' bk bk' gk gk' m hk hk' hgk hgk' hm hm' => by
        rcases hst k bk hk with ⟨rfl, rfl⟩ | ⟨q1, p1, q3⟩ <;> rcases hst k' bk' hk' with ⟨rfl, rfl⟩ | ⟨q1', p1', q3'⟩
        · rfl
        · rw [hνj] at hgk; cases hgk
          exact absurd (hc.inj k' i bk' _ gk' _ m q3' hlive (by rw [← hνo k' q1']; exact hgk') hg hm' hm) p1'
        · rw [hνj] at hgk'; cases hgk'
          exact absurd (hc.inj k i bk _ gk _ m q3 hlive (by rw [← hνo k q1]; exact hgk) hg hm hm') p1
        · exact hc.inj k k' bk bk' gk gk' m q3 q3' (by rw [← hνo k q1]; exact hgk) (by rw [← hνo k' q1']; exact hgk') hm hm'
      nodup := zhh hj2
      idsFree := fun k hk => by
        have h1 := hc.idsFree k (zfw hj3 k hk)
        have : k ≠ j := fun e => by rw [← e] at hj4; rw [zbo.2 hk] at hj4; cases hj4
        rw [hνo k this]; exact h1
      size := hc.size
      env := fun t d hlt => (hc.env t d hlt).mono (Imm.le_refl I) hle
      defers := hc.defers.ext hE }
  exact (h b cs I ν a w items hd hc').mono fun e' a' w' hp => hp.back (.of_le hle) hE
inductive Yields (P : Program) : List D → Bun → Bool → Bun → Prop where
  | nil (S : Bun) : Yields P [] S true S
  | cons {d : D} {l : List D} {S S1 S2 : Bun} {r : Bool} (h : yal P [d] S true S1) (h1 : Yields P l S1 r S2) : Yields P (d :: l) S r S2
  | stop {d : D} {l : List D} {S S1 : Bun} (h : yal P [d] S false S1) : Yields P (d :: l) S false S1
theorem Yields.split {l m : List D} {S S2 : Bun} {r : Bool} (h : Yields P (l ++ m) S r S2) : (∃ S1, Yields P l S true S1 ∧ Yields P m S1 r S2) ∨ (r = false ∧ Yields P l S false S2) := by
  induction l generalizing S with
  | nil => exact .inl ⟨S, .nil S, h⟩
  | cons d l ih =>
    cases h with
    | cons h h1 =>
      rcases ih h1 with ⟨S1, q1, q2⟩ | ⟨q1, q2⟩
      · exact .inl ⟨S1, .cons h q1, q2⟩
      · exact .inr ⟨q1, .cons h q2⟩
    | stop h => exact .inr ⟨rfl, .stop h⟩
theorem Yields.nilInv {S S2 : Bun} {r : Bool} (h : Yields P [] S r S2) : r = true ∧ S2 = S := by
  cases h; exact ⟨rfl, rfl⟩
theorem Yields.all {l : List D} (S : Nat → Bun) (h : ∀ i d, l[i]? = some d → yal P [d] (S i) true (S (i + 1))) : Yields P l (S 0) true (S l.length) := by
  have : ∀ (l : List D) (k : Nat), (∀ i d, l[i]? = some d → yal P [d] (S (k + i)) true (S (k + i + 1))) → Yields P l (S k) true (S (k + l.length)) := by
    intro l
    induction l with
    | nil => intro k _; exact .nil _
    | cons d l ih =>
      intro k h
      have := ih (k + 1) fun i d hi => by
        have := h (i + 1) d (by simpa using hi)
        rwa [show k + 1 + i = k + (i + 1) by omega]
      rw [show k + 1 + l.length = k + (d :: l).length by simp; omega] at this
      exact .cons (h 0 d rfl) this
  have := this l 0 fun i d hi => by simpa using h i d hi
  simpa using this
end
end Go.Hk

/- Contracts of term: the names of a pattern, gone through by a function (names), and as a slice (Names). -/
namespace Go.Hk
open Go.Proofs
def ttN : TT := ttA ++ [
  (128, ⟨.ptr 58, false, 1, 8, [.imm .nilp]⟩),
  (96, ⟨.ptr 9, false, 1, 8, [.imm .nilp]⟩),
  (94, ⟨.func, false, 1, 8, [.imm .nilfn]⟩),
  (93, ⟨.func, false, 1, 8, [.imm .nilfn]⟩),
  (126, ⟨.func, false, 1, 8, [.imm .nilfn]⟩),
  (148, ⟨.func, false, 1, 8, [.imm .nilfn]⟩),
  (91, ⟨.ptr 26, false, 1, 8, [.imm .nilp]⟩)]
theorem zbs : TTok Tryz.prog ttN := .of_eq (l := [4, 3, 9, 26, 58, 22, 24, 5, 36, 23, 56, 29, 139, 83, 1, 61, 143, 128, 96, 94, 93, 126, 148, 91]) (by kernel_rfl)
section
variable {n : Nat} {F : List Nat} {Q : DQ} {env env' : Env} {st st' : St} {ids ids' : List Nat} {k todo : List DI} {ob : List Prop}
theorem nd (path : List Pt) (h : run ttN n 300 path todo env st ids [] = .at k env' st' ids' ob) (hob : zbw ob) (hd : G Tryz.prog n F Q k env' st' ids') : DGo Tryz.prog n F Q todo env st ids := zrf zbs mixed 300 path h hob hd
theorem ng (path : List Pt) (h : run ttN n 300 path todo env st ids [] = .at k env' st' ids' ob) (hob : zbw ob) (hd : G Tryz.prog n F Q k env' st' ids') : G Tryz.prog n F Q todo env st ids := zqo zbs mixed 300 path h hob hd
theorem ni {es : List (List V)} {m : Int} {sz : Nat} {e : TypeId} {g : Option (Bool × Bool)} {ob : List Prop} {t : Nat} {todo' : List DI} {c : List V} (h : yio ttN n env todo = some ⟨es, m, sz, e, g, ob, some t, todo'⟩)
    (hc : zai g → 0 ≤ m ∧ es[m.toNat]? = some c ∧ c.length = sz) (hob : zbw ob) (hk : G Tryz.prog n F Q todo' ((t, gD g (.ip e c 0)) :: env) st ids) : G Tryz.prog n F Q todo env st ids := zeg zbs h hc hob hk
end
mutual
def zh7 : Ty → List D
  | .mk s n x ps => (if s = 2 then [.ip 58 (zb5 (.mk s n x ps)) 2] else []) ++ zmy ps
def zmy : List Ty → List D
  | [] => []
  | t :: r => zh7 t ++ zmy r
end
def zkk (r : St) : St := (1, some (.cells 126 1 [.yld 3])) :: (2, some (.cells 148 1 [.fn (.func 114) [] [.ref 1 0, .ref 2 0]])) :: r
def ym0 (t : Ty) (b : Bool) (S S' : Bun) : Prop := zc5 Tryz.prog 114 [.ip 58 (zb5 t) 0, .ref 1 0, .ref 2 0]
  (zkk [(3, some .pin), (4, some (.bun 3 S))]) (.ret (.imm (.bool b)) (zkk [(3, some .pin), (5, some (.bun 3 S'))]))
set_option maxRecDepth 100000 in
theorem zxx (s n : Int) (x : Str) (ps : List Ty) (IH : ∀ t ∈ ps, ∀ {b : Bool} {S S' : Bun}, Yields Tryz.prog (zh7 t) S b S' → ym0 t b S S') {b : Bool} {S S' : Bun} (hY : Yields Tryz.prog (zmy ps) S b S') :
    DGo Tryz.prog Tryz.f114.ntmps [1, 2, 3, 4] (yex ttN Tryz.f114.results.toList (.ret (.imm (.bool b)) (zkk [(3, some .pin), (5, some (.bun 3 S'))])))
      [.code (zh9 Tryz.f114 2)] [(0, .ip 58 (zb5 (.mk s n x ps)) 0), (1, .ref 1 0), (2, .ref 2 0)] (zkk [(3, some .pin), (6, some (.bun 3 S))]) [7, 8, 5] := by
  refine nd [] rfl (by simp [zai]) ?_
  refine ykp (t := 22) rfl fun hv => ?_
  have hlen : ps.length ≤ 9223372036854775807 := by simp [vOk, maxLen] at hv; omega
  refine zak (fun y : Nat × Bun => [(24, .imm (.int .i64 y.1)), (23, .imm (.int .i64 ps.length)), (0, .ip 58 (zb5 (.mk s n x ps)) 0), (1, .ref 1 0), (2, .ref 2 0)])
    (fun y => zkk [(3, some .pin), (6, some (.bun 3 y.2))]) [7, 8, 5] (fun y => ps.length - y.1)
    (fun y => y.1 ≤ ps.length ∧ Yields Tryz.prog (zmy (ps.drop y.1)) y.2 b S') (0, S) ⟨Nat.zero_le _, hY⟩ ⟨rfl, zcr (by simp), rfl, rfl, rfl, trivial⟩ ⟨rfl, rfl, rfl, rfl, trivial⟩ rfl fun y hi ih => ?_
  obtain ⟨i, S0⟩ := y
  obtain ⟨hi1, hi2⟩ := hi
  simp only at hi1 hi2
  refine nd [] rfl (by simp [zai]) ?_
  refine zab rfl (fun h => ?_) (fun h => ?_)
  · simp at h
    obtain ⟨t, ht⟩ := zal h
    have hd : ps.drop i = t :: ps.drop (i + 1) := zaq ht
    rw [hd] at hi2
    refine nd [] rfl (by simp [zai]) ?_
    refine ni rfl (c := zb5 t) (fun _ => ⟨by simp, by simpa using zb8 ht, by simp⟩) (by simp) ?_
    refine ng [] rfl (by simp [zai]) ?_
    rcases Yields.split hi2 with ⟨S1, q1, q2⟩ | ⟨q1, q2⟩
    · refine zar (fr := [7]) [(1, 1), (2, 2), (3, 3), (6, 4)] [(5, 7)] rfl (by simp) (IH t (List.mem_of_getElem? ht) q1) ⟨⟨rfl, rfl, rfl⟩, ⟨rfl, rfl, rfl⟩, ⟨rfl, rfl, rfl⟩, ⟨rfl, rfl, rfl⟩, trivial⟩ rfl rfl rfl rfl ?_
      refine ng [] rfl (by simp [zai]; rfl) ?_
      refine zab rfl (fun h => by simp at h) (fun h => ?_)
      refine nd [] rfl (by simp) ?_
      refine zcq 6 7 rfl ?_
      exact zae (ih (i + 1, S1) (by simp only; omega) ⟨by simp only; omega, q2⟩) ⟨zcr (w64 (by simp only; omega) (by simp only; omega)), rfl, rfl, rfl, rfl, trivial⟩ ⟨rfl, rfl, rfl, rfl, trivial⟩ rfl
    · subst q1
      refine zar (fr := [7]) [(1, 1), (2, 2), (3, 3), (6, 4)] [(5, 7)] rfl (by simp) (IH t (List.mem_of_getElem? ht) q2) ⟨⟨rfl, rfl, rfl⟩, ⟨rfl, rfl, rfl⟩, ⟨rfl, rfl, rfl⟩, ⟨rfl, rfl, rfl⟩, trivial⟩ rfl rfl rfl rfl ?_
      refine ng [] rfl (by simp [zai]; rfl) ?_
      refine zab rfl (fun h => ?_) (fun h => by simp at h)
      refine nd [] rfl (by simp) ?_
      refine zbt (ids' := []) 7 5 rfl rfl ?_
      exact zaa ⟨_, rfl, tV rfl, rfl, rfl, rfl, rfl, trivial⟩
  · simp at h
    have hd : ps.drop i = [] := List.drop_eq_nil_of_le (by omega)
    rw [hd] at hi2
    obtain ⟨rfl, rfl⟩ := hi2.nilInv
    refine za2 rfl ?_
    refine nd [] rfl (by simp) ?_
    refine zbt (ids' := []) 6 5 rfl rfl ?_
    exact zaa ⟨_, rfl, tV rfl, rfl, rfl, rfl, rfl, trivial⟩
set_option maxRecDepth 100000 in
theorem yhl : ∀ (t : Ty) {b : Bool} {S S' : Bun}, Yields Tryz.prog (zh7 t) S b S' → ym0 t b S S'
  | .mk s n x ps, b, S, S', hY => by
    have IH : ∀ t ∈ ps, ∀ {b : Bool} {S S' : Bun}, Yields Tryz.prog (zh7 t) S b S' → ym0 t b S S' := fun t ht {b S S'} h => yhl t h
    refine zaf zbs Tryz.func114 (by decide +kernel) rfl [6, 7, 8, 5] rfl rfl ?_
    refine ng [] rfl (by simp [zai]) ?_
    simp only [zh7] at hY
    by_cases hs : s = 2
    · rw [if_pos hs] at hY
      cases hY with
      | cons h h1 =>
        refine zi7 (j := 4) (j2 := 6) rfl (by simp [zai]) (by simp [zai, hs]) h rfl rfl rfl rfl rfl ?_
        refine ng [] rfl (by simp [zai]; rfl) ?_
        refine zab rfl (fun h => by simp [hs] at h) (fun h => ?_)
        refine ze0 ?_
        exact zae (zxx s n x ps IH h1) ⟨rfl, rfl, rfl, trivial⟩ ⟨rfl, rfl, rfl, rfl, trivial⟩ rfl
      | stop h =>
        refine zi7 (j := 4) (j2 := 6) rfl (by simp [zai]) (by simp [zai, hs]) h rfl rfl rfl rfl rfl ?_
        refine ng [] rfl (by simp [zai]; rfl) ?_
        refine zab rfl (fun h => ?_) (fun h => by simp [hs] at h)
        refine nd [] rfl (by simp) ?_
        refine zbt (ids' := []) 6 5 rfl rfl ?_
        exact zaa ⟨_, rfl, tV rfl, rfl, rfl, rfl, rfl, trivial⟩
    · rw [if_neg hs] at hY
      refine yhi (.imm (.bool true)) rfl (by simp [zai, hs]) ?_
      refine ng [] rfl (by simp [zai]; rfl) ?_
      refine zab rfl (fun h => by simp [hs] at h) (fun h => ?_)
      refine ze0 ?_
      refine zbt (ids' := [7, 8, 5]) 4 6 rfl rfl ?_
      exact zae (zxx s n x ps IH hY) ⟨rfl, rfl, rfl, trivial⟩ ⟨rfl, rfl, rfl, rfl, trivial⟩ rfl
termination_by t => SizeOf.sizeOf t
decreasing_by
  all_goals
    have := List.sizeOf_lt_of_mem ht
    simp_wf
    omega
def ycd (t : Ty) : St := [(6, some (.cells 128 1 [.ip 58 (zb5 t) 0]))]
set_option maxRecDepth 100000 in
theorem zxk (t : Ty) {b : Bool} {S S' : Bun} (hY : Yields Tryz.prog (zh7 t) S b S') :
    zc5 Tryz.prog 113 [.yld 3, .ref 6 0] ((3, some .pin) :: (4, some (.bun 3 S)) :: ycd t) (.ret (.tup []) ((3, some .pin) :: (5, some (.bun 3 S')) :: ycd t)) := by
  refine zaf zbs Tryz.func113 (by decide +kernel) rfl [1, 2, 7, 5] rfl rfl ?_
  refine ng [] rfl (by simp [zai]) ?_
  refine zar (fr := [7]) [(1, 1), (2, 2), (3, 3), (4, 4)] [(5, 7)] rfl (by simp) (yhl t hY) ⟨⟨rfl, rfl, rfl⟩, ⟨rfl, rfl, rfl⟩, ⟨rfl, rfl, rfl⟩, ⟨rfl, rfl, rfl⟩, trivial⟩ rfl rfl rfl rfl ?_
  refine ng [] rfl (by simp [zai]) ?_
  refine zbt (ids' := []) 7 5 rfl rfl ?_
  exact zb0 ⟨[], rfl, rfl, rfl, rfl, rfl, trivial⟩
set_option maxRecDepth 100000 in
theorem yjt (t : Ty) : zc5 Tryz.prog 98 [.ip 58 (zb5 t) 0] [] (.ret (.fn (.func 113) [] [.ref 6 0]) (ycd t)) := by
  refine zaf zbs Tryz.func98 (by decide +kernel) rfl [6] rfl rfl ?_
  refine ng [] rfl (by simp [zai]) ?_
  exact zaa ⟨_, rfl, rfl, rfl, trivial⟩
mutual
def zc6 : Ty → List Ty
  | .mk s n x ps => (if s = 2 then [.mk s n x ps] else []) ++ zcb ps
def zcb : List Ty → List Ty
  | [] => []
  | t :: r => zc6 t ++ zcb r
end
mutual
theorem ziw : ∀ t : Ty, zh7 t = (zc6 t).map fun u => .ip 58 (zb5 u) 2
  | .mk s n x ps => by
    simp only [zh7, zc6, List.map_append, zs4 ps]
    by_cases h : s = 2 <;> simp [h]
theorem zs4 : ∀ ts : List Ty, zmy ts = (zcb ts).map fun u => .ip 58 (zb5 u) 2
  | [] => rfl
  | t :: r => by simp only [zmy, zcb, List.map_append, ziw t, zs4 r]
end
def zij : Ty → Str
  | .mk _ _ x _ => x
def za8 (t : Ty) : List Str := (zc6 t).map zij
def rfAB : Code → Option (Code × Code)
  | .rangeFunc _ _ a b => some (a, b)
  | .seq x y => match rfAB x with
    | some r => some r
    | none => rfAB y
  | .block _ c => rfAB c
  | _ => none
def rfAsg (f : Func) : Code := match rfAB (zh9 f 0) with
  | some (a, _) => a
  | none => .skip
def ylf (f : Func) : Code := match rfAB (zh9 f 0) with
  | some (_, b) => b
  | none => .skip
end Go.Hk

/- Contracts of term: all strings of letters, gone through by a function; the first name that is none of some. -/
namespace Go.Hk
open Go.Proofs
def ttL : TT := [
  (3, ⟨.int .i64, false, 1, 8, [.imm (.int .i64 0)]⟩),
  (9, ⟨.str, false, 1, 16, [.imm (.str [])]⟩),
  (4, ⟨.bool, false, 1, 1, [.imm (.bool false)]⟩),
  (61, ⟨.map 9 4, false, 1, 8, [.imm .nilmap]⟩),
  (119, ⟨.func, false, 1, 8, [.imm .nilfn]⟩),
  (2, ⟨.int .i64, false, 1, 8, [.imm (.int .i64 0)]⟩),
  (78, ⟨.func, false, 1, 8, [.imm .nilfn]⟩),
  (32, ⟨.func, false, 1, 8, [.imm .nilfn]⟩),
  (21, ⟨.int .i32, false, 1, 4, [.imm (.int .i32 0)]⟩),
  (36, ⟨.sl 9, false, 1, 24, [.nils]⟩),
  (77, ⟨.func, false, 1, 8, [.imm .nilfn]⟩)]
theorem zii : TTok Tryz.prog ttL := .of_eq (l := [3, 9, 4, 61, 119, 2, 78, 32, 21, 36, 77]) (by kernel_rfl)
section
variable {n : Nat} {F : List Nat} {Q : DQ} {env env' : Env} {st st' : St} {ids ids' : List Nat} {k todo : List DI} {ob : List Prop}
theorem ld (path : List Pt) (h : run ttL n 300 path todo env st ids [] = .at k env' st' ids' ob) (hob : zbw ob) (hd : G Tryz.prog n F Q k env' st' ids') : DGo Tryz.prog n F Q todo env st ids := zrf zii mixed 300 path h hob hd
theorem lg (path : List Pt) (h : run ttL n 300 path todo env st ids [] = .at k env' st' ids' ob) (hob : zbw ob) (hd : G Tryz.prog n F Q k env' st' ids') : G Tryz.prog n F Q todo env st ids := zqo zii mixed 300 path h hob hd
theorem li {es : List (List V)} {m : Int} {sz : Nat} {e : TypeId} {g : Option (Bool × Bool)} {ob : List Prop} {t : Nat} {todo' : List DI} {c : List V} (h : yio ttL n env todo = some ⟨es, m, sz, e, g, ob, some t, todo'⟩)
    (hc : zai g → 0 ≤ m ∧ es[m.toNat]? = some c ∧ c.length = sz) (hob : zbw ob) (hk : G Tryz.prog n F Q todo' ((t, gD g (.ip e c 0)) :: env) st ids) : G Tryz.prog n F Q todo env st ids := zeg zii h hc hob hk
end
def runK (f : Nat → List Str) : Nat → Nat → List Str
  | _, 0 => []
  | k, n + 1 => f k ++ runK f (k + 1) n
def zgi : Nat → Str → List Str
  | 0, b => [b]
  | m + 1, b => runK (fun k => zgi m (b ++ [UInt8.ofNat (97 + k)])) 0 26
def dS (l : List Str) : List D := l.map fun s => .imm (.str s)
def yjh (r : St) : St := (1, some (.cells 32 1 [.yld 3])) :: (2, some (.cells 119 1 [.fn (.func 93) [] [.ref 1 0, .ref 2 0]])) :: r
def putC (b : Str) (m : Int) (r : Bool) (S S' : Bun) : Prop := zc5 Tryz.prog 93 [.imm (.str b), .imm (.int .i64 m), .ref 1 0, .ref 2 0]
  (yjh [(3, some .pin), (4, some (.bun 3 S))]) (.ret (.imm (.bool r)) (yjh [(3, some .pin), (5, some (.bun 3 S'))]))
theorem yfj (f : Nat → List Str) (k n : Nat) : runK f k (n + 1) = f k ++ runK f (k + 1) n := rfl
theorem yh1 (a b : List Str) : dS (a ++ b) = dS a ++ dS b := by simp [dS]
set_option maxRecDepth 100000 in
theorem yli : ∀ (m : Nat) (b : Str) {r : Bool} {S S' : Bun}, m ≤ 1000 → b.length + m ≤ 1000000 → Yields Tryz.prog (dS (zgi m b)) S r S' → putC b m r S S'
  | 0, b, r, S, S', _, hb, hY => by
    refine zaf zii Tryz.func93 (by decide +kernel) rfl [6, 7, 8, 5] rfl rfl ?_
    refine lg [] rfl (by simp [zai]) ?_
    refine zab rfl (fun h => ?_) (fun h => by simp at h)
    refine ld [] rfl (by simp [zai]) ?_
    cases hY with
    | cons h h1 =>
      obtain ⟨rfl, rfl⟩ := h1.nilInv
      refine zi7 (j := 4) (j2 := 6) rfl (by simp [zai]) trivial h rfl rfl rfl rfl rfl ?_
      refine lg [] rfl (by simp [zai]) ?_
      refine zbt (ids' := []) 6 5 rfl rfl ?_
      exact zaa ⟨_, rfl, tV rfl, rfl, rfl, rfl, rfl, trivial⟩
    | stop h =>
      refine zi7 (j := 4) (j2 := 6) rfl (by simp [zai]) trivial h rfl rfl rfl rfl rfl ?_
      refine lg [] rfl (by simp [zai]) ?_
      refine zbt (ids' := []) 6 5 rfl rfl ?_
      exact zaa ⟨_, rfl, tV rfl, rfl, rfl, rfl, rfl, trivial⟩
  | m + 1, b, r, S, S', hm, hb, hY => by
    refine zaf zii Tryz.func93 (by decide +kernel) rfl [6, 7, 8, 5] rfl rfl ?_
    refine lg [] rfl (by simp [zai]) ?_
    refine zab rfl (fun h => by simp at h; omega) (fun h => ?_)
    refine ld [] rfl (by simp [zai]) ?_
    refine zbt (ids' := [7, 8, 5]) 4 6 rfl rfl ?_
    refine zak (fun y : Nat × Bun => [(13, .imm (.int .i64 y.1)), (0, .imm (.str b)), (1, .imm (.int .i64 ((m + 1 : Nat) : Int))), (2, .ref 1 0), (3, .ref 2 0)])
      (fun y => yjh [(3, some .pin), (6, some (.bun 3 y.2))]) [7, 8, 5] (fun y => 26 - y.1)
      (fun y => y.1 ≤ 26 ∧ Yields Tryz.prog (dS (runK (fun k => zgi m (b ++ [UInt8.ofNat (97 + k)])) y.1 (26 - y.1))) y.2 r S') (0, S) ⟨Nat.zero_le _, hY⟩ ⟨rfl, rfl, rfl, rfl, rfl, trivial⟩ ⟨rfl, rfl, rfl, rfl, trivial⟩ rfl fun y hi ih => ?_
    obtain ⟨k, S0⟩ := y
    obtain ⟨hi1, hi2⟩ := hi
    simp only at hi1 hi2
    refine ld [] rfl (by simp [zai]) ?_
    refine zab rfl (fun h => ?_) (fun h => ?_)
    · simp at h
      have hk : 26 - k = (26 - (k + 1)) + 1 := by omega
      rw [hk, yfj, yh1] at hi2
      have w1 : IntKind.i64.wrap (97 + (k : Int)) = 97 + k := w64 (by omega) (by omega)
      have w2 : IntKind.i32.wrap (97 + (k : Int)) = 97 + k := by
        simp only [IntKind.wrap, IntKind.bits, IntKind.signed]
        simp
        omega
      have w4 : (97 + (k : Int)).toNat = 97 + k := by omega
      have w3 : IntKind.i64.wrap (((m + 1 : Nat) : Int) - 1) = m := by rw [w64 (by omega) (by omega)]; omega
      refine ld [] rfl (by simp only [w1, w2]; simp [zai]; omega) ?_
      have hcall : ∀ (x : Str) (y : Int) (r1 : Bool) (S1 : Bun), x = b ++ [UInt8.ofNat (97 + k)] → y = m → Yields Tryz.prog (dS (zgi m (b ++ [UInt8.ofNat (97 + k)]))) S0 r1 S1 → putC x y r1 S0 S1 := fun x y r1 S1 hx hy h => by
        rw [hx, hy]
        exact yli m _ (by omega) (by simp; omega) h
      rcases Yields.split hi2 with ⟨S1, q1, q2⟩ | ⟨q1, q2⟩
      · refine zar (fr := [7]) [(1, 1), (2, 2), (3, 3), (6, 4)] [(5, 7)] rfl (by simp) (hcall _ _ true S1 (by rw [w1, w2, w4]) (by rw [w3]) q1) ⟨⟨rfl, rfl, rfl⟩, ⟨rfl, rfl, rfl⟩, ⟨rfl, rfl, rfl⟩, ⟨rfl, rfl, rfl⟩, trivial⟩ rfl rfl rfl rfl ?_
        refine lg [] rfl (by simp [zai]) ?_
        refine zab rfl (fun h => by simp at h) (fun h => ?_)
        refine ld [] rfl (by simp) ?_
        refine zcq 6 7 rfl ?_
        exact zae (ih (k + 1, S1) (by simp only; omega) ⟨by simp only; omega, q2⟩) ⟨zcr (w64 (by simp only; omega) (by simp only; omega)), rfl, rfl, rfl, rfl, trivial⟩ ⟨rfl, rfl, rfl, rfl, trivial⟩ rfl
      · subst q1
        refine zar (fr := [7]) [(1, 1), (2, 2), (3, 3), (6, 4)] [(5, 7)] rfl (by simp) (hcall _ _ false S' (by rw [w1, w2, w4]) (by rw [w3]) q2) ⟨⟨rfl, rfl, rfl⟩, ⟨rfl, rfl, rfl⟩, ⟨rfl, rfl, rfl⟩, ⟨rfl, rfl, rfl⟩, trivial⟩ rfl rfl rfl rfl ?_
        refine lg [] rfl (by simp [zai]) ?_
        refine zab rfl (fun h => ?_) (fun h => by simp at h)
        refine ld [] rfl (by simp) ?_
        refine zbt (ids' := []) 7 5 rfl rfl ?_
        exact zaa ⟨_, rfl, tV rfl, rfl, rfl, rfl, rfl, trivial⟩
    · simp at h
      have hk : 26 - k = 0 := by omega
      rw [hk] at hi2
      obtain ⟨rfl, rfl⟩ := hi2.nilInv
      refine za2 rfl ?_
      refine ld [] rfl (by simp) ?_
      refine zbt (ids' := []) 6 5 rfl rfl ?_
      exact zaa ⟨_, rfl, tV rfl, rfl, rfl, rfl, rfl, trivial⟩
set_option maxRecDepth 100000 in
theorem zyx {S S' : Bun} (hY : Yields Tryz.prog (dS (zgi 1 [] ++ zgi 2 [])) S false S') :
    zc5 Tryz.prog 92 [.yld 3] [(3, some .pin), (4, some (.bun 3 S))] (.ret (.tup []) [(3, some .pin), (5, some (.bun 3 S'))]) := by
  refine zaf zii Tryz.func92 (by decide +kernel) rfl [1, 2, 6, 7, 8, 5] rfl rfl ?_
  refine lg [] rfl (by simp [zai]) ?_
  refine zbt (ids' := [7, 8, 5]) 4 6 rfl rfl ?_
  refine zak (fun y : Nat × Bun => [(3, .imm (.int .i64 y.1)), (1, .ref 1 0), (2, .ref 2 0)])
    (fun y => yjh [(3, some .pin), (6, some (.bun 3 y.2))]) [7, 8, 5] (fun y => 3 - y.1)
    (fun y => (y.1 = 1 ∧ Yields Tryz.prog (dS (zgi 1 [] ++ zgi 2 [])) y.2 false S') ∨ (y.1 = 2 ∧ Yields Tryz.prog (dS (zgi 2 [])) y.2 false S')) (1, S) (.inl ⟨rfl, hY⟩) ⟨rfl, rfl, rfl, trivial⟩ ⟨rfl, rfl, rfl, rfl, trivial⟩ rfl fun y hi ih => ?_
  obtain ⟨k, S0⟩ := y
  simp only at hi
  refine ld [] rfl (by simp [zai]) ?_
  have hcall : ∀ (n : Nat) (y : Int) (r1 : Bool) (S1 : Bun), n ≤ 2 → y = n → Yields Tryz.prog (dS (zgi n [])) S0 r1 S1 → putC [] y r1 S0 S1 := fun n y r1 S1 hn hy h => by
    rw [hy]
    exact yli n _ (by omega) (by simp; omega) h
  rcases hi with ⟨hk, hi⟩ | ⟨hk, hi⟩
  · rw [yh1] at hi
    rcases Yields.split hi with ⟨S1, q1, q2⟩ | ⟨_, q2⟩
    · refine zar (fr := [7]) [(1, 1), (2, 2), (3, 3), (6, 4)] [(5, 7)] rfl (by simp) (hcall 1 _ true S1 (by omega) (by rw [hk]) q1) ⟨⟨rfl, rfl, rfl⟩, ⟨rfl, rfl, rfl⟩, ⟨rfl, rfl, rfl⟩, ⟨rfl, rfl, rfl⟩, trivial⟩ rfl rfl rfl rfl ?_
      refine lg [] rfl (by simp [zai]) ?_
      refine zab rfl (fun h => ?_) (fun h => by simp at h)
      refine ld [] rfl (by simp) ?_
      refine zcq 6 7 rfl ?_
      exact zae (ih (k + 1, S1) (by simp only; omega) (.inr ⟨by simp only; omega, q2⟩)) ⟨zcr (w64 (by simp only; omega) (by simp only; omega)), rfl, rfl, trivial⟩ ⟨rfl, rfl, rfl, rfl, trivial⟩ rfl
    · refine zar (fr := [7]) [(1, 1), (2, 2), (3, 3), (6, 4)] [(5, 7)] rfl (by simp) (hcall 1 _ false S' (by omega) (by rw [hk]) q2) ⟨⟨rfl, rfl, rfl⟩, ⟨rfl, rfl, rfl⟩, ⟨rfl, rfl, rfl⟩, ⟨rfl, rfl, rfl⟩, trivial⟩ rfl rfl rfl rfl ?_
      refine lg [] rfl (by simp [zai]) ?_
      refine zab rfl (fun h => by simp at h) (fun h => ?_)
      refine za2 rfl ?_
      refine zbt (ids' := []) 7 5 rfl rfl ?_
      exact zb0 ⟨[], rfl, rfl, rfl, rfl, trivial⟩
  · refine zar (fr := [7]) [(1, 1), (2, 2), (3, 3), (6, 4)] [(5, 7)] rfl (by simp) (hcall 2 _ false S' (by omega) (by rw [hk]) hi) ⟨⟨rfl, rfl, rfl⟩, ⟨rfl, rfl, rfl⟩, ⟨rfl, rfl, rfl⟩, ⟨rfl, rfl, rfl⟩, trivial⟩ rfl rfl rfl rfl ?_
    refine lg [] rfl (by simp [zai]) ?_
    refine zab rfl (fun h => by simp at h) (fun h => ?_)
    refine za2 rfl ?_
    refine zbt (ids' := []) 7 5 rfl rfl ?_
    exact zb0 ⟨[], rfl, rfl, rfl, rfl, trivial⟩
set_option maxRecDepth 100000 in
theorem yck : zax Tryz.prog 58 [] (.fn (.func 92)) := by
  refine zaf zii Tryz.func58 (by decide +kernel) rfl [] rfl rfl ?_
  refine lg [] rfl (by simp [zai]) ?_
  exact zaa ⟨_, rfl, tV rfl, trivial⟩
def zlj (l : List Str) (s : Str) : List Str := if zbp l s then l else l ++ [s]
theorem zlp (l : List Str) (s : Str) : zv0 (zem l) (.str s) (.bool true) = zem (zlj l s) := by
  unfold zlj
  by_cases h : zbp l s = true
  · rw [if_pos h]
    induction l with
    | nil => simp [zbp] at h
    | cons x r ih =>
      simp only [zbp, Bool.or_eq_true] at h
      simp only [zem, List.map_cons, zv0, eqK]
      by_cases hx : s = x
      · subst hx; simp
      · have h2 : zbp r s = true := by
          rcases h with h | h
          · exact absurd (by simpa using h) (fun e : x = s => hx e.symm)
          · exact h
        have := ih h2
        simp only [zem] at this
        simp [hx, this]
  · rw [if_neg h]
    exact zui l s (by simpa using h)
theorem zu5 (l m : List Str) (x : Str) : zbp (l ++ m) x = (zbp l x || zbp m x) := by
  induction l with
  | nil => simp [zbp]
  | cons y r ih => simp [zbp, ih, Bool.or_assoc]
theorem ybw (l : List Str) (s x : Str) : zbp (zlj l s) x = zbp (l ++ [s]) x := by
  unfold zlj
  by_cases h : zbp l s = true
  · rw [if_pos h, zu5]
    by_cases hx : s = x
    · subst hx; rw [h]; rfl
    · simp [zbp, hx]
  · rw [if_neg h]
theorem zrb {P : Program} {n : Nat} {F : List Nat} {Q : DQ} {env : Env} {st : St} {ids : List Nat} {todo : List DI} (t : Nat) {f : Fn} (he : lk env t = some (.imm (.fn f))) (h : DGo P n F Q todo ((t, .fn f [] []) :: env) st ids) : DGo P n F Q todo env st ids := by
  intro b cs I μ a w items hd hc
  refine h b cs I μ a w items hd { hc with env := fun t' d hl => ?_ }
  by_cases ht : t = t'
  · subst ht
    rw [zaj] at hl; cases hl
    rw [(hc.env t _ he).immInv.fnInv]
    exact .fn _ #[] #[] [] [] rfl rfl (fun i v d h => by simp at h) (fun i v d h => by simp at h)
  · rw [zam _ _ ht] at hl; exact hc.env t' d hl
theorem Yields.pre {P : Program} {l : List D} {d : D} {m : List D} {S S' : Bun} (h : ∀ x ∈ l, yal P [x] S true S) (h1 : yal P [d] S false S') : Yields P (l ++ d :: m) S false S' := by
  induction l with
  | nil => exact .stop h1
  | cons x r ih => exact .cons (h x (by simp)) (ih fun y hy => h y (by simp [hy]))
def stF (met : List Str) (s : Str) : St := [(1, some (.immb 9 1 [.str s])), (2, some (.map (zem met))), (3, some (.cells 61 1 [.mapr 2]))]
def yft : Code → Option (Code × Code)
  | .rangeFunc _ _ a b => some (a, b)
  | .seq x y => match yft x with
    | some r => some r
    | none => yft y
  | .block _ c => yft c
  | _ => none
def ylh (f : Func) : Code := match yft (zh9 f 0) with
  | some (a, _) => a
  | none => .skip
def yfs (f : Func) : Code := match yft (zh9 f 0) with
  | some (_, b) => b
  | none => .skip
def zdo (l : List Str) (s : Str) : Bool := zcj s && !zbp l s
set_option maxRecDepth 100000 in
theorem yk5 (met : List Str) (u : Str) (hu : zdo met u = false) {L : znp} (h1 : Tryz.prog.funcs[L.fn]?.isSome) (h2 : L.tmps.size = Tryz.f34.ntmps) (h3 : L.ps = #[18]) (h4 : L.asg = ylh Tryz.f34)
    (h5 : L.body = yfs Tryz.f34) (h6 : L.E = [(2, .ref 1 0), (3, .ref 3 0)]) (h7 : L.F = []) : yal Tryz.prog [.imm (.str u)] (zdl L (stF met []) none) true (zdl L (stF met []) none) := by
  obtain ⟨fc, hf⟩ := Option.isSome_iff_exists.1 h1
  refine zne (pend := none) (d := .imm (.str u)) (ids := [7, 8]) (t := 6) (p := 18) hf h3 (h4.trans rfl) h2 rfl rfl rfl rfl (by decide) (by decide) ?_ ?_
  · rw [h6, h7]
    refine ⟨by decide, ?_⟩
    simp [stF, nmE, nmD, ze1, nmB, nmL]
  · rw [h5, h6, h7]
    refine ld [] rfl (by simp [zai]) ?_
    refine zac rfl (fun _ => zff u) (by simp [zai]) ?_
    refine lg [] rfl (by simp [zai]) ?_
    refine zm8 zii 2 rfl rfl rfl (zc0 met) (by simp [zai]) (z := .bool false) rfl (fun _ => .bool _) (zgv met u) ?_
    refine lg [] rfl (by simp [zai]) ?_
    have hu' : (zcj u && !zbp met u) = false := hu
    refine zab rfl (fun h => ?_) (fun h => ?_)
    · exfalso
      cases hn : zcj u <;> cases hh : zbp met u <;> simp [hn, hh] at h hu'
    · refine ld [] rfl (by simp [zai]) ?_
      refine zb0 (?_ : zku _ (stF met []))
      exact ⟨rfl, rfl, rfl, trivial⟩
set_option maxRecDepth 100000 in
theorem yeo (met : List Str) (u : Str) (hu : zdo met u = true) {L : znp} (h1 : Tryz.prog.funcs[L.fn]?.isSome) (h2 : L.tmps.size = Tryz.f34.ntmps) (h3 : L.ps = #[18]) (h4 : L.asg = ylh Tryz.f34)
    (h5 : L.body = yfs Tryz.f34) (h6 : L.E = [(2, .ref 1 0), (3, .ref 3 0)]) (h7 : L.F = []) : yal Tryz.prog [.imm (.str u)] (zdl L (stF met []) none) false (zdl L (stF met u) (some .ret)) := by
  obtain ⟨fc, hf⟩ := Option.isSome_iff_exists.1 h1
  refine zne (pend := some .ret) (d := .imm (.str u)) (ids := [7, 8]) (t := 6) (p := 18) hf h3 (h4.trans rfl) h2 rfl rfl rfl rfl (by decide) (by decide) ?_ ?_
  · rw [h6, h7]
    refine ⟨by decide, ?_⟩
    simp [stF, nmE, nmD, ze1, nmB, nmL]
  · rw [h5, h6, h7]
    refine ld [] rfl (by simp [zai]) ?_
    refine zac rfl (fun _ => zff u) (by simp [zai]) ?_
    refine lg [] rfl (by simp [zai]) ?_
    refine zm8 zii 2 rfl rfl rfl (zc0 met) (by simp [zai]) (z := .bool false) rfl (fun _ => .bool _) (zgv met u) ?_
    refine lg [] rfl (by simp [zai]) ?_
    have hu' : (zcj u && !zbp met u) = true := hu
    refine zab rfl (fun h => ?_) (fun h => ?_)
    · refine ld [] rfl (by simp [zai]) ?_
      refine zaa (?_ : zku _ (stF met u))
      exact ⟨rfl, rfl, rfl, trivial⟩
    · exfalso
      cases hn : zcj u <;> cases hh : zbp met u <;> simp [hn, hh] at h hu'
set_option maxRecDepth 100000 in
theorem yk6 (l : List Str) (s : Str) (pre post : List Str) (hl : l.length ≤ 1000000) (hsp : zgi 1 [] ++ zgi 2 [] = pre ++ s :: post) (hpre : ∀ x ∈ pre, zdo l x = false) (hs : zdo l s = true) :
    zax Tryz.prog 34 [.sl (zbu l)] (.str s) := by
  refine zaf zii Tryz.func34 (by decide +kernel) rfl [1, 2, 3, 4, 7, 8] rfl rfl ?_
  refine lg [] rfl (by simp [zai]) ?_
  refine zi8 rfl ?_
  refine lg [] rfl (by simp [zai]) ?_
  refine zak (fun y : Nat × List Str => [(10, .imm (.int .i64 y.1)), (9, .imm (.int .i64 l.length)), (8, .imm (.sl (zbu l))), (2, .ref 1 0), (3, .ref 3 0)]) (fun y => stF y.2 []) [7, 8] (fun y => l.length - y.1)
    (fun y => y.1 ≤ l.length ∧ ∀ x, zbp y.2 x = zbp (l.take y.1) x) (0, []) ⟨Nat.zero_le _, fun _ => rfl⟩ ⟨rfl, zcr (by simp), rfl, rfl, rfl, trivial⟩ ⟨rfl, rfl, rfl, trivial⟩ rfl fun y hi ih => ?_
  obtain ⟨i, met⟩ := y
  obtain ⟨hi1, hi2⟩ := hi
  simp only at hi1 hi2
  refine ld [] rfl (by simp [zai]) ?_
  refine zab rfl (fun h => ?_) (fun h => ?_)
  · simp at h
    obtain ⟨x, hx⟩ := zal h
    refine ld [] rfl (by simp) ?_
    refine li rfl (c := [.str x]) (fun _ => ⟨by simp, by simpa using zdh hx, rfl⟩) (by simp) ?_
    refine lg [] rfl (by simp) ?_
    refine zoa zii rfl rfl rfl (zc0 met) ?_
    refine lg [] rfl (by simp) ?_
    rw [zlp]
    exact zae (ih (i + 1, zlj met x) (by simp only; omega) ⟨by simp only; omega, fun y => by simp only; rw [ybw, zu5, hi2 y, zb7 hx, zu5]⟩) ⟨zcr (w64 (by simp only; omega) (by simp only; omega)), rfl, rfl, rfl, rfl, trivial⟩ ⟨rfl, rfl, rfl, trivial⟩ rfl
  · simp at h
    have hi3 : ∀ x, zdo met x = zdo l x := fun x => by
      have := hi2 x
      rw [List.take_of_length_le (by omega)] at this
      simp only [zdo, this]
    refine za2 rfl ?_
    refine ld [] rfl (by simp) ?_
    refine zac rfl (fun _ => yck) (by simp) ?_
    refine ld [] rfl (by simp) ?_
    refine zrb 17 rfl ?_
    refine zdq (y := 3) (j := 4) (j2 := 5) (stc := []) (stc' := []) (stx := stF met []) (stB := stF met s) (pend := some .ret) (E := [(2, .ref 1 0), (3, .ref 3 0)]) (ids' := [7, 8, 9]) (d := .tup []) rfl Tryz.func92 (by decide +kernel) rfl (by decide) ⟨rfl, rfl, trivial⟩
      (zb4 ⟨rfl, rfl, rfl, trivial⟩) (fun L h1 h2 h3 h4 h5 h6 h7 => zyx ?_) ?_ ?_ ?_ ?_ ?_
    · rw [hsp, yh1]
      refine Yields.pre (fun x hx => ?_) (yeo met s (by rw [hi3]; exact hs) h1 h2 h3 h4 h5 h6 h7)
      obtain ⟨u, hu, rfl⟩ := List.mem_map.1 hx
      exact yk5 met u (by rw [hi3]; exact hpre u hu) h1 h2 h3 h4 h5 h6 h7
    · simp [nms]
    · simp [nms]
    · intro i hi
      have e : nmL (([] : List D) ++ []) = [] := rfl
      rw [e] at hi
      simp [ze1] at hi
    · refine ⟨by decide, ?_⟩
      simp [stF, nmE, nmD, ze1, nmB, nmL, nms]
    · exact zaa ⟨_, rfl, tV rfl, trivial⟩
end Go.Hk

/- Contracts of term: the names that a term binds in a part (bound, list). -/
namespace Go.Hk
open Go.Proofs
def yef (t : Tm) : St := [(6, some (.cells 91 1 [.ip 26 (dTmc t) 0]))]
def zb2 (op kid : Int) : Bool := op == 5 || op == 27 || (op == 7 && kid == 1)
set_option maxRecDepth 100000 in
theorem zt0 (op n : Int) (x : Str) (ks : List Tm) (ps : List Ty) (kid : Int) (h : zb2 op kid = true) :
    zc5 Tryz.prog 67 [.ip 26 (dTmc (.mk op n x ks ps)) 0, .imm (.int .i64 kid)] [] (.ret (.fn (.func 97) [] [.ref 6 0]) (yef (.mk op n x ks ps))) := by
  refine zaf zbs Tryz.func67 (by decide +kernel) rfl [6] rfl rfl ?_
  refine ng [] rfl (by simp [zai]) ?_
  have h' : (op == 5 || op == 27 || (op == 7 && kid == 1)) = true := h
  refine zab rfl (fun h1 => ?_) (fun h1 => ?_)
  · refine nd [] rfl (by simp [zai]) ?_
    refine zab rfl (fun _ => ?_) (fun h2 => by rw [h1] at h2; cases h2)
    refine nd [] rfl (by simp [zai]) ?_
    exact zaa ⟨_, rfl, rfl, rfl, trivial⟩
  · refine nd [] rfl (by simp [zai]) ?_
    refine zab rfl (fun h2 => ?_) (fun h2 => ?_)
    · refine nd [] rfl (by simp [zai]) ?_
      refine zab rfl (fun _ => ?_) (fun h3 => by rw [h2] at h3; cases h3)
      refine nd [] rfl (by simp [zai]) ?_
      exact zaa ⟨_, rfl, rfl, rfl, trivial⟩
    · refine nd [] rfl (by simp [zai]) ?_
      refine zab rfl (fun _ => ?_) (fun h3 => ?_)
      · refine nd [] rfl (by simp [zai]) ?_
        exact zaa ⟨_, rfl, rfl, rfl, trivial⟩
      · exfalso
        rw [h1, h2] at h'
        cases e1 : (op == 7) <;> cases e2 : (kid == 1) <;> simp [e1, e2] at h' h3
def zci (op kid : Int) : Bool := op == 15 && decide (0 < kid)
set_option maxRecDepth 100000 in
theorem zyk (op n : Int) (x : Str) (ks : List Tm) (ps : List Ty) (kid : Int) (h : zb2 op kid = false) (h2 : zci op kid = true) (p : Ty) (hp : ps[(kid - 1).toNat]? = some p) (hk : kid ≤ 1000000) :
    zc5 Tryz.prog 67 [.ip 26 (dTmc (.mk op n x ks ps)) 0, .imm (.int .i64 kid)] [] (.ret (.fn (.func 113) [] [.ref 6 0]) (ycd p)) := by
  refine zaf zbs Tryz.func67 (by decide +kernel) rfl [7, 6] rfl rfl ?_
  refine ng [] rfl (by simp [zai]) ?_
  have h' : (op == 5 || op == 27 || (op == 7 && kid == 1)) = false := h
  have h2' : (op == 15 && decide (0 < kid)) = true := h2
  simp only [Bool.or_eq_false_iff] at h'
  obtain ⟨⟨e1, e2⟩, e3⟩ := h'
  simp only [Bool.and_eq_true, decide_eq_true_eq] at h2'
  refine zab rfl (fun h1 => by rw [e1] at h1; cases h1) (fun h1 => ?_)
  refine nd [] rfl (by simp [zai]) ?_
  refine zab rfl (fun h1 => by rw [e2] at h1; cases h1) (fun h1 => ?_)
  refine nd [] rfl (by simp [zai]) ?_
  refine zab rfl (fun h3 => ?_) (fun h3 => ?_)
  · exfalso
    cases q1 : (op == 7) <;> cases q2 : (kid == 1) <;> simp [q1, q2] at e3 h3
  refine nd [] rfl (by simp [zai]) ?_
  refine zab rfl (fun h4 => ?_) (fun h4 => by simp [h2'.1, h2'.2] at h4)
  refine nd [] rfl (by simp [zai]) ?_
  refine ni rfl (c := zb5 p) (fun _ => ⟨by rw [w64 (by omega) (by omega)]; omega, by rw [w64 (by omega) (by omega)]; exact zb8 hp, by simp⟩) (by simp) ?_
  refine ng [] rfl (by simp [zai]) ?_
  refine zar (st0 := []) (fr := [6]) [] [(6, 6)] rfl (by simp) (yjt p) trivial rfl rfl rfl rfl ?_
  refine ng [] rfl (by simp [zai]) ?_
  exact zaa ⟨_, rfl, rfl, rfl, trivial⟩
set_option maxRecDepth 100000 in
theorem zt1 (op n : Int) (x : Str) (ks : List Tm) (ps : List Ty) (kid : Int) (h : zb2 op kid = false) (h2 : zci op kid = false) :
    zc5 Tryz.prog 67 [.ip 26 (dTmc (.mk op n x ks ps)) 0, .imm (.int .i64 kid)] [] (.ret (.imm (.fn (.func 99))) []) := by
  refine zaf zbs Tryz.func67 (by decide +kernel) rfl [7, 6] rfl rfl ?_
  refine ng [] rfl (by simp [zai]) ?_
  have h' : (op == 5 || op == 27 || (op == 7 && kid == 1)) = false := h
  have h2' : (op == 15 && decide (0 < kid)) = false := h2
  simp only [Bool.or_eq_false_iff] at h'
  obtain ⟨⟨e1, e2⟩, e3⟩ := h'
  refine zab rfl (fun h1 => by rw [e1] at h1; cases h1) (fun h1 => ?_)
  refine nd [] rfl (by simp [zai]) ?_
  refine zab rfl (fun h1 => by rw [e2] at h1; cases h1) (fun h1 => ?_)
  refine nd [] rfl (by simp [zai]) ?_
  refine zab rfl (fun h3 => ?_) (fun h3 => ?_)
  · exfalso
    cases q1 : (op == 7) <;> cases q2 : (kid == 1) <;> simp [q1, q2] at e3 h3
  refine nd [] rfl (by simp [zai]) ?_
  refine zab rfl (fun h4 => ?_) (fun h4 => ?_)
  · exfalso
    cases q1 : (op == 15) <;> cases q2 : decide (0 < kid) <;> simp [q1, q2] at h2' h4 <;> simp_all
  refine nd [] rfl (by simp [zai]) ?_
  exact zaa ⟨_, rfl, tV rfl, trivial⟩
set_option maxRecDepth 100000 in
theorem zyl (t : Tm) {r : Bool} {S S' : Bun} (hY : Yields Tryz.prog [.ip 26 (dTmc t) 2] S r S') :
    zc5 Tryz.prog 97 [.yld 3, .ref 6 0] ((3, some .pin) :: (4, some (.bun 3 S)) :: yef t) (.ret (.tup []) ((3, some .pin) :: (5, some (.bun 3 S')) :: yef t)) := by
  obtain ⟨op, n, x, ks, ps⟩ := t
  refine zaf zbs Tryz.func97 (by decide +kernel) rfl [7, 5] rfl rfl ?_
  refine ng [] rfl (by simp [zai]) ?_
  cases hY with
  | cons h h1 =>
    obtain ⟨rfl, rfl⟩ := h1.nilInv
    refine zi7 (j := 4) (j2 := 7) rfl (by simp [zai]) trivial h rfl rfl rfl rfl rfl ?_
    refine ng [] rfl (by simp [zai]) ?_
    refine zbt (ids' := []) 7 5 rfl rfl ?_
    exact zb0 ⟨[], rfl, rfl, rfl, rfl, rfl, trivial⟩
  | stop h =>
    refine zi7 (j := 4) (j2 := 7) rfl (by simp [zai]) trivial h rfl rfl rfl rfl rfl ?_
    refine ng [] rfl (by simp [zai]) ?_
    refine zbt (ids' := []) 7 5 rfl rfl ?_
    exact zb0 ⟨[], rfl, rfl, rfl, rfl, rfl, trivial⟩
set_option maxRecDepth 100000 in
theorem zml {S : Bun} : zc5 Tryz.prog 99 [.yld 3] [(3, some .pin), (4, some (.bun 3 S))] (.ret (.tup []) [(3, some .pin), (5, some (.bun 3 S))]) := by
  refine zaf zbs Tryz.func99 (by decide +kernel) rfl [7, 5] rfl rfl ?_
  refine ng [] rfl (by simp [zai]) ?_
  refine zbt (ids' := []) 4 5 rfl rfl ?_
  exact zb0 ⟨[], rfl, rfl, rfl, rfl, trivial⟩
def stL (l : List Str) : Nat → St
  | 0 => [(1, some (.cells 36 1 [.nils]))]
  | k + 1 => [(1, some (.cells 36 1 [.own 4 (zbu (l.take (k + 1))).length])), (4, some (.row 9 1 (zbu (l.take (k + 1)))))]
set_option maxRecDepth 100000 in
theorem zqh (l : List Str) (hlen : l.length ≤ 1000000) (i : Nat) (u : Tm) (hu : l[i]? = some (match u with | .mk _ _ x _ _ => x)) {L : znp} (h1 : Tryz.prog.funcs[L.fn]?.isSome) (h2 : L.tmps.size = Tryz.f65.ntmps) (h3 : L.ps = #[10]) (h4 : L.asg = rfAsg Tryz.f65)
    (h5 : L.body = ylf Tryz.f65) (h6 : L.E = [(5, .ref 1 0)]) (h7 : L.F = []) : yal Tryz.prog [.ip 26 (dTmc u) 2] (zdl L (stL l i) none) true (zdl L (stL l (i + 1)) none) := by
  obtain ⟨fc, hf⟩ := Option.isSome_iff_exists.1 h1
  obtain ⟨fs, fm, x, ks, ps⟩ := u
  have hlt : i < l.length := (List.getElem?_eq_some_iff.1 hu).1
  refine zne (pend := none) (d := .ip 26 (dTmc (.mk fs fm x ks ps)) 2) (ids := [7, 8]) (t := 6) (p := 10) hf h3 (h4.trans rfl) h2 rfl rfl rfl rfl (by decide) (by decide) ?_ ?_
  · rw [h6, h7]
    cases i <;> refine ⟨by decide, ?_⟩ <;> simp [stL, nmE, nmD, ze1, nmB, nmL]
  · rw [h5, h6, h7]
    cases i with
    | zero =>
      refine nd [] rfl (by simp [zai]) ?_
      refine zez zbs rfl ⟨by simp, by simp [maxLen], by simp, trivial⟩ ?_
      refine ng [] rfl (by simp [zai]; rfl) ?_
      refine zcq 4 7 rfl ?_
      refine zb0 (?_ : zku _ (stL l (0 + 1)))
      have e : zbu (l.take (0 + 1)) = [] ++ [[.str x]] := by
        rw [zb7 hu]; rfl
      simp only [stL, e]
      exact ⟨rfl, rfl, trivial⟩
    | succ i =>
      refine nd [] rfl (by simp [zai]) ?_
      refine zez zbs rfl ⟨by simp, by simp [maxLen]; omega, by simp; omega, trivial⟩ ?_
      refine ng [] rfl (by simp [zai]; rfl) ?_
      refine zcq 4 7 rfl ?_
      refine zb0 (?_ : zku _ (stL l (i + 1 + 1)))
      have e : zbu (l.take (i + 1 + 1)) = zbu (l.take (i + 1)) ++ [[.str x]] := by
        rw [zb7 hu, zhz]; rfl
      simp only [stL, e]
      exact ⟨by simp only [List.length_append]; rfl, rfl, trivial⟩
set_option maxRecDepth 100000 in
theorem zqi (l : List Str) (hlen : l.length ≤ 1000000) (i : Nat) (u : Ty) (hu : l[i]? = some (zij u)) {L : znp} (h1 : Tryz.prog.funcs[L.fn]?.isSome) (h2 : L.tmps.size = Tryz.f65.ntmps) (h3 : L.ps = #[10]) (h4 : L.asg = rfAsg Tryz.f65)
    (h5 : L.body = ylf Tryz.f65) (h6 : L.E = [(5, .ref 1 0)]) (h7 : L.F = []) : yal Tryz.prog [.ip 58 (zb5 u) 2] (zdl L (stL l i) none) true (zdl L (stL l (i + 1)) none) := by
  obtain ⟨fc, hf⟩ := Option.isSome_iff_exists.1 h1
  obtain ⟨fs, fm, x, ps⟩ := u
  have hlt : i < l.length := (List.getElem?_eq_some_iff.1 hu).1
  refine zne (pend := none) (d := .ip 58 (zb5 (.mk fs fm x ps)) 2) (ids := [7, 8]) (t := 6) (p := 10) hf h3 (h4.trans rfl) h2 rfl rfl rfl rfl (by decide) (by decide) ?_ ?_
  · rw [h6, h7]
    cases i <;> refine ⟨by decide, ?_⟩ <;> simp [stL, nmE, nmD, ze1, nmB, nmL]
  · rw [h5, h6, h7]
    cases i with
    | zero =>
      refine nd [] rfl (by simp [zai]) ?_
      refine zez zbs rfl ⟨by simp, by simp [maxLen], by simp, trivial⟩ ?_
      refine ng [] rfl (by simp [zai]; rfl) ?_
      refine zcq 4 7 rfl ?_
      refine zb0 (?_ : zku _ (stL l (0 + 1)))
      have e : zbu (l.take (0 + 1)) = [] ++ [[.str x]] := by
        rw [zb7 hu]; rfl
      simp only [stL, e]
      exact ⟨rfl, rfl, trivial⟩
    | succ i =>
      refine nd [] rfl (by simp [zai]) ?_
      refine zez zbs rfl ⟨by simp, by simp [maxLen]; omega, by simp; omega, trivial⟩ ?_
      refine ng [] rfl (by simp [zai]; rfl) ?_
      refine zcq 4 7 rfl ?_
      refine zb0 (?_ : zku _ (stL l (i + 1 + 1)))
      have e : zbu (l.take (i + 1 + 1)) = zbu (l.take (i + 1)) ++ [[.str x]] := by
        rw [zb7 hu, zhz]; rfl
      simp only [stL, e]
      exact ⟨by simp only [List.length_append]; rfl, rfl, trivial⟩
set_option maxRecDepth 100000 in
theorem zqg (l : List Str) : DGo Tryz.prog Tryz.f65.ntmps [] (yex ttN Tryz.f65.results.toList (.ret (.imm (.sl (zbu l))) [])) [.inBlock 0, .code (zh9 Tryz.f65 3)] [(5, .ref 1 0)] (stL l l.length) [7, 8, 9] := by
  cases l with
  | nil =>
    refine nd [] rfl (by simp [zai]) ?_
    exact zaa ⟨_, rfl, tV rfl, trivial⟩
  | cons x r =>
    have e : zbu ((x :: r).take ((x :: r).length)) = zbu (x :: r) := by rw [List.take_of_length_le (Nat.le_refl _)]
    have e2 : stL (x :: r) (x :: r).length = [(1, some (.cells 36 1 [.own 4 (zbu (x :: r)).length])), (4, some (.row 9 1 (zbu (x :: r))))] := by
      simp only [List.length_cons, stL] at e ⊢
      rw [e]
    rw [e2]
    refine znh 4 rfl ?_
    refine nd [] rfl (by simp [zai]) ?_
    exact zaa ⟨_, rfl, tV rfl, trivial⟩
def zad : Tm → Int → List Str
  | .mk op _ x _ ps, kid => if zb2 op kid then [x] else if zci op kid then (match ps[(kid - 1).toNat]? with | some p => za8 p | none => []) else []
set_option maxRecDepth 100000 in
theorem ygs (op n : Int) (x : Str) (ks : List Tm) (ps : List Ty) (kid : Int) (hk : kid ≤ 1000000) (hp : zb2 op kid = false → zci op kid = true → ∃ p, ps[(kid - 1).toNat]? = some p ∧ (za8 p).length ≤ 1000000) :
    zax Tryz.prog 65 [.ip 26 (dTmc (.mk op n x ks ps)) 0, .int .i64 kid] (.sl (zbu (zad (.mk op n x ks ps) kid))) := by
  refine zaf zbs Tryz.func65 (by decide +kernel) rfl [1, 6, 7, 8, 9] rfl rfl ?_
  refine zz4 0 rfl ?_
  refine nd [] rfl (by simp [zai]) ?_
  cases h : zb2 op kid with
  | true =>
    have e : zad (.mk op n x ks ps) kid = [x] := by simp [zad, h]
    rw [e]
    refine zar (st0 := []) (fr := [6]) [] [(6, 6)] rfl (by simp) (zt0 op n x ks ps kid h) trivial rfl rfl rfl rfl ?_
    refine nd [] rfl (by simp [zai]) ?_
    refine zdq (y := 3) (j := 4) (j2 := 5) (stc := yef (.mk op n x ks ps)) (stc' := yef (.mk op n x ks ps)) (stx := stL [x] 0) (stB := stL [x] 1) (pend := none) (E := [(5, .ref 1 0)]) (ids' := [7, 8, 9]) (d := .tup []) rfl Tryz.func97 (by decide +kernel) rfl (by decide) ⟨rfl, trivial⟩
      (zb4 ⟨rfl, rfl, trivial⟩) (fun L h1 h2 h3 h4 h5 h6 h7 => zyl (r := true) (.mk op n x ks ps) (.cons (zqh [x] (by simp) 0 (.mk op n x ks ps) rfl h1 h2 h3 h4 h5 h6 h7) (.nil _))) ?_ ?_ ?_ ?_ (zqg [x])
    · simp [yef, stL, nms]
    · simp [yef, nms]
    · intro i hi
      have e : nmL (zlh (zie (zbq [] ++ [(6, 6)])) [] ++ zlh (zie (zbq [] ++ [(6, 6)])) [.ref 6 0]) = [6] := rfl
      rw [e] at hi
      simpa [yef, nms, ze1, nmB, nmL, nmD] using hi
    · refine ⟨by decide, ?_⟩
      simp [stL, nmE, nmD, ze1, nmB, nmL, nms]
  | false =>
    cases h2 : zci op kid with
    | true =>
      obtain ⟨p, hp1, hp2⟩ := hp h h2
      have e : zad (.mk op n x ks ps) kid = za8 p := by
        show (if zb2 op kid then [x] else if zci op kid then (match ps[(kid - 1).toNat]? with | some p => za8 p | none => []) else []) = za8 p
        rw [h, h2, hp1]
        rfl
      rw [e]
      refine zar (st0 := []) (fr := [6]) [] [(6, 6)] rfl (by simp) (zyk op n x ks ps kid h h2 p hp1 hk) trivial rfl rfl rfl rfl ?_
      refine nd [] rfl (by simp [zai]) ?_
      refine zdq (y := 3) (j := 4) (j2 := 5) (stc := ycd p) (stc' := ycd p) (stx := stL (za8 p) 0) (stB := stL (za8 p) (za8 p).length) (pend := none) (E := [(5, .ref 1 0)]) (ids' := [7, 8, 9]) (d := .tup []) rfl Tryz.func113 (by decide +kernel) rfl (by decide) ⟨rfl, trivial⟩
        (zb4 ⟨rfl, rfl, trivial⟩) (fun L h1 h2 h3 h4 h5 h6 h7 => zxk (b := true) p ?_) ?_ ?_ ?_ ?_ (zqg (za8 p))
      · have := Yields.all (P := Tryz.prog) (l := zh7 p) (fun i => zdl L (stL (za8 p) i) none) fun i d hi => by
          rw [ziw, List.getElem?_map] at hi
          cases hu : (zc6 p)[i]? with
          | none => rw [hu] at hi; cases hi
          | some u =>
            rw [hu] at hi
            cases hi
            exact zqi (za8 p) hp2 i u (by simp [za8, hu]) h1 h2 h3 h4 h5 h6 h7
        have hl : (zh7 p).length = (za8 p).length := by simp [ziw, za8]
        rw [hl] at this
        exact this
      · cases (za8 p).length <;> simp [ycd, stL, nms]
      · simp [ycd, nms]
      · intro i hi
        have e : nmL (zlh (zie (zbq [] ++ [(6, 6)])) [] ++ zlh (zie (zbq [] ++ [(6, 6)])) [.ref 6 0]) = [6] := rfl
        rw [e] at hi
        simpa [ycd, nms, ze1, nmB, nmL, nmD] using hi
      · refine ⟨by decide, ?_⟩
        cases (za8 p).length <;> simp [stL, nmE, nmD, ze1, nmB, nmL, nms]
    | false =>
      have e : zad (.mk op n x ks ps) kid = [] := by simp [zad, h, h2]
      rw [e]
      refine zar (st0 := []) (fr := []) [] [] rfl (by simp) (zt1 op n x ks ps kid h h2) trivial rfl rfl rfl rfl ?_
      refine nd [] rfl (by simp [zai]) ?_
      refine zrb 9 rfl ?_
      refine zdq (y := 3) (j := 4) (j2 := 5) (stc := []) (stc' := []) (stx := stL [] 0) (stB := stL [] 0) (pend := none) (E := [(5, .ref 1 0)]) (ids' := [7, 8, 9]) (d := .tup []) rfl Tryz.func99 (by decide +kernel) rfl (by decide) ⟨rfl, trivial⟩
        (zb4 ⟨rfl, trivial⟩) (fun L h1 h2 h3 h4 h5 h6 h7 => zml) ?_ ?_ ?_ ?_ (zqg [])
      · simp [nms]
      · simp [nms]
      · intro i hi
        have e : nmL (([] : List D) ++ []) = [] := rfl
        rw [e] at hi
        simp [ze1] at hi
      · refine ⟨by decide, ?_⟩
        simp [stL, nmE, nmD, ze1, nmB, nmL, nms]
end Go.Hk

/- Contracts of term: scopes (zie, with), the names that are free in a term. -/
namespace Go.Hk
open Go.Proofs
def ttF : TT := ttN ++ [
  (86, ⟨.ptr 125, false, 1, 8, [.imm .nilp]⟩),
  (123, ⟨.struct [(0, 9), (1, 9)], true, 2, 32, [.imm (.str []), .imm (.str [])]⟩),
  (125, ⟨.struct [(0, 123), (2, 86)], true, 3, 40, [.imm (.str []), .imm (.str []), .imm .nilp]⟩)]
theorem zbl : TTok Tryz.prog ttF := .of_eq (l := [4, 3, 9, 26, 58, 22, 24, 5, 36, 23, 56, 29, 139, 83, 1, 61, 143, 128, 96, 94, 93, 126, 148, 91, 86, 123, 125]) (by kernel_rfl)
section
variable {n : Nat} {F : List Nat} {Q : DQ} {env env' : Env} {st st' : St} {ids ids' : List Nat} {k todo : List DI} {ob : List Prop}
theorem fd_ (path : List Pt) (h : run ttF n 300 path todo env st ids [] = .at k env' st' ids' ob) (hob : zbw ob) (hd : G Tryz.prog n F Q k env' st' ids') : DGo Tryz.prog n F Q todo env st ids := zrf zbl mixed 300 path h hob hd
theorem fg_ (path : List Pt) (h : run ttF n 300 path todo env st ids [] = .at k env' st' ids' ob) (hob : zbw ob) (hd : G Tryz.prog n F Q k env' st' ids') : G Tryz.prog n F Q todo env st ids := zqo zbl mixed 300 path h hob hd
theorem fi_ {es : List (List V)} {m : Int} {sz : Nat} {e : TypeId} {g : Option (Bool × Bool)} {ob : List Prop} {t : Nat} {todo' : List DI} {c : List V} (h : yio ttF n env todo = some ⟨es, m, sz, e, g, ob, some t, todo'⟩)
    (hc : zai g → 0 ≤ m ∧ es[m.toNat]? = some c ∧ c.length = sz) (hob : zbw ob) (hk : G Tryz.prog n F Q todo' ((t, gD g (.ip e c 0)) :: env) st ids) : G Tryz.prog n F Q todo env st ids := zeg zbl h hc hob hk
end
def zny : List Str → V
  | [] => .nilp
  | x :: r => .ip 125 [.str x, .str x, zny r] 0
set_option maxRecDepth 100000 in
theorem ymp (l : List Str) (s : Str) : zax Tryz.prog 63 [zny l, .str s] (.tup [.str (if zbp l s then s else []), .bool (zbp l s)]) := by
  refine zaf zbl Tryz.func63 (by decide +kernel) rfl [1] rfl rfl ?_
  refine fg_ [] rfl (by simp) ?_
  refine zak (fun r : List Str => [(0, .imm (zny r)), (1, .imm (.str s))]) (fun _ => []) [1] (fun r => r.length) (fun r => zbp l s = zbp r s) l rfl ⟨rfl, rfl, trivial⟩ trivial rfl fun r hi ih => ?_
  cases r with
  | nil =>
    refine fd_ [] rfl (by simp) ?_
    refine zab rfl (fun h => by simp at h) (fun h => ?_)
    refine za2 rfl ?_
    refine fd_ [] rfl (by simp) ?_
    refine zaa ⟨_, rfl, tV (congrArg _ ?_), trivial⟩
    rw [hi]
    rfl
  | cons x r =>
    refine zz4 0 rfl ?_
    refine fd_ [] rfl (by simp) ?_
    refine zab rfl (fun h => ?_) (fun h => by simp at h)
    refine fd_ [] rfl (by simp) ?_
    refine zab rfl (fun h2 => ?_) (fun h2 => ?_)
    · refine fd_ [] rfl (by simp) ?_
      refine zaa ⟨_, rfl, tV (congrArg _ ?_), trivial⟩
      have e : x = s := by simpa using h2
      subst e
      have : zbp l x = true := by rw [hi]; simp [zbp]
      rw [this]
      rfl
    · refine fd_ [] rfl (by simp) ?_
      have e : zbp (x :: r) s = zbp r s := by simp [zbp, h2]
      exact zae (ih r (by simp) (by rw [hi, e])) ⟨rfl, rfl, trivial⟩ trivial rfl
set_option maxRecDepth 100000 in
theorem yl1 (l ns : List Str) : zax Tryz.prog 64 [zny l, .sl (zbu ns)] (zny (ns.reverse ++ l)) := by
  refine zde fun hv => ?_
  have hlen : ns.length ≤ 9223372036854775807 := by
    simp [zks, vOk, maxLen] at hv; omega
  refine zaf zbl Tryz.func64 (by decide +kernel) rfl [1] rfl rfl ?_
  refine fg_ [] rfl (by simp) ?_
  refine zak (fun y : Nat × List Str => [(9, .imm (.int .i64 y.1)), (8, .imm (.int .i64 ns.length)), (7, .imm (.sl (zbu ns))), (0, .imm (zny y.2))]) (fun _ => []) [1] (fun y => ns.length - y.1) (fun y => y.1 ≤ ns.length ∧ y.2 = (ns.take y.1).reverse ++ l) (0, l)
    ⟨Nat.zero_le _, rfl⟩ ⟨rfl, zcr (by simp), rfl, rfl, trivial⟩ trivial rfl fun y hi ih => ?_
  obtain ⟨i, r⟩ := y
  obtain ⟨hi1, hi2⟩ := hi
  simp only at hi1 hi2
  refine fd_ [] rfl (by simp) ?_
  refine zab rfl (fun h => ?_) (fun h => ?_)
  · simp at h
    obtain ⟨x, hx⟩ := zal h
    have hnext : x :: r = (ns.take (i + 1)).reverse ++ l := by rw [zb7 hx, List.reverse_append, hi2]; rfl
    refine fd_ [] rfl (by simp) ?_
    refine fi_ rfl (c := [.str x]) (fun _ => ⟨by simp, by simpa using zdh hx, rfl⟩) (by simp) ?_
    cases r with
    | nil =>
      refine fg_ [] rfl (by simp) ?_
      refine zhv 0 rfl rfl ?_
      exact zae (ih (i + 1, [x]) (by simp only; omega) ⟨by simp only; omega, hnext⟩) ⟨zcr (w64 (by simp only; omega) (by simp only; omega)), rfl, rfl, rfl, trivial⟩ trivial rfl
    | cons y r =>
      refine fg_ [] rfl (by simp) ?_
      refine zhv 0 rfl rfl ?_
      exact zae (ih (i + 1, x :: y :: r) (by simp only; omega) ⟨by simp only; omega, hnext⟩) ⟨zcr (w64 (by simp only; omega) (by simp only; omega)), rfl, rfl, rfl, trivial⟩ trivial rfl
  · simp at h
    refine za2 rfl ?_
    refine fd_ [] rfl (by simp) ?_
    refine zaa ⟨_, rfl, tV ?_, trivial⟩
    rw [hi2, List.take_of_length_le (by omega)]
end Go.Hk

/- Rows that are zbx, by index: addresses of elements, loads, stores. -/
namespace Go.Hk
theorem zhe {α : Type} {sz f : Nat} {ys : List α} : ∀ (es : List (List α)) (k : Nat) (c : List α), (∀ e ∈ es, e.length = sz) → es[k]? = some c → f + ys.length ≤ sz →
    (es.set k (c.take f ++ ys ++ c.drop (f + ys.length))).flatten = es.flatten.take (k * sz + f) ++ ys ++ es.flatten.drop (k * sz + f + ys.length)
  | [], _, _, _, h, _ => by simp at h
  | e :: r, 0, c, hs, h, hf => by
    simp at h; subst h
    have he := hs e (by simp)
    simp only [List.set_cons_zero, List.flatten_cons, Nat.zero_mul, Nat.zero_add]
    rw [List.take_append_of_le_length (by omega), List.drop_append_of_le_length (by omega)]
    simp
  | e :: r, k + 1, c, hs, h, hf => by
    have he := hs e (by simp)
    have ih := zhe r k c (fun e h => hs e (by simp [h])) (by simpa using h) hf
    simp only [List.set_cons_succ, List.flatten_cons, ih]
    have e1 : (k + 1) * sz + f = e.length + (k * sz + f) := by rw [he, Nat.succ_mul]; omega
    rw [e1, Nat.add_assoc e.length, List.take_length_add_append, List.drop_length_add_append]
    simp
theorem RepVL.splice {I : Imm} {vs ns : List Value} {xs ys : List V} (h : RepVL I vs xs) (k : RepVL I ns ys) (off : Nat) : RepVL I (vs.take off ++ ns ++ vs.drop (off + ns.length)) (xs.take off ++ ys ++ xs.drop (off + ys.length)) := by
  have app : ∀ {a b : List Value} {x y : List V}, RepVL I a x → RepVL I b y → RepVL I (a ++ b) (x ++ y) := fun {a b x y} p q =>
    ⟨by simp [p.1, q.1], fun i v z h1 h2 => by
      rw [List.getElem?_append] at h1 h2
      by_cases hi : i < a.length
      · rw [if_pos hi] at h1; rw [if_pos (by rw [← p.1]; exact hi)] at h2; exact p.2 i v z h1 h2
      · rw [if_neg hi] at h1; rw [if_neg (by rw [← p.1]; exact hi), ← p.1] at h2; exact q.2 _ v z h1 h2⟩
  refine app (app ⟨by simp [h.1], fun i v z h1 h2 => ?_⟩ k) ⟨by simp [h.1, k.1], fun i v z h1 h2 => ?_⟩
  · rw [List.getElem?_take] at h1 h2
    by_cases hi : i < off
    · rw [if_pos hi] at h1 h2; exact h.2 i v z h1 h2
    · rw [if_neg hi] at h1; cases h1
  · rw [List.getElem?_drop] at h1 h2
    rw [k.1] at h1
    exact h.2 _ v z h1 h2
structure POi where
  id : Nat
  es : List (List V)
  m : Int
  sz : Nat
  g : Option (Bool × Bool)
  ob : List Prop
  t : Nat
  todo : List DI
def poidx (tt : TT) (n : Nat) (env : Env) (st : St) (todo : List DI) : Option POi :=
  match zce todo ([], []) with
  | some (all, o, _) => match o.op, zdw all env o with
    | .indexAddr t x i, some g => match lk tt t, yap (zai g) env x, yap (zai g) env i with
      | some { sh := .sl e, .. }, some (.own id _, o1), some (.imm (.int _ m), o2) => match lk tt e, lk st id, o.dst, zc2 n o.dst, zce todo ([id], []) with
        | some ti, some (some (.row _ sz es)), some t', true, some (_, _, todo') => match Nat.beq sz ti.size with
          | true => some ⟨id, es, m, sz, g, cat o1 o2, t', todo'⟩
          | false => none
        | _, _, _, _, _ => none
      | _, _, _ => none
    | _, _ => none
  | none => none
structure POl where
  id : Nat
  es : List (List V)
  k : Nat
  f : Nat
  sz : Nat
  i : TyI
  g : Option (Bool × Bool)
  ob : List Prop
  t : Nat
  todo : List DI
def ylm (tt : TT) (n : Nat) (env : Env) (st : St) (todo : List DI) : Option POl :=
  match zce todo ([], []) with
  | some (all, o, _) => match o.op, zdw all env o with
    | .load t x, some g => match lk tt t, yap (zai g) env x with
      | some i, some (.elp id k sz f, o1) => match lk st id, o.dst, zc2 n o.dst, zce todo ([id], []) with
        | some (some (.row _ sz' es)), some t', true, some (_, _, todo') => match Nat.beq sz sz' with
          | true => some ⟨id, es, k, f, sz, i, g, o1, t', todo'⟩
          | false => none
        | _, _, _, _ => none
      | _, _ => none
    | _, _ => none
  | none => none
structure POs where
  id : Nat
  e : TypeId
  es : List (List V)
  k : Nat
  f : Nat
  sz : Nat
  ys : List V
  n : Nat
  ob : List Prop
  todo : List DI
def yga (tt : TT) (env : Env) (st : St) (todo : List DI) : Option POs :=
  match zce todo ([], []) with
  | some (_, o, _) => match o.guard, o.dst, o.op with
    | none, none, .store t p x => match lk tt t, evO env p, evO env x with
      | some i, some (.elp id k sz f), some dx => match lk st id, zce todo ([id], [id]), elemOf i.size dx with
        | some (some (.row e sz' es)), some (_, _, todo'), some (ys, ob) => match Nat.beq sz sz' with
          | true => some ⟨id, e, es, k, f, sz, ys, i.size, ob, todo'⟩
          | false => none
        | _, _, _ => none
      | _, _, _ => none
    | _, _, _ => none
  | none => none
section
variable {P : Program} {n : Nat} {F : List Nat} {Q : DQ} {tt : TT} {env env' : Env} {st st' : St} {ids ids' : List Nat} {k todo todo' : List DI} {I : Imm} {μ : Mu} {w : World} {a : Act} {Pn : V → Prop} {d : D} {cx : Prop} {ob : List Prop}
theorem zm3 {f f' : List Nat × List Nat} {all all' : List Oper} {o o' : Oper} (h : zce todo f = some (all, o, k)) (h' : zce todo f' = some (all', o', todo')) : all' = all ∧ o' = o := by
  rcases zl2 h with ⟨r, q, rfl, _⟩ | ⟨r, fs, q, rfl, _⟩
  · simp [zce] at h'; exact ⟨h'.1.symm, h'.2.1.symm⟩
  · simp [zce] at h'; exact ⟨h'.1.symm, h'.2.1.symm⟩
theorem zw1 {id : Nat} {e : TypeId} {sz : Nat} {es : List (List V)} (hst : StRep I μ st ids w) (hl : zap st id (.row e sz es)) (hne : es ≠ []) :
    ∃ b cap cur, μ id = some (.slice (some ⟨b, 0, none⟩) es.length cap) ∧ w.heap[b]? = some (.cells cur e (0, 0)) ∧ es.length ≤ cap ∧ cap ≤ maxLen ∧ cur.size = cap * sz ∧
      RepVL I (cur.toList.take (es.length * sz)) es.flatten ∧ (∀ c ∈ es, c.length = sz) ∧ (∀ c ∈ es, ∀ x ∈ c, V.one x = true) ∧ 0 < sz := by
  obtain ⟨g, hg, xs, ⟨_, hown⟩, hrep, hsz, hone, hp⟩ := hst.blk id _ hl
  rcases hown with ⟨_, h0⟩ | ⟨b, cap, cur, rfl, _, h2, h3, h4, h5, h6⟩
  · exact absurd (List.eq_nil_of_length_eq_zero h0) hne
  · rw [← h6] at hrep
    exact ⟨b, cap, cur, hg, h2, h3, h4, h5, hrep, hsz, hone, hp⟩
theorem zjz (htt : TTok P tt) {c : POi} (h : poidx tt n env st todo = some c) (hc : zai c.g → 0 ≤ c.m ∧ c.m < c.es.length) (hob : zbw c.ob)
    (hk : G P n F Q c.todo ((c.t, gD c.g (.elp c.id c.m.toNat c.sz 0)) :: env) st ids) : G P n F Q todo env st ids := by
  unfold poidx at h
  split at h
  · rename_i all o todo0 h0
    split at h
    · rename_i t x i g hop hg
      split at h
      · rename_i e _ _ _ _ id ln o1 kk m o2 ht hx hi
        split at h
        · rename_i ti e' sz es t' all' o' todo' hti hl hdst hd h1
          split at h
          · rename_i hsz
            cases h
            obtain ⟨rfl, rfl⟩ := zm3 h0 h1
            have hk : G P n F Q todo' (zdz o'.dst (gD g (.elp id m.toNat sz 0)) env) st ids := by rw [hdst]; exact hk
            refine zcv (fr := []) (wr := []) (rd := [id]) h1 (zd7 hg fun I μ st1 ids1 a w hag hst hops hcx => ?_) (by rw [hdst] at hd ⊢; exact hd) (fun c hc => by rw [hop] at hc; cases hc) hk
            rw [hop] at hops
            obtain ⟨ho1, ho2⟩ := zbb hob
            have rx := zds hx ho1 hcx (hops x (by simp [Op.operands]))
            have ri := (zds hi ho2 hcx (hops i (by simp [Op.operands]))).immInv.intInv
            obtain ⟨c0, c1⟩ := hc hcx
            simp only at c0 c1
            have hl1 : zap st1 id (.row e' sz es) := by unfold zap; rw [hag id (by simp)]; exact hl
            obtain ⟨b, cap, cur, hmu, hheap, hcap, hcm, hcs, hrep, hlen, hone, hp⟩ := zw1 hst hl1 (by rintro rfl; simp at c1; omega)
            have hs := Nat.eq_of_beq_eq_true hsz
            subst hs
            have hu : P.underlying t = some (.slice e) := htt.sh ht
            simp only [execOp, hop, ri]
            generalize hv : a.eval x = v at rx
            cases rx with
            | own _ _ ad cp hm =>
              rw [hm] at hmu; cases hmu
              have hr := zqm (w := w) hu (htt e ti hti) (b := b) (off := 0) (len := es.length) (cap := cap) (kk := kk) c0 (by omega)
              have hrun : (do pure (.value (← Instr.indexAt t (.slice (some ⟨b, 0, none⟩) es.length cap) (.int kk m))) : Sem Next).run P w = .ok (.value (.pointer (some ⟨b, 0 + m.toNat * ti.size, none⟩))) w := zan hr
              rw [hrun, Nat.zero_add]
              exact ⟨I, μ, hst, .elp b id _ cap m.toNat ti.size 0 hm, Mu.le_refl μ, Ext.refl _ _ _ _⟩
          · cases h
        · cases h
      · cases h
    · cases h
  · cases h
theorem zzr (htt : TTok P tt) {c : POl} {e : List V} {d : D} (h : ylm tt n env st todo = some c) (hc : zai c.g → c.es[c.k]? = some e) (hd : zuz c.i (Nat.beq c.sz c.i.size) e c.f = some d) (hob : zbw c.ob)
    (hk : G P n F Q c.todo ((c.t, gD c.g d) :: env) st ids) : G P n F Q todo env st ids := by
  unfold ylm at h
  split at h
  · rename_i all o todo0 h0
    split at h
    · rename_i t x g hop hg
      split at h
      · rename_i i id kk sz f o1 ht hx
        split at h
        · rename_i e' sz' es t' all' o' todo' hl hdst hd' h1
          split at h
          · rename_i hsz
            cases h
            obtain ⟨rfl, rfl⟩ := zm3 h0 h1
            have hk : G P n F Q todo' (zdz o'.dst (gD g d) env) st ids := by rw [hdst]; exact hk
            refine zcv (fr := []) (wr := []) (rd := [id]) h1 (zd7 hg fun I μ st1 ids1 a w hag hst hops hcx => ?_) (by rw [hdst] at hd' ⊢; exact hd') (fun c hc => by rw [hop] at hc; cases hc) hk
            rw [hop] at hops
            have rx := zds hx hob hcx (hops x (by simp [Op.operands]))
            have c1 := hc hcx
            simp only at c1
            have hs := Nat.eq_of_beq_eq_true hsz
            subst hs
            have hl1 : zap st1 id (.row e' sz es) := by unfold zap; rw [hag id (by simp)]; exact hl
            obtain ⟨b, cap, cur, hmu, hheap, hcap, hcm, hcs, hrep, hlen, hone, hp⟩ := zw1 hst hl1 (by rintro rfl; simp at c1)
            have he := hlen e (List.mem_of_getElem? c1)
            simp only [execOp, hop]
            generalize hv : a.eval x = v at rx
            cases rx with
            | elp _ _ ln cp _ _ _ hm =>
              rw [hm] at hmu; cases hmu
              have hcell : ∀ j y, e[j]? = some y → ∃ u, cur[kk * sz + j]? = some u ∧ RepV I u y ∧ u.oneCell' = true := by
                intro j y hj
                have h1 := zdp hlen kk e j y c1 hj
                have hlt : kk * sz + j < (cur.toList.take (es.length * sz)).length := by rw [hrep.1]; exact (List.getElem?_eq_some_iff.1 h1).1
                have h2 := List.getElem?_eq_getElem hlt
                have h3 := hrep.2 _ _ _ h2 h1
                refine ⟨_, ?_, h3, h3.one (hone e (List.mem_of_getElem? c1) y (List.mem_of_getElem? hj))⟩
                rw [List.getElem?_take] at h2
                split at h2
                · simp
                · cases h2
              obtain ⟨u, q1, q2⟩ := zo1 (P := P) (w := w) (I := I) (μ := μ) (htt t i ht) (b := b) (o := kk * sz) (off := f) (xs := e) (vs := fun j => (cur[kk * sz + j]?).getD undef) (same := Nat.beq sz i.size)
                (fun j y hj => by
                  obtain ⟨u, k1, k2, k3⟩ := hcell j y hj
                  refine ⟨?_, by simp [k1, k3]⟩
                  rw [zd8 hheap (kk * sz + j) u (by simpa using k1)]
                  simp [k1])
                (fun j y hj => by
                  obtain ⟨u, k1, k2, k3⟩ := hcell j y hj
                  simpa [k1] using k2)
                (fun _ hs _ => by rw [he]; exact Nat.eq_of_beq_eq_true hs) hd
              have hrun : (do pure (.value (← Instr.loadAt t (.pointer (some ⟨b, kk * sz + f, none⟩)))) : Sem Next).run P w = .ok (.value u) w := zan q1
              rw [hrun]
              exact ⟨I, μ, hst, q2, Mu.le_refl μ, Ext.refl _ _ _ _⟩
          · cases h
        · cases h
      · cases h
    · cases h
  · cases h
theorem yka (htt : TTok P tt) {c : POs} {e e' : List V} (h : yga tt env st todo = some c) (hc : c.es[c.k]? = some e) (hf : c.f + c.n ≤ c.sz) (he' : e' = e.take c.f ++ c.ys ++ e.drop (c.f + c.n)) (hob : zbw c.ob)
    (hk : G P n F Q c.todo env ((c.id, some (.row c.e c.sz (c.es.set c.k e'))) :: st) ids) : G P n F Q todo env st ids := by
  unfold yga at h
  split at h
  · rename_i all o todo0 h0
    split at h
    · rename_i t p x hgd hdst hop
      split at h
      · rename_i i id kk sz f dx ht hp hx
        split at h
        · rename_i ty sz' es all' o' todo' ys ob hl h1 hel
          split at h
          · rename_i hsz
            cases h
            obtain ⟨rfl, rfl⟩ := zm3 h0 h1
            have hs := Nat.eq_of_beq_eq_true hsz
            subst hs
            simp only at hc hf he' hob hk
            have hk : G P n F Q todo' (zdz o'.dst .undef env) ([(id, some (.row ty sz (es.set kk e')))] ++ st) ids := by rw [hdst]; exact hk
            refine zcv (fr := []) (wr := [(id, some (.row ty sz (es.set kk e')))]) (rd := [id]) h1 ?_ (by simp [zc2, hdst]) (fun c hc => by rw [hop] at hc; cases hc) hk
            intro I μ st1 ids1 a w hag hst hon
            refine ⟨fun _ => ?_, fun hw => by rw [zau hgd] at hw; cases hw⟩
            have hops := zbi hon
            rw [hop] at hops
            have rp := hops p (by simp [Op.operands]) _ hp
            obtain ⟨r1, r2, r3, r4⟩ := ztq hel (hops x (by simp [Op.operands]) _ hx) hob
            have hl1 : zap st1 id (.row ty sz es) := by unfold zap; rw [hag id (by simp)]; exact hl
            obtain ⟨b, cap, cur, hmu, hheap, hcap, hcm, hcs, hrep, hlen, hone, hpos⟩ := zw1 hst hl1 (by rintro rfl; simp at hc)
            have hkl := (List.getElem?_eq_some_iff.1 hc).1
            have hfit : kk * sz + f + i.size ≤ es.length * sz := by
              have : (kk + 1) * sz ≤ es.length * sz := Nat.mul_le_mul_right _ hkl
              rw [Nat.succ_mul] at this; omega
            have hcapz : es.length * sz ≤ cap * sz := Nat.mul_le_mul_right _ hcap
            generalize hv : a.eval p = v at rp
            cases rp with
            | elp _ _ ln cp _ _ _ hm =>
              rw [hm] at hmu; cases hmu
              have hvl : (a.eval x).cells.toList.length = i.size := by simpa using r2
              have hrun : (execOp a.eval o').run P w = .ok .skip (w.setRow b (cur.toList.take (kk * sz + f) ++ (a.eval x).cells.toList ++ cur.toList.drop (kk * sz + f + (a.eval x).cells.toList.length)).toArray) := by
                simp only [execOp, hop, hv, Sem.run_bind, zfs (htt t i ht) hheap r2 r4 (show kk * sz + f + (a.eval x).cells.toList.length ≤ cur.size by rw [hvl]; omega), Result.andThen_ok, Sem.run_pure]
              rw [hrun]
              have hcl : cur.toList.length = cap * sz := by simpa using hcs
              have hnew : BlkRep I μ (w.setRow b (cur.toList.take (kk * sz + f) ++ (a.eval x).cells.toList ++ cur.toList.drop (kk * sz + f + (a.eval x).cells.toList.length)).toArray) (.slice (some ⟨b, 0, none⟩) es.length cap) (.row ty sz (es.set kk e')) := by
                subst he'
                have hys : ys.length = i.size := r3
                have e1 := zhe (ys := ys) es kk e hlen hc (by rw [hys]; exact hf)
                rw [hys] at e1
                have e2 : (cur.toList.take (kk * sz + f) ++ (a.eval x).cells.toList ++ cur.toList.drop (kk * sz + f + (a.eval x).cells.toList.length)).take (es.length * sz) =
                    (cur.toList.take (es.length * sz)).take (kk * sz + f) ++ (a.eval x).cells.toList ++ (cur.toList.take (es.length * sz)).drop (kk * sz + f + (a.eval x).cells.toList.length) := by
                  rw [hvl, List.append_assoc, List.take_append, List.take_append, List.take_take, List.take_take, List.length_take, hvl, List.append_assoc]
                  rw [Nat.min_eq_left (by omega : kk * sz + f ≤ cur.toList.length), Nat.min_eq_right (by omega : kk * sz + f ≤ es.length * sz), Nat.min_eq_left (by omega : kk * sz + f ≤ es.length * sz)]
                  rw [List.take_of_length_le (l := (a.eval x).cells.toList) (by omega), List.drop_take]
                  congr 3
                  omega
                have hR := RepVL.splice hrep r1 (kk * sz + f)
                rw [hvl, hys] at hR
                rw [hvl] at e2
                have hls : (es.set kk (e.take f ++ ys ++ e.drop (f + i.size))).length = es.length := by simp
                refine ⟨_, ⟨?_, .inr ⟨b, cap, _, by rw [hls], Nat.zero_le _, setRow_heap w b cur _ ty _ hheap, by rw [hls]; exact hcap, hcm, ?_, rfl⟩⟩, ?_, ?_, ?_, hpos⟩
                · simp; omega
                · simp; omega
                · rw [hls, hvl, List.toList_toArray, e2]
                  exact e1 ▸ hR
                · intro c hc'
                  rcases List.mem_or_eq_of_mem_set hc' with h | h
                  · exact hlen c h
                  · rw [h]
                    have := hlen e (List.mem_of_getElem? hc)
                    simp [hys]; omega
                · intro c hc' y hy
                  rcases List.mem_or_eq_of_mem_set hc' with h | h
                  · exact hone c h y hy
                  · rw [h] at hy
                    have h5 := hone e (List.mem_of_getElem? hc)
                    rcases List.mem_append.1 hy with hy | hy
                    · rcases List.mem_append.1 hy with hy | hy
                      · exact h5 y (List.mem_of_mem_take hy)
                      · obtain ⟨j, hj⟩ := List.mem_iff_getElem?.1 hy
                        have hjl : j < (a.eval x).cells.toList.length := by rw [r1.1]; exact (List.getElem?_eq_some_iff.1 hj).1
                        exact (r1.2 j _ y (List.getElem?_eq_getElem hjl) hj).oneV (r4 _ (List.getElem_mem _))
                    · exact h5 y (List.mem_of_mem_drop hy)
              obtain ⟨q1, q2⟩ := hst.update (id := id) (blk := .row ty sz es) (g := .slice (some ⟨b, 0, none⟩) es.length cap) (b := b) hl1 hm rfl (w' := w.setRow b _) (setRow_size w b _) rfl rfl rfl (fun k hk => setRow_other w b k _ hk) hnew
              exact ⟨I, μ, q1, .undef _, Mu.le_refl μ, q2⟩
          · cases h
        · cases h
      · cases h
    · cases h
  · cases h
end
end Go.Hk

/- Owned memory by address: elements, loads and stores through raw pointers. -/
namespace Go.Hk
def noMu : Mu := fun _ => none
theorem ymm (μ : Mu) : noMu.le μ := fun _ _ h => by cases h
def zc3 (I : Imm) (w : World) (b off : Nat) (ds : List D) : Prop :=
  ∃ vs t k, w.heap[b]? = some (.cells vs t k) ∧ ∀ j d, ds[j]? = some d → ∃ c, vs[off + j]? = some c ∧ c.oneCell' = true ∧ RepD I noMu c d
structure PRi where
  a : Addr
  len : Nat
  m : Int
  sz : Nat
  g : Option (Bool × Bool)
  ob : List Prop
  t : Nat
  todo : List DI
def pridx (tt : TT) (n : Nat) (env : Env) (todo : List DI) : Option PRi :=
  match zce todo ([], []) with
  | some (all, o, todo') => match o.op, zdw all env o with
    | .indexAddr t x i, some g => match lk tt t, yap (zai g) env x, yap (zai g) env i with
      | some { sh := .sl e, .. }, some (.raw (.slice (some a) len _), o1), some (.imm (.int _ m), o2) => match lk tt e, o.dst, zc2 n o.dst with
        | some ti, some t', true => some ⟨a, len, m, ti.size, g, cat o1 o2, t', todo'⟩
        | _, _, _ => none
      | _, _, _ => none
    | _, _ => none
  | none => none
structure PRl where
  b : Nat
  off : Nat
  i : TyI
  g : Option (Bool × Bool)
  ob : List Prop
  t : Nat
  todo : List DI
def ybf (tt : TT) (n : Nat) (env : Env) (id : Nat) (todo : List DI) : Option PRl :=
  match zce todo ([id], []) with
  | some (all, o, todo') => match o.op, zdw all env o with
    | .load t x, some g => match lk tt t, yap (zai g) env x with
      | some i, some (.raw (.pointer (some ⟨b, off, none⟩)), o1) => match o.dst, zc2 n o.dst with
        | some t', true => some ⟨b, off, i, g, o1, t', todo'⟩
        | _, _ => none
      | _, _ => none
    | _, _ => none
  | none => none
structure PRs where
  b : Nat
  off : Nat
  ds : List D
  todo : List DI
def yf9 (tt : TT) (env : Env) (id : Nat) (todo : List DI) : Option PRs :=
  match zce todo ([id], [id]) with
  | some (_, o, todo') => match o.guard, o.dst, o.op with
    | none, none, .store t p x => match lk tt t, evO env p, evO env x with
      | some i, some (.raw (.pointer (some ⟨b, off, none⟩))), some dx => match zmq dx with
        | some ds => match Nat.beq ds.length i.size, nmL ds with
          | true, [] => some ⟨b, off, ds, todo'⟩
          | _, _ => none
        | none => none
      | _, _, _ => none
    | _, _, _ => none
  | none => none
section
variable {P : Program} {n : Nat} {F : List Nat} {Q : DQ} {tt : TT} {env env' : Env} {st st' : St} {ids ids' : List Nat} {k todo todo' : List DI} {I : Imm} {μ : Mu} {w : World} {a : Act} {Pn : V → Prop} {d : D} {cx : Prop} {ob : List Prop}
theorem RepD.rawInv {v u : Value} (h : RepD I μ v (.raw u)) : v = u := by cases h; rfl
theorem zdf (htt : TTok P tt) {c : PRi} (h : pridx tt n env todo = some c) (hs : c.a.spot = none) (hc : zai c.g → 0 ≤ c.m ∧ c.m < c.len) (hob : zbw c.ob)
    (hk : G P n F Q c.todo ((c.t, gD c.g (.raw (.pointer (some ⟨c.a.block, c.a.off + c.m.toNat * c.sz, none⟩)))) :: env) st ids) : G P n F Q todo env st ids := by
  unfold pridx at h
  split at h
  · rename_i all o todo' h1
    split at h
    · rename_i t x i g hop hg
      split at h
      · rename_i e _ _ _ _ ad len cap o1 kk m o2 ht hx hi
        split at h
        · rename_i ti t' hti hdst hd
          cases h
          obtain ⟨b, off, spot⟩ := ad
          simp only at hs
          subst hs
          have hk : G P n F Q todo' (zdz o.dst (gD g (.raw (.pointer (some ⟨b, off + m.toNat * ti.size, none⟩)))) env) st ids := by rw [hdst]; exact hk
          refine zcv (fr := []) (wr := []) (rd := []) h1 (zd7 hg fun I μ st1 ids1 a w _ hst hops hcx => ?_) (by rw [hdst] at hd ⊢; exact hd) (fun c hc => by rw [hop] at hc; cases hc) hk
          rw [hop] at hops
          obtain ⟨ho1, ho2⟩ := zbb hob
          have rx := (zds hx ho1 hcx (hops x (by simp [Op.operands]))).rawInv
          have ri := (zds hi ho2 hcx (hops i (by simp [Op.operands]))).immInv.intInv
          obtain ⟨c0, c1⟩ := hc hcx
          have hu : P.underlying t = some (.slice e) := htt.sh ht
          simp only [execOp, hop, ri, rx]
          have hr := zqm (w := w) hu (htt e ti hti) (b := b) (off := off) (len := len) (cap := cap) (kk := kk) c0 c1
          have hrun : (do pure (.value (← Instr.indexAt t (.slice (some ⟨b, off, none⟩) len cap) (.int kk m))) : Sem Next).run P w = .ok (.value (.pointer (some ⟨b, off + m.toNat * ti.size, none⟩))) w := zan hr
          rw [hrun]
          exact ⟨I, μ, hst, .raw _ rfl, Mu.le_refl μ, Ext.refl _ _ _ _⟩
        · cases h
      · cases h
    · cases h
  · cases h
theorem ygr {t : TypeId} {i : TyI} (hi : TyOk P t i) {b off : Nat} {ds : List D} {d : D} (h : zc3 I w b off ds) (hl : ds.length = i.size) (hd : zka i true ds 0 = some d) (μ : Mu) :
    ∃ v, (Instr.loadAt t (.pointer (some ⟨b, off, none⟩))).run P w = .ok v w ∧ RepD I μ v d := by
  obtain ⟨vs, bt, kk, hheap, hcs⟩ := h
  have hcell : ∀ (j : Nat), j < ds.length → ∃ c d, ds[j]? = some d ∧ vs[off + j]? = some c ∧ c.oneCell' = true ∧ RepD I μ c d := fun j hj => by
    obtain ⟨c, h1, h2, h3⟩ := hcs j _ (List.getElem?_eq_getElem hj)
    exact ⟨c, _, List.getElem?_eq_getElem hj, h1, h2, h3.mono (Imm.le_refl I) (ymm μ)⟩
  have hw : ∀ j, j < ds.length → w.cell? ⟨b, off + j, none⟩ = some ((vs[off + j]?).getD undef) := fun j hj => by
    obtain ⟨c, d, _, h2, _⟩ := hcell j hj
    rw [zd8 hheap (off + j) c (by simpa using h2)]
    simp [h2]
  cases ha : i.agg with
  | true =>
    simp only [zka, ha] at hd
    cases hd
    have hr := zl4 hi b off (fun j => (vs[off + j]?).getD undef) (w := w) (fun j hj => hw j (by omega)) (fun hf => by rw [ha] at hf; cases hf)
    rw [ha] at hr
    simp only [if_true] at hr
    refine ⟨_, hr, ?_⟩
    have := zi0 (I := I) (μ := μ) (vs := (List.range i.size).map fun j => (vs[off + j]?).getD undef) (ds := ds) ⟨by simp [hl], fun j v d hv hd => ?_⟩ (fun c hc => ?_)
    · simpa using this
    · rw [List.getElem?_map] at hv
      obtain ⟨c, d', h1, h2, _, h4⟩ := hcell j (List.getElem?_eq_some_iff.1 hd).1
      rw [h1] at hd; cases hd
      cases hj : (List.range i.size)[j]? with
      | none => rw [hj] at hv; cases hv
      | some q =>
        rw [hj] at hv
        have : q = j := by
          obtain ⟨h6, h7⟩ := List.getElem?_eq_some_iff.1 hj
          simpa using h7.symm
        subst this
        cases hv
        simpa [h2] using h4
    · obtain ⟨j, hj, rfl⟩ := List.mem_map.1 hc
      obtain ⟨c, d', _, h2, h3, _⟩ := hcell j (by rw [hl]; simpa using hj)
      simpa [h2] using h3
  | false =>
    simp only [zka, ha] at hd
    have hlt : 0 < ds.length := by
      cases ds with
      | nil => simp [nth] at hd
      | cons => simp
    have hr := zl4 hi b off (fun j => (vs[off + j]?).getD undef) (w := w) (fun j hj => hw j (by omega)) (fun _ => hw 0 hlt)
    rw [ha] at hr
    simp only [Bool.false_eq_true, if_false] at hr
    obtain ⟨c, d', h1, h2, _, h4⟩ := hcell 0 hlt
    rw [zg1, h1] at hd
    cases hd
    rw [Nat.add_zero] at h2
    exact ⟨_, hr, by simpa [h2] using h4⟩
theorem zbn (htt : TTok P tt) (id : Nat) {A : Asn} {c : PRl} (ds : List D) {d : D} (h : ybf tt n env id todo = some c) (hl : lk st id = some (some (.hp A)))
    (hA : zai c.g → ∀ vs I w bs, A.P vs I w bs → zc3 I w c.b c.off ds) (hlen : ds.length = c.i.size) (hd : zka c.i true ds 0 = some d) (hob : zbw c.ob)
    (hk : G P n F Q c.todo ((c.t, gD c.g d) :: env) st ids) : G P n F Q todo env st ids := by
  unfold ybf at h
  split at h
  · rename_i all o todo' h1
    split at h
    · rename_i t x g hop hg
      split at h
      · rename_i i b off o1 ht hx
        split at h
        · rename_i t' hdst hd'
          cases h
          have hk : G P n F Q todo' (zdz o.dst (gD g d) env) st ids := by rw [hdst]; exact hk
          refine zcv (fr := []) (wr := []) (rd := [id]) h1 (zd7 hg fun I μ st1 ids1 a w hag hst hops hcx => ?_) (by rw [hdst] at hd' ⊢; exact hd') (fun c hc => by rw [hop] at hc; cases hc) hk
          rw [hop] at hops
          have rx := (zds hx hob hcx (hops x (by simp [Op.operands]))).rawInv
          have hl1 : zap st1 id (.hp A) := by unfold zap; rw [hag id (by simp)]; exact hl
          obtain ⟨gg, hg', us, bs, e1, e2⟩ := hst.blk id _ hl1
          obtain ⟨v, q1, q2⟩ := ygr (P := P) (htt t i ht) (hA hcx us I w bs e2) hlen hd μ
          simp only [execOp, hop, rx]
          have hrun : (do pure (.value (← Instr.loadAt t (.pointer (some ⟨b, off, none⟩)))) : Sem Next).run P w = .ok (.value v) w := zan q1
          rw [hrun]
          exact ⟨I, μ, hst, q2, Mu.le_refl μ, Ext.refl _ _ _ _⟩
        · cases h
      · cases h
    · cases h
  · cases h
theorem zzs (htt : TTok P tt) (id : Nat) {y : Nat} {S : Bun} {c : PRl} (ds : List D) {d : D} (h : ybf tt n env id todo = some c) (hl : lk st id = some (some (.bun y S)))
    (hA : zai c.g → ∀ I w b bs, S.P I w b bs → zc3 I w c.b c.off ds) (hlen : ds.length = c.i.size) (hd : zka c.i true ds 0 = some d) (hob : zbw c.ob)
    (hk : G P n F Q c.todo ((c.t, gD c.g d) :: env) st ids) : G P n F Q todo env st ids := by
  unfold ybf at h
  split at h
  · rename_i all o todo' h1
    split at h
    · rename_i t x g hop hg
      split at h
      · rename_i i b off o1 ht hx
        split at h
        · rename_i t' hdst hd'
          cases h
          have hk : G P n F Q todo' (zdz o.dst (gD g d) env) st ids := by rw [hdst]; exact hk
          refine zcv (fr := []) (wr := []) (rd := [id]) h1 (zd7 hg fun I μ st1 ids1 a w hag hst hops hcx => ?_) (by rw [hdst] at hd' ⊢; exact hd') (fun c hc => by rw [hop] at hc; cases hc) hk
          rw [hop] at hops
          have rx := (zds hx hob hcx (hops x (by simp [Op.operands]))).rawInv
          have hl1 : zap st1 id (.bun y S) := by unfold zap; rw [hag id (by simp)]; exact hl
          obtain ⟨gg, hg', b', bs, _, e1, e2⟩ := hst.blk id _ hl1
          obtain ⟨v, q1, q2⟩ := ygr (P := P) (htt t i ht) (hA hcx I w b' bs e2) hlen hd μ
          simp only [execOp, hop, rx]
          have hrun : (do pure (.value (← Instr.loadAt t (.pointer (some ⟨b, off, none⟩)))) : Sem Next).run P w = .ok (.value v) w := zan q1
          rw [hrun]
          exact ⟨I, μ, hst, q2, Mu.le_refl μ, Ext.refl _ _ _ _⟩
        · cases h
      · cases h
    · cases h
  · cases h
def zrx (A A' : Asn) (b off : Nat) (ds : List D) : Prop := ∀ us I w bs, A.P us I w bs → b ∈ bs ∧ ∃ vs t, w.heap[b]? = some (.cells vs t (0, 0)) ∧ off + ds.length ≤ vs.size ∧
  ∀ cs, RepL I noMu cs ds → (∀ c ∈ cs, c.oneCell' = true) → A'.P us I (w.setRow b (vs.toList.take off ++ cs ++ vs.toList.drop (off + ds.length)).toArray) bs
theorem zo4 (htt : TTok P tt) (id : Nat) {A : Asn} (A' : Asn) {c : PRs} (h : yf9 tt env id todo = some c) (hl : lk st id = some (some (.hp A))) (hA : zrx A A' c.b c.off c.ds)
    (hk : G P n F Q c.todo env ((id, some (.hp A')) :: st) ids) : G P n F Q todo env st ids := by
  unfold yf9 at h
  split at h
  · rename_i all o todo' h1
    split at h
    · rename_i t p x hgd hdst hop
      split at h
      · rename_i i b off dx ht hp hx
        split at h
        · rename_i ds hds
          split at h
          · rename_i hsz hnm
            cases h
            simp only at hA hk
            have hk : G P n F Q todo' (zdz o.dst .undef env) ([(id, some (.hp A'))] ++ st) ids := by rw [hdst]; exact hk
            refine zcv (fr := []) (wr := [(id, some (.hp A'))]) (rd := [id]) h1 ?_ (by simp [zc2, hdst]) (fun c hc => by rw [hop] at hc; cases hc) hk
            intro I μ st1 ids1 a w hag hst hon
            refine ⟨fun _ => ?_, fun hw => by rw [zau hgd] at hw; cases hw⟩
            have hops := zbi hon
            rw [hop] at hops
            have rp := (hops p (by simp [Op.operands]) _ hp).rawInv
            obtain ⟨r1, r2⟩ := zg8 hds (hops x (by simp [Op.operands]) _ hx)
            have hl1 : zap st1 id (.hp A) := by unfold zap; rw [hag id (by simp)]; exact hl
            obtain ⟨gg, hg', us, bs, e1, e2⟩ := hst.blk id _ hl1
            obtain ⟨k1, vs, bt, k2, k3, k4⟩ := hA us I w bs e2
            have hvl : (a.eval x).cells.toList.length = ds.length := r1.1
            have hs := Nat.eq_of_beq_eq_true hsz
            have hrun : (execOp a.eval o).run P w = .ok .skip (w.setRow b (vs.toList.take off ++ (a.eval x).cells.toList ++ vs.toList.drop (off + (a.eval x).cells.toList.length)).toArray) := by
              simp only [execOp, hop, rp, Sem.run_bind, zfs (htt t i ht) k2 (by rw [← hs, ← hvl]; simp) r2 (show off + (a.eval x).cells.toList.length ≤ vs.size by rw [hvl]; exact k3), Result.andThen_ok, Sem.run_pure]
            rw [hrun, hvl]
            have hR : RepL I noMu (a.eval x).cells.toList ds := r1.sub fun j hj => by rw [hnm] at hj; cases hj
            have hnew : BlkRep I μ (w.setRow b (vs.toList.take off ++ (a.eval x).cells.toList ++ vs.toList.drop (off + ds.length)).toArray) gg (.hp A') := ⟨us, bs, e1, k4 _ hR r2⟩
            obtain ⟨q1, q2⟩ := hst.update (id := id) (blk := .hp A) (g := gg) (b := b) hl1 hg' (by rw [e1]; exact za0.2 k1) (w' := w.setRow b _) (setRow_size w b _) rfl rfl rfl (fun k hk => setRow_other w b k _ hk) hnew
            exact ⟨I, μ, q1, .undef _, Mu.le_refl μ, q2⟩
          · cases h
        · cases h
      · cases h
    · cases h
  · cases h
end
end Go.Hk

/- What is zbx, laid anew under other names: blocks by address joined, split, opened, frozen. -/
namespace Go.Hk
def zxe : List (Nat × Value × Blk) → St
  | [] => []
  | (i, _, b) :: r => (i, some b) :: zxe r
def zxf : List (Nat × Value × Blk) → List Nat
  | [] => []
  | (i, _, _) :: r => i :: zxf r
def zg2 (new : List (Nat × Value × Blk)) (μ : Mu) : Mu := fun i => match lk new i with
  | some p => some p.1
  | none => μ i
def ygj (R : List Nat) (μ : Mu) (st : St) (b : Nat) : Prop := ∃ r blk g, r ∈ R ∧ zap st r blk ∧ μ r = some g ∧ zgd g b
section
variable {P : Program} {n : Nat} {F : List Nat} {Q : DQ} {tt : TT} {env env' : Env} {st st' : St} {ids ids' : List Nat} {todo : List DI} {I J : Imm} {μ : Mu} {w : World} {a : Act} {d : D}
theorem yc1 {new : List (Nat × Value × Blk)} {i : Nat} {b : Blk} {st : St} : zap (zxe new ++ st) i b → (∃ g, (i, g, b) ∈ new ∧ lk new i = some (g, b)) ∨ (lk new i = none ∧ zap st i b) := by
  induction new with
  | nil => intro h; exact .inr ⟨rfl, h⟩
  | cons p r ih =>
    obtain ⟨k, g, x⟩ := p
    intro h
    simp only [zxe, List.cons_append] at h
    rcases zah.1 h with ⟨rfl, rfl⟩ | ⟨h1, h2⟩
    · exact .inl ⟨g, by simp, zaj _ _ _⟩
    · rw [zam _ _ (fun e => h1 e.symm)]
      rcases ih h2 with ⟨g', q1, q2⟩ | h
      · exact .inl ⟨g', by simp [q1], q2⟩
      · exact .inr h
theorem ybn {new : List (Nat × Value × Blk)} {i : Nat} : lk new i = none ↔ i ∉ zxf new := by
  induction new with
  | nil => simp [lk, zxf]
  | cons p r ih =>
    obtain ⟨k, g, x⟩ := p
    by_cases h : k = i
    · subst h; rw [zaj]; simp [zxf]
    · rw [zam _ _ h, ih]; simp [zxf]; exact fun _ e => h e.symm
theorem StRep.relay {R : List Nat} {new : List (Nat × Value × Blk)} (hst : StRep I μ st (zxf new ++ ids') w)
    (hown : ∀ p ∈ new, ∀ b, zgd p.2.1 b → ygj R μ st b) (hdisj : ∀ p ∈ new, ∀ q ∈ new, ∀ b, zgd p.2.1 b → zgd q.2.1 b → p.1 = q.1)
    (hI : I.le J) (hJ : J.ok w) (hold : ∀ b o, J b = some o → I b = some o ∨ (ygj R μ st b ∧ ∀ p ∈ new, ¬ zgd p.2.1 b))
    (hrep : μ.le (zg2 new μ) → ∀ p ∈ new, BlkRep J (zg2 new μ) w p.2.1 p.2.2) :
    μ.le (zg2 new μ) ∧ StRep J (zg2 new μ) (zxe new ++ (zd3 R ++ st)) ids' w ∧ Ext I μ st w J (zg2 new μ) (zxe new ++ (zd3 R ++ st)) w := by
  have hnd := List.nodup_append.1 hst.nodup
  have hle : μ.le (zg2 new μ) := fun i v h => by
    have : i ∉ zxf new := fun hi => by rw [hst.idsFree i (by simp [hi])] at h; cases h
    simp [zg2, ybn.2 this, h]
  have hcase : ∀ {i b}, zap (zxe new ++ (zd3 R ++ st)) i b → (∃ g, (i, g, b) ∈ new ∧ zg2 new μ i = some g) ∨ (i ∉ R ∧ zap st i b ∧ zg2 new μ i = μ i) := by
    intro i b h
    rcases yc1 h with ⟨g, q1, q2⟩ | ⟨q1, q2⟩
    · exact .inl ⟨g, q1, by simp [zg2, q2]⟩
    · obtain ⟨h3, h4⟩ := zni q2
      exact .inr ⟨h3, h4, by simp [zg2, q1]⟩
  have hold' : ∀ {b}, zbx μ st b → (∀ r ∈ R, ∀ blk g, zap st r blk → μ r = some g → ¬ zgd g b) → J b = none := by
    intro b ⟨i, blk, g, q1, q2, q3⟩ hR
    have hI0 := (hst.apart i blk g b q1 q2 q3).1
    cases hJb : J b with
    | none => rfl
    | some o =>
      rcases hold b o hJb with h | ⟨⟨r, blk', g', k1, k2, k3, k4⟩, _⟩
      · rw [hI0] at h; cases h
      · exact absurd k4 (hR r k1 blk' g' k2 k3)
  have hE : Ext I μ st w J (zg2 new μ) (zxe new ++ (zd3 R ++ st)) w :=
    { imm := hI, os := rfl, tape := rfl, output := rfl, size := Nat.le_refl _, block := fun _ _ _ => rfl
      fresh := fun b _ ⟨i, blk, g, q1, q2, q3⟩ => by
        rcases hcase q1 with ⟨g', k1, k2⟩ | ⟨_, k2, k3⟩
        · rw [k2] at q2; cases q2
          obtain ⟨r, blk', g', _, a2, a3, a4⟩ := hown _ k1 b q3
          exact ⟨r, blk', g', a2, a3, a4⟩
        · exact ⟨i, blk, g, k2, by rw [← k3]; exact q2, q3⟩
      old := fun b _ ho => by
        cases hJb : J b with
        | none =>
          cases hIb : I b with
          | none => rfl
          | some o => rw [hI b o hIb] at hJb; cases hJb
        | some o =>
          rcases hold b o hJb with h | ⟨⟨r, blk, g, _, k2, k3, k4⟩, _⟩
          · exact h.symm
          · exact absurd ⟨r, blk, g, k2, k3, k4⟩ ho }
  refine ⟨hle, { imm := hJ, blk := fun i b hl => ?_, apart := fun i b g k hl hg hk => ?_, inj := fun i j bi bj gi gj k hi hj hgi hgj hki hkj => ?_, nodup := hnd.2.1, idsFree := fun i hi => ?_ }, hE⟩
  · rcases hcase hl with ⟨g, k1, k2⟩ | ⟨_, k2, k3⟩
    · exact ⟨g, k2, hrep hle _ k1⟩
    · obtain ⟨g, q1, q2⟩ := hst.blk i b k2
      exact ⟨g, by rw [k3]; exact q1, q2.mono hI hle⟩
  · rcases hcase hl with ⟨g', k1, k2⟩ | ⟨kR, k2, k3⟩
    · rw [k2] at hg; cases hg
      obtain ⟨r, blk', g', a1, a2, a3, a4⟩ := hown _ k1 k hk
      obtain ⟨z1, z2⟩ := hst.apart r blk' g' k a2 a3 a4
      refine ⟨?_, z2⟩
      cases hJb : J k with
      | none => rfl
      | some o =>
        rcases hold k o hJb with h | ⟨_, h⟩
        · rw [z1] at h; cases h
        · exact absurd hk (h _ k1)
    · rw [k3] at hg
      obtain ⟨z1, z2⟩ := hst.apart i b g k k2 hg hk
      refine ⟨hold' ⟨i, b, g, k2, hg, hk⟩ fun r hr blk' g' h1 h2 h3 => ?_, z2⟩
      exact kR (by rw [hst.inj i r b blk' g g' k k2 h1 hg h2 hk h3]; exact hr)
  · rcases hcase hi with ⟨g1, k1, k2⟩ | ⟨kR, k2, k3⟩
    · rw [k2] at hgi; cases hgi
      rcases hcase hj with ⟨g2, l1, l2⟩ | ⟨lR, l2, l3⟩
      · rw [l2] at hgj; cases hgj
        exact hdisj _ k1 _ l1 k hki hkj
      · rw [l3] at hgj
        obtain ⟨r, blk', g', a1, a2, a3, a4⟩ := hown _ k1 k hki
        exact absurd (by rw [hst.inj j r bj blk' gj g' k l2 a2 hgj a3 hkj a4]; exact a1) lR
    · rw [k3] at hgi
      rcases hcase hj with ⟨g2, l1, l2⟩ | ⟨lR, l2, l3⟩
      · rw [l2] at hgj; cases hgj
        obtain ⟨r, blk', g', a1, a2, a3, a4⟩ := hown _ l1 k hkj
        exact absurd (by rw [hst.inj i r bi blk' gi g' k k2 a2 hgi a3 hki a4]; exact a1) kR
      · rw [l3] at hgj
        exact hst.inj i j bi bj gi gj k k2 l2 hgi hgj hki hkj
  · have : i ∉ zxf new := fun h => hnd.2.2 i h i hi rfl
    simp only [zg2, ybn.2 this]
    exact hst.idsFree i (by simp [hi])
theorem zd1 (h : ∀ I μ a w, Conc n I μ env st ids a w → ∃ J ν env' st' ids', StRep J ν st' ids' w ∧ (∀ t d, lk env' t = some d → RepD J ν (a.tmps.getD t undef) d) ∧ Ext I μ st w J ν st' w ∧ Pin F μ ν ∧ DGo P n F Q todo env' st' ids') :
    DGo P n F Q todo env st ids := by
  intro b cs I μ a w items hd hc
  obtain ⟨J, ν, env', st', ids', h1, h2, h3, h4, h5⟩ := h I μ a w hc
  exact (h5 b cs J ν a w items hd { h1 with size := hc.size, env := h2, defers := hc.defers.ext h3 }).mono fun e a' w' hp => hp.back h4 h3
theorem yhy {α : Type} (id j : Nat) {A : Asn} (B : α → Asn) (hl : lk st id = some (some (.hp A))) (hA : ∀ vs I w bs, A.P vs I w bs → ∃ x bs', (∀ b ∈ bs', b ∈ bs) ∧ (B x).P [] I w bs')
    (h : ∀ x, DGo P n F Q todo env ((j, some (.hp (B x))) :: (id, none) :: st) ids') : DGo P n F Q todo env st (j :: ids') := by
  refine zd1 fun I μ a w hc => ?_
  obtain ⟨g, hg, vs, bs, rfl, hP⟩ := hc.blk id _ hl
  obtain ⟨x, bs', h1, h2⟩ := hA vs I w bs hP
  obtain ⟨q1, q2, q3⟩ := StRep.relay (R := [id]) (new := [(j, hpG [] bs', .hp (B x))]) (ids' := ids') hc.toStRep
    (fun p hp b hb => by
      rw [List.mem_singleton.1 hp] at hb
      exact ⟨id, _, _, by simp, hl, hg, za0.2 (h1 b (za0.1 hb))⟩)
    (fun p hp q hq b _ _ => by rw [List.mem_singleton.1 hp, List.mem_singleton.1 hq]) (Imm.le_refl I) hc.imm (fun b o h => .inl h)
    (fun _ p hp => by rw [List.mem_singleton.1 hp]; exact ⟨[], bs', rfl, h2⟩)
  exact ⟨I, _, env, _, ids', q2, fun t d hd => (hc.env t d hd).mono (Imm.le_refl I) q1, q3, .of_le q1, h x⟩
theorem ym9 {α : Type} (id i j : Nat) {A : Asn} (B C : α → Asn) (hl : lk st id = some (some (.hp A)))
    (hA : ∀ vs I w bs, A.P vs I w bs → ∃ x b1 b2, (∀ b ∈ b1, b ∈ bs) ∧ (∀ b ∈ b2, b ∈ bs) ∧ (∀ b ∈ b1, b ∉ b2) ∧ (B x).P [] I w b1 ∧ (C x).P [] I w b2)
    (h : ∀ x, DGo P n F Q todo env ((i, some (.hp (B x))) :: (j, some (.hp (C x))) :: (id, none) :: st) ids') : DGo P n F Q todo env st (i :: j :: ids') := by
  refine zd1 fun I μ a w hc => ?_
  obtain ⟨g, hg, vs, bs, rfl, hP⟩ := hc.blk id _ hl
  obtain ⟨x, b1, b2, k1, k2, k3, k4, k5⟩ := hA vs I w bs hP
  obtain ⟨q1, q2, q3⟩ := StRep.relay (R := [id]) (new := [(i, hpG [] b1, .hp (B x)), (j, hpG [] b2, .hp (C x))]) (ids' := ids') hc.toStRep
    (fun p hp b hb => by
      simp only [List.mem_cons, List.not_mem_nil, or_false] at hp
      rcases hp with rfl | rfl
      · exact ⟨id, _, _, by simp, hl, hg, za0.2 (k1 b (za0.1 hb))⟩
      · exact ⟨id, _, _, by simp, hl, hg, za0.2 (k2 b (za0.1 hb))⟩)
    (fun p hp q hq b e1 e2 => by
      simp only [List.mem_cons, List.not_mem_nil, or_false] at hp hq
      rcases hp with rfl | rfl <;> rcases hq with rfl | rfl <;> first
        | rfl
        | exact absurd (za0.1 e2) (k3 b (za0.1 e1))
        | exact absurd (za0.1 e1) (k3 b (za0.1 e2))) (Imm.le_refl I) hc.imm (fun b o h => .inl h)
    (fun _ p hp => by
      simp only [List.mem_cons, List.not_mem_nil, or_false] at hp
      rcases hp with rfl | rfl
      · exact ⟨[], b1, rfl, k4⟩
      · exact ⟨[], b2, rfl, k5⟩)
  exact ⟨I, _, env, _, ids', q2, fun t d hd => (hc.env t d hd).mono (Imm.le_refl I) q1, q3, .of_le q1, h x⟩
theorem zz6 {α : Type} (i j id : Nat) {A B : Asn} (C : α → Asn) (hi : lk st i = some (some (.hp A))) (hj : lk st j = some (some (.hp B))) (hne : i ≠ j)
    (hA : ∀ vs us I w b1 b2, A.P vs I w b1 → B.P us I w b2 → (∀ b ∈ b1, b ∉ b2) → ∃ x bs, (∀ b ∈ bs, b ∈ b1 ∨ b ∈ b2) ∧ (C x).P [] I w bs)
    (h : ∀ x, DGo P n F Q todo env ((id, some (.hp (C x))) :: (i, none) :: (j, none) :: st) ids') : DGo P n F Q todo env st (id :: ids') := by
  refine zd1 fun I μ a w hc => ?_
  obtain ⟨g1, hg1, vs, b1, rfl, hP1⟩ := hc.blk i _ hi
  obtain ⟨g2, hg2, us, b2, rfl, hP2⟩ := hc.blk j _ hj
  obtain ⟨x, bs, k1, k2⟩ := hA vs us I w b1 b2 hP1 hP2 fun b h1 h2 => hne (hc.inj i j _ _ _ _ b hi hj hg1 hg2 (za0.2 h1) (za0.2 h2))
  obtain ⟨q1, q2, q3⟩ := StRep.relay (R := [i, j]) (new := [(id, hpG [] bs, .hp (C x))]) (ids' := ids') hc.toStRep
    (fun p hp b hb => by
      rw [List.mem_singleton.1 hp] at hb
      rcases k1 b (za0.1 hb) with h | h
      · exact ⟨i, _, _, by simp, hi, hg1, za0.2 h⟩
      · exact ⟨j, _, _, by simp, hj, hg2, za0.2 h⟩)
    (fun p hp q hq b _ _ => by rw [List.mem_singleton.1 hp, List.mem_singleton.1 hq]) (Imm.le_refl I) hc.imm (fun b o h => .inl h)
    (fun _ p hp => by rw [List.mem_singleton.1 hp]; exact ⟨[], bs, rfl, k2⟩)
  exact ⟨I, _, env, _, ids', q2, fun t d hd => (hc.env t d hd).mono (Imm.le_refl I) q1, q3, .of_le q1, h x⟩
mutual
def ylp (id : Nat) (vs : List Value) : D → D
  | .hv i k => match Nat.beq i id, nth vs k with
    | true, some v => .raw v
    | _, _ => .hv i k
  | .agg cs => .agg (yeq id vs cs)
  | .tup cs => .tup (yeq id vs cs)
  | d => d
def yeq (id : Nat) (vs : List Value) : List D → List D
  | [] => []
  | d :: r => ylp id vs d :: yeq id vs r
end
def ynn (id : Nat) (vs : List Value) : Env → Env
  | [] => []
  | (t, d) :: r => (t, ylp id vs d) :: ynn id vs r
def opnB (id : Nat) (vs : List Value) : Blk → Blk
  | .cells t sz cs => .cells t sz (yeq id vs cs)
  | b => b
def yiq (id : Nat) (vs : List Value) : St → St
  | [] => []
  | (i, some b) :: r => (i, some (opnB id vs b)) :: yiq id vs r
  | (i, none) :: r => (i, none) :: yiq id vs r
theorem zhg (id : Nat) (vs : List Value) : ∀ l : List D, yeq id vs l = l.map (ylp id vs)
  | [] => rfl
  | d :: r => by simp [yeq, zhg id vs r]
theorem RepD.opn {id : Nat} {vs : List Value} {bs : List Nat} (hm : μ id = some (hpG vs bs)) {v : Value} (h : RepD I μ v d) : RepD I μ v (ylp id vs d) := by
  have at_ : ∀ {l : List D} {i : Nat} {x : D}, (yeq id vs l)[i]? = some x → ∃ y, l[i]? = some y ∧ x = ylp id vs y := by
    intro l i x hx
    rw [zhg, List.getElem?_map] at hx
    cases hl : l[i]? with
    | none => rw [hl] at hx; cases hx
    | some y => rw [hl] at hx; cases hx; exact ⟨y, rfl, rfl⟩
  induction h with
  | hv v i k us cs h hi h1 =>
    simp only [ylp]
    split
    · rename_i u he hu
      rw [Nat.eq_of_beq_eq_true he, hm] at h
      have hvs : vs = us ∧ bs = cs := by
        simp only [hpG, Option.some.injEq, Value.tuple.injEq, Array.mk.injEq, List.cons.injEq, Value.agg.injEq, and_true] at h
        refine ⟨by simpa using h.1, ?_⟩
        have h2 := congrArg Array.toList h.2
        simp only [yjj] at h2
        exact (List.map_inj_right (fun x y e => by simpa using e)).1 h2
      rw [zg1, hvs.1, hi] at hu
      cases hu
      exact .raw _ h1
    · exact .hv v i k us cs h hi h1
  | agg cs ds hl h1 _ ih =>
    refine .agg cs _ (by rw [zhg, List.length_map, hl]) h1 fun i c x hc hx => ?_
    obtain ⟨y, hy, rfl⟩ := at_ hx
    exact ih i c y hc hy
  | tup cs ds hl _ ih =>
    refine .tup cs _ (by rw [zhg, List.length_map, hl]) fun i c x hc hx => ?_
    obtain ⟨y, hy, rfl⟩ := at_ hx
    exact ih i c y hc hy
  | undef v => exact .undef v
  | imm v x hx => exact .imm v x hx
  | nils => exact .nils
  | ref b id off hm => exact .ref b id off hm
  | ip b o t cs off vs hcell hrep => exact .ip b o t cs off vs hcell hrep
  | own i len a cap hm => exact .own i len a cap hm
  | elp b i len cap k sz f hm => exact .elp b i len cap k sz f hm
  | mapr i b hm => exact .mapr i b hm
  | iter i b hm => exact .iter i b hm
  | fn f first cap df dc hf hc h1 h2 _ _ => exact .fn f first cap df dc hf hc h1 h2
  | iface t v d h _ => exact .iface t v d h
  | guard c want v d h hu _ => exact .guard c want v d h hu
  | clip a len es hr => exact .clip a len es hr
  | slc b i off len cap hm hl hx => exact .slc b i off len cap hm hl hx
  | yld b i hm => exact .yld b i hm
  | raw v h => exact .raw v h
theorem ygk {id : Nat} {vs : List Value} : ∀ {env : Env} {t : Nat} {d : D}, lk (ynn id vs env) t = some d → ∃ d0, lk env t = some d0 ∧ d = ylp id vs d0
  | [], t, d, h => by simp [ynn, lk] at h
  | (s, x) :: r, t, d, h => by
    simp only [ynn] at h
    by_cases hs : s = t
    · subst hs; rw [zaj] at h ⊢; cases h; exact ⟨x, rfl, rfl⟩
    · rw [zam _ _ hs] at h ⊢; exact ygk h
theorem zp6 {id : Nat} {vs : List Value} {i : Nat} {b : Blk} : ∀ {st : St}, zap (yiq id vs st) i b → ∃ b0, zap st i b0 ∧ b = opnB id vs b0
  | [], h => by simp [yiq, zap, lk] at h
  | (k, some x) :: r, h => by
    simp only [yiq] at h
    rcases zah.1 h with ⟨h1, h2⟩ | ⟨h1, h2⟩
    · exact ⟨x, by unfold zap; rw [h1, zaj], h2⟩
    · obtain ⟨b0, q1, q2⟩ := zp6 h2
      exact ⟨b0, zah.2 (.inr ⟨h1, q1⟩), q2⟩
  | (k, none) :: r, h => by
    simp only [yiq] at h
    obtain ⟨h1, h2⟩ := za7.1 h
    obtain ⟨b0, q1, q2⟩ := zp6 h2
    exact ⟨b0, za7.2 ⟨h1, q1⟩, q2⟩
theorem StRep.retell {st1 : St} (hst : StRep I μ st ids w) (h : ∀ i b, zap st1 i b → ∃ b0, zap st i b0 ∧ ∀ g, BlkRep I μ w g b0 → BlkRep I μ w g b) : StRep I μ st1 ids w ∧ Ext I μ st w I μ st1 w := by
  refine ⟨{ imm := hst.imm, blk := fun i b hl => ?_, apart := fun i b g k hl hg hk => ?_, inj := fun i j bi bj gi gj k hi hj => ?_, nodup := hst.nodup, idsFree := hst.idsFree }, ?_⟩
  · obtain ⟨b0, h1, h2⟩ := h i b hl
    obtain ⟨g, hg, hr⟩ := hst.blk i b0 h1
    exact ⟨g, hg, h2 g hr⟩
  · obtain ⟨b0, h1, _⟩ := h i b hl
    exact hst.apart i b0 g k h1 hg hk
  · obtain ⟨b0, h1, _⟩ := h i bi hi
    obtain ⟨b1, h2, _⟩ := h j bj hj
    exact hst.inj i j b0 b1 gi gj k h1 h2
  · exact { imm := Imm.le_refl I, os := rfl, tape := rfl, output := rfl, size := Nat.le_refl _, block := fun _ _ _ => rfl, old := fun _ _ _ => rfl
            fresh := fun b _ ⟨i, bi, g, h1, h2⟩ => let ⟨b0, q, _⟩ := h i bi h1; ⟨i, b0, g, q, h2⟩ }
theorem zgk {α : Type} (id j : Nat) {A : Asn} (val : α → List Value) (B : α → Asn) (hl : lk st id = some (some (.hp A)))
    (hA : ∀ vs I w bs, A.P vs I w bs → ∃ x, vs = val x ∧ (B x).P [] I w bs)
    (h : ∀ x, DGo P n F Q todo (ynn id (val x) env) ((j, some (.hp (B x))) :: (id, none) :: yiq id (val x) st) ids') : DGo P n F Q todo env st (j :: ids') := by
  refine zd1 fun I μ a w hc => ?_
  obtain ⟨g, hg, vs, bs, rfl, hP⟩ := hc.blk id _ hl
  obtain ⟨x, rfl, h2⟩ := hA vs I w bs hP
  obtain ⟨p1, p2⟩ := hc.toStRep.retell (st1 := yiq id (val x) st) (fun i b hlb => by
    obtain ⟨b0, q1, rfl⟩ := zp6 hlb
    refine ⟨b0, q1, fun gb hb => ?_⟩
    cases b0 with
    | cells t sz cs =>
      obtain ⟨hs, b, us, e1, e2, e3, e4⟩ := hb
      exact ⟨by rw [zhg, List.length_map, hs], b, us, e1, e2, ⟨by rw [zhg, List.length_map, e3.1], fun i v y hv hy => by
        rw [zhg, List.getElem?_map] at hy
        cases hc' : cs[i]? with
        | none => rw [hc'] at hy; cases hy
        | some z => rw [hc'] at hy; cases hy; exact (e3.2 i v z hv hc').opn hg⟩, e4⟩
    | _ => exact hb)
  have hl' : zap (yiq id (val x) st) id (.hp A) := by
    have : ∀ {st : St}, zap st id (.hp A) → zap (yiq id (val x) st) id (.hp A) := by
      intro st
      induction st with
      | nil => intro h; simp [zap, lk] at h
      | cons p r ih =>
        obtain ⟨k, y⟩ := p
        intro h
        cases y with
        | none => obtain ⟨h1, h2⟩ := za7.1 h; exact za7.2 ⟨h1, ih h2⟩
        | some y =>
          rcases zah.1 h with ⟨h1, h2⟩ | ⟨h1, h2⟩
          · exact zah.2 (.inl ⟨h1, by rw [← h2]; rfl⟩)
          · exact zah.2 (.inr ⟨h1, ih h2⟩)
    exact this hl
  obtain ⟨q1, q2, q3⟩ := StRep.relay (R := [id]) (new := [(j, hpG [] bs, .hp (B x))]) (ids' := ids') p1
    (fun p hp b hb => by
      rw [List.mem_singleton.1 hp] at hb
      exact ⟨id, _, _, by simp, hl', hg, za0.2 (za0.1 hb)⟩)
    (fun p hp q hq b _ _ => by rw [List.mem_singleton.1 hp, List.mem_singleton.1 hq]) (Imm.le_refl I) hc.imm (fun b o h => .inl h)
    (fun _ p hp => by rw [List.mem_singleton.1 hp]; exact ⟨[], bs, rfl, h2⟩)
  refine ⟨I, _, ynn id (val x) env, _, ids', q2, fun t d hd => ?_, p2.trans q3, .of_le q1, h x⟩
  obtain ⟨d0, h0, rfl⟩ := ygk hd
  exact ((hc.env t d0 h0).opn hg).mono (Imm.le_refl I) q1
def clD (j : Nat) (vs : List Value) (d d' : D) : Prop := d = d' ∨ ∃ k v, d = .raw v ∧ d' = .hv j k ∧ vs[k]? = some v
def clL (j : Nat) (vs : List Value) : List D → List D → Prop
  | [], [] => True
  | d :: r, d' :: r' => clD j vs d d' ∧ clL j vs r r'
  | _, _ => False
theorem yb9 {j : Nat} {vs : List Value} : ∀ {ds ds' : List D}, clL j vs ds ds' → ds.length = ds'.length ∧ ∀ (i : Nat) (d' : D), ds'[i]? = some d' → ∃ d, ds[i]? = some d ∧ clD j vs d d'
  | [], [], _ => ⟨rfl, fun i d h => by simp at h⟩
  | d :: r, d' :: r', h => by
    obtain ⟨h1, h2⟩ := yb9 h.2
    refine ⟨by simp [h1], fun i x hx => ?_⟩
    cases i with
    | zero => simp at hx; subst hx; exact ⟨d, rfl, h.1⟩
    | succ i => exact h2 i x (by simpa using hx)
  | [], _ :: _, h => h.elim
  | _ :: _, [], h => h.elim
theorem zx9 (id k j : Nat) {B A : Asn} (vs : List Value) {t : TypeId} {sz : Nat} {ds : List D} (ds' : List D) (hl : lk st id = some (some (.hp B))) (hk : lk st k = some (some (.cells t sz ds)))
    (hA : ∀ us I w bs, B.P us I w bs → A.P vs I w bs) (hcl : clL j vs ds ds')
    (h : DGo P n F Q todo env ((k, some (.cells t sz ds')) :: (j, some (.hp A)) :: (id, none) :: st) ids') : DGo P n F Q todo env st (j :: ids') := by
  refine zd1 fun I μ a w hc => ?_
  obtain ⟨g, hg, us, bs, rfl, hP⟩ := hc.blk id _ hl
  obtain ⟨gk, hgk, hs, b, xs, rfl, hheap, hrep, hone⟩ := hc.blk k _ hk
  have hjk : j ≠ k := fun e => by rw [← e, hc.idsFree j (by simp)] at hgk; cases hgk
  have hik : id ≠ k := fun e => by subst e; rw [hl] at hk; cases hk
  obtain ⟨q1, q2, q3⟩ := StRep.relay (R := [id]) (new := [(j, hpG vs bs, .hp A)]) (ids' := ids') hc.toStRep
    (fun p hp b hb => by
      rw [List.mem_singleton.1 hp] at hb
      exact ⟨id, _, _, by simp, hl, hg, za0.2 (za0.1 hb)⟩)
    (fun p hp q hq b _ _ => by rw [List.mem_singleton.1 hp, List.mem_singleton.1 hq]) (Imm.le_refl I) hc.imm (fun b o h => .inl h)
    (fun _ p hp => by rw [List.mem_singleton.1 hp]; exact ⟨vs, bs, rfl, hA us I w bs hP⟩)
  have hk2 : zap ((j, some (.hp A)) :: (id, none) :: st) k (.cells t sz ds) := zah.2 (.inr ⟨hjk.symm, za7.2 ⟨hik.symm, hk⟩⟩)
  have hmj : zg2 [(j, hpG vs bs, .hp A)] μ j = some (hpG vs bs) := by simp [zg2, lk]
  obtain ⟨c1, c2⟩ := yb9 hcl
  obtain ⟨p1, p2⟩ := q2.retell (st1 := (k, some (.cells t sz ds')) :: (j, some (.hp A)) :: (id, none) :: st) (fun i bb hlb => by
    rcases zah.1 hlb with ⟨rfl, rfl⟩ | ⟨_, h2⟩
    · refine ⟨_, hk2, fun gb hb => ?_⟩
      obtain ⟨hs, b, us, e1, e2, e3, e4⟩ := hb
      refine ⟨by rw [← c1, hs], b, us, e1, e2, ⟨by rw [← c1, e3.1], fun i v y hv hy => ?_⟩, e4⟩
      obtain ⟨d, y1, y2⟩ := c2 i y hy
      have hr := e3.2 i v d hv y1
      rcases y2 with rfl | ⟨kk, u, rfl, rfl, hu⟩
      · exact hr
      · have := hr.rawInv
        subst this
        exact .hv _ j kk vs bs hmj hu (e4 _ (List.mem_of_getElem? hv))
    · exact ⟨_, h2, fun _ h => h⟩)
  exact ⟨I, _, env, _, ids', p1, fun t d hd => (hc.env t d hd).mono (Imm.le_refl I) q1, q3.trans p2, .of_le q1, h⟩
def Imm.plus (I : Imm) (bs : List Nat) (w : World) : Imm := fun b => if zk5 bs b = true then w.heap[b]? else I b
theorem ze5 (id k : Nat) {A : Asn} {t : TypeId} {sz : Nat} {ds : List D} (xs : List V) (hl : lk st id = some (some (.hp A))) (hk : lk st k = some (some (.cells t sz ds)))
    (hA : ∀ vs I J w bs, A.P vs I w bs → I.le J → (∀ b ∈ bs, J b = w.heap[b]?) → ∀ (cs : List Value), RepL J noMu cs ds → RepVL J cs xs) (hnm : nmL ds = [])
    (h : DGo P n F Q todo env ((k, some (.immb t sz xs)) :: (id, none) :: st) ids) : DGo P n F Q todo env st ids := by
  refine zd1 fun I μ a w hc => ?_
  obtain ⟨g, hg, vs, bs, rfl, hP⟩ := hc.blk id _ hl
  obtain ⟨gk, hgk, hs, b, us, rfl, hheap, hrep, hone⟩ := hc.blk k _ hk
  have hik : id ≠ k := fun e => by subst e; rw [hl] at hk; cases hk
  have hbs : ∀ b ∈ bs, I b = none ∧ b < w.heap.size := fun b hb => hc.apart id _ _ b hl hg (za0.2 hb)
  have hle : I.le (I.plus bs w) := fun b o h => by
    have : zk5 bs b = false := by
      cases hm : zk5 bs b with
      | false => rfl
      | true => rw [(hbs b (zbo.1 hm)).1] at h; cases h
    simp [Imm.plus, this, h]
  have hJb : ∀ b ∈ bs, I.plus bs w b = w.heap[b]? := fun b hb => by simp [Imm.plus, zbo.2 hb]
  obtain ⟨q1, q2, q3⟩ := StRep.relay (R := [id]) (new := []) (ids' := ids) (J := I.plus bs w) hc.toStRep (fun p hp => by cases hp) (fun p hp => by cases hp) hle
    (fun b o h => by
      unfold Imm.plus at h
      split at h
      · exact h
      · exact hc.imm b o h)
    (fun b o h => by
      unfold Imm.plus at h
      split at h
      · rename_i hm; exact .inr ⟨⟨id, _, _, by simp, hl, hg, za0.2 (zbo.1 hm)⟩, fun p hp => by cases hp⟩
      · exact .inl h)
    (fun _ p hp => by cases hp)
  have hk2 : zap ((id, none) :: st) k (.cells t sz ds) := za7.2 ⟨hik.symm, hk⟩
  obtain ⟨p1, p2⟩ := q2.retell (st1 := (k, some (.immb t sz xs)) :: (id, none) :: st) (fun i bb hlb => by
    rcases zah.1 hlb with ⟨rfl, rfl⟩ | ⟨_, h2⟩
    · refine ⟨_, hk2, fun gb hb => ?_⟩
      obtain ⟨hs', b', us', e1, e2, e3, e4⟩ := hb
      have hmu : zg2 ([] : List (Nat × Value × Blk)) μ = μ := by funext i; simp [zg2, lk]
      rw [hmu] at e3
      have e3' : RepL (I.plus bs w) noMu us'.toList ds := e3.sub fun j hj => by rw [hnm] at hj; cases hj
      have hx' := hA vs I (I.plus bs w) w bs hP hle hJb us'.toList e3'
      exact ⟨by rw [← hx'.1, e3.1, hs'], b', us', e1, e2, hx', e4⟩
    · exact ⟨_, h2, fun _ h => h⟩)
  exact ⟨_, _, env, _, ids, p1, fun t d hd => (hc.env t d hd).mono hle q1, q3.trans p2, .of_le q1, h⟩
end
end Go.Hk

namespace Go.Hk
def RowA (e : TypeId) (sz : Nat) (es : List (List V)) (v : Value) : Asn where
  P := fun _ I w bs => (v = .slice none 0 0 ∧ es = [] ∧ bs = []) ∨ ∃ b cap cur, v = .slice (some ⟨b, 0, none⟩) es.length cap ∧ bs = [b] ∧ w.heap[b]? = some (.cells cur e (0, 0)) ∧ es.length ≤ cap ∧ cap ≤ maxLen ∧
    cur.size = cap * sz ∧ RepVL I (cur.toList.take (es.length * sz)) es.flatten ∧ (∀ c ∈ es, c.length = sz) ∧ (∀ c ∈ es, ∀ x ∈ c, V.one x = true) ∧ 0 < sz
  mono := fun h hp => by
    rcases hp with hp | ⟨b, cap, cur, h1, h2, h3, h4, h5, h6, h7, h8⟩
    · exact .inl hp
    · exact .inr ⟨b, cap, cur, h1, h2, h3, h4, h5, h6, h7.mono h, h8⟩
  loc := fun h hp => by
    rcases hp with hp | ⟨b, cap, cur, h1, h2, h3, h4⟩
    · exact .inl hp
    · exact .inr ⟨b, cap, cur, h1, h2, (h b (by simp [h2])).trans h3, h4⟩
section
variable {P : Program} {n : Nat} {F : List Nat} {Q : DQ} {tt : TT} {env env' : Env} {st st' : St} {ids ids' : List Nat} {todo : List DI} {I J : Imm} {μ : Mu} {w : World} {a : Act} {d : D}
end
end Go.Hk
