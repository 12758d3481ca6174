/- Rows that are owned, by index: addresses of elements, loads, stores. (And what it stands on.) -/
import Derived.Test.YtlbeglekommoeaaGreatWb
import Derived.MapKept
import Derived.Test.YtlbeglekommoeaaGreatProg
import Derived.WalkKit
import Derived.RowKit3
import Derived.Laws.NewBlocks
import Derived.Defers
import Derived.Recover
import Derived.Sort.Walk0
set_option linter.unusedSimpArgs false
set_option maxRecDepth 100000
set_option linter.unusedVariables false

namespace Go.Hk
structure PRng where
  s : List UInt8
  id' : Nat
  ids' : List Nat
  dst : Option Nat
  todo : List DI
def prng (tt : TT) (n : Nat) (env : Env) (ids : List Nat) (todo : List DI) : Option PRng :=
  match yhb todo, ids with
  | some o, id' :: ids' => match o.guard, o.op with
    | none, .range t x => match lk tt t, evO env x, zdg n o.dst, zcr todo ([], [id']) with
      | some { sh := .str, .. }, some (.imm (.str s)), true, some (_, _, todo') => some ⟨s, id', ids', o.dst, todo'⟩
      | _, _, _, _ => none
    | _, _ => none
  | _, _ => none
structure PNxt where
  s : List UInt8
  pos : Nat
  id : Nat
  dst : Option Nat
  todo : List DI
def pnxt (n : Nat) (env : Env) (st : St) (wr : Bool) (todo : List DI) : Option PNxt :=
  match yhb todo with
  | some o => match o.guard, o.op with
    | none, .next x true => match evO env x, zdg n o.dst with
      | some (.iter id), true => match lk st id, zcr todo ([id], bif wr then [id] else []) with
        | some (some (.siter s pos)), some (_, _, todo') => some ⟨s, pos, id, o.dst, todo'⟩
        | _, _ => none
      | _, _ => none
    | _, _ => none
  | none => none
def zfg (s : List UInt8) (pos : Nat) : Nat × Nat := Utf8.decode ⟨s.toArray⟩ pos
section
variable {P : Program} {n : Nat} {F : List Nat} {Q : DQ} {tt : TT} {env env' : Env} {st st' : St} {ids ids' : List Nat} {k todo todo' : List DI} {I : Imm} {μ : Mu} {w : World} {a : Act} {Pn : V → Prop} {d : D} {cx : Prop} {ob : List Prop}
theorem zfc {s : Sem Value} {v : Value} {w' : World} (h : s.run P w = .ok v w') : (do pure (.value (← s)) : Sem Next).run P w = .ok (.value v) w' := by simp [h]
theorem RepD.iterInv {v : Value} {id : Nat} (h : RepD I μ v (.iter id)) : ∃ b, v = .pointer (some ⟨b, 0, none⟩) ∧ μ id = some v := by
  cases h with
  | iter _ b h => exact ⟨b, rfl, h⟩
theorem yno (htt : TTok P tt) {s0 : List UInt8} {i0 : Nat} {ids0 : List Nat} {d0 : Option Nat} {todo0 : List DI} (h : prng tt n env ids todo = some ⟨s0, i0, ids0, d0, todo0⟩) (hk : G P n F Q todo0 (zei d0 (.iter i0) env) ((i0, some (.siter s0 0)) :: st) ids0) : G P n F Q todo env st ids := by
  unfold prng at h
  split at h
  · rename_i o id' ids' ho
    split at h
    · rename_i t x hg hop
      split at h
      · rename_i _ _ _ _ s all o' todo' ht hx hd h1
        cases h
        have ho' : o' = o := zdx ho h1
        subst ho'
        refine zc5 (fr := [i0]) (wr := [(i0, some (.siter s0 0))]) (rd := []) h1 ?_ hd (fun c hc => by rw [hop] at hc; cases hc) hk
        intro I μ st1 ids1 a w hag hst hon
        refine ⟨fun _ => ?_, fun hw => by rw [zax hg] at hw; cases hw⟩
        have hops := zbo hon
        rw [hop] at hops
        obtain ⟨bs, e1, e2⟩ := (hops x (by simp [Op.operands]) _ hx).immInv.strInv
        have hu : P.underlying t = some .string := htt.sh ht
        have hrun : (execOp a.eval o').run P w = .ok (.value (.pointer (some ⟨w.heap.size, 0, none⟩))) (w.alloc (.stringIter bs 0)) := by
          simp only [execOp, hop, e1]
          refine zfc ?_
          simp only [Instr.range, Sem.run_bind, run_underlying hu, Result.andThen_ok, Sem.run_pure, run_newObj]
          rfl
        rw [hrun]
        obtain ⟨μ', q1, q2, q3, q4⟩ := hst.allocO (.stringIter bs 0) (.pointer (some ⟨w.heap.size, 0, none⟩)) (fun _ h => Eq.symm h) (.siter s0 0) (fun μ' _ => ⟨w.heap.size, bs, rfl, zhd w _, e2⟩)
        exact ⟨I, μ', q3, .iter _ _ q1, q2, q4⟩
      · cases h
    · cases h
  · cases h
theorem zyg {id pos : Nat} {s : List UInt8} {v : Value} (hst : StRep I μ st ids w) (hl : zat st id (.siter s pos)) (hv : RepD I μ v (.iter id)) :
    ∃ b, v = .pointer (some ⟨b, 0, none⟩) ∧ μ id = some v ∧ w.heap[b]? = some (.stringIter ⟨s.toArray⟩ pos) := by
  obtain ⟨b, rfl, hm⟩ := hv.iterInv
  obtain ⟨g, hg, b', bs, rfl, hheap, hs⟩ := hst.blk id _ hl
  rw [hm] at hg; cases hg
  refine ⟨b, rfl, hm, ?_⟩
  rw [hheap, ← hs]
theorem ykp {s0 : List UInt8} {p0 i0 : Nat} {d0 : Option Nat} {todo0 : List DI} (h : pnxt n env st true todo = some ⟨s0, p0, i0, d0, todo0⟩) (hp : p0 < s0.length) {dc : Nat × Nat} (hdc : zfg s0 p0 = dc)
    (hk : G P n F Q todo0 (zei d0 (.imm (.tup [.bool true, .int .i64 p0, .int .i32 dc.1])) env) ((i0, some (.siter s0 (p0 + dc.2))) :: st) ids) : G P n F Q todo env st ids := by
  subst hdc
  unfold pnxt at h
  split at h
  · rename_i o ho
    split at h
    · rename_i x hg hop
      split at h
      · rename_i id hx hd
        split at h
        · rename_i s pos all o' todo' hl h1
          cases h
          have ho' : o' = o := zdx ho h1
          subst ho'
          refine zc5 (fr := []) (wr := [(i0, some (.siter s0 (p0 + (zfg s0 p0).2)))]) (rd := [i0]) h1 ?_ hd (fun c hc => by rw [hop] at hc; cases hc) hk
          intro I μ st1 ids1 a w hag hst hon
          refine ⟨fun _ => ?_, fun hw => by rw [zax hg] at hw; cases hw⟩
          have hops := zbo hon
          rw [hop] at hops
          have hl1 : zat st1 i0 (.siter s0 p0) := by unfold zat; rw [hag i0 (by simp)]; exact hl
          obtain ⟨b, e1, hm, hheap⟩ := zyg hst hl1 (hops x (by simp [Op.operands]) _ hx)
          have hget : (getObj b).run P w = .ok (.stringIter ⟨s0.toArray⟩ p0) w := by simp [getObj, Sem.run, hheap]
          have hset : (setObj b (.stringIter ⟨s0.toArray⟩ (p0 + (zfg s0 p0).2))).run P w = .ok () { w with heap := w.heap.setIfInBounds b (.stringIter ⟨s0.toArray⟩ (p0 + (zfg s0 p0).2)) } := by simp [setObj, Sem.run, hheap]
          have hlt : p0 < (ByteArray.mk s0.toArray).size := by simpa [ByteArray.size] using hp
          have hrun : (execOp a.eval o').run P w = .ok (.value (.tuple #[.bool true, .int .i64 p0, .int .i32 (zfg s0 p0).1])) { w with heap := w.heap.setIfInBounds b (.stringIter ⟨s0.toArray⟩ (p0 + (zfg s0 p0).2)) } := by
            simp only [execOp, hop, e1]
            refine zfc ?_
            simp only [Instr.next, Sem.run_bind, hget, Result.andThen_ok, if_pos hlt]
            have : (setObj b (.stringIter ⟨s0.toArray⟩ (p0 + (Utf8.decode ⟨s0.toArray⟩ p0).2))).run P w = _ := hset
            simp only [Sem.run_bind, this, Result.andThen_ok, Sem.run_pure]
            rfl
          rw [hrun]
          have hbl := zcz hheap
          obtain ⟨q1, q2⟩ := hst.update (blk' := .siter s0 (p0 + (zfg s0 p0).2)) (w' := { w with heap := w.heap.setIfInBounds b (.stringIter ⟨s0.toArray⟩ (p0 + (zfg s0 p0).2)) }) hl1 hm (by rw [e1]; rfl) (by simp) rfl rfl rfl
            (fun k hk => Array.getElem?_setIfInBounds_ne (Ne.symm hk)) ⟨b, ⟨s0.toArray⟩, e1, by simp [hbl], rfl⟩
          refine ⟨I, μ, q1, .imm _ _ (.tup _ _ rfl fun i c x hc hx => ?_), Mu.le_refl μ, q2⟩
          match i, hc, hx with
          | 0, hc, hx => cases hc; cases hx; exact .bool _
          | 1, hc, hx => cases hc; cases hx; exact .int _ _
          | 2, hc, hx => cases hc; cases hx; exact .int _ _
          | i + 3, hc, hx => simp at hx
        · cases h
      · cases h
    · cases h
  · cases h
theorem yqf {s0 : List UInt8} {p0 i0 : Nat} {d0 : Option Nat} {todo0 : List DI} (h : pnxt n env st false todo = some ⟨s0, p0, i0, d0, todo0⟩) (hp : s0.length ≤ p0)
    (hk : G P n F Q todo0 (zei d0 (.imm (.tup [.bool false])) env) st ids) : G P n F Q todo env st ids := by
  unfold pnxt at h
  split at h
  · rename_i o ho
    split at h
    · rename_i x hg hop
      split at h
      · rename_i id hx hd
        split at h
        · rename_i s pos all o' todo' hl h1
          cases h
          have ho' : o' = o := zdx ho h1
          subst ho'
          refine zc5 (fr := []) (wr := []) (rd := [i0]) h1 ?_ hd (fun c hc => by rw [hop] at hc; cases hc) hk
          intro I μ st1 ids1 a w hag hst hon
          refine ⟨fun _ => ?_, fun hw => by rw [zax hg] at hw; cases hw⟩
          have hops := zbo hon
          rw [hop] at hops
          have hl1 : zat st1 i0 (.siter s0 p0) := by unfold zat; rw [hag i0 (by simp)]; exact hl
          obtain ⟨b, e1, hm, hheap⟩ := zyg hst hl1 (hops x (by simp [Op.operands]) _ hx)
          have hget : (getObj b).run P w = .ok (.stringIter ⟨s0.toArray⟩ p0) w := by simp [getObj, Sem.run, hheap]
          have hlt : ¬ p0 < (ByteArray.mk s0.toArray).size := by simpa [ByteArray.size] using hp
          have hrun : (execOp a.eval o').run P w = .ok (.value (.tuple #[.bool false])) w := by
            simp only [execOp, hop, e1]
            refine zfc ?_
            simp only [Instr.next, Sem.run_bind, hget, Result.andThen_ok, if_neg hlt, Sem.run_pure]
          rw [hrun]
          refine ⟨I, μ, hst, .imm _ _ (.tup _ _ rfl fun i c x hc hx => ?_), Mu.le_refl μ, Ext.refl _ _ _ _⟩
          match i, hc, hx with
          | 0, hc, hx => cases hc; cases hx; exact .bool _
          | i + 1, hc, hx => simp at hx
        · cases h
      · cases h
    · cases h
  · cases h
end
end Go.Hk
namespace Go.Hk
open Go.Proofs
theorem ygw {s : Str} {pos : Nat} {c : UInt8} (h : s[pos]? = some c) (hc : c.toNat < 128) : zfg s pos = (c.toNat, 1) := by
  have hg : (ByteArray.mk s.toArray).get! pos = c := by simp [ByteArray.get!, h]
  simp only [zfg, Utf8.decode, Nat.add_zero, hg]
  rw [if_pos hc]
theorem ycc {s : Str} {pos : Nat} {c : UInt8} (h : s[pos]? = some c) (hc : 128 ≤ c.toNat) : 128 ≤ (zfg s pos).1 := by
  have hg : (ByteArray.mk s.toArray).get! pos = c := by simp [ByteArray.get!, h]
  simp only [zfg, Utf8.decode, Nat.add_zero, hg, Utf8.runeError]
  rw [if_neg (by omega)]
  repeat' split
  all_goals first | (simp only; omega) | decide | (simp only [Bool.and_eq_true, decide_eq_true_eq] at *; omega)
theorem zx6 (s : Str) : zau Tryz.prog 56 [.str s] (.bool (zfw s)) := by
  refine zaf zbp Tryz.func56 (by decide +kernel) rfl [1, 2] rfl rfl ?_
  refine tg [] rfl (by simp) ?_
  refine yno zbp rfl ?_
  refine tg [] rfl (by simp) ?_
  refine zah (fun i : Nat => [(6, .iter 1)]) (fun i => [(1, some (.siter s i))]) [2] (fun i => s.length - i) (fun i => i ≤ s.length ∧ zfw s = zfw (s.drop i)) 0
    ⟨Nat.zero_le _, rfl⟩ ⟨rfl, trivial⟩ ⟨rfl, trivial⟩ rfl fun i hi ih => ?_
  refine td [] rfl (by simp) ?_
  by_cases hl : i < s.length
  · obtain ⟨c, hc⟩ := zal hl
    have e := hi.2
    rw [zq4 hc] at e
    by_cases hlow : c.toNat < 128
    · refine ykp rfl hl (ygw hc hlow) ?_
      refine tg [.a] rfl (by simp) ?_
      refine zaa rfl (fun h => ?_) (fun h => ?_)
      · refine td [] rfl (by simp) ?_
        refine zab ⟨_, rfl, tV (congrArg _ ?_), trivial⟩
        rw [e]; simp at h; simp [UInt8.le_iff_toNat_le]; omega
      · refine td [] rfl (by simp) ?_
        refine zae (ih (i + 1) (by omega) ⟨by omega, ?_⟩) ⟨rfl, trivial⟩ ⟨rfl, trivial⟩ rfl
        rw [e]; simp at h; simp [UInt8.le_iff_toNat_le]; omega
    · refine ykp (dc := zfg s i) rfl hl rfl ?_
      have hh := ycc hc (by omega)
      refine tg [.a] rfl (by simp) ?_
      refine zaa rfl (fun h => ?_) (fun h => ?_)
      · refine td [] rfl (by simp) ?_
        refine zab ⟨_, rfl, tV (congrArg _ ?_), trivial⟩
        rw [e]; simp [UInt8.le_iff_toNat_le]; omega
      · exfalso
        simp at h
        omega
  · refine yqf rfl (by omega) ?_
    refine tg [.a] rfl (by simp) ?_
    refine zab ⟨_, rfl, tV (congrArg _ ?_), trivial⟩
    rw [hi.2, List.drop_eq_nil_of_le (by omega)]; rfl
theorem yfw (s : Str) (h : ynj s = false) : zau Tryz.prog 57 [.str s] (.bool false) := by
  simp only [ynj, zjq, zck, Bool.or_eq_false_iff] at h
  refine zaf zbp Tryz.func57 (by decide +kernel) rfl [1, 2] rfl rfl ?_
  refine tg [.f, .f, .f, .f, .f, .f, .f, .f, .f, .f, .f, .f, .f, .f, .f, .f, .f, .f, .f, .f, .f, .f, .f, .f, .f, .f, .f, .f, .f] rfl (by simp at h; simp; grind) ?_
  exact zab ⟨_, rfl, tV rfl, trivial⟩
theorem ykj : zau Tryz.prog 57 [.str [98, 111, 111, 108]] (.bool true) := by
  refine zaf zbp Tryz.func57 (by decide +kernel) rfl [1, 2] rfl rfl ?_
  refine tg [.a, .a] rfl (by simp) ?_
  exact zab ⟨_, rfl, tV rfl, trivial⟩
theorem yki : zau Tryz.prog 57 [.str [99, 101, 108, 108]] (.bool true) := by
  refine zaf zbp Tryz.func57 (by decide +kernel) rfl [1, 2] rfl rfl ?_
  refine tg [.a, .a, .a] rfl (by simp) ?_
  exact zab ⟨_, rfl, tV rfl, trivial⟩
theorem ykh : zau Tryz.prog 57 [.str [99, 104, 97, 110]] (.bool true) := by
  refine zaf zbp Tryz.func57 (by decide +kernel) rfl [1, 2] rfl rfl ?_
  refine tg [.a, .a, .a, .a] rfl (by simp) ?_
  exact zab ⟨_, rfl, tV rfl, trivial⟩
theorem ykg : zau Tryz.prog 57 [.str [101, 108, 115, 101]] (.bool true) := by
  refine zaf zbp Tryz.func57 (by decide +kernel) rfl [1, 2] rfl rfl ?_
  refine tg [.a, .a, .a, .a, .a] rfl (by simp) ?_
  exact zab ⟨_, rfl, tV rfl, trivial⟩
theorem ykf : zau Tryz.prog 57 [.str [102, 97, 108, 115, 101]] (.bool true) := by
  refine zaf zbp Tryz.func57 (by decide +kernel) rfl [1, 2] rfl rfl ?_
  refine tg [.a, .a, .a, .a, .a, .a] rfl (by simp) ?_
  exact zab ⟨_, rfl, tV rfl, trivial⟩
theorem yke : zau Tryz.prog 57 [.str [102, 117, 110]] (.bool true) := by
  refine zaf zbp Tryz.func57 (by decide +kernel) rfl [1, 2] rfl rfl ?_
  refine tg [.a, .a, .a, .a, .a, .a, .a] rfl (by simp) ?_
  exact zab ⟨_, rfl, tV rfl, trivial⟩
theorem ykd : zau Tryz.prog 57 [.str [103, 101, 116]] (.bool true) := by
  refine zaf zbp Tryz.func57 (by decide +kernel) rfl [1, 2] rfl rfl ?_
  refine tg [.a, .a, .a, .a, .a, .a, .a, .a] rfl (by simp) ?_
  exact zab ⟨_, rfl, tV rfl, trivial⟩
theorem ykc : zau Tryz.prog 57 [.str [105, 102]] (.bool true) := by
  refine zaf zbp Tryz.func57 (by decide +kernel) rfl [1, 2] rfl rfl ?_
  refine tg [.a, .a, .a, .a, .a, .a, .a, .a, .a] rfl (by simp) ?_
  exact zab ⟨_, rfl, tV rfl, trivial⟩
theorem ykb : zau Tryz.prog 57 [.str [105, 110]] (.bool true) := by
  refine zaf zbp Tryz.func57 (by decide +kernel) rfl [1, 2] rfl rfl ?_
  refine tg [.a, .a, .a, .a, .a, .a, .a, .a, .a, .a] rfl (by simp) ?_
  exact zab ⟨_, rfl, tV rfl, trivial⟩
theorem yka : zau Tryz.prog 57 [.str [105, 110, 112, 117, 116]] (.bool true) := by
  refine zaf zbp Tryz.func57 (by decide +kernel) rfl [1, 2] rfl rfl ?_
  refine tg [.a, .a, .a, .a, .a, .a, .a, .a, .a, .a, .a] rfl (by simp) ?_
  exact zab ⟨_, rfl, tV rfl, trivial⟩
theorem yge : zau Tryz.prog 57 [.str [105, 110, 116]] (.bool true) := by
  refine zaf zbp Tryz.func57 (by decide +kernel) rfl [1, 2] rfl rfl ?_
  refine tg [.a, .a, .a, .a, .a, .a, .a, .a, .a, .a, .a, .a] rfl (by simp) ?_
  exact zab ⟨_, rfl, tV rfl, trivial⟩
theorem ygd : zau Tryz.prog 57 [.str [106, 111, 105, 110]] (.bool true) := by
  refine zaf zbp Tryz.func57 (by decide +kernel) rfl [1, 2] rfl rfl ?_
  refine tg [.a, .a, .a, .a, .a, .a, .a, .a, .a, .a, .a, .a, .a] rfl (by simp) ?_
  exact zab ⟨_, rfl, tV rfl, trivial⟩
theorem ygc : zau Tryz.prog 57 [.str [108, 101, 116]] (.bool true) := by
  refine zaf zbp Tryz.func57 (by decide +kernel) rfl [1, 2] rfl rfl ?_
  refine tg [.a, .a, .a, .a, .a, .a, .a, .a, .a, .a, .a, .a, .a, .a] rfl (by simp) ?_
  exact zab ⟨_, rfl, tV rfl, trivial⟩
theorem ygb : zau Tryz.prog 57 [.str [109, 97, 116, 99, 104]] (.bool true) := by
  refine zaf zbp Tryz.func57 (by decide +kernel) rfl [1, 2] rfl rfl ?_
  refine tg [.a, .a, .a, .a, .a, .a, .a, .a, .a, .a, .a, .a, .a, .a, .a] rfl (by simp) ?_
  exact zab ⟨_, rfl, tV rfl, trivial⟩
theorem yga : zau Tryz.prog 57 [.str [109, 111, 100, 117, 108, 101]] (.bool true) := by
  refine zaf zbp Tryz.func57 (by decide +kernel) rfl [1, 2] rfl rfl ?_
  refine tg [.a, .a, .a, .a, .a, .a, .a, .a, .a, .a, .a, .a, .a, .a, .a, .a] rfl (by simp) ?_
  exact zab ⟨_, rfl, tV rfl, trivial⟩
theorem yf9 : zau Tryz.prog 57 [.str [111, 117, 116]] (.bool true) := by
  refine zaf zbp Tryz.func57 (by decide +kernel) rfl [1, 2] rfl rfl ?_
  refine tg [.a, .a, .a, .a, .a, .a, .a, .a, .a, .a, .a, .a, .a, .a, .a, .a, .a] rfl (by simp) ?_
  exact zab ⟨_, rfl, tV rfl, trivial⟩
theorem yf8 : zau Tryz.prog 57 [.str [112, 97, 117, 115, 101]] (.bool true) := by
  refine zaf zbp Tryz.func57 (by decide +kernel) rfl [1, 2] rfl rfl ?_
  refine tg [.a, .a, .a, .a, .a, .a, .a, .a, .a, .a, .a, .a, .a, .a, .a, .a, .a, .a] rfl (by simp) ?_
  exact zab ⟨_, rfl, tV rfl, trivial⟩
theorem yf7 : zau Tryz.prog 57 [.str [112, 117, 116]] (.bool true) := by
  refine zaf zbp Tryz.func57 (by decide +kernel) rfl [1, 2] rfl rfl ?_
  refine tg [.a, .a, .a, .a, .a, .a, .a, .a, .a, .a, .a, .a, .a, .a, .a, .a, .a, .a, .a] rfl (by simp) ?_
  exact zab ⟨_, rfl, tV rfl, trivial⟩
theorem yf6 : zau Tryz.prog 57 [.str [114, 101, 115, 101, 116]] (.bool true) := by
  refine zaf zbp Tryz.func57 (by decide +kernel) rfl [1, 2] rfl rfl ?_
  refine tg [.a, .a, .a, .a, .a, .a, .a, .a, .a, .a, .a, .a, .a, .a, .a, .a, .a, .a, .a, .a] rfl (by simp) ?_
  exact zab ⟨_, rfl, tV rfl, trivial⟩
theorem yf5 : zau Tryz.prog 57 [.str [115, 101, 110, 100]] (.bool true) := by
  refine zaf zbp Tryz.func57 (by decide +kernel) rfl [1, 2] rfl rfl ?_
  refine tg [.a, .a, .a, .a, .a, .a, .a, .a, .a, .a, .a, .a, .a, .a, .a, .a, .a, .a, .a, .a, .a] rfl (by simp) ?_
  exact zab ⟨_, rfl, tV rfl, trivial⟩
theorem yf4 : zau Tryz.prog 57 [.str [115, 104, 105, 102, 116]] (.bool true) := by
  refine zaf zbp Tryz.func57 (by decide +kernel) rfl [1, 2] rfl rfl ?_
  refine tg [.a, .a, .a, .a, .a, .a, .a, .a, .a, .a, .a, .a, .a, .a, .a, .a, .a, .a, .a, .a, .a, .a] rfl (by simp) ?_
  exact zab ⟨_, rfl, tV rfl, trivial⟩
theorem yf3 : zau Tryz.prog 57 [.str [115, 112, 97, 119, 110]] (.bool true) := by
  refine zaf zbp Tryz.func57 (by decide +kernel) rfl [1, 2] rfl rfl ?_
  refine tg [.a, .a, .a, .a, .a, .a, .a, .a, .a, .a, .a, .a, .a, .a, .a, .a, .a, .a, .a, .a, .a, .a, .a] rfl (by simp) ?_
  exact zab ⟨_, rfl, tV rfl, trivial⟩
theorem yf2 : zau Tryz.prog 57 [.str [116, 97, 107, 101]] (.bool true) := by
  refine zaf zbp Tryz.func57 (by decide +kernel) rfl [1, 2] rfl rfl ?_
  refine tg [.a, .a, .a, .a, .a, .a, .a, .a, .a, .a, .a, .a, .a, .a, .a, .a, .a, .a, .a, .a, .a, .a, .a, .a] rfl (by simp) ?_
  exact zab ⟨_, rfl, tV rfl, trivial⟩
theorem yf1 : zau Tryz.prog 57 [.str [116, 97, 115, 107]] (.bool true) := by
  refine zaf zbp Tryz.func57 (by decide +kernel) rfl [1, 2] rfl rfl ?_
  refine tg [.a, .a, .a, .a, .a, .a, .a, .a, .a, .a, .a, .a, .a, .a, .a, .a, .a, .a, .a, .a, .a, .a, .a, .a, .a] rfl (by simp) ?_
  exact zab ⟨_, rfl, tV rfl, trivial⟩
theorem yf0 : zau Tryz.prog 57 [.str [116, 104, 101, 110]] (.bool true) := by
  refine zaf zbp Tryz.func57 (by decide +kernel) rfl [1, 2] rfl rfl ?_
  refine tg [.a, .a, .a, .a, .a, .a, .a, .a, .a, .a, .a, .a, .a, .a, .a, .a, .a, .a, .a, .a, .a, .a, .a, .a, .a, .a] rfl (by simp) ?_
  exact zab ⟨_, rfl, tV rfl, trivial⟩
theorem yfz : zau Tryz.prog 57 [.str [116, 114, 117, 101]] (.bool true) := by
  refine zaf zbp Tryz.func57 (by decide +kernel) rfl [1, 2] rfl rfl ?_
  refine tg [.a, .a, .a, .a, .a, .a, .a, .a, .a, .a, .a, .a, .a, .a, .a, .a, .a, .a, .a, .a, .a, .a, .a, .a, .a, .a, .a] rfl (by simp) ?_
  exact zab ⟨_, rfl, tV rfl, trivial⟩
theorem yfy : zau Tryz.prog 57 [.str [116, 121, 112, 101]] (.bool true) := by
  refine zaf zbp Tryz.func57 (by decide +kernel) rfl [1, 2] rfl rfl ?_
  refine tg [.a, .a, .a, .a, .a, .a, .a, .a, .a, .a, .a, .a, .a, .a, .a, .a, .a, .a, .a, .a, .a, .a, .a, .a, .a, .a, .a, .a] rfl (by simp) ?_
  exact zab ⟨_, rfl, tV rfl, trivial⟩
theorem yfx : zau Tryz.prog 57 [.str [117, 110, 105, 116]] (.bool true) := by
  refine zaf zbp Tryz.func57 (by decide +kernel) rfl [1, 2] rfl rfl ?_
  refine tg [.a, .a, .a, .a, .a, .a, .a, .a, .a, .a, .a, .a, .a, .a, .a, .a, .a, .a, .a, .a, .a, .a, .a, .a, .a, .a, .a, .a, .a] rfl (by simp) ?_
  exact zab ⟨_, rfl, tV rfl, trivial⟩
theorem yfv (s : Str) : zau Tryz.prog 57 [.str s] (.bool (ynj s)) := by
  cases h : ynj s with
  | false => exact yfw s h
  | true =>
    simp only [ynj, zjq, zck, Bool.or_eq_true, beq_iff_eq, Bool.or_false] at h
    rcases h with rfl | rfl | rfl | rfl | rfl | rfl | rfl | rfl | rfl | rfl | rfl | rfl | rfl | rfl | rfl | rfl | rfl | rfl | rfl | rfl | rfl | rfl | rfl | rfl | rfl | rfl | rfl | rfl
    · exact ykj
    · exact yki
    · exact ykh
    · exact ykg
    · exact ykf
    · exact yke
    · exact ykd
    · exact ykc
    · exact ykb
    · exact yka
    · exact yge
    · exact ygd
    · exact ygc
    · exact ygb
    · exact yga
    · exact yf9
    · exact yf8
    · exact yf7
    · exact yf6
    · exact yf5
    · exact yf4
    · exact yf3
    · exact yf2
    · exact yf1
    · exact yf0
    · exact yfz
    · exact yfy
    · exact yfx
theorem zfy (s : Str) : zau Tryz.prog 32 [.str s] (.bool (zcu s)) := by
  refine zaf zbp Tryz.func32 (by decide +kernel) rfl [1, 2] rfl rfl ?_
  refine tg [] rfl (by simp) ?_
  refine zac rfl (v := .bool (zfw s)) (fun h => zx6 s) (by simp [zag]) ?_
  refine tg [] rfl (by simp) ?_
  refine zac rfl (v := .bool (ynj s)) (fun h => yfv s) (by simp [zag]) ?_
  refine tg [] rfl (by simp) ?_
  refine zab ⟨_, rfl, tV (congrArg _ ?_), trivial⟩
  cases s with
  | nil => simp [zcu]
  | cons a r => simp [zcu]; norm_cast; simp
theorem zi6 (s : Str) : zau Tryz.prog 33 [.str s] (.bool (ziv s)) := by
  refine zaf zbp Tryz.func33 (by decide +kernel) rfl [1, 2] rfl rfl ?_
  refine tg [] rfl (by cases s with | nil => simp [zag] | cons a r => simp [zag]; omega) ?_
  refine zac rfl (v := .bool (zfw (s.drop 1))) (fun h => zx6 _) (by simp [zag]) ?_
  refine tg [] rfl (by simp) ?_
  refine zab ⟨_, rfl, tV (congrArg _ ?_), trivial⟩
  cases s with
  | nil => simp [ziv]
  | cons a r => simp [ziv, UInt8.le_iff_toNat_le, Bool.and_assoc]; norm_cast; simp
def zaz (n : Int) : Bool := decide (-1000000000 ≤ n) && decide (n ≤ 1000000000)
theorem zkg (n : Int) : zau Tryz.prog 111 [.int .i64 n] (.bool (zaz n)) := by
  refine zaf zbp Tryz.func111 (by decide +kernel) rfl [1, 2] rfl rfl ?_
  refine tg [] rfl (by simp) ?_
  refine zab ⟨_, rfl, tV (congrArg _ ?_), trivial⟩
  simp [zaz]
def zx4 : D := .imm (.tup [])
theorem hmf : ∀ (fn : Fn) (first cap : Array Value) (w : World), (Instr.makeFunc fn first cap).run Tryz.prog w = .ok (.func fn first cap) w := fun _ _ _ _ => rfl
theorem ybu (p : Addr) (w : World) :
    CallsD Tryz.prog 108 #[.pointer (some p)] .returning w fun e u' w' => e = .returned (.tuple #[]) ∧ u' = .returning ∧ w' = w := by
  refine callsD_of_wpS Tryz.func108 rfl fun c₀ cs hu => ?_
  apply wpS_seq
  apply wpS_region
  simp [wpOpsS, go_sem, recoverD, hu, Tryz.ntmps108, Exit.thenS]
  apply wpS_seq
  apply wpS_region
  simp [wpOpsS, go_sem, Exit.thenS]
  refine wpS_cond (t := false) (by simp [Act.eval, Array.replicate]) ?_
  simp only [if_false, Bool.false_eq_true]
  refine wpS_of_wp (wp_skip ?_)
  cases c₀
  simp_all [bodyPostS, results, Tryz.results108]
theorem ybv (pb : Nat) (x : Value) (w : World) (hpb : pb < w.heap.size) (hx : w.cell? ⟨pb, 0, none⟩ = some x) (hz : w.frozen? ⟨pb, 0, none⟩ = false) :
    CallsD Tryz.prog 108 #[.pointer (some ⟨pb, 0, none⟩)] (.panicking [{ v := .iface 139 (.agg #[]), recovered := false }]) w fun e u' w' => e = .returned (.tuple #[]) ∧
      u' = .panicking [{ v := .iface 139 (.agg #[]), recovered := true }] ∧ w' = (w.setCell ⟨pb, 0, none⟩ (.bool false)).alloc (.cells #[] 139) := by
  refine callsD_of_wpS Tryz.func108 rfl fun c₀ cs hu => ?_
  change Code.wpS _ _ _ { tmps := #[.pointer (some ⟨pb, 0, none⟩), undef, undef, undef, undef, undef, undef, undef, undef, undef, undef, undef, undef, undef, undef], defers := [] } _ _
  apply wpS_seq
  apply wpS_region
  simp [wpOpsS, go_sem, recoverD, hu, Tryz.ntmps108, Exit.thenS]
  apply wpS_seq
  apply wpS_region
  simp [wpOpsS, go_sem, Exit.thenS]
  refine wpS_cond (t := true) (by simp [Act.eval, Array.replicate]) ?_
  simp only [if_true]
  refine wpS_of_wp ?_
  clear hu
  have hta : ∀ w : World, (Instr.typeAssert (.iface 139 (.agg #[])) 20 139 true).run Tryz.prog w = .ok (.tuple #[.agg #[], .bool true]) w := fun _ => by kernel_rfl
  have hx' : (w.alloc (.cells #[] 139)).cell? ⟨pb, 0, none⟩ = some x := by rw [World.cell?_alloc_past _ _ _ hpb]; exact hx
  have hz' : (w.alloc (.cells #[] 139)).frozen? ⟨pb, 0, none⟩ = false := by rw [RowKit.frozen?_alloc_cells]; exact hz
  go_wp2
  simp [bodyPostS, results, Tryz.results108]
theorem ybt (g : FuncId) (fi ca : Array Value) (w : World) (K : World → Prop) (Kp : World → Prop)
    (hen : (callFunc g (fi ++ ca)).run Tryz.prog (w.alloc (.cells #[.bool false] 4)) = .ok (.enter g (fi ++ ca)) (w.alloc (.cells #[.bool false] 4)))
    (hcall : Calls Tryz.prog g (fi ++ ca) (w.alloc (.cells #[.bool false] 4)) fun e w' => match e with
      | .returned _ => K w'
      | .panicked chain => chain = [{ v := .iface 139 (.agg #[]), recovered := false }] ∧ Kp w'
      | .outgrown => False)
    (hK : ∀ w', K w' → w'.heap[w.heap.size]? = some (.cells #[.bool false] 4 (0, 0))) (hKp : ∀ w', Kp w' → w'.heap[w.heap.size]? = some (.cells #[.bool false] 4 (0, 0))) :
    Calls Tryz.prog 94 #[.func (.func g) fi ca] w fun e w' => (e = .returned (.bool true) ∧ ∃ w1, K w1 ∧ w' = w1.setCell ⟨w.heap.size, 0, none⟩ (.bool true)) ∨
      (e = .returned (.bool false) ∧ ∃ w1, Kp w1 ∧ w' = (w1.setCell ⟨w.heap.size, 0, none⟩ (.bool false)).alloc (.cells #[] 139)) := by
  go_enter_defers Tryz.func94, Tryz.ntmps94
  have hmf := hmf
  go_wp2_with fail
  clear hen
  refine hcall.mono ?_
  intro e w' he
  cases e with
  | outgrown => exact he.elim
  | returned v =>
    have hc : w'.cell? ⟨w.heap.size, 0, none⟩ = some (.bool false) := by unfold World.cell?; simp [hK w' he]
    have hz : w'.frozen? ⟨w.heap.size, 0, none⟩ = false := by unfold World.frozen?; simp [hK w' he]
    simp only
    go_wp2
    refine leaves_cons (f := 108) (args := #[.pointer (some ⟨w.heap.size, 0, none⟩)]) (by simp) (by simp [go_sem]) ?_
    refine (ybu ⟨w.heap.size, 0, none⟩ _).mono ?_
    rintro e u' w'' ⟨rfl, rfl, rfl⟩
    simp [Leaves, settle, results, Tryz.results94, go_sem, hc]
    exact ⟨w', he, rfl⟩
  | panicked chain =>
    obtain ⟨rfl, he⟩ := he
    have hc : w'.cell? ⟨w.heap.size, 0, none⟩ = some (.bool false) := by unfold World.cell?; simp [hKp w' he]
    have hz : w'.frozen? ⟨w.heap.size, 0, none⟩ = false := by unfold World.frozen?; simp [hKp w' he]
    have hlt : w.heap.size < w'.heap.size := (Array.getElem?_eq_some_iff.1 (hKp w' he)).1
    refine leaves_cons (f := 108) (args := #[.pointer (some ⟨w.heap.size, 0, none⟩)]) (by simp) (by simp [go_sem]) ?_
    refine (ybv w.heap.size _ _ hlt hc hz).mono ?_
    rintro e u' w'' ⟨rfl, rfl, rfl⟩
    have hc2 : ((w'.setCell ⟨w.heap.size, 0, none⟩ (.bool false)).alloc (.cells #[] 139)).cell? ⟨w.heap.size, 0, none⟩ = some (.bool false) := by
      rw [zh3 (hKp w' he), World.cell?_alloc_past _ _ _ (by simpa using hlt)]
      unfold World.cell?
      simp [hlt]
    simp [Leaves, settle, results, Tryz.results94, go_sem, hc2]
    exact ⟨w', he, rfl⟩
theorem zu9 : ztm Tryz.prog 94 139 4 := fun g fi ca w K Kp h1 h2 h3 h4 => ybt g fi ca w K Kp h1 h2 h3 h4
theorem zpg {g : FuncId} {fg : Func} {cg : Code} (hg : Tryz.prog.funcs[g]? = some fg) (hn : (fg.name == "runtime.NumGoroutine") = false) (hc : fg.body = some cg) {t1 : TypeId} {s1 : Nat} {x1 y1 : List V} (hE : zc8 Tryz.prog g [.ref 1 0] [(1, some (.immb t1 s1 x1))] (.ret zx4 [(1, some (.immb t1 s1 y1))])) :
    zc8 Tryz.prog 59 [.fn (.func g) [] [.ref 1 0]] [(1, some (.immb t1 s1 x1))] (.ret (.imm (.int .i64 0)) [(1, some (.immb t1 s1 y1))]) := by
  refine zaf zbp Tryz.func59 (by decide +kernel) rfl [2, 3, 4] rfl rfl ?_
  refine tg [] rfl (by simp) ?_
  refine zas (fr := []) [(1, 1)] [] rfl (by simp) (ykm Tryz.func94 (by decide +kernel) rfl zu9 hg hn hc hE) ⟨⟨rfl, rfl, rfl⟩, trivial⟩ rfl rfl rfl rfl ?_
  refine tg [.a] rfl (by simp) ?_
  exact zab ⟨_, rfl, tV rfl, ⟨rfl, trivial⟩⟩
theorem zs8 {g : FuncId} {fg : Func} {cg : Code} (hg : Tryz.prog.funcs[g]? = some fg) (hn : (fg.name == "runtime.NumGoroutine") = false) (hc : fg.body = some cg) {t1 : TypeId} {s1 : Nat} {x1 : List V} (hE : zc8 Tryz.prog g [.ref 1 0] [(1, some (.immb t1 s1 x1))] (.pan zn8)) :
    zc8 Tryz.prog 59 [.fn (.func g) [] [.ref 1 0]] [(1, some (.immb t1 s1 x1))] (.ret (.imm (.int .i64 2)) []) := by
  refine zaf zbp Tryz.func59 (by decide +kernel) rfl [2, 3, 4] rfl rfl ?_
  refine tg [] rfl (by simp) ?_
  refine zas (fr := []) [(1, 1)] [] rfl (by simp) (ynl Tryz.func94 (by decide +kernel) rfl zu9 hg hn hc hE) ⟨⟨rfl, rfl, rfl⟩, trivial⟩ rfl rfl rfl rfl ?_
  refine tg [.a] rfl (by simp) ?_
  exact zab ⟨_, rfl, tV rfl, trivial⟩
def yb1 (b : Bool) : V := .int .i64 (bif b then 0 else 2)
end Go.Hk
namespace Go.Hk
open Go.MapKept
def eqK : V → V → Bool
  | .str a, .str b => a == b
  | .int _ a, .int _ b => a == b
  | .bool a, .bool b => a == b
  | _, _ => false
def zwr : List (V × V) → V → Option V
  | [], _ => none
  | (k, d) :: r, x => if eqK x k then some d else zwr r x
def zxs : List (V × V) → V → V → List (V × V)
  | [], x, d => [(x, d)]
  | (k, e) :: r, x, d => if eqK x k then (x, d) :: r else (k, e) :: zxs r x d
def zs5 : Sh → Option TypeDesc
  | .str => some .string
  | .int k => some (.int k)
  | _ => none
def ybs : Sh → V → Bool
  | .str, .str _ => true
  | .int k, .int k' _ => decide (k' = k)
  | _, _ => false
section
variable {P : Program} {n : Nat} {F : List Nat} {Q : DQ} {tt : TT} {env env' : Env} {st st' : St} {ids ids' : List Nat} {k todo todo' : List DI} {I : Imm} {μ : Mu} {w : World} {a : Act} {Pn : V → Prop} {d : D} {cx : Prop} {ob : List Prop}
theorem zz6 {t : TypeId} {sh : Sh} {dd : TypeDesc} (h : zs5 sh = some dd) (hs : yl6 P t sh) : P.underlying t = some dd := by
  cases sh <;> simp only [zs5, reduceCtorEq, Option.some.injEq] at h <;> subst h <;> exact hs
theorem zmv {sh : Sh} {dd : TypeDesc} {v : Value} {x : V} (h : zs5 sh = some dd) (hk : ybs sh x = true) (hv : RepV I v x) : IsKey dd v := by
  cases sh <;> simp only [zs5, reduceCtorEq, Option.some.injEq] at h <;> subst h <;> cases x <;> simp [ybs] at hk <;> cases hv <;> simp [IsKey, hk]
theorem yqp {sh : Sh} {v u : Value} {x y : V} (hx : ybs sh x = true) (hy : ybs sh y = true) (hv : RepV I v x) (hu : RepV I u y) : eqK x y = true ↔ v = u := by
  cases x with
  | str a =>
    cases y with
    | str b =>
      obtain ⟨s, rfl, rfl⟩ := hv.strInv
      obtain ⟨t, rfl, rfl⟩ := hu.strInv
      simp only [eqK, beq_iff_eq, Value.string.injEq]
      constructor
      · intro h
        obtain ⟨⟨s⟩⟩ := s
        obtain ⟨⟨t⟩⟩ := t
        simp at h
        rw [h]
      · intro h; rw [h]
    | _ => cases sh <;> simp [ybs] at hx hy
  | int k i =>
    cases y with
    | int k' j =>
      obtain rfl := hv.intInv
      obtain rfl := hu.intInv
      cases sh <;> simp [ybs] at hx hy
      subst hx; subst hy
      simp [eqK]
    | _ => cases sh <;> simp [ybs] at hx hy
  | _ => cases sh <;> simp [ybs] at hx
theorem zw1 {sh : Sh} {dd : TypeDesc} {v : Value} {x : V} (hd : zs5 sh = some dd) (hk : ybs sh x = true) (hv : RepV I v x) : ∀ (l : List MapEntry) (kv : List (V × V)) (i : Nat), l.length = kv.length →
    (∀ (j : Nat) (e : MapEntry) (p : V × V), l[j]? = some e → kv[j]? = some p → RepV I e.key p.1 ∧ RepV I e.val p.2) → (∀ p ∈ kv, ybs sh p.1 = true) →
    (Instr.findNow dd v l i = some none ∧ zwr kv x = none ∧ (∀ y, zxs kv x y = kv ++ [(x, y)]) ∧ ∀ e ∈ l, e.key ≠ v) ∨
      ∃ j e y, Instr.findNow dd v l i = some (some (i + j, e.val)) ∧ l[j]? = some e ∧ e.key = v ∧ zwr kv x = some y ∧ RepV I e.val y ∧ ∀ z, zxs kv x z = kv.set j (x, z)
  | [], [], i, _, _, _ => .inl ⟨rfl, rfl, fun _ => rfl, fun _ h => by cases h⟩
  | [], _ :: _, _, h, _, _ => by simp at h
  | _ :: _, [], _, h, _, _ => by simp at h
  | e :: l, p :: kv, i, hl, h, hkv => by
    obtain ⟨h1, h2⟩ := h 0 e p rfl rfl
    obtain ⟨y, dy⟩ := p
    have hky := hkv (y, dy) (by simp)
    obtain ⟨r, hr, hiff⟩ := sameNow_of_keys (zmv hd hk hv) (zmv hd hky h1)
    have he := yqp hk hky hv h1
    cases r with
    | true =>
      have hvy := hiff.1 rfl
      have := he.2 hvy
      exact .inr ⟨0, e, dy, by simp [Instr.findNow, hr], rfl, hvy.symm, by simp [zwr, this], h2, fun z => by simp [zxs, this]⟩
    | false =>
      have hne : v ≠ e.key := fun q => by have := hiff.2 q; cases this
      have hf : eqK x y = false := by
        cases hq : eqK x y with
        | false => rfl
        | true => exact absurd (he.1 hq) hne
      rcases zw1 hd hk hv l kv (i + 1) (by simpa using hl) (fun j e' p' a b => h (j + 1) e' p' (by simpa using a) (by simpa using b)) (fun p' hp => hkv p' (by simp [hp])) with ⟨q1, q2, q3, q4⟩ | ⟨j, e', y', q1, q2, q3, q4, q5, q6⟩
      · refine .inl ⟨by simp [Instr.findNow, hr, q1], by simp [zwr, hf, q2], fun z => by simp [zxs, hf, q3], fun e' he' => ?_⟩
        rcases List.mem_cons.1 he' with rfl | he'
        · exact fun q => hne q.symm
        · exact q4 e' he'
      · exact .inr ⟨j + 1, e', y', by simp [Instr.findNow, hr, q1]; omega, by simpa using q2, q3, by simp [zwr, hf, q4], q5, fun z => by simp [zxs, hf, q6]⟩
def pmk (n : Nat) (ids : List Nat) (todo : List DI) : Option (Nat × List Nat × Option Nat × List DI) :=
  match yhb todo, ids with
  | some o, id' :: ids' => match o.guard, o.op with
    | none, .makeMap _ none => match zdg n o.dst, zcr todo ([], [id']) with
      | true, some (_, _, todo') => some (id', ids', o.dst, todo')
      | _, _ => none
    | _, _ => none
  | _, _ => none
theorem zjt {i0 : Nat} {ids0 : List Nat} {d0 : Option Nat} {todo0 : List DI} (h : pmk n ids todo = some (i0, ids0, d0, todo0)) (hk : G P n F Q todo0 (zei d0 (.mapr i0) env) ((i0, some (.map [])) :: st) ids0) : G P n F Q todo env st ids := by
  unfold pmk at h
  split at h
  · rename_i o id' ids' ho
    split at h
    · rename_i t hg hop
      split at h
      · rename_i all o' todo' hd h1
        cases h
        have ho' : o' = o := zdx ho h1
        subst ho'
        refine zc5 (fr := [i0]) (wr := [(i0, some (.map []))]) (rd := []) h1 ?_ hd (fun c hc => by rw [hop] at hc; cases hc) hk
        intro I μ st1 ids1 a w hag hst hon
        refine ⟨fun _ => ?_, fun hw => by rw [zax hg] at hw; cases hw⟩
        have hrun : (execOp a.eval o').run P w = .ok (.value (.map (some w.heap.size))) (w.alloc (.map #[] 0)) := by
          simp only [execOp, hop, Option.map_none]
          refine zfc ?_
          simp only [Instr.makeMap, Sem.run_bind, Result.andThen_ok, Sem.run_pure, run_newObj]
          rfl
        rw [hrun]
        obtain ⟨μ', q1, q2, q3, q4⟩ := hst.allocO (.map #[] 0) (.map (some w.heap.size)) (fun _ h => Eq.symm h) (.map []) (fun μ' _ => ⟨w.heap.size, #[], 0, rfl, zhd w _, rfl, stamped_empty 0, fun i e p h => by simp at h⟩)
        exact ⟨I, μ', q3, .mapr _ _ q1, q2, q4⟩
      · cases h
    · cases h
  · cases h
theorem yjx {id : Nat} {kv : List (V × V)} {v : Value} (hst : StRep I μ st ids w) (hl : zat st id (.map kv)) (hv : RepD I μ v (.mapr id)) :
    ∃ b es clock, v = .map (some b) ∧ μ id = some v ∧ w.heap[b]? = some (.map es clock) ∧ es.size = kv.length ∧ Stamped es clock ∧ ∀ (i : Nat) (e : MapEntry) (p : V × V), es[i]? = some e → kv[i]? = some p → RepV I e.key p.1 ∧ RepV I e.val p.2 := by
  cases hv with
  | mapr _ b hm =>
    obtain ⟨g, hg, b', es, clock, rfl, h1, h2, h3, h4⟩ := hst.blk id _ hl
    rw [hm] at hg; cases hg
    exact ⟨b, es, clock, rfl, hm, h1, h2, h3, h4⟩
def ypt : Op → Option (TypeId × Operand × Operand × Operand)
  | .mapUpdate t m x y => some (t, m, x, y)
  | .insert t m x y => some (t, m, x, y)
  | _ => none
theorem zyh {op : Op} {t : TypeId} {m x y : Operand} (h : ypt op = some (t, m, x, y)) : (op = .mapUpdate t m x y ∨ op = .insert t m x y) ∧ ∀ z ∈ [m, x, y], z ∈ op.operands.toList := by
  unfold ypt at h
  split at h
  · cases h; exact ⟨.inl rfl, by simp [Op.operands]⟩
  · cases h; exact ⟨.inr rfl, by simp [Op.operands]⟩
  · cases h
def pmset (tt : TT) (env : Env) (st : St) (todo : List DI) : Option (Nat × List (V × V) × Sh × V × V × List DI) :=
  match yhb todo with
  | some o => match o.guard, ypt o.op with
    | none, some (t, m, x, y) => match o.dst, lk tt t, evO env m, evO env x, evO env y with
      | none, some { sh := .map kt _, .. }, some (.mapr id), some (.imm kx), some dy => match lk tt kt, lk st id, zcr todo ([id], [id]), toV dy with
        | some i, some (some (.map kv)), some (_, _, todo'), some vy => some (id, kv, i.sh, kx, vy, todo')
        | _, _, _, _ => none
      | _, _, _, _, _ => none
    | _, _ => none
  | none => none
theorem zo9 (htt : TTok P tt) {i0 : Nat} {kv : List (V × V)} {sh : Sh} {kx : V} {dy : V} {todo0 : List DI} {dd : TypeDesc} (h : pmset tt env st todo = some (i0, kv, sh, kx, dy, todo0)) (hd : zs5 sh = some dd) (hk : ybs sh kx = true)
    (hkv : ∀ p ∈ kv, ybs sh p.1 = true) (hg : G P n F Q todo0 env ((i0, some (.map (zxs kv kx dy))) :: st) ids) : G P n F Q todo env st ids := by
  unfold pmset at h
  split at h
  · rename_i o ho
    split at h
    · rename_i t m x y hgd hop
      split at h
      · rename_i kt et _ _ _ _ id kx' dy' hdst ht hm hx hy
        split at h
        · rename_i i kv' all o' todo' vy hi hl h1 hng
          cases h
          have ho' : o' = o := zdx ho h1
          subst ho'
          have hg : G P n F Q todo0 (zei o'.dst .undef env) ((i0, some (.map (zxs kv kx dy))) :: st) ids := by rw [hdst]; exact hg
          refine zc5 (fr := []) (wr := [(i0, some (.map (zxs kv kx dy)))]) (rd := [i0]) h1 ?_ (by simp [zdg, hdst]) (fun c hc => by rcases (zyh hop).1 with e | e <;> rw [e] at hc <;> cases hc) hg
          intro I μ st1 ids1 a w hag hst hon
          refine ⟨fun _ => ?_, fun hw => by rw [zax hgd] at hw; cases hw⟩
          have hops := zbo hon
          obtain ⟨hop2, hop3⟩ := zyh hop
          have hl1 : zat st1 i0 (.map kv) := by unfold zat; rw [hag i0 (by simp)]; exact hl
          obtain ⟨b, es, clock, e1, hmu, hheap, hlen, hst2, hent⟩ := yjx hst hl1 (hops m (hop3 m (by simp)) _ hm)
          have rx := (hops x (hop3 x (by simp)) _ hx).immInv
          have ry := zv7 hng (hops y (hop3 y (by simp)) _ hy)
          have hu : P.underlying t = some (.map kt et) := htt.sh ht
          have hkd : P.underlying kt = some dd := zz6 hd (htt.sh hi)
          have hik := zmv hd hk rx
          have hbl := zcz hheap
          have fin : ∀ (es' : Array MapEntry) (c' : Nat), (Instr.mapUpdate t (.map (some b)) (a.eval x) (a.eval y)).run P w = .ok () { w with heap := w.heap.setIfInBounds b (.map es' c') } → es'.size = (zxs kv kx dy).length → Stamped es' c' →
              (∀ (i : Nat) (e : MapEntry) (p : V × V), es'[i]? = some e → (zxs kv kx dy)[i]? = some p → RepV I e.key p.1 ∧ RepV I e.val p.2) →
              valX P ((execOp a.eval o').run P w) (fun v w' => ∃ I' μ', StRep I' μ' ([(i0, some (.map (zxs kv kx dy)))] ++ st1) ids1 w' ∧ RepD I' μ' v .undef ∧ μ.le μ' ∧ Ext I μ st1 w I' μ' ([(i0, some (.map (zxs kv kx dy)))] ++ st1) w') (yg9 (yl2 Q) I μ st1 w) := by
            intro es' c' hr h2 h3 h4
            have hrun : (execOp a.eval o').run P w = .ok .skip { w with heap := w.heap.setIfInBounds b (.map es' c') } := by
              rcases hop2 with e | e <;> (simp only [execOp, e, e1]; simp [hr])
            rw [hrun]
            obtain ⟨q1, q2⟩ := hst.update (blk' := .map (zxs kv kx dy)) (w' := { w with heap := w.heap.setIfInBounds b (.map es' c') }) hl1 hmu (by rw [e1]; rfl) (by simp) rfl rfl rfl
              (fun k hk => Array.getElem?_setIfInBounds_ne (Ne.symm hk)) ⟨b, es', c', e1, by simp [hbl], h2, h3, h4⟩
            exact ⟨I, μ, q1, .undef _, Mu.le_refl μ, q2⟩
          rcases zw1 (I := I) hd hk rx es.toList kv 0 (by simpa using hlen) (fun j e p h1 h2 => hent j e p (by simpa using h1) h2) hkv with ⟨q1, _, q3, q4⟩ | ⟨j, e, y', q1, q2, q3, _, q5, q6⟩
          · refine fin _ _ ?_ (by rw [q3]; simp [hlen]) (stamped_push hst2 (key := a.eval x) (val := a.eval y) q4) fun i e p h1 h2 => ?_
            · simp [Instr.mapUpdate, run_underlying hu, MapKept.run_getObj_map hheap, MapKept.run_checkKey hkd hik, MapKept.run_findKey hkd q1, MapKept.run_setObj_map _ hheap, Result.andThen]
            · rw [q3] at h2
              rw [Array.getElem?_push] at h1
              rw [List.getElem?_append] at h2
              by_cases hi : i = es.size
              · rw [if_pos hi] at h1; cases h1
                rw [if_neg (by omega)] at h2
                rw [show i - kv.length = 0 by omega] at h2
                cases h2
                exact ⟨rx, ry⟩
              · rw [if_neg hi] at h1
                have := (Array.getElem?_eq_some_iff.1 h1).1
                rw [if_pos (by omega)] at h2
                exact hent i e p h1 h2
          · have hj : es[j]? = some e := by simpa using q2
            have hkey : ∀ e', es[j]? = some e' → ({ e' with key := a.eval x, val := a.eval y } : MapEntry).key = e'.key := fun e' he' => by rw [hj] at he'; cases he'; exact q3.symm
            refine fin (es.modify j fun e => { e with key := a.eval x, val := a.eval y }) clock ?_ (by rw [q6]; simp [hlen]) (stamped_modify hst2 _ _ (fun _ _ => rfl) (fun e' _ he' => hkey e' he')) fun i e' p h1 h2 => ?_
            · simp [Instr.mapUpdate, run_underlying hu, MapKept.run_getObj_map hheap, MapKept.run_checkKey hkd hik, MapKept.run_findKey hkd q1, hj, q3, MapKept.run_keyThatStays hik, MapKept.run_setObj_map _ hheap, Result.andThen]
            · rw [q6] at h2
              rw [Array.getElem?_modify] at h1
              rw [List.getElem?_set] at h2
              by_cases hi : j = i
              · subst hi
                rw [if_pos rfl, hj] at h1
                cases h1
                rw [if_pos rfl] at h2
                split at h2
                · cases h2; exact ⟨rx, ry⟩
                · cases h2
              · rw [if_neg hi] at h1 h2
                exact hent i e' p h1 h2
        · cases h
      · cases h
    · cases h
  · cases h
structure PMl where
  kv : List (V × V)
  sh : Sh
  kx : V
  et : TypeId
  two : Bool
  g : Option (Bool × Bool)
  ob : List Prop
  t : Nat
  todo : List DI
def yoz (tt : TT) (n : Nat) (env : Env) (st : St) (nm : Nat) (todo : List DI) : Option PMl :=
  match zcr todo ([nm], []) with
  | some (all, o, todo') => match o.op, zea all env o with
    | .lookup t m k two, some g => match lk tt t, ycq (zag g) env m, ycq (zag g) env k with
      | some { sh := .map kt et, .. }, some (.mapr id, o1), some (.imm kx, o2) => match Nat.beq id nm, lk tt kt, lk st id, zdg n o.dst with
        | true, some i, some (some (.map kv)), true => match o.dst with
          | some t => some ⟨kv, i.sh, kx, et, two, g, cat o1 o2, t, todo'⟩
          | none => none
        | _, _, _, _ => none
      | _, _, _ => none
    | _, _ => none
  | none => none
theorem zpm {t : TypeId} {z : Value} (h : (P.info? t).bind (·.zero) = some z) : (zeroValue t).run P w = .ok z w := by
  cases hi : P.info? t with
  | none => rw [hi] at h; cases h
  | some inf =>
    rw [hi] at h
    have h : inf.zero = some z := h
    simp [zeroValue, typeInfo, hi, h]
def zzj (two : Bool) (kv : List (V × V)) (x : V) (zd : V) : D :=
  let r := match zwr kv x with
    | some y => (y, true)
    | none => (zd, false)
  if two then .imm (.tup [r.1, .bool r.2]) else .imm r.1
theorem zn6 (htt : TTok P tt) (nm : Nat) {kv : List (V × V)} {sh : Sh} {kx : V} {et : TypeId} {two : Bool} {g : Option (Bool × Bool)} {ob : List Prop} {t0 : Nat} {todo0 : List DI} {dd : TypeDesc} {z : Value} {zd : V} {dr : D}
    (h : yoz tt n env st nm todo = some ⟨kv, sh, kx, et, two, g, ob, t0, todo0⟩) (hd : zs5 sh = some dd) (hk : ybs sh kx = true) (hkv : ∀ p ∈ kv, ybs sh p.1 = true) (hob : zb7 ob)
    (hz : (P.info? et).bind (·.zero) = some z) (hzr : ∀ I, RepV I z zd) (hdr : zzj two kv kx zd = dr) (hg : G P n F Q todo0 ((t0, gD g dr) :: env) st ids) : G P n F Q todo env st ids := by
  unfold yoz at h
  split at h
  · rename_i all o todo' h1
    split at h
    · rename_i t m k two' g' hop hgd
      split at h
      · rename_i kt et' _ _ _ _ id o1 kx' o2 ht hm hx
        split at h
        · rename_i i kv' hid hi hl hdo
          split at h
          · rename_i t' hdst
            cases h
            have hid := Nat.eq_of_beq_eq_true hid
            subst hid
            subst hdr
            have hg : G P n F Q todo0 (zei o.dst (gD g (zzj two kv kx zd)) env) st ids := by rw [hdst]; exact hg
            refine zc5 (fr := []) (wr := []) (rd := [id]) h1 (zep hgd fun I μ st1 ids1 a w hag hst hops hcx => ?_) hdo (fun c hc => by rw [hop] at hc; cases hc) hg
            rw [hop] at hops
            obtain ⟨ho1, ho2⟩ := zbh hob
            have rm := zd4 hm ho1 hcx (hops m (by simp [Op.operands]))
            have rx := (zd4 hx ho2 hcx (hops k (by simp [Op.operands]))).immInv
            have hl1 : zat st1 id (.map kv) := by unfold zat; rw [hag id (by simp)]; exact hl
            obtain ⟨b, es, clock, e1, hmu, hheap, hlen, hst2, hent⟩ := yjx hst hl1 rm
            have hu : P.underlying t = some (.map kt et) := htt.sh ht
            have hkd : P.underlying kt = some dd := zz6 hd (htt.sh hi)
            have hik := zmv hd hk rx
            have fin : ∀ (v : Value) (ok : Bool) (d : V), (Instr.lookup t (.map (some b)) (a.eval k) two).run P w = .ok (if two then .tuple #[v, .bool ok] else v) w → RepV I v d →
                zzj two kv kx zd = (if two then .imm (.tup [d, .bool ok]) else .imm d) →
                valX P ((execOp a.eval o).run P w) (fun u w' => ∃ I' μ', StRep I' μ' st1 ids1 w' ∧ RepD I' μ' u (zzj two kv kx zd) ∧ μ.le μ' ∧ Ext I μ st1 w I' μ' st1 w') (yg9 (yl2 Q) I μ st1 w) := by
              intro v ok d hr hv he
              have hrun : (execOp a.eval o).run P w = .ok (.value (if two then .tuple #[v, .bool ok] else v)) w := by
                simp only [execOp, hop, e1]
                exact zao hr
              rw [hrun]
              refine ⟨I, μ, hst, ?_, Mu.le_refl μ, Ext.refl _ _ _ _⟩
              rw [he]
              cases two with
              | false => exact .imm _ _ hv
              | true =>
                refine .imm _ _ (.tup _ _ rfl fun i c x hc hx => ?_)
                match i, hc, hx with
                | 0, hc, hx => cases hc; cases hx; exact hv
                | 1, hc, hx => cases hc; cases hx; exact .bool _
                | i + 2, hc, hx => simp at hx
            rcases zw1 (I := I) hd hk rx es.toList kv 0 (by simpa using hlen) (fun j e p h1 h2 => hent j e p (by simpa using h1) h2) hkv with ⟨q1, q2, _, _⟩ | ⟨j, e, y', q1, q2, q3, q4, q5, q6⟩
            · refine fin z false zd ?_ (hzr I) (by simp [zzj, q2])
              simp [Instr.lookup, run_underlying hu, MapKept.run_getObj_map hheap, MapKept.run_checkKey hkd hik, MapKept.run_findKey hkd q1, zpm hz, Result.andThen]
            · refine fin e.val true y' ?_ q5 (by simp [zzj, q4])
              simp [Instr.lookup, run_underlying hu, MapKept.run_getObj_map hheap, MapKept.run_checkKey hkd hik, MapKept.run_findKey hkd q1, Result.andThen]
          · cases h
        · cases h
      · cases h
    · cases h
  · cases h
end
end Go.Hk
namespace Go.Hk
open Go.Proofs
def ttP : TT := ttT ++ [
  (61, ⟨.map 9 4, false, 1, 8, [.imm .nilmap]⟩)]
theorem zi4 : TTok Tryz.prog ttP := .of_eq (l := [4, 3, 9, 26, 58, 22, 24, 5, 36, 23, 56, 29, 139, 83, 1, 61]) (by kernel_rfl)
section
variable {n : Nat} {F : List Nat} {Q : DQ} {env env' : Env} {st st' : St} {ids ids' : List Nat} {k todo : List DI} {ob : List Prop}
theorem pd (path : List Pt) (h : run ttP n 300 path todo env st ids [] = .at k env' st' ids' ob) (hob : zb7 ob) (hd : G Tryz.prog n F Q k env' st' ids') : DGo Tryz.prog n F Q todo env st ids := zpu zi4 mixed 300 path h hob hd
theorem pg (path : List Pt) (h : run ttP n 300 path todo env st ids [] = .at k env' st' ids' ob) (hob : zb7 ob) (hd : G Tryz.prog n F Q k env' st' ids') : G Tryz.prog n F Q todo env st ids := zpr zi4 mixed 300 path h hob hd
theorem pi {es : List (List V)} {m : Int} {sz : Nat} {e : TypeId} {g : Option (Bool × Bool)} {ob : List Prop} {t : Nat} {todo' : List DI} {c : List V} (h : yi6 ttP n env todo = some ⟨es, m, sz, e, g, ob, some t, todo'⟩)
    (hc : zag g → 0 ≤ m ∧ es[m.toNat]? = some c ∧ c.length = sz) (hob : zb7 ob) (hk : G Tryz.prog n F Q todo' ((t, gD g (.ip e c 0)) :: env) st ids) : G Tryz.prog n F Q todo env st ids := zie zi4 h hc hob hk
end
def ze7 (l : List Str) : List (V × V) := l.map fun s => (.str s, .bool true)
def yl0 (l : List Str) : Blk := .map (ze7 l)
theorem zdc (l : List Str) : ∀ p ∈ ze7 l, ybs .str p.1 = true := by
  intro p hp
  obtain ⟨s, _, rfl⟩ := List.mem_map.1 hp
  rfl
theorem yoc (s x : Str) : (s == x) = (x == s) := by
  rw [Bool.eq_iff_iff, beq_iff_eq, beq_iff_eq]; exact ⟨Eq.symm, Eq.symm⟩
theorem yhz (l : List Str) (s : Str) : zwr (ze7 l) (.str s) = if zck l s then some (.bool true) else none := by
  induction l with
  | nil => rfl
  | cons x r ih =>
    simp only [ze7, List.map_cons, zwr, eqK, zck] at ih ⊢
    rw [ih]
    by_cases h : x = s
    · subst h; simp
    · have h1 : (s == x) = false := by simpa using fun e => h e.symm
      have h2 : (x == s) = false := by simpa using h
      simp [h1, h2]
theorem zhk (l : List Str) (s : Str) : zzj false (ze7 l) (.str s) (.bool false) = .imm (.bool (zck l s)) := by
  simp only [zzj, yhz]
  cases zck l s <;> rfl
theorem zwd (l : List Str) (s : Str) (h : zck l s = false) : zxs (ze7 l) (.str s) (.bool true) = ze7 (l ++ [s]) := by
  induction l with
  | nil => rfl
  | cons x r ih =>
    simp only [zck, Bool.or_eq_false_iff] at h
    have h1 : (s == x) = false := by rw [yoc]; exact h.1
    simp only [ze7, List.map_cons, zxs, eqK, h1, List.cons_append] at ih ⊢
    simp [ih h.2]
theorem zgt : ∀ (a b p : List Str), zbm p (a ++ b) = (zbm p a && zbm (p ++ a) b)
  | [], b, p => by simp [zbm]
  | x :: r, b, p => by simp [zbm, zgt r b (p ++ [x]), Bool.and_assoc]
theorem zqv : ∀ (t : Ty) (met : List Str), (zca t && zbm met (za1 t)) = true → zc8 Tryz.prog 128 [.imm (.agg (zb0 t)), .mapr 1] [(1, some (yl0 met))] (.ret zx4 [(1, some (yl0 (met ++ za1 t)))])
  | .mk s n x ps, met, hy => by
    refine zjw 0 rfl fun hok => ?_
    have hv : ps.length ≤ 9223372036854775807 := by
      simp [zk9, vOk, zb0, maxLen] at hok
      have := hok.1
      omega
    refine zaf zi4 Tryz.func128 (by decide +kernel) rfl [2, 3, 4] rfl rfl ?_
    have J : ∀ m0 : List Str, (zbq ps && zbm m0 (zav ps)) = true → m0 ++ zav ps = met ++ za1 (.mk s n x ps) → DGo Tryz.prog Tryz.f128.ntmps (nms [(1, some (yl0 met))]) (yar ttP Tryz.f128.results.toList (.ret zx4 [(1, some (yl0 (met ++ za1 (.mk s n x ps))))]))
        [.code (zg0 Tryz.f128 2)] [(1, .mapr 1), (2, .ref 2 0)] [(2, some (.immb 58 4 (zb0 (.mk s n x ps)))), (1, some (yl0 m0))] [3, 4] := by
      intro m0 hy he
      refine pd [] rfl (by simp) ?_
      refine zah (fun i : Nat => [(113, .imm (.int .i64 i)), (112, .imm (.int .i64 ps.length)), (111, .imm (.sl (zb8 ps))), (1, .mapr 1), (2, .ref 2 0)]) (fun i => [(2, some (.immb 58 4 (zb0 (.mk s n x ps)))), (1, some (yl0 (m0 ++ zav (ps.take i))))]) [3, 4] (fun i => ps.length - i)
        (fun i => i ≤ ps.length ∧ (zbq (ps.drop i) && zbm (m0 ++ zav (ps.take i)) (zav (ps.drop i))) = true) 0 ⟨Nat.zero_le _, by simpa [zav] using hy⟩ ⟨rfl, zcn (by simp), rfl, rfl, rfl, trivial⟩ ⟨rfl, by simp [zav]; rfl, trivial⟩ rfl fun i hi ih => ?_
      refine pd [] rfl (by simp) ?_
      have hi2 := hi.2
      refine zaa rfl (fun h => ?_) (fun h => ?_)
      · simp at h
        obtain ⟨t, ht⟩ := zal h
        have htk : zav (ps.take (i + 1)) = zav (ps.take i) ++ za1 t := by rw [zbk ht, ze1]; simp [zav]
        rw [zap ht] at hi2
        simp only [zbq, zav, zgt] at hi2
        refine pd [] rfl (by simp) ?_
        refine pi rfl (c := zb0 t) (fun _ => ⟨by simp, by simpa using zb6 ht, by simp⟩) (by simp) ?_
        refine pg [] rfl (by simp) ?_
        refine zas (fr := []) [(1, 1)] [] rfl (by simp) (zqv t (m0 ++ zav (ps.take i)) (by simp only [Bool.and_eq_true] at hi2 ⊢; exact ⟨hi2.1.1, hi2.2.1⟩)) ⟨⟨rfl, rfl, rfl⟩, trivial⟩ rfl rfl rfl rfl ?_
        refine pg [] rfl (by simp) ?_
        exact zae (ih (i + 1) (by omega) ⟨by omega, by rw [htk, ← List.append_assoc]; simp only [Bool.and_eq_true] at hi2 ⊢; exact ⟨hi2.1.2, hi2.2.2⟩⟩) ⟨zcn (w64 (by omega) (by omega)), rfl, rfl, rfl, rfl, trivial⟩ ⟨rfl, by rw [htk, ← List.append_assoc]; rfl, trivial⟩ rfl
      · refine pd [] rfl (by simp) ?_
        simp at h
        refine zcf ⟨_, rfl, rfl, ⟨?_, trivial⟩⟩
        rw [List.take_of_length_le (by omega), he]
        rfl
    simp only [zca, Bool.and_eq_true] at hy
    obtain ⟨⟨hp, hps⟩, hdf⟩ := hy
    by_cases h1 : s = 1
    · subst h1
      simp [zh6, inI] at hp
      refine pg [.a, .a] rfl (by simp [zag] <;> grind) ?_
      refine zac rfl (fun _ => zch _ (by simp [zaz] at hp ⊢; grind)) (by simp) ?_
      refine pg [.s] rfl (by simp) ?_
      exact zae (J met (by simpa [za1, hps] using hdf) (by simp [za1])) ⟨rfl, rfl, trivial⟩ ⟨rfl, rfl, trivial⟩ rfl
    by_cases h5 : s = 5
    · subst h5
      simp [zh6, inI] at hp
      refine pg [.a, .a] rfl (by simp [zag] <;> grind) ?_
      refine zac rfl (fun _ => zch _ (by simp [zaz] at hp ⊢; grind)) (by simp) ?_
      refine pg [.s] rfl (by simp) ?_
      exact zae (J met (by simpa [za1, hps] using hdf) (by simp [za1])) ⟨rfl, rfl, trivial⟩ ⟨rfl, rfl, trivial⟩ rfl
    by_cases h3 : s = 3
    · subst h3
      simp [zh6, inI] at hp
      refine pg [.a, .a, .a, .a] rfl (by simp [zag] <;> grind) ?_
      refine zac rfl (fun _ => zkg n) (by simp [zag]) ?_
      refine pg [] rfl (by simp [zag]) ?_
      refine zac rfl (fun _ => zch _ (by simp [zaz] at hp ⊢; grind)) (by simp) ?_
      refine pg [.s] rfl (by simp) ?_
      exact zae (J met (by simpa [za1, hps] using hdf) (by simp [za1])) ⟨rfl, rfl, trivial⟩ ⟨rfl, rfl, trivial⟩ rfl
    by_cases h4 : s = 4
    · subst h4
      simp [zh6, inI] at hp
      refine pg [.a, .a, .a, .a, .a] rfl (by simp [zag] <;> grind) ?_
      refine zac rfl (fun _ => zch _ (by obtain ⟨⟨rfl, rfl⟩, ha, hb⟩ := hp; have : n = 0 ∨ n = 1 := (by omega); rcases this with rfl | rfl <;> simp)) (by simp) ?_
      refine pg [.s] rfl (by simp) ?_
      exact zae (J met (by simpa [za1, hps] using hdf) (by simp [za1])) ⟨rfl, rfl, trivial⟩ ⟨rfl, rfl, trivial⟩ rfl
    by_cases h6 : s = 6
    · subst h6
      simp [zh6, inI] at hp
      refine pg [.a, .a, .a, .a, .a, .a] rfl (by simp [zag] <;> grind) ?_
      refine zac rfl (fun _ => zi6 x) (by simp [zag]) ?_
      refine pg [] rfl (by simp [zag]) ?_
      refine zac rfl (fun _ => zch _ (by simp [zaz] at hp ⊢; grind)) (by simp) ?_
      refine pg [.s] rfl (by simp) ?_
      exact zae (J met (by simpa [za1, hps] using hdf) (by simp [za1])) ⟨rfl, rfl, trivial⟩ ⟨rfl, rfl, trivial⟩ rfl
    by_cases h2 : s = 2
    · subst h2
      simp [zh6, inI] at hp
      refine pg [.a, .a, .a] rfl (by simp [zag] <;> grind) ?_
      refine zac rfl (fun _ => zfy x) (by simp [zag]) ?_
      refine pg [] rfl (by simp [zag]) ?_
      have hx : zck met x = false := by simpa [za1, zbm] using hdf
      refine zn6 zi4 1 rfl rfl rfl (zdc met) (by simp [zag]) (z := .bool false) rfl (fun _ => .bool _) (zhk met x) ?_
      refine pg [] rfl (by simp [zag]) ?_
      refine zac rfl (fun _ => zch _ (by simp at hp ⊢; rw [hx]; grind)) (by simp) ?_
      refine pg [] rfl (by simp) ?_
      refine zo9 zi4 rfl rfl rfl (zdc met) ?_
      rw [zwd met x hx]
      have he : ps = [] := by simpa using hp.1.1
      subst he
      refine pg [.s] rfl (by simp) ?_
      exact zae (J (met ++ [x]) (by simp [zbq, zav, zbm]) (by simp [za1, zav])) ⟨rfl, rfl, trivial⟩ ⟨rfl, rfl, trivial⟩ rfl
    exfalso
    simp [zh6, h1, h2, h3, h4, h5, h6] at hp
termination_by t => SizeOf.sizeOf t
decreasing_by
  all_goals
    have := List.sizeOf_lt_of_mem (List.mem_of_getElem? ht)
    simp_wf
    omega
theorem yct : ∀ (t : Ty) (met : List Str), (zca t && zbm met (za1 t)) = false → zc8 Tryz.prog 128 [.imm (.agg (zb0 t)), .mapr 1] [(1, some (yl0 met))] (.pan zn8)
  | .mk s n x ps, met, hy => by
    refine zjw 0 rfl fun hok => ?_
    have hv : ps.length ≤ 9223372036854775807 := by
      simp [zk9, vOk, zb0, maxLen] at hok
      have := hok.1
      omega
    refine zaf zi4 Tryz.func128 (by decide +kernel) rfl [2, 3, 4] rfl rfl ?_
    have J : ∀ m0 : List Str, (zbq ps && zbm m0 (zav ps)) = false → DGo Tryz.prog Tryz.f128.ntmps (nms [(1, some (yl0 met))]) (yar ttP Tryz.f128.results.toList (.pan zn8))
        [.code (zg0 Tryz.f128 2)] [(1, .mapr 1), (2, .ref 2 0)] [(2, some (.immb 58 4 (zb0 (.mk s n x ps)))), (1, some (yl0 m0))] [3, 4] := by
      intro m0 hy 
      refine pd [] rfl (by simp) ?_
      refine zah (fun i : Nat => [(113, .imm (.int .i64 i)), (112, .imm (.int .i64 ps.length)), (111, .imm (.sl (zb8 ps))), (1, .mapr 1), (2, .ref 2 0)]) (fun i => [(2, some (.immb 58 4 (zb0 (.mk s n x ps)))), (1, some (yl0 (m0 ++ zav (ps.take i))))]) [3, 4] (fun i => ps.length - i)
        (fun i => i ≤ ps.length ∧ (zbq (ps.drop i) && zbm (m0 ++ zav (ps.take i)) (zav (ps.drop i))) = false) 0 ⟨Nat.zero_le _, by simpa [zav] using hy⟩ ⟨rfl, zcn (by simp), rfl, rfl, rfl, trivial⟩ ⟨rfl, by simp [zav]; rfl, trivial⟩ rfl fun i hi ih => ?_
      refine pd [] rfl (by simp) ?_
      have hi2 := hi.2
      refine zaa rfl (fun h => ?_) (fun h => ?_)
      · simp at h
        obtain ⟨t, ht⟩ := zal h
        have htk : zav (ps.take (i + 1)) = zav (ps.take i) ++ za1 t := by rw [zbk ht, ze1]; simp [zav]
        rw [zap ht] at hi2
        simp only [zbq, zav, zgt] at hi2
        refine pd [] rfl (by simp) ?_
        refine pi rfl (c := zb0 t) (fun _ => ⟨by simp, by simpa using zb6 ht, by simp⟩) (by simp) ?_
        refine pg [] rfl (by simp) ?_
        by_cases hz : (zca t && zbm (m0 ++ zav (ps.take i)) (za1 t)) = true
        · refine zas (fr := []) [(1, 1)] [] rfl (by simp) (zqv t (m0 ++ zav (ps.take i)) hz) ⟨⟨rfl, rfl, rfl⟩, trivial⟩ rfl rfl rfl rfl ?_
          refine pg [] rfl (by simp) ?_
          exact zae (ih (i + 1) (by omega) ⟨by omega, by rw [htk, ← List.append_assoc]; simp only [Bool.and_eq_true] at hz; rw [hz.1, hz.2] at hi2; simpa using hi2⟩) ⟨zcn (w64 (by omega) (by omega)), rfl, rfl, rfl, rfl, trivial⟩ ⟨rfl, by rw [htk, ← List.append_assoc]; rfl, trivial⟩ rfl
        · exact zay [(1, 1)] rfl (by simp) (yct t (m0 ++ zav (ps.take i)) (by simpa using hz)) ⟨⟨rfl, rfl, rfl⟩, trivial⟩ rfl rfl
      · exfalso
        simp at h
        rw [List.drop_eq_nil_of_le (by omega)] at hi2
        simp [zbq, zav, zbm] at hi2
    by_cases h1 : s = 1
    · subst h1
      refine pg [.a, .a] rfl (by simp [zag] <;> grind) ?_
      by_cases hp : zh6 1 n x ps.length = true
      · have hps : (zbq ps && zbm met (zav ps)) = false := by simpa [zca, hp, za1] using hy
        simp [zh6, inI] at hp
        refine zac rfl (fun _ => zch _ (by simp [zaz] at hp ⊢; grind)) (by simp) ?_
        refine pg [.s] rfl (by simp) ?_
        exact zae (J met hps) ⟨rfl, rfl, trivial⟩ ⟨rfl, rfl, trivial⟩ rfl
      · simp [zh6, inI] at hp
        exact zay [] rfl (by simp) (zc9 _ (by simp [zaz] at hp ⊢; grind)) trivial rfl rfl
    by_cases h5 : s = 5
    · subst h5
      refine pg [.a, .a] rfl (by simp [zag] <;> grind) ?_
      by_cases hp : zh6 5 n x ps.length = true
      · have hps : (zbq ps && zbm met (zav ps)) = false := by simpa [zca, hp, za1] using hy
        simp [zh6, inI] at hp
        refine zac rfl (fun _ => zch _ (by simp [zaz] at hp ⊢; grind)) (by simp) ?_
        refine pg [.s] rfl (by simp) ?_
        exact zae (J met hps) ⟨rfl, rfl, trivial⟩ ⟨rfl, rfl, trivial⟩ rfl
      · simp [zh6, inI] at hp
        exact zay [] rfl (by simp) (zc9 _ (by simp [zaz] at hp ⊢; grind)) trivial rfl rfl
    by_cases h3 : s = 3
    · subst h3
      refine pg [.a, .a, .a, .a] rfl (by simp [zag] <;> grind) ?_
      refine zac rfl (fun _ => zkg n) (by simp [zag]) ?_
      refine pg [] rfl (by simp [zag]) ?_
      by_cases hp : zh6 3 n x ps.length = true
      · have hps : (zbq ps && zbm met (zav ps)) = false := by simpa [zca, hp, za1] using hy
        simp [zh6, inI] at hp
        refine zac rfl (fun _ => zch _ (by simp [zaz] at hp ⊢; grind)) (by simp) ?_
        refine pg [.s] rfl (by simp) ?_
        exact zae (J met hps) ⟨rfl, rfl, trivial⟩ ⟨rfl, rfl, trivial⟩ rfl
      · simp [zh6, inI] at hp
        exact zay [] rfl (by simp) (zc9 _ (by simp [zaz] at hp ⊢; grind)) trivial rfl rfl
    by_cases h4 : s = 4
    · subst h4
      refine pg [.a, .a, .a, .a, .a] rfl (by simp [zag] <;> grind) ?_
      by_cases hp : zh6 4 n x ps.length = true
      · have hps : (zbq ps && zbm met (zav ps)) = false := by simpa [zca, hp, za1] using hy
        simp [zh6, inI] at hp
        refine zac rfl (fun _ => zch _ (by obtain ⟨⟨rfl, rfl⟩, ha, hb⟩ := hp; have : n = 0 ∨ n = 1 := (by omega); rcases this with rfl | rfl <;> simp)) (by simp) ?_
        refine pg [.s] rfl (by simp) ?_
        exact zae (J met hps) ⟨rfl, rfl, trivial⟩ ⟨rfl, rfl, trivial⟩ rfl
      · simp [zh6, inI] at hp
        exact zay [] rfl (by simp) (zc9 _ (by simp [zaz] at hp ⊢; grind)) trivial rfl rfl
    by_cases h6 : s = 6
    · subst h6
      refine pg [.a, .a, .a, .a, .a, .a] rfl (by simp [zag] <;> grind) ?_
      refine zac rfl (fun _ => zi6 x) (by simp [zag]) ?_
      refine pg [] rfl (by simp [zag]) ?_
      by_cases hp : zh6 6 n x ps.length = true
      · have hps : (zbq ps && zbm met (zav ps)) = false := by simpa [zca, hp, za1] using hy
        simp [zh6, inI] at hp
        refine zac rfl (fun _ => zch _ (by simp [zaz] at hp ⊢; grind)) (by simp) ?_
        refine pg [.s] rfl (by simp) ?_
        exact zae (J met hps) ⟨rfl, rfl, trivial⟩ ⟨rfl, rfl, trivial⟩ rfl
      · simp [zh6, inI] at hp
        exact zay [] rfl (by simp) (zc9 _ (by simp [zaz] at hp ⊢; grind)) trivial rfl rfl
    by_cases h2 : s = 2
    · subst h2
      refine pg [.a, .a, .a] rfl (by simp [zag] <;> grind) ?_
      refine zac rfl (fun _ => zfy x) (by simp [zag]) ?_
      refine pg [] rfl (by simp [zag]) ?_
      refine zn6 zi4 1 rfl rfl rfl (zdc met) (by simp [zag]) (z := .bool false) rfl (fun _ => .bool _) (zhk met x) ?_
      refine pg [] rfl (by simp [zag]) ?_
      refine zay [] rfl (by simp) (zc9 _ ?_) trivial rfl rfl
      simp [zca, zh6, za1, zbm] at hy
      cases hm : zck met x with
      | true => simp
      | false =>
        simp only [hm] at hy
        by_cases hq : ps = []
        · subst hq; simp [zbq] at hy ⊢; grind
        · simp [hq]
    refine pg [.f, .f, .f, .f, .f, .f] rfl (by simp [h1, h2, h3, h4, h5, h6]) ?_
    exact zay [] rfl (by simp) (zc9 _ rfl) trivial rfl rfl
termination_by t => SizeOf.sizeOf t
decreasing_by
  all_goals
    have := List.sizeOf_lt_of_mem (List.mem_of_getElem? ht)
    simp_wf
    omega
def zcw (t : Ty) : Bool := decide (za0 t ≤ 12) && (zca t && zjx (za1 t))
theorem zw8 (t : Ty) (h : zcw t = true) : zc8 Tryz.prog 126 [.ref 1 0] [(1, some (.immb 58 4 (zb0 t)))] (.ret zx4 [(1, some (.immb 58 4 (zb0 t)))]) := by
  simp only [zcw, Bool.and_eq_true, decide_eq_true_eq] at h
  refine zaf zi4 Tryz.func126 (by decide +kernel) rfl [2, 3, 4] rfl rfl ?_
  refine pg [] rfl (by simp) ?_
  refine zas (fr := []) [(2, 1)] [] rfl (by simp) (zqg t 12 (by omega) (by decide)) ⟨⟨rfl, rfl, rfl⟩, trivial⟩ rfl rfl rfl rfl ?_
  refine pg [] rfl (by simp) ?_
  refine zjt rfl ?_
  refine pg [] rfl (by simp) ?_
  refine zas (fr := []) [(3, 1)] [] rfl (by simp) (zqv t [] (by simpa [zjx] using h.2)) ⟨⟨rfl, rfl, rfl⟩, trivial⟩ rfl rfl rfl rfl ?_
  refine pg [] rfl (by simp) ?_
  exact zcf ⟨_, rfl, rfl, ⟨rfl, trivial⟩⟩
theorem yaa (t : Ty) (h : zcw t = false) : zc8 Tryz.prog 126 [.ref 1 0] [(1, some (.immb 58 4 (zb0 t)))] (.pan zn8) := by
  refine zaf zi4 Tryz.func126 (by decide +kernel) rfl [2, 3, 4] rfl rfl ?_
  refine pg [] rfl (by simp) ?_
  by_cases h1 : za0 t ≤ 12
  · refine zas (fr := []) [(2, 1)] [] rfl (by simp) (zqg t 12 (by omega) (by decide)) ⟨⟨rfl, rfl, rfl⟩, trivial⟩ rfl rfl rfl rfl ?_
    refine pg [] rfl (by simp) ?_
    refine zjt rfl ?_
    refine pg [] rfl (by simp) ?_
    exact zay [(3, 1)] rfl (by simp) (yct t [] (by simpa [zcw, h1, zjx] using h)) ⟨⟨rfl, rfl, rfl⟩, trivial⟩ rfl rfl
  · exact zay [(2, 1)] rfl (by simp) (ykn t 12 (by omega) (by decide) (by decide)) ⟨⟨rfl, rfl, rfl⟩, trivial⟩ rfl rfl
theorem ztp (t : Ty) : zau Tryz.prog 112 [.agg (zb0 t)] (yb1 (zcw t)) := by
  refine zaf zi4 Tryz.func112 (by decide +kernel) rfl [1, 2, 3] rfl rfl ?_
  refine pg [] rfl (by simp) ?_
  cases h : zcw t with
  | true =>
    refine zas (fr := []) [(1, 1)] [] rfl (by simp) (zpg Tryz.func126 (by decide +kernel) rfl (zw8 t h)) ⟨⟨rfl, rfl, rfl⟩, trivial⟩ rfl rfl rfl rfl ?_
    refine pg [] rfl (by simp) ?_
    exact zab ⟨_, rfl, tV rfl, trivial⟩
  | false =>
    refine zas (fr := []) [(1, 1)] [] rfl (by simp) (zs8 Tryz.func126 (by decide +kernel) rfl (yaa t h)) ⟨⟨rfl, rfl, rfl⟩, trivial⟩ rfl rfl rfl rfl ?_
    refine pg [] rfl (by simp) ?_
    exact zab ⟨_, rfl, tV rfl, trivial⟩
end Go.Hk
namespace Go.Hk
open Go.Proofs
def ttS : TT := ttP ++ [
  (143, ⟨.struct [(0, 4), (1, 4), (2, 4), (3, 3)], true, 4, 16, [.imm (.bool false), .imm (.bool false), .imm (.bool false), .imm (.int .i64 0)]⟩)]
theorem zi3 : TTok Tryz.prog ttS := .of_eq (l := [4, 3, 9, 26, 58, 22, 24, 5, 36, 23, 56, 29, 139, 83, 1, 61, 143]) (by kernel_rfl)
section
variable {n : Nat} {F : List Nat} {Q : DQ} {env env' : Env} {st st' : St} {ids ids' : List Nat} {k todo : List DI} {ob : List Prop}
theorem sd (path : List Pt) (h : run ttS n 300 path todo env st ids [] = .at k env' st' ids' ob) (hob : zb7 ob) (hd : G Tryz.prog n F Q k env' st' ids') : DGo Tryz.prog n F Q todo env st ids := zpu zi3 mixed 300 path h hob hd
theorem sg (path : List Pt) (h : run ttS n 300 path todo env st ids [] = .at k env' st' ids' ob) (hob : zb7 ob) (hd : G Tryz.prog n F Q k env' st' ids') : G Tryz.prog n F Q todo env st ids := zpr zi3 mixed 300 path h hob hd
theorem si {es : List (List V)} {m : Int} {sz : Nat} {e : TypeId} {g : Option (Bool × Bool)} {ob : List Prop} {t : Nat} {todo' : List DI} {c : List V} (h : yi6 ttS n env todo = some ⟨es, m, sz, e, g, ob, some t, todo'⟩)
    (hc : zag g → 0 ≤ m ∧ es[m.toNat]? = some c ∧ c.length = sz) (hob : zb7 ob) (hk : G Tryz.prog n F Q todo' ((t, gD g (.ip e c 0)) :: env) st ids) : G Tryz.prog n F Q todo env st ids := zie zi3 h hc hob hk
end
structure Has where
  n : Bool
  text : Bool
  pats : Bool
  kids : Int
  is : Bool
def za2 (op : Int) (k p : Nat) : Has :=
  if op = 1 ∨ op = 2 then ⟨true, false, false, 0, true⟩
  else if op = 3 ∨ op = 21 ∨ op = 25 ∨ op = 28 then ⟨false, false, false, 0, true⟩
  else if op = 4 then ⟨false, true, false, 0, true⟩
  else if op = 5 ∨ op = 27 then ⟨false, true, false, 1, true⟩
  else if op = 7 then ⟨false, true, false, 2, true⟩
  else if op = 8 then ⟨false, false, false, 3, true⟩
  else if op = 14 then ⟨false, true, false, (if (3 : Int) < k then 3 else k), true⟩
  else if op = 15 then ⟨false, false, true, (IntKind.i64.wrap (1 + (p : Int))), true⟩
  else if op = 16 ∨ op = 17 ∨ op = 19 ∨ op = 20 ∨ op = 23 ∨ op = 26 then ⟨false, false, false, 1, true⟩
  else if op = 24 then ⟨true, false, false, 1, true⟩
  else if op = 6 ∨ op = 9 ∨ op = 10 ∨ op = 11 ∨ op = 12 ∨ op = 13 ∨ op = 18 ∨ op = 22 then ⟨false, false, false, 2, true⟩
  else ⟨false, false, false, 0, false⟩
def zi1 (h : Has) : List V := [.bool h.n, .bool h.text, .bool h.pats, .int .i64 h.kids]
set_option maxHeartbeats 1000000 in
theorem yc1 (op n : Int) (x : Str) (ks : List Tm) (ps : List Ty) : zau Tryz.prog 110 [.agg (dTmc (.mk op n x ks ps))] (.tup [.agg (zi1 (za2 op ks.length ps.length)), .bool (za2 op ks.length ps.length).is]) := by
  refine zdp fun hv => ?_
  simp [zk9, vOk, dTmc, maxLen] at hv
  refine zaf zi3 Tryz.func110 (by decide +kernel) rfl [1, 2, 3] rfl rfl ?_
  by_cases h1 : op = 1
  · subst h1
    refine sg [.a, .a] rfl (by simp) ?_
    refine zab ⟨_, rfl, tV ?_, trivial⟩
    simp [za2, zi1]
  by_cases h2 : op = 2
  · subst h2
    refine sg [.a, .a] rfl (by simp) ?_
    refine zab ⟨_, rfl, tV ?_, trivial⟩
    simp [za2, zi1]
  by_cases h3 : op = 3
  · subst h3
    refine sg [.a, .a, .a, .a] rfl (by simp) ?_
    refine zab ⟨_, rfl, tV ?_, trivial⟩
    simp [za2, zi1]
  by_cases h21 : op = 21
  · subst h21
    refine sg [.a, .a, .a, .a, .a] rfl (by simp) ?_
    refine zab ⟨_, rfl, tV ?_, trivial⟩
    simp [za2, zi1]
  by_cases h25 : op = 25
  · subst h25
    refine sg [.a, .a, .a, .a, .a, .a] rfl (by simp) ?_
    refine zab ⟨_, rfl, tV ?_, trivial⟩
    simp [za2, zi1]
  by_cases h28 : op = 28
  · subst h28
    refine sg [.a, .a, .a, .a, .a, .a] rfl (by simp) ?_
    refine zab ⟨_, rfl, tV ?_, trivial⟩
    simp [za2, zi1]
  by_cases h4 : op = 4
  · subst h4
    refine sg [.a, .a, .a, .a, .a, .a, .a] rfl (by simp) ?_
    refine zab ⟨_, rfl, tV ?_, trivial⟩
    simp [za2, zi1]
  by_cases h5 : op = 5
  · subst h5
    refine sg [.a, .a, .a, .a, .a, .a, .a, .a, .a] rfl (by simp) ?_
    refine zab ⟨_, rfl, tV ?_, trivial⟩
    simp [za2, zi1]
  by_cases h27 : op = 27
  · subst h27
    refine sg [.a, .a, .a, .a, .a, .a, .a, .a, .a] rfl (by simp) ?_
    refine zab ⟨_, rfl, tV ?_, trivial⟩
    simp [za2, zi1]
  by_cases h7 : op = 7
  · subst h7
    refine sg [.a, .a, .a, .a, .a, .a, .a, .a, .a, .a] rfl (by simp) ?_
    refine zab ⟨_, rfl, tV ?_, trivial⟩
    simp [za2, zi1]
  by_cases h8 : op = 8
  · subst h8
    refine sg [.a, .a, .a, .a, .a, .a, .a, .a, .a, .a, .a] rfl (by simp) ?_
    refine zab ⟨_, rfl, tV ?_, trivial⟩
    simp [za2, zi1]
  by_cases h14 : op = 14
  · subst h14
    refine sg [.a, .a, .a, .a, .a, .a, .a, .a, .a, .a, .a, .a] rfl (by simp) ?_
    refine zab ⟨_, rfl, tV ?_, trivial⟩
    simp [za2, zi1]
  by_cases h15 : op = 15
  · subst h15
    refine sg [.a, .a, .a, .a, .a, .a, .a, .a, .a, .a, .a, .a, .a] rfl (by simp) ?_
    refine zab ⟨_, rfl, tV ?_, trivial⟩
    simp [za2, zi1]
  by_cases h16 : op = 16
  · subst h16
    refine sg [.a, .a, .a, .a, .a, .a, .a, .a, .a, .a, .a, .a, .a, .a, .a] rfl (by simp) ?_
    refine zab ⟨_, rfl, tV ?_, trivial⟩
    simp [za2, zi1]
  by_cases h17 : op = 17
  · subst h17
    refine sg [.a, .a, .a, .a, .a, .a, .a, .a, .a, .a, .a, .a, .a, .a, .a, .a] rfl (by simp) ?_
    refine zab ⟨_, rfl, tV ?_, trivial⟩
    simp [za2, zi1]
  by_cases h19 : op = 19
  · subst h19
    refine sg [.a, .a, .a, .a, .a, .a, .a, .a, .a, .a, .a, .a, .a, .a, .a, .a, .a] rfl (by simp) ?_
    refine zab ⟨_, rfl, tV ?_, trivial⟩
    simp [za2, zi1]
  by_cases h20 : op = 20
  · subst h20
    refine sg [.a, .a, .a, .a, .a, .a, .a, .a, .a, .a, .a, .a, .a, .a, .a, .a, .a, .a] rfl (by simp) ?_
    refine zab ⟨_, rfl, tV ?_, trivial⟩
    simp [za2, zi1]
  by_cases h23 : op = 23
  · subst h23
    refine sg [.a, .a, .a, .a, .a, .a, .a, .a, .a, .a, .a, .a, .a, .a, .a, .a, .a, .a, .a] rfl (by simp) ?_
    refine zab ⟨_, rfl, tV ?_, trivial⟩
    simp [za2, zi1]
  by_cases h26 : op = 26
  · subst h26
    refine sg [.a, .a, .a, .a, .a, .a, .a, .a, .a, .a, .a, .a, .a, .a, .a, .a, .a, .a, .a] rfl (by simp) ?_
    refine zab ⟨_, rfl, tV ?_, trivial⟩
    simp [za2, zi1]
  by_cases h24 : op = 24
  · subst h24
    refine sg [.a, .a, .a, .a, .a, .a, .a, .a, .a, .a, .a, .a, .a, .a, .a, .a, .a, .a, .a, .a] rfl (by simp) ?_
    refine zab ⟨_, rfl, tV ?_, trivial⟩
    simp [za2, zi1]
  by_cases h6 : op = 6
  · subst h6
    refine sg [.a, .a, .a, .a, .a, .a, .a, .a, .a, .a, .a, .a, .a, .a, .a, .a, .a, .a, .a, .a, .a, .a] rfl (by simp) ?_
    refine zab ⟨_, rfl, tV ?_, trivial⟩
    simp [za2, zi1]
  by_cases h9 : op = 9
  · subst h9
    refine sg [.a, .a, .a, .a, .a, .a, .a, .a, .a, .a, .a, .a, .a, .a, .a, .a, .a, .a, .a, .a, .a, .a, .a] rfl (by simp) ?_
    refine zab ⟨_, rfl, tV ?_, trivial⟩
    simp [za2, zi1]
  by_cases h10 : op = 10
  · subst h10
    refine sg [.a, .a, .a, .a, .a, .a, .a, .a, .a, .a, .a, .a, .a, .a, .a, .a, .a, .a, .a, .a, .a, .a, .a, .a] rfl (by simp) ?_
    refine zab ⟨_, rfl, tV ?_, trivial⟩
    simp [za2, zi1]
  by_cases h11 : op = 11
  · subst h11
    refine sg [.a, .a, .a, .a, .a, .a, .a, .a, .a, .a, .a, .a, .a, .a, .a, .a, .a, .a, .a, .a, .a, .a, .a, .a, .a] rfl (by simp) ?_
    refine zab ⟨_, rfl, tV ?_, trivial⟩
    simp [za2, zi1]
  by_cases h12 : op = 12
  · subst h12
    refine sg [.a, .a, .a, .a, .a, .a, .a, .a, .a, .a, .a, .a, .a, .a, .a, .a, .a, .a, .a, .a, .a, .a, .a, .a, .a, .a] rfl (by simp) ?_
    refine zab ⟨_, rfl, tV ?_, trivial⟩
    simp [za2, zi1]
  by_cases h13 : op = 13
  · subst h13
    refine sg [.a, .a, .a, .a, .a, .a, .a, .a, .a, .a, .a, .a, .a, .a, .a, .a, .a, .a, .a, .a, .a, .a, .a, .a, .a, .a, .a] rfl (by simp) ?_
    refine zab ⟨_, rfl, tV ?_, trivial⟩
    simp [za2, zi1]
  by_cases h18 : op = 18
  · subst h18
    refine sg [.a, .a, .a, .a, .a, .a, .a, .a, .a, .a, .a, .a, .a, .a, .a, .a, .a, .a, .a, .a, .a, .a, .a, .a, .a, .a, .a, .a] rfl (by simp) ?_
    refine zab ⟨_, rfl, tV ?_, trivial⟩
    simp [za2, zi1]
  by_cases h22 : op = 22
  · subst h22
    refine sg [.a, .a, .a, .a, .a, .a, .a, .a, .a, .a, .a, .a, .a, .a, .a, .a, .a, .a, .a, .a, .a, .a, .a, .a, .a, .a, .a, .a] rfl (by simp) ?_
    refine zab ⟨_, rfl, tV ?_, trivial⟩
    simp [za2, zi1]
  refine sg [.f, .f, .f, .f, .f, .f, .f, .f, .f, .f, .f, .f, .f, .f, .f, .f, .f, .f, .f, .f, .f, .f, .f, .f, .f, .f, .f, .f] rfl (by simp [h1, h2, h3, h21, h25, h28, h4, h5, h27, h7, h8, h14, h15, h16, h17, h19, h20, h23, h26, h24, h6, h9, h10, h11, h12, h13, h18, h22]) ?_
  refine zab ⟨_, rfl, tV ?_, trivial⟩
  simp [za2, zi1, h1, h2, h3, h21, h25, h28, h4, h5, h27, h7, h8, h14, h15, h16, h17, h19, h20, h23, h26, h24, h6, h9, h10, h11, h12, h13, h18, h22]
end Go.Hk
namespace Go.Hk
open Go.Proofs
def zd7 (op n : Int) (x : Str) (k p : Nat) : Bool := let h := za2 op k p
  h.is && ((k : Int) == h.kids) && (h.n || n == 0) && (h.text || x == []) && (h.pats || (p : Int) == 0)
def zdi (op : Int) (x : Str) (k p : Nat) : Bool := !((za2 op k p).text && op != 14) || zcu x
theorem zdm (op n : Int) (x : Str) (ks : List Tm) (ps : List Ty) (hl : zdi op x ks.length ps.length = true) : DGo Tryz.prog Tryz.f96.ntmps (nms []) (yar ttS Tryz.f96.results.toList (.ret zx4 []))
    [.code (zg0 Tryz.f96 4)] [(1, .ref 1 0), (2, .ref 2 0)] [(2, some (.immb 143 4 (zi1 (za2 op ks.length ps.length)))), (1, some (.immb 26 5 (dTmc (.mk op n x ks ps))))] [3, 4] := by
  refine sd [] rfl (by simp [zag]) ?_
  refine zaa rfl (fun h => ?_) (fun h => ?_)
  · refine sd [] rfl (by simp) ?_
    refine zac rfl (fun _ => zfy x) (by simp [zag]) ?_
    refine sg [] rfl (by simp) ?_
    have hx : zcu x = true := by simp [zdi] at hl h; grind
    refine zac rfl (fun _ => zch _ hx) (by simp) ?_
    refine sg [] rfl (by simp) ?_
    exact zcf ⟨_, rfl, rfl, trivial⟩
  · refine sd [] rfl (by simp) ?_
    exact zcf ⟨_, rfl, rfl, trivial⟩
theorem zd5 (op n : Int) (x : Str) (ks : List Tm) (ps : List Ty) (hl : zdi op x ks.length ps.length = false) : DGo Tryz.prog Tryz.f96.ntmps (nms []) (yar ttS Tryz.f96.results.toList (.pan zn8))
    [.code (zg0 Tryz.f96 4)] [(1, .ref 1 0), (2, .ref 2 0)] [(2, some (.immb 143 4 (zi1 (za2 op ks.length ps.length)))), (1, some (.immb 26 5 (dTmc (.mk op n x ks ps))))] [3, 4] := by
  refine sd [] rfl (by simp [zag]) ?_
  refine zaa rfl (fun h => ?_) (fun h => ?_)
  · refine sd [] rfl (by simp) ?_
    refine zac rfl (fun _ => zfy x) (by simp [zag]) ?_
    refine sg [] rfl (by simp) ?_
    have hx : zcu x = false := by simp [zdi] at hl h; grind
    exact zay [] rfl (by simp) (zc9 _ hx) trivial rfl rfl
  · exfalso
    simp [zdi] at hl h
    grind
def zbl (op n : Int) (x : Str) (ps : List Ty) : Bool :=
  if op = 1 then zaz n
  else if op = 2 then n == 0 || n == 1
  else if op = 24 then decide (0 ≤ n) && decide (n < 4)
  else if op = 14 then ziv x
  else if op = 15 then decide (1 ≤ (ps.length : Int)) && decide ((ps.length : Int) ≤ 5) && ps.all zcw
  else true
def zdu (op n : Int) (x : Str) (k : Nat) (ps : List Ty) : Bool := zd7 op n x k ps.length && zbl op n x ps && zdi op x k ps.length
theorem zx8 (op n : Int) (x : Str) (ks : List Tm) (ps : List Ty) (hy : zdu op n x ks.length ps = true) : zc8 Tryz.prog 96 [.imm (.agg (dTmc (.mk op n x ks ps)))] [] (.ret zx4 []) := by
  simp only [zdu] at hy
  refine zaf zi3 Tryz.func96 (by decide +kernel) rfl [1, 2, 3, 4] rfl rfl ?_
  refine sg [] rfl (by simp) ?_
  refine zac rfl (fun _ => yc1 op n x ks ps) (by simp [zag]) ?_
  refine sg [] rfl (by simp [zag, zi1] <;> grind) ?_
  simp only [Bool.and_eq_true] at hy
  obtain ⟨⟨hh, he⟩, hl⟩ := hy
  refine zac rfl (fun _ => zch _ (by simp [zd7] at hh ⊢; grind)) (by simp) ?_
  by_cases h1 : op = 1
  · subst h1
    refine sg [.a] rfl (by simp [zag]) ?_
    refine zac rfl (fun _ => zkg n) (by simp) ?_
    refine sg [] rfl (by simp) ?_
    simp [zbl] at he
    refine zac rfl (fun _ => zch _ (by first | exact he | (simp at he ⊢; grind) | (simp; grind) | grind)) (by simp) ?_
    refine sg [.s] rfl (by simp) ?_
    exact zae (zdm _ n x ks ps hl) ⟨rfl, rfl, trivial⟩ ⟨rfl, rfl, trivial⟩ rfl
  by_cases h2 : op = 2
  · subst h2
    refine sg [.a, .a] rfl (by simp [zag]) ?_
    simp [zbl] at he
    refine zac rfl (fun _ => zch _ (by first | exact he | (simp at he ⊢; grind) | (simp; grind) | grind)) (by simp) ?_
    refine sg [.s] rfl (by simp) ?_
    exact zae (zdm _ n x ks ps hl) ⟨rfl, rfl, trivial⟩ ⟨rfl, rfl, trivial⟩ rfl
  by_cases h24 : op = 24
  · subst h24
    refine sg [.a, .a, .a] rfl (by simp [zag]) ?_
    simp [zbl] at he
    refine zac rfl (fun _ => zch _ (by first | exact he | (simp at he ⊢; grind) | (simp; grind) | grind)) (by simp) ?_
    refine sg [.s] rfl (by simp) ?_
    exact zae (zdm _ n x ks ps hl) ⟨rfl, rfl, trivial⟩ ⟨rfl, rfl, trivial⟩ rfl
  by_cases h14 : op = 14
  · subst h14
    refine sg [.a, .a, .a, .a] rfl (by simp [zag]) ?_
    refine zac rfl (fun _ => zi6 x) (by simp) ?_
    refine sg [] rfl (by simp) ?_
    simp [zbl] at he
    refine zac rfl (fun _ => zch _ (by first | exact he | (simp at he ⊢; grind) | (simp; grind) | grind)) (by simp) ?_
    refine sg [.s] rfl (by simp) ?_
    exact zae (zdm _ n x ks ps hl) ⟨rfl, rfl, trivial⟩ ⟨rfl, rfl, trivial⟩ rfl
  by_cases h15 : op = 15
  · subst h15
    refine sg [.a, .a, .a, .a, .a] rfl (by simp [zag]) ?_
    simp [zbl] at he
    refine zac rfl (fun _ => zch _ (by simp; grind)) (by simp) ?_
    refine sg [] rfl (by simp) ?_
    refine zah (fun i : Nat => [(101, .imm (.int .i64 i)), (100, .imm (.int .i64 ps.length)), (99, .imm (.sl (zb8 ps))), (1, .ref 1 0), (2, .ref 2 0)]) (fun _ => [(2, some (.immb 143 4 (zi1 (za2 15 ks.length ps.length)))), (1, some (.immb 26 5 (dTmc (.mk 15 n x ks ps))))]) [3, 4] (fun i => ps.length - i)
      (fun i => i ≤ ps.length ∧ (ps.drop i).all zcw = true) 0 ⟨Nat.zero_le _, by simpa using he.2⟩ ⟨rfl, zcn (by simp), rfl, rfl, rfl, trivial⟩ ⟨rfl, rfl, trivial⟩ rfl fun i hi ih => ?_
    refine sd [] rfl (by simp) ?_
    have hi2 := hi.2
    refine zaa rfl (fun h => ?_) (fun h => ?_)
    · simp at h
      obtain ⟨t, ht⟩ := zal h
      rw [zap ht, List.all_cons] at hi2
      refine sd [] rfl (by simp) ?_
      refine si rfl (c := zb0 t) (fun _ => ⟨by simp, by simpa using zb6 ht, by simp⟩) (by simp) ?_
      refine sg [] rfl (by simp) ?_
      refine zac rfl (fun _ => ztp t) (by simp) ?_
      refine sg [] rfl (by simp) ?_
      simp only [Bool.and_eq_true] at hi2
      have hz := hi2.1
      refine zac rfl (fun _ => zch _ (by first | rfl | (rw [hz]; rfl))) (by simp) ?_
      refine sg [] rfl (by simp) ?_
      exact zae (ih (i + 1) (by omega) ⟨by omega, hi2.2⟩) ⟨zcn (w64 (by omega) (by omega)), rfl, rfl, rfl, rfl, trivial⟩ ⟨rfl, rfl, trivial⟩ rfl
    · simp at h
      rw [List.drop_eq_nil_of_le (by omega)] at hi2
      refine sd [.s] rfl (by simp) ?_
      exact zae (zdm _ n x ks ps hl) ⟨rfl, rfl, trivial⟩ ⟨rfl, rfl, trivial⟩ rfl
  refine sg [.f, .f, .f, .f, .f, .s] rfl (by simp [h1, h2, h24, h14, h15]) ?_
  exact zae (zdm _ n x ks ps hl) ⟨rfl, rfl, trivial⟩ ⟨rfl, rfl, trivial⟩ rfl
theorem ymd (op n : Int) (x : Str) (ks : List Tm) (ps : List Ty) (hy : zdu op n x ks.length ps = false) : zc8 Tryz.prog 96 [.imm (.agg (dTmc (.mk op n x ks ps)))] [] (.pan zn8) := by
  simp only [zdu] at hy
  refine zaf zi3 Tryz.func96 (by decide +kernel) rfl [1, 2, 3, 4] rfl rfl ?_
  refine sg [] rfl (by simp) ?_
  refine zac rfl (fun _ => yc1 op n x ks ps) (by simp [zag]) ?_
  refine sg [] rfl (by simp [zag, zi1] <;> grind) ?_
  by_cases hh : zd7 op n x ks.length ps.length = true
  rotate_left
  · exact zay [] rfl (by simp) (zc9 _ (by simp [zd7] at hh ⊢; grind)) trivial rfl rfl
  rw [hh] at hy
  refine zac rfl (fun _ => zch _ (by simp [zd7] at hh ⊢; grind)) (by simp) ?_
  by_cases h1 : op = 1
  · subst h1
    refine sg [.a] rfl (by simp [zag]) ?_
    refine zac rfl (fun _ => zkg n) (by simp) ?_
    refine sg [] rfl (by simp) ?_
    by_cases he : zbl 1 n x ps = true
    · have hl : zdi 1 x ks.length ps.length = false := by simpa [he] using hy
      simp [zbl] at he
      refine zac rfl (fun _ => zch _ (by first | exact he | (simp at he ⊢; grind) | (simp; grind) | grind)) (by simp) ?_
      refine sg [.s] rfl (by simp) ?_
      exact zae (zd5 _ n x ks ps hl) ⟨rfl, rfl, trivial⟩ ⟨rfl, rfl, trivial⟩ rfl
    · simp [zbl] at he
      exact zay [] rfl (by simp) (zc9 _ (by first | exact he | (simp at he ⊢; grind) | (simp; grind) | grind)) trivial rfl rfl
  by_cases h2 : op = 2
  · subst h2
    refine sg [.a, .a] rfl (by simp [zag]) ?_
    by_cases he : zbl 2 n x ps = true
    · have hl : zdi 2 x ks.length ps.length = false := by simpa [he] using hy
      simp [zbl] at he
      refine zac rfl (fun _ => zch _ (by first | exact he | (simp at he ⊢; grind) | (simp; grind) | grind)) (by simp) ?_
      refine sg [.s] rfl (by simp) ?_
      exact zae (zd5 _ n x ks ps hl) ⟨rfl, rfl, trivial⟩ ⟨rfl, rfl, trivial⟩ rfl
    · simp [zbl] at he
      exact zay [] rfl (by simp) (zc9 _ (by first | exact he | (simp at he ⊢; grind) | (simp; grind) | grind)) trivial rfl rfl
  by_cases h24 : op = 24
  · subst h24
    refine sg [.a, .a, .a] rfl (by simp [zag]) ?_
    by_cases he : zbl 24 n x ps = true
    · have hl : zdi 24 x ks.length ps.length = false := by simpa [he] using hy
      simp [zbl] at he
      refine zac rfl (fun _ => zch _ (by first | exact he | (simp at he ⊢; grind) | (simp; grind) | grind)) (by simp) ?_
      refine sg [.s] rfl (by simp) ?_
      exact zae (zd5 _ n x ks ps hl) ⟨rfl, rfl, trivial⟩ ⟨rfl, rfl, trivial⟩ rfl
    · simp [zbl] at he
      exact zay [] rfl (by simp) (zc9 _ (by first | exact he | (simp at he ⊢; grind) | (simp; grind) | grind)) trivial rfl rfl
  by_cases h14 : op = 14
  · subst h14
    refine sg [.a, .a, .a, .a] rfl (by simp [zag]) ?_
    refine zac rfl (fun _ => zi6 x) (by simp) ?_
    refine sg [] rfl (by simp) ?_
    by_cases he : zbl 14 n x ps = true
    · have hl : zdi 14 x ks.length ps.length = false := by simpa [he] using hy
      simp [zbl] at he
      refine zac rfl (fun _ => zch _ (by first | exact he | (simp at he ⊢; grind) | (simp; grind) | grind)) (by simp) ?_
      refine sg [.s] rfl (by simp) ?_
      exact zae (zd5 _ n x ks ps hl) ⟨rfl, rfl, trivial⟩ ⟨rfl, rfl, trivial⟩ rfl
    · simp [zbl] at he
      exact zay [] rfl (by simp) (zc9 _ (by first | exact he | (simp at he ⊢; grind) | (simp; grind) | grind)) trivial rfl rfl
  by_cases h15 : op = 15
  · subst h15
    refine sg [.a, .a, .a, .a, .a] rfl (by simp [zag]) ?_
    by_cases he : (decide (1 ≤ (ps.length : Int)) && decide ((ps.length : Int) ≤ 5)) = true
    rotate_left
    · exact zay [] rfl (by simp) (zc9 _ (by simp at he ⊢; grind)) trivial rfl rfl
    have he5 : ps.length ≤ 5 := by simp at he; omega
    have hy : ps.all zcw = false ∨ zdi 15 x ks.length ps.length = false := by
      have e : zbl 15 n x ps = ((decide (1 ≤ (ps.length : Int)) && decide ((ps.length : Int) ≤ 5)) && ps.all zcw) := by simp only [zbl]; rfl
      rw [e, he] at hy
      simpa only [Bool.true_and, Bool.and_eq_false_iff] using hy
    refine zac rfl (fun _ => zch _ (by simp at he ⊢; grind)) (by simp) ?_
    refine sg [] rfl (by simp) ?_
    refine zah (fun i : Nat => [(101, .imm (.int .i64 i)), (100, .imm (.int .i64 ps.length)), (99, .imm (.sl (zb8 ps))), (1, .ref 1 0), (2, .ref 2 0)]) (fun _ => [(2, some (.immb 143 4 (zi1 (za2 15 ks.length ps.length)))), (1, some (.immb 26 5 (dTmc (.mk 15 n x ks ps))))]) [3, 4] (fun i => ps.length - i)
      (fun i => i ≤ ps.length ∧ ((ps.drop i).all zcw = false ∨ zdi 15 x ks.length ps.length = false)) 0 ⟨Nat.zero_le _, hy⟩ ⟨rfl, zcn (by simp), rfl, rfl, rfl, trivial⟩ ⟨rfl, rfl, trivial⟩ rfl fun i hi ih => ?_
    refine sd [] rfl (by simp) ?_
    have hi2 := hi.2
    refine zaa rfl (fun h => ?_) (fun h => ?_)
    · simp at h
      obtain ⟨t, ht⟩ := zal h
      rw [zap ht, List.all_cons] at hi2
      refine sd [] rfl (by simp) ?_
      refine si rfl (c := zb0 t) (fun _ => ⟨by simp, by simpa using zb6 ht, by simp⟩) (by simp) ?_
      refine sg [] rfl (by simp) ?_
      refine zac rfl (fun _ => ztp t) (by simp) ?_
      refine sg [] rfl (by simp) ?_
      cases hz : zcw t with
      | true =>
        rw [hz, Bool.true_and] at hi2
        refine zac rfl (fun _ => zch _ (by first | rfl | (rw [hz]; rfl))) (by simp) ?_
        refine sg [] rfl (by simp) ?_
        exact zae (ih (i + 1) (by omega) ⟨by omega, hi2⟩) ⟨zcn (w64 (by omega) (by omega)), rfl, rfl, rfl, rfl, trivial⟩ ⟨rfl, rfl, trivial⟩ rfl
      | false => exact zay [] rfl (by simp) (zc9 _ (by first | rfl | (rw [hz]; rfl))) trivial rfl rfl
    · simp at h
      rw [List.drop_eq_nil_of_le (by omega)] at hi2
      refine sd [.s] rfl (by simp) ?_
      exact zae (zd5 _ n x ks ps (by simpa using hi2)) ⟨rfl, rfl, trivial⟩ ⟨rfl, rfl, trivial⟩ rfl
  refine sg [.f, .f, .f, .f, .f, .s] rfl (by simp [h1, h2, h24, h14, h15]) ?_
  exact zae (zd5 _ n x ks ps (by simpa [zbl, h1, h2, h24, h14, h15] using hy)) ⟨rfl, rfl, trivial⟩ ⟨rfl, rfl, trivial⟩ rfl
mutual
def zgq : Tm → Bool
  | .mk op n x ks ps => zdu op n x ks.length ps && zez ks
def zez : List Tm → Bool
  | [] => true
  | t :: r => zgq t && zez r
end
theorem znk : ∀ (t : Tm), zgq t = true → zc8 Tryz.prog 62 [.imm (.agg (dTmc t))] [] (.ret zx4 [])
  | .mk op n x ks ps, hy => by
    refine zjw 0 rfl fun hok => ?_
    have hv : ks.length ≤ 9223372036854775807 := by
      simp [zk9, vOk, dTmc, maxLen] at hok
      have := hok.1
      omega
    simp only [zgq, Bool.and_eq_true_iff] at hy
    refine zaf zi3 Tryz.func62 (by decide +kernel) rfl [1, 2, 3] rfl rfl ?_
    refine sg [] rfl (by simp) ?_
    refine zas (fr := []) [] [] rfl (by simp) (zx8 op n x ks ps hy.1) trivial rfl rfl rfl rfl ?_
    refine sg [] rfl (by simp) ?_
    refine zah (fun i : Nat => [(9, .imm (.int .i64 i)), (8, .imm (.int .i64 ks.length)), (7, .imm (.sl (zcy ks))), (1, .ref 1 0)]) (fun _ => [(1, some (.immb 26 5 (dTmc (.mk op n x ks ps))))]) [2, 3] (fun i => ks.length - i)
      (fun i => i ≤ ks.length ∧ zez (ks.drop i) = true) 0 ⟨Nat.zero_le _, hy.2⟩ ⟨rfl, zcn (by simp), rfl, rfl, trivial⟩ ⟨rfl, trivial⟩ rfl fun i hi ih => ?_
    refine sd [] rfl (by simp) ?_
    have hi2 := hi.2
    refine zaa rfl (fun h => ?_) (fun h => ?_)
    · simp at h
      obtain ⟨t, ht⟩ := zal h
      rw [zap ht] at hi2
      simp only [zez, Bool.and_eq_true_iff] at hi2
      refine sd [] rfl (by simp) ?_
      refine si rfl (c := dTmc t) (fun _ => ⟨by simp, by simpa using zbu ht, by simp⟩) (by simp) ?_
      refine sg [] rfl (by simp) ?_
      · refine zas (fr := []) [] [] rfl (by simp) (znk t hi2.1) trivial rfl rfl rfl rfl ?_
        refine sg [] rfl (by simp) ?_
        exact zae (ih (i + 1) (by omega) ⟨by omega, hi2.2⟩) ⟨zcn (w64 (by omega) (by omega)), rfl, rfl, rfl, trivial⟩ ⟨rfl, trivial⟩ rfl
    · refine sd [] rfl (by simp) ?_
      exact zcf ⟨_, rfl, rfl, trivial⟩
termination_by t => SizeOf.sizeOf t
decreasing_by
  all_goals
    have := List.sizeOf_lt_of_mem (List.mem_of_getElem? ht)
    simp_wf
    omega
theorem zx7 : ∀ (t : Tm), zgq t = false → zc8 Tryz.prog 62 [.imm (.agg (dTmc t))] [] (.pan zn8)
  | .mk op n x ks ps, hy => by
    refine zjw 0 rfl fun hok => ?_
    have hv : ks.length ≤ 9223372036854775807 := by
      simp [zk9, vOk, dTmc, maxLen] at hok
      have := hok.1
      omega
    simp only [zgq, Bool.and_eq_false_iff] at hy
    refine zaf zi3 Tryz.func62 (by decide +kernel) rfl [1, 2, 3] rfl rfl ?_
    refine sg [] rfl (by simp) ?_
    by_cases hn : zdu op n x ks.length ps = true
    rotate_left
    · exact zay [] rfl (by simp) (ymd op n x ks ps (by simpa using hn)) trivial rfl rfl
    rw [hn] at hy
    simp only [Bool.true_eq_false, false_or] at hy
    refine zas (fr := []) [] [] rfl (by simp) (zx8 op n x ks ps hn) trivial rfl rfl rfl rfl ?_
    refine sg [] rfl (by simp) ?_
    refine zah (fun i : Nat => [(9, .imm (.int .i64 i)), (8, .imm (.int .i64 ks.length)), (7, .imm (.sl (zcy ks))), (1, .ref 1 0)]) (fun _ => [(1, some (.immb 26 5 (dTmc (.mk op n x ks ps))))]) [2, 3] (fun i => ks.length - i)
      (fun i => i ≤ ks.length ∧ zez (ks.drop i) = false) 0 ⟨Nat.zero_le _, hy⟩ ⟨rfl, zcn (by simp), rfl, rfl, trivial⟩ ⟨rfl, trivial⟩ rfl fun i hi ih => ?_
    refine sd [] rfl (by simp) ?_
    have hi2 := hi.2
    refine zaa rfl (fun h => ?_) (fun h => ?_)
    · simp at h
      obtain ⟨t, ht⟩ := zal h
      rw [zap ht] at hi2
      simp only [zez, Bool.and_eq_false_iff] at hi2
      refine sd [] rfl (by simp) ?_
      refine si rfl (c := dTmc t) (fun _ => ⟨by simp, by simpa using zbu ht, by simp⟩) (by simp) ?_
      refine sg [] rfl (by simp) ?_
      by_cases hz : zgq t = true
      · refine zas (fr := []) [] [] rfl (by simp) (znk t hz) trivial rfl rfl rfl rfl ?_
        refine sg [] rfl (by simp) ?_
        exact zae (ih (i + 1) (by omega) ⟨by omega, by rw [hz] at hi2; simpa using hi2⟩) ⟨zcn (w64 (by omega) (by omega)), rfl, rfl, rfl, trivial⟩ ⟨rfl, trivial⟩ rfl
      · exact zay [] rfl (by simp) (zx7 t (by simpa using hz)) trivial rfl rfl
    · exfalso
      simp at h
      rw [List.drop_eq_nil_of_le (by omega)] at hi2
      simp [zez] at hi2
termination_by t => SizeOf.sizeOf t
decreasing_by
  all_goals
    have := List.sizeOf_lt_of_mem (List.mem_of_getElem? ht)
    simp_wf
    omega
def zeg (t : Tm) : Bool := decide (0 ≤ za8 t 60 14) && zgq t
theorem ygx (t : Tm) (h : zeg t = true) : zc8 Tryz.prog 60 [.ref 1 0] [(1, some (.immb 26 5 (dTmc t)))] (.ret zx4 [(1, some (.immb 26 5 (dTmc t)))]) := by
  simp only [zeg, Bool.and_eq_true, decide_eq_true_eq] at h
  refine zaf zi3 Tryz.func60 (by decide +kernel) rfl [2, 3, 4] rfl rfl ?_
  refine sg [] rfl (by simp) ?_
  refine zas (fr := []) [(2, 1)] [] rfl (by simp) (zmw t 60 14 1 (by decide) (by decide) (by decide) (by decide) (by decide) (by decide) h.1) ⟨⟨rfl, rfl, rfl⟩, trivial⟩ rfl rfl rfl rfl ?_
  refine sg [] rfl (by simp) ?_
  refine zas (fr := []) [] [] rfl (by simp) (znk t h.2) trivial rfl rfl rfl rfl ?_
  refine sg [] rfl (by simp) ?_
  exact zcf ⟨_, rfl, rfl, ⟨rfl, trivial⟩⟩
theorem yle (t : Tm) (h : zeg t = false) : zc8 Tryz.prog 60 [.ref 1 0] [(1, some (.immb 26 5 (dTmc t)))] (.pan zn8) := by
  refine zaf zi3 Tryz.func60 (by decide +kernel) rfl [2, 3, 4] rfl rfl ?_
  refine sg [] rfl (by simp) ?_
  by_cases h1 : 0 ≤ za8 t 60 14
  · refine zas (fr := []) [(2, 1)] [] rfl (by simp) (zmw t 60 14 1 (by decide) (by decide) (by decide) (by decide) (by decide) (by decide) h1) ⟨⟨rfl, rfl, rfl⟩, trivial⟩ rfl rfl rfl rfl ?_
    refine sg [] rfl (by simp) ?_
    exact zay [] rfl (by simp) (zx7 t (by simpa [zeg, h1] using h)) trivial rfl rfl
  · exact zay [(2, 1)] rfl (by simp) (yd3 t 60 14 1 (by decide) (by decide) (by decide) (by decide) (by decide) (by decide) (by show za8 t 60 14 < 0; omega)) ⟨⟨rfl, rfl, rfl⟩, trivial⟩ rfl rfl
theorem zf5 (t : Tm) : zau Tryz.prog 35 [.agg (dTmc t)] (yb1 (zeg t)) := by
  refine zaf zi3 Tryz.func35 (by decide +kernel) rfl [1, 2, 3] rfl rfl ?_
  refine sg [] rfl (by simp) ?_
  cases h : zeg t with
  | true =>
    refine zas (fr := []) [(1, 1)] [] rfl (by simp) (zpg Tryz.func60 (by decide +kernel) rfl (ygx t h)) ⟨⟨rfl, rfl, rfl⟩, trivial⟩ rfl rfl rfl rfl ?_
    refine sg [] rfl (by simp) ?_
    exact zab ⟨_, rfl, tV rfl, trivial⟩
  | false =>
    refine zas (fr := []) [(1, 1)] [] rfl (by simp) (zs8 Tryz.func60 (by decide +kernel) rfl (yle t h)) ⟨⟨rfl, rfl, rfl⟩, trivial⟩ rfl rfl rfl rfl ?_
    refine sg [] rfl (by simp) ?_
    exact zab ⟨_, rfl, tV rfl, trivial⟩
def ttA : TT := ttS ++ []
theorem yon : TTok Tryz.prog ttA := .of_eq (l := [4, 3, 9, 26, 58, 22, 24, 5, 36, 23, 56, 29, 139, 83, 1, 61, 143]) (by kernel_rfl)
section
variable {n : Nat} {F : List Nat} {Q : DQ} {env env' : Env} {st st' : St} {ids ids' : List Nat} {k todo : List DI} {ob : List Prop}
theorem ad (path : List Pt) (h : run ttA n 300 path todo env st ids [] = .at k env' st' ids' ob) (hob : zb7 ob) (hd : G Tryz.prog n F Q k env' st' ids') : DGo Tryz.prog n F Q todo env st ids := zpu yon mixed 300 path h hob hd
theorem ag (path : List Pt) (h : run ttA n 300 path todo env st ids [] = .at k env' st' ids' ob) (hob : zb7 ob) (hd : G Tryz.prog n F Q k env' st' ids') : G Tryz.prog n F Q todo env st ids := zpr yon mixed 300 path h hob hd
end
end Go.Hk
namespace Go.Hk
section
variable {P : Program} {n : Nat} {F : List Nat} {Q : DQ} {tt : TT} {env env' : Env} {st st' : St} {ids ids' : List Nat} {k todo todo' : List DI} {I : Imm} {μ : Mu} {w : World} {a : Act} {Pn : V → Prop} {d : D} {cx : Prop} {ob : List Prop}
end
end Go.Hk
namespace Go.Hk
open Go.Proofs
end Go.Hk
namespace Go.Hk
def EffW (P : Program) (I : Imm) (μ : Mu) (st : St) (w : World) (d : D) (st' : St) (r : Result Next) : Prop :=
  valX P r (fun u w' => ∃ I' μ', RepD I' μ' u d ∧ StRep I' μ' st' [] w' ∧ Pin (nms st) μ μ' ∧ Ext I μ st w I' μ' st' w') (fun _ _ => False)
def yst (j : Nat) (S : Bun) : St := [(0, some .pin), (j, some (.bun 0 S))]
def ycn (P : Program) (ds : List D) (S : Bun) (r : Bool) (S' : Bun) : Prop :=
  ∀ I μ w b (xs : Array Value), μ 0 = some (.func (.yield b) #[] #[]) → StRep I μ (yst 1 S) [] w → RepL I μ xs.toList ds → EffW P I μ (yst 1 S) w (.imm (.bool r)) (yst 2 S') ((Instr.yield b xs).run P w)
section
variable {P : Program} {n : Nat} {F : List Nat} {Q : DQ} {tt : TT} {env E : Env} {st st0 st1 : St} {ids ids' : List Nat} {k todo todo' : List DI} {I : Imm} {μ : Mu} {w : World} {Pn : V → Prop} {d : D} {das : List D} {f : FuncId}
theorem zcb : ∀ {st : St} {i : Nat} {b : Blk}, zat st i b → i ∈ nms st
  | [], i, b, h => by simp [zat, lk] at h
  | (s, x) :: r, i, b, h => by
    by_cases hs : s = i
    · subst hs; simp [nms]
    · have : zat r i b := by unfold zat at h ⊢; rwa [zan _ _ hs] at h
      simp only [nms, List.map_cons, List.mem_cons]
      exact .inr (zcb this)
theorem yne {s t : St} {i : Nat} {b : Blk} (h : zat (s ++ t) i b) : zat s i b ∨ (i ∉ nms s ∧ zat t i b) := by
  by_cases hm : i ∈ s.map (·.1)
  · left; unfold zat at h ⊢; rwa [zge hm] at h
  · right; unfold zat at h ⊢; rw [zjp hm] at h; exact ⟨hm, h⟩
theorem zzn {s t : St} {i : Nat} {b : Blk} (h : zat s i b) : zat (s ++ t) i b := by
  have hm : i ∈ s.map (·.1) := zcb h
  unfold zat at h ⊢; rwa [zge hm]
theorem zzm {s t : St} {i : Nat} {b : Blk} (hn : i ∉ nms s) (h : zat t i b) : zat (s ++ t) i b := by
  unfold zat at h ⊢; rwa [zjp hn]
theorem ld_not {all : List Oper} {o : Oper} {g : Option (Bool × Bool)} (hg : zea all env o = some g) (hcx : ¬ zag g) : LD P Pn all o env st [] [] [] (gD g d) := by
  intro I μ st2 ids1 a w hag hst hon
  have hwant := zg6 hg hon
  refine ⟨fun hw => absurd (hwant.1 hw) hcx, fun _ => ⟨rfl, rfl, ?_⟩⟩
  cases g with
  | none => exact absurd trivial hcx
  | some p => exact .guard _ _ _ _ (fun h => absurd h hcx) (fun _ => rfl)
structure yqy where
  id : Nat
  das : List D
  g : Option (Bool × Bool)
  ob : List Prop
  dst : Option Nat
  o : Oper
  all : List Oper
def ypg (n : Nat) (env : Env) (todo : List DI) : Option yqy :=
  match zcr todo ([], []) with
  | some (all, o, _) => match zea all env o, o.op with
    | some g, .call { callee := .value (.tmp t), args := ⟨args⟩, .. } => match lk env t, yhf (zag g) env args, zdg n o.dst with
      | some (.yld id), some (ds, ob), true => some ⟨id, ds, g, ob, o.dst, o, all⟩
      | some (.guard c w (.yld id)), some (ds, ob), true => some ⟨id, ds, g, (zag g → c = w) :: ob, o.dst, o, all⟩
      | _, _, _ => none
    | _, _ => none
  | none => none
theorem RepD.yldInv {v : Value} {id : Nat} (h : RepD I μ v (.yld id)) : ∃ b, μ id = some (.func (.yield b) #[] #[]) ∧ v = .func (.yield b) #[] #[] := by
  cases h with
  | yld b _ h => exact ⟨b, h, rfl⟩
theorem yhi {o : Oper} {t b : Nat} {args : List Operand} {ts : Array TypeId} {a : Act} (ho : o.op = .call { callee := .value (.tmp t), args := ⟨args⟩, argTypes := ts }) (hv : a.eval (.tmp t) = .func (.yield b) #[] #[]) :
    (execOp a.eval o).run P w = (Instr.yield b (args.map a.eval).toArray).run P w := by
  simp only [execOp, ho, resolve, hv, Deferred.ofValue, Sem.run_bind, Sem.run_pure, Result.andThen_ok, invoke]
  congr 2
  simp
theorem yhj {c : yqy} (h : ypg n env todo = some c) (hob : zb7 c.ob) (hcx : zag c.g) :
    (∀ f, ∃ todo', zcr todo f = some (c.all, c.o, todo')) ∧ zea c.all env c.o = some c.g ∧ zdg n c.dst = true ∧ c.dst = c.o.dst ∧ (∀ x, c.o.op ≠ .defer x) ∧
    ∀ I μ a, zfq I μ env a c.o.op → ∃ b, ∃ xs : Array Value, μ c.id = some (.func (.yield b) #[] #[]) ∧ RepL I μ xs.toList c.das ∧ ∀ w, (execOp a.eval c.o).run P w = (Instr.yield b xs).run P w := by
  unfold ypg at h
  have hnext : ∀ {all : List Oper} {o : Oper} {t : List DI}, zcr todo ([], []) = some (all, o, t) → ∀ f, ∃ todo', zcr todo f = some (all, o, todo') := by
    intro all o t h f
    rcases zmo h with ⟨r, k, rfl, _⟩ | ⟨r, fs, k, rfl, _⟩
    · exact ⟨_, rfl⟩
    · exact ⟨_, rfl⟩
  split at h
  · rename_i all o t h1
    split at h
    · rename_i g t' args ts hg ho
      have fin : ∀ {dv : D} {ds : List D} {ob : List Prop} {id : Nat}, lk env t' = some dv → yhf (zag g) env args = some (ds, ob) → zb7 ob → zag g → (∀ {I : Imm} {μ : Mu} {v : Value}, RepD I μ v dv → ∃ b, μ id = some (.func (.yield b) #[] #[]) ∧ v = .func (.yield b) #[] #[]) →
          ∀ I μ a, zfq I μ env a o.op → ∃ b, ∃ xs : Array Value, μ id = some (.func (.yield b) #[] #[]) ∧ RepL I μ xs.toList ds ∧ ∀ w, (execOp a.eval o).run P w = (Instr.yield b xs).run P w := by
        intro dv ds ob id ht ha hob hcx hyl I μ a hop
        rw [ho] at hop
        have hargs := zkl (I := I) (μ := μ) (a := a) hcx ha hob fun x hx => hop x (by simp [Op.operands, Call.operands, hx])
        obtain ⟨b, q1, q2⟩ := hyl (hop (.tmp t') (by simp [Op.operands, Call.operands]) _ ht)
        exact ⟨b, _, q1, by simpa using hargs, fun w => yhi ho q2⟩
      split at h
      · rename_i id ds ob ht ha hd
        cases h
        exact ⟨hnext h1, hg, hd, rfl, (fun x hx => by rw [ho] at hx; cases hx), fin ht ha hob hcx (fun h => h.yldInv)⟩
      · rename_i cc ww id ds ob ht ha hd
        cases h
        exact ⟨hnext h1, hg, hd, rfl, (fun x hx => by rw [ho] at hx; cases hx), fin ht ha hob.2 hcx (fun h => (h.guardInv (hob.1 hcx)).yldInv)⟩
      · cases h
    · cases h
  · cases h
theorem zjs {c : yqy} {j j2 : Nat} {S S' : Bun} {r : Bool} (h : ypg n env todo = some c) (hob : zb7 c.ob) (hcx : zag c.g) (hE : ycn P (zlx (zi0 [(c.id, 0), (j, 1)]) c.das) S r S') (hy : lk st c.id = some (some .pin)) (hj : lk st j = some (some (.bun c.id S)))
    (hn : zzd [(c.id, 0), (j, 1)] [(2, j2)] c.das (yst 1 S) (.imm (.bool r)) (yst 2 S') [j2] = true) (h1 : zcr todo ([c.id, j], [c.id, j2, c.id, j]) = some (c.all, c.o, todo')) (hids : ids = j2 :: ids')
    (hk : G P n F Q todo' (zei c.dst (gD c.g (.imm (.bool r))) env) ((c.id, some .pin) :: (j2, some (.bun c.id S')) :: (c.id, none) :: (j, none) :: st) ids') : G P n F Q todo env st ids := by
  obtain ⟨_, q2, q3, q4, q5, q6⟩ := yhj (P := P) h hob hcx
  rw [q4] at q3 hk
  subst hids
  have hN := zzc hn
  have hb : zj3 [(c.id, 0), (j, 1)] st (yst 1 S) := by
    have hne : Nat.beq c.id j = false := by
      have := hN.inv
      simp only [List.map_cons, List.map_nil, zer, zbz] at this
      cases hb : Nat.beq c.id j with
      | false => rfl
      | true =>
        have := Nat.eq_of_beq_eq_true hb
        rw [← this] at hj
        rw [hy] at hj
        cases hj
    have e0 : lk (zbz [(c.id, 0), (j, 1)]) 0 = some c.id := rfl
    have e1 : lk (zbz [(c.id, 0), (j, 1)]) 1 = some j := rfl
    have f0 : lk [(c.id, 0), (j, 1)] c.id = some 0 := zaj _ _ _
    have f1 : lk [(c.id, 0), (j, 1)] j = some 1 := by
      have : c.id ≠ j := fun e => by rw [e] at hne; simp at hne
      rw [zan _ _ this]; exact zaj _ _ _
    have g0 : zi0 [(c.id, 0), (j, 1)] c.id = 0 := by simp [zi0, f0]
    refine ⟨?_, ?_, trivial⟩
    · simp only [e0, f0, hy]
      exact ⟨rfl, rfl, rfl⟩
    · simp only [e1, f1, hj]
      refine ⟨rfl, ?_, ?_⟩
      · simp only [ymt, g0]
      · simp only [nmB, zer, f0, e0]; simp
  have hl : LD P (yl2 Q) c.all c.o env st (yd5 [(c.id, 0), (j, 1)]) [j2] (zmg (zbz [(c.id, 0), (j, 1)] ++ [(2, j2)]) (yst 2 S') ++ zem (yd5 [(c.id, 0), (j, 1)])) (gD c.g (.imm (.bool r))) := by
    intro I μ st2 ids1 a w hag hst hon
    have hwant := zg6 q2 hon
    refine ⟨fun _ => ?_, fun hw => by rw [hwant.2 hcx] at hw; cases hw⟩
    obtain ⟨b, xs, m1, m2, m3⟩ := q6 I μ a (zbo hon)
    have hb' := zj2 hag hb
    obtain ⟨g1, g2, g3⟩ := zkq hst hb' hN.args m2
    rw [m3]
    refine (hE I _ w b xs (by simpa [zlb, zbz, lk] using m1) g1 g2).mono (fun u w' hu => ?_) (fun _ _ h => h.elim)
    obtain ⟨I', μ', r1, r2, r3, r4⟩ := hu
    obtain ⟨ν, s1, s2, s3, s4⟩ := ztd hst hb' hN r1 r2 r3 r4 g3
    rw [← zsk] at s1 s4
    refine ⟨I', ν, s1, ?_, s3, s4⟩
    cases hg : c.g with
    | none => exact s2
    | some p => rw [hg] at hcx; exact .guard _ _ _ _ (fun _ => s2) (fun hn => absurd hcx hn)
  have ew : zmg (zbz [(c.id, 0), (j, 1)] ++ [(2, j2)]) (yst 2 S') ++ zem (yd5 [(c.id, 0), (j, 1)]) = [(c.id, some .pin), (j2, some (.bun c.id S')), (c.id, none), (j, none)] := rfl
  rw [ew] at hl
  exact zc5 (fr := [j2]) (wr := [(c.id, some .pin), (j2, some (.bun c.id S')), (c.id, none), (j, none)]) h1 hl q3 q5 hk
structure NCall where
  g : Option (Bool × Bool)
  dst : Option Nat
  todo : List DI
def ncall (n : Nat) (env : Env) (todo : List DI) : Option NCall :=
  match zcr todo ([], []) with
  | some (all, o, todo') => match zea all env o, o.op, zdg n o.dst with
    | some g, .call _, true => some ⟨g, o.dst, todo'⟩
    | _, _, _ => none
  | none => none
theorem ykq {c : NCall} (d : D) (h : ncall n env todo = some c) (hcx : ¬ zag c.g) (hk : G P n F Q c.todo (zei c.dst (gD c.g d) env) st ids) : G P n F Q todo env st ids := by
  unfold ncall at h
  split at h
  · rename_i all o todo' h1
    split at h
    · rename_i g cc hg ho hd
      cases h
      exact zc5 (fr := []) (wr := []) h1 (ld_not hg hcx) hd (fun x hx => by rw [ho] at hx; cases hx) hk
    · cases h
  · cases h
end
end Go.Hk
namespace Go.Hk
def BodyQ (pend : Option Code) (stB : St) : DQ := fun x _ st _ => match x, pend with
  | .norm, none => zla st stB
  | .ret, some .ret => zla st stB
  | .exit j, some (.exit j') => j = j' ∧ zla st stB
  | _, _ => False
structure zom where
  fn : FuncId
  ps : Array Tmp
  asg : Code
  body : Code
  tmps : Array Value
  E : Env
  F : List Nat
  μ0 : Mu
def ype (pend : Option Code) (r : Go.Loop) : Prop := r.state = (match pend with | none => .ready | some _ => .done) ∧ r.pending = pend
def bunP (L : zom) (st : St) (pend : Option Code) (I : Imm) (w : World) (b : Nat) (bs : List Nat) : Prop :=
  ∃ (r : Go.Loop) (μ : Mu) (bs0 : List Nat), bs = b :: bs0 ∧ w.heap[b]? = some (.loop r) ∧ ype pend r ∧ (r.fn = L.fn ∧ r.params = L.ps ∧ r.assign = L.asg ∧ r.body = L.body ∧ r.tmps = L.tmps) ∧
    (∀ t d, lk L.E t = some d → RepD I μ (L.tmps.getD t undef) d) ∧ (∀ i blk, zat st i blk → ∃ g, μ i = some g ∧ BlkRep I μ w g blk) ∧
    (∀ i j bi bj gi gj k, zat st i bi → zat st j bj → μ i = some gi → μ j = some gj → zgy gi k → zgy gj k → i = j) ∧ (∀ k, k ∈ bs0 ↔ zcd μ st k) ∧ b ∉ bs0 ∧ Pin L.F L.μ0 μ
def zdv (L : zom) (st : St) (pend : Option Code) : Bun where
  P := bunP L st pend
  mono := fun {I J w b bs} h hp => by
    obtain ⟨r, μ, bs0, h1, h2, h3, h4, h5, h6, h7, h8, h9, h10⟩ := hp
    exact ⟨r, μ, bs0, h1, h2, h3, h4, fun t d hl => (h5 t d hl).mono h (Mu.le_refl μ), fun i blk hl => let ⟨g, q1, q2⟩ := h6 i blk hl; ⟨g, q1, q2.mono h (Mu.le_refl μ)⟩, h7, h8, h9, h10⟩
  loc := fun {I w w' b bs} h hp => by
    obtain ⟨r, μ, bs0, h1, h2, h3, h4, h5, h6, h7, h8, h9, h10⟩ := hp
    subst h1
    exact ⟨r, μ, bs0, rfl, (h b (by simp)).trans h2, h3, h4, h5, fun i blk hl => let ⟨g, q1, q2⟩ := h6 i blk hl; ⟨g, q1, q2.world fun k hk => h k (by simp [(h8 k).2 ⟨i, blk, g, hl, q1, hk⟩])⟩, h7, h8, h9, h10⟩
def yci : Value → List Nat
  | .pointer (some a) => [a.block]
  | .slice (some a) _ _ => [a.block]
  | .map (some c) => [c]
  | .agg cs => cs.toList.filterMap fun | .pointer (some a) => some a.block | _ => none
  | .tuple ⟨[_, .agg cs]⟩ => cs.toList.filterMap fun | .pointer (some a) => some a.block | _ => none
  | _ => []
theorem zti {g : Value} {k : Nat} : k ∈ yci g ↔ zgy g k := by
  unfold yci zgy
  split <;> simp [eq_comm]
  all_goals
    constructor
    · rintro ⟨a, h1, h2⟩
      split at h2
      · cases h2; exact ⟨_, h1, rfl⟩
      · cases h2
    · rintro ⟨a, h1, h2⟩
      exact ⟨_, h1, by rw [h2]⟩
open Classical in
theorem zus (μ : Mu) (st : St) : ∃ l : List Nat, ∀ k, k ∈ l ↔ zcd μ st k := by
  refine ⟨(nms st).flatMap fun i => if (∃ b, zat st i b) then (match μ i with | some g => yci g | none => []) else [], fun k => ?_⟩
  rw [List.mem_flatMap]
  constructor
  · rintro ⟨i, _, h⟩
    split at h
    · rename_i hb
      obtain ⟨b, hb⟩ := hb
      cases hg : μ i with
      | none => rw [hg] at h; cases h
      | some g => rw [hg] at h; exact ⟨i, b, g, hb, hg, zti.1 h⟩
    · cases h
  · rintro ⟨i, b, g, h1, h2, h3⟩
    refine ⟨i, zcb h1, ?_⟩
    rw [if_pos ⟨b, h1⟩, h2]
    exact zti.2 h3
def ykw (ids : List Nat) (E : Env) (st : St) (F : List Nat) : Prop := ids.Nodup ∧ ∀ i ∈ ids, i ∉ nmE E ∧ i ∉ zfk st ∧ i ∉ F
section
variable {P : Program} {n : Nat} {F : List Nat} {Q : DQ} {tt : TT} {env E : Env} {st st0 st1 : St} {ids ids' : List Nat} {k todo todo' : List DI} {I : Imm} {μ : Mu} {w : World} {Pn : V → Prop} {d : D} {das : List D} {f : FuncId}
theorem yp6 : ∀ {st : St} {i : Nat} {b : Blk}, zat st i b → i ∈ zfk st := fun h => (zde h).1
theorem yek {L : zom} {pend : Option Code} {b : Nat} {bs : List Nat} (h : bunP L st pend I w b bs) (hf : ykw ids L.E st L.F) (hI : I.ok w) (hbs : ∀ k ∈ bs, I k = none ∧ k < w.heap.size) :
    ∃ (r : Go.Loop) (ν : Mu) (bs0 : List Nat), bs = b :: bs0 ∧ w.heap[b]? = some (.loop r) ∧ ype pend r ∧ (r.fn = L.fn ∧ r.params = L.ps ∧ r.assign = L.asg ∧ r.body = L.body ∧ r.tmps = L.tmps) ∧
      (∀ t d, lk L.E t = some d → RepD I ν (L.tmps.getD t undef) d) ∧ StRep I ν st ids w ∧ (∀ k, k ∈ bs0 ↔ zcd ν st k) ∧ b ∉ bs0 ∧ Pin L.F L.μ0 ν := by
  obtain ⟨r, μ, bs0, h1, h2, h3, h4, h5, h6, h7, h8, h9, h10⟩ := h
  obtain ⟨hf1, hf2⟩ := hf
  obtain ⟨ν, hν⟩ : ∃ ν : Mu, ν = fun i => if i ∈ ids then none else μ i := ⟨_, rfl⟩
  have hν1 : ∀ i, i ∉ ids → ν i = μ i := fun i hi => by rw [hν]; exact if_neg hi
  have hv1 : ∀ i, i ∈ nmE L.E ∨ i ∈ zfk st ∨ i ∈ L.F → ν i = μ i := fun i hi => hν1 i fun hm => by
    obtain ⟨q1, q2, q3⟩ := hf2 i hm
    rcases hi with h | h | h
    · exact q1 h
    · exact q2 h
    · exact q3 h
  have hv2 : ∀ {i bi}, zat st i bi → ν i = μ i := fun hl => hv1 _ (.inr (.inl (yp6 hl)))
  have hown : ∀ k, zcd ν st k ↔ zcd μ st k := fun k => by
    constructor <;> rintro ⟨i, bi, g, q1, q2, q3⟩
    · exact ⟨i, bi, g, q1, by rw [← hv2 q1]; exact q2, q3⟩
    · exact ⟨i, bi, g, q1, by rw [hv2 q1]; exact q2, q3⟩
  refine ⟨r, ν, bs0, h1, h2, h3, h4, fun t d hl => (h5 t d hl).sub fun j hj g hg => by rw [hv1 j (.inl (yjp hl j hj))]; exact hg, ?_, fun k => by rw [hown k]; exact h8 k, h9, fun i hi g hg => by rw [hv1 i (.inr (.inr hi))]; exact h10 i hi g hg⟩
  exact
    { imm := hI
      blk := fun i bi hl => by
        obtain ⟨g, q1, q2⟩ := h6 i bi hl
        exact ⟨g, by rw [hv2 hl]; exact q1, q2.sub fun j hj g hg => by rw [hv1 j (.inr (.inl ((zde hl).2 j hj)))]; exact hg⟩
      apart := fun i bi g k hl hgi hk => hbs k (by rw [h1]; exact List.mem_cons_of_mem _ ((h8 k).2 ⟨i, bi, g, hl, by rw [← hv2 hl]; exact hgi, hk⟩))
      inj := fun i j bi bj gi gj k hi hj hgi hgj => h7 i j bi bj gi gj k hi hj (by rw [← hv2 hi]; exact hgi) (by rw [← hv2 hj]; exact hgj)
      nodup := hf1
      idsFree := fun i hi => by rw [hν]; exact if_pos hi }
theorem zl1 {j : Nat} {S : Bun} (hj : j ≠ 0) {i : Nat} {bi : Blk} (h : zat (yst j S) i bi) : (i = 0 ∧ bi = .pin) ∨ (i = j ∧ bi = .bun 0 S) := by
  rcases zai.1 h with h | ⟨_, h⟩
  · exact .inl h
  · rcases zai.1 h with h | ⟨_, h⟩
    · exact .inr h
    · simp [zat, lk] at h
theorem zoa {L : zom} {p t rid : Nat} {fc : Func} {o : Oper} {d : D} {stB : St} {pend : Option Code} (hf : P.funcs[L.fn]? = some fc) (hps : L.ps = #[p]) (hasg : L.asg = .region rid ⟨[o]⟩ false) (hsz : L.tmps.size = n)
    (hd : nmD d = []) (ho : o.op = .assign (.tmp p)) (hog : o.guard = none) (hod : o.dst = some t) (hp : p < n) (ht : t < n) (hfree : ykw ids L.E st L.F)
    (h : DGo P n (ya3 :: (L.F ++ nmE L.E)) (BodyQ pend stB) [.code L.body] ((t, d) :: (p, d) :: L.E) st ids) : ycn P [d] (zdv L st none) pend.isNone (zdv L stB pend) := by
  intro I μ w b xs hμ hst hx
  have hl0 : zat (yst 1 (zdv L st none)) 0 .pin := zai.2 (.inl ⟨rfl, rfl⟩)
  have hl1 : zat (yst 1 (zdv L st none)) 1 (.bun 0 (zdv L st none)) := zai.2 (.inr ⟨by simp, zai.2 (.inl ⟨rfl, rfl⟩)⟩)
  obtain ⟨g1, hg1, b', bs, hb1, rfl, hP⟩ := hst.blk 1 _ hl1
  rw [hμ] at hb1
  cases hb1
  have hbs : ∀ k ∈ bs, I k = none ∧ k < w.heap.size := fun k hk => hst.apart 1 _ _ k hl1 hg1 (zdw.2 hk)
  have hP0 := hP
  obtain ⟨r, ν, bs0, e1, hr1, ⟨hr2, hr3⟩, ⟨hr4, hr5, hr6, hr7, hr8⟩, hE1, hS, hown, hnb, hF⟩ := yek hP hfree hst.imm hbs
  subst e1
  obtain ⟨x, rfl⟩ : ∃ x, xs = #[x] := by
    obtain ⟨l⟩ := xs
    have := hx.1
    match l, this with
    | [x], _ => exact ⟨x, rfl⟩
  have hxd0 : RepD I μ x d := hx.2 0 x d rfl rfl
  have hxd1 : RepD I ν x d := hxd0.sub fun j hj => by rw [hd] at hj; cases hj
  have hsz1 : (#[x] : Array Value).size = r.params.size := by rw [hr5, hps]; rfl
  unfold EffW
  rw [run_yield hr1 hsz1]
  refine zpn (fc := fc) (by rw [hr4]; exact hf) fun fb cs hbf hbr => ?_
  rw [hr5, hps, hr6, hasg, hr7, hr8]
  have hfold : ((#[p] : Array Nat).zip #[x]).foldl (fun tmps (t, a) => tmps.setIfInBounds t a) L.tmps = L.tmps.setIfInBounds p x := by simp
  rw [hfold]
  obtain ⟨hIb, hblt⟩ := hbs b (by simp)
  have hnob : ¬ zcd ν st b := fun h => hnb ((hown b).2 h)
  obtain ⟨w1, hw1⟩ : ∃ w1 : World, w1 = w.putObj b (.loop { r with state := .busy }) := ⟨_, rfl⟩
  have hput : ∀ (w : World) (o : Obj), (w.putObj b o).heap = w.heap.setIfInBounds b o := fun w o => by
    unfold World.putObj
    by_cases hi : b < w.heap.size <;> simp [hi]
  have hoth : ∀ (w : World) (o : Obj) k, k ≠ b → (w.putObj b o).heap[k]? = w.heap[k]? := fun w o k hk => by rw [hput, Array.getElem?_setIfInBounds_ne (Ne.symm hk)]
  have hbeg := run_beginRound (P := P) hr1 hr2
  -- the assignment
  refine zoz ?_
  show Reach P fb cs _ (.inRegion #[o] [0] :: [.beginRound, .code L.body]) _ w
  refine zfz (o := o) rfl (zax hog) (fun c hc => by rw [ho] at hc; cases hc) ?_
  refine valX.upon ?_
  have hex : ∀ a : Act, (execOp a.eval o).run P w = .ok (.value (a.eval (.tmp p))) w := fun a => by simp [execOp, ho]
  rw [hex]
  show Reach P fb cs _ _ _ w
  refine zgl (Reach.step (stepR_beginRound hbr hbeg) ?_)
  rw [← hw1]
  have hpx : (Act.eval { tmps := L.tmps.setIfInBounds p x, defers := [] } (.tmp p)) = x := by
    have hlt : p < L.tmps.size := by omega
    simp [Act.eval, hlt]
  rw [hpx, hod]
  obtain ⟨e1, e2, e3⟩ := zje (n := n) (w := w) (a := { tmps := L.tmps, defers := [] }) (dst := some p) hE1 hsz (fun t ht => by cases ht; exact hp) hxd1
  obtain ⟨c1, c2, c3⟩ := zje (n := n) (w := w) (dst := some t) e1 e2 (fun t' ht' => by cases ht'; exact ht) hxd1
  have hc : Conc n I ν ((t, d) :: (p, d) :: L.E) st ids ((Act.put { tmps := L.tmps, defers := [] } (some p) x).put (some t) x) w1 :=
    { hS.other (by rw [hw1, hput]; simp) (fun k o hk => by rw [hw1]; exact hoth _ _ k (fun e => by rw [e, hIb] at hk; cases hk)) (fun k hk => by rw [hw1]; exact hoth _ _ k (fun e => hnob (e ▸ hk))) with
      size := c2
      env := c1
      defers := by rw [c3, e3]; exact MarksOk.nil _ _ _ _ }
  have hgo := h ⟨fb, .inl (by simp)⟩ cs I ν _ w1 [.code L.body] ⟨rfl, trivial⟩ hc
  refine Reach.mono (fun e a' w' hpost => ?_) hgo
  obtain ⟨x', env', st', ids2, I', μ', p1, p2, p3, p4, p5, p6⟩ := hpost
  have hb1 : w1.heap[b]? = some (.loop { r with state := .busy }) := by rw [hw1, hput]; simp [hblt]
  have hsz1 : w1.heap.size = w.heap.size := by rw [hw1, hput]; simp
  have hb' : w'.heap[b]? = some (.loop { r with state := .busy }) := by rw [p5.block b (by omega) hnob]; exact hb1
  have hno' : ¬ zcd μ' st' b := fun ho => hnob (p5.fresh b (by omega) ho)
  have hI' : I' b = none := by rw [p5.old b (by omega) hnob]; exact hIb
  have hblt' : b < w'.heap.size := (Array.getElem?_eq_some_iff.1 hb').1
  have fin : zla st' stB → ∃ v w'', (Instr.endRound b pend).run P w' = .ok v w'' ∧ (∃ I2 μ2, RepD I2 μ2 v (.imm (.bool pend.isNone)) ∧ StRep I2 μ2 (yst 2 (zdv L stB pend)) [] w'' ∧
      Pin (nms (yst 1 (zdv L st none))) μ μ2 ∧ Ext I μ (yst 1 (zdv L st none)) w I2 μ2 (yst 2 (zdv L stB pend)) w'') := by
    intro hsub
    have hSB : StRep I' μ' stB [] w' := p3.toStRep.less (zci hsub) .nil (fun _ h => by simp at h)
    have hownB' : ∀ k, zcd μ' stB k → zcd μ' st' k := fun k ⟨i, bi, g, q1, q2⟩ => ⟨i, bi, g, zci hsub i bi q1, q2⟩
    have hnoB : ¬ zcd μ' stB b := fun h => hno' (hownB' b h)
    obtain ⟨w2, hw2⟩ : ∃ w2 : World, w2 = w'.putObj b (.loop { r with state := if pend.isNone then .ready else .done, pending := pend }) := ⟨_, rfl⟩
    have hend : (Instr.endRound b pend).run P w' = .ok (.bool pend.isNone) w2 := by
      have := run_endRound (P := P) pend hb'
      rw [hw2]; exact this
    have hw2s : w2.heap.size = w'.heap.size := by rw [hw2, hput]; simp
    have hw2o : ∀ k, k ≠ b → w2.heap[k]? = w'.heap[k]? := fun k hk => by rw [hw2]; exact hoth _ _ k hk
    have hSB2 : StRep I' μ' stB [] w2 := hSB.other (by omega) (fun k o hk => hw2o k (fun e => by rw [e, hI'] at hk; cases hk)) (fun k hk => hw2o k (fun e => hnoB (e ▸ hk)))
    obtain ⟨bsN, hbsN⟩ := zus μ' stB
    -- the new bundle
    have hPN : (zdv L stB pend).P I' w2 b (b :: bsN) := by
      refine ⟨{ r with state := if pend.isNone then .ready else .done, pending := pend }, μ', bsN, rfl, by rw [hw2, hput]; simp [hblt'], ⟨by cases pend <;> rfl, rfl⟩, ⟨hr4, hr5, hr6, hr7, hr8⟩, fun t d hl => ?_, hSB2.blk, hSB2.inj, hbsN, fun hm => hnoB ((hbsN b).1 hm), fun i hi => ?_⟩
      · exact ((hE1 t d hl).mono p5.imm (Mu.le_refl ν)).sub fun j hj g hg => p4 j (by simp [yjp hl j hj]) g hg
      · exact fun g hg0 => p4 i (by simp [hi]) g (hF i hi g hg0)
    obtain ⟨μ2, hμ2⟩ : ∃ μ2 : Mu, μ2 = fun i => if i = 2 then some (.agg (ymy (b :: bsN))) else μ i := ⟨_, rfl⟩
    have hm0 : μ2 0 = some (.func (.yield b) #[] #[]) := by rw [hμ2]; simpa using hμ
    have hm2 : μ2 2 = some (.agg (ymy (b :: bsN))) := by rw [hμ2]; simp
    have hold : ∀ k, k ∈ b :: bsN → k < w.heap.size → k ∈ b :: bs0 := fun k hk hlt => by
      rcases List.mem_cons.1 hk with rfl | hk
      · simp
      · exact List.mem_cons_of_mem _ ((hown k).2 (p5.fresh k (by omega) (hownB' k ((hbsN k).1 hk))))
    have hnew : ∀ k ∈ b :: bsN, I' k = none ∧ k < w2.heap.size := fun k hk => by
      rcases List.mem_cons.1 hk with rfl | hk
      · exact ⟨hI', by omega⟩
      · obtain ⟨i, bi, g, q1, q2, q3⟩ := (hbsN k).1 hk
        exact hSB2.apart i bi g k q1 q2 q3
    have hownO : ∀ k, zcd μ (yst 1 (zdv L st none)) k ↔ k ∈ b :: bs0 := fun k => by
      constructor
      · rintro ⟨i, bi, g, q1, q2, q3⟩
        rcases zl1 (by simp) q1 with ⟨rfl, rfl⟩ | ⟨rfl, rfl⟩
        · rw [hμ] at q2; cases q2; exact q3.elim
        · rw [hg1] at q2; cases q2; exact zdw.1 q3
      · intro hk; exact ⟨1, _, _, hl1, hg1, zdw.2 hk⟩
    have hownN : ∀ k, zcd μ2 (yst 2 (zdv L stB pend)) k → k ∈ b :: bsN := fun k => by
      rintro ⟨i, bi, g, q1, q2, q3⟩
      rcases zl1 (by simp) q1 with ⟨rfl, rfl⟩ | ⟨rfl, rfl⟩
      · rw [hm0] at q2; cases q2; exact q3.elim
      · rw [hm2] at q2; cases q2; exact zdw.1 q3
    refine ⟨_, w2, hend, I', μ2, .imm _ _ (.bool _), ?_, ?_, ?_⟩
    · refine { imm := hSB2.imm, blk := fun i bi hl => ?_, apart := fun i bi g k hl hgi hk => hnew k (hownN k ⟨i, bi, g, hl, hgi, hk⟩), inj := fun i j bi bj gi gj k hi hj hgi hgj hki hkj => ?_, nodup := .nil, idsFree := fun _ h => by simp at h }
      · rcases zl1 (by simp) hl with ⟨rfl, rfl⟩ | ⟨rfl, rfl⟩
        · exact ⟨_, hm0, b, rfl⟩
        · exact ⟨_, hm2, b, _, hm0, rfl, hPN⟩
      · rcases zl1 (by simp) hi with ⟨rfl, rfl⟩ | ⟨rfl, rfl⟩ <;> rcases zl1 (by simp) hj with ⟨rfl, rfl⟩ | ⟨rfl, rfl⟩
        · rfl
        · rw [hm0] at hgi; cases hgi; exact hki.elim
        · rw [hm0] at hgj; cases hgj; exact hkj.elim
        · rfl
    · intro i hi g hg
      simp only [yst, nms, List.map_cons, List.map_nil, List.mem_cons, List.not_mem_nil, or_false] at hi
      have : i ≠ 2 := by omega
      rw [hμ2]; simp only [if_neg this]; exact hg
    · refine { imm := p5.imm, os := ?_, tape := ?_, output := ?_, size := ?_, block := fun k hk hno => ?_, fresh := fun k hk ho => (hownO k).2 (hold k (hownN k ho) hk), old := fun k hk hno => p5.old k (by omega) (fun h => hno ((hownO k).2 (List.mem_cons_of_mem _ ((hown k).2 h)))) }
      · have := p5.os; rw [hw1] at this; rw [hw2]; unfold World.putObj at this ⊢; exact this
      · have := p5.tape; rw [hw1] at this; rw [hw2]; unfold World.putObj at this ⊢; exact this
      · have := p5.output; rw [hw1] at this; rw [hw2]; unfold World.putObj at this ⊢; exact this
      · have := p5.size; omega
      · have hkb : k ≠ b := fun e => hno ((hownO k).2 (by simp [e]))
        rw [hw2o k hkb, p5.block k (by omega) (fun h => hno ((hownO k).2 (List.mem_cons_of_mem _ ((hown k).2 h)))), hw1, hoth _ _ k hkb]
  cases e with
  | normal =>
    cases x' <;> simp only [yg5] at p1
    cases pend with
    | none => exact fin p2
    | some c => exact p2.elim
  | ret =>
    cases x' <;> simp only [yg5] at p1
    cases pend with
    | none => exact p2.elim
    | some c => cases c <;> first | exact p2.elim | exact fin p2
  | exit j =>
    cases x' <;> simp only [yg5] at p1
    cases pend with
    | none => exact p2.elim
    | some c =>
      cases c <;> first | exact p2.elim | skip
      obtain ⟨q1, q2⟩ := p2
      subst q1; subst p1
      exact fin q2
  | goto l =>
    cases x' <;> simp only [yg5] at p1
    cases pend <;> exact p2.elim
  | panic chain =>
    cases x' <;> simp only [yg5] at p1
    cases pend <;> exact p2.elim
  | outgrown => cases x' <;> simp only [yg5] at p1
def jumpI : Option Code → List DI
  | none => []
  | some c => [.code c]
theorem zd1 {g : Operand} {ps : Array Tmp} {asg body c : Code} {f y j j2 : Nat} {fc : Func} {df dc : List D} {stc stc' stx stB : St} {pend : Option Code} (hg : evO env g = some (.fn (.func f) df dc)) (hf : P.funcs[f]? = some fc)
    (hname : (fc.name == "runtime.NumGoroutine") = false) (hb : fc.body = some c) (hF : ya3 ∉ F) (hEE : yq1 env E) (hl : ∀ i b, zat (stc ++ stx) i b → zat st i b)
    (hE : ∀ L : zom, P.funcs[L.fn]?.isSome → L.tmps.size = n → L.ps = ps → L.asg = asg → L.body = body → L.E = E → L.F = F →
      zc8 P f (df ++ .yld y :: dc) ((y, some .pin) :: (j, some (.bun y (zdv L stx none))) :: stc) (.ret d ((y, some .pin) :: (j2, some (.bun y (zdv L stB pend))) :: stc')))
    (hdis : ∀ i ∈ nms stc, i ∉ nms stx) (hyj : y ≠ j ∧ y ≠ j2 ∧ y ∉ nms stc ∧ j ∉ nms stc) (hcl : ∀ i, i ∈ nmL (df ++ dc) ∨ i ∈ zfk stc → i ∈ nms stc) (hfree : ykw ids' E stB F)
    (hk : DGo P n F Q (jumpI pend ++ k) E stB ids') : DGo P n F Q (.code (.rangeFunc g ps asg body) :: k) env st ids := by
  intro b cs I μ a w items hd hc
  obtain ⟨is, rfl, hki⟩ := zkn hd
  rcases b.2 with hb0 | ⟨hb0, fcb, hfb⟩
  · exact absurd hb0 hF
  have he := run_enterLoop_outer (P := P) (w := w) b.1.fn a.tmps ps asg body
  obtain ⟨ro, hro⟩ : ∃ ro, ro = b.1.roundOf := ⟨_, rfl⟩
  have he' : (Instr.enterLoop b.1.fn a.tmps ps asg body ro).run P w = (Instr.enterLoop b.1.fn a.tmps ps asg body none).run P w := by rw [hro, hb0]
  rw [← he', hro] at he
  clear he'
  obtain ⟨L, hL⟩ : ∃ L : zom, L = ⟨b.1.fn, ps, asg, body, a.tmps, E, F, μ⟩ := ⟨_, rfl⟩
  obtain ⟨wa, hwa⟩ : ∃ wa : World, wa = w.alloc (.deferred (some [])) := ⟨_, rfl⟩
  rw [← hwa] at he
  have hwas : wa.heap.size = w.heap.size + 1 := by rw [hwa]; simp
  obtain ⟨R, hR⟩ : ∃ R : Go.Loop, R = { state := .ready, pending := none, fn := b.1.fn, tmps := a.tmps, params := ps, assign := asg, body, defers := w.heap.size } := ⟨_, rfl⟩
  rw [← hR, ← hwas] at he
  obtain ⟨w1, hw1⟩ : ∃ w1 : World, w1 = wa.alloc (.loop R) := ⟨_, rfl⟩
  rw [← hw1] at he
  have hw1s : w1.heap.size = w.heap.size + 2 := by rw [hw1]; simp; omega
  have hw1o : ∀ i, i < w.heap.size → w1.heap[i]? = w.heap[i]? := fun i hi => by rw [hw1, zn5 wa _ (by omega), hwa]; exact zn5 w _ hi
  have hw1m : w1.heap[w.heap.size]? = some (.deferred (some [])) := by rw [hw1, zn5 wa _ (by omega), hwa]; exact zhd w _
  have hw1r : w1.heap[wa.heap.size]? = some (.loop R) := by rw [hw1]; exact zhd wa _
  have hInew : ∀ k, w.heap.size ≤ k → I k = none := fun k hk => by
    cases hI : I k with
    | none => rfl
    | some o => have := zcz (hc.imm k o hI); omega
  -- the caller's state in the new world
  have hS1 : StRep I μ st ids w1 := hc.toStRep.other (by omega) (fun i o hi => hw1o i (zcz (hc.imm i o hi))) (fun i hi => hw1o i (zf0 hc.toStRep hi))
  have hlx : ∀ i bi, zat stx i bi → zat st i bi := fun i bi h => hl i bi (zzm (fun hm => hdis i hm (zcb h)) h)
  have hlc : ∀ i bi, zat stc i bi → zat st i bi := fun i bi h => hl i bi (zzn h)
  obtain ⟨bs0, hbs0⟩ := zus μ stx
  have hownx : ∀ k, k ∈ bs0 → zcd μ st k := fun k hk => let ⟨i, bi, g, h1, h2⟩ := (hbs0 k).1 hk; ⟨i, bi, g, hlx i bi h1, h2⟩
  have hltx : ∀ k, k ∈ bs0 → k < w.heap.size := fun k hk => zf0 hc.toStRep (hownx k hk)
  have hEnv : ∀ t d', lk E t = some d' → RepD I μ (a.tmps.getD t undef) d' := fun t d' hl => by
    obtain ⟨d, h1, h2⟩ := zqw hEE t d' hl
    exact zv5 h2 (hc.env t d h1)
  have hB1 : (zdv L stx none).P I w1 wa.heap.size (wa.heap.size :: bs0) := by
    refine ⟨R, μ, bs0, rfl, hw1r, ⟨by rw [hR], by rw [hR]⟩, ?_, ?_, fun i bi h => hS1.blk i bi (hlx i bi h), fun i j bi bj gi gj k hi hj => hS1.inj i j bi bj gi gj k (hlx i bi hi) (hlx j bj hj), hbs0, fun hm => by have := hltx _ hm; omega, ?_⟩
    · rw [hR, hL]; exact ⟨rfl, rfl, rfl, rfl, rfl⟩
    · rw [hL]; exact hEnv
    · rw [hL]; exact .refl _ _
  obtain ⟨μc, hμc⟩ : ∃ μc : Mu, μc = fun i => if i = y then some (.func (.yield wa.heap.size) #[] #[]) else if i = j then some (.agg (ymy (wa.heap.size :: bs0))) else μ i := ⟨_, rfl⟩
  have hmy : μc y = some (.func (.yield wa.heap.size) #[] #[]) := by rw [hμc]; simp
  have hmj : μc j = some (.agg (ymy (wa.heap.size :: bs0))) := by rw [hμc]; simp [Ne.symm hyj.1]
  have hmo : ∀ i ∈ nms stc, μc i = μ i := fun i hi => by
    have h1 : i ≠ y := fun e => hyj.2.2.1 (e ▸ hi)
    have h2 : i ≠ j := fun e => hyj.2.2.2 (e ▸ hi)
    rw [hμc]; simp [h1, h2]
  obtain ⟨st0, hst0⟩ : ∃ st0 : St, st0 = (y, some .pin) :: (j, some (.bun y (zdv L stx none))) :: stc := ⟨_, rfl⟩
  have hl0 : ∀ {i bi}, zat st0 i bi → (i = y ∧ bi = .pin) ∨ (i = j ∧ bi = .bun y (zdv L stx none)) ∨ (i ≠ y ∧ i ≠ j ∧ zat stc i bi) := fun {i bi} h => by
    rw [hst0] at h
    rcases zai.1 h with h | ⟨h1, h⟩
    · exact .inl h
    · rcases zai.1 h with h | ⟨h2, h⟩
      · exact .inr (.inl h)
      · exact .inr (.inr ⟨h1, h2, h⟩)
  have hown0 : ∀ k, zcd μc st0 k → k = wa.heap.size ∨ k ∈ bs0 ∨ zcd μ stc k := fun k ⟨i, bi, g, h1, h2, h3⟩ => by
    rcases hl0 h1 with ⟨rfl, rfl⟩ | ⟨rfl, rfl⟩ | ⟨_, _, h⟩
    · rw [hmy] at h2; cases h2; exact h3.elim
    · rw [hmj] at h2; cases h2
      rcases List.mem_cons.1 (zdw.1 h3) with h | h
      · exact .inl h
      · exact .inr (.inl h)
    · exact .inr (.inr ⟨i, bi, g, h, by rw [← hmo i (zcb h)]; exact h2, h3⟩)
  have hcx : ∀ {i bi g k}, zat stc i bi → μ i = some g → zgy g k → k ∉ bs0 := fun {i bi g k} h1 h2 h3 hm => by
    obtain ⟨i', bi', g', q1, q2, q3⟩ := (hbs0 k).1 hm
    have := hS1.inj i i' bi bi' g g' k (hlc i bi h1) (hlx i' bi' q1) h2 q2 h3 q3
    subst this
    exact hdis i (zcb h1) (zcb q1)
  have hS0 : StRep I μc st0 [] w1 := by
    refine { imm := hS1.imm, blk := fun i bi h => ?_, apart := fun i bi g k h hgi hk => ?_, inj := fun i i' bi bj gi gj k hi hj hgi hgj hki hkj => ?_, nodup := .nil, idsFree := fun _ h => by simp at h }
    · rcases hl0 h with ⟨rfl, rfl⟩ | ⟨rfl, rfl⟩ | ⟨_, _, h⟩
      · exact ⟨_, hmy, _, rfl⟩
      · exact ⟨_, hmj, _, _, hmy, rfl, hB1⟩
      · obtain ⟨g, q1, q2⟩ := hS1.blk i bi (hlc i bi h)
        exact ⟨g, by rw [hmo i (zcb h)]; exact q1, q2.sub fun x hx g hg => by rw [hmo x (hcl x (.inr ((zde h).2 x hx)))]; exact hg⟩
    · rcases hown0 k ⟨i, bi, g, h, hgi, hk⟩ with h | h | ⟨i', bi', g', q1, q2, q3⟩
      · rw [h]; exact ⟨hInew _ (by omega), by omega⟩
      · obtain ⟨i', bi', g', q1, q2, q3⟩ := hownx k h
        exact hS1.apart i' bi' g' k q1 q2 q3
      · exact hS1.apart i' bi' g' k (hlc i' bi' q1) q2 q3
    · rcases hl0 hi with ⟨rfl, rfl⟩ | ⟨rfl, rfl⟩ | ⟨_, _, hi⟩ <;> rcases hl0 hj with ⟨rfl, rfl⟩ | ⟨rfl, rfl⟩ | ⟨_, _, hj⟩
      · rfl
      · rw [hmy] at hgi; cases hgi; exact hki.elim
      · rw [hmy] at hgi; cases hgi; exact hki.elim
      · rw [hmy] at hgj; cases hgj; exact hkj.elim
      · rfl
      · rw [hmj] at hgi; cases hgi
        have q := hmo i' (zcb hj)
        rw [hgj] at q
        rcases List.mem_cons.1 (zdw.1 hki) with h | h
        · have := (hS1.apart i' bj gj k (hlc _ _ hj) q.symm hkj)
          have hlt := zf0 hc.toStRep ⟨i', bj, gj, hlc _ _ hj, q.symm, hkj⟩
          omega
        · exact absurd h (hcx hj q.symm hkj)
      · rw [hmy] at hgj; cases hgj; exact hkj.elim
      · rw [hmj] at hgj; cases hgj
        have q := hmo i (zcb hi)
        rw [hgi] at q
        rcases List.mem_cons.1 (zdw.1 hkj) with h | h
        · have hlt := zf0 hc.toStRep ⟨i, bi, gi, hlc _ _ hi, q.symm, hki⟩
          omega
        · exact absurd h (hcx hi q.symm hki)
      · have q1 := hmo i (zcb hi)
        have q2 := hmo i' (zcb hj)
        rw [hgi] at q1
        rw [hgj] at q2
        exact hS1.inj i i' bi bj gi gj k (hlc _ _ hi) (hlc _ _ hj) q1.symm q2.symm hki hkj
  -- the call
  have hvg := yb0 (I := I) (μ := μ) (a := a) hg fun t _ d hl => hc.env t d hl
  generalize hve : a.eval g = vg at hvg
  cases hvg with
  | fn _ first cap _ _ hl1 hl2 q1 q2 =>
  have hnL : ∀ {l m : List D} {i}, i ∈ nmL l ∨ i ∈ nmL m → i ∈ nmL (l ++ m) := fun {l m i} h => by
    have : ∀ (l m : List D), nmL (l ++ m) = nmL l ++ nmL m := fun l m => by
      induction l with
      | nil => rfl
      | cons x r ih => simp [nmL, ih]
    rw [this]; simpa using h
  have hargs : RepL I μc (first ++ #[Value.func (.yield wa.heap.size) #[] #[]] ++ cap).toList (df ++ .yld y :: dc) := by
    have e : df ++ .yld y :: dc = df ++ [.yld y] ++ dc := by simp
    rw [e, Array.toList_append, Array.toList_append]
    have h1 : RepL I μ first.toList df := ⟨by simpa using hl1, fun i v d p q => q1 i v d (by simpa using p) q⟩
    have h2 : RepL I μ cap.toList dc := ⟨by simpa using hl2, fun i v d p q => q2 i v d (by simpa using p) q⟩
    refine RepL.append (RepL.append (h1.sub fun x hx g hg => ?_) (.mk (.yld _ _ hmy) .nil)) (h2.sub fun x hx g hg => ?_)
    · rw [hmo x (hcl x (.inl (hnL (.inl hx))))]; exact hg
    · rw [hmo x (hcl x (.inl (hnL (.inr hx))))]; exact hg
  have hEL := hE L (by rw [hL]; simp [hfb]) (by rw [hL]; exact hc.size) (by rw [hL]) (by rw [hL]) (by rw [hL]) (by rw [hL]) (by rw [hL])
  rw [← hst0] at hEL
  have hcall := hEL I μc w1 _ hS0 hargs
  rw [run_callFunc_body hf hname hb] at hcall
  have hres : ∃ dd, (resolve a.eval (rangeCall g wa.heap.size) 0).run P w1 = .ok dd w1 ∧ (invoke dd.target dd.args).run P w1 = .ok (.enter f (first ++ #[Value.func (.yield wa.heap.size) #[] #[]] ++ cap)) w1 := by
    refine ⟨⟨.fn (.func f) cap, first ++ #[Value.func (.yield wa.heap.size) #[] #[]]⟩, ?_, ?_⟩
    · have hcv : a.eval (.const (.func (.yield wa.heap.size) #[] #[])) = .func (.yield wa.heap.size) #[] #[] := rfl
      simp [rangeCall, resolve, Deferred.ofValue, hve, hcv]
    · simpa [invoke] using run_callFunc_body (w := w1) hf hname hb (first ++ #[Value.func (.yield wa.heap.size) #[] #[]] ++ cap)
  obtain ⟨dd, hr1, hr2⟩ := hres
  refine zrf he hr1 hr2 (Calls.mono hcall fun en w3 hen => ?_)
  cases en with
  | panicked chain => exact hen.elim
  | outgrown => exact hen.elim
  | returned v =>
    obtain ⟨I', μ', p1, p2, p3, p4⟩ := hen
    have hly : zat ((y, some .pin) :: (j2, some (.bun y (zdv L stB pend))) :: stc') j2 (.bun y (zdv L stB pend)) := zai.2 (.inr ⟨Ne.symm hyj.2.1, zai.2 (.inl ⟨rfl, rfl⟩)⟩)
    obtain ⟨g2, hg2, b2, bs2, hb2, rfl, hP2⟩ := p2.blk j2 _ hly
    have hyy : μ' y = some (.func (.yield wa.heap.size) #[] #[]) := p3 y (by rw [hst0]; simp [nms]) _ hmy
    rw [hyy] at hb2
    cases hb2
    have hbs2 : ∀ k ∈ bs2, I' k = none ∧ k < w3.heap.size := fun k hk => p2.apart j2 _ _ k hly hg2 (zdw.2 hk)
    obtain ⟨r, ν, bsN, e1, hrr, ⟨hr2', hr3⟩, ⟨hr4, hr5, hr6, hr7, hr8⟩, hE3, hS3, hownN, hnbN, hFN⟩ := yek hP2 (ids := ids') (by rw [hL]; exact hfree) p2.imm hbs2
    subst e1
    have hend := run_endLoop (P := P) hrr (by rw [hr2']; cases pend <;> simp)
    obtain ⟨w4, hw4⟩ : ∃ w4 : World, w4 = w3.putObj wa.heap.size (.loop { r with state := .exhausted }) := ⟨_, rfl⟩
    have hend' : (Instr.endLoop wa.heap.size).run P w3 = .ok pend w4 := by rw [hw4, hend, hr3]
    refine ⟨pend, w4, hend', ?_⟩
    have hlb : wa.heap.size < w3.heap.size := zcz hrr
    have hoth : ∀ i, i ≠ wa.heap.size → w4.heap[i]? = w3.heap[i]? := fun i hi => by
      rw [hw4]; unfold World.putObj
      simp [Array.getElem?_setIfInBounds_ne (Ne.symm hi)]
    have hw4s : w4.heap.size = w3.heap.size := by rw [hw4]; unfold World.putObj; simp
    obtain ⟨hIb, _⟩ := hbs2 _ (List.mem_cons_self ..)
    have hS4 : StRep I' ν stB ids' w4 := hS3.other (by omega) (fun i o hi => hoth i (fun e => by rw [e, hIb] at hi; cases hi)) (fun i hi => hoth i (fun e => hnbN ((hownN _).2 (e ▸ hi))))
    have hsz3 := p4.size
    -- what is not zcd stays
    have hno0 : ∀ k, k < w.heap.size → ¬ zcd μ st k → ¬ zcd μc st0 k := fun k hk hno h => by
      rcases hown0 k h with h | h | ⟨i, bi, g, q1, q2⟩
      · omega
      · exact hno (hownx k h)
      · exact hno ⟨i, bi, g, hlc i bi q1, q2⟩
    have hblk : ∀ k, k < w1.heap.size → k ≠ wa.heap.size → ¬ zcd μc st0 k → w4.heap[k]? = w1.heap[k]? := fun k hk hne hno => (hoth k hne).trans (p4.block k hk hno)
    have hfr : ∀ k, k < w1.heap.size → zcd ν stB k → zcd μc st0 k := fun k hk ho => p4.fresh k hk ⟨j2, _, _, hly, hg2, zdw.2 (List.mem_cons_of_mem _ ((hownN k).2 ho))⟩
    have hExt : Ext I μ st w I' ν stB w4 :=
      { imm := p4.imm
        os := by rw [hw4]; unfold World.putObj; exact p4.os.trans (by rw [hw1, hwa]; rfl)
        tape := by rw [hw4]; unfold World.putObj; exact p4.tape.trans (by rw [hw1, hwa]; rfl)
        output := by rw [hw4]; unfold World.putObj; exact p4.output.trans (by rw [hw1, hwa]; rfl)
        size := by omega
        block := fun k hk hno => (hblk k (by omega) (by omega) (hno0 k hk hno)).trans (hw1o k hk)
        fresh := fun k hk ho => by
          rcases hown0 k (hfr k (by omega) ho) with h | h | ⟨i, bi, g, q1, q2⟩
          · omega
          · exact hownx k h
          · exact ⟨i, bi, g, hlc i bi q1, q2⟩
        old := fun k hk hno => p4.old k (by omega) (hno0 k hk hno) }
    have hMk : MarksOk I' ν stB w4 ([{ target := .collected w.heap.size, args := #[] }] ++ a.defers) := by
      obtain ⟨rs, r1, r2, r3⟩ := hc.defers
      refine ⟨w.heap.size :: rs, by rw [r1]; rfl, List.nodup_cons.2 ⟨fun hm => ?_, r2⟩, fun r hr => ?_⟩
      · have := zcz (r3 _ hm).1; omega
      have hno : ¬ zcd μc st0 r ∧ r < w1.heap.size ∧ r ≠ wa.heap.size ∧ w1.heap[r]? = some (.deferred (some [])) ∧ I r = none := by
        rcases List.mem_cons.1 hr with rfl | hr
        · refine ⟨fun h => ?_, by omega, by omega, hw1m, hInew _ (Nat.le_refl _)⟩
          rcases hown0 _ h with h | h | ⟨i, bi, g, q1, q2, q3⟩
          · omega
          · have := hltx _ h; omega
          · have := zf0 hc.toStRep ⟨i, bi, g, hlc i bi q1, q2, q3⟩; omega
        · obtain ⟨h1, h2, h3⟩ := r3 r hr
          have hlt := zcz h1
          exact ⟨hno0 r hlt h3, by omega, by omega, (hw1o r hlt).trans h1, h2⟩
      obtain ⟨h1, h2, h3, h4, h5⟩ := hno
      exact ⟨(hblk r h2 h3 h1).trans h4, (p4.old r h2 h1).trans h5, fun ho => h1 (hfr r h2 ho)⟩
    have hC : Conc n I' ν E stB ids' { a with defers := [{ target := .collected w.heap.size, args := #[] }] ++ a.defers } w4 :=
      { hS4 with size := hc.size, env := fun t d hl => by have := hE3 t d (by rw [hL]; exact hl); rw [hL] at this; exact this, defers := hMk }
    have hden : Den (jumpI pend ++ k) ((pend.map Item.code).toList ++ is) := by
      cases pend with
      | none => exact hki
      | some c => exact ⟨rfl, hki⟩
    refine Reach.mono (fun e a' w' hp => ?_) (hk b cs I' ν _ w4 _ hden hC)
    obtain ⟨x', env', st', ids2, I2, μ2, t1, t2, t3, t4, t5, t6⟩ := hp
    have hpin : Pin F μ ν := by rw [hL] at hFN; exact hFN
    refine ⟨x', env', st', ids2, I2, μ2, t1, t2, t3, hpin.trans t4, hExt.trans t5, fun r hr => ?_⟩
    rcases t6 r hr with h | h
    · simp only [List.singleton_append, List.mem_cons] at h
      rcases h with h | h
      · simp only [mkD, Deferred.mk.injEq, Target.collected.injEq, and_true] at h
        exact .inr (by omega)
      · exact .inl h
    · exact .inr (by omega)
end
end Go.Hk
namespace Go.Hk
section
variable {P : Program} {n : Nat} {F : List Nat} {Q : DQ} {tt : TT} {env : Env} {st : St} {ids : List Nat} {todo : List DI}
theorem zik (t : Nat) {id off : Nat} {ty : TypeId} {sz : Nat} {xs : List V} (he : lk env t = some (.ref id off)) (hl : lk st id = some (some (.immb ty sz xs))) (h : DGo P n F Q todo ((t, .ip ty xs off) :: env) ((id, none) :: st) ids) :
    DGo P n F Q todo env st ids := by
  intro b cs I μ a w items hd hc
  have hlive : zat st id (.immb ty sz xs) := hl
  obtain ⟨g, hg, hlen, gb, vs, rfl, hheap, hrep, hone⟩ := hc.blk id _ hlive
  obtain ⟨hno, hlt⟩ := hc.apart id _ _ gb hlive hg rfl
  obtain ⟨J, hJ⟩ : ∃ J : Imm, J = fun k => if k = gb then some (.cells vs ty (0, 0)) else I k := ⟨_, rfl⟩
  have hle : I.le J := fun k o h => by
    have : k ≠ gb := fun e => by rw [e, hno] at h; cases h
    rw [hJ]; simp [this, h]
  have hJo : ∀ k o, J k = some o → I k = some o ∨ (k = gb ∧ w.heap[k]? = some o) := fun k o h => by
    rw [hJ] at h
    by_cases hk : k = gb
    · subst hk; simp at h; subst h; exact .inr ⟨rfl, hheap⟩
    · simp [hk] at h; exact .inl h
  have hE : Ext I μ st w J μ ((id, none) :: st) w :=
    { imm := hle, os := rfl, tape := rfl, output := rfl, size := Nat.le_refl _
      block := fun _ _ _ => rfl
      fresh := fun k _ ⟨i, bi, gi, h1, h2, h3⟩ => ⟨i, bi, gi, (zbf.1 h1).2, h2, h3⟩
      old := fun k _ ho => by
        have : k ≠ gb := fun e => ho (e ▸ ⟨id, _, _, hlive, hg, rfl⟩)
        rw [hJ]; simp [this] }
  have hv : RepD I μ (a.tmps.getD t undef) (.ref id off) := hc.env t _ he
  have hptr : a.tmps.getD t undef = .pointer (some ⟨gb, off, none⟩) := by
    generalize a.tmps.getD t undef = v at hv
    cases hv with
    | ref b' _ _ hm => rw [hg] at hm; cases hm; rfl
  have hip : RepD J μ (a.tmps.getD t undef) (.ip ty xs off) := by
    rw [hptr]
    have := RepD.ip (I := J) (μ := μ) gb 0 ty xs off (fun j => (vs[j]?).getD undef) (fun j x hx => ?_) (fun j x hx => ?_)
    · simpa using this
    · have hj : j < vs.size := by have := hrep.1; have := (List.getElem?_eq_some_iff.1 hx).1; simp at *; omega
      rw [hJ]
      simp only [Imm.cell, if_true, Nat.zero_add, Array.getElem?_eq_getElem hj, Option.getD_some, true_and]
      exact hone _ (by simp)
    · have hj : j < vs.size := by have := hrep.1; have := (List.getElem?_eq_some_iff.1 hx).1; simp at *; omega
      simp only [Array.getElem?_eq_getElem hj, Option.getD_some]
      exact (hrep.2 j _ x (by simp [hj]) hx).mono hle
  have hc' : Conc n J μ ((t, .ip ty xs off) :: env) ((id, none) :: st) ids a w :=
    { imm := fun k o h => (hJo k o h).elim (fun h => hc.imm k o h) fun h => h.2
      blk := fun i bi hli => by
        obtain ⟨_, h2⟩ := zbf.1 hli
        obtain ⟨gi, hgi, hr⟩ := hc.blk i bi h2
        exact ⟨gi, hgi, hr.mono hle (Mu.le_refl μ)⟩
      apart := fun i bi gi k hli hgi hk => by
        obtain ⟨h1, h2⟩ := zbf.1 hli
        obtain ⟨q1, q2⟩ := hc.apart i bi gi k h2 hgi hk
        refine ⟨?_, q2⟩
        cases hJk : J k with
        | none => rfl
        | some o =>
          rcases hJo k o hJk with h | ⟨h, _⟩
          · rw [q1] at h; cases h
          · exact absurd (hc.inj i id bi _ gi _ k h2 hlive hgi hg hk (by rw [h]; rfl)) h1
      inj := fun i j bi bj gi gj k hi hj hgi hgj hki hkj => hc.inj i j bi bj gi gj k (zbf.1 hi).2 (zbf.1 hj).2 hgi hgj hki hkj
      nodup := hc.nodup
      idsFree := hc.idsFree
      size := hc.size
      env := fun t' d hlt => by
        by_cases ht : t = t'
        · subst ht; rw [zaj] at hlt; cases hlt; exact hip
        · rw [zan _ _ ht] at hlt; exact (hc.env t' d hlt).mono hle (Mu.le_refl μ)
      defers := hc.defers.ext hE }
  exact (h b cs J μ a w items hd hc').mono fun e' a' w' hp => hp.back (.refl _ _) hE
theorem yb7 (t : Nat) {ty : TypeId} {off : Nat} {xs : List V} (he : lk env t = some (.imm (.ip ty xs off))) (h : DGo P n F Q todo ((t, .ip ty xs off) :: env) st ids) : DGo P n F Q todo env st ids := by
  intro b cs I μ a w items hd hc
  refine h b cs I μ a w items hd { hc with env := fun t' d hl => ?_ }
  by_cases ht : t = t'
  · subst ht
    rw [zaj] at hl; cases hl
    exact ((hc.env t _ he).immInv).ipD
  · rw [zan _ _ ht] at hl; exact hc.env t' d hl
theorem zb5 (i j : Nat) {ids' : List Nat} {blk : Blk} (hl : lk st i = some (some blk)) (hj : (zlm ids j && zo2 ids' && yak ids' ids && !zlm ids' j) = true) (h : DGo P n F Q todo env ((j, some blk) :: (i, none) :: st) ids') : DGo P n F Q todo env st ids := by
  intro b cs I μ a w items hd hc
  simp only [Bool.and_eq_true, Bool.not_eq_true'] at hj
  obtain ⟨⟨⟨hj1, hj2⟩, hj3⟩, hj4⟩ := hj
  have hlive : zat st i blk := hl
  obtain ⟨g, hg, hr⟩ := hc.blk i _ hlive
  have hjn : μ j = none := hc.idsFree j (zbx.1 hj1)
  have hij : i ≠ j := fun e => by rw [e, hjn] at hg; cases hg
  obtain ⟨ν, hν⟩ : ∃ ν : Mu, ν = fun k => if k = j then some g else μ k := ⟨_, rfl⟩
  have hνj : ν j = some g := by rw [hν]; simp
  have hνo : ∀ k, k ≠ j → ν k = μ k := fun k hk => by rw [hν]; simp [hk]
  have hle : μ.le ν := fun k v hk => by
    have : k ≠ j := fun e => by rw [e, hjn] at hk; cases hk
    rw [hνo k this]; exact hk
  have hst : ∀ k bk, zat ((j, some blk) :: (i, none) :: st) k bk → (k = j ∧ bk = blk) ∨ (k ≠ j ∧ k ≠ i ∧ zat st k bk) := fun k bk h => by
    rcases zai.1 h with h | ⟨h1, h⟩
    · exact .inl h
    · obtain ⟨h2, h3⟩ := zbf.1 h
      exact .inr ⟨h1, h2, h3⟩
  have hE : Ext I μ st w I ν ((j, some blk) :: (i, none) :: st) w :=
    { imm := Imm.le_refl I, os := rfl, tape := rfl, output := rfl, size := Nat.le_refl _, block := fun _ _ _ => rfl
      fresh := fun k _ ⟨x, bx, gx, h1, h2, h3⟩ => by
        rcases hst x bx h1 with ⟨rfl, rfl⟩ | ⟨q1, _, q3⟩
        · rw [hνj] at h2; cases h2; exact ⟨i, _, _, hlive, hg, h3⟩
        · exact ⟨x, bx, gx, q3, by rw [← hνo x q1]; exact h2, h3⟩
      old := fun _ _ _ => rfl }
  have hc' : Conc n I ν env ((j, some blk) :: (i, none) :: st) ids' a w :=
    { imm := hc.imm
      blk := fun k bk hk => by
        rcases hst k bk hk with ⟨rfl, rfl⟩ | ⟨q1, _, q3⟩
        · exact ⟨g, hνj, hr.mono (Imm.le_refl I) hle⟩
        · obtain ⟨g', h1, h2⟩ := hc.blk k bk q3
          exact ⟨g', hle _ _ h1, h2.mono (Imm.le_refl I) hle⟩
      apart := fun k bk gk m hk hgk hm => by
        rcases hst k bk hk with ⟨rfl, rfl⟩ | ⟨q1, _, q3⟩
        · rw [hνj] at hgk; cases hgk; exact hc.apart i _ _ m hlive hg hm
        · exact hc.apart k bk gk m q3 (by rw [← hνo k q1]; exact hgk) hm
      inj := fun k k' bk bk' gk gk' m hk hk' hgk hgk' hm hm' => by
        rcases hst k bk hk with ⟨rfl, rfl⟩ | ⟨q1, p1, q3⟩ <;> rcases hst k' bk' hk' with ⟨rfl, rfl⟩ | ⟨q1', p1', q3'⟩
        · rfl
        · rw [hνj] at hgk; cases hgk
          exact absurd (hc.inj k' i bk' _ gk' _ m q3' hlive (by rw [← hνo k' q1']; exact hgk') hg hm' hm) p1'
        · rw [hνj] at hgk'; cases hgk'
          exact absurd (hc.inj k i bk _ gk _ m q3 hlive (by rw [← hνo k q1]; exact hgk) hg hm hm') p1
        · exact hc.inj k k' bk bk' gk gk' m q3 q3' (by rw [← hνo k q1]; exact hgk) (by rw [← hνo k' q1']; exact hgk') hm hm'
      nodup := zh8 hj2
      idsFree := fun k hk => by
        have h1 := hc.idsFree k (zgh hj3 k hk)
        have : k ≠ j := fun e => by rw [← e] at hj4; rw [zbx.2 hk] at hj4; cases hj4
        rw [hνo k this]; exact h1
      size := hc.size
      env := fun t d hlt => (hc.env t d hlt).mono (Imm.le_refl I) hle
      defers := hc.defers.ext hE }
  exact (h b cs I ν a w items hd hc').mono fun e' a' w' hp => hp.back (.of_le hle) hE
inductive Yields (P : Program) : List D → Bun → Bool → Bun → Prop where
  | nil (S : Bun) : Yields P [] S true S
  | cons {d : D} {l : List D} {S S1 S2 : Bun} {r : Bool} (h : ycn P [d] S true S1) (h1 : Yields P l S1 r S2) : Yields P (d :: l) S r S2
  | stop {d : D} {l : List D} {S S1 : Bun} (h : ycn P [d] S false S1) : Yields P (d :: l) S false S1
theorem Yields.split {l m : List D} {S S2 : Bun} {r : Bool} (h : Yields P (l ++ m) S r S2) : (∃ S1, Yields P l S true S1 ∧ Yields P m S1 r S2) ∨ (r = false ∧ Yields P l S false S2) := by
  induction l generalizing S with
  | nil => exact .inl ⟨S, .nil S, h⟩
  | cons d l ih =>
    cases h with
    | cons h h1 =>
      rcases ih h1 with ⟨S1, q1, q2⟩ | ⟨q1, q2⟩
      · exact .inl ⟨S1, .cons h q1, q2⟩
      · exact .inr ⟨q1, .cons h q2⟩
    | stop h => exact .inr ⟨rfl, .stop h⟩
theorem Yields.nilInv {S S2 : Bun} {r : Bool} (h : Yields P [] S r S2) : r = true ∧ S2 = S := by
  cases h; exact ⟨rfl, rfl⟩
theorem Yields.all {l : List D} (S : Nat → Bun) (h : ∀ i d, l[i]? = some d → ycn P [d] (S i) true (S (i + 1))) : Yields P l (S 0) true (S l.length) := by
  have : ∀ (l : List D) (k : Nat), (∀ i d, l[i]? = some d → ycn P [d] (S (k + i)) true (S (k + i + 1))) → Yields P l (S k) true (S (k + l.length)) := by
    intro l
    induction l with
    | nil => intro k _; exact .nil _
    | cons d l ih =>
      intro k h
      have := ih (k + 1) fun i d hi => by
        have := h (i + 1) d (by simpa using hi)
        rwa [show k + 1 + i = k + (i + 1) by omega]
      rw [show k + 1 + l.length = k + (d :: l).length by simp; omega] at this
      exact .cons (h 0 d rfl) this
  have := this l 0 fun i d hi => by simpa using h i d hi
  simpa using this
end
end Go.Hk
namespace Go.Hk
open Go.Proofs
def ttN : TT := ttA ++ [
  (128, ⟨.ptr 58, false, 1, 8, [.imm .nilp]⟩),
  (96, ⟨.ptr 9, false, 1, 8, [.imm .nilp]⟩),
  (94, ⟨.func, false, 1, 8, [.imm .nilfn]⟩),
  (93, ⟨.func, false, 1, 8, [.imm .nilfn]⟩),
  (126, ⟨.func, false, 1, 8, [.imm .nilfn]⟩),
  (148, ⟨.func, false, 1, 8, [.imm .nilfn]⟩),
  (91, ⟨.ptr 26, false, 1, 8, [.imm .nilp]⟩)]
theorem zb1 : TTok Tryz.prog ttN := .of_eq (l := [4, 3, 9, 26, 58, 22, 24, 5, 36, 23, 56, 29, 139, 83, 1, 61, 143, 128, 96, 94, 93, 126, 148, 91]) (by kernel_rfl)
section
variable {n : Nat} {F : List Nat} {Q : DQ} {env env' : Env} {st st' : St} {ids ids' : List Nat} {k todo : List DI} {ob : List Prop}
theorem nd (path : List Pt) (h : run ttN n 300 path todo env st ids [] = .at k env' st' ids' ob) (hob : zb7 ob) (hd : G Tryz.prog n F Q k env' st' ids') : DGo Tryz.prog n F Q todo env st ids := zpu zb1 mixed 300 path h hob hd
theorem ng (path : List Pt) (h : run ttN n 300 path todo env st ids [] = .at k env' st' ids' ob) (hob : zb7 ob) (hd : G Tryz.prog n F Q k env' st' ids') : G Tryz.prog n F Q todo env st ids := zpr zb1 mixed 300 path h hob hd
theorem ni {es : List (List V)} {m : Int} {sz : Nat} {e : TypeId} {g : Option (Bool × Bool)} {ob : List Prop} {t : Nat} {todo' : List DI} {c : List V} (h : yi6 ttN n env todo = some ⟨es, m, sz, e, g, ob, some t, todo'⟩)
    (hc : zag g → 0 ≤ m ∧ es[m.toNat]? = some c ∧ c.length = sz) (hob : zb7 ob) (hk : G Tryz.prog n F Q todo' ((t, gD g (.ip e c 0)) :: env) st ids) : G Tryz.prog n F Q todo env st ids := zie zb1 h hc hob hk
end
mutual
def ziu : Ty → List D
  | .mk s n x ps => (if s = 2 then [.ip 58 (zb0 (.mk s n x ps)) 2] else []) ++ zns ps
def zns : List Ty → List D
  | [] => []
  | t :: r => ziu t ++ zns r
end
def zk0 (r : St) : St := (1, some (.cells 126 1 [.yld 3])) :: (2, some (.cells 148 1 [.fn (.func 114) [] [.ref 1 0, .ref 2 0]])) :: r
def yqi (t : Ty) (b : Bool) (S S' : Bun) : Prop := zc8 Tryz.prog 114 [.ip 58 (zb0 t) 0, .ref 1 0, .ref 2 0]
  (zk0 [(3, some .pin), (4, some (.bun 3 S))]) (.ret (.imm (.bool b)) (zk0 [(3, some .pin), (5, some (.bun 3 S'))]))
theorem zzr (s n : Int) (x : Str) (ps : List Ty) (IH : ∀ t ∈ ps, ∀ {b : Bool} {S S' : Bun}, Yields Tryz.prog (ziu t) S b S' → yqi t b S S') {b : Bool} {S S' : Bun} (hY : Yields Tryz.prog (zns ps) S b S') :
    DGo Tryz.prog Tryz.f114.ntmps [1, 2, 3, 4] (yar ttN Tryz.f114.results.toList (.ret (.imm (.bool b)) (zk0 [(3, some .pin), (5, some (.bun 3 S'))])))
      [.code (zg0 Tryz.f114 2)] [(0, .ip 58 (zb0 (.mk s n x ps)) 0), (1, .ref 1 0), (2, .ref 2 0)] (zk0 [(3, some .pin), (6, some (.bun 3 S))]) [7, 8, 5] := by
  refine nd [] rfl (by simp [zag]) ?_
  refine yn3 (t := 22) rfl fun hv => ?_
  have hlen : ps.length ≤ 9223372036854775807 := by simp [vOk, maxLen] at hv; omega
  refine zah (fun y : Nat × Bun => [(24, .imm (.int .i64 y.1)), (23, .imm (.int .i64 ps.length)), (0, .ip 58 (zb0 (.mk s n x ps)) 0), (1, .ref 1 0), (2, .ref 2 0)])
    (fun y => zk0 [(3, some .pin), (6, some (.bun 3 y.2))]) [7, 8, 5] (fun y => ps.length - y.1)
    (fun y => y.1 ≤ ps.length ∧ Yields Tryz.prog (zns (ps.drop y.1)) y.2 b S') (0, S) ⟨Nat.zero_le _, hY⟩ ⟨rfl, zcn (by simp), rfl, rfl, rfl, trivial⟩ ⟨rfl, rfl, rfl, rfl, trivial⟩ rfl fun y hi ih => ?_
  obtain ⟨i, S0⟩ := y
  obtain ⟨hi1, hi2⟩ := hi
  simp only at hi1 hi2
  refine nd [] rfl (by simp [zag]) ?_
  refine zaa rfl (fun h => ?_) (fun h => ?_)
  · simp at h
    obtain ⟨t, ht⟩ := zal h
    have hd : ps.drop i = t :: ps.drop (i + 1) := zap ht
    rw [hd] at hi2
    refine nd [] rfl (by simp [zag]) ?_
    refine ni rfl (c := zb0 t) (fun _ => ⟨by simp, by simpa using zb6 ht, by simp⟩) (by simp) ?_
    refine ng [] rfl (by simp [zag]) ?_
    rcases Yields.split hi2 with ⟨S1, q1, q2⟩ | ⟨q1, q2⟩
    · refine zas (fr := [7]) [(1, 1), (2, 2), (3, 3), (6, 4)] [(5, 7)] rfl (by simp) (IH t (List.mem_of_getElem? ht) q1) ⟨⟨rfl, rfl, rfl⟩, ⟨rfl, rfl, rfl⟩, ⟨rfl, rfl, rfl⟩, ⟨rfl, rfl, rfl⟩, trivial⟩ rfl rfl rfl rfl ?_
      refine ng [] rfl (by simp [zag]; rfl) ?_
      refine zaa rfl (fun h => by simp at h) (fun h => ?_)
      refine nd [] rfl (by simp) ?_
      refine zbt 6 7 rfl ?_
      exact zae (ih (i + 1, S1) (by simp only; omega) ⟨by simp only; omega, q2⟩) ⟨zcn (w64 (by simp only; omega) (by simp only; omega)), rfl, rfl, rfl, rfl, trivial⟩ ⟨rfl, rfl, rfl, rfl, trivial⟩ rfl
    · subst q1
      refine zas (fr := [7]) [(1, 1), (2, 2), (3, 3), (6, 4)] [(5, 7)] rfl (by simp) (IH t (List.mem_of_getElem? ht) q2) ⟨⟨rfl, rfl, rfl⟩, ⟨rfl, rfl, rfl⟩, ⟨rfl, rfl, rfl⟩, ⟨rfl, rfl, rfl⟩, trivial⟩ rfl rfl rfl rfl ?_
      refine ng [] rfl (by simp [zag]; rfl) ?_
      refine zaa rfl (fun h => ?_) (fun h => by simp at h)
      refine nd [] rfl (by simp) ?_
      refine zb5 (ids' := []) 7 5 rfl rfl ?_
      exact zab ⟨_, rfl, tV rfl, rfl, rfl, rfl, rfl, trivial⟩
  · simp at h
    have hd : ps.drop i = [] := List.drop_eq_nil_of_le (by omega)
    rw [hd] at hi2
    obtain ⟨rfl, rfl⟩ := hi2.nilInv
    refine zar rfl ?_
    refine nd [] rfl (by simp) ?_
    refine zb5 (ids' := []) 6 5 rfl rfl ?_
    exact zab ⟨_, rfl, tV rfl, rfl, rfl, rfl, rfl, trivial⟩
theorem ykt : ∀ (t : Ty) {b : Bool} {S S' : Bun}, Yields Tryz.prog (ziu t) S b S' → yqi t b S S'
  | .mk s n x ps, b, S, S', hY => by
    have IH : ∀ t ∈ ps, ∀ {b : Bool} {S S' : Bun}, Yields Tryz.prog (ziu t) S b S' → yqi t b S S' := fun t ht {b S S'} h => ykt t h
    refine zaf zb1 Tryz.func114 (by decide +kernel) rfl [6, 7, 8, 5] rfl rfl ?_
    refine ng [] rfl (by simp [zag]) ?_
    simp only [ziu] at hY
    by_cases hs : s = 2
    · rw [if_pos hs] at hY
      cases hY with
      | cons h h1 =>
        refine zjs (j := 4) (j2 := 6) rfl (by simp [zag]) (by simp [zag, hs]) h rfl rfl rfl rfl rfl ?_
        refine ng [] rfl (by simp [zag]; rfl) ?_
        refine zaa rfl (fun h => by simp [hs] at h) (fun h => ?_)
        refine zdr ?_
        exact zae (zzr s n x ps IH h1) ⟨rfl, rfl, rfl, trivial⟩ ⟨rfl, rfl, rfl, rfl, trivial⟩ rfl
      | stop h =>
        refine zjs (j := 4) (j2 := 6) rfl (by simp [zag]) (by simp [zag, hs]) h rfl rfl rfl rfl rfl ?_
        refine ng [] rfl (by simp [zag]; rfl) ?_
        refine zaa rfl (fun h => ?_) (fun h => by simp [hs] at h)
        refine nd [] rfl (by simp) ?_
        refine zb5 (ids' := []) 6 5 rfl rfl ?_
        exact zab ⟨_, rfl, tV rfl, rfl, rfl, rfl, rfl, trivial⟩
    · rw [if_neg hs] at hY
      refine ykq (.imm (.bool true)) rfl (by simp [zag, hs]) ?_
      refine ng [] rfl (by simp [zag]; rfl) ?_
      refine zaa rfl (fun h => by simp [hs] at h) (fun h => ?_)
      refine zdr ?_
      refine zb5 (ids' := [7, 8, 5]) 4 6 rfl rfl ?_
      exact zae (zzr s n x ps IH hY) ⟨rfl, rfl, rfl, trivial⟩ ⟨rfl, rfl, rfl, rfl, trivial⟩ rfl
termination_by t => SizeOf.sizeOf t
decreasing_by
  all_goals
    have := List.sizeOf_lt_of_mem ht
    simp_wf
    omega
def yel (t : Ty) : St := [(6, some (.cells 128 1 [.ip 58 (zb0 t) 0]))]
theorem zze (t : Ty) {b : Bool} {S S' : Bun} (hY : Yields Tryz.prog (ziu t) S b S') :
    zc8 Tryz.prog 113 [.yld 3, .ref 6 0] ((3, some .pin) :: (4, some (.bun 3 S)) :: yel t) (.ret (.tup []) ((3, some .pin) :: (5, some (.bun 3 S')) :: yel t)) := by
  refine zaf zb1 Tryz.func113 (by decide +kernel) rfl [1, 2, 7, 5] rfl rfl ?_
  refine ng [] rfl (by simp [zag]) ?_
  refine zas (fr := [7]) [(1, 1), (2, 2), (3, 3), (4, 4)] [(5, 7)] rfl (by simp) (ykt t hY) ⟨⟨rfl, rfl, rfl⟩, ⟨rfl, rfl, rfl⟩, ⟨rfl, rfl, rfl⟩, ⟨rfl, rfl, rfl⟩, trivial⟩ rfl rfl rfl rfl ?_
  refine ng [] rfl (by simp [zag]) ?_
  refine zb5 (ids' := []) 7 5 rfl rfl ?_
  exact zcf ⟨[], rfl, rfl, rfl, rfl, rfl, trivial⟩
theorem ym9 (t : Ty) : zc8 Tryz.prog 98 [.ip 58 (zb0 t) 0] [] (.ret (.fn (.func 113) [] [.ref 6 0]) (yel t)) := by
  refine zaf zb1 Tryz.func98 (by decide +kernel) rfl [6] rfl rfl ?_
  refine ng [] rfl (by simp [zag]) ?_
  exact zab ⟨_, rfl, rfl, rfl, trivial⟩
mutual
def zb2 : Ty → List Ty
  | .mk s n x ps => (if s = 2 then [.mk s n x ps] else []) ++ zbd ps
def zbd : List Ty → List Ty
  | [] => []
  | t :: r => zb2 t ++ zbd r
end
mutual
theorem zjh : ∀ t : Ty, ziu t = (zb2 t).map fun u => .ip 58 (zb0 u) 2
  | .mk s n x ps => by
    simp only [ziu, zb2, List.map_append, zuq ps]
    by_cases h : s = 2 <;> simp [h]
theorem zuq : ∀ ts : List Ty, zns ts = (zbd ts).map fun u => .ip 58 (zb0 u) 2
  | [] => rfl
  | t :: r => by simp only [zns, zbd, List.map_append, zjh t, zuq r]
end
def zew : Ty → Str
  | .mk _ _ x _ => x
def za3 (t : Ty) : List Str := (zb2 t).map zew
def rfAB : Code → Option (Code × Code)
  | .rangeFunc _ _ a b => some (a, b)
  | .seq x y => match rfAB x with
    | some r => some r
    | none => rfAB y
  | .block _ c => rfAB c
  | _ => none
def rfAsg (f : Func) : Code := match rfAB (zg0 f 0) with
  | some (a, _) => a
  | none => .skip
def yoq (f : Func) : Code := match rfAB (zg0 f 0) with
  | some (_, b) => b
  | none => .skip
end Go.Hk
namespace Go.Hk
open Go.Proofs
def ttL : TT := [
  (3, ⟨.int .i64, false, 1, 8, [.imm (.int .i64 0)]⟩),
  (9, ⟨.str, false, 1, 16, [.imm (.str [])]⟩),
  (4, ⟨.bool, false, 1, 1, [.imm (.bool false)]⟩),
  (61, ⟨.map 9 4, false, 1, 8, [.imm .nilmap]⟩),
  (119, ⟨.func, false, 1, 8, [.imm .nilfn]⟩),
  (2, ⟨.int .i64, false, 1, 8, [.imm (.int .i64 0)]⟩),
  (78, ⟨.func, false, 1, 8, [.imm .nilfn]⟩),
  (32, ⟨.func, false, 1, 8, [.imm .nilfn]⟩),
  (21, ⟨.int .i32, false, 1, 4, [.imm (.int .i32 0)]⟩),
  (36, ⟨.sl 9, false, 1, 24, [.nils]⟩),
  (77, ⟨.func, false, 1, 8, [.imm .nilfn]⟩)]
theorem zi5 : TTok Tryz.prog ttL := .of_eq (l := [3, 9, 4, 61, 119, 2, 78, 32, 21, 36, 77]) (by kernel_rfl)
section
variable {n : Nat} {F : List Nat} {Q : DQ} {env env' : Env} {st st' : St} {ids ids' : List Nat} {k todo : List DI} {ob : List Prop}
theorem ld (path : List Pt) (h : run ttL n 300 path todo env st ids [] = .at k env' st' ids' ob) (hob : zb7 ob) (hd : G Tryz.prog n F Q k env' st' ids') : DGo Tryz.prog n F Q todo env st ids := zpu zi5 mixed 300 path h hob hd
theorem lg (path : List Pt) (h : run ttL n 300 path todo env st ids [] = .at k env' st' ids' ob) (hob : zb7 ob) (hd : G Tryz.prog n F Q k env' st' ids') : G Tryz.prog n F Q todo env st ids := zpr zi5 mixed 300 path h hob hd
theorem li {es : List (List V)} {m : Int} {sz : Nat} {e : TypeId} {g : Option (Bool × Bool)} {ob : List Prop} {t : Nat} {todo' : List DI} {c : List V} (h : yi6 ttL n env todo = some ⟨es, m, sz, e, g, ob, some t, todo'⟩)
    (hc : zag g → 0 ≤ m ∧ es[m.toNat]? = some c ∧ c.length = sz) (hob : zb7 ob) (hk : G Tryz.prog n F Q todo' ((t, gD g (.ip e c 0)) :: env) st ids) : G Tryz.prog n F Q todo env st ids := zie zi5 h hc hob hk
end
def runK (f : Nat → List Str) : Nat → Nat → List Str
  | _, 0 => []
  | k, n + 1 => f k ++ runK f (k + 1) n
def zg5 : Nat → Str → List Str
  | 0, b => [b]
  | m + 1, b => runK (fun k => zg5 m (b ++ [UInt8.ofNat (97 + k)])) 0 26
def dS (l : List Str) : List D := l.map fun s => .imm (.str s)
def ymw (r : St) : St := (1, some (.cells 32 1 [.yld 3])) :: (2, some (.cells 119 1 [.fn (.func 93) [] [.ref 1 0, .ref 2 0]])) :: r
def putC (b : Str) (m : Int) (r : Bool) (S S' : Bun) : Prop := zc8 Tryz.prog 93 [.imm (.str b), .imm (.int .i64 m), .ref 1 0, .ref 2 0]
  (ymw [(3, some .pin), (4, some (.bun 3 S))]) (.ret (.imm (.bool r)) (ymw [(3, some .pin), (5, some (.bun 3 S'))]))
theorem yh5 (f : Nat → List Str) (k n : Nat) : runK f k (n + 1) = f k ++ runK f (k + 1) n := rfl
theorem yla (a b : List Str) : dS (a ++ b) = dS a ++ dS b := by simp [dS]
theorem you : ∀ (m : Nat) (b : Str) {r : Bool} {S S' : Bun}, m ≤ 1000 → b.length + m ≤ 1000000 → Yields Tryz.prog (dS (zg5 m b)) S r S' → putC b m r S S'
  | 0, b, r, S, S', _, hb, hY => by
    refine zaf zi5 Tryz.func93 (by decide +kernel) rfl [6, 7, 8, 5] rfl rfl ?_
    refine lg [] rfl (by simp [zag]) ?_
    refine zaa rfl (fun h => ?_) (fun h => by simp at h)
    refine ld [] rfl (by simp [zag]) ?_
    cases hY with
    | cons h h1 =>
      obtain ⟨rfl, rfl⟩ := h1.nilInv
      refine zjs (j := 4) (j2 := 6) rfl (by simp [zag]) trivial h rfl rfl rfl rfl rfl ?_
      refine lg [] rfl (by simp [zag]) ?_
      refine zb5 (ids' := []) 6 5 rfl rfl ?_
      exact zab ⟨_, rfl, tV rfl, rfl, rfl, rfl, rfl, trivial⟩
    | stop h =>
      refine zjs (j := 4) (j2 := 6) rfl (by simp [zag]) trivial h rfl rfl rfl rfl rfl ?_
      refine lg [] rfl (by simp [zag]) ?_
      refine zb5 (ids' := []) 6 5 rfl rfl ?_
      exact zab ⟨_, rfl, tV rfl, rfl, rfl, rfl, rfl, trivial⟩
  | m + 1, b, r, S, S', hm, hb, hY => by
    refine zaf zi5 Tryz.func93 (by decide +kernel) rfl [6, 7, 8, 5] rfl rfl ?_
    refine lg [] rfl (by simp [zag]) ?_
    refine zaa rfl (fun h => by simp at h; omega) (fun h => ?_)
    refine ld [] rfl (by simp [zag]) ?_
    refine zb5 (ids' := [7, 8, 5]) 4 6 rfl rfl ?_
    refine zah (fun y : Nat × Bun => [(13, .imm (.int .i64 y.1)), (0, .imm (.str b)), (1, .imm (.int .i64 ((m + 1 : Nat) : Int))), (2, .ref 1 0), (3, .ref 2 0)])
      (fun y => ymw [(3, some .pin), (6, some (.bun 3 y.2))]) [7, 8, 5] (fun y => 26 - y.1)
      (fun y => y.1 ≤ 26 ∧ Yields Tryz.prog (dS (runK (fun k => zg5 m (b ++ [UInt8.ofNat (97 + k)])) y.1 (26 - y.1))) y.2 r S') (0, S) ⟨Nat.zero_le _, hY⟩ ⟨rfl, rfl, rfl, rfl, rfl, trivial⟩ ⟨rfl, rfl, rfl, rfl, trivial⟩ rfl fun y hi ih => ?_
    obtain ⟨k, S0⟩ := y
    obtain ⟨hi1, hi2⟩ := hi
    simp only at hi1 hi2
    refine ld [] rfl (by simp [zag]) ?_
    refine zaa rfl (fun h => ?_) (fun h => ?_)
    · simp at h
      have hk : 26 - k = (26 - (k + 1)) + 1 := by omega
      rw [hk, yh5, yla] at hi2
      have w1 : IntKind.i64.wrap (97 + (k : Int)) = 97 + k := w64 (by omega) (by omega)
      have w2 : IntKind.i32.wrap (97 + (k : Int)) = 97 + k := by
        simp only [IntKind.wrap, IntKind.bits, IntKind.signed]
        simp
        omega
      have w4 : (97 + (k : Int)).toNat = 97 + k := by omega
      have w3 : IntKind.i64.wrap (((m + 1 : Nat) : Int) - 1) = m := by rw [w64 (by omega) (by omega)]; omega
      refine ld [] rfl (by simp only [w1, w2]; simp [zag]; omega) ?_
      have hcall : ∀ (x : Str) (y : Int) (r1 : Bool) (S1 : Bun), x = b ++ [UInt8.ofNat (97 + k)] → y = m → Yields Tryz.prog (dS (zg5 m (b ++ [UInt8.ofNat (97 + k)]))) S0 r1 S1 → putC x y r1 S0 S1 := fun x y r1 S1 hx hy h => by
        rw [hx, hy]
        exact you m _ (by omega) (by simp; omega) h
      rcases Yields.split hi2 with ⟨S1, q1, q2⟩ | ⟨q1, q2⟩
      · refine zas (fr := [7]) [(1, 1), (2, 2), (3, 3), (6, 4)] [(5, 7)] rfl (by simp) (hcall _ _ true S1 (by rw [w1, w2, w4]) (by rw [w3]) q1) ⟨⟨rfl, rfl, rfl⟩, ⟨rfl, rfl, rfl⟩, ⟨rfl, rfl, rfl⟩, ⟨rfl, rfl, rfl⟩, trivial⟩ rfl rfl rfl rfl ?_
        refine lg [] rfl (by simp [zag]) ?_
        refine zaa rfl (fun h => by simp at h) (fun h => ?_)
        refine ld [] rfl (by simp) ?_
        refine zbt 6 7 rfl ?_
        exact zae (ih (k + 1, S1) (by simp only; omega) ⟨by simp only; omega, q2⟩) ⟨zcn (w64 (by simp only; omega) (by simp only; omega)), rfl, rfl, rfl, rfl, trivial⟩ ⟨rfl, rfl, rfl, rfl, trivial⟩ rfl
      · subst q1
        refine zas (fr := [7]) [(1, 1), (2, 2), (3, 3), (6, 4)] [(5, 7)] rfl (by simp) (hcall _ _ false S' (by rw [w1, w2, w4]) (by rw [w3]) q2) ⟨⟨rfl, rfl, rfl⟩, ⟨rfl, rfl, rfl⟩, ⟨rfl, rfl, rfl⟩, ⟨rfl, rfl, rfl⟩, trivial⟩ rfl rfl rfl rfl ?_
        refine lg [] rfl (by simp [zag]) ?_
        refine zaa rfl (fun h => ?_) (fun h => by simp at h)
        refine ld [] rfl (by simp) ?_
        refine zb5 (ids' := []) 7 5 rfl rfl ?_
        exact zab ⟨_, rfl, tV rfl, rfl, rfl, rfl, rfl, trivial⟩
    · simp at h
      have hk : 26 - k = 0 := by omega
      rw [hk] at hi2
      obtain ⟨rfl, rfl⟩ := hi2.nilInv
      refine zar rfl ?_
      refine ld [] rfl (by simp) ?_
      refine zb5 (ids' := []) 6 5 rfl rfl ?_
      exact zab ⟨_, rfl, tV rfl, rfl, rfl, rfl, rfl, trivial⟩
theorem yaw {S S' : Bun} (hY : Yields Tryz.prog (dS (zg5 1 [] ++ zg5 2 [])) S false S') :
    zc8 Tryz.prog 92 [.yld 3] [(3, some .pin), (4, some (.bun 3 S))] (.ret (.tup []) [(3, some .pin), (5, some (.bun 3 S'))]) := by
  refine zaf zi5 Tryz.func92 (by decide +kernel) rfl [1, 2, 6, 7, 8, 5] rfl rfl ?_
  refine lg [] rfl (by simp [zag]) ?_
  refine zb5 (ids' := [7, 8, 5]) 4 6 rfl rfl ?_
  refine zah (fun y : Nat × Bun => [(3, .imm (.int .i64 y.1)), (1, .ref 1 0), (2, .ref 2 0)])
    (fun y => ymw [(3, some .pin), (6, some (.bun 3 y.2))]) [7, 8, 5] (fun y => 3 - y.1)
    (fun y => (y.1 = 1 ∧ Yields Tryz.prog (dS (zg5 1 [] ++ zg5 2 [])) y.2 false S') ∨ (y.1 = 2 ∧ Yields Tryz.prog (dS (zg5 2 [])) y.2 false S')) (1, S) (.inl ⟨rfl, hY⟩) ⟨rfl, rfl, rfl, trivial⟩ ⟨rfl, rfl, rfl, rfl, trivial⟩ rfl fun y hi ih => ?_
  obtain ⟨k, S0⟩ := y
  simp only at hi
  refine ld [] rfl (by simp [zag]) ?_
  have hcall : ∀ (n : Nat) (y : Int) (r1 : Bool) (S1 : Bun), n ≤ 2 → y = n → Yields Tryz.prog (dS (zg5 n [])) S0 r1 S1 → putC [] y r1 S0 S1 := fun n y r1 S1 hn hy h => by
    rw [hy]
    exact you n _ (by omega) (by simp; omega) h
  rcases hi with ⟨hk, hi⟩ | ⟨hk, hi⟩
  · rw [yla] at hi
    rcases Yields.split hi with ⟨S1, q1, q2⟩ | ⟨_, q2⟩
    · refine zas (fr := [7]) [(1, 1), (2, 2), (3, 3), (6, 4)] [(5, 7)] rfl (by simp) (hcall 1 _ true S1 (by omega) (by rw [hk]) q1) ⟨⟨rfl, rfl, rfl⟩, ⟨rfl, rfl, rfl⟩, ⟨rfl, rfl, rfl⟩, ⟨rfl, rfl, rfl⟩, trivial⟩ rfl rfl rfl rfl ?_
      refine lg [] rfl (by simp [zag]) ?_
      refine zaa rfl (fun h => ?_) (fun h => by simp at h)
      refine ld [] rfl (by simp) ?_
      refine zbt 6 7 rfl ?_
      exact zae (ih (k + 1, S1) (by simp only; omega) (.inr ⟨by simp only; omega, q2⟩)) ⟨zcn (w64 (by simp only; omega) (by simp only; omega)), rfl, rfl, trivial⟩ ⟨rfl, rfl, rfl, rfl, trivial⟩ rfl
    · refine zas (fr := [7]) [(1, 1), (2, 2), (3, 3), (6, 4)] [(5, 7)] rfl (by simp) (hcall 1 _ false S' (by omega) (by rw [hk]) q2) ⟨⟨rfl, rfl, rfl⟩, ⟨rfl, rfl, rfl⟩, ⟨rfl, rfl, rfl⟩, ⟨rfl, rfl, rfl⟩, trivial⟩ rfl rfl rfl rfl ?_
      refine lg [] rfl (by simp [zag]) ?_
      refine zaa rfl (fun h => by simp at h) (fun h => ?_)
      refine zar rfl ?_
      refine zb5 (ids' := []) 7 5 rfl rfl ?_
      exact zcf ⟨[], rfl, rfl, rfl, rfl, trivial⟩
  · refine zas (fr := [7]) [(1, 1), (2, 2), (3, 3), (6, 4)] [(5, 7)] rfl (by simp) (hcall 2 _ false S' (by omega) (by rw [hk]) hi) ⟨⟨rfl, rfl, rfl⟩, ⟨rfl, rfl, rfl⟩, ⟨rfl, rfl, rfl⟩, ⟨rfl, rfl, rfl⟩, trivial⟩ rfl rfl rfl rfl ?_
    refine lg [] rfl (by simp [zag]) ?_
    refine zaa rfl (fun h => by simp at h) (fun h => ?_)
    refine zar rfl ?_
    refine zb5 (ids' := []) 7 5 rfl rfl ?_
    exact zcf ⟨[], rfl, rfl, rfl, rfl, trivial⟩
theorem yez : zau Tryz.prog 58 [] (.fn (.func 92)) := by
  refine zaf zi5 Tryz.func58 (by decide +kernel) rfl [] rfl rfl ?_
  refine lg [] rfl (by simp [zag]) ?_
  exact zab ⟨_, rfl, tV rfl, trivial⟩
def zl0 (l : List Str) (s : Str) : List Str := if zck l s then l else l ++ [s]
theorem zl9 (l : List Str) (s : Str) : zxs (ze7 l) (.str s) (.bool true) = ze7 (zl0 l s) := by
  unfold zl0
  by_cases h : zck l s = true
  · rw [if_pos h]
    induction l with
    | nil => simp [zck] at h
    | cons x r ih =>
      simp only [zck, Bool.or_eq_true] at h
      simp only [ze7, List.map_cons, zxs, eqK]
      by_cases hx : s = x
      · subst hx; simp
      · have h2 : zck r s = true := by
          rcases h with h | h
          · exact absurd (by simpa using h) (fun e : x = s => hx e.symm)
          · exact h
        have := ih h2
        simp only [ze7] at this
        simp [hx, this]
  · rw [if_neg h]
    exact zwd l s (by simpa using h)
theorem zwz (l m : List Str) (x : Str) : zck (l ++ m) x = (zck l x || zck m x) := by
  induction l with
  | nil => simp [zck]
  | cons y r ih => simp [zck, ih, Bool.or_assoc]
theorem yd2 (l : List Str) (s x : Str) : zck (zl0 l s) x = zck (l ++ [s]) x := by
  unfold zl0
  by_cases h : zck l s = true
  · rw [if_pos h, zwz]
    by_cases hx : s = x
    · subst hx; rw [h]; rfl
    · simp [zck, hx]
  · rw [if_neg h]
theorem zs3 {P : Program} {n : Nat} {F : List Nat} {Q : DQ} {env : Env} {st : St} {ids : List Nat} {todo : List DI} (t : Nat) {f : Fn} (he : lk env t = some (.imm (.fn f))) (h : DGo P n F Q todo ((t, .fn f [] []) :: env) st ids) : DGo P n F Q todo env st ids := by
  intro b cs I μ a w items hd hc
  refine h b cs I μ a w items hd { hc with env := fun t' d hl => ?_ }
  by_cases ht : t = t'
  · subst ht
    rw [zaj] at hl; cases hl
    rw [(hc.env t _ he).immInv.fnInv]
    exact .fn _ #[] #[] [] [] rfl rfl (fun i v d h => by simp at h) (fun i v d h => by simp at h)
  · rw [zan _ _ ht] at hl; exact hc.env t' d hl
theorem Yields.pre {P : Program} {l : List D} {d : D} {m : List D} {S S' : Bun} (h : ∀ x ∈ l, ycn P [x] S true S) (h1 : ycn P [d] S false S') : Yields P (l ++ d :: m) S false S' := by
  induction l with
  | nil => exact .stop h1
  | cons x r ih => exact .cons (h x (by simp)) (ih fun y hy => h y (by simp [hy]))
def stF (met : List Str) (s : Str) : St := [(1, some (.immb 9 1 [.str s])), (2, some (.map (ze7 met))), (3, some (.cells 61 1 [.mapr 2]))]
def yif : Code → Option (Code × Code)
  | .rangeFunc _ _ a b => some (a, b)
  | .seq x y => match yif x with
    | some r => some r
    | none => yif y
  | .block _ c => yif c
  | _ => none
def yos (f : Func) : Code := match yif (zg0 f 0) with
  | some (a, _) => a
  | none => .skip
def yie (f : Func) : Code := match yif (zg0 f 0) with
  | some (_, b) => b
  | none => .skip
def zdf (l : List Str) (s : Str) : Bool := zcu s && !zck l s
theorem yoh (met : List Str) (u : Str) (hu : zdf met u = false) {L : zom} (h1 : Tryz.prog.funcs[L.fn]?.isSome) (h2 : L.tmps.size = Tryz.f34.ntmps) (h3 : L.ps = #[18]) (h4 : L.asg = yos Tryz.f34)
    (h5 : L.body = yie Tryz.f34) (h6 : L.E = [(2, .ref 1 0), (3, .ref 3 0)]) (h7 : L.F = []) : ycn Tryz.prog [.imm (.str u)] (zdv L (stF met []) none) true (zdv L (stF met []) none) := by
  obtain ⟨fc, hf⟩ := Option.isSome_iff_exists.1 h1
  refine zoa (pend := none) (d := .imm (.str u)) (ids := [7, 8]) (t := 6) (p := 18) hf h3 (h4.trans rfl) h2 rfl rfl rfl rfl (by decide) (by decide) ?_ ?_
  · rw [h6, h7]
    refine ⟨by decide, ?_⟩
    simp [stF, nmE, nmD, zfk, nmB, nmL]
  · rw [h5, h6, h7]
    refine ld [] rfl (by simp [zag]) ?_
    refine zac rfl (fun _ => zfy u) (by simp [zag]) ?_
    refine lg [] rfl (by simp [zag]) ?_
    refine zn6 zi5 2 rfl rfl rfl (zdc met) (by simp [zag]) (z := .bool false) rfl (fun _ => .bool _) (zhk met u) ?_
    refine lg [] rfl (by simp [zag]) ?_
    have hu' : (zcu u && !zck met u) = false := hu
    refine zaa rfl (fun h => ?_) (fun h => ?_)
    · exfalso
      cases hn : zcu u <;> cases hh : zck met u <;> simp [hn, hh] at h hu'
    · refine ld [] rfl (by simp [zag]) ?_
      refine zcf (?_ : zla _ (stF met []))
      exact ⟨rfl, rfl, rfl, trivial⟩
theorem yg8 (met : List Str) (u : Str) (hu : zdf met u = true) {L : zom} (h1 : Tryz.prog.funcs[L.fn]?.isSome) (h2 : L.tmps.size = Tryz.f34.ntmps) (h3 : L.ps = #[18]) (h4 : L.asg = yos Tryz.f34)
    (h5 : L.body = yie Tryz.f34) (h6 : L.E = [(2, .ref 1 0), (3, .ref 3 0)]) (h7 : L.F = []) : ycn Tryz.prog [.imm (.str u)] (zdv L (stF met []) none) false (zdv L (stF met u) (some .ret)) := by
  obtain ⟨fc, hf⟩ := Option.isSome_iff_exists.1 h1
  refine zoa (pend := some .ret) (d := .imm (.str u)) (ids := [7, 8]) (t := 6) (p := 18) hf h3 (h4.trans rfl) h2 rfl rfl rfl rfl (by decide) (by decide) ?_ ?_
  · rw [h6, h7]
    refine ⟨by decide, ?_⟩
    simp [stF, nmE, nmD, zfk, nmB, nmL]
  · rw [h5, h6, h7]
    refine ld [] rfl (by simp [zag]) ?_
    refine zac rfl (fun _ => zfy u) (by simp [zag]) ?_
    refine lg [] rfl (by simp [zag]) ?_
    refine zn6 zi5 2 rfl rfl rfl (zdc met) (by simp [zag]) (z := .bool false) rfl (fun _ => .bool _) (zhk met u) ?_
    refine lg [] rfl (by simp [zag]) ?_
    have hu' : (zcu u && !zck met u) = true := hu
    refine zaa rfl (fun h => ?_) (fun h => ?_)
    · refine ld [] rfl (by simp [zag]) ?_
      refine zab (?_ : zla _ (stF met u))
      exact ⟨rfl, rfl, rfl, trivial⟩
    · exfalso
      cases hn : zcu u <;> cases hh : zck met u <;> simp [hn, hh] at h hu'
theorem yoi (l : List Str) (s : Str) (pre post : List Str) (hl : l.length ≤ 1000000) (hsp : zg5 1 [] ++ zg5 2 [] = pre ++ s :: post) (hpre : ∀ x ∈ pre, zdf l x = false) (hs : zdf l s = true) :
    zau Tryz.prog 34 [.sl (za5 l)] (.str s) := by
  refine zaf zi5 Tryz.func34 (by decide +kernel) rfl [1, 2, 3, 4, 7, 8] rfl rfl ?_
  refine lg [] rfl (by simp [zag]) ?_
  refine zjt rfl ?_
  refine lg [] rfl (by simp [zag]) ?_
  refine zah (fun y : Nat × List Str => [(10, .imm (.int .i64 y.1)), (9, .imm (.int .i64 l.length)), (8, .imm (.sl (za5 l))), (2, .ref 1 0), (3, .ref 3 0)]) (fun y => stF y.2 []) [7, 8] (fun y => l.length - y.1)
    (fun y => y.1 ≤ l.length ∧ ∀ x, zck y.2 x = zck (l.take y.1) x) (0, []) ⟨Nat.zero_le _, fun _ => rfl⟩ ⟨rfl, zcn (by simp), rfl, rfl, rfl, trivial⟩ ⟨rfl, rfl, rfl, trivial⟩ rfl fun y hi ih => ?_
  obtain ⟨i, met⟩ := y
  obtain ⟨hi1, hi2⟩ := hi
  simp only at hi1 hi2
  refine ld [] rfl (by simp [zag]) ?_
  refine zaa rfl (fun h => ?_) (fun h => ?_)
  · simp at h
    obtain ⟨x, hx⟩ := zal h
    refine ld [] rfl (by simp) ?_
    refine li rfl (c := [.str x]) (fun _ => ⟨by simp, by simpa using zcx hx, rfl⟩) (by simp) ?_
    refine lg [] rfl (by simp) ?_
    refine zo9 zi5 rfl rfl rfl (zdc met) ?_
    refine lg [] rfl (by simp) ?_
    rw [zl9]
    exact zae (ih (i + 1, zl0 met x) (by simp only; omega) ⟨by simp only; omega, fun y => by simp only; rw [yd2, zwz, hi2 y, zbk hx, zwz]⟩) ⟨zcn (w64 (by simp only; omega) (by simp only; omega)), rfl, rfl, rfl, rfl, trivial⟩ ⟨rfl, rfl, rfl, trivial⟩ rfl
  · simp at h
    have hi3 : ∀ x, zdf met x = zdf l x := fun x => by
      have := hi2 x
      rw [List.take_of_length_le (by omega)] at this
      simp only [zdf, this]
    refine zar rfl ?_
    refine ld [] rfl (by simp) ?_
    refine zac rfl (fun _ => yez) (by simp) ?_
    refine ld [] rfl (by simp) ?_
    refine zs3 17 rfl ?_
    refine zd1 (y := 3) (j := 4) (j2 := 5) (stc := []) (stc' := []) (stx := stF met []) (stB := stF met s) (pend := some .ret) (E := [(2, .ref 1 0), (3, .ref 3 0)]) (ids' := [7, 8, 9]) (d := .tup []) rfl Tryz.func92 (by decide +kernel) rfl (by decide) ⟨rfl, rfl, trivial⟩
      (zci ⟨rfl, rfl, rfl, trivial⟩) (fun L h1 h2 h3 h4 h5 h6 h7 => yaw ?_) ?_ ?_ ?_ ?_ ?_
    · rw [hsp, yla]
      refine Yields.pre (fun x hx => ?_) (yg8 met s (by rw [hi3]; exact hs) h1 h2 h3 h4 h5 h6 h7)
      obtain ⟨u, hu, rfl⟩ := List.mem_map.1 hx
      exact yoh met u (by rw [hi3]; exact hpre u hu) h1 h2 h3 h4 h5 h6 h7
    · simp [nms]
    · simp [nms]
    · intro i hi
      have e : nmL (([] : List D) ++ []) = [] := rfl
      rw [e] at hi
      simp [zfk] at hi
    · refine ⟨by decide, ?_⟩
      simp [stF, nmE, nmD, zfk, nmB, nmL, nms]
    · exact zab ⟨_, rfl, tV rfl, trivial⟩
end Go.Hk
namespace Go.Hk
open Go.Proofs
def ygz (t : Tm) : St := [(6, some (.cells 91 1 [.ip 26 (dTmc t) 0]))]
def zbg (op kid : Int) : Bool := op == 5 || op == 27 || (op == 7 && kid == 1)
theorem zvt (op n : Int) (x : Str) (ks : List Tm) (ps : List Ty) (kid : Int) (h : zbg op kid = true) :
    zc8 Tryz.prog 67 [.ip 26 (dTmc (.mk op n x ks ps)) 0, .imm (.int .i64 kid)] [] (.ret (.fn (.func 97) [] [.ref 6 0]) (ygz (.mk op n x ks ps))) := by
  refine zaf zb1 Tryz.func67 (by decide +kernel) rfl [6] rfl rfl ?_
  refine ng [] rfl (by simp [zag]) ?_
  have h' : (op == 5 || op == 27 || (op == 7 && kid == 1)) = true := h
  refine zaa rfl (fun h1 => ?_) (fun h1 => ?_)
  · refine nd [] rfl (by simp [zag]) ?_
    refine zaa rfl (fun _ => ?_) (fun h2 => by rw [h1] at h2; cases h2)
    refine nd [] rfl (by simp [zag]) ?_
    exact zab ⟨_, rfl, rfl, rfl, trivial⟩
  · refine nd [] rfl (by simp [zag]) ?_
    refine zaa rfl (fun h2 => ?_) (fun h2 => ?_)
    · refine nd [] rfl (by simp [zag]) ?_
      refine zaa rfl (fun _ => ?_) (fun h3 => by rw [h2] at h3; cases h3)
      refine nd [] rfl (by simp [zag]) ?_
      exact zab ⟨_, rfl, rfl, rfl, trivial⟩
    · refine nd [] rfl (by simp [zag]) ?_
      refine zaa rfl (fun _ => ?_) (fun h3 => ?_)
      · refine nd [] rfl (by simp [zag]) ?_
        exact zab ⟨_, rfl, rfl, rfl, trivial⟩
      · exfalso
        rw [h1, h2] at h'
        cases e1 : (op == 7) <;> cases e2 : (kid == 1) <;> simp [e1, e2] at h' h3
def zbr (op kid : Int) : Bool := op == 15 && decide (0 < kid)
theorem yaf (op n : Int) (x : Str) (ks : List Tm) (ps : List Ty) (kid : Int) (h : zbg op kid = false) (h2 : zbr op kid = true) (p : Ty) (hp : ps[(kid - 1).toNat]? = some p) (hk : kid ≤ 1000000) :
    zc8 Tryz.prog 67 [.ip 26 (dTmc (.mk op n x ks ps)) 0, .imm (.int .i64 kid)] [] (.ret (.fn (.func 113) [] [.ref 6 0]) (yel p)) := by
  refine zaf zb1 Tryz.func67 (by decide +kernel) rfl [7, 6] rfl rfl ?_
  refine ng [] rfl (by simp [zag]) ?_
  have h' : (op == 5 || op == 27 || (op == 7 && kid == 1)) = false := h
  have h2' : (op == 15 && decide (0 < kid)) = true := h2
  simp only [Bool.or_eq_false_iff] at h'
  obtain ⟨⟨e1, e2⟩, e3⟩ := h'
  simp only [Bool.and_eq_true, decide_eq_true_eq] at h2'
  refine zaa rfl (fun h1 => by rw [e1] at h1; cases h1) (fun h1 => ?_)
  refine nd [] rfl (by simp [zag]) ?_
  refine zaa rfl (fun h1 => by rw [e2] at h1; cases h1) (fun h1 => ?_)
  refine nd [] rfl (by simp [zag]) ?_
  refine zaa rfl (fun h3 => ?_) (fun h3 => ?_)
  · exfalso
    cases q1 : (op == 7) <;> cases q2 : (kid == 1) <;> simp [q1, q2] at e3 h3
  refine nd [] rfl (by simp [zag]) ?_
  refine zaa rfl (fun h4 => ?_) (fun h4 => by simp [h2'.1, h2'.2] at h4)
  refine nd [] rfl (by simp [zag]) ?_
  refine ni rfl (c := zb0 p) (fun _ => ⟨by rw [w64 (by omega) (by omega)]; omega, by rw [w64 (by omega) (by omega)]; exact zb6 hp, by simp⟩) (by simp) ?_
  refine ng [] rfl (by simp [zag]) ?_
  refine zas (st0 := []) (fr := [6]) [] [(6, 6)] rfl (by simp) (ym9 p) trivial rfl rfl rfl rfl ?_
  refine ng [] rfl (by simp [zag]) ?_
  exact zab ⟨_, rfl, rfl, rfl, trivial⟩
theorem zvv (op n : Int) (x : Str) (ks : List Tm) (ps : List Ty) (kid : Int) (h : zbg op kid = false) (h2 : zbr op kid = false) :
    zc8 Tryz.prog 67 [.ip 26 (dTmc (.mk op n x ks ps)) 0, .imm (.int .i64 kid)] [] (.ret (.imm (.fn (.func 99))) []) := by
  refine zaf zb1 Tryz.func67 (by decide +kernel) rfl [7, 6] rfl rfl ?_
  refine ng [] rfl (by simp [zag]) ?_
  have h' : (op == 5 || op == 27 || (op == 7 && kid == 1)) = false := h
  have h2' : (op == 15 && decide (0 < kid)) = false := h2
  simp only [Bool.or_eq_false_iff] at h'
  obtain ⟨⟨e1, e2⟩, e3⟩ := h'
  refine zaa rfl (fun h1 => by rw [e1] at h1; cases h1) (fun h1 => ?_)
  refine nd [] rfl (by simp [zag]) ?_
  refine zaa rfl (fun h1 => by rw [e2] at h1; cases h1) (fun h1 => ?_)
  refine nd [] rfl (by simp [zag]) ?_
  refine zaa rfl (fun h3 => ?_) (fun h3 => ?_)
  · exfalso
    cases q1 : (op == 7) <;> cases q2 : (kid == 1) <;> simp [q1, q2] at e3 h3
  refine nd [] rfl (by simp [zag]) ?_
  refine zaa rfl (fun h4 => ?_) (fun h4 => ?_)
  · exfalso
    cases q1 : (op == 15) <;> cases q2 : decide (0 < kid) <;> simp [q1, q2] at h2' h4 <;> simp_all
  refine nd [] rfl (by simp [zag]) ?_
  exact zab ⟨_, rfl, tV rfl, trivial⟩
theorem yah (t : Tm) {r : Bool} {S S' : Bun} (hY : Yields Tryz.prog [.ip 26 (dTmc t) 2] S r S') :
    zc8 Tryz.prog 97 [.yld 3, .ref 6 0] ((3, some .pin) :: (4, some (.bun 3 S)) :: ygz t) (.ret (.tup []) ((3, some .pin) :: (5, some (.bun 3 S')) :: ygz t)) := by
  obtain ⟨op, n, x, ks, ps⟩ := t
  refine zaf zb1 Tryz.func97 (by decide +kernel) rfl [7, 5] rfl rfl ?_
  refine ng [] rfl (by simp [zag]) ?_
  cases hY with
  | cons h h1 =>
    obtain ⟨rfl, rfl⟩ := h1.nilInv
    refine zjs (j := 4) (j2 := 7) rfl (by simp [zag]) trivial h rfl rfl rfl rfl rfl ?_
    refine ng [] rfl (by simp [zag]) ?_
    refine zb5 (ids' := []) 7 5 rfl rfl ?_
    exact zcf ⟨[], rfl, rfl, rfl, rfl, rfl, trivial⟩
  | stop h =>
    refine zjs (j := 4) (j2 := 7) rfl (by simp [zag]) trivial h rfl rfl rfl rfl rfl ?_
    refine ng [] rfl (by simp [zag]) ?_
    refine zb5 (ids' := []) 7 5 rfl rfl ?_
    exact zcf ⟨[], rfl, rfl, rfl, rfl, rfl, trivial⟩
theorem zne {S : Bun} : zc8 Tryz.prog 99 [.yld 3] [(3, some .pin), (4, some (.bun 3 S))] (.ret (.tup []) [(3, some .pin), (5, some (.bun 3 S))]) := by
  refine zaf zb1 Tryz.func99 (by decide +kernel) rfl [7, 5] rfl rfl ?_
  refine ng [] rfl (by simp [zag]) ?_
  refine zb5 (ids' := []) 4 5 rfl rfl ?_
  exact zcf ⟨[], rfl, rfl, rfl, rfl, trivial⟩
def stL (l : List Str) : Nat → St
  | 0 => [(1, some (.cells 36 1 [.nils]))]
  | k + 1 => [(1, some (.cells 36 1 [.own 4 (za5 (l.take (k + 1))).length])), (4, some (.row 9 1 (za5 (l.take (k + 1)))))]
theorem zr9 (l : List Str) (hlen : l.length ≤ 1000000) (i : Nat) (u : Tm) (hu : l[i]? = some (match u with | .mk _ _ x _ _ => x)) {L : zom} (h1 : Tryz.prog.funcs[L.fn]?.isSome) (h2 : L.tmps.size = Tryz.f65.ntmps) (h3 : L.ps = #[10]) (h4 : L.asg = rfAsg Tryz.f65)
    (h5 : L.body = yoq Tryz.f65) (h6 : L.E = [(5, .ref 1 0)]) (h7 : L.F = []) : ycn Tryz.prog [.ip 26 (dTmc u) 2] (zdv L (stL l i) none) true (zdv L (stL l (i + 1)) none) := by
  obtain ⟨fc, hf⟩ := Option.isSome_iff_exists.1 h1
  obtain ⟨fs, fm, x, ks, ps⟩ := u
  have hlt : i < l.length := (List.getElem?_eq_some_iff.1 hu).1
  refine zoa (pend := none) (d := .ip 26 (dTmc (.mk fs fm x ks ps)) 2) (ids := [7, 8]) (t := 6) (p := 10) hf h3 (h4.trans rfl) h2 rfl rfl rfl rfl (by decide) (by decide) ?_ ?_
  · rw [h6, h7]
    cases i <;> refine ⟨by decide, ?_⟩ <;> simp [stL, nmE, nmD, zfk, nmB, nmL]
  · rw [h5, h6, h7]
    cases i with
    | zero =>
      refine nd [] rfl (by simp [zag]) ?_
      refine zby zb1 rfl ⟨by simp, by simp [maxLen], by simp, trivial⟩ ?_
      refine ng [] rfl (by simp [zag]; rfl) ?_
      refine zbt 4 7 rfl ?_
      refine zcf (?_ : zla _ (stL l (0 + 1)))
      have e : za5 (l.take (0 + 1)) = [] ++ [[.str x]] := by
        rw [zbk hu]; rfl
      simp only [stL, e]
      exact ⟨rfl, rfl, trivial⟩
    | succ i =>
      refine nd [] rfl (by simp [zag]) ?_
      refine zby zb1 rfl ⟨by simp, by simp [maxLen]; omega, by simp; omega, trivial⟩ ?_
      refine ng [] rfl (by simp [zag]; rfl) ?_
      refine zbt 4 7 rfl ?_
      refine zcf (?_ : zla _ (stL l (i + 1 + 1)))
      have e : za5 (l.take (i + 1 + 1)) = za5 (l.take (i + 1)) ++ [[.str x]] := by
        rw [zbk hu, zd2]; rfl
      simp only [stL, e]
      exact ⟨by simp only [List.length_append]; rfl, rfl, trivial⟩
theorem zsa (l : List Str) (hlen : l.length ≤ 1000000) (i : Nat) (u : Ty) (hu : l[i]? = some (zew u)) {L : zom} (h1 : Tryz.prog.funcs[L.fn]?.isSome) (h2 : L.tmps.size = Tryz.f65.ntmps) (h3 : L.ps = #[10]) (h4 : L.asg = rfAsg Tryz.f65)
    (h5 : L.body = yoq Tryz.f65) (h6 : L.E = [(5, .ref 1 0)]) (h7 : L.F = []) : ycn Tryz.prog [.ip 58 (zb0 u) 2] (zdv L (stL l i) none) true (zdv L (stL l (i + 1)) none) := by
  obtain ⟨fc, hf⟩ := Option.isSome_iff_exists.1 h1
  obtain ⟨fs, fm, x, ps⟩ := u
  have hlt : i < l.length := (List.getElem?_eq_some_iff.1 hu).1
  refine zoa (pend := none) (d := .ip 58 (zb0 (.mk fs fm x ps)) 2) (ids := [7, 8]) (t := 6) (p := 10) hf h3 (h4.trans rfl) h2 rfl rfl rfl rfl (by decide) (by decide) ?_ ?_
  · rw [h6, h7]
    cases i <;> refine ⟨by decide, ?_⟩ <;> simp [stL, nmE, nmD, zfk, nmB, nmL]
  · rw [h5, h6, h7]
    cases i with
    | zero =>
      refine nd [] rfl (by simp [zag]) ?_
      refine zby zb1 rfl ⟨by simp, by simp [maxLen], by simp, trivial⟩ ?_
      refine ng [] rfl (by simp [zag]; rfl) ?_
      refine zbt 4 7 rfl ?_
      refine zcf (?_ : zla _ (stL l (0 + 1)))
      have e : za5 (l.take (0 + 1)) = [] ++ [[.str x]] := by
        rw [zbk hu]; rfl
      simp only [stL, e]
      exact ⟨rfl, rfl, trivial⟩
    | succ i =>
      refine nd [] rfl (by simp [zag]) ?_
      refine zby zb1 rfl ⟨by simp, by simp [maxLen]; omega, by simp; omega, trivial⟩ ?_
      refine ng [] rfl (by simp [zag]; rfl) ?_
      refine zbt 4 7 rfl ?_
      refine zcf (?_ : zla _ (stL l (i + 1 + 1)))
      have e : za5 (l.take (i + 1 + 1)) = za5 (l.take (i + 1)) ++ [[.str x]] := by
        rw [zbk hu, zd2]; rfl
      simp only [stL, e]
      exact ⟨by simp only [List.length_append]; rfl, rfl, trivial⟩
theorem zr8 (l : List Str) : DGo Tryz.prog Tryz.f65.ntmps [] (yar ttN Tryz.f65.results.toList (.ret (.imm (.sl (za5 l))) [])) [.inBlock 0, .code (zg0 Tryz.f65 3)] [(5, .ref 1 0)] (stL l l.length) [7, 8, 9] := by
  cases l with
  | nil =>
    refine nd [] rfl (by simp [zag]) ?_
    exact zab ⟨_, rfl, tV rfl, trivial⟩
  | cons x r =>
    have e : za5 ((x :: r).take ((x :: r).length)) = za5 (x :: r) := by rw [List.take_of_length_le (Nat.le_refl _)]
    have e2 : stL (x :: r) (x :: r).length = [(1, some (.cells 36 1 [.own 4 (za5 (x :: r)).length])), (4, some (.row 9 1 (za5 (x :: r))))] := by
      simp only [List.length_cons, stL] at e ⊢
      rw [e]
    rw [e2]
    refine zb4 4 rfl ?_
    refine nd [] rfl (by simp [zag]) ?_
    exact zab ⟨_, rfl, tV rfl, trivial⟩
def zad : Tm → Int → List Str
  | .mk op _ x _ ps, kid => if zbg op kid then [x] else if zbr op kid then (match ps[(kid - 1).toNat]? with | some p => za3 p | none => []) else []
theorem yj0 (op n : Int) (x : Str) (ks : List Tm) (ps : List Ty) (kid : Int) (hk : kid ≤ 1000000) (hp : zbg op kid = false → zbr op kid = true → ∃ p, ps[(kid - 1).toNat]? = some p ∧ (za3 p).length ≤ 1000000) :
    zau Tryz.prog 65 [.ip 26 (dTmc (.mk op n x ks ps)) 0, .int .i64 kid] (.sl (za5 (zad (.mk op n x ks ps) kid))) := by
  refine zaf zb1 Tryz.func65 (by decide +kernel) rfl [1, 6, 7, 8, 9] rfl rfl ?_
  refine yb7 0 rfl ?_
  refine nd [] rfl (by simp [zag]) ?_
  cases h : zbg op kid with
  | true =>
    have e : zad (.mk op n x ks ps) kid = [x] := by simp [zad, h]
    rw [e]
    refine zas (st0 := []) (fr := [6]) [] [(6, 6)] rfl (by simp) (zvt op n x ks ps kid h) trivial rfl rfl rfl rfl ?_
    refine nd [] rfl (by simp [zag]) ?_
    refine zd1 (y := 3) (j := 4) (j2 := 5) (stc := ygz (.mk op n x ks ps)) (stc' := ygz (.mk op n x ks ps)) (stx := stL [x] 0) (stB := stL [x] 1) (pend := none) (E := [(5, .ref 1 0)]) (ids' := [7, 8, 9]) (d := .tup []) rfl Tryz.func97 (by decide +kernel) rfl (by decide) ⟨rfl, trivial⟩
      (zci ⟨rfl, rfl, trivial⟩) (fun L h1 h2 h3 h4 h5 h6 h7 => yah (r := true) (.mk op n x ks ps) (.cons (zr9 [x] (by simp) 0 (.mk op n x ks ps) rfl h1 h2 h3 h4 h5 h6 h7) (.nil _))) ?_ ?_ ?_ ?_ (zr8 [x])
    · simp [ygz, stL, nms]
    · simp [ygz, nms]
    · intro i hi
      have e : nmL (zlx (zi0 (zbz [] ++ [(6, 6)])) [] ++ zlx (zi0 (zbz [] ++ [(6, 6)])) [.ref 6 0]) = [6] := rfl
      rw [e] at hi
      simpa [ygz, nms, zfk, nmB, nmL, nmD] using hi
    · refine ⟨by decide, ?_⟩
      simp [stL, nmE, nmD, zfk, nmB, nmL, nms]
  | false =>
    cases h2 : zbr op kid with
    | true =>
      obtain ⟨p, hp1, hp2⟩ := hp h h2
      have e : zad (.mk op n x ks ps) kid = za3 p := by
        show (if zbg op kid then [x] else if zbr op kid then (match ps[(kid - 1).toNat]? with | some p => za3 p | none => []) else []) = za3 p
        rw [h, h2, hp1]
        rfl
      rw [e]
      refine zas (st0 := []) (fr := [6]) [] [(6, 6)] rfl (by simp) (yaf op n x ks ps kid h h2 p hp1 hk) trivial rfl rfl rfl rfl ?_
      refine nd [] rfl (by simp [zag]) ?_
      refine zd1 (y := 3) (j := 4) (j2 := 5) (stc := yel p) (stc' := yel p) (stx := stL (za3 p) 0) (stB := stL (za3 p) (za3 p).length) (pend := none) (E := [(5, .ref 1 0)]) (ids' := [7, 8, 9]) (d := .tup []) rfl Tryz.func113 (by decide +kernel) rfl (by decide) ⟨rfl, trivial⟩
        (zci ⟨rfl, rfl, trivial⟩) (fun L h1 h2 h3 h4 h5 h6 h7 => zze (b := true) p ?_) ?_ ?_ ?_ ?_ (zr8 (za3 p))
      · have := Yields.all (P := Tryz.prog) (l := ziu p) (fun i => zdv L (stL (za3 p) i) none) fun i d hi => by
          rw [zjh, List.getElem?_map] at hi
          cases hu : (zb2 p)[i]? with
          | none => rw [hu] at hi; cases hi
          | some u =>
            rw [hu] at hi
            cases hi
            exact zsa (za3 p) hp2 i u (by simp [za3, hu]) h1 h2 h3 h4 h5 h6 h7
        have hl : (ziu p).length = (za3 p).length := by simp [zjh, za3]
        rw [hl] at this
        exact this
      · cases (za3 p).length <;> simp [yel, stL, nms]
      · simp [yel, nms]
      · intro i hi
        have e : nmL (zlx (zi0 (zbz [] ++ [(6, 6)])) [] ++ zlx (zi0 (zbz [] ++ [(6, 6)])) [.ref 6 0]) = [6] := rfl
        rw [e] at hi
        simpa [yel, nms, zfk, nmB, nmL, nmD] using hi
      · refine ⟨by decide, ?_⟩
        cases (za3 p).length <;> simp [stL, nmE, nmD, zfk, nmB, nmL, nms]
    | false =>
      have e : zad (.mk op n x ks ps) kid = [] := by simp [zad, h, h2]
      rw [e]
      refine zas (st0 := []) (fr := []) [] [] rfl (by simp) (zvv op n x ks ps kid h h2) trivial rfl rfl rfl rfl ?_
      refine nd [] rfl (by simp [zag]) ?_
      refine zs3 9 rfl ?_
      refine zd1 (y := 3) (j := 4) (j2 := 5) (stc := []) (stc' := []) (stx := stL [] 0) (stB := stL [] 0) (pend := none) (E := [(5, .ref 1 0)]) (ids' := [7, 8, 9]) (d := .tup []) rfl Tryz.func99 (by decide +kernel) rfl (by decide) ⟨rfl, trivial⟩
        (zci ⟨rfl, trivial⟩) (fun L h1 h2 h3 h4 h5 h6 h7 => zne) ?_ ?_ ?_ ?_ (zr8 [])
      · simp [nms]
      · simp [nms]
      · intro i hi
        have e : nmL (([] : List D) ++ []) = [] := rfl
        rw [e] at hi
        simp [zfk] at hi
      · refine ⟨by decide, ?_⟩
        simp [stL, nmE, nmD, zfk, nmB, nmL, nms]
def ttF : TT := ttN ++ [
  (86, ⟨.ptr 125, false, 1, 8, [.imm .nilp]⟩),
  (123, ⟨.struct [(0, 9), (1, 9)], true, 2, 32, [.imm (.str []), .imm (.str [])]⟩),
  (125, ⟨.struct [(0, 123), (2, 86)], true, 3, 40, [.imm (.str []), .imm (.str []), .imm .nilp]⟩)]
theorem za6 : TTok Tryz.prog ttF := .of_eq (l := [4, 3, 9, 26, 58, 22, 24, 5, 36, 23, 56, 29, 139, 83, 1, 61, 143, 128, 96, 94, 93, 126, 148, 91, 86, 123, 125]) (by kernel_rfl)
section
variable {n : Nat} {F : List Nat} {Q : DQ} {env env' : Env} {st st' : St} {ids ids' : List Nat} {k todo : List DI} {ob : List Prop}
theorem fd_ (path : List Pt) (h : run ttF n 300 path todo env st ids [] = .at k env' st' ids' ob) (hob : zb7 ob) (hd : G Tryz.prog n F Q k env' st' ids') : DGo Tryz.prog n F Q todo env st ids := zpu za6 mixed 300 path h hob hd
theorem fg_ (path : List Pt) (h : run ttF n 300 path todo env st ids [] = .at k env' st' ids' ob) (hob : zb7 ob) (hd : G Tryz.prog n F Q k env' st' ids') : G Tryz.prog n F Q todo env st ids := zpr za6 mixed 300 path h hob hd
theorem fi_ {es : List (List V)} {m : Int} {sz : Nat} {e : TypeId} {g : Option (Bool × Bool)} {ob : List Prop} {t : Nat} {todo' : List DI} {c : List V} (h : yi6 ttF n env todo = some ⟨es, m, sz, e, g, ob, some t, todo'⟩)
    (hc : zag g → 0 ≤ m ∧ es[m.toNat]? = some c ∧ c.length = sz) (hob : zb7 ob) (hk : G Tryz.prog n F Q todo' ((t, gD g (.ip e c 0)) :: env) st ids) : G Tryz.prog n F Q todo env st ids := zie za6 h hc hob hk
end
def zox : List Str → V
  | [] => .nilp
  | x :: r => .ip 125 [.str x, .str x, zox r] 0
theorem yp8 (l : List Str) (s : Str) : zau Tryz.prog 63 [zox l, .str s] (.tup [.str (if zck l s then s else []), .bool (zck l s)]) := by
  refine zaf za6 Tryz.func63 (by decide +kernel) rfl [1] rfl rfl ?_
  refine fg_ [] rfl (by simp) ?_
  refine zah (fun r : List Str => [(0, .imm (zox r)), (1, .imm (.str s))]) (fun _ => []) [1] (fun r => r.length) (fun r => zck l s = zck r s) l rfl ⟨rfl, rfl, trivial⟩ trivial rfl fun r hi ih => ?_
  cases r with
  | nil =>
    refine fd_ [] rfl (by simp) ?_
    refine zaa rfl (fun h => by simp at h) (fun h => ?_)
    refine zar rfl ?_
    refine fd_ [] rfl (by simp) ?_
    refine zab ⟨_, rfl, tV (congrArg _ ?_), trivial⟩
    rw [hi]
    rfl
  | cons x r =>
    refine yb7 0 rfl ?_
    refine fd_ [] rfl (by simp) ?_
    refine zaa rfl (fun h => ?_) (fun h => by simp at h)
    refine fd_ [] rfl (by simp) ?_
    refine zaa rfl (fun h2 => ?_) (fun h2 => ?_)
    · refine fd_ [] rfl (by simp) ?_
      refine zab ⟨_, rfl, tV (congrArg _ ?_), trivial⟩
      have e : x = s := by simpa using h2
      subst e
      have : zck l x = true := by rw [hi]; simp [zck]
      rw [this]
      rfl
    · refine fd_ [] rfl (by simp) ?_
      have e : zck (x :: r) s = zck r s := by simp [zck, h2]
      exact zae (ih r (by simp) (by rw [hi, e])) ⟨rfl, rfl, trivial⟩ trivial rfl
theorem yph (l ns : List Str) : zau Tryz.prog 64 [zox l, .sl (za5 ns)] (zox (ns.reverse ++ l)) := by
  refine zdp fun hv => ?_
  have hlen : ns.length ≤ 9223372036854775807 := by
    simp [zk9, vOk, maxLen] at hv; omega
  refine zaf za6 Tryz.func64 (by decide +kernel) rfl [1] rfl rfl ?_
  refine fg_ [] rfl (by simp) ?_
  refine zah (fun y : Nat × List Str => [(9, .imm (.int .i64 y.1)), (8, .imm (.int .i64 ns.length)), (7, .imm (.sl (za5 ns))), (0, .imm (zox y.2))]) (fun _ => []) [1] (fun y => ns.length - y.1) (fun y => y.1 ≤ ns.length ∧ y.2 = (ns.take y.1).reverse ++ l) (0, l)
    ⟨Nat.zero_le _, rfl⟩ ⟨rfl, zcn (by simp), rfl, rfl, trivial⟩ trivial rfl fun y hi ih => ?_
  obtain ⟨i, r⟩ := y
  obtain ⟨hi1, hi2⟩ := hi
  simp only at hi1 hi2
  refine fd_ [] rfl (by simp) ?_
  refine zaa rfl (fun h => ?_) (fun h => ?_)
  · simp at h
    obtain ⟨x, hx⟩ := zal h
    have hnext : x :: r = (ns.take (i + 1)).reverse ++ l := by rw [zbk hx, List.reverse_append, hi2]; rfl
    refine fd_ [] rfl (by simp) ?_
    refine fi_ rfl (c := [.str x]) (fun _ => ⟨by simp, by simpa using zcx hx, rfl⟩) (by simp) ?_
    cases r with
    | nil =>
      refine fg_ [] rfl (by simp) ?_
      refine zik 0 rfl rfl ?_
      exact zae (ih (i + 1, [x]) (by simp only; omega) ⟨by simp only; omega, hnext⟩) ⟨zcn (w64 (by simp only; omega) (by simp only; omega)), rfl, rfl, rfl, trivial⟩ trivial rfl
    | cons y r =>
      refine fg_ [] rfl (by simp) ?_
      refine zik 0 rfl rfl ?_
      exact zae (ih (i + 1, x :: y :: r) (by simp only; omega) ⟨by simp only; omega, hnext⟩) ⟨zcn (w64 (by simp only; omega) (by simp only; omega)), rfl, rfl, rfl, trivial⟩ trivial rfl
  · simp at h
    refine zar rfl ?_
    refine fd_ [] rfl (by simp) ?_
    refine zab ⟨_, rfl, tV ?_, trivial⟩
    rw [hi2, List.take_of_length_le (by omega)]
end Go.Hk
namespace Go.Hk
open Go.Proofs
mutual
def zeb : Tm → List Str → List Str → List Str
  | .mk op n x ks ps, s, m => if op = 4 then (if zck s x then m else zl0 m x) else zfl (.mk op n x ks ps) 0 ks s m
def zfl (t : Tm) : Nat → List Tm → List Str → List Str → List Str
  | _, [], _, m => m
  | i, k :: r, s, m => zfl t (i + 1) r s (zeb k ((zad t i).reverse ++ s) m)
end
mutual
def zfx : Tm → Prop
  | .mk op _ _ ks ps => ks.length ≤ 1000000 ∧ (∀ i : Nat, i < ks.length → zbg op i = false → zbr op i = true → ∃ p, ps[((i : Int) - 1).toNat]? = some p ∧ (za3 p).length ≤ 1000000) ∧ zlj ks
def zlj : List Tm → Prop
  | [] => True
  | k :: r => zfx k ∧ zlj r
end
theorem zgn : ∀ {l : List Tm} {t : Tm}, zlj l → t ∈ l → zfx t
  | [], _, _, h => by simp at h
  | k :: r, t, h, hm => by
    rcases List.mem_cons.1 hm with rfl | hm
    · exact h.1
    · exact zgn h.2 hm
def freeC (t : Tm) (s m : List Str) : Prop := zc8 Tryz.prog 36 [.imm (.agg (dTmc t)), .imm (zox s), .mapr 1] [(1, some (.map (ze7 m)))] (.ret (.tup []) [(1, some (.map (ze7 (zeb t s m))))])
theorem zsn : ∀ (t : Tm) (s m : List Str), zfx t → freeC t s m
  | .mk op n x ks ps, s, m, hok => by
    obtain ⟨hk1, hk2, hk3⟩ := hok
    refine zaf za6 Tryz.func36 (by decide +kernel) rfl [2, 3, 4, 5] rfl rfl ?_
    refine fg_ [] rfl (by simp) ?_
    refine zaa rfl (fun h => ?_) (fun h => ?_)
    · have e : op = 4 := by simpa using h
      refine fd_ [] rfl (by simp) ?_
      refine zac rfl (fun _ => yp8 s x) (by simp) ?_
      refine fg_ [] rfl (by simp) ?_
      refine zaa rfl (fun h2 => ?_) (fun h2 => ?_)
      · refine fd_ [] rfl (by simp) ?_
        refine zo9 za6 rfl rfl rfl (zdc m) ?_
        refine fg_ [] rfl (by simp) ?_
        rw [zl9]
        have e2 : zeb (.mk op n x ks ps) s m = zl0 m x := by simp at h2; simp [zeb, e, h2]
        rw [e2]
        exact zab ⟨[], rfl, rfl, rfl, trivial⟩
      · refine fd_ [] rfl (by simp) ?_
        have e2 : zeb (.mk op n x ks ps) s m = m := by simp at h2; simp [zeb, e, h2]
        rw [e2]
        exact zab ⟨[], rfl, rfl, rfl, trivial⟩
    · have e : ¬ op = 4 := by simpa using h
      have e2 : zeb (.mk op n x ks ps) s m = zfl (.mk op n x ks ps) 0 ks s m := by simp [zeb, e]
      rw [e2]
      refine fd_ [] rfl (by simp) ?_
      refine zik 3 rfl rfl ?_
      refine zah (fun y : Nat × List Str => [(28, .imm (.int .i64 y.1)), (27, .imm (.int .i64 ks.length)), (26, .imm (.sl (zcy ks))), (1, .imm (zox s)), (2, .mapr 1), (3, .ip 26 (dTmc (.mk op n x ks ps)) 0)])
        (fun y => [(1, some (.map (ze7 y.2)))]) [3, 4, 5] (fun y => ks.length - y.1) (fun y => y.1 ≤ ks.length ∧ zfl (.mk op n x ks ps) 0 ks s m = zfl (.mk op n x ks ps) y.1 (ks.drop y.1) s y.2) (0, m)
        ⟨Nat.zero_le _, rfl⟩ ⟨rfl, zcn (by simp), rfl, rfl, rfl, rfl, trivial⟩ ⟨rfl, trivial⟩ rfl fun y hi ih => ?_
      obtain ⟨i, m1⟩ := y
      obtain ⟨hi1, hi2⟩ := hi
      simp only at hi1 hi2
      refine fd_ [] rfl (by simp) ?_
      refine zaa rfl (fun h => ?_) (fun h => ?_)
      · simp at h
        obtain ⟨k, hk⟩ := zal h
        rw [zap hk] at hi2
        refine fd_ [] rfl (by simp) ?_
        refine fi_ rfl (c := dTmc k) (fun _ => ⟨by simp, by simpa using zbu hk, by simp⟩) (by simp) ?_
        refine fg_ [] rfl (by simp) ?_
        refine zac rfl (fun _ => yj0 op n x ks ps i (by omega) (hk2 i h)) (by simp) ?_
        refine fg_ [] rfl (by simp) ?_
        refine zac rfl (fun _ => yph s _) (by simp) ?_
        refine fg_ [] rfl (by simp) ?_
        refine zas (fr := []) [(1, 1)] [] rfl (by simp) (zsn k _ m1 (zgn hk3 (List.mem_of_getElem? hk))) ⟨⟨rfl, rfl, rfl⟩, trivial⟩ rfl rfl rfl rfl ?_
        refine fg_ [] rfl (by simp; rfl) ?_
        exact zae (ih (i + 1, zeb k ((zad (.mk op n x ks ps) i).reverse ++ s) m1) (by simp only; omega) ⟨by simp only; omega, hi2⟩) ⟨zcn (w64 (by simp only; omega) (by simp only; omega)), rfl, rfl, rfl, rfl, rfl, trivial⟩ ⟨rfl, trivial⟩ rfl
      · simp at h
        rw [List.drop_eq_nil_of_le (by omega)] at hi2
        refine zar rfl ?_
        refine fd_ [] rfl (by simp) ?_
        rw [hi2]
        exact zcf ⟨[], rfl, rfl, rfl, trivial⟩
termination_by t => SizeOf.sizeOf t
decreasing_by
  all_goals
    have := List.sizeOf_lt_of_mem (List.mem_of_getElem? hk)
    simp_wf
    omega
def zcl : Tm → Int → List Str
  | .mk op _ x _ ps, kid => if zbg op kid then [x] else if zbr op kid then (match ps[(kid - 1).toNat]? with | some p => za1 p | none => []) else []
theorem zqo (op n : Int) (x : Str) (ks : List Tm) (ps : List Ty) (kid : Int) (hk : kid ≤ 1000000) (hp : zbg op kid = false → zbr op kid = true → ∃ p, ps[(kid - 1).toNat]? = some p ∧ za0 p ≤ 1000000) :
    zau Tryz.prog 43 [.agg (dTmc (.mk op n x ks ps)), .int .i64 kid] (.sl (za5 (zcl (.mk op n x ks ps) kid))) := by
  refine zaf za6 Tryz.func43 (by decide +kernel) rfl [1, 2, 3] rfl rfl ?_
  refine fg_ [] rfl (by simp) ?_
  by_cases e5 : op = 5
  · have e : zcl (.mk op n x ks ps) kid = [x] := by simp [zcl, zbg, e5]
    rw [e]
    refine zaa rfl (fun h => ?_) (fun h => by simp [e5] at h)
    refine fd_ [] rfl (by simp) ?_
    refine zaa rfl (fun h => ?_) (fun h => by simp [e5] at h)
    refine fd_ [] rfl (by simp) ?_
    exact zab ⟨_, rfl, tV rfl, trivial⟩
  refine zaa rfl (fun h => by simp at h; exact absurd h e5) (fun h => ?_)
  refine fd_ [] rfl (by simp) ?_
  by_cases e27 : op = 27
  · have e : zcl (.mk op n x ks ps) kid = [x] := by simp [zcl, zbg, e27]
    rw [e]
    refine zaa rfl (fun h => ?_) (fun h => by simp [e27] at h)
    refine fd_ [] rfl (by simp) ?_
    exact zab ⟨_, rfl, tV rfl, trivial⟩
  refine zaa rfl (fun h => by simp at h; exact absurd h e27) (fun h => ?_)
  refine fd_ [] rfl (by simp) ?_
  by_cases e7 : op = 7
  · refine zaa rfl (fun h => ?_) (fun h => by simp [e7] at h)
    refine fd_ [] rfl (by simp) ?_
    by_cases k1 : kid = 1
    · have e : zcl (.mk op n x ks ps) kid = [x] := by simp [zcl, zbg, e7, k1]
      rw [e]
      refine zaa rfl (fun h => ?_) (fun h => by simp [k1] at h)
      refine fd_ [] rfl (by simp) ?_
      exact zab ⟨_, rfl, tV rfl, trivial⟩
    · have e : zcl (.mk op n x ks ps) kid = [] := by simp [zcl, zbg, zbr, e7, k1]
      rw [e]
      refine zaa rfl (fun h => by simp at h; exact absurd h k1) (fun h => ?_)
      refine fd_ [] rfl (by simp) ?_
      exact zab ⟨_, rfl, tV rfl, trivial⟩
  refine zaa rfl (fun h => by simp at h; exact absurd h e7) (fun h => ?_)
  refine fd_ [] rfl (by simp) ?_
  have o : zbg op kid = false := by simp [zbg, e5, e27, e7]
  by_cases e15 : op = 15
  · refine zaa rfl (fun h => ?_) (fun h => by simp [e15] at h)
    refine fd_ [] rfl (by simp) ?_
    by_cases k0 : 0 < kid
    · have pb : zbr op kid = true := by simp [zbr, e15, k0]
      obtain ⟨p, hp1, hp2⟩ := hp o pb
      have e : zcl (.mk op n x ks ps) kid = za1 p := by
        show (if zbg op kid then [x] else if zbr op kid then (match ps[(kid - 1).toNat]? with | some p => za1 p | none => []) else []) = za1 p
        rw [o, pb, hp1]
        rfl
      rw [e]
      refine zaa rfl (fun h => ?_) (fun h => by simp at h; omega)
      refine fd_ [] rfl (by simp) ?_
      refine fi_ rfl (c := zb0 p) (fun _ => ⟨by rw [w64 (by omega) (by omega)]; omega, by rw [w64 (by omega) (by omega)]; exact zb6 hp1, by simp⟩) (by simp) ?_
      refine fg_ [] rfl (by simp) ?_
      refine zac rfl (fun _ => zgx p hp2) (by simp) ?_
      refine fg_ [] rfl (by simp) ?_
      exact zab ⟨_, rfl, tV rfl, trivial⟩
    · have e : zcl (.mk op n x ks ps) kid = [] := by simp [zcl, o, zbr, k0]
      rw [e]
      refine zaa rfl (fun h => by simp at h; omega) (fun h => ?_)
      refine fd_ [] rfl (by simp) ?_
      exact zab ⟨_, rfl, tV rfl, trivial⟩
  · have e : zcl (.mk op n x ks ps) kid = [] := by simp [zcl, o, zbr, e15]
    rw [e]
    refine zaa rfl (fun h => by simp at h; exact absurd h e15) (fun h => ?_)
    refine fd_ [] rfl (by simp) ?_
    exact zab ⟨_, rfl, tV rfl, trivial⟩
def zp5 : List Str → Str → List Str
  | [], s => [s]
  | x :: r, s => if Op.bytesLess x s then x :: zp5 r s else if x == s then x :: r else s :: x :: r
theorem yba (s : Str) : ∀ (l : List Str) (i : Nat), i ≤ l.length → (∀ x ∈ l.take i, Op.bytesLess x s = true) → (∀ x, l[i]? = some x → Op.bytesLess x s = false) →
    zp5 l s = if l[i]? = some s then l else l.take i ++ [s] ++ l.drop i
  | [], i, hi, _, _ => by
    have : i = 0 := by simpa using hi
    subst this; rfl
  | x :: r, 0, _, _, h2 => by
    have := h2 x rfl
    simp only [zp5, this]
    by_cases e : x = s
    · subst e; simp
    · simp [e]
  | x :: r, i + 1, hi, h1, h2 => by
    have hx : Op.bytesLess x s = true := h1 x (by simp)
    have := yba s r i (by simpa using hi) (fun y hy => h1 y (by simp [hy])) (fun y hy => h2 y (by simpa using hy))
    simp only [zp5, hx, if_true, this, List.getElem?_cons_succ]
    by_cases e : r[i]? = some s
    · rw [if_pos e, if_pos e]
    · rw [if_neg e, if_neg e]; simp
theorem yfh (l : List Str) (s : Str) (hlen : l.length ≤ 1000000) : zau Tryz.prog 73 [.sl (za5 l), .str s] (.sl (za5 (zp5 l s))) := by
  refine zaf za6 Tryz.func73 (by decide +kernel) rfl [1, 2, 3, 4] rfl rfl ?_
  refine fg_ [] rfl (by simp) ?_
  refine zah (fun i : Nat => [(5, .imm (.int .i64 i)), (0, .imm (.sl (za5 l))), (1, .imm (.str s))]) (fun _ => []) [1, 2, 3, 4] (fun i => l.length - i) (fun i => i ≤ l.length ∧ ∀ x ∈ l.take i, Op.bytesLess x s = true) 0
    ⟨Nat.zero_le _, fun x hx => by simp at hx⟩ ⟨rfl, rfl, rfl, trivial⟩ trivial rfl fun i hi ih => ?_
  obtain ⟨hi1, hi2⟩ := hi
  have out : (∀ x, l[i]? = some x → Op.bytesLess x s = false) → DGo Tryz.prog Tryz.f73.ntmps (nms []) (yar ttF Tryz.f73.results.toList (.ret (.imm (.sl (za5 (zp5 l s)))) []))
      [.code (zg0 Tryz.f73 3)] [(5, .imm (.int .i64 i)), (0, .imm (.sl (za5 l))), (1, .imm (.str s))] [] [1, 2, 3, 4] := fun h2 => by
    rw [yba s l i hi1 hi2 h2]
    have one : ∀ c ∈ za5 l, c.length = 1 := zm7 l
    refine fd_ [] rfl (by simp) ?_
    have add : ¬ l[i]? = some s → DGo Tryz.prog Tryz.f73.ntmps (nms []) (yar ttF Tryz.f73.results.toList (.ret (.imm (.sl (za5 (l.take i ++ [s] ++ l.drop i)))) []))
        [.code (zg0 Tryz.f73 4)] [(5, .imm (.int .i64 i)), (0, .imm (.sl (za5 l))), (1, .imm (.str s))] [] [1, 2, 3, 4] := fun hne => by
      refine fd_ [] rfl ⟨fun _ => ⟨by omega, by simp; omega⟩, one, trivial⟩ ?_
      refine zby za6 rfl ⟨fun c hc => one c (List.mem_of_mem_take hc), by simp [maxLen]; omega, by simp; omega, trivial⟩ ?_
      have ht : (za5 l).take ((i : Int)).toNat = za5 (l.take i) := by rw [zs7]; rfl
      have hd : (za5 l).drop ((i : Int)).toNat = za5 (l.drop i) := by simp [za5, List.map_drop]
      refine fg_ [] rfl (by simp) ?_
      refine zby za6 rfl ⟨by simp, by simp [maxLen]; omega, by simp; omega, trivial⟩ ?_
      refine fg_ [] rfl ⟨fun _ => ⟨by omega, by simp; omega⟩, one, trivial⟩ ?_
      refine zby za6 rfl ⟨fun c hc => one c (List.mem_of_mem_drop hc), by simp [maxLen]; omega, by simp; omega, trivial⟩ ?_
      refine fg_ [] rfl ⟨rfl, trivial⟩ ?_
      refine zb4 3 rfl ?_
      refine zab ⟨_, rfl, tV (congrArg _ ?_), trivial⟩
      rw [zd2, zd2, ← ht, ← hd]
      rfl
    by_cases hlt : i < l.length
    · obtain ⟨x, hx⟩ := zal hlt
      refine fi_ rfl (c := [.str x]) (fun _ => ⟨by simp, by simpa using zcx hx, rfl⟩) (by simp [zag]) ?_
      refine fg_ [] rfl (by simp [zag]) ?_
      refine zaa rfl (fun h => ?_) (fun h => ?_)
      · have hl : x = s := by simpa [hlt] using h
        subst hl
        rw [if_pos hx]
        refine fd_ [] rfl (by simp) ?_
        exact zab ⟨_, rfl, tV rfl, trivial⟩
      · have hl : ¬ x = s := by simpa [hlt] using h
        have hne : ¬ l[i]? = some s := fun e => by rw [hx] at e; cases e; exact hl rfl
        rw [if_neg hne]
        refine zdr ?_
        exact zae (add hne) ⟨rfl, rfl, rfl, trivial⟩ trivial rfl
    · have hne : ¬ l[i]? = some s := fun e => by rw [List.getElem?_eq_none (by omega)] at e; cases e
      rw [if_neg hne]
      refine fi_ rfl (c := [.str []]) (fun h => by simp [zag] at h; omega) (by simp [zag]) ?_
      refine fg_ [] rfl (by simp [zag]) ?_
      refine zaa rfl (fun h => by simp [hlt] at h) (fun h => ?_)
      refine zdr ?_
      exact zae (add hne) ⟨rfl, rfl, rfl, trivial⟩ trivial rfl
  refine fd_ [] rfl (by simp) ?_
  by_cases hlt : i < l.length
  · obtain ⟨x, hx⟩ := zal hlt
    refine fi_ rfl (c := [.str x]) (fun _ => ⟨by simp, by simpa using zcx hx, rfl⟩) (by simp [zag]) ?_
    refine fg_ [] rfl (by simp [zag]) ?_
    refine zaa rfl (fun h => ?_) (fun h => ?_)
    · have hl : Op.bytesLess x s = true := by simpa [hlt] using h
      refine fd_ [] rfl (by simp) ?_
      refine zae (ih (i + 1) (by omega) ⟨by omega, fun y hy => ?_⟩) ⟨zcn (w64 (by omega) (by omega)), rfl, rfl, trivial⟩ trivial rfl
      rw [zbk hx] at hy
      rcases List.mem_append.1 hy with hy | hy
      · exact hi2 y hy
      · simp at hy; subst hy; exact hl
    · have hl : Op.bytesLess x s = false := by simpa [hlt] using h
      refine zar rfl ?_
      exact zae (out fun y hy => by rw [hx] at hy; cases hy; exact hl) ⟨rfl, rfl, rfl, trivial⟩ trivial rfl
  · refine fi_ rfl (c := [.str []]) (fun h => by simp [zag] at h; omega) (by simp [zag]) ?_
    refine fg_ [] rfl (by simp [zag]) ?_
    refine zaa rfl (fun h => by simp [hlt] at h) (fun h => ?_)
    refine zar rfl ?_
    exact zae (out fun y hy => by rw [List.getElem?_eq_none (by omega)] at hy; cases hy) ⟨rfl, rfl, rfl, trivial⟩ trivial rfl
def ze5 (b : List Str) : List Str → List Str → List Str
  | [], out => out
  | x :: r, out => ze5 b r (if zck b x then out else zp5 out x)
mutual
def zcc : Tm → List Str
  | .mk op n x ks ps => if op = 4 then [x] else zdd (.mk op n x ks ps) 0 ks []
def zdd (t : Tm) : Nat → List Tm → List Str → List Str
  | _, [], out => out
  | i, k :: r, out => zdd t (i + 1) r (ze5 (zcl t i) (zcc k) out)
end
mutual
def zcp : Tm → Nat
  | .mk _ _ _ ks _ => 1 + zco ks
def zco : List Tm → Nat
  | [] => 0
  | k :: r => zcp k + zco r
end
mutual
def znt : Tm → Prop
  | .mk op _ _ ks ps => ks.length ≤ 1000000 ∧ (∀ i : Nat, i < ks.length → zbg op i = false → zbr op i = true → ∃ p, ps[((i : Int) - 1).toNat]? = some p ∧ za0 p ≤ 1000000) ∧ zp7 ks
def zp7 : List Tm → Prop
  | [] => True
  | k :: r => znt k ∧ zp7 r
end
theorem zji : ∀ {l : List Tm} {t : Tm}, zp7 l → t ∈ l → znt t
  | [], _, _, h => by simp at h
  | k :: r, t, h, hm => by
    rcases List.mem_cons.1 hm with rfl | hm
    · exact h.1
    · exact zji h.2 hm
theorem zp4 : ∀ (l : List Str) (s : Str), (zp5 l s).length ≤ l.length + 1
  | [], s => by simp [zp5]
  | x :: r, s => by
    have := zp4 r s
    simp only [zp5]
    split
    · simp only [List.length_cons]; omega
    · split <;> simp
theorem zvy (b : List Str) : ∀ (l out : List Str), (ze5 b l out).length ≤ out.length + l.length
  | [], out => by simp [ze5]
  | x :: r, out => by
    simp only [ze5]
    have h1 := zvy b r (if zck b x then out else zp5 out x)
    have h2 := zp4 out x
    have h3 : (if zck b x then out else zp5 out x).length ≤ out.length + 1 := by split <;> omega
    simp only [List.length_cons]; omega
mutual
theorem zrc : ∀ t : Tm, (zcc t).length ≤ zcp t
  | .mk op n x ks ps => by
    simp only [zcc, zcp]
    split
    · simp
    · have := zrd (.mk op n x ks ps) 0 ks []
      simp at this; omega
theorem zrd (t : Tm) : ∀ (i : Nat) (ks : List Tm) (out : List Str), (zdd t i ks out).length ≤ out.length + zco ks
  | _, [], out => by simp [zdd, zco]
  | i, k :: r, out => by
    simp only [zdd, zco]
    have h1 := zrd t (i + 1) r (ze5 (zcl t i) (zcc k) out)
    have h2 := zvy (zcl t i) (zcc k) out
    have h3 := zrc k
    omega
end
theorem zwl : ∀ (t : Tm), znt t → zcp t ≤ 1000000 → zau Tryz.prog 41 [.agg (dTmc t)] (.sl (za5 (zcc t)))
  | .mk op n x ks ps, hok, hc => by
    obtain ⟨hk1, hk2, hk3⟩ := hok
    refine zaf za6 Tryz.func41 (by decide +kernel) rfl [1, 2, 3] rfl rfl ?_
    refine fg_ [] rfl (by simp) ?_
    refine zaa rfl (fun h => ?_) (fun h => ?_)
    · have e : op = 4 := by simpa using h
      have e2 : zcc (.mk op n x ks ps) = [x] := by simp [zcc, e]
      rw [e2]
      refine fd_ [] rfl (by simp) ?_
      exact zab ⟨_, rfl, tV rfl, trivial⟩
    · have e : ¬ op = 4 := by simpa using h
      have e2 : zcc (.mk op n x ks ps) = zdd (.mk op n x ks ps) 0 ks [] := by simp [zcc, e]
      rw [e2]
      refine fd_ [] rfl (by simp) ?_
      refine zah (fun y : Nat × List Str => [(4, .imm (.int .i64 y.1)), (3, .imm (.sl (za5 y.2))), (1, .ref 1 0)]) (fun _ => [(1, some (.immb 26 5 (dTmc (.mk op n x ks ps))))]) [2, 3] (fun y => ks.length - y.1)
        (fun y => y.1 ≤ ks.length ∧ zdd (.mk op n x ks ps) 0 ks [] = zdd (.mk op n x ks ps) y.1 (ks.drop y.1) y.2 ∧ y.2.length + zco (ks.drop y.1) ≤ 1000000) (0, [])
        ⟨Nat.zero_le _, rfl, by simp only [zcp] at hc; simp; omega⟩ ⟨rfl, rfl, rfl, trivial⟩ ⟨rfl, trivial⟩ rfl fun y hi ih => ?_
      obtain ⟨i, out⟩ := y
      obtain ⟨hi1, hi2, hi3⟩ := hi
      simp only at hi1 hi2 hi3
      refine fd_ [] rfl (by simp) ?_
      refine zaa rfl (fun h => ?_) (fun h => ?_)
      · simp at h
        obtain ⟨k, hk⟩ := zal h
        rw [zap hk] at hi2 hi3
        simp only [zco] at hi3
        have hkc := zrc k
        refine fd_ [] rfl (by simp) ?_
        refine fi_ rfl (c := dTmc k) (fun _ => ⟨by simp, by simpa using zbu hk, by simp⟩) (by simp) ?_
        refine fg_ [] rfl (by simp) ?_
        refine zac rfl (fun _ => zwl k (zji hk3 (List.mem_of_getElem? hk)) (by omega)) (by simp) ?_
        refine fg_ [] rfl (by simp) ?_
        refine zac rfl (fun _ => zqo op n x ks ps i (by omega) (hk2 i h)) (by simp) ?_
        refine fg_ [] rfl (by simp; rfl) ?_
        have hbnd : out.length + (zcc k).length ≤ 1000000 := by omega
        refine zah (fun z : Nat × List Str => [(7, .imm (.int .i64 z.1)), (6, .imm (.sl (za5 (zcl (.mk op n x ks ps) i)))), (5, .imm (.sl (za5 (zcc k)))), (3, .imm (.sl (za5 z.2))), (4, .imm (.int .i64 i)), (1, .ref 1 0)])
          (fun _ => [(1, some (.immb 26 5 (dTmc (.mk op n x ks ps))))]) [2, 3] (fun z => (zcc k).length - z.1)
          (fun z => z.1 ≤ (zcc k).length ∧ ze5 (zcl (.mk op n x ks ps) i) (zcc k) out = ze5 (zcl (.mk op n x ks ps) i) ((zcc k).drop z.1) z.2 ∧ z.2.length ≤ out.length + z.1) (0, out)
          ⟨Nat.zero_le _, rfl, by simp⟩ ⟨rfl, rfl, rfl, rfl, rfl, rfl, trivial⟩ ⟨rfl, trivial⟩ rfl fun z hz ihz => ?_
        obtain ⟨j, o⟩ := z
        obtain ⟨hj1, hj2, hj3⟩ := hz
        simp only at hj1 hj2 hj3
        refine fd_ [] rfl (by simp) ?_
        refine zaa rfl (fun h4 => ?_) (fun h4 => ?_)
        · simp at h4
          obtain ⟨s, hs⟩ := zal h4
          rw [zap hs] at hj2
          simp only [ze5] at hj2
          refine fd_ [] rfl (by simp) ?_
          refine fi_ rfl (c := [.str s]) (fun _ => ⟨by simp, by simpa using zcx hs, rfl⟩) (by simp) ?_
          refine fg_ [] rfl (by simp) ?_
          refine zac rfl (fun _ => zv1 (zcl (.mk op n x ks ps) i) s) (by simp) ?_
          refine fg_ [] rfl (by simp) ?_
          refine zaa rfl (fun h5 => ?_) (fun h5 => ?_)
          · have hh : zck (zcl (.mk op n x ks ps) i) s = false := by simpa using h5
            rw [hh] at hj2
            refine fd_ [] rfl (by simp) ?_
            refine fi_ rfl (c := [.str s]) (fun _ => ⟨by simp, by simpa using zcx hs, rfl⟩) (by simp) ?_
            refine fg_ [] rfl (by simp) ?_
            refine zac rfl (fun _ => yfh o s (by omega)) (by simp) ?_
            refine fg_ [] rfl (by simp) ?_
            have := zp4 o s
            exact zae (ihz (j + 1, zp5 o s) (by simp only; omega) ⟨by simp only; omega, hj2, by simp only; omega⟩) ⟨zcn (w64 (by simp only; omega) (by simp only; omega)), rfl, rfl, rfl, rfl, rfl, trivial⟩ ⟨rfl, trivial⟩ rfl
          · have hh : zck (zcl (.mk op n x ks ps) i) s = true := by simpa using h5
            rw [hh] at hj2
            refine fd_ [] rfl (by simp) ?_
            exact zae (ihz (j + 1, o) (by simp only; omega) ⟨by simp only; omega, hj2, by simp only; omega⟩) ⟨zcn (w64 (by simp only; omega) (by simp only; omega)), rfl, rfl, rfl, rfl, rfl, trivial⟩ ⟨rfl, trivial⟩ rfl
        · simp at h4
          rw [List.drop_eq_nil_of_le (by omega)] at hj2
          have hj2 : ze5 (zcl (.mk op n x ks ps) i) (zcc k) out = o := hj2
          refine zar rfl ?_
          refine fd_ [] rfl (by simp) ?_
          exact zae (ih (i + 1, o) (by simp only; omega) ⟨by simp only; omega, by simp only; rw [hi2]; simp only [zdd]; rw [hj2], by simp only; omega⟩) ⟨zcn (w64 (by omega) (by omega)), rfl, rfl, trivial⟩ ⟨rfl, trivial⟩ rfl
      · simp at h
        rw [List.drop_eq_nil_of_le (by omega)] at hi2
        refine zar rfl ?_
        refine fd_ [] rfl (by simp) ?_
        refine zab ⟨_, rfl, tV ?_, trivial⟩
        rw [hi2]; rfl
termination_by t => SizeOf.sizeOf t
decreasing_by
  all_goals
    have := List.sizeOf_lt_of_mem (List.mem_of_getElem? hk)
    simp_wf
    omega
end Go.Hk
namespace Go.Hk
mutual
theorem zt4 : ∀ (t : Ty) (l : Int), (za0 t : Int) ≤ l → 0 ≤ zce t l
  | .mk _ _ _ ps, l, h => by
    simp only [za0] at h
    simp only [zce]
    rw [if_neg (by omega)]
    exact zqr ps (l - 1) (by omega)
theorem zqr : ∀ (ts : List Ty) (l : Int), (zam ts : Int) ≤ l → 0 ≤ zcg ts l
  | [], l, h => by simpa [zcg, zam] using h
  | t :: r, l, h => by
    simp only [zam] at h
    simp only [zcg]
    rw [if_pos (by omega)]
    have h1 := zt4 t l (by omega)
    have h2 := zd3 t l h1
    exact zqr r _ (by omega)
end
theorem yhk (t : Ty) (l : Nat) : decide (0 ≤ zce t l) = decide (za0 t ≤ l) := by
  by_cases h : za0 t ≤ l
  · rw [decide_eq_true h, decide_eq_true (zt4 t l (by omega))]
  · rw [decide_eq_false h]
    refine decide_eq_false fun h1 => h ?_
    have := zd3 t l h1
    omega
theorem ylc (t : Ty) : zcw t = zct t := by
  simp only [zcw, zct]; rw [← yhk t 12, Bool.and_assoc]; rfl
theorem yew (p : Nat) (h : p ≤ 1000) : IntKind.i64.wrap (1 + (p : Int)) = 1 + (p : Int) := w64 (by omega) (by omega)
theorem yds (op n : Int) (x : Str) (k : Nat) (ps : List Ty) (hp : ps.length ≤ 1000) : zdu op n x k ps = (za9 op n x k ps.length && ps.all zct) := by
  have hc : zcw = zct := funext ylc
  have hw := yew ps.length hp
  by_cases h1 : op = 1
  · subst h1
    cases ps <;> simp [zdu, zd7, zbl, zdi, za9, za2, zbj, inI, zaz] <;> grind
  by_cases h2 : op = 2
  · subst h2
    cases ps <;> simp [zdu, zd7, zbl, zdi, za9, za2, zbj, inI, zaz] <;> grind
  by_cases h3 : op = 3
  · subst h3
    cases ps <;> simp [zdu, zd7, zbl, zdi, za9, za2, zbj, inI, zaz] <;> grind
  by_cases h4 : op = 4
  · subst h4
    cases ps <;> simp [zdu, zd7, zbl, zdi, za9, za2, zbj, inI, zaz] <;> grind
  by_cases h5 : op = 5
  · subst h5
    cases ps <;> simp [zdu, zd7, zbl, zdi, za9, za2, zbj, inI, zaz] <;> grind
  by_cases h6 : op = 6
  · subst h6
    cases ps <;> simp [zdu, zd7, zbl, zdi, za9, za2, zbj, inI, zaz] <;> grind
  by_cases h7 : op = 7
  · subst h7
    cases ps <;> simp [zdu, zd7, zbl, zdi, za9, za2, zbj, inI, zaz] <;> grind
  by_cases h8 : op = 8
  · subst h8
    cases ps <;> simp [zdu, zd7, zbl, zdi, za9, za2, zbj, inI, zaz] <;> grind
  by_cases h9 : op = 9
  · subst h9
    cases ps <;> simp [zdu, zd7, zbl, zdi, za9, za2, zbj, inI, zaz] <;> grind
  by_cases h10 : op = 10
  · subst h10
    cases ps <;> simp [zdu, zd7, zbl, zdi, za9, za2, zbj, inI, zaz] <;> grind
  by_cases h11 : op = 11
  · subst h11
    cases ps <;> simp [zdu, zd7, zbl, zdi, za9, za2, zbj, inI, zaz] <;> grind
  by_cases h12 : op = 12
  · subst h12
    cases ps <;> simp [zdu, zd7, zbl, zdi, za9, za2, zbj, inI, zaz] <;> grind
  by_cases h13 : op = 13
  · subst h13
    cases ps <;> simp [zdu, zd7, zbl, zdi, za9, za2, zbj, inI, zaz] <;> grind
  by_cases h14 : op = 14
  · subst h14
    have hk : (if (3 : Int) < k then 3 else (k : Int)) = k ↔ (k : Int) ≤ 3 := by split <;> omega
    cases ps <;> simp [zdu, zd7, zbl, zdi, za9, za2, zbj] <;> grind
  by_cases h15 : op = 15
  · subst h15
    simp only [zdu, zd7, zbl, zdi, za9, za2, zbj, inI, hc]
    simp [hw]
    grind
  by_cases h16 : op = 16
  · subst h16
    cases ps <;> simp [zdu, zd7, zbl, zdi, za9, za2, zbj, inI, zaz] <;> grind
  by_cases h17 : op = 17
  · subst h17
    cases ps <;> simp [zdu, zd7, zbl, zdi, za9, za2, zbj, inI, zaz] <;> grind
  by_cases h18 : op = 18
  · subst h18
    cases ps <;> simp [zdu, zd7, zbl, zdi, za9, za2, zbj, inI, zaz] <;> grind
  by_cases h19 : op = 19
  · subst h19
    cases ps <;> simp [zdu, zd7, zbl, zdi, za9, za2, zbj, inI, zaz] <;> grind
  by_cases h20 : op = 20
  · subst h20
    cases ps <;> simp [zdu, zd7, zbl, zdi, za9, za2, zbj, inI, zaz] <;> grind
  by_cases h21 : op = 21
  · subst h21
    cases ps <;> simp [zdu, zd7, zbl, zdi, za9, za2, zbj, inI, zaz] <;> grind
  by_cases h22 : op = 22
  · subst h22
    cases ps <;> simp [zdu, zd7, zbl, zdi, za9, za2, zbj, inI, zaz] <;> grind
  by_cases h23 : op = 23
  · subst h23
    cases ps <;> simp [zdu, zd7, zbl, zdi, za9, za2, zbj, inI, zaz] <;> grind
  by_cases h24 : op = 24
  · subst h24
    cases ps <;> simp [zdu, zd7, zbl, zdi, za9, za2, zbj, inI, zaz] <;> grind
  by_cases h25 : op = 25
  · subst h25
    cases ps <;> simp [zdu, zd7, zbl, zdi, za9, za2, zbj, inI, zaz] <;> grind
  by_cases h26 : op = 26
  · subst h26
    cases ps <;> simp [zdu, zd7, zbl, zdi, za9, za2, zbj, inI, zaz] <;> grind
  by_cases h27 : op = 27
  · subst h27
    cases ps <;> simp [zdu, zd7, zbl, zdi, za9, za2, zbj, inI, zaz] <;> grind
  by_cases h28 : op = 28
  · subst h28
    cases ps <;> simp [zdu, zd7, zbl, zdi, za9, za2, zbj, inI, zaz] <;> grind
  simp [zdu, zd7, za9, za2, h1, h2, h3, h4, h5, h6, h7, h8, h9, h10, h11, h12, h13, h14, h15, h16, h17, h18, h19, h20, h21, h22, h23, h24, h25, h26, h27, h28]
mutual
theorem zuy : ∀ (t : Tm), zh1 t = true → zgq t = zak t
  | .mk op n x ks ps, h => by
    simp only [zh1, Bool.and_eq_true, decide_eq_true_eq] at h
    simp only [zgq, zak]
    rw [yds op n x ks.length ps (by omega), zrt ks h.2]
theorem zrt : ∀ (ts : List Tm), zey ts = true → zez ts = zaq ts
  | [], _ => rfl
  | t :: r, h => by
    simp only [zey, Bool.and_eq_true] at h
    simp only [zez, zaq]
    rw [zuy t h.1, zrt r h.2]
end
theorem zog (t : Tm) (h : zgb t = true) : zeg t = zbc t := by
  simp only [zgb, Bool.and_eq_true] at h
  simp only [zeg, zbc]
  rw [zuy t h.2]
end Go.Hk
namespace Go.Hk
open Go.Proofs
def ymk (l m : List Str) : Bool := decide (l = m)
theorem zpk (l m : List Str) : zau Tryz.prog 22 [.sl (za5 l), .sl (za5 m)] (.bool (ymk l m)) := by
  refine zdp fun hv => ?_
  simp [zk9, vOk, maxLen] at hv
  refine zaf zb9 Tryz.func22 (by decide +kernel) rfl [1, 2] rfl rfl ?_
  refine kg [] rfl (by simp) ?_
  refine zaa rfl (fun h => ?_) (fun h => ?_)
  · refine kd [] rfl (by simp) ?_
    refine zab ⟨_, rfl, tV (congrArg _ ?_), trivial⟩
    simp at h
    simp only [ymk]
    symm
    rw [decide_eq_false_iff_not]
    exact fun e => h (by rw [e])
  simp at h
  refine kd [] rfl (by simp) ?_
  refine zah (fun i : Nat => [(5, .imm (.int .i64 i)), (0, .imm (.sl (za5 l))), (1, .imm (.sl (za5 m)))]) (fun _ => []) [1] (fun i => l.length - i) (fun i => i ≤ l.length ∧ l.take i = m.take i) 0
    ⟨Nat.zero_le _, rfl⟩ ⟨rfl, rfl, rfl, trivial⟩ trivial rfl fun i hi ih => ?_
  refine kd [] rfl (by simp) ?_
  refine zaa rfl (fun h1 => ?_) (fun h1 => ?_)
  · simp at h1
    obtain ⟨s, hs⟩ := zal h1
    obtain ⟨u, hu⟩ := zal (l := m) (i := i) (by omega)
    refine kd [] rfl (by simp) ?_
    refine ki rfl (c := [.str s]) (fun _ => ⟨by simp, by simpa using zcx hs, rfl⟩) (by simp) ?_
    refine kg [] rfl (by simp) ?_
    refine ki rfl (c := [.str u]) (fun _ => ⟨by simp, by simpa using zcx hu, rfl⟩) (by simp) ?_
    refine kg [] rfl (by simp; rfl) ?_
    refine zaa rfl (fun h2 => ?_) (fun h2 => ?_)
    · refine kd [] rfl (by simp) ?_
      refine zab ⟨_, rfl, tV (congrArg _ ?_), trivial⟩
      simp only [ymk]
      symm
      rw [decide_eq_false_iff_not]
      intro e
      rw [e, hu] at hs
      cases hs
      simp at h2
    · refine kd [] rfl (by simp) ?_
      have e : s = u := by simpa using h2
      refine zae (ih (i + 1) (by omega) ⟨by omega, by rw [zbk hs, zbk hu, hi.2, e]⟩) ⟨zcn (w64 (by omega) (by omega)), rfl, rfl, trivial⟩ trivial rfl
  · refine kd [] rfl (by simp) ?_
    refine zab ⟨_, rfl, tV (congrArg _ ?_), trivial⟩
    simp at h1
    have := hi.2
    rw [List.take_of_length_le (by omega), List.take_of_length_le (by omega)] at this
    simp [ymk, this]
mutual
theorem zy2 : ∀ t : Ty, (zb2 t).length ≤ za0 t
  | .mk s n x ps => by
    have := zun ps
    simp only [zb2, za0, List.length_append]
    split <;> simp <;> omega
theorem zun : ∀ ts : List Ty, (zbd ts).length ≤ zam ts
  | [] => by simp [zbd]
  | t :: r => by
    have h1 := zy2 t
    have h2 := zun r
    simp only [zbd, zam, List.length_append]; omega
end
mutual
theorem zgm : ∀ t : Ty, zca t = true → (zb2 t).map zew = za1 t
  | .mk s n x ps, h => by
    simp only [zca, Bool.and_eq_true] at h
    have h2 := zuo ps h.2
    simp only [zb2, za1, List.map_append, h2]
    by_cases hs : s = 2
    · have h1 := h.1
      simp [zh6, hs] at h1
      have : ps = [] := by
        cases ps with
        | nil => rfl
        | cons => simp at h1
      subst this
      simp [hs, zew, zav]
    · simp [hs]
theorem zuo : ∀ ts : List Ty, zbq ts = true → (zbd ts).map zew = zav ts
  | [], _ => rfl
  | t :: r, h => by
    simp only [zbq, Bool.and_eq_true] at h
    simp only [zbd, zav, List.map_append, zgm t h.1, zuo r h.2]
end
theorem ycg (op n : Int) (x : Str) (ks : List Tm) (ps : List Ty) (kid : Int) (h : ∀ p ∈ ps, zca p = true) : zad (.mk op n x ks ps) kid = zcl (.mk op n x ks ps) kid := by
  show (if zbg op kid then [x] else if zbr op kid then (match ps[(kid - 1).toNat]? with | some p => za3 p | none => []) else []) = (if zbg op kid then [x] else if zbr op kid then (match ps[(kid - 1).toNat]? with | some p => za1 p | none => []) else [])
  cases hp : ps[(kid - 1).toNat]? with
  | none => rfl
  | some p => simp only [za3, zgm p (h p (List.mem_of_getElem? hp))]
theorem ydd (l : List Str) (s x : Str) : x ∈ zp5 l s ↔ x = s ∨ x ∈ l := by
  induction l with
  | nil => simp [zp5]
  | cons y r ih =>
    simp only [zp5]
    split
    · simp only [List.mem_cons, ih]
      constructor
      · rintro (h | h | h)
        · exact .inr (.inl h)
        · exact .inl h
        · exact .inr (.inr h)
      · rintro (h | h | h)
        · exact .inr (.inl h)
        · exact .inl h
        · exact .inr (.inr h)
    · split
      · rename_i h
        have e : y = s := by simpa using h
        subst e
        simp only [List.mem_cons]
        constructor
        · intro h; exact .inr h
        · rintro (h | h)
          · exact .inl h
          · exact h
      · simp only [List.mem_cons]
theorem zvx (b : List Str) (x : Str) : ∀ (l out : List Str), x ∈ ze5 b l out ↔ x ∈ out ∨ (x ∈ l ∧ zck b x = false)
  | [], out => by simp [ze5]
  | y :: r, out => by
    simp only [ze5]
    rw [zvx b x r]
    cases h : zck b y with
    | true =>
      simp only [if_true, List.mem_cons]
      constructor
      · rintro (h1 | ⟨h1, h2⟩)
        · exact .inl h1
        · exact .inr ⟨.inr h1, h2⟩
      · rintro (h1 | ⟨h1 | h1, h2⟩)
        · exact .inl h1
        · subst h1; rw [h] at h2; cases h2
        · exact .inr ⟨h1, h2⟩
    | false =>
      simp only [Bool.false_eq_true, if_false, ydd, List.mem_cons]
      constructor
      · rintro ((h1 | h1) | ⟨h1, h2⟩)
        · subst h1; exact .inr ⟨.inl rfl, h⟩
        · exact .inl h1
        · exact .inr ⟨.inr h1, h2⟩
      · rintro (h1 | ⟨h1 | h1, h2⟩)
        · exact .inl (.inr h1)
        · exact .inl (.inl h1)
        · exact .inr ⟨h1, h2⟩
mutual
def inT : Tm → Str → Prop
  | .mk op n x ks ps, y => if op = 4 then y = x else yo4 (.mk op n x ks ps) 0 ks y
def yo4 (t : Tm) : Nat → List Tm → Str → Prop
  | _, [], _ => False
  | i, k :: r, y => (inT k y ∧ zck (zcl t i) y = false) ∨ yo4 t (i + 1) r y
end
mutual
theorem ydb : ∀ (t : Tm) (y : Str), y ∈ zcc t ↔ inT t y
  | .mk op n x ks ps, y => by
    simp only [zcc, inT]
    split
    · simp
    · rw [zui (.mk op n x ks ps) 0 ks [] y]; simp
theorem zui (t : Tm) : ∀ (i : Nat) (ks : List Tm) (out : List Str) (y : Str), y ∈ zdd t i ks out ↔ y ∈ out ∨ yo4 t i ks y
  | _, [], out, y => by simp [zdd, yo4]
  | i, k :: r, out, y => by
    simp only [zdd, yo4]
    rw [zui t (i + 1) r _ y, zvx, ydb k y]
    constructor
    · rintro ((h | h) | h)
      · exact .inl h
      · exact .inr (.inl h)
      · exact .inr (.inr h)
    · rintro (h | h | h)
      · exact .inl (.inl h)
      · exact .inl (.inr h)
      · exact .inr h
end
theorem zdy {l : List Str} {s : Str} : zck l s = true ↔ s ∈ l := by
  induction l with
  | nil => simp [zck]
  | cons x r ih =>
    simp only [zck, Bool.or_eq_true, beq_iff_eq, List.mem_cons, ih]
    constructor
    · rintro (h | h)
      · exact .inl h.symm
      · exact .inr h
    · rintro (h | h)
      · exact .inl h.symm
      · exact .inr h
theorem yof (m : List Str) (x y : Str) : y ∈ zl0 m x ↔ y ∈ m ∨ y = x := by
  rw [← zdy, yd2, zdy]; simp
theorem ynm (a s : List Str) (y : Str) : zck (a.reverse ++ s) y = (zck a y || zck s y) := by
  rw [Bool.eq_iff_iff, Bool.or_eq_true, zdy, zdy, zdy]; simp
mutual
def znu : Tm → Prop
  | .mk _ _ _ ks ps => (∀ p ∈ ps, zca p = true) ∧ zp8 ks
def zp8 : List Tm → Prop
  | [] => True
  | k :: r => znu k ∧ zp8 r
end
mutual
theorem yd7 : ∀ (t : Tm) (s m : List Str) (y : Str), znu t → (y ∈ zeb t s m ↔ y ∈ m ∨ (inT t y ∧ zck s y = false))
  | .mk op n x ks ps, s, m, y, h => by
    simp only [zeb, inT]
    split
    · cases hs : zck s x with
      | true =>
        simp only [if_true]
        constructor
        · exact .inl
        · rintro (h1 | ⟨h1, h2⟩)
          · exact h1
          · subst h1; rw [hs] at h2; cases h2
      | false =>
        simp only [Bool.false_eq_true, if_false, yof]
        constructor
        · rintro (h1 | h1)
          · exact .inl h1
          · subst h1; exact .inr ⟨rfl, hs⟩
        · rintro (h1 | ⟨h1, _⟩)
          · exact .inl h1
          · exact .inr h1
    · exact zzs op n x ks ps h.1 0 ks s m y h.2
theorem zzs (op n : Int) (x : Str) (ks0 : List Tm) (ps : List Ty) (hp : ∀ p ∈ ps, zca p = true) : ∀ (i : Nat) (ks : List Tm) (s m : List Str) (y : Str), zp8 ks →
    (y ∈ zfl (.mk op n x ks0 ps) i ks s m ↔ y ∈ m ∨ (yo4 (.mk op n x ks0 ps) i ks y ∧ zck s y = false))
  | _, [], s, m, y, _ => by simp [zfl, yo4]
  | i, k :: r, s, m, y, h => by
    simp only [zfl, yo4]
    rw [zzs op n x ks0 ps hp (i + 1) r s _ y h.2, yd7 k _ m y h.1, ynm, ycg op n x ks0 ps i hp]
    cases h1 : zck (zcl (.mk op n x ks0 ps) i) y <;> cases h2 : zck s y <;> simp [h1, h2, or_assoc]
end
theorem ypo {a b : Str} (h : ¬ a < b) (hne : a ≠ b) : b < a := by
  have h1 : b ≤ a := List.not_lt.1 h
  rcases Std.le_iff_lt_or_eq.1 h1 with h2 | h2
  · exact h2
  · exact absurd h2.symm hne
theorem zri : ∀ (l : List Str) (s : Str), l.Pairwise (· < ·) → (zp5 l s).Pairwise (· < ·)
  | [], s, _ => by simp [zp5]
  | y :: r, s, h => by
    obtain ⟨h1, h2⟩ := List.pairwise_cons.1 h
    simp only [zp5, _root_.Go.Proofs.bytesLess_eq]
    by_cases hl : y < s
    · simp only [hl, decide_true, if_true]
      refine List.pairwise_cons.2 ⟨fun z hz => ?_, zri r s h2⟩
      rcases (ydd r s z).1 hz with h | h
      · rw [h]; exact hl
      · exact h1 z h
    · simp only [hl, decide_false, Bool.false_eq_true, if_false]
      by_cases he : y = s
      · subst he; simp only [beq_self_eq_true, if_true]; exact h
      · have : (y == s) = false := by simpa using he
        simp only [this, Bool.false_eq_true, if_false]
        have hs := ypo hl he
        refine List.pairwise_cons.2 ⟨fun z hz => ?_, h⟩
        rcases List.mem_cons.1 hz with h3 | h3
        · rw [h3]; exact hs
        · exact List.lt_trans hs (h1 z h3)
theorem znf (b : List Str) : ∀ (l out : List Str), out.Pairwise (· < ·) → (ze5 b l out).Pairwise (· < ·)
  | [], _, h => h
  | y :: r, out, h => by
    simp only [ze5]
    refine znf b r _ ?_
    split
    · exact h
    · exact zri out y h
theorem zkx (t : Tm) : ∀ (i : Nat) (ks : List Tm) (out : List Str), out.Pairwise (· < ·) → (zdd t i ks out).Pairwise (· < ·)
  | _, [], _, h => by simpa [zdd] using h
  | i, k :: r, out, h => by
    simp only [zdd]
    exact zkx t (i + 1) r _ (znf _ _ _ h)
theorem zyv : ∀ t : Tm, (zcc t).Pairwise (· < ·)
  | .mk op n x ks ps => by
    simp only [zcc]
    split
    · simp
    · exact zkx _ 0 ks [] .nil
theorem zl8 : ∀ (a b : List Str), a.Pairwise (· < ·) → b.Pairwise (· < ·) → (∀ x, x ∈ a ↔ x ∈ b) → a = b
  | [], [], _, _, _ => rfl
  | [], y :: r, _, _, h => by have := (h y).2 (by simp); simp at this
  | x :: r, [], _, _, h => by have := (h x).1 (by simp); simp at this
  | x :: r, y :: t, ha, hb, h => by
    obtain ⟨a1, a2⟩ := List.pairwise_cons.1 ha
    obtain ⟨b1, b2⟩ := List.pairwise_cons.1 hb
    have e : x = y := by
      have hx := (h x).1 (by simp)
      have hy := (h y).2 (by simp)
      rcases List.mem_cons.1 hx with h1 | h1
      · exact h1
      · rcases List.mem_cons.1 hy with h2 | h2
        · exact h2.symm
        · exact absurd (List.lt_trans (b1 x h1) (a1 y h2)) (List.lt_irrefl _)
    subst e
    have : r = t := zl8 r t a2 b2 fun z => by
      constructor
      · intro hz
        rcases List.mem_cons.1 ((h z).1 (by simp [hz])) with h1 | h1
        · subst h1; exact absurd (a1 z hz) (List.lt_irrefl _)
        · exact h1
      · intro hz
        rcases List.mem_cons.1 ((h z).2 (by simp [hz])) with h1 | h1
        · subst h1; exact absurd (b1 z hz) (List.lt_irrefl _)
        · exact h1
    rw [this]
theorem zzf (l : List Str) (h : l.Nodup) : (l.mergeSort (fun x y => decide (x ≤ y))).Pairwise (· < ·) := by
  have h1 : (l.mergeSort (fun x y => decide (x ≤ y))).Pairwise (fun a b => decide (a ≤ b) = true) := List.pairwise_mergeSort (fun a b c hab hbc => by simp only [decide_eq_true_eq] at *; exact List.le_trans hab hbc) (fun a b => by simp only [Bool.or_eq_true, decide_eq_true_eq]; exact List.le_total a b) l
  have h2 : (l.mergeSort (fun x y => decide (x ≤ y))).Nodup := (List.mergeSort_perm l _).nodup_iff.2 h
  refine (h1.and h2).imp fun {a b} hab => ?_
  have h3 : a ≤ b := by simpa using hab.1
  rcases Std.le_iff_lt_or_eq.1 h3 with h4 | h4
  · exact h4
  · exact absurd h4 hab.2
theorem yg4 {m : List Str} (h : m.Nodup) (x : Str) : (zl0 m x).Nodup := by
  unfold zl0
  split
  · exact h
  · rename_i hs
    have : x ∉ m := fun hm => hs (zdy.2 hm)
    refine List.nodup_append.2 ⟨h, by simp, fun a ha b hb => ?_⟩
    simp at hb
    subst hb
    exact fun e => this (e ▸ ha)
mutual
theorem zso : ∀ (t : Tm) (s m : List Str), m.Nodup → (zeb t s m).Nodup
  | .mk op n x ks ps, s, m, h => by
    simp only [zeb]
    split
    · split
      · exact h
      · exact yg4 h x
    · exact zpc _ 0 ks s m h
theorem zpc (t : Tm) : ∀ (i : Nat) (ks : List Tm) (s m : List Str), m.Nodup → (zfl t i ks s m).Nodup
  | _, [], _, _, h => by simpa [zfl] using h
  | i, k :: r, s, m, h => by
    simp only [zfl]
    exact zpc t (i + 1) r s _ (zso k _ m h)
end
theorem zw0 (t : Tm) (h : znu t) : (zeb t [] []).mergeSort (fun x y => decide (x ≤ y)) = zcc t :=
  zl8 _ _ (zzf _ (zso t [] [] .nil)) (zyv t) fun x => by
    rw [List.mem_mergeSort, yd7 t [] [] x h, ydb]; simp [zck]
mutual
theorem zmm : ∀ t : Tm, zak t = true → znu t
  | .mk op n x ks ps, h => by
    simp only [zak, Bool.and_eq_true] at h
    simp only [znu]
    refine ⟨fun p hp => ?_, zky ks h.2⟩
    have h1 : ps.all zct = true := by
      first
        | exact h.1.2
        | exact h.1.1
    have h2 := List.all_eq_true.1 h1 p hp
    simp only [zct, Bool.and_eq_true] at h2
    exact h2.1.2
theorem zky : ∀ ts : List Tm, zaq ts = true → zp8 ts
  | [], _ => trivial
  | t :: r, h => by
    simp only [zaq, Bool.and_eq_true] at h
    exact ⟨zmm t h.1, zky r h.2⟩
end
theorem zoe (t : Tm) : 1 ≤ zcp t := by obtain ⟨_, _, _, _, _⟩ := t; simp [zcp]
theorem zsd : ∀ ks : List Tm, ks.length ≤ zco ks
  | [] => by simp [zco]
  | k :: r => by have := zsd r; have := zoe k; simp only [List.length_cons, zco]; omega
theorem zrm {p : Ty} (h : zct p = true) : za0 p ≤ 12 := by
  simp only [zct, Bool.and_eq_true, decide_eq_true_eq] at h
  have := zd3 p 12 h.1.1
  omega
theorem znw {op n : Int} {x : Str} {k p : Nat} (h : za9 op n x k p = true) {i : Nat} (hp : zbr op i = true) (hi : i < k) : ((i : Int) - 1).toNat < p := by
  simp only [zbr, Bool.and_eq_true, beq_iff_eq, decide_eq_true_eq] at hp
  obtain ⟨rfl, h0⟩ := hp
  simp [za9] at h
  omega
mutual
theorem zh9 : ∀ t : Tm, zak t = true → zcp t ≤ 1000000 → znt t ∧ zfx t
  | .mk op n x ks ps, h, hc => by
    simp only [zak, Bool.and_eq_true] at h
    obtain ⟨⟨h1, h2⟩, h3⟩ := h
    simp only [zcp] at hc
    have hl := zsd ks
    obtain ⟨q1, q2⟩ := zo3 ks h3 (by omega)
    have get : ∀ i : Nat, i < ks.length → zbr op i = true → ∃ p, ps[((i : Int) - 1).toNat]? = some p ∧ za0 p ≤ 12 := fun i hi hp => by
      have hlt := znw h1 hp hi
      exact ⟨ps[((i : Int) - 1).toNat], by simp [hlt], zrm (List.all_eq_true.1 h2 _ (by simp))⟩
    refine ⟨⟨by omega, fun i hi _ hp => ?_, q1⟩, ⟨by omega, fun i hi _ hp => ?_, q2⟩⟩
    · obtain ⟨p, e1, e2⟩ := get i hi hp
      exact ⟨p, e1, by omega⟩
    · obtain ⟨p, e1, e2⟩ := get i hi hp
      have := zy2 p
      exact ⟨p, e1, by simp only [za3, List.length_map]; omega⟩
theorem zo3 : ∀ ts : List Tm, zaq ts = true → zco ts ≤ 1000000 → zp7 ts ∧ zlj ts
  | [], _, _ => ⟨trivial, trivial⟩
  | t :: r, h, hc => by
    simp only [zaq, Bool.and_eq_true] at h
    simp only [zco] at hc
    obtain ⟨a1, a2⟩ := zh9 t h.1 (by omega)
    obtain ⟨b1, b2⟩ := zo3 r h.2 (by omega)
    exact ⟨⟨a1, b1⟩, ⟨a2, b2⟩⟩
end
mutual
theorem zxx : ∀ (t : Tm) (l d : Int), 0 ≤ za8 t l d → za8 t l d + zcp t ≤ l
  | .mk _ _ _ ks _, l, d, h => by
    simp only [za8] at h ⊢
    by_cases h0 : l < 1 ∨ d < 1
    · rw [if_pos h0] at h; omega
    · rw [if_neg h0] at h ⊢
      have := zt3 ks (l - 1) (d - 1) h
      simp only [zcp]; omega
theorem zt3 : ∀ (ts : List Tm) (l d : Int), 0 ≤ zbi ts l d → zbi ts l d + zco ts ≤ l
  | [], l, _, h => by simp [zbi, zco]
  | t :: r, l, d, h => by
    simp only [zbi] at h ⊢
    by_cases h0 : 0 ≤ l
    · rw [if_pos h0] at h ⊢
      have h1 := zt3 r (za8 t l d) d h
      by_cases h2 : 0 ≤ za8 t l d
      · have := zxx t l d h2
        simp only [zco]; omega
      · have := (zk8 r (za8 t l d) d (zhh t l d).1).2
        omega
    · rw [if_neg h0] at h; omega
end
theorem zc0 (t : Tm) (h : zbc t = true) : znu t ∧ zfx t ∧ znt t ∧ zcp t ≤ 60 := by
  simp only [zbc, Bool.and_eq_true, decide_eq_true_eq] at h
  have hc := zxx t 60 14 h.1
  have hc2 : zcp t ≤ 60 := by omega
  obtain ⟨a, b⟩ := zh9 t h.2 (by omega)
  exact ⟨zmm t h.2, b, a, hc2⟩
end Go.Hk
namespace Go.Hk
theorem zh2 {α : Type} {sz f : Nat} {ys : List α} : ∀ (es : List (List α)) (k : Nat) (c : List α), (∀ e ∈ es, e.length = sz) → es[k]? = some c → f + ys.length ≤ sz →
    (es.set k (c.take f ++ ys ++ c.drop (f + ys.length))).flatten = es.flatten.take (k * sz + f) ++ ys ++ es.flatten.drop (k * sz + f + ys.length)
  | [], _, _, _, h, _ => by simp at h
  | e :: r, 0, c, hs, h, hf => by
    simp at h; subst h
    have he := hs e (by simp)
    simp only [List.set_cons_zero, List.flatten_cons, Nat.zero_mul, Nat.zero_add]
    rw [List.take_append_of_le_length (by omega), List.drop_append_of_le_length (by omega)]
    simp
  | e :: r, k + 1, c, hs, h, hf => by
    have he := hs e (by simp)
    have ih := zh2 r k c (fun e h => hs e (by simp [h])) (by simpa using h) hf
    simp only [List.set_cons_succ, List.flatten_cons, ih]
    have e1 : (k + 1) * sz + f = e.length + (k * sz + f) := by rw [he, Nat.succ_mul]; omega
    rw [e1, Nat.add_assoc e.length, List.take_length_add_append, List.drop_length_add_append]
    simp
theorem RepVL.splice {I : Imm} {vs ns : List Value} {xs ys : List V} (h : RepVL I vs xs) (k : RepVL I ns ys) (off : Nat) : RepVL I (vs.take off ++ ns ++ vs.drop (off + ns.length)) (xs.take off ++ ys ++ xs.drop (off + ys.length)) := by
  have app : ∀ {a b : List Value} {x y : List V}, RepVL I a x → RepVL I b y → RepVL I (a ++ b) (x ++ y) := fun {a b x y} p q =>
    ⟨by simp [p.1, q.1], fun i v z h1 h2 => by
      rw [List.getElem?_append] at h1 h2
      by_cases hi : i < a.length
      · rw [if_pos hi] at h1; rw [if_pos (by rw [← p.1]; exact hi)] at h2; exact p.2 i v z h1 h2
      · rw [if_neg hi] at h1; rw [if_neg (by rw [← p.1]; exact hi), ← p.1] at h2; exact q.2 _ v z h1 h2⟩
  refine app (app ⟨by simp [h.1], fun i v z h1 h2 => ?_⟩ k) ⟨by simp [h.1, k.1], fun i v z h1 h2 => ?_⟩
  · rw [List.getElem?_take] at h1 h2
    by_cases hi : i < off
    · rw [if_pos hi] at h1 h2; exact h.2 i v z h1 h2
    · rw [if_neg hi] at h1; cases h1
  · rw [List.getElem?_drop] at h1 h2
    rw [k.1] at h1
    exact h.2 _ v z h1 h2
structure POi where
  id : Nat
  es : List (List V)
  m : Int
  sz : Nat
  g : Option (Bool × Bool)
  ob : List Prop
  t : Nat
  todo : List DI
def poidx (tt : TT) (n : Nat) (env : Env) (st : St) (todo : List DI) : Option POi :=
  match zcr todo ([], []) with
  | some (all, o, _) => match o.op, zea all env o with
    | .indexAddr t x i, some g => match lk tt t, ycq (zag g) env x, ycq (zag g) env i with
      | some { sh := .sl e, .. }, some (.own id _, o1), some (.imm (.int _ m), o2) => match lk tt e, lk st id, o.dst, zdg n o.dst, zcr todo ([id], []) with
        | some ti, some (some (.row _ sz es)), some t', true, some (_, _, todo') => match Nat.beq sz ti.size with
          | true => some ⟨id, es, m, sz, g, cat o1 o2, t', todo'⟩
          | false => none
        | _, _, _, _, _ => none
      | _, _, _ => none
    | _, _ => none
  | none => none
structure POl where
  id : Nat
  es : List (List V)
  k : Nat
  f : Nat
  sz : Nat
  i : TyI
  g : Option (Bool × Bool)
  ob : List Prop
  t : Nat
  todo : List DI
def yox (tt : TT) (n : Nat) (env : Env) (st : St) (todo : List DI) : Option POl :=
  match zcr todo ([], []) with
  | some (all, o, _) => match o.op, zea all env o with
    | .load t x, some g => match lk tt t, ycq (zag g) env x with
      | some i, some (.elp id k sz f, o1) => match lk st id, o.dst, zdg n o.dst, zcr todo ([id], []) with
        | some (some (.row _ sz' es)), some t', true, some (_, _, todo') => match Nat.beq sz sz' with
          | true => some ⟨id, es, k, f, sz, i, g, o1, t', todo'⟩
          | false => none
        | _, _, _, _ => none
      | _, _ => none
    | _, _ => none
  | none => none
structure POs where
  id : Nat
  e : TypeId
  es : List (List V)
  k : Nat
  f : Nat
  sz : Nat
  ys : List V
  n : Nat
  ob : List Prop
  todo : List DI
def yi1 (tt : TT) (env : Env) (st : St) (todo : List DI) : Option POs :=
  match zcr todo ([], []) with
  | some (_, o, _) => match o.guard, o.dst, o.op with
    | none, none, .store t p x => match lk tt t, evO env p, evO env x with
      | some i, some (.elp id k sz f), some dx => match lk st id, zcr todo ([id], [id]), elemOf i.size dx with
        | some (some (.row e sz' es)), some (_, _, todo'), some (ys, ob) => match Nat.beq sz sz' with
          | true => some ⟨id, e, es, k, f, sz, ys, i.size, ob, todo'⟩
          | false => none
        | _, _, _ => none
      | _, _, _ => none
    | _, _, _ => none
  | none => none
section
variable {P : Program} {n : Nat} {F : List Nat} {Q : DQ} {tt : TT} {env env' : Env} {st st' : St} {ids ids' : List Nat} {k todo todo' : List DI} {I : Imm} {μ : Mu} {w : World} {a : Act} {Pn : V → Prop} {d : D} {cx : Prop} {ob : List Prop}
theorem zny {f f' : List Nat × List Nat} {all all' : List Oper} {o o' : Oper} (h : zcr todo f = some (all, o, k)) (h' : zcr todo f' = some (all', o', todo')) : all' = all ∧ o' = o := by
  rcases zmo h with ⟨r, q, rfl, _⟩ | ⟨r, fs, q, rfl, _⟩
  · simp [zcr] at h'; exact ⟨h'.1.symm, h'.2.1.symm⟩
  · simp [zcr] at h'; exact ⟨h'.1.symm, h'.2.1.symm⟩
theorem zyr {id : Nat} {e : TypeId} {sz : Nat} {es : List (List V)} (hst : StRep I μ st ids w) (hl : zat st id (.row e sz es)) (hne : es ≠ []) :
    ∃ b cap cur, μ id = some (.slice (some ⟨b, 0, none⟩) es.length cap) ∧ w.heap[b]? = some (.cells cur e (0, 0)) ∧ es.length ≤ cap ∧ cap ≤ maxLen ∧ cur.size = cap * sz ∧
      RepVL I (cur.toList.take (es.length * sz)) es.flatten ∧ (∀ c ∈ es, c.length = sz) ∧ (∀ c ∈ es, ∀ x ∈ c, V.one x = true) ∧ 0 < sz := by
  obtain ⟨g, hg, xs, ⟨_, hown⟩, hrep, hsz, hone, hp⟩ := hst.blk id _ hl
  rcases hown with ⟨_, h0⟩ | ⟨b, cap, cur, rfl, _, h2, h3, h4, h5, h6⟩
  · exact absurd (List.eq_nil_of_length_eq_zero h0) hne
  · rw [← h6] at hrep
    exact ⟨b, cap, cur, hg, h2, h3, h4, h5, hrep, hsz, hone, hp⟩
theorem zda (htt : TTok P tt) {c : POi} (h : poidx tt n env st todo = some c) (hc : zag c.g → 0 ≤ c.m ∧ c.m < c.es.length) (hob : zb7 c.ob)
    (hk : G P n F Q c.todo ((c.t, gD c.g (.elp c.id c.m.toNat c.sz 0)) :: env) st ids) : G P n F Q todo env st ids := by
  unfold poidx at h
  split at h
  · rename_i all o todo0 h0
    split at h
    · rename_i t x i g hop hg
      split at h
      · rename_i e _ _ _ _ id ln o1 kk m o2 ht hx hi
        split at h
        · rename_i ti e' sz es t' all' o' todo' hti hl hdst hd h1
          split at h
          · rename_i hsz
            cases h
            obtain ⟨rfl, rfl⟩ := zny h0 h1
            have hk : G P n F Q todo' (zei o'.dst (gD g (.elp id m.toNat sz 0)) env) st ids := by rw [hdst]; exact hk
            refine zc5 (fr := []) (wr := []) (rd := [id]) h1 (zep hg fun I μ st1 ids1 a w hag hst hops hcx => ?_) (by rw [hdst] at hd ⊢; exact hd) (fun c hc => by rw [hop] at hc; cases hc) hk
            rw [hop] at hops
            obtain ⟨ho1, ho2⟩ := zbh hob
            have rx := zd4 hx ho1 hcx (hops x (by simp [Op.operands]))
            have ri := (zd4 hi ho2 hcx (hops i (by simp [Op.operands]))).immInv.intInv
            obtain ⟨c0, c1⟩ := hc hcx
            simp only at c0 c1
            have hl1 : zat st1 id (.row e' sz es) := by unfold zat; rw [hag id (by simp)]; exact hl
            obtain ⟨b, cap, cur, hmu, hheap, hcap, hcm, hcs, hrep, hlen, hone, hp⟩ := zyr hst hl1 (by rintro rfl; simp at c1; omega)
            have hs := Nat.eq_of_beq_eq_true hsz
            subst hs
            have hu : P.underlying t = some (.slice e) := htt.sh ht
            simp only [execOp, hop, ri]
            generalize hv : a.eval x = v at rx
            cases rx with
            | own _ _ ad cp hm =>
              rw [hm] at hmu; cases hmu
              have hr := zsg (w := w) hu (htt e ti hti) (b := b) (off := 0) (len := es.length) (cap := cap) (kk := kk) c0 (by omega)
              have hrun : (do pure (.value (← Instr.indexAt t (.slice (some ⟨b, 0, none⟩) es.length cap) (.int kk m))) : Sem Next).run P w = .ok (.value (.pointer (some ⟨b, 0 + m.toNat * ti.size, none⟩))) w := zao hr
              rw [hrun, Nat.zero_add]
              exact ⟨I, μ, hst, .elp b id _ cap m.toNat ti.size 0 hm, Mu.le_refl μ, Ext.refl _ _ _ _⟩
          · cases h
        · cases h
      · cases h
    · cases h
  · cases h
theorem zhe (htt : TTok P tt) {c : POl} {e : List V} {d : D} (h : yox tt n env st todo = some c) (hc : zag c.g → c.es[c.k]? = some e) (hd : zwt c.i (Nat.beq c.sz c.i.size) e c.f = some d) (hob : zb7 c.ob)
    (hk : G P n F Q c.todo ((c.t, gD c.g d) :: env) st ids) : G P n F Q todo env st ids := by
  unfold yox at h
  split at h
  · rename_i all o todo0 h0
    split at h
    · rename_i t x g hop hg
      split at h
      · rename_i i id kk sz f o1 ht hx
        split at h
        · rename_i e' sz' es t' all' o' todo' hl hdst hd' h1
          split at h
          · rename_i hsz
            cases h
            obtain ⟨rfl, rfl⟩ := zny h0 h1
            have hk : G P n F Q todo' (zei o'.dst (gD g d) env) st ids := by rw [hdst]; exact hk
            refine zc5 (fr := []) (wr := []) (rd := [id]) h1 (zep hg fun I μ st1 ids1 a w hag hst hops hcx => ?_) (by rw [hdst] at hd' ⊢; exact hd') (fun c hc => by rw [hop] at hc; cases hc) hk
            rw [hop] at hops
            have rx := zd4 hx hob hcx (hops x (by simp [Op.operands]))
            have c1 := hc hcx
            simp only at c1
            have hs := Nat.eq_of_beq_eq_true hsz
            subst hs
            have hl1 : zat st1 id (.row e' sz es) := by unfold zat; rw [hag id (by simp)]; exact hl
            obtain ⟨b, cap, cur, hmu, hheap, hcap, hcm, hcs, hrep, hlen, hone, hp⟩ := zyr hst hl1 (by rintro rfl; simp at c1)
            have he := hlen e (List.mem_of_getElem? c1)
            simp only [execOp, hop]
            generalize hv : a.eval x = v at rx
            cases rx with
            | elp _ _ ln cp _ _ _ hm =>
              rw [hm] at hmu; cases hmu
              have hcell : ∀ j y, e[j]? = some y → ∃ u, cur[kk * sz + j]? = some u ∧ RepV I u y ∧ u.oneCell' = true := by
                intro j y hj
                have h1 := zd0 hlen kk e j y c1 hj
                have hlt : kk * sz + j < (cur.toList.take (es.length * sz)).length := by rw [hrep.1]; exact (List.getElem?_eq_some_iff.1 h1).1
                have h2 := List.getElem?_eq_getElem hlt
                have h3 := hrep.2 _ _ _ h2 h1
                refine ⟨_, ?_, h3, h3.one (hone e (List.mem_of_getElem? c1) y (List.mem_of_getElem? hj))⟩
                rw [List.getElem?_take] at h2
                split at h2
                · simp
                · cases h2
              obtain ⟨u, q1, q2⟩ := zqd (P := P) (w := w) (I := I) (μ := μ) (htt t i ht) (b := b) (o := kk * sz) (off := f) (xs := e) (vs := fun j => (cur[kk * sz + j]?).getD undef) (same := Nat.beq sz i.size)
                (fun j y hj => by
                  obtain ⟨u, k1, k2, k3⟩ := hcell j y hj
                  refine ⟨?_, by simp [k1, k3]⟩
                  rw [zeq hheap (kk * sz + j) u (by simpa using k1)]
                  simp [k1])
                (fun j y hj => by
                  obtain ⟨u, k1, k2, k3⟩ := hcell j y hj
                  simpa [k1] using k2)
                (fun _ hs _ => by rw [he]; exact Nat.eq_of_beq_eq_true hs) hd
              have hrun : (do pure (.value (← Instr.loadAt t (.pointer (some ⟨b, kk * sz + f, none⟩)))) : Sem Next).run P w = .ok (.value u) w := zao q1
              rw [hrun]
              exact ⟨I, μ, hst, q2, Mu.le_refl μ, Ext.refl _ _ _ _⟩
          · cases h
        · cases h
      · cases h
    · cases h
  · cases h
theorem zqi (htt : TTok P tt) {c : POs} {e e' : List V} (h : yi1 tt env st todo = some c) (hc : c.es[c.k]? = some e) (hf : c.f + c.n ≤ c.sz) (he' : e' = e.take c.f ++ c.ys ++ e.drop (c.f + c.n)) (hob : zb7 c.ob)
    (hk : G P n F Q c.todo env ((c.id, some (.row c.e c.sz (c.es.set c.k e'))) :: st) ids) : G P n F Q todo env st ids := by
  unfold yi1 at h
  split at h
  · rename_i all o todo0 h0
    split at h
    · rename_i t p x hgd hdst hop
      split at h
      · rename_i i id kk sz f dx ht hp hx
        split at h
        · rename_i ty sz' es all' o' todo' ys ob hl h1 hel
          split at h
          · rename_i hsz
            cases h
            obtain ⟨rfl, rfl⟩ := zny h0 h1
            have hs := Nat.eq_of_beq_eq_true hsz
            subst hs
            simp only at hc hf he' hob hk
            have hk : G P n F Q todo' (zei o'.dst .undef env) ([(id, some (.row ty sz (es.set kk e')))] ++ st) ids := by rw [hdst]; exact hk
            refine zc5 (fr := []) (wr := [(id, some (.row ty sz (es.set kk e')))]) (rd := [id]) h1 ?_ (by simp [zdg, hdst]) (fun c hc => by rw [hop] at hc; cases hc) hk
            intro I μ st1 ids1 a w hag hst hon
            refine ⟨fun _ => ?_, fun hw => by rw [zax hgd] at hw; cases hw⟩
            have hops := zbo hon
            rw [hop] at hops
            have rp := hops p (by simp [Op.operands]) _ hp
            obtain ⟨r1, r2, r3, r4⟩ := zvi hel (hops x (by simp [Op.operands]) _ hx) hob
            have hl1 : zat st1 id (.row ty sz es) := by unfold zat; rw [hag id (by simp)]; exact hl
            obtain ⟨b, cap, cur, hmu, hheap, hcap, hcm, hcs, hrep, hlen, hone, hpos⟩ := zyr hst hl1 (by rintro rfl; simp at hc)
            have hkl := (List.getElem?_eq_some_iff.1 hc).1
            have hfit : kk * sz + f + i.size ≤ es.length * sz := by
              have : (kk + 1) * sz ≤ es.length * sz := Nat.mul_le_mul_right _ hkl
              rw [Nat.succ_mul] at this; omega
            have hcapz : es.length * sz ≤ cap * sz := Nat.mul_le_mul_right _ hcap
            generalize hv : a.eval p = v at rp
            cases rp with
            | elp _ _ ln cp _ _ _ hm =>
              rw [hm] at hmu; cases hmu
              have hvl : (a.eval x).cells.toList.length = i.size := by simpa using r2
              have hrun : (execOp a.eval o').run P w = .ok .skip (w.setRow b (cur.toList.take (kk * sz + f) ++ (a.eval x).cells.toList ++ cur.toList.drop (kk * sz + f + (a.eval x).cells.toList.length)).toArray) := by
                simp only [execOp, hop, hv, Sem.run_bind, zf9 (htt t i ht) hheap r2 r4 (show kk * sz + f + (a.eval x).cells.toList.length ≤ cur.size by rw [hvl]; omega), Result.andThen_ok, Sem.run_pure]
              rw [hrun]
              have hcl : cur.toList.length = cap * sz := by simpa using hcs
              have hnew : BlkRep I μ (w.setRow b (cur.toList.take (kk * sz + f) ++ (a.eval x).cells.toList ++ cur.toList.drop (kk * sz + f + (a.eval x).cells.toList.length)).toArray) (.slice (some ⟨b, 0, none⟩) es.length cap) (.row ty sz (es.set kk e')) := by
                subst he'
                have hys : ys.length = i.size := r3
                have e1 := zh2 (ys := ys) es kk e hlen hc (by rw [hys]; exact hf)
                rw [hys] at e1
                have e2 : (cur.toList.take (kk * sz + f) ++ (a.eval x).cells.toList ++ cur.toList.drop (kk * sz + f + (a.eval x).cells.toList.length)).take (es.length * sz) =
                    (cur.toList.take (es.length * sz)).take (kk * sz + f) ++ (a.eval x).cells.toList ++ (cur.toList.take (es.length * sz)).drop (kk * sz + f + (a.eval x).cells.toList.length) := by
                  rw [hvl, List.append_assoc, List.take_append, List.take_append, List.take_take, List.take_take, List.length_take, hvl, List.append_assoc]
                  rw [Nat.min_eq_left (by omega : kk * sz + f ≤ cur.toList.length), Nat.min_eq_right (by omega : kk * sz + f ≤ es.length * sz), Nat.min_eq_left (by omega : kk * sz + f ≤ es.length * sz)]
                  rw [List.take_of_length_le (l := (a.eval x).cells.toList) (by omega), List.drop_take]
                  congr 3
                  omega
                have hR := RepVL.splice hrep r1 (kk * sz + f)
                rw [hvl, hys] at hR
                rw [hvl] at e2
                have hls : (es.set kk (e.take f ++ ys ++ e.drop (f + i.size))).length = es.length := by simp
                refine ⟨_, ⟨?_, .inr ⟨b, cap, _, by rw [hls], Nat.zero_le _, setRow_heap w b cur _ ty _ hheap, by rw [hls]; exact hcap, hcm, ?_, rfl⟩⟩, ?_, ?_, ?_, hpos⟩
                · simp; omega
                · simp; omega
                · rw [hls, hvl, List.toList_toArray, e2]
                  exact e1 ▸ hR
                · intro c hc'
                  rcases List.mem_or_eq_of_mem_set hc' with h | h
                  · exact hlen c h
                  · rw [h]
                    have := hlen e (List.mem_of_getElem? hc)
                    simp [hys]; omega
                · intro c hc' y hy
                  rcases List.mem_or_eq_of_mem_set hc' with h | h
                  · exact hone c h y hy
                  · rw [h] at hy
                    have h5 := hone e (List.mem_of_getElem? hc)
                    rcases List.mem_append.1 hy with hy | hy
                    · rcases List.mem_append.1 hy with hy | hy
                      · exact h5 y (List.mem_of_mem_take hy)
                      · obtain ⟨j, hj⟩ := List.mem_iff_getElem?.1 hy
                        have hjl : j < (a.eval x).cells.toList.length := by rw [r1.1]; exact (List.getElem?_eq_some_iff.1 hj).1
                        exact (r1.2 j _ y (List.getElem?_eq_getElem hjl) hj).oneV (r4 _ (List.getElem_mem _))
                    · exact h5 y (List.mem_of_mem_drop hy)
              obtain ⟨q1, q2⟩ := hst.update (id := id) (blk := .row ty sz es) (g := .slice (some ⟨b, 0, none⟩) es.length cap) (b := b) hl1 hm rfl (w' := w.setRow b _) (setRow_size w b _) rfl rfl rfl (fun k hk => setRow_other w b k _ hk) hnew
              exact ⟨I, μ, q1, .undef _, Mu.le_refl μ, q2⟩
          · cases h
        · cases h
      · cases h
    · cases h
  · cases h
end
end Go.Hk
