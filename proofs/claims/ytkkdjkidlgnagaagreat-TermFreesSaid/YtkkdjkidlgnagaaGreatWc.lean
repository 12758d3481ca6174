/- Ranges over functions in the D-logic: what a round does, out of a walk through the loop's body; the loop, by the contract of its function. (And what it stands on.) -/
import Derived.Test.YtkkdjkidlgnagaaGreatWb
import Derived.RowKit3
import Derived.MapKept
import Derived.Test.YtkkdjkidlgnagaaGreatProg
import Derived.WalkKit
import Derived.Laws.NewBlocks
import Derived.Defers
import Derived.Recover
set_option linter.unusedSimpArgs false
set_option linter.unusedVariables false

/- Contracts of hearthref01: modules; lists of names. -/
namespace Go.Hk
open Go.Proofs

theorem map_get {α β : Type} {f : α → β} {l : List α} {i : Nat} {t : α} (h : l[i]? = some t) : (l.map f)[i]? = some (f t) := by simp [h]
@[simp] theorem dCdc_length (c : Cd) : (dCdc c).length = 2 := rfl
@[simp] theorem dDtc_length (c : Dt) : (dDtc c).length = 2 := rfl
@[simp] theorem dMdc_length (m : Md) : (dMdc m).length = 3 := rfl
@[simp] theorem dFdc_length (c : Fd) : (dFdc c).length = 15 := by simp [dFdc]

def conB (c : Cd) : Bool := greatS c.name && decide ((c.args.length : Int) ≤ 3) && c.args.all wholeB
def dataB (d : Dt) : Bool := greatS d.name && inI d.cons.length 1 5 && d.cons.all conB
def smallConB (c : Cd) : Bool := decide ((c.name.length : Int) ≤ 30) && decide ((c.args.length : Int) ≤ 6) && c.args.all smallTypeB
def smallDataB (d : Dt) : Bool := decide ((d.name.length : Int) ≤ 30) && decide ((d.cons.length : Int) ≤ 8) && d.cons.all smallConB
def funB (f : Fd) : Bool := nameS f.name && nameS f.param && wholeB f.from_ && wholeB f.to_ && termB f.body
def moduleB (m : Md) : Bool := nameS m.name && decide ((m.datas.length : Int) ≤ 4) && inI m.funs.length 1 5 && m.datas.all dataB && m.funs.all funB
def smallFunB (f : Fd) : Bool := decide ((f.name.length : Int) ≤ 30) && decide ((f.param.length : Int) ≤ 30) && smallTypeB f.from_ && smallTypeB f.to_ && smallTermB f.body
def smallModuleB (m : Md) : Bool := decide ((m.name.length : Int) ≤ 30) && decide ((m.datas.length : Int) ≤ 6) && decide ((m.funs.length : Int) ≤ 8) && m.datas.all smallDataB && m.funs.all smallFunB

set_option maxRecDepth 100000 in
theorem data_ok (d : Dt) : PureC Tryz.prog 79 [.agg (dDtc d)] (.bool (dataB d)) := by
  obtain ⟨nm, cs⟩ := d
  refine pureC_ok fun hv => ?_
  simp [vOkL, vOk, dDtc, maxLen] at hv
  refine effc_of ttK_ok Tryz.func79 (by decide +kernel) rfl [1, 2, 3] rfl rfl ?_
  refine kg [] rfl (by simp) ?_
  refine g_pcall rfl (fun _ => Great_ok nm) (by simp) ?_
  refine kg [] rfl (by simp) ?_
  refine g_pcall rfl (v := .bool (inI cs.length 1 5)) (fun _ => by have := in_ok cs.length 1 5; simpa using this) (by simp [cxOf]) ?_
  refine kg [] rfl (by simp) ?_
  refine dgo_cond rfl (fun h => ?_) (fun h => ?_)
  · refine kd [] rfl (by simp) ?_
    refine dgo_ret ⟨_, rfl, tV (congrArg _ ?_), trivial⟩
    simp at h
    simp [dataB]
    grind
  have hx : (greatS nm && inI cs.length 1 5) = true := by simp at h ⊢; grind
  clear h
  refine kd [] rfl (by simp) ?_
  refine dgo_enter (fun i : Nat => [(3, .imm (.int .i64 i)), (1, .ref 1 0)]) (fun _ => [(1, some (.immb 111 2 (dDtc ⟨nm, cs⟩)))]) [2, 3] (fun i => cs.length - i)
    (fun i => i ≤ cs.length ∧ cs.all conB = (cs.drop i).all conB) 0 ⟨Nat.zero_le _, rfl⟩ ⟨rfl, rfl, trivial⟩ ⟨rfl, trivial⟩ rfl fun i hi ih => ?_
  refine kd [] rfl (by simp) ?_
  refine dgo_cond rfl (fun h => ?_) (fun h => ?_)
  · simp at h
    obtain ⟨c, hc⟩ := has_get h
    have e := hi.2
    rw [get_drop hc] at e
    refine kd [] rfl (by simp) ?_
    refine ki rfl (c := dCdc c) (fun _ => ⟨by simp, by simpa using map_get hc, by simp⟩) (by simp) ?_
    obtain ⟨cn, ag⟩ := c
    refine kg [] rfl (by simp) ?_
    refine g_pcall rfl (fun _ => Great_ok cn) (by simp) ?_
    refine kg [] rfl (by simp) ?_
    refine dgo_cond rfl (fun h => ?_) (fun h => ?_)
    · refine kd [] rfl (by simp) ?_
      refine dgo_ret ⟨_, rfl, tV (congrArg _ ?_), trivial⟩
      simp at h
      have : conB ⟨cn, ag⟩ = false := by simp [conB]; grind
      simp [dataB, e, this]
    have hy : (greatS cn && decide ((ag.length : Int) ≤ 3)) = true := by simp at h ⊢; grind
    have hal : ag.length ≤ 6 := by simp at hy; omega
    clear h
    refine kd [] rfl (by simp) ?_
    refine dgo_enter (fun j : Nat => [(5, .imm (.int .i64 j)), (4, .ref 2 0), (3, .imm (.int .i64 i)), (1, .ref 1 0)]) (fun _ => [(2, some (.immb 150 2 (dCdc ⟨cn, ag⟩))), (1, some (.immb 111 2 (dDtc ⟨nm, cs⟩)))]) [3] (fun j => ag.length - j)
      (fun j => j ≤ ag.length ∧ ag.all wholeB = (ag.drop j).all wholeB) 0 ⟨Nat.zero_le _, rfl⟩ ⟨rfl, rfl, rfl, rfl, trivial⟩ ⟨rfl, rfl, trivial⟩ rfl fun j hj ihj => ?_
    refine kd [] rfl (by simp) ?_
    refine dgo_cond rfl (fun h => ?_) (fun h => ?_)
    · simp at h
      obtain ⟨t, ht⟩ := has_get h
      have ej := hj.2
      rw [get_drop ht] at ej
      refine kd [] rfl (by simp) ?_
      refine ki rfl (c := dTyc t) (fun _ => ⟨by simp, by simpa using dTys_get ht, by simp⟩) (by simp) ?_
      refine kg [] rfl (by simp) ?_
      refine g_pcall rfl (fun _ => Whole_ok t) (by simp) ?_
      refine kg [] rfl (by simp) ?_
      refine dgo_cond rfl (fun h => ?_) (fun h => ?_)
      · refine kd [] rfl (by simp) ?_
        refine dgo_ret ⟨_, rfl, tV (congrArg _ ?_), trivial⟩
        simp at h
        have : conB ⟨cn, ag⟩ = false := by simp only [conB]; rw [ej]; simp [h]
        simp [dataB, e, this]
      · refine kd [] rfl (by simp) ?_
        simp at h
        exact dgo_again (ihj (j + 1) (by omega) ⟨by omega, by rw [ej]; simp [h]⟩) ⟨tInt (w64 (by omega) (by omega)), rfl, rfl, rfl, trivial⟩ ⟨rfl, rfl, trivial⟩ rfl
    · simp at h
      refine kd [] rfl (by simp) ?_
      have : conB ⟨cn, ag⟩ = true := by
        simp only [conB]
        rw [hj.2, List.drop_eq_nil_of_le (by omega)]
        simpa using hy
      exact dgo_again (ih (i + 1) (by omega) ⟨by omega, by rw [e]; simp [this]⟩) ⟨tInt (w64 (by omega) (by omega)), rfl, trivial⟩ ⟨rfl, trivial⟩ rfl
  · refine kd [] rfl (by simp) ?_
    refine dgo_ret ⟨_, rfl, tV (congrArg _ ?_), trivial⟩
    simp at h
    simp only [dataB]
    rw [hi.2, List.drop_eq_nil_of_le (by omega)]
    simpa using hx.symm

set_option maxRecDepth 100000 in
theorem smallData_ok (d : Dt) : PureC Tryz.prog 75 [.agg (dDtc d)] (.bool (smallDataB d)) := by
  obtain ⟨nm, cs⟩ := d
  refine pureC_ok fun hv => ?_
  simp [vOkL, vOk, dDtc, maxLen] at hv
  refine effc_of ttK_ok Tryz.func75 (by decide +kernel) rfl [1, 2, 3] rfl rfl ?_
  refine kg [] rfl (by simp) ?_
  refine dgo_cond rfl (fun h => ?_) (fun h => ?_)
  · refine kd [] rfl (by simp) ?_
    refine dgo_ret ⟨_, rfl, tV (congrArg _ ?_), trivial⟩
    simp at h
    simp [smallDataB]
    grind
  have hx : (decide ((nm.length : Int) ≤ 30) && decide ((cs.length : Int) ≤ 8)) = true := by simp at h ⊢; grind
  clear h
  refine kd [] rfl (by simp) ?_
  refine dgo_enter (fun i : Nat => [(3, .imm (.int .i64 i)), (1, .ref 1 0)]) (fun _ => [(1, some (.immb 111 2 (dDtc ⟨nm, cs⟩)))]) [2, 3] (fun i => cs.length - i)
    (fun i => i ≤ cs.length ∧ cs.all smallConB = (cs.drop i).all smallConB) 0 ⟨Nat.zero_le _, rfl⟩ ⟨rfl, rfl, trivial⟩ ⟨rfl, trivial⟩ rfl fun i hi ih => ?_
  refine kd [] rfl (by simp) ?_
  refine dgo_cond rfl (fun h => ?_) (fun h => ?_)
  · simp at h
    obtain ⟨c, hc⟩ := has_get h
    have e := hi.2
    rw [get_drop hc] at e
    refine kd [] rfl (by simp) ?_
    refine ki rfl (c := dCdc c) (fun _ => ⟨by simp, by simpa using map_get hc, by simp⟩) (by simp) ?_
    obtain ⟨cn, ag⟩ := c
    refine kg [] rfl (by simp) ?_
    refine dgo_cond rfl (fun h => ?_) (fun h => ?_)
    · refine kd [] rfl (by simp) ?_
      refine dgo_ret ⟨_, rfl, tV (congrArg _ ?_), trivial⟩
      simp at h
      have : smallConB ⟨cn, ag⟩ = false := by simp [smallConB]; grind
      simp [smallDataB, e, this]
    have hy : (decide ((cn.length : Int) ≤ 30) && decide ((ag.length : Int) ≤ 6)) = true := by simp at h ⊢; grind
    have hal : ag.length ≤ 6 := by simp at hy; omega
    clear h
    refine kd [] rfl (by simp) ?_
    refine dgo_enter (fun j : Nat => [(5, .imm (.int .i64 j)), (4, .ref 2 0), (3, .imm (.int .i64 i)), (1, .ref 1 0)]) (fun _ => [(2, some (.immb 150 2 (dCdc ⟨cn, ag⟩))), (1, some (.immb 111 2 (dDtc ⟨nm, cs⟩)))]) [3] (fun j => ag.length - j)
      (fun j => j ≤ ag.length ∧ ag.all smallTypeB = (ag.drop j).all smallTypeB) 0 ⟨Nat.zero_le _, rfl⟩ ⟨rfl, rfl, rfl, rfl, trivial⟩ ⟨rfl, rfl, trivial⟩ rfl fun j hj ihj => ?_
    refine kd [] rfl (by simp) ?_
    refine dgo_cond rfl (fun h => ?_) (fun h => ?_)
    · simp at h
      obtain ⟨t, ht⟩ := has_get h
      have ej := hj.2
      rw [get_drop ht] at ej
      refine kd [] rfl (by simp) ?_
      refine ki rfl (c := dTyc t) (fun _ => ⟨by simp, by simpa using dTys_get ht, by simp⟩) (by simp) ?_
      refine kg [] rfl (by simp) ?_
      refine g_pcall rfl (fun _ => SmallType_ok t) (by simp) ?_
      refine kg [] rfl (by simp) ?_
      refine dgo_cond rfl (fun h => ?_) (fun h => ?_)
      · refine kd [] rfl (by simp) ?_
        refine dgo_ret ⟨_, rfl, tV (congrArg _ ?_), trivial⟩
        simp at h
        have : smallConB ⟨cn, ag⟩ = false := by simp only [smallConB]; rw [ej]; simp [h]
        simp [smallDataB, e, this]
      · refine kd [] rfl (by simp) ?_
        simp at h
        exact dgo_again (ihj (j + 1) (by omega) ⟨by omega, by rw [ej]; simp [h]⟩) ⟨tInt (w64 (by omega) (by omega)), rfl, rfl, rfl, trivial⟩ ⟨rfl, rfl, trivial⟩ rfl
    · simp at h
      refine kd [] rfl (by simp) ?_
      have : smallConB ⟨cn, ag⟩ = true := by
        simp only [smallConB]
        rw [hj.2, List.drop_eq_nil_of_le (by omega)]
        simpa using hy
      exact dgo_again (ih (i + 1) (by omega) ⟨by omega, by rw [e]; simp [this]⟩) ⟨tInt (w64 (by omega) (by omega)), rfl, trivial⟩ ⟨rfl, trivial⟩ rfl
  · refine kd [] rfl (by simp) ?_
    refine dgo_ret ⟨_, rfl, tV (congrArg _ ?_), trivial⟩
    simp at h
    simp only [smallDataB]
    rw [hi.2, List.drop_eq_nil_of_le (by omega)]
    simpa using hx.symm

set_option maxRecDepth 100000 in
theorem Module_ok (m : Md) : PureC Tryz.prog 36 [.agg (dMdc m)] (.bool (moduleB m)) := by
  obtain ⟨nm, ds, fs⟩ := m
  refine pureC_ok fun hv => ?_
  simp [vOkL, vOk, dMdc, maxLen] at hv
  refine effc_of ttK_ok Tryz.func36 (by decide +kernel) rfl [1, 2, 3] rfl rfl ?_
  refine kg [] rfl (by simp) ?_
  refine g_pcall rfl (fun _ => Name_ok nm) (by simp) ?_
  refine kg [] rfl (by simp) ?_
  refine g_pcall rfl (v := .bool (inI fs.length 1 5)) (fun _ => by have := in_ok fs.length 1 5; simpa using this) (by simp [cxOf]) ?_
  refine kg [] rfl (by simp) ?_
  refine dgo_cond rfl (fun h => ?_) (fun h => ?_)
  · refine kd [] rfl (by simp) ?_
    refine dgo_ret ⟨_, rfl, tV (congrArg _ ?_), trivial⟩
    simp at h
    simp [moduleB]
    grind
  have hx : (nameS nm && decide ((ds.length : Int) ≤ 4) && inI fs.length 1 5) = true := by simp at h ⊢; grind
  clear h
  refine kd [] rfl (by simp) ?_
  refine dgo_enter (fun i : Nat => [(3, .imm (.int .i64 i)), (1, .ref 1 0)]) (fun _ => [(1, some (.immb 66 3 (dMdc ⟨nm, ds, fs⟩)))]) [2, 3] (fun i => ds.length - i)
    (fun i => i ≤ ds.length ∧ ds.all dataB = (ds.drop i).all dataB) 0 ⟨Nat.zero_le _, rfl⟩ ⟨rfl, rfl, trivial⟩ ⟨rfl, trivial⟩ rfl fun i hi ih => ?_
  refine kd [] rfl (by simp) ?_
  refine dgo_cond rfl (fun h => ?_) (fun h => ?_)
  · simp at h
    obtain ⟨c, hc⟩ := has_get h
    have e := hi.2
    rw [get_drop hc] at e
    refine kd [] rfl (by simp) ?_
    refine ki rfl (c := dDtc c) (fun _ => ⟨by simp, by simpa using map_get hc, by simp⟩) (by simp) ?_
    refine kg [] rfl (by simp) ?_
    refine g_pcall rfl (fun _ => data_ok c) (by simp) ?_
    refine kg [] rfl (by simp) ?_
    refine dgo_cond rfl (fun h => ?_) (fun h => ?_)
    · refine kd [] rfl (by simp) ?_
      refine dgo_ret ⟨_, rfl, tV (congrArg _ ?_), trivial⟩
      simp at h
      simp [moduleB, e, h]
    · refine kd [] rfl (by simp) ?_
      simp at h
      exact dgo_again (ih (i + 1) (by omega) ⟨by omega, by rw [e]; simp [h]⟩) ⟨tInt (w64 (by omega) (by omega)), rfl, trivial⟩ ⟨rfl, trivial⟩ rfl
  simp at h
  have hds : ds.all dataB = true := by rw [hi.2, List.drop_eq_nil_of_le (by omega)]; rfl
  clear ih hi h
  refine kd [] rfl (by simp) ?_
  refine dgo_enter (fun i : Nat => [(4, .imm (.int .i64 i)), (1, .ref 1 0)]) (fun _ => [(1, some (.immb 66 3 (dMdc ⟨nm, ds, fs⟩)))]) [2, 3] (fun i => fs.length - i)
    (fun i => i ≤ fs.length ∧ fs.all funB = (fs.drop i).all funB) 0 ⟨Nat.zero_le _, rfl⟩ ⟨rfl, rfl, trivial⟩ ⟨rfl, trivial⟩ rfl fun i hi ih => ?_
  refine kd [] rfl (by simp) ?_
  refine dgo_cond rfl (fun h => ?_) (fun h => ?_)
  · simp at h
    obtain ⟨c, hc⟩ := has_get h
    have e := hi.2
    rw [get_drop hc] at e
    refine kd [] rfl (by simp) ?_
    refine ki rfl (c := dFdc c) (fun _ => ⟨by simp, by simpa using map_get hc, by simp⟩) (by simp) ?_
    obtain ⟨fnm, fpa, ⟨s1, n1, x1, p1⟩, ⟨s2, n2, x2, p2⟩, ⟨op, n3, x3, ks, p3⟩⟩ := c
    refine kg [] rfl (by simp) ?_
    refine g_pcall rfl (fun _ => Name_ok fnm) (by simp [cxOf]) ?_
    refine kg [] rfl (by simp) ?_
    refine g_pcall rfl (fun _ => Name_ok fpa) (by simp [cxOf]) ?_
    refine kg [] rfl (by simp) ?_
    refine g_pcall rfl (fun _ => Whole_ok (.mk s1 n1 x1 p1)) (by simp [cxOf]) ?_
    refine kg [] rfl (by simp) ?_
    refine g_pcall rfl (fun _ => Whole_ok (.mk s2 n2 x2 p2)) (by simp [cxOf]) ?_
    refine kg [] rfl (by simp) ?_
    refine g_pcall rfl (fun _ => Term_ok (.mk op n3 x3 ks p3)) (by simp [cxOf]) ?_
    refine kg [] rfl (by simp) ?_
    refine dgo_cond rfl (fun h => ?_) (fun h => ?_)
    · refine kd [] rfl (by simp) ?_
      refine dgo_ret ⟨_, rfl, tV (congrArg _ ?_), trivial⟩
      simp at h
      have : funB ⟨fnm, fpa, .mk s1 n1 x1 p1, .mk s2 n2 x2 p2, .mk op n3 x3 ks p3⟩ = false := by simp [funB]; grind
      simp [moduleB, e, this]
    · refine kd [] rfl (by simp) ?_
      simp at h
      have : funB ⟨fnm, fpa, .mk s1 n1 x1 p1, .mk s2 n2 x2 p2, .mk op n3 x3 ks p3⟩ = true := by simp [funB]; grind
      exact dgo_again (ih (i + 1) (by omega) ⟨by omega, by rw [e]; simp [this]⟩) ⟨tInt (w64 (by omega) (by omega)), rfl, trivial⟩ ⟨rfl, trivial⟩ rfl
  · refine kd [] rfl (by simp) ?_
    refine dgo_ret ⟨_, rfl, tV (congrArg _ ?_), trivial⟩
    simp at h
    simp only [moduleB]
    rw [hds, hi.2, List.drop_eq_nil_of_le (by omega)]
    simpa using hx.symm

set_option maxRecDepth 100000 in
theorem SmallModule_ok (m : Md) : PureC Tryz.prog 34 [.agg (dMdc m)] (.bool (smallModuleB m)) := by
  obtain ⟨nm, ds, fs⟩ := m
  refine pureC_ok fun hv => ?_
  simp [vOkL, vOk, dMdc, maxLen] at hv
  refine effc_of ttK_ok Tryz.func34 (by decide +kernel) rfl [1, 2, 3] rfl rfl ?_
  refine kg [] rfl (by simp) ?_
  refine dgo_cond rfl (fun h => ?_) (fun h => ?_)
  · refine kd [] rfl (by simp) ?_
    refine dgo_ret ⟨_, rfl, tV (congrArg _ ?_), trivial⟩
    simp at h
    simp [smallModuleB]
    grind
  have hx : (decide ((nm.length : Int) ≤ 30) && decide ((ds.length : Int) ≤ 6) && decide ((fs.length : Int) ≤ 8)) = true := by simp at h ⊢; grind
  clear h
  refine kd [] rfl (by simp) ?_
  refine dgo_enter (fun i : Nat => [(3, .imm (.int .i64 i)), (1, .ref 1 0)]) (fun _ => [(1, some (.immb 66 3 (dMdc ⟨nm, ds, fs⟩)))]) [2, 3] (fun i => ds.length - i)
    (fun i => i ≤ ds.length ∧ ds.all smallDataB = (ds.drop i).all smallDataB) 0 ⟨Nat.zero_le _, rfl⟩ ⟨rfl, rfl, trivial⟩ ⟨rfl, trivial⟩ rfl fun i hi ih => ?_
  refine kd [] rfl (by simp) ?_
  refine dgo_cond rfl (fun h => ?_) (fun h => ?_)
  · simp at h
    obtain ⟨c, hc⟩ := has_get h
    have e := hi.2
    rw [get_drop hc] at e
    refine kd [] rfl (by simp) ?_
    refine ki rfl (c := dDtc c) (fun _ => ⟨by simp, by simpa using map_get hc, by simp⟩) (by simp) ?_
    refine kg [] rfl (by simp) ?_
    refine g_pcall rfl (fun _ => smallData_ok c) (by simp) ?_
    refine kg [] rfl (by simp) ?_
    refine dgo_cond rfl (fun h => ?_) (fun h => ?_)
    · refine kd [] rfl (by simp) ?_
      refine dgo_ret ⟨_, rfl, tV (congrArg _ ?_), trivial⟩
      simp at h
      simp [smallModuleB, e, h]
    · refine kd [] rfl (by simp) ?_
      simp at h
      exact dgo_again (ih (i + 1) (by omega) ⟨by omega, by rw [e]; simp [h]⟩) ⟨tInt (w64 (by omega) (by omega)), rfl, trivial⟩ ⟨rfl, trivial⟩ rfl
  simp at h
  have hds : ds.all smallDataB = true := by rw [hi.2, List.drop_eq_nil_of_le (by omega)]; rfl
  clear ih hi h
  refine kd [] rfl (by simp) ?_
  refine dgo_enter (fun i : Nat => [(4, .imm (.int .i64 i)), (1, .ref 1 0)]) (fun _ => [(1, some (.immb 66 3 (dMdc ⟨nm, ds, fs⟩)))]) [2, 3] (fun i => fs.length - i)
    (fun i => i ≤ fs.length ∧ fs.all smallFunB = (fs.drop i).all smallFunB) 0 ⟨Nat.zero_le _, rfl⟩ ⟨rfl, rfl, trivial⟩ ⟨rfl, trivial⟩ rfl fun i hi ih => ?_
  refine kd [] rfl (by simp) ?_
  refine dgo_cond rfl (fun h => ?_) (fun h => ?_)
  · simp at h
    obtain ⟨c, hc⟩ := has_get h
    have e := hi.2
    rw [get_drop hc] at e
    refine kd [] rfl (by simp) ?_
    refine ki rfl (c := dFdc c) (fun _ => ⟨by simp, by simpa using map_get hc, by simp⟩) (by simp) ?_
    obtain ⟨fnm, fpa, ⟨s1, n1, x1, p1⟩, ⟨s2, n2, x2, p2⟩, ⟨op, n3, x3, ks, p3⟩⟩ := c
    refine kg [] rfl (by simp) ?_
    refine g_pcall rfl (fun _ => SmallType_ok (.mk s1 n1 x1 p1)) (by simp [cxOf]) ?_
    refine kg [] rfl (by simp) ?_
    refine g_pcall rfl (fun _ => SmallType_ok (.mk s2 n2 x2 p2)) (by simp [cxOf]) ?_
    refine kg [] rfl (by simp) ?_
    refine g_pcall rfl (fun _ => SmallTerm_ok (.mk op n3 x3 ks p3)) (by simp [cxOf]) ?_
    refine kg [] rfl (by simp) ?_
    refine dgo_cond rfl (fun h => ?_) (fun h => ?_)
    · refine kd [] rfl (by simp) ?_
      refine dgo_ret ⟨_, rfl, tV (congrArg _ ?_), trivial⟩
      simp at h
      have : smallFunB ⟨fnm, fpa, .mk s1 n1 x1 p1, .mk s2 n2 x2 p2, .mk op n3 x3 ks p3⟩ = false := by simp [smallFunB]; grind
      simp [smallModuleB, e, this]
    · refine kd [] rfl (by simp) ?_
      simp at h
      have : smallFunB ⟨fnm, fpa, .mk s1 n1 x1 p1, .mk s2 n2 x2 p2, .mk op n3 x3 ks p3⟩ = true := by simp [smallFunB]; grind
      exact dgo_again (ih (i + 1) (by omega) ⟨by omega, by rw [e]; simp [this]⟩) ⟨tInt (w64 (by omega) (by omega)), rfl, trivial⟩ ⟨rfl, trivial⟩ rfl
  · refine kd [] rfl (by simp) ?_
    refine dgo_ret ⟨_, rfl, tV (congrArg _ ?_), trivial⟩
    simp at h
    simp only [smallModuleB]
    rw [hds, hi.2, List.drop_eq_nil_of_le (by omega)]
    simpa using hx.symm

end Go.Hk

/- A function that does something and tells whether it gave up, by contract. -/
namespace Go.Hk

/-- What the walk of such a function shows. -/
def HoldsSpec (P : Program) (f : FuncId) (t tb : TypeId) : Prop := ∀ (g : FuncId) (fi ca : Array Value) (w : World) (K Kp : World → Prop),
  (callFunc g (fi ++ ca)).run P (w.alloc (.cells #[.bool false] tb)) = .ok (.enter g (fi ++ ca)) (w.alloc (.cells #[.bool false] tb)) →
  Calls P g (fi ++ ca) (w.alloc (.cells #[.bool false] tb)) (fun e w' => match e with
    | .returned _ => K w'
    | .panicked chain => chain = [{ v := .iface t (.agg #[]), recovered := false }] ∧ Kp w'
    | .outgrown => False) →
  (∀ w', K w' → w'.heap[w.heap.size]? = some (.cells #[.bool false] tb (0, 0))) → (∀ w', Kp w' → w'.heap[w.heap.size]? = some (.cells #[.bool false] tb (0, 0))) →
  Calls P f #[.func (.func g) fi ca] w fun e w' => (e = .returned (.bool true) ∧ ∃ w1, K w1 ∧ w' = w1.setCell ⟨w.heap.size, 0, none⟩ (.bool true)) ∨
    (e = .returned (.bool false) ∧ ∃ w1, Kp w1 ∧ w' = (w1.setCell ⟨w.heap.size, 0, none⟩ (.bool false)).alloc (.cells #[] t))

theorem setCell_block {w : World} {b : Nat} {v x : Value} {t : TypeId} (h : w.heap[b]? = some (.cells #[x] t (0, 0))) : w.setCell ⟨b, 0, none⟩ v = { w with heap := w.heap.setIfInBounds b (.cells #[v] t (0, 0)) } := by
  have : ∀ (A : Array Obj) (f : Obj → Obj), A[b]? = some (.cells #[x] t (0, 0)) → A.modify b f = A.setIfInBounds b (f (.cells #[x] t (0, 0))) := by
    intro A f hA
    apply Array.ext_getElem?
    intro i
    rw [Array.getElem?_modify, Array.getElem?_setIfInBounds]
    by_cases hi : b = i
    · subst hi; rw [if_pos rfl, if_pos rfl, hA]; simp [(Array.getElem?_eq_some_iff.1 hA).1]
    · rw [if_neg hi, if_neg hi]
  unfold World.setCell
  rw [this _ _ h]
  rfl

theorem owned_lt {I : Imm} {μ : Mu} {st : St} {ids : List Nat} {w : World} (hst : StRep I μ st ids w) {b : Nat} (h : owned μ st b) : b < w.heap.size := by
  obtain ⟨id, blk, g, h1, h2, h3⟩ := h
  exact (hst.apart id blk g b h1 h2 h3).2

/-- A state in a world of which neither its blocks nor what it holds as immutable has changed. -/
theorem StRep.other {I : Imm} {μ : Mu} {st : St} {ids : List Nat} {w w' : World} (hst : StRep I μ st ids w) (hs : w.heap.size ≤ w'.heap.size) (hi : ∀ b o, I b = some o → w'.heap[b]? = w.heap[b]?) (ho : ∀ b, owned μ st b → w'.heap[b]? = w.heap[b]?) : StRep I μ st ids w' :=
  { imm := fun b o h => (hi b o h).trans (hst.imm b o h), blk := fun id blk hl => let ⟨g, h1, h2⟩ := hst.blk id blk hl; ⟨g, h1, h2.world fun b hb => ho b ⟨id, blk, g, hl, h1, hb⟩⟩,
    apart := fun id blk g b h1 h2 h3 => ⟨(hst.apart id blk g b h1 h2 h3).1, Nat.lt_of_lt_of_le (hst.apart id blk g b h1 h2 h3).2 hs⟩, inj := hst.inj, nodup := hst.nodup, idsFree := hst.idsFree }

theorem RepD.fnD {I : Imm} {μ : Mu} {v : Value} {f : Fn} {df dc : List D} (h : RepD I μ v (.fn f df dc)) : ∃ first cap : Array Value, v = .func f first cap ∧ RepL I μ (first ++ cap).toList (df ++ dc) := by
  cases h with
  | fn _ first cap _ _ hf hc h1 h2 =>
    refine ⟨first, cap, rfl, ?_⟩
    rw [Array.toList_append]
    refine ⟨by simp [hf, hc], fun i v d p q => ?_⟩
    rw [List.getElem?_append] at p q
    have hl : first.toList.length = df.length := by simpa using hf
    rw [hl] at p
    split at p
    · rename_i hlt
      rw [if_pos hlt] at q
      exact h1 i v d (by simpa using p) q
    · rename_i hlt
      rw [if_neg hlt] at q
      exact h2 _ v d (by simpa using p) q

section
variable {P : Program} {f g : FuncId} {t tb : TypeId} {fn fg : Func} {cf cg : Code} {df dc : List D} {st0 st1 : St} {d : D}

theorem holds_args {I : Imm} {μ : Mu} {xs : Array Value} (hxs : RepL I μ xs.toList [.fn (.func g) df dc]) : ∃ first cap : Array Value, xs = #[.func (.func g) first cap] ∧ RepL I μ (first ++ cap).toList (df ++ dc) := by
  obtain ⟨l, rfl⟩ : ∃ l : List Value, xs = l.toArray := ⟨xs.toList, by simp⟩
  rw [List.toList_toArray] at hxs
  match l, hxs with
  | [v], hxs =>
    obtain ⟨first, cap, rfl, h⟩ := (hxs.2 0 v _ rfl rfl).fnD
    exact ⟨first, cap, rfl, h⟩
  | [], hxs => exact absurd hxs.1 (by simp)
  | _ :: _ :: _, hxs => exact absurd hxs.1 (by simp)

/-- It does not give up. -/
theorem holds_yes (hf : P.funcs[f]? = some fn) (hn : (fn.name == "runtime.NumGoroutine") = false) (hb : fn.body = some cf) (hs : HoldsSpec P f t tb)
    (hg : P.funcs[g]? = some fg) (hgn : (fg.name == "runtime.NumGoroutine") = false) (hgb : fg.body = some cg) (hE : EffC P g (df ++ dc) st0 (.ret d st1)) : EffC P f [.fn (.func g) df dc] st0 (.ret (.imm (.bool true)) st1) := by
  intro I μ w xs hst hxs
  obtain ⟨first, cap, rfl, hx⟩ := holds_args hxs
  rw [run_callFunc_body hf hn hb]
  have hheap : (w.alloc (.cells #[.bool false] tb)).heap = w.heap.push (.cells #[.bool false] tb (0, 0)) := rfl
  have hgrow : ∀ r, r < w.heap.size → (w.alloc (.cells #[.bool false] tb)).heap[r]? = w.heap[r]? := fun r hr => by rw [hheap]; simp [Array.getElem?_push, Nat.ne_of_lt hr]
  have hself : (w.alloc (.cells #[.bool false] tb)).heap[w.heap.size]? = some (.cells #[.bool false] tb (0, 0)) := by rw [hheap]; simp
  have hsize : (w.alloc (.cells #[.bool false] tb)).heap.size = w.heap.size + 1 := by rw [hheap]; simp
  have hlt : ∀ b o, I b = some o → b < w.heap.size := fun b o h => (Array.getElem?_eq_some_iff.1 (hst.imm b o h)).1
  have hst1 : StRep I μ st0 [] (w.alloc (.cells #[.bool false] tb)) := hst.other (by omega) (fun b o h => hgrow b (hlt b o h)) (fun b h => hgrow b (owned_lt hst h))
  have hno : ¬ owned μ st0 w.heap.size := fun h => absurd (owned_lt hst h) (Nat.lt_irrefl _)
  have hIn : I w.heap.size = none := by
    cases h : I w.heap.size with
    | none => rfl
    | some o => exact absurd (hlt _ o h) (Nat.lt_irrefl _)
  have hcall := hE I μ _ (first ++ cap) hst1 hx
  have hrun := run_callFunc_body (w := w.alloc (.cells #[.bool false] tb)) hg hgn hgb (first ++ cap)
  rw [hrun] at hcall
  have hcall : Calls P g (first ++ cap) (w.alloc (.cells #[.bool false] tb)) (fun e w' => match e with
    | .returned u => ∃ I' μ', RepD I' μ' u d ∧ StRep I' μ' st1 [] w' ∧ Pin (nms st0) μ μ' ∧ Ext I μ st0 (w.alloc (.cells #[.bool false] tb)) I' μ' st1 w'
    | .panicked _ => False
    | .outgrown => False) := hcall
  have keep : ∀ w' I' μ', Ext I μ st0 (w.alloc (.cells #[.bool false] tb)) I' μ' st1 w' → w'.heap[w.heap.size]? = some (.cells #[.bool false] tb (0, 0)) := fun w' I' μ' he => (he.block _ (by omega) hno).trans hself
  show Calls P f _ w _
  refine Calls.mono (hs g first cap w (fun w' => ∃ I' μ', StRep I' μ' st1 [] w' ∧ Pin (nms st0) μ μ' ∧ Ext I μ st0 (w.alloc (.cells #[.bool false] tb)) I' μ' st1 w') (fun _ => False) hrun (Calls.mono hcall ?_) (fun w' ⟨I', μ', _, _, he⟩ => keep w' I' μ' he) (fun _ h => h.elim)) ?_
  · intro e w' he
    cases e with
    | returned u => obtain ⟨I', μ', _, h2, h3, h4⟩ := he; exact ⟨I', μ', h2, h3, h4⟩
    | panicked => exact he.elim
    | outgrown => exact he.elim
  · rintro e w2 (⟨rfl, w1, ⟨I', μ', h2, h3, h4⟩, rfl⟩ | ⟨_, _, hx, _⟩)
    · have hc := keep w1 I' μ' h4
      rw [setCell_block hc]
      have hI' : I' w.heap.size = none := (h4.old _ (by omega) hno).trans hIn
      have hno' : ¬ owned μ' st1 w.heap.size := fun h => hno (h4.fresh _ (by omega) h)
      have hsame : ∀ b, b ≠ w.heap.size → (w1.heap.setIfInBounds w.heap.size (.cells #[.bool true] tb (0, 0)))[b]? = w1.heap[b]? := fun b hb => Array.getElem?_setIfInBounds_ne (Ne.symm hb)
      refine ⟨I', μ', .imm _ _ (.bool true), ?_, h3, ?_⟩
      · exact h2.other (by simp) (fun b o h => hsame b fun e => by rw [e, hI'] at h; cases h) (fun b h => hsame b fun e => hno' (e ▸ h))
      · have hsz := h4.size
        exact { imm := h4.imm, os := h4.os, tape := h4.tape, output := h4.output, size := by simp; omega,
                block := fun b hb ho => (hsame b (by omega)).trans ((h4.block b (by omega) ho).trans (hgrow b hb)), fresh := fun b hb ho => h4.fresh b (by omega) ho, old := fun b hb ho => h4.old b (by omega) ho }
    · exact hx.elim

/-- It gives up: what it owned is lost. -/
theorem holds_no (hf : P.funcs[f]? = some fn) (hn : (fn.name == "runtime.NumGoroutine") = false) (hb : fn.body = some cf) (hs : HoldsSpec P f t tb)
    (hg : P.funcs[g]? = some fg) (hgn : (fg.name == "runtime.NumGoroutine") = false) (hgb : fg.body = some cg) (hE : EffC P g (df ++ dc) st0 (.pan (.iface t (.agg [])))) : EffC P f [.fn (.func g) df dc] st0 (.ret (.imm (.bool false)) []) := by
  intro I μ w xs hst hxs
  obtain ⟨first, cap, rfl, hx⟩ := holds_args hxs
  rw [run_callFunc_body hf hn hb]
  have hheap : (w.alloc (.cells #[.bool false] tb)).heap = w.heap.push (.cells #[.bool false] tb (0, 0)) := rfl
  have hgrow : ∀ r, r < w.heap.size → (w.alloc (.cells #[.bool false] tb)).heap[r]? = w.heap[r]? := fun r hr => by rw [hheap]; simp [Array.getElem?_push, Nat.ne_of_lt hr]
  have hself : (w.alloc (.cells #[.bool false] tb)).heap[w.heap.size]? = some (.cells #[.bool false] tb (0, 0)) := by rw [hheap]; simp
  have hsize : (w.alloc (.cells #[.bool false] tb)).heap.size = w.heap.size + 1 := by rw [hheap]; simp
  have hlt : ∀ b o, I b = some o → b < w.heap.size := fun b o h => (Array.getElem?_eq_some_iff.1 (hst.imm b o h)).1
  have hst1 : StRep I μ st0 [] (w.alloc (.cells #[.bool false] tb)) := hst.other (by omega) (fun b o h => hgrow b (hlt b o h)) (fun b h => hgrow b (owned_lt hst h))
  have hno : ¬ owned μ st0 w.heap.size := fun h => absurd (owned_lt hst h) (Nat.lt_irrefl _)
  have hIn : I w.heap.size = none := by
    cases h : I w.heap.size with
    | none => rfl
    | some o => exact absurd (hlt _ o h) (Nat.lt_irrefl _)
  have hcall := hE I μ _ (first ++ cap) hst1 hx
  have hrun := run_callFunc_body (w := w.alloc (.cells #[.bool false] tb)) hg hgn hgb (first ++ cap)
  rw [hrun] at hcall
  have hcall : Calls P g (first ++ cap) (w.alloc (.cells #[.bool false] tb)) (fun e w' => match e with
    | .returned _ => False
    | .panicked chain => panK (· = .iface t (.agg [])) I μ st0 (w.alloc (.cells #[.bool false] tb)) chain w'
    | .outgrown => False) := hcall
  have keep : ∀ w' I', Ext I μ st0 (w.alloc (.cells #[.bool false] tb)) I' μ [] w' → w'.heap[w.heap.size]? = some (.cells #[.bool false] tb (0, 0)) := fun w' I' he => (he.block _ (by omega) hno).trans hself
  show Calls P f _ w _
  refine Calls.mono (hs g first cap w (fun _ => False) (fun w' => ∃ I', I'.ok w' ∧ Ext I μ st0 (w.alloc (.cells #[.bool false] tb)) I' μ [] w') hrun (Calls.mono hcall ?_) (fun _ h => h.elim) (fun w' ⟨I', _, he⟩ => keep w' I' he)) ?_
  · intro e w' he
    cases e with
    | returned u => exact he.elim
    | panicked chain =>
      obtain ⟨v, x, I', h1, h2, h3, h4, h5⟩ := he
      subst h2
      cases h3 with
      | iface _ v' _ hv =>
        cases hv with
        | agg cs _ hl _ _ =>
          have : cs = #[] := Array.eq_empty_of_size_eq_zero (by simpa using hl)
          subst this
          exact ⟨h1, I', h4, h5⟩
    | outgrown => exact he.elim
  · rintro e w2 (⟨_, _, hx, _⟩ | ⟨rfl, w1, ⟨I', h2, h4⟩, rfl⟩)
    · exact hx.elim
    · have hc := keep w1 I' h4
      rw [setCell_block hc]
      have hI' : I' w.heap.size = none := (h4.old _ (by omega) hno).trans hIn
      have hsz := h4.size
      have hsame : ∀ b, b ≠ w.heap.size → b < w1.heap.size → (({ w1 with heap := w1.heap.setIfInBounds w.heap.size (.cells #[.bool false] tb (0, 0)) } : World).alloc (.cells #[] t)).heap[b]? = w1.heap[b]? := fun b hb hlt => by
        show ((w1.heap.setIfInBounds w.heap.size _).push _)[b]? = _
        rw [Array.getElem?_push, if_neg (by simp; omega)]
        exact Array.getElem?_setIfInBounds_ne (Ne.symm hb)
      refine ⟨I', μ, .imm _ _ (.bool false), ?_, Pin.refl _ _, ?_⟩
      · exact { imm := fun b o h => (hsame b (fun e => by rw [e, hI'] at h; cases h) (Array.getElem?_eq_some_iff.1 (h2 b o h)).1).trans (h2 b o h), blk := fun id blk hl => (by cases hl), apart := fun id blk g b hl => (by cases hl), inj := fun i j bi bj gi gj b hl => (by cases hl), nodup := .nil, idsFree := fun id hi => (by cases hi) }
      · exact { imm := h4.imm, os := h4.os, tape := h4.tape, output := h4.output, size := by show w.heap.size ≤ ((w1.heap.setIfInBounds w.heap.size _).push _).size; simp; omega,
                block := fun b hb ho => (hsame b (by omega) (by omega)).trans ((h4.block b (by omega) ho).trans (hgrow b hb)), fresh := fun b hb ho => h4.fresh b (by omega) ho, old := fun b hb ho => h4.old b (by omega) ho }

end
end Go.Hk

/- A panic of the text's own. -/
namespace Go.Hk

section
variable {P : Program} {n : Nat} {F : List Nat} {Q : DQ} {env : Env} {st : St} {ids : List Nat} {k : List DI}

theorem dgo_panic {all rest : List Oper} {o : Oper} {x : Operand} {t : TypeId} {v : V} (hg : o.guard = none) (ho : o.op = .panic x) (hx : evO env x = some (.imm (.iface t v))) (hq : panQ Q (.iface t v)) : DGo P n F Q (.ops all (o :: rest) :: k) env st ids := by
  intro b cs I μ a w items hd hc
  obtain ⟨j, is, rfl, hr, hk⟩ := den_ops hd
  obtain ⟨hj, _⟩ := get_of_drop hr
  have hlen : (o :: rest).length = rest.length + 1 := rfl
  rw [hlen, List.range'_succ]
  refine reach_op hj (wanted_none hg) (fun c hc => by rw [ho] at hc; cases hc) ?_
  have hon : EnvOn (o.looksAt all.toArray) I μ env a := fun t _ d hl => hc.env t d hl
  have hxr := opsOn_of hon x (by rw [ho]; simp [Op.operands]) _ hx
  obtain ⟨u, hu, hur⟩ : ∃ u, a.eval x = .iface t u ∧ RepV I (.iface t u) (.iface t v) := by
    have := hxr.immInv
    generalize a.eval x = y at this
    cases this with
    | iface _ u _ h => exact ⟨u, rfl, .iface t u v h⟩
  have hrun : (execOp a.eval o).run P w = .halt (.panic (.iface t u)) w := by simp [execOp, ho, hu, Instr.panic, goPanic]
  rw [hrun]
  have hE' : Ext I μ st w I μ [] w := { imm := Imm.le_refl I, os := rfl, tape := rfl, output := rfl, size := Nat.le_refl _, block := fun _ _ _ => rfl, fresh := fun b hb ⟨i, bi, g, h1, _⟩ => by simp [live, lk] at h1, old := fun _ _ _ => rfl }
  exact ⟨.panic (.iface t v), [], [], [], I, μ, ⟨_, rfl, hur⟩, hq, conc_nil hc.imm hc.size (hc.defers.ext hE'), .refl _ _, hE', .refl _ _⟩

end

/-- What stands in an argument is formed. -/
theorem effC_ok {P : Program} {f : FuncId} {ds : List D} {st : St} {out : Out} (j : Nat) {x : V} (hj : ds[j]? = some (.imm x)) (h : vOk x → EffC P f ds st out) : EffC P f ds st out := by
  intro I μ w xs hst hx
  have hlt : j < xs.toList.length := by rw [hx.1]; exact (List.getElem?_eq_some_iff.1 hj).1
  exact h (hx.2 j _ (.imm x) (List.getElem?_eq_getElem hlt) hj).immInv.ok I μ w xs hst hx

end Go.Hk

/- Contracts of term: what gives up, and what counts. -/
namespace Go.Hk
open Go.Proofs

/-- What is given up with. -/
def flawV : V := .iface 173 (.agg [])

def ttT : TT := ttK ++ [
  (173, ⟨.struct [], true, 0, 0, []⟩),
  (101, ⟨.struct [(0, 3), (1, 3)], true, 2, 16, [.imm (.int .i64 0), .imm (.int .i64 0)]⟩),
  (1, ⟨.func, false, 1, 8, [.imm .nilfn]⟩)]
theorem ttT_ok : TTok Tryz.prog ttT := .of_eq (l := [4, 3, 9, 26, 53, 49, 22, 24, 5, 51, 50, 29, 23, 47, 113, 66, 150, 63, 64, 111, 109, 30, 173, 101, 1]) (by kernel_rfl)

section
variable {n : Nat} {F : List Nat} {Q : DQ} {env env' : Env} {st st' : St} {ids ids' : List Nat} {k todo : List DI} {ob : List Prop}
theorem td (path : List Pt) (h : run ttT n 300 path todo env st ids [] = .at k env' st' ids' ob) (hob : allP ob) (hd : G Tryz.prog n F Q k env' st' ids') : DGo Tryz.prog n F Q todo env st ids := d_run ttT_ok mixed 300 path h hob hd
theorem tg (path : List Pt) (h : run ttT n 300 path todo env st ids [] = .at k env' st' ids' ob) (hob : allP ob) (hd : G Tryz.prog n F Q k env' st' ids') : G Tryz.prog n F Q todo env st ids := g_run ttT_ok mixed 300 path h hob hd
theorem ti {es : List (List V)} {m : Int} {sz : Nat} {e : TypeId} {g : Option (Bool × Bool)} {ob : List Prop} {t : Nat} {todo' : List DI} {c : List V} (h : pidx ttT n env todo = some ⟨es, m, sz, e, g, ob, some t, todo'⟩)
    (hc : cxOf g → 0 ≤ m ∧ es[m.toNat]? = some c ∧ c.length = sz) (hob : allP ob) (hk : G Tryz.prog n F Q todo' ((t, gD g (.ip e c 0)) :: env) st ids) : G Tryz.prog n F Q todo env st ids := g_index ttT_ok h hc hob hk
end

set_option maxRecDepth 100000 in
theorem want_yes : PureC Tryz.prog 103 [.bool true] (.tup []) := by
  refine effc_of ttT_ok Tryz.func103 (by decide +kernel) rfl [1, 2] rfl rfl ?_
  refine tg [.a] rfl (by simp) ?_
  exact dgo_end ⟨_, rfl, rfl, trivial⟩

set_option maxRecDepth 100000 in
theorem want_no : EffC Tryz.prog 103 [.imm (.bool false)] [] (.pan flawV) := by
  refine effc_of ttT_ok Tryz.func103 (by decide +kernel) rfl [1, 2] rfl rfl ?_
  refine tg [.a] rfl (by simp) ?_
  exact dgo_panic rfl rfl rfl rfl

end Go.Hk

/- Contracts of term: the gauge. -/
namespace Go.Hk
open Go.Proofs

set_option maxRecDepth 100000 in
theorem want_ok (b : Bool) (h : b = true) : PureC Tryz.prog 103 [.bool b] (.tup []) := by subst h; exact want_yes
set_option maxRecDepth 100000 in
theorem want_pan (b : Bool) (h : b = false) : EffC Tryz.prog 103 [.imm (.bool b)] [] (.pan flawV) := by subst h; exact want_no

def gaugeB (a b : Int) : Blk := .immb 101 2 [.int .i64 a, .int .i64 b]

set_option maxRecDepth 100000 in
theorem spend_yes (n d x : Int) (h0 : 1 ≤ n) (h1 : n ≤ 4611686018427387904) (hx : x ≤ d) : EffC Tryz.prog 101 [.ref 1 0, .imm (.int .i64 x)] [(1, some (gaugeB n d))] (.ret (.imm (.tup [])) [(1, some (gaugeB (n - 1) d))]) := by
  have hw : IntKind.i64.wrap (n - 1) = n - 1 := w64 (by omega) (by omega)
  refine effc_of ttT_ok Tryz.func101 (by decide +kernel) rfl [2, 3] rfl rfl ?_
  refine tg [] rfl (by simp) ?_
  refine g_pcall rfl (fun _ => want_ok _ (by simp [hw]; omega)) (by simp) ?_
  refine tg [] rfl (by simp) ?_
  refine dgo_end ⟨_, rfl, rfl, ?_⟩
  simp only [hw]
  exact ⟨rfl, trivial⟩

set_option maxRecDepth 100000 in
theorem spend_no (n d x : Int) (h0 : -1 ≤ n) (h1 : n ≤ 4611686018427387904) (hx : n < 1 ∨ d < x) : EffC Tryz.prog 101 [.ref 1 0, .imm (.int .i64 x)] [(1, some (gaugeB n d))] (.pan flawV) := by
  have hw : IntKind.i64.wrap (n - 1) = n - 1 := w64 (by omega) (by omega)
  refine effc_of ttT_ok Tryz.func101 (by decide +kernel) rfl [2, 3] rfl rfl ?_
  refine tg [] rfl (by simp) ?_
  exact dgo_callpan [] rfl (by simp) (want_pan _ (by simp [hw]; omega)) trivial rfl rfl

theorem nodesTys_drop {ps : List Ty} {i : Nat} {t : Ty} (h : ps[i]? = some t) : nodesTys (ps.drop i) = nodesTy t + nodesTys (ps.drop (i + 1)) := by rw [get_drop h]; rfl

set_option maxRecDepth 100000 in
theorem gkind_yes : ∀ (t : Ty) (n : Int), (nodesTy t : Int) ≤ n → n ≤ 4611686018427387904 → EffC Tryz.prog 106 [.ref 1 0, .imm (.agg (dTyc t))] [(1, some (gaugeB n 0))] (.ret (.imm (.tup [])) [(1, some (gaugeB (n - nodesTy t) 0))])
  | .mk s m x ps, n, h0, h1 => by
    refine effC_ok 1 rfl fun hok => ?_
    have hv : ps.length ≤ 9223372036854775807 := by
      simp [vOkL, vOk, dTyc, maxLen] at hok
      have := hok.1
      omega
    refine effc_of ttT_ok Tryz.func106 (by decide +kernel) rfl [2, 3, 4] rfl rfl ?_
    have hN : (1 : Int) + nodesTys ps ≤ n := by simp only [nodesTy] at h0; omega
    refine tg [] rfl (by simp) ?_
    refine g_call (fr := []) [(1, 1)] [] rfl (by simp) (spend_yes n 0 0 (by omega) h1 (by decide)) ⟨⟨rfl, rfl, rfl⟩, trivial⟩ rfl rfl rfl rfl ?_
    refine tg [] rfl (by simp) ?_
    refine dgo_enter (fun i : Nat => [(11, .imm (.int .i64 i)), (10, .imm (.int .i64 ps.length)), (9, .imm (.sl (dTys ps))), (0, .ref 1 0)]) (fun i => [(1, some (gaugeB (n - 1 - nodesTys (ps.take i)) 0))]) [2, 3, 4] (fun i => ps.length - i)
      (fun i => i ≤ ps.length) 0 (Nat.zero_le _) ⟨rfl, tInt (by simp), rfl, rfl, trivial⟩ ⟨by simp [nodesTys]; rfl, trivial⟩ rfl fun i hi ih => ?_
    refine td [] rfl (by simp) ?_
    refine dgo_cond rfl (fun h => ?_) (fun h => ?_)
    · simp at h
      obtain ⟨t, ht⟩ := has_get h
      have hnt := nodesTys_get ht
      have hnd := nodesTys_drop ht
      have htk : (nodesTys (ps.take (i + 1)) : Int) = nodesTys (ps.take i) + nodesTy t := by rw [get_take ht, nodesTys_append]; simp [nodesTys]
      refine td [] rfl (by simp) ?_
      refine ti rfl (c := dTyc t) (fun _ => ⟨by simp, by simpa using dTys_get ht, by simp⟩) (by simp) ?_
      refine tg [] rfl (by simp) ?_
      refine g_call (fr := []) [(1, 1)] [] rfl (by simp) (gkind_yes t (n - 1 - nodesTys (ps.take i)) (by omega) (by omega)) ⟨⟨rfl, rfl, rfl⟩, trivial⟩ rfl rfl rfl rfl ?_
      refine tg [] rfl (by simp) ?_
      exact dgo_again (ih (i + 1) (by omega) (by omega)) ⟨tInt (w64 (by omega) (by omega)), rfl, rfl, rfl, trivial⟩ ⟨congrArg (fun z => gaugeB z 0) (by omega), trivial⟩ rfl
    · refine td [] rfl (by simp) ?_
      simp at h
      refine dgo_end ⟨_, rfl, rfl, ⟨?_, trivial⟩⟩
      rw [List.take_of_length_le (by omega)]
      simp only [nodesTy]
      exact congrArg (fun z => some (some (gaugeB z 0))) (by omega)
termination_by t => SizeOf.sizeOf t
decreasing_by
  all_goals
    have := List.sizeOf_lt_of_mem (List.mem_of_getElem? ht)
    simp_wf
    omega


set_option maxRecDepth 100000 in
theorem gkind_no : ∀ (t : Ty) (n : Int), n < nodesTy t → -1 ≤ n → n ≤ 4611686018427387904 → EffC Tryz.prog 106 [.ref 1 0, .imm (.agg (dTyc t))] [(1, some (gaugeB n 0))] (.pan flawV)
  | .mk s m x ps, n, h0, hm1, h1 => by
    refine effC_ok 1 rfl fun hok => ?_
    have hv : ps.length ≤ 9223372036854775807 := by
      simp [vOkL, vOk, dTyc, maxLen] at hok
      have := hok.1
      omega
    refine effc_of ttT_ok Tryz.func106 (by decide +kernel) rfl [2, 3, 4] rfl rfl ?_
    have hN : n < (1 : Int) + nodesTys ps := by simp only [nodesTy] at h0; omega
    refine tg [] rfl (by simp) ?_
    by_cases hn : n < 1
    · exact dgo_callpan [(1, 1)] rfl (by simp) (spend_no n 0 0 (by omega) h1 (.inl hn)) ⟨⟨rfl, rfl, rfl⟩, trivial⟩ rfl rfl
    refine g_call (fr := []) [(1, 1)] [] rfl (by simp) (spend_yes n 0 0 (by omega) h1 (by decide)) ⟨⟨rfl, rfl, rfl⟩, trivial⟩ rfl rfl rfl rfl ?_
    refine tg [] rfl (by simp) ?_
    refine dgo_enter (fun i : Nat => [(11, .imm (.int .i64 i)), (10, .imm (.int .i64 ps.length)), (9, .imm (.sl (dTys ps))), (0, .ref 1 0)]) (fun i => [(1, some (gaugeB (n - 1 - nodesTys (ps.take i)) 0))]) [2, 3, 4] (fun i => ps.length - i)
      (fun i => i ≤ ps.length ∧ (nodesTys (ps.take i) : Int) ≤ n - 1 ∧ n - 1 < nodesTys (ps.take i) + nodesTys (ps.drop i)) 0 ⟨Nat.zero_le _, by simp [nodesTys]; omega, by simp [nodesTys]; omega⟩ ⟨rfl, tInt (by simp), rfl, rfl, trivial⟩ ⟨by simp [nodesTys]; rfl, trivial⟩ rfl fun i hi ih => ?_
    refine td [] rfl (by simp) ?_
    refine dgo_cond rfl (fun h => ?_) (fun h => ?_)
    · simp at h
      obtain ⟨t, ht⟩ := has_get h
      have hnt := nodesTys_get ht
      have hnd := nodesTys_drop ht
      have htk : (nodesTys (ps.take (i + 1)) : Int) = nodesTys (ps.take i) + nodesTy t := by rw [get_take ht, nodesTys_append]; simp [nodesTys]
      refine td [] rfl (by simp) ?_
      refine ti rfl (c := dTyc t) (fun _ => ⟨by simp, by simpa using dTys_get ht, by simp⟩) (by simp) ?_
      refine tg [] rfl (by simp) ?_
      by_cases hle : (nodesTy t : Int) ≤ n - 1 - nodesTys (ps.take i)
      · refine g_call (fr := []) [(1, 1)] [] rfl (by simp) (gkind_yes t (n - 1 - nodesTys (ps.take i)) (by omega) (by omega)) ⟨⟨rfl, rfl, rfl⟩, trivial⟩ rfl rfl rfl rfl ?_
        refine tg [] rfl (by simp) ?_
        exact dgo_again (ih (i + 1) (by omega) ⟨by omega, by omega, by omega⟩) ⟨tInt (w64 (by omega) (by omega)), rfl, rfl, rfl, trivial⟩ ⟨congrArg (fun z => gaugeB z 0) (by omega), trivial⟩ rfl
      · exact dgo_callpan [(1, 1)] rfl (by simp) (gkind_no t (n - 1 - nodesTys (ps.take i)) (by omega) (by omega) (by omega)) ⟨⟨rfl, rfl, rfl⟩, trivial⟩ rfl rfl
    · exfalso
      simp at h
      have := hi.2
      rw [List.take_of_length_le (by omega), List.drop_eq_nil_of_le (by omega)] at this
      simp [nodesTys] at this
      omega
termination_by t => SizeOf.sizeOf t
decreasing_by
  all_goals
    have := List.sizeOf_lt_of_mem (List.mem_of_getElem? ht)
    simp_wf
    omega


set_option maxRecDepth 100000 in
theorem gpat_yes : ∀ (t : Ty) (n : Int), (nodesTy t : Int) ≤ n → n ≤ 4611686018427387904 → EffC Tryz.prog 71 [.ref 1 0, .imm (.agg (dTyc t))] [(1, some (gaugeB n 0))] (.ret (.imm (.tup [])) [(1, some (gaugeB (n - nodesTy t) 0))])
  | .mk s m x ps, n, h0, h1 => by
    refine effC_ok 1 rfl fun hok => ?_
    have hv : ps.length ≤ 9223372036854775807 := by
      simp [vOkL, vOk, dTyc, maxLen] at hok
      have := hok.1
      omega
    refine effc_of ttT_ok Tryz.func71 (by decide +kernel) rfl [2, 3, 4] rfl rfl ?_
    have hN : (1 : Int) + nodesTys ps ≤ n := by simp only [nodesTy] at h0; omega
    refine tg [] rfl (by simp) ?_
    refine g_call (fr := []) [(1, 1)] [] rfl (by simp) (spend_yes n 0 0 (by omega) h1 (by decide)) ⟨⟨rfl, rfl, rfl⟩, trivial⟩ rfl rfl rfl rfl ?_
    refine tg [] rfl (by simp) ?_
    refine dgo_enter (fun i : Nat => [(11, .imm (.int .i64 i)), (10, .imm (.int .i64 ps.length)), (9, .imm (.sl (dTys ps))), (0, .ref 1 0)]) (fun i => [(1, some (gaugeB (n - 1 - nodesTys (ps.take i)) 0))]) [2, 3, 4] (fun i => ps.length - i)
      (fun i => i ≤ ps.length) 0 (Nat.zero_le _) ⟨rfl, tInt (by simp), rfl, rfl, trivial⟩ ⟨by simp [nodesTys]; rfl, trivial⟩ rfl fun i hi ih => ?_
    refine td [] rfl (by simp) ?_
    refine dgo_cond rfl (fun h => ?_) (fun h => ?_)
    · simp at h
      obtain ⟨t, ht⟩ := has_get h
      have hnt := nodesTys_get ht
      have hnd := nodesTys_drop ht
      have htk : (nodesTys (ps.take (i + 1)) : Int) = nodesTys (ps.take i) + nodesTy t := by rw [get_take ht, nodesTys_append]; simp [nodesTys]
      refine td [] rfl (by simp) ?_
      refine ti rfl (c := dTyc t) (fun _ => ⟨by simp, by simpa using dTys_get ht, by simp⟩) (by simp) ?_
      refine tg [] rfl (by simp) ?_
      refine g_call (fr := []) [(1, 1)] [] rfl (by simp) (gpat_yes t (n - 1 - nodesTys (ps.take i)) (by omega) (by omega)) ⟨⟨rfl, rfl, rfl⟩, trivial⟩ rfl rfl rfl rfl ?_
      refine tg [] rfl (by simp) ?_
      exact dgo_again (ih (i + 1) (by omega) (by omega)) ⟨tInt (w64 (by omega) (by omega)), rfl, rfl, rfl, trivial⟩ ⟨congrArg (fun z => gaugeB z 0) (by omega), trivial⟩ rfl
    · refine td [] rfl (by simp) ?_
      simp at h
      refine dgo_end ⟨_, rfl, rfl, ⟨?_, trivial⟩⟩
      rw [List.take_of_length_le (by omega)]
      simp only [nodesTy]
      exact congrArg (fun z => some (some (gaugeB z 0))) (by omega)
termination_by t => SizeOf.sizeOf t
decreasing_by
  all_goals
    have := List.sizeOf_lt_of_mem (List.mem_of_getElem? ht)
    simp_wf
    omega


set_option maxRecDepth 100000 in
theorem gpat_no : ∀ (t : Ty) (n : Int), n < nodesTy t → -1 ≤ n → n ≤ 4611686018427387904 → EffC Tryz.prog 71 [.ref 1 0, .imm (.agg (dTyc t))] [(1, some (gaugeB n 0))] (.pan flawV)
  | .mk s m x ps, n, h0, hm1, h1 => by
    refine effC_ok 1 rfl fun hok => ?_
    have hv : ps.length ≤ 9223372036854775807 := by
      simp [vOkL, vOk, dTyc, maxLen] at hok
      have := hok.1
      omega
    refine effc_of ttT_ok Tryz.func71 (by decide +kernel) rfl [2, 3, 4] rfl rfl ?_
    have hN : n < (1 : Int) + nodesTys ps := by simp only [nodesTy] at h0; omega
    refine tg [] rfl (by simp) ?_
    by_cases hn : n < 1
    · exact dgo_callpan [(1, 1)] rfl (by simp) (spend_no n 0 0 (by omega) h1 (.inl hn)) ⟨⟨rfl, rfl, rfl⟩, trivial⟩ rfl rfl
    refine g_call (fr := []) [(1, 1)] [] rfl (by simp) (spend_yes n 0 0 (by omega) h1 (by decide)) ⟨⟨rfl, rfl, rfl⟩, trivial⟩ rfl rfl rfl rfl ?_
    refine tg [] rfl (by simp) ?_
    refine dgo_enter (fun i : Nat => [(11, .imm (.int .i64 i)), (10, .imm (.int .i64 ps.length)), (9, .imm (.sl (dTys ps))), (0, .ref 1 0)]) (fun i => [(1, some (gaugeB (n - 1 - nodesTys (ps.take i)) 0))]) [2, 3, 4] (fun i => ps.length - i)
      (fun i => i ≤ ps.length ∧ (nodesTys (ps.take i) : Int) ≤ n - 1 ∧ n - 1 < nodesTys (ps.take i) + nodesTys (ps.drop i)) 0 ⟨Nat.zero_le _, by simp [nodesTys]; omega, by simp [nodesTys]; omega⟩ ⟨rfl, tInt (by simp), rfl, rfl, trivial⟩ ⟨by simp [nodesTys]; rfl, trivial⟩ rfl fun i hi ih => ?_
    refine td [] rfl (by simp) ?_
    refine dgo_cond rfl (fun h => ?_) (fun h => ?_)
    · simp at h
      obtain ⟨t, ht⟩ := has_get h
      have hnt := nodesTys_get ht
      have hnd := nodesTys_drop ht
      have htk : (nodesTys (ps.take (i + 1)) : Int) = nodesTys (ps.take i) + nodesTy t := by rw [get_take ht, nodesTys_append]; simp [nodesTys]
      refine td [] rfl (by simp) ?_
      refine ti rfl (c := dTyc t) (fun _ => ⟨by simp, by simpa using dTys_get ht, by simp⟩) (by simp) ?_
      refine tg [] rfl (by simp) ?_
      by_cases hle : (nodesTy t : Int) ≤ n - 1 - nodesTys (ps.take i)
      · refine g_call (fr := []) [(1, 1)] [] rfl (by simp) (gpat_yes t (n - 1 - nodesTys (ps.take i)) (by omega) (by omega)) ⟨⟨rfl, rfl, rfl⟩, trivial⟩ rfl rfl rfl rfl ?_
        refine tg [] rfl (by simp) ?_
        exact dgo_again (ih (i + 1) (by omega) ⟨by omega, by omega, by omega⟩) ⟨tInt (w64 (by omega) (by omega)), rfl, rfl, rfl, trivial⟩ ⟨congrArg (fun z => gaugeB z 0) (by omega), trivial⟩ rfl
      · exact dgo_callpan [(1, 1)] rfl (by simp) (gpat_no t (n - 1 - nodesTys (ps.take i)) (by omega) (by omega) (by omega)) ⟨⟨rfl, rfl, rfl⟩, trivial⟩ rfl rfl
    · exfalso
      simp at h
      have := hi.2
      rw [List.take_of_length_le (by omega), List.drop_eq_nil_of_le (by omega)] at this
      simp [nodesTys] at this
      omega
termination_by t => SizeOf.sizeOf t
decreasing_by
  all_goals
    have := List.sizeOf_lt_of_mem (List.mem_of_getElem? ht)
    simp_wf
    omega


theorem weighTms_neg : ∀ (ts : List Tm) (l d : Int), l < 0 → weighTms ts l d < 0
  | [], l, d, h => h
  | t :: r, l, d, h => by simp only [weighTms]; rw [if_neg (by omega)]; exact h

set_option maxRecDepth 100000 in
theorem gterm_yes : ∀ (t : Tm) (n dp x : Int), 0 ≤ n → n ≤ 4611686018427387904 → 0 ≤ dp → dp ≤ 1000000 → 0 ≤ x → x ≤ 1000001 → 0 ≤ weighTm t n (dp - x + 1) → EffC Tryz.prog 68 [.ref 1 0, .imm (.agg (dTmc t)), .imm (.int .i64 x)] [(1, some (gaugeB n dp))] (.ret (.imm (.tup [])) [(1, some (gaugeB (weighTm t n (dp - x + 1)) dp))])
  | .mk op nn tx ks ps, n, dp, x, h0, h1, hd0, hd1, hx0, hx1, hw => by
    refine effC_ok 1 rfl fun hok => ?_
    have hv : ks.length ≤ 9223372036854775807 := by
      simp [vOkL, vOk, dTmc, maxLen] at hok
      have := hok.1
      omega
    refine effc_of ttT_ok Tryz.func68 (by decide +kernel) rfl [2, 3, 4] rfl rfl ?_
    have hst : ¬ (n < 1 ∨ dp - x + 1 < 1) → weighTm (.mk op nn tx ks ps) n (dp - x + 1) = weighTms ks (n - 1) (dp - x) := fun h => by
      simp only [weighTm]; rw [if_neg h]; congr 1; omega
    refine tg [] rfl (by simp) ?_
    by_cases hs : n < 1 ∨ dp - x + 1 < 1
    · exfalso
      simp only [weighTm] at hw
      rw [if_pos hs] at hw
      omega
    have hs' : 1 ≤ n ∧ x ≤ dp := by omega
    refine g_call (fr := []) [(1, 1)] [] rfl (by simp) (spend_yes n dp x (by omega) h1 (by omega)) ⟨⟨rfl, rfl, rfl⟩, trivial⟩ rfl rfl rfl rfl ?_
    refine tg [] rfl (by simp) ?_
    refine dgo_enter (fun y : Nat × Int => [(14, .imm (.int .i64 y.1)), (13, .imm (.int .i64 ks.length)), (12, .imm (.sl (dTms ks))), (0, .ref 1 0), (2, .imm (.int .i64 x))]) (fun y => [(1, some (gaugeB y.2 dp))]) [2, 3, 4] (fun y => ks.length - y.1)
      (fun y => y.1 ≤ ks.length ∧ weighTm (.mk op nn tx ks ps) n (dp - x + 1) = weighTms (ks.drop y.1) y.2 (dp - x) ∧ 0 ≤ y.2 ∧ y.2 ≤ n) (0, n - 1) ⟨Nat.zero_le _, by simp only [List.drop_zero]; exact hst hs, by simp only; omega, by simp only; omega⟩ ⟨rfl, tInt (by simp), rfl, rfl, rfl, trivial⟩ ⟨rfl, trivial⟩ rfl fun y hi ih => ?_
    obtain ⟨i, m⟩ := y
    obtain ⟨hi1, hi2, hi3, hi4⟩ := hi
    simp only at hi1 hi2 hi3 hi4
    refine td [] rfl (by simp) ?_
    refine dgo_cond rfl (fun h => ?_) (fun h => ?_)
    · simp at h
      obtain ⟨t, ht⟩ := has_get h
      rw [get_drop ht] at hi2
      simp only [weighTms] at hi2
      rw [if_pos hi3] at hi2
      have hb := weighTm_le t m (dp - x)
      have hx : IntKind.i64.wrap (x + 1) = x + 1 := w64 (by omega) (by omega)
      refine td [] rfl (by simp) ?_
      refine ti rfl (c := dTmc t) (fun _ => ⟨by simp, by simpa using dTms_get ht, by simp⟩) (by simp) ?_
      refine tg [] rfl (by simp) ?_
      have hdx : dp - (x + 1) + 1 = dp - x := by omega
      have hz : 0 ≤ weighTm t m (dp - x) := by
        rw [hi2] at hw
        rcases Int.lt_or_le (weighTm t m (dp - x)) 0 with hl | hl
        · exfalso
          have := weighTms_neg (ks.drop (i + 1)) (weighTm t m (dp - x)) (dp - x) hl
          omega
        · exact hl
      refine g_call (fr := []) [(1, 1)] [] rfl (by simp) (gterm_yes t m dp (IntKind.i64.wrap (x + 1)) hi3 (by omega) hd0 hd1 (by omega) (by omega) (by rw [hx, hdx]; exact hz)) ⟨⟨rfl, rfl, rfl⟩, trivial⟩ rfl rfl rfl rfl ?_
      refine tg [] rfl (by simp) ?_
      exact dgo_again (ih (i + 1, weighTm t m (dp - x)) (by simp only; omega) ⟨by simp only; omega, hi2, by simp only; exact hz, by simp only; omega⟩) ⟨tInt (w64 (by omega) (by omega)), rfl, rfl, rfl, rfl, trivial⟩ ⟨congrArg (fun z => gaugeB z dp) (by simp only [hx, hdx]), trivial⟩ rfl
    · refine td [] rfl (by simp) ?_
      simp at h
      refine dgo_end ⟨_, rfl, rfl, ⟨?_, trivial⟩⟩
      rw [List.drop_eq_nil_of_le (by omega)] at hi2
      simp only [weighTms] at hi2
      rw [hi2]
      rfl
termination_by t => SizeOf.sizeOf t
decreasing_by
  all_goals
    have := List.sizeOf_lt_of_mem (List.mem_of_getElem? ht)
    simp_wf
    omega

set_option maxRecDepth 100000 in
theorem gterm_no : ∀ (t : Tm) (n dp x : Int), 0 ≤ n → n ≤ 4611686018427387904 → 0 ≤ dp → dp ≤ 1000000 → 0 ≤ x → x ≤ 1000001 → weighTm t n (dp - x + 1) < 0 → EffC Tryz.prog 68 [.ref 1 0, .imm (.agg (dTmc t)), .imm (.int .i64 x)] [(1, some (gaugeB n dp))] (.pan flawV)
  | .mk op nn tx ks ps, n, dp, x, h0, h1, hd0, hd1, hx0, hx1, hw => by
    refine effC_ok 1 rfl fun hok => ?_
    have hv : ks.length ≤ 9223372036854775807 := by
      simp [vOkL, vOk, dTmc, maxLen] at hok
      have := hok.1
      omega
    refine effc_of ttT_ok Tryz.func68 (by decide +kernel) rfl [2, 3, 4] rfl rfl ?_
    have hst : ¬ (n < 1 ∨ dp - x + 1 < 1) → weighTm (.mk op nn tx ks ps) n (dp - x + 1) = weighTms ks (n - 1) (dp - x) := fun h => by
      simp only [weighTm]; rw [if_neg h]; congr 1; omega
    refine tg [] rfl (by simp) ?_
    by_cases hs : n < 1 ∨ dp - x + 1 < 1
    · exact dgo_callpan [(1, 1)] rfl (by simp) (spend_no n dp x (by omega) h1 (by omega)) ⟨⟨rfl, rfl, rfl⟩, trivial⟩ rfl rfl
    have hs' : 1 ≤ n ∧ x ≤ dp := by omega
    refine g_call (fr := []) [(1, 1)] [] rfl (by simp) (spend_yes n dp x (by omega) h1 (by omega)) ⟨⟨rfl, rfl, rfl⟩, trivial⟩ rfl rfl rfl rfl ?_
    refine tg [] rfl (by simp) ?_
    refine dgo_enter (fun y : Nat × Int => [(14, .imm (.int .i64 y.1)), (13, .imm (.int .i64 ks.length)), (12, .imm (.sl (dTms ks))), (0, .ref 1 0), (2, .imm (.int .i64 x))]) (fun y => [(1, some (gaugeB y.2 dp))]) [2, 3, 4] (fun y => ks.length - y.1)
      (fun y => y.1 ≤ ks.length ∧ weighTm (.mk op nn tx ks ps) n (dp - x + 1) = weighTms (ks.drop y.1) y.2 (dp - x) ∧ 0 ≤ y.2 ∧ y.2 ≤ n) (0, n - 1) ⟨Nat.zero_le _, by simp only [List.drop_zero]; exact hst hs, by simp only; omega, by simp only; omega⟩ ⟨rfl, tInt (by simp), rfl, rfl, rfl, trivial⟩ ⟨rfl, trivial⟩ rfl fun y hi ih => ?_
    obtain ⟨i, m⟩ := y
    obtain ⟨hi1, hi2, hi3, hi4⟩ := hi
    simp only at hi1 hi2 hi3 hi4
    refine td [] rfl (by simp) ?_
    refine dgo_cond rfl (fun h => ?_) (fun h => ?_)
    · simp at h
      obtain ⟨t, ht⟩ := has_get h
      rw [get_drop ht] at hi2
      simp only [weighTms] at hi2
      rw [if_pos hi3] at hi2
      have hb := weighTm_le t m (dp - x)
      have hx : IntKind.i64.wrap (x + 1) = x + 1 := w64 (by omega) (by omega)
      refine td [] rfl (by simp) ?_
      refine ti rfl (c := dTmc t) (fun _ => ⟨by simp, by simpa using dTms_get ht, by simp⟩) (by simp) ?_
      refine tg [] rfl (by simp) ?_
      have hdx : dp - (x + 1) + 1 = dp - x := by omega
      by_cases hz : 0 ≤ weighTm t m (dp - x)
      · refine g_call (fr := []) [(1, 1)] [] rfl (by simp) (gterm_yes t m dp (IntKind.i64.wrap (x + 1)) hi3 (by omega) hd0 hd1 (by omega) (by omega) (by rw [hx, hdx]; exact hz)) ⟨⟨rfl, rfl, rfl⟩, trivial⟩ rfl rfl rfl rfl ?_
        refine tg [] rfl (by simp) ?_
        exact dgo_again (ih (i + 1, weighTm t m (dp - x)) (by simp only; omega) ⟨by simp only; omega, hi2, by simp only; exact hz, by simp only; omega⟩) ⟨tInt (w64 (by omega) (by omega)), rfl, rfl, rfl, rfl, trivial⟩ ⟨congrArg (fun z => gaugeB z dp) (by simp only [hx, hdx]), trivial⟩ rfl
      · exact dgo_callpan [(1, 1)] rfl (by simp) (gterm_no t m dp (IntKind.i64.wrap (x + 1)) hi3 (by omega) hd0 hd1 (by omega) (by omega) (by rw [hx, hdx]; omega)) ⟨⟨rfl, rfl, rfl⟩, trivial⟩ rfl rfl
    · exfalso
      simp at h
      rw [List.drop_eq_nil_of_le (by omega)] at hi2
      simp only [weighTms] at hi2
      omega
termination_by t => SizeOf.sizeOf t
decreasing_by
  all_goals
    have := List.sizeOf_lt_of_mem (List.mem_of_getElem? ht)
    simp_wf
    omega

end Go.Hk

/- Strings that are gone through, rune by rune; maps that are owned. -/
namespace Go.Hk

structure PRng where
  s : List UInt8
  id' : Nat
  ids' : List Nat
  dst : Option Nat
  todo : List DI

/-- A string is gone through: the iterator. -/
def prng (tt : TT) (n : Nat) (env : Env) (ids : List Nat) (todo : List DI) : Option PRng :=
  match opAt todo, ids with
  | some o, id' :: ids' => match o.guard, o.op with
    | none, .range t x => match lk tt t, evO env x, dstOk n o.dst, next1 todo ([], [id']) with
      | some { sh := .str, .. }, some (.imm (.str s)), true, some (_, _, todo') => some ⟨s, id', ids', o.dst, todo'⟩
      | _, _, _, _ => none
    | _, _ => none
  | _, _ => none

structure PNxt where
  s : List UInt8
  pos : Nat
  id : Nat
  dst : Option Nat
  todo : List DI

def pnxt (n : Nat) (env : Env) (st : St) (wr : Bool) (todo : List DI) : Option PNxt :=
  match opAt todo with
  | some o => match o.guard, o.op with
    | none, .next x true => match evO env x, dstOk n o.dst with
      | some (.iter id), true => match lk st id, next1 todo ([id], bif wr then [id] else []) with
        | some (some (.siter s pos)), some (_, _, todo') => some ⟨s, pos, id, o.dst, todo'⟩
        | _, _ => none
      | _, _ => none
    | _, _ => none
  | none => none

def decodeL (s : List UInt8) (pos : Nat) : Nat × Nat := Utf8.decode ⟨s.toArray⟩ pos

section
variable {P : Program} {n : Nat} {F : List Nat} {Q : DQ} {tt : TT} {env env' : Env} {st st' : St} {ids ids' : List Nat} {k todo todo' : List DI} {I : Imm} {μ : Mu} {w : World} {a : Act} {Pn : V → Prop} {d : D} {cx : Prop} {ob : List Prop}

theorem ok_of_sem' {s : Sem Value} {v : Value} {w' : World} (h : s.run P w = .ok v w') : (do pure (.value (← s)) : Sem Next).run P w = .ok (.value v) w' := by simp [h]

theorem RepD.iterInv {v : Value} {id : Nat} (h : RepD I μ v (.iter id)) : ∃ b, v = .pointer (some ⟨b, 0, none⟩) ∧ μ id = some v := by
  cases h with
  | iter _ b h => exact ⟨b, rfl, h⟩

theorem g_srange (htt : TTok P tt) {s0 : List UInt8} {i0 : Nat} {ids0 : List Nat} {d0 : Option Nat} {todo0 : List DI} (h : prng tt n env ids todo = some ⟨s0, i0, ids0, d0, todo0⟩) (hk : G P n F Q todo0 (putE d0 (.iter i0) env) ((i0, some (.siter s0 0)) :: st) ids0) : G P n F Q todo env st ids := by
  unfold prng at h
  split at h
  · rename_i o id' ids' ho
    split at h
    · rename_i t x hg hop
      split at h
      · rename_i _ _ _ _ s all o' todo' ht hx hd h1
        cases h
        have ho' : o' = o := opAt_next ho h1
        subst ho'
        refine g_step (fr := [i0]) (wr := [(i0, some (.siter s0 0))]) (rd := []) h1 ?_ hd (fun c hc => by rw [hop] at hc; cases hc) hk
        intro I μ st1 ids1 a w hag hst hon
        refine ⟨fun _ => ?_, fun hw => by rw [wanted_none hg] at hw; cases hw⟩
        have hops := opsOn_of hon
        rw [hop] at hops
        obtain ⟨bs, e1, e2⟩ := (hops x (by simp [Op.operands]) _ hx).immInv.strInv
        have hu : P.underlying t = some .string := htt.sh ht
        have hrun : (execOp a.eval o').run P w = .ok (.value (.pointer (some ⟨w.heap.size, 0, none⟩))) (w.alloc (.stringIter bs 0)) := by
          simp only [execOp, hop, e1]
          refine ok_of_sem' ?_
          simp only [Instr.range, Sem.run_bind, run_underlying hu, Result.andThen_ok, Sem.run_pure, run_newObj]
          rfl
        rw [hrun]
        obtain ⟨μ', q1, q2, q3, q4⟩ := hst.allocO (.stringIter bs 0) (.pointer (some ⟨w.heap.size, 0, none⟩)) (fun _ h => Eq.symm h) (.siter s0 0) (fun μ' _ => ⟨w.heap.size, bs, rfl, heapNew w _, e2⟩)
        exact ⟨I, μ', q3, .iter _ _ q1, q2, q4⟩
      · cases h
    · cases h
  · cases h

theorem siter_run {id pos : Nat} {s : List UInt8} {v : Value} (hst : StRep I μ st ids w) (hl : live st id (.siter s pos)) (hv : RepD I μ v (.iter id)) :
    ∃ b, v = .pointer (some ⟨b, 0, none⟩) ∧ μ id = some v ∧ w.heap[b]? = some (.stringIter ⟨s.toArray⟩ pos) := by
  obtain ⟨b, rfl, hm⟩ := hv.iterInv
  obtain ⟨g, hg, b', bs, rfl, hheap, hs⟩ := hst.blk id _ hl
  rw [hm] at hg; cases hg
  refine ⟨b, rfl, hm, ?_⟩
  rw [hheap, ← hs]

theorem g_snext {s0 : List UInt8} {p0 i0 : Nat} {d0 : Option Nat} {todo0 : List DI} (h : pnxt n env st true todo = some ⟨s0, p0, i0, d0, todo0⟩) (hp : p0 < s0.length) {dc : Nat × Nat} (hdc : decodeL s0 p0 = dc)
    (hk : G P n F Q todo0 (putE d0 (.imm (.tup [.bool true, .int .i64 p0, .int .i32 dc.1])) env) ((i0, some (.siter s0 (p0 + dc.2))) :: st) ids) : G P n F Q todo env st ids := by
  subst hdc
  unfold pnxt at h
  split at h
  · rename_i o ho
    split at h
    · rename_i x hg hop
      split at h
      · rename_i id hx hd
        split at h
        · rename_i s pos all o' todo' hl h1
          cases h
          have ho' : o' = o := opAt_next ho h1
          subst ho'
          refine g_step (fr := []) (wr := [(i0, some (.siter s0 (p0 + (decodeL s0 p0).2)))]) (rd := [i0]) h1 ?_ hd (fun c hc => by rw [hop] at hc; cases hc) hk
          intro I μ st1 ids1 a w hag hst hon
          refine ⟨fun _ => ?_, fun hw => by rw [wanted_none hg] at hw; cases hw⟩
          have hops := opsOn_of hon
          rw [hop] at hops
          have hl1 : live st1 i0 (.siter s0 p0) := by unfold live; rw [hag i0 (by simp)]; exact hl
          obtain ⟨b, e1, hm, hheap⟩ := siter_run hst hl1 (hops x (by simp [Op.operands]) _ hx)
          have hget : (getObj b).run P w = .ok (.stringIter ⟨s0.toArray⟩ p0) w := by simp [getObj, Sem.run, hheap]
          have hset : (setObj b (.stringIter ⟨s0.toArray⟩ (p0 + (decodeL s0 p0).2))).run P w = .ok () { w with heap := w.heap.setIfInBounds b (.stringIter ⟨s0.toArray⟩ (p0 + (decodeL s0 p0).2)) } := by simp [setObj, Sem.run, hheap]
          have hlt : p0 < (ByteArray.mk s0.toArray).size := by simpa [ByteArray.size] using hp
          have hrun : (execOp a.eval o').run P w = .ok (.value (.tuple #[.bool true, .int .i64 p0, .int .i32 (decodeL s0 p0).1])) { w with heap := w.heap.setIfInBounds b (.stringIter ⟨s0.toArray⟩ (p0 + (decodeL s0 p0).2)) } := by
            simp only [execOp, hop, e1]
            refine ok_of_sem' ?_
            simp only [Instr.next, Sem.run_bind, hget, Result.andThen_ok, if_pos hlt]
            have : (setObj b (.stringIter ⟨s0.toArray⟩ (p0 + (Utf8.decode ⟨s0.toArray⟩ p0).2))).run P w = _ := hset
            simp only [Sem.run_bind, this, Result.andThen_ok, Sem.run_pure]
            rfl
          rw [hrun]
          have hbl := lt_of_heap hheap
          obtain ⟨q1, q2⟩ := hst.update (blk' := .siter s0 (p0 + (decodeL s0 p0).2)) (w' := { w with heap := w.heap.setIfInBounds b (.stringIter ⟨s0.toArray⟩ (p0 + (decodeL s0 p0).2)) }) hl1 hm (by rw [e1]; rfl) (by simp) rfl rfl rfl
            (fun k hk => Array.getElem?_setIfInBounds_ne (Ne.symm hk)) ⟨b, ⟨s0.toArray⟩, e1, by simp [hbl], rfl⟩
          refine ⟨I, μ, q1, .imm _ _ (.tup _ _ rfl fun i c x hc hx => ?_), Mu.le_refl μ, q2⟩
          match i, hc, hx with
          | 0, hc, hx => cases hc; cases hx; exact .bool _
          | 1, hc, hx => cases hc; cases hx; exact .int _ _
          | 2, hc, hx => cases hc; cases hx; exact .int _ _
          | i + 3, hc, hx => simp at hx
        · cases h
      · cases h
    · cases h
  · cases h

theorem g_sover {s0 : List UInt8} {p0 i0 : Nat} {d0 : Option Nat} {todo0 : List DI} (h : pnxt n env st false todo = some ⟨s0, p0, i0, d0, todo0⟩) (hp : s0.length ≤ p0)
    (hk : G P n F Q todo0 (putE d0 (.imm (.tup [.bool false])) env) st ids) : G P n F Q todo env st ids := by
  unfold pnxt at h
  split at h
  · rename_i o ho
    split at h
    · rename_i x hg hop
      split at h
      · rename_i id hx hd
        split at h
        · rename_i s pos all o' todo' hl h1
          cases h
          have ho' : o' = o := opAt_next ho h1
          subst ho'
          refine g_step (fr := []) (wr := []) (rd := [i0]) h1 ?_ hd (fun c hc => by rw [hop] at hc; cases hc) hk
          intro I μ st1 ids1 a w hag hst hon
          refine ⟨fun _ => ?_, fun hw => by rw [wanted_none hg] at hw; cases hw⟩
          have hops := opsOn_of hon
          rw [hop] at hops
          have hl1 : live st1 i0 (.siter s0 p0) := by unfold live; rw [hag i0 (by simp)]; exact hl
          obtain ⟨b, e1, hm, hheap⟩ := siter_run hst hl1 (hops x (by simp [Op.operands]) _ hx)
          have hget : (getObj b).run P w = .ok (.stringIter ⟨s0.toArray⟩ p0) w := by simp [getObj, Sem.run, hheap]
          have hlt : ¬ p0 < (ByteArray.mk s0.toArray).size := by simpa [ByteArray.size] using hp
          have hrun : (execOp a.eval o').run P w = .ok (.value (.tuple #[.bool false])) w := by
            simp only [execOp, hop, e1]
            refine ok_of_sem' ?_
            simp only [Instr.next, Sem.run_bind, hget, Result.andThen_ok, if_neg hlt, Sem.run_pure]
          rw [hrun]
          refine ⟨I, μ, hst, .imm _ _ (.tup _ _ rfl fun i c x hc hx => ?_), Mu.le_refl μ, Ext.refl _ _ _ _⟩
          match i, hc, hx with
          | 0, hc, hx => cases hc; cases hx; exact .bool _
          | i + 1, hc, hx => simp at hx
        · cases h
      · cases h
    · cases h
  · cases h

end
end Go.Hk

/- Contracts of term: names. -/
namespace Go.Hk
open Go.Proofs

theorem decode_low {s : Str} {pos : Nat} {c : UInt8} (h : s[pos]? = some c) (hc : c.toNat < 128) : decodeL s pos = (c.toNat, 1) := by
  have hg : (ByteArray.mk s.toArray).get! pos = c := by simp [ByteArray.get!, h]
  simp only [decodeL, Utf8.decode, Nat.add_zero, hg]
  rw [if_pos hc]

theorem decode_high {s : Str} {pos : Nat} {c : UInt8} (h : s[pos]? = some c) (hc : 128 ≤ c.toNat) : 128 ≤ (decodeL s pos).1 := by
  have hg : (ByteArray.mk s.toArray).get! pos = c := by simp [ByteArray.get!, h]
  simp only [decodeL, Utf8.decode, Nat.add_zero, hg, Utf8.runeError]
  rw [if_neg (by omega)]
  repeat' split
  all_goals first | (simp only; omega) | decide | (simp only [Bool.and_eq_true, decide_eq_true_eq] at *; omega)

theorem decode_width (s : Str) (pos : Nat) : 1 ≤ (decodeL s pos).2 := by
  simp only [decodeL, Utf8.decode]
  repeat' split
  all_goals simp

set_option maxRecDepth 100000 in
theorem tsmall_ok (s : Str) : PureC Tryz.prog 84 [.str s] (.bool (smallS s)) := by
  refine effc_of ttT_ok Tryz.func84 (by decide +kernel) rfl [1, 2] rfl rfl ?_
  refine tg [] rfl (by simp) ?_
  refine g_srange ttT_ok rfl ?_
  refine tg [] rfl (by simp) ?_
  refine dgo_enter (fun i : Nat => [(6, .iter 1)]) (fun i => [(1, some (.siter s i))]) [2] (fun i => s.length - i) (fun i => i ≤ s.length ∧ smallS s = smallS (s.drop i)) 0
    ⟨Nat.zero_le _, rfl⟩ ⟨rfl, trivial⟩ ⟨rfl, trivial⟩ rfl fun i hi ih => ?_
  refine td [] rfl (by simp) ?_
  by_cases hl : i < s.length
  · obtain ⟨c, hc⟩ := has_get hl
    have e := hi.2
    rw [smallS_drop hc] at e
    by_cases hlow : c.toNat < 128
    · refine g_snext rfl hl (decode_low hc hlow) ?_
      refine tg [.a] rfl (by simp) ?_
      refine dgo_cond rfl (fun h => ?_) (fun h => ?_)
      · refine td [] rfl (by simp) ?_
        refine dgo_ret ⟨_, rfl, tV (congrArg _ ?_), trivial⟩
        rw [e]; simp at h; simp [UInt8.le_iff_toNat_le]; omega
      · refine td [] rfl (by simp) ?_
        refine dgo_again (ih (i + 1) (by omega) ⟨by omega, ?_⟩) ⟨rfl, trivial⟩ ⟨rfl, trivial⟩ rfl
        rw [e]; simp at h; simp [UInt8.le_iff_toNat_le]; omega
    · refine g_snext (dc := decodeL s i) rfl hl rfl ?_
      have hh := decode_high hc (by omega)
      refine tg [.a] rfl (by simp) ?_
      refine dgo_cond rfl (fun h => ?_) (fun h => ?_)
      · refine td [] rfl (by simp) ?_
        refine dgo_ret ⟨_, rfl, tV (congrArg _ ?_), trivial⟩
        rw [e]; simp [UInt8.le_iff_toNat_le]; omega
      · exfalso
        simp at h
        omega
  · refine g_sover rfl (by omega) ?_
    refine tg [.a] rfl (by simp) ?_
    refine dgo_ret ⟨_, rfl, tV (congrArg _ ?_), trivial⟩
    rw [hi.2, List.drop_eq_nil_of_le (by omega)]; rfl

set_option maxRecDepth 100000 in
theorem keyword_no (s : Str) (h : keyS s = false) : PureC Tryz.prog 85 [.str s] (.bool false) := by
  simp only [keyS, keywordsL, hasS, Bool.or_eq_false_iff] at h
  refine effc_of ttT_ok Tryz.func85 (by decide +kernel) rfl [1, 2] rfl rfl ?_
  refine tg [.f, .f, .f, .f, .f, .f, .f, .f, .f, .f, .f, .f, .f, .f, .f, .f, .f, .f, .f, .f, .f, .f, .f, .f, .f, .f, .f, .f, .f] rfl (by simp at h; simp; grind) ?_
  exact dgo_ret ⟨_, rfl, tV rfl, trivial⟩

set_option maxRecDepth 100000 in
theorem keyword_0 : PureC Tryz.prog 85 [.str [98, 111, 111, 108]] (.bool true) := by
  refine effc_of ttT_ok Tryz.func85 (by decide +kernel) rfl [1, 2] rfl rfl ?_
  refine tg [.a, .a] rfl (by simp) ?_
  exact dgo_ret ⟨_, rfl, tV rfl, trivial⟩

set_option maxRecDepth 100000 in
theorem keyword_1 : PureC Tryz.prog 85 [.str [99, 101, 108, 108]] (.bool true) := by
  refine effc_of ttT_ok Tryz.func85 (by decide +kernel) rfl [1, 2] rfl rfl ?_
  refine tg [.a, .a, .a] rfl (by simp) ?_
  exact dgo_ret ⟨_, rfl, tV rfl, trivial⟩

set_option maxRecDepth 100000 in
theorem keyword_2 : PureC Tryz.prog 85 [.str [99, 104, 97, 110]] (.bool true) := by
  refine effc_of ttT_ok Tryz.func85 (by decide +kernel) rfl [1, 2] rfl rfl ?_
  refine tg [.a, .a, .a, .a] rfl (by simp) ?_
  exact dgo_ret ⟨_, rfl, tV rfl, trivial⟩

set_option maxRecDepth 100000 in
theorem keyword_3 : PureC Tryz.prog 85 [.str [101, 108, 115, 101]] (.bool true) := by
  refine effc_of ttT_ok Tryz.func85 (by decide +kernel) rfl [1, 2] rfl rfl ?_
  refine tg [.a, .a, .a, .a, .a] rfl (by simp) ?_
  exact dgo_ret ⟨_, rfl, tV rfl, trivial⟩

set_option maxRecDepth 100000 in
theorem keyword_4 : PureC Tryz.prog 85 [.str [102, 97, 108, 115, 101]] (.bool true) := by
  refine effc_of ttT_ok Tryz.func85 (by decide +kernel) rfl [1, 2] rfl rfl ?_
  refine tg [.a, .a, .a, .a, .a, .a] rfl (by simp) ?_
  exact dgo_ret ⟨_, rfl, tV rfl, trivial⟩

set_option maxRecDepth 100000 in
theorem keyword_5 : PureC Tryz.prog 85 [.str [102, 117, 110]] (.bool true) := by
  refine effc_of ttT_ok Tryz.func85 (by decide +kernel) rfl [1, 2] rfl rfl ?_
  refine tg [.a, .a, .a, .a, .a, .a, .a] rfl (by simp) ?_
  exact dgo_ret ⟨_, rfl, tV rfl, trivial⟩

set_option maxRecDepth 100000 in
theorem keyword_6 : PureC Tryz.prog 85 [.str [103, 101, 116]] (.bool true) := by
  refine effc_of ttT_ok Tryz.func85 (by decide +kernel) rfl [1, 2] rfl rfl ?_
  refine tg [.a, .a, .a, .a, .a, .a, .a, .a] rfl (by simp) ?_
  exact dgo_ret ⟨_, rfl, tV rfl, trivial⟩

set_option maxRecDepth 100000 in
theorem keyword_7 : PureC Tryz.prog 85 [.str [105, 102]] (.bool true) := by
  refine effc_of ttT_ok Tryz.func85 (by decide +kernel) rfl [1, 2] rfl rfl ?_
  refine tg [.a, .a, .a, .a, .a, .a, .a, .a, .a] rfl (by simp) ?_
  exact dgo_ret ⟨_, rfl, tV rfl, trivial⟩

set_option maxRecDepth 100000 in
theorem keyword_8 : PureC Tryz.prog 85 [.str [105, 110]] (.bool true) := by
  refine effc_of ttT_ok Tryz.func85 (by decide +kernel) rfl [1, 2] rfl rfl ?_
  refine tg [.a, .a, .a, .a, .a, .a, .a, .a, .a, .a] rfl (by simp) ?_
  exact dgo_ret ⟨_, rfl, tV rfl, trivial⟩

set_option maxRecDepth 100000 in
theorem keyword_9 : PureC Tryz.prog 85 [.str [105, 110, 112, 117, 116]] (.bool true) := by
  refine effc_of ttT_ok Tryz.func85 (by decide +kernel) rfl [1, 2] rfl rfl ?_
  refine tg [.a, .a, .a, .a, .a, .a, .a, .a, .a, .a, .a] rfl (by simp) ?_
  exact dgo_ret ⟨_, rfl, tV rfl, trivial⟩

set_option maxRecDepth 100000 in
theorem keyword_10 : PureC Tryz.prog 85 [.str [105, 110, 116]] (.bool true) := by
  refine effc_of ttT_ok Tryz.func85 (by decide +kernel) rfl [1, 2] rfl rfl ?_
  refine tg [.a, .a, .a, .a, .a, .a, .a, .a, .a, .a, .a, .a] rfl (by simp) ?_
  exact dgo_ret ⟨_, rfl, tV rfl, trivial⟩

set_option maxRecDepth 100000 in
theorem keyword_11 : PureC Tryz.prog 85 [.str [106, 111, 105, 110]] (.bool true) := by
  refine effc_of ttT_ok Tryz.func85 (by decide +kernel) rfl [1, 2] rfl rfl ?_
  refine tg [.a, .a, .a, .a, .a, .a, .a, .a, .a, .a, .a, .a, .a] rfl (by simp) ?_
  exact dgo_ret ⟨_, rfl, tV rfl, trivial⟩

set_option maxRecDepth 100000 in
theorem keyword_12 : PureC Tryz.prog 85 [.str [108, 101, 116]] (.bool true) := by
  refine effc_of ttT_ok Tryz.func85 (by decide +kernel) rfl [1, 2] rfl rfl ?_
  refine tg [.a, .a, .a, .a, .a, .a, .a, .a, .a, .a, .a, .a, .a, .a] rfl (by simp) ?_
  exact dgo_ret ⟨_, rfl, tV rfl, trivial⟩

set_option maxRecDepth 100000 in
theorem keyword_13 : PureC Tryz.prog 85 [.str [109, 97, 116, 99, 104]] (.bool true) := by
  refine effc_of ttT_ok Tryz.func85 (by decide +kernel) rfl [1, 2] rfl rfl ?_
  refine tg [.a, .a, .a, .a, .a, .a, .a, .a, .a, .a, .a, .a, .a, .a, .a] rfl (by simp) ?_
  exact dgo_ret ⟨_, rfl, tV rfl, trivial⟩

set_option maxRecDepth 100000 in
theorem keyword_14 : PureC Tryz.prog 85 [.str [109, 111, 100, 117, 108, 101]] (.bool true) := by
  refine effc_of ttT_ok Tryz.func85 (by decide +kernel) rfl [1, 2] rfl rfl ?_
  refine tg [.a, .a, .a, .a, .a, .a, .a, .a, .a, .a, .a, .a, .a, .a, .a, .a] rfl (by simp) ?_
  exact dgo_ret ⟨_, rfl, tV rfl, trivial⟩

set_option maxRecDepth 100000 in
theorem keyword_15 : PureC Tryz.prog 85 [.str [111, 117, 116]] (.bool true) := by
  refine effc_of ttT_ok Tryz.func85 (by decide +kernel) rfl [1, 2] rfl rfl ?_
  refine tg [.a, .a, .a, .a, .a, .a, .a, .a, .a, .a, .a, .a, .a, .a, .a, .a, .a] rfl (by simp) ?_
  exact dgo_ret ⟨_, rfl, tV rfl, trivial⟩

set_option maxRecDepth 100000 in
theorem keyword_16 : PureC Tryz.prog 85 [.str [112, 97, 117, 115, 101]] (.bool true) := by
  refine effc_of ttT_ok Tryz.func85 (by decide +kernel) rfl [1, 2] rfl rfl ?_
  refine tg [.a, .a, .a, .a, .a, .a, .a, .a, .a, .a, .a, .a, .a, .a, .a, .a, .a, .a] rfl (by simp) ?_
  exact dgo_ret ⟨_, rfl, tV rfl, trivial⟩

set_option maxRecDepth 100000 in
theorem keyword_17 : PureC Tryz.prog 85 [.str [112, 117, 116]] (.bool true) := by
  refine effc_of ttT_ok Tryz.func85 (by decide +kernel) rfl [1, 2] rfl rfl ?_
  refine tg [.a, .a, .a, .a, .a, .a, .a, .a, .a, .a, .a, .a, .a, .a, .a, .a, .a, .a, .a] rfl (by simp) ?_
  exact dgo_ret ⟨_, rfl, tV rfl, trivial⟩

set_option maxRecDepth 100000 in
theorem keyword_18 : PureC Tryz.prog 85 [.str [114, 101, 115, 101, 116]] (.bool true) := by
  refine effc_of ttT_ok Tryz.func85 (by decide +kernel) rfl [1, 2] rfl rfl ?_
  refine tg [.a, .a, .a, .a, .a, .a, .a, .a, .a, .a, .a, .a, .a, .a, .a, .a, .a, .a, .a, .a] rfl (by simp) ?_
  exact dgo_ret ⟨_, rfl, tV rfl, trivial⟩

set_option maxRecDepth 100000 in
theorem keyword_19 : PureC Tryz.prog 85 [.str [115, 101, 110, 100]] (.bool true) := by
  refine effc_of ttT_ok Tryz.func85 (by decide +kernel) rfl [1, 2] rfl rfl ?_
  refine tg [.a, .a, .a, .a, .a, .a, .a, .a, .a, .a, .a, .a, .a, .a, .a, .a, .a, .a, .a, .a, .a] rfl (by simp) ?_
  exact dgo_ret ⟨_, rfl, tV rfl, trivial⟩

set_option maxRecDepth 100000 in
theorem keyword_20 : PureC Tryz.prog 85 [.str [115, 104, 105, 102, 116]] (.bool true) := by
  refine effc_of ttT_ok Tryz.func85 (by decide +kernel) rfl [1, 2] rfl rfl ?_
  refine tg [.a, .a, .a, .a, .a, .a, .a, .a, .a, .a, .a, .a, .a, .a, .a, .a, .a, .a, .a, .a, .a, .a] rfl (by simp) ?_
  exact dgo_ret ⟨_, rfl, tV rfl, trivial⟩

set_option maxRecDepth 100000 in
theorem keyword_21 : PureC Tryz.prog 85 [.str [115, 112, 97, 119, 110]] (.bool true) := by
  refine effc_of ttT_ok Tryz.func85 (by decide +kernel) rfl [1, 2] rfl rfl ?_
  refine tg [.a, .a, .a, .a, .a, .a, .a, .a, .a, .a, .a, .a, .a, .a, .a, .a, .a, .a, .a, .a, .a, .a, .a] rfl (by simp) ?_
  exact dgo_ret ⟨_, rfl, tV rfl, trivial⟩

set_option maxRecDepth 100000 in
theorem keyword_22 : PureC Tryz.prog 85 [.str [116, 97, 107, 101]] (.bool true) := by
  refine effc_of ttT_ok Tryz.func85 (by decide +kernel) rfl [1, 2] rfl rfl ?_
  refine tg [.a, .a, .a, .a, .a, .a, .a, .a, .a, .a, .a, .a, .a, .a, .a, .a, .a, .a, .a, .a, .a, .a, .a, .a] rfl (by simp) ?_
  exact dgo_ret ⟨_, rfl, tV rfl, trivial⟩

set_option maxRecDepth 100000 in
theorem keyword_23 : PureC Tryz.prog 85 [.str [116, 97, 115, 107]] (.bool true) := by
  refine effc_of ttT_ok Tryz.func85 (by decide +kernel) rfl [1, 2] rfl rfl ?_
  refine tg [.a, .a, .a, .a, .a, .a, .a, .a, .a, .a, .a, .a, .a, .a, .a, .a, .a, .a, .a, .a, .a, .a, .a, .a, .a] rfl (by simp) ?_
  exact dgo_ret ⟨_, rfl, tV rfl, trivial⟩

set_option maxRecDepth 100000 in
theorem keyword_24 : PureC Tryz.prog 85 [.str [116, 104, 101, 110]] (.bool true) := by
  refine effc_of ttT_ok Tryz.func85 (by decide +kernel) rfl [1, 2] rfl rfl ?_
  refine tg [.a, .a, .a, .a, .a, .a, .a, .a, .a, .a, .a, .a, .a, .a, .a, .a, .a, .a, .a, .a, .a, .a, .a, .a, .a, .a] rfl (by simp) ?_
  exact dgo_ret ⟨_, rfl, tV rfl, trivial⟩

set_option maxRecDepth 100000 in
theorem keyword_25 : PureC Tryz.prog 85 [.str [116, 114, 117, 101]] (.bool true) := by
  refine effc_of ttT_ok Tryz.func85 (by decide +kernel) rfl [1, 2] rfl rfl ?_
  refine tg [.a, .a, .a, .a, .a, .a, .a, .a, .a, .a, .a, .a, .a, .a, .a, .a, .a, .a, .a, .a, .a, .a, .a, .a, .a, .a, .a] rfl (by simp) ?_
  exact dgo_ret ⟨_, rfl, tV rfl, trivial⟩

set_option maxRecDepth 100000 in
theorem keyword_26 : PureC Tryz.prog 85 [.str [116, 121, 112, 101]] (.bool true) := by
  refine effc_of ttT_ok Tryz.func85 (by decide +kernel) rfl [1, 2] rfl rfl ?_
  refine tg [.a, .a, .a, .a, .a, .a, .a, .a, .a, .a, .a, .a, .a, .a, .a, .a, .a, .a, .a, .a, .a, .a, .a, .a, .a, .a, .a, .a] rfl (by simp) ?_
  exact dgo_ret ⟨_, rfl, tV rfl, trivial⟩

set_option maxRecDepth 100000 in
theorem keyword_27 : PureC Tryz.prog 85 [.str [117, 110, 105, 116]] (.bool true) := by
  refine effc_of ttT_ok Tryz.func85 (by decide +kernel) rfl [1, 2] rfl rfl ?_
  refine tg [.a, .a, .a, .a, .a, .a, .a, .a, .a, .a, .a, .a, .a, .a, .a, .a, .a, .a, .a, .a, .a, .a, .a, .a, .a, .a, .a, .a, .a] rfl (by simp) ?_
  exact dgo_ret ⟨_, rfl, tV rfl, trivial⟩

set_option maxRecDepth 100000 in
theorem keyword_ok (s : Str) : PureC Tryz.prog 85 [.str s] (.bool (keyS s)) := by
  cases h : keyS s with
  | false => exact keyword_no s h
  | true =>
    simp only [keyS, keywordsL, hasS, Bool.or_eq_true, beq_iff_eq, Bool.or_false] at h
    rcases h with rfl | rfl | rfl | rfl | rfl | rfl | rfl | rfl | rfl | rfl | rfl | rfl | rfl | rfl | rfl | rfl | rfl | rfl | rfl | rfl | rfl | rfl | rfl | rfl | rfl | rfl | rfl | rfl
    · exact keyword_0
    · exact keyword_1
    · exact keyword_2
    · exact keyword_3
    · exact keyword_4
    · exact keyword_5
    · exact keyword_6
    · exact keyword_7
    · exact keyword_8
    · exact keyword_9
    · exact keyword_10
    · exact keyword_11
    · exact keyword_12
    · exact keyword_13
    · exact keyword_14
    · exact keyword_15
    · exact keyword_16
    · exact keyword_17
    · exact keyword_18
    · exact keyword_19
    · exact keyword_20
    · exact keyword_21
    · exact keyword_22
    · exact keyword_23
    · exact keyword_24
    · exact keyword_25
    · exact keyword_26
    · exact keyword_27

set_option maxRecDepth 100000 in
theorem tName_ok (s : Str) : PureC Tryz.prog 45 [.str s] (.bool (nameS s)) := by
  refine effc_of ttT_ok Tryz.func45 (by decide +kernel) rfl [1, 2] rfl rfl ?_
  refine tg [] rfl (by simp) ?_
  refine g_pcall rfl (v := .bool (smallS s)) (fun h => tsmall_ok s) (by simp [cxOf]) ?_
  refine tg [] rfl (by simp) ?_
  refine g_pcall rfl (v := .bool (keyS s)) (fun h => keyword_ok s) (by simp [cxOf]) ?_
  refine tg [] rfl (by simp) ?_
  refine dgo_ret ⟨_, rfl, tV (congrArg _ ?_), trivial⟩
  cases s with
  | nil => simp [nameS]
  | cons a r => simp [nameS]; norm_cast; simp

set_option maxRecDepth 100000 in
theorem tGreat_ok (s : Str) : PureC Tryz.prog 46 [.str s] (.bool (greatS s)) := by
  refine effc_of ttT_ok Tryz.func46 (by decide +kernel) rfl [1, 2] rfl rfl ?_
  refine tg [] rfl (by cases s with | nil => simp [cxOf] | cons a r => simp [cxOf]; omega) ?_
  refine g_pcall rfl (v := .bool (smallS (s.drop 1))) (fun h => tsmall_ok _) (by simp [cxOf]) ?_
  refine tg [] rfl (by simp) ?_
  refine dgo_ret ⟨_, rfl, tV (congrArg _ ?_), trivial⟩
  cases s with
  | nil => simp [greatS]
  | cons a r => simp [greatS, UInt8.le_iff_toNat_le, Bool.and_assoc]; norm_cast; simp

def integerB (n : Int) : Bool := decide (-1000000000 ≤ n) && decide (n ≤ 1000000000)

set_option maxRecDepth 100000 in
theorem integer_ok (n : Int) : PureC Tryz.prog 104 [.int .i64 n] (.bool (integerB n)) := by
  refine effc_of ttT_ok Tryz.func104 (by decide +kernel) rfl [1, 2] rfl rfl ?_
  refine tg [] rfl (by simp) ?_
  refine dgo_ret ⟨_, rfl, tV (congrArg _ ?_), trivial⟩
  simp [integerB]

end Go.Hk

/- Contracts of term: types. -/
namespace Go.Hk
open Go.Proofs

def unitV : D := .imm (.tup [])

theorem sortBk (k p : Nat) : ((k : Int) == (p : Int)) = decide (k = p) := by
  rw [Bool.eq_iff_iff]; simp; omega

set_option maxRecDepth 100000 in
theorem tsorts_yes (holes : Bool) : ∀ (t : Ty), sortsTy holes t = true → EffC Tryz.prog 107 [.imm (.agg (dTyc t)), .imm (.bool holes)] [] (.ret unitV [])
  | .mk s n x ps, hy => by
    refine effC_ok 0 rfl fun hok => ?_
    have hv : ps.length ≤ 9223372036854775807 := by
      simp [vOkL, vOk, dTyc, maxLen] at hok
      have := hok.1
      omega
    simp only [sortsTy, Bool.and_eq_true_iff] at hy
    refine effc_of ttT_ok Tryz.func107 (by decide +kernel) rfl [1, 2, 3] rfl rfl ?_
    have J : ∀ p : Nat, sortB holes s n x ps.length = (((ps.length : Int) == (p : Int)) && (s == 9 || n == 0) && (s == 8 || x == [])) → DGo Tryz.prog Tryz.f107.ntmps (nms []) (RetQ ttT Tryz.f107.results.toList (.ret unitV []))
        [.code (tailC Tryz.f107 3)] [(4, .imm (.int .i64 p)), (1, .imm (.bool holes)), (2, .ref 1 0)] [(1, some (.immb 53 4 (dTyc (.mk s n x ps))))] [2, 3] := by
      intro p hp
      have hc : (((ps.length : Int) == (p : Int)) && (s == 9 || n == 0) && (s == 8 || x == [])) = true := by rw [← hp]; exact hy.1
      refine td [] rfl (by simp [cxOf]; grind) ?_
      refine g_pcall rfl (fun _ => want_ok _ ?_) (by simp) ?_
      · simp at hc ⊢; grind
      refine tg [] rfl (by simp) ?_
      refine dgo_enter (fun i : Nat => [(69, .imm (.int .i64 i)), (68, .imm (.int .i64 ps.length)), (67, .imm (.sl (dTys ps))), (1, .imm (.bool holes)), (2, .ref 1 0)]) (fun _ => [(1, some (.immb 53 4 (dTyc (.mk s n x ps))))]) [2, 3] (fun i => ps.length - i)
        (fun i => i ≤ ps.length ∧ sortsTys holes (ps.drop i) = true) 0 ⟨Nat.zero_le _, hy.2⟩ ⟨rfl, tInt (by simp), rfl, rfl, rfl, trivial⟩ ⟨rfl, trivial⟩ rfl fun i hi ih => ?_
      refine td [] rfl (by simp) ?_
      have hi2 := hi.2
      refine dgo_cond rfl (fun h => ?_) (fun h => ?_)
      · simp at h
        obtain ⟨t, ht⟩ := has_get h
        rw [get_drop ht] at hi2
        simp only [sortsTys, Bool.and_eq_true_iff] at hi2
        refine td [] rfl (by simp) ?_
        refine ti rfl (c := dTyc t) (fun _ => ⟨by simp, by simpa using dTys_get ht, by simp⟩) (by simp) ?_
        refine tg [] rfl (by simp) ?_
        refine g_call (fr := []) [] [] rfl (by simp) (tsorts_yes holes t hi2.1) trivial rfl rfl rfl rfl ?_
        refine tg [] rfl (by simp) ?_
        exact dgo_again (ih (i + 1) (by omega) ⟨by omega, hi2.2⟩) ⟨tInt (w64 (by omega) (by omega)), rfl, rfl, rfl, rfl, trivial⟩ ⟨rfl, trivial⟩ rfl
      · refine td [] rfl (by simp) ?_
        exact dgo_end ⟨_, rfl, rfl, trivial⟩
    by_cases h1 : s = 1
    · subst h1
      refine tg [.a, .a, .s] rfl (by simp) ?_
      exact dgo_again (J 0 (by simp [sortB])) ⟨rfl, rfl, rfl, trivial⟩ ⟨rfl, trivial⟩ rfl
    by_cases h2 : s = 2
    · subst h2
      refine tg [.a, .a, .a, .s] rfl (by simp) ?_
      exact dgo_again (J 0 (by simp [sortB])) ⟨rfl, rfl, rfl, trivial⟩ ⟨rfl, trivial⟩ rfl
    by_cases h3 : s = 3
    · subst h3
      refine tg [.a, .a, .a, .s] rfl (by simp) ?_
      exact dgo_again (J 0 (by simp [sortB])) ⟨rfl, rfl, rfl, trivial⟩ ⟨rfl, trivial⟩ rfl
    by_cases h4 : s = 4
    · subst h4
      refine tg [.a, .a, .a, .a, .s] rfl (by simp) ?_
      exact dgo_again (J 2 (by simp [sortB])) ⟨rfl, rfl, rfl, trivial⟩ ⟨rfl, trivial⟩ rfl
    by_cases h5 : s = 5
    · subst h5
      refine tg [.a, .a, .a, .a, .a, .a, .s] rfl (by simp) ?_
      exact dgo_again (J 1 (by simp [sortB])) ⟨rfl, rfl, rfl, trivial⟩ ⟨rfl, trivial⟩ rfl
    by_cases h6 : s = 6
    · subst h6
      refine tg [.a, .a, .a, .a, .a, .a, .a, .s] rfl (by simp) ?_
      exact dgo_again (J 1 (by simp [sortB])) ⟨rfl, rfl, rfl, trivial⟩ ⟨rfl, trivial⟩ rfl
    by_cases h7 : s = 7
    · subst h7
      refine tg [.a, .a, .a, .a, .a, .a, .a, .s] rfl (by simp) ?_
      exact dgo_again (J 1 (by simp [sortB])) ⟨rfl, rfl, rfl, trivial⟩ ⟨rfl, trivial⟩ rfl
    by_cases h8 : s = 8
    · subst h8
      by_cases hg : greatS x = true
      · refine tg [.a, .a, .a, .a, .a, .a, .a, .a] rfl (by simp [cxOf]) ?_
        refine g_pcall rfl (fun _ => tGreat_ok x) (by simp) ?_
        refine tg [] rfl (by simp) ?_
        refine g_pcall rfl (fun _ => want_ok _ hg) (by simp) ?_
        refine tg [.s] rfl (by simp) ?_
        exact dgo_again (J 0 (by simp [sortB, hg])) ⟨rfl, rfl, rfl, trivial⟩ ⟨rfl, trivial⟩ rfl
      · exfalso
        have := hy.1
        simp [sortB] at this
        simp at hg
        grind
    by_cases h9 : s = 9
    · subst h9
      by_cases hg : (holes && inI n 0 99) = true
      · refine tg [.a, .a, .a, .a, .a, .a, .a, .a, .a] rfl (by simp [cxOf]) ?_
        refine g_pcall rfl (fun _ => want_ok _ (by simp [inI] at hg ⊢; grind)) (by simp) ?_
        refine tg [.s] rfl (by simp) ?_
        exact dgo_again (J 0 (by simp [sortB, inI] at hg ⊢; grind)) ⟨rfl, rfl, rfl, trivial⟩ ⟨rfl, trivial⟩ rfl
      · exfalso
        have := hy.1
        simp [sortB] at this
        simp at hg
        grind
    exfalso
    have := hy.1
    simp [sortB, h1, h2, h3, h4, h5, h6, h7, h8, h9] at this
termination_by t => SizeOf.sizeOf t
decreasing_by
  all_goals
    have := List.sizeOf_lt_of_mem (List.mem_of_getElem? ht)
    simp_wf
    omega

set_option maxRecDepth 100000 in
theorem tsorts_no (holes : Bool) : ∀ (t : Ty), sortsTy holes t = false → EffC Tryz.prog 107 [.imm (.agg (dTyc t)), .imm (.bool holes)] [] (.pan flawV)
  | .mk s n x ps, hy => by
    refine effC_ok 0 rfl fun hok => ?_
    have hv : ps.length ≤ 9223372036854775807 := by
      simp [vOkL, vOk, dTyc, maxLen] at hok
      have := hok.1
      omega
    simp only [sortsTy, Bool.and_eq_false_iff] at hy
    refine effc_of ttT_ok Tryz.func107 (by decide +kernel) rfl [1, 2, 3] rfl rfl ?_
    have J : ∀ p : Nat, sortB holes s n x ps.length = (((ps.length : Int) == (p : Int)) && (s == 9 || n == 0) && (s == 8 || x == [])) → DGo Tryz.prog Tryz.f107.ntmps (nms []) (RetQ ttT Tryz.f107.results.toList (.pan flawV))
        [.code (tailC Tryz.f107 3)] [(4, .imm (.int .i64 p)), (1, .imm (.bool holes)), (2, .ref 1 0)] [(1, some (.immb 53 4 (dTyc (.mk s n x ps))))] [2, 3] := by
      intro p hp
      by_cases hc : (((ps.length : Int) == (p : Int)) && (s == 9 || n == 0) && (s == 8 || x == [])) = true
      rotate_left
      · refine td [] rfl (by simp [cxOf]; grind) ?_
        exact dgo_callpan [] rfl (by simp) (want_pan _ (by simp at hc ⊢; grind)) trivial rfl rfl
      rw [hp, hc] at hy
      simp only [Bool.true_eq_false, false_or] at hy
      refine td [] rfl (by simp [cxOf]; grind) ?_
      refine g_pcall rfl (fun _ => want_ok _ ?_) (by simp) ?_
      · simp at hc ⊢; grind
      refine tg [] rfl (by simp) ?_
      refine dgo_enter (fun i : Nat => [(69, .imm (.int .i64 i)), (68, .imm (.int .i64 ps.length)), (67, .imm (.sl (dTys ps))), (1, .imm (.bool holes)), (2, .ref 1 0)]) (fun _ => [(1, some (.immb 53 4 (dTyc (.mk s n x ps))))]) [2, 3] (fun i => ps.length - i)
        (fun i => i ≤ ps.length ∧ sortsTys holes (ps.drop i) = false) 0 ⟨Nat.zero_le _, hy⟩ ⟨rfl, tInt (by simp), rfl, rfl, rfl, trivial⟩ ⟨rfl, trivial⟩ rfl fun i hi ih => ?_
      refine td [] rfl (by simp) ?_
      have hi2 := hi.2
      refine dgo_cond rfl (fun h => ?_) (fun h => ?_)
      · simp at h
        obtain ⟨t, ht⟩ := has_get h
        rw [get_drop ht] at hi2
        simp only [sortsTys, Bool.and_eq_false_iff] at hi2
        refine td [] rfl (by simp) ?_
        refine ti rfl (c := dTyc t) (fun _ => ⟨by simp, by simpa using dTys_get ht, by simp⟩) (by simp) ?_
        refine tg [] rfl (by simp) ?_
        by_cases hz : sortsTy holes t = true
        · refine g_call (fr := []) [] [] rfl (by simp) (tsorts_yes holes t hz) trivial rfl rfl rfl rfl ?_
          refine tg [] rfl (by simp) ?_
          exact dgo_again (ih (i + 1) (by omega) ⟨by omega, by rw [hz] at hi2; simpa using hi2⟩) ⟨tInt (w64 (by omega) (by omega)), rfl, rfl, rfl, rfl, trivial⟩ ⟨rfl, trivial⟩ rfl
        · exact dgo_callpan [] rfl (by simp) (tsorts_no holes t (by simpa using hz)) trivial rfl rfl
      · exfalso
        simp at h
        rw [List.drop_eq_nil_of_le (by omega)] at hi2
        simp [sortsTys] at hi2
    by_cases h1 : s = 1
    · subst h1
      refine tg [.a, .a, .s] rfl (by simp) ?_
      exact dgo_again (J 0 (by simp [sortB])) ⟨rfl, rfl, rfl, trivial⟩ ⟨rfl, trivial⟩ rfl
    by_cases h2 : s = 2
    · subst h2
      refine tg [.a, .a, .a, .s] rfl (by simp) ?_
      exact dgo_again (J 0 (by simp [sortB])) ⟨rfl, rfl, rfl, trivial⟩ ⟨rfl, trivial⟩ rfl
    by_cases h3 : s = 3
    · subst h3
      refine tg [.a, .a, .a, .s] rfl (by simp) ?_
      exact dgo_again (J 0 (by simp [sortB])) ⟨rfl, rfl, rfl, trivial⟩ ⟨rfl, trivial⟩ rfl
    by_cases h4 : s = 4
    · subst h4
      refine tg [.a, .a, .a, .a, .s] rfl (by simp) ?_
      exact dgo_again (J 2 (by simp [sortB])) ⟨rfl, rfl, rfl, trivial⟩ ⟨rfl, trivial⟩ rfl
    by_cases h5 : s = 5
    · subst h5
      refine tg [.a, .a, .a, .a, .a, .a, .s] rfl (by simp) ?_
      exact dgo_again (J 1 (by simp [sortB])) ⟨rfl, rfl, rfl, trivial⟩ ⟨rfl, trivial⟩ rfl
    by_cases h6 : s = 6
    · subst h6
      refine tg [.a, .a, .a, .a, .a, .a, .a, .s] rfl (by simp) ?_
      exact dgo_again (J 1 (by simp [sortB])) ⟨rfl, rfl, rfl, trivial⟩ ⟨rfl, trivial⟩ rfl
    by_cases h7 : s = 7
    · subst h7
      refine tg [.a, .a, .a, .a, .a, .a, .a, .s] rfl (by simp) ?_
      exact dgo_again (J 1 (by simp [sortB])) ⟨rfl, rfl, rfl, trivial⟩ ⟨rfl, trivial⟩ rfl
    by_cases h8 : s = 8
    · subst h8
      by_cases hg : greatS x = true
      · refine tg [.a, .a, .a, .a, .a, .a, .a, .a] rfl (by simp [cxOf]) ?_
        refine g_pcall rfl (fun _ => tGreat_ok x) (by simp) ?_
        refine tg [] rfl (by simp) ?_
        refine g_pcall rfl (fun _ => want_ok _ hg) (by simp) ?_
        refine tg [.s] rfl (by simp) ?_
        exact dgo_again (J 0 (by simp [sortB, hg])) ⟨rfl, rfl, rfl, trivial⟩ ⟨rfl, trivial⟩ rfl
      · refine tg [.a, .a, .a, .a, .a, .a, .a, .a] rfl (by simp [cxOf]) ?_
        refine g_pcall rfl (fun _ => tGreat_ok x) (by simp) ?_
        refine tg [] rfl (by simp) ?_
        exact dgo_callpan [] rfl (by simp) (want_pan _ (by simpa using hg)) trivial rfl rfl
    by_cases h9 : s = 9
    · subst h9
      by_cases hg : (holes && inI n 0 99) = true
      · refine tg [.a, .a, .a, .a, .a, .a, .a, .a, .a] rfl (by simp [cxOf]) ?_
        refine g_pcall rfl (fun _ => want_ok _ (by simp [inI] at hg ⊢; grind)) (by simp) ?_
        refine tg [.s] rfl (by simp) ?_
        exact dgo_again (J 0 (by simp [sortB, inI] at hg ⊢; grind)) ⟨rfl, rfl, rfl, trivial⟩ ⟨rfl, trivial⟩ rfl
      · refine tg [.a, .a, .a, .a, .a, .a, .a, .a, .a] rfl (by simp [cxOf]) ?_
        exact dgo_callpan [] rfl (by simp) (want_pan _ (by simp [inI] at hg ⊢; grind)) trivial rfl rfl
    refine tg [.f, .f, .f, .f, .f, .f, .f, .f, .f] rfl (by simp [h1, h2, h3, h4, h5, h6, h7, h8, h9]) ?_
    exact dgo_callpan [] rfl (by simp) (want_pan _ rfl) trivial rfl rfl
termination_by t => SizeOf.sizeOf t
decreasing_by
  all_goals
    have := List.sizeOf_lt_of_mem (List.mem_of_getElem? ht)
    simp_wf
    omega

end Go.Hk

/- A function that does something and tells whether it gave up: the walks of term.holds and of what it defers. -/
namespace Go.Hk
open Go.Proofs

theorem hmf : ∀ (fn : Fn) (first cap : Array Value) (w : World), (Instr.makeFunc fn first cap).run Tryz.prog w = .ok (.func fn first cap) w := fun _ _ _ _ => rfl

/-- What is deferred, where nothing was given up with. -/
theorem hcatch_idle (p : Addr) (w : World) :
    CallsD Tryz.prog 129 #[.pointer (some p)] .returning w fun e u' w' => e = .returned (.tuple #[]) ∧ u' = .returning ∧ w' = w := by
  refine callsD_of_wpS Tryz.func129 rfl fun c₀ cs hu => ?_
  apply wpS_seq
  apply wpS_region
  simp [wpOpsS, go_sem, recoverD, hu, Tryz.ntmps129, Exit.thenS]
  apply wpS_seq
  apply wpS_region
  simp [wpOpsS, go_sem, Exit.thenS]
  refine wpS_cond (t := false) (by simp [Act.eval, Array.replicate]) ?_
  simp only [if_false, Bool.false_eq_true]
  refine wpS_of_wp (wp_skip ?_)
  cases c₀
  simp_all [bodyPostS, results, Tryz.results129]

set_option maxRecDepth 100000 in
/-- What is deferred, where a flaw was given up with. -/
theorem hcatch_flaw (pb : Nat) (x : Value) (w : World) (hpb : pb < w.heap.size) (hx : w.cell? ⟨pb, 0, none⟩ = some x) (hz : w.frozen? ⟨pb, 0, none⟩ = false) :
    CallsD Tryz.prog 129 #[.pointer (some ⟨pb, 0, none⟩)] (.panicking [{ v := .iface 173 (.agg #[]), recovered := false }]) w fun e u' w' => e = .returned (.tuple #[]) ∧
      u' = .panicking [{ v := .iface 173 (.agg #[]), recovered := true }] ∧ w' = (w.setCell ⟨pb, 0, none⟩ (.bool false)).alloc (.cells #[] 173) := by
  refine callsD_of_wpS Tryz.func129 rfl fun c₀ cs hu => ?_
  change Code.wpS _ _ _ { tmps := #[.pointer (some ⟨pb, 0, none⟩), undef, undef, undef, undef, undef, undef, undef, undef, undef, undef, undef, undef, undef, undef], defers := [] } _ _
  apply wpS_seq
  apply wpS_region
  simp [wpOpsS, go_sem, recoverD, hu, Tryz.ntmps129, Exit.thenS]
  apply wpS_seq
  apply wpS_region
  simp [wpOpsS, go_sem, Exit.thenS]
  refine wpS_cond (t := true) (by simp [Act.eval, Array.replicate]) ?_
  simp only [if_true]
  refine wpS_of_wp ?_
  clear hu
  have hta : ∀ w : World, (Instr.typeAssert (.iface 173 (.agg #[])) 20 173 true).run Tryz.prog w = .ok (.tuple #[.agg #[], .bool true]) w := fun _ => by kernel_rfl
  have hx' : (w.alloc (.cells #[] 173)).cell? ⟨pb, 0, none⟩ = some x := by rw [World.cell?_alloc_past _ _ _ hpb]; exact hx
  have hz' : (w.alloc (.cells #[] 173)).frozen? ⟨pb, 0, none⟩ = false := by rw [RowKit.frozen?_alloc_cells]; exact hz
  go_wp2
  simp [bodyPostS, results, Tryz.results129]

set_option maxRecDepth 100000 in
theorem holds_calls (g : FuncId) (fi ca : Array Value) (w : World) (K : World → Prop) (Kp : World → Prop)
    (hen : (callFunc g (fi ++ ca)).run Tryz.prog (w.alloc (.cells #[.bool false] 4)) = .ok (.enter g (fi ++ ca)) (w.alloc (.cells #[.bool false] 4)))
    (hcall : Calls Tryz.prog g (fi ++ ca) (w.alloc (.cells #[.bool false] 4)) fun e w' => match e with
      | .returned _ => K w'
      | .panicked chain => chain = [{ v := .iface 173 (.agg #[]), recovered := false }] ∧ Kp w'
      | .outgrown => False)
    (hK : ∀ w', K w' → w'.heap[w.heap.size]? = some (.cells #[.bool false] 4 (0, 0))) (hKp : ∀ w', Kp w' → w'.heap[w.heap.size]? = some (.cells #[.bool false] 4 (0, 0))) :
    Calls Tryz.prog 100 #[.func (.func g) fi ca] w fun e w' => (e = .returned (.bool true) ∧ ∃ w1, K w1 ∧ w' = w1.setCell ⟨w.heap.size, 0, none⟩ (.bool true)) ∨
      (e = .returned (.bool false) ∧ ∃ w1, Kp w1 ∧ w' = (w1.setCell ⟨w.heap.size, 0, none⟩ (.bool false)).alloc (.cells #[] 173)) := by
  go_enter_defers Tryz.func100, Tryz.ntmps100
  have hmf := hmf
  go_wp2_with fail
  clear hen
  refine hcall.mono ?_
  intro e w' he
  cases e with
  | outgrown => exact he.elim
  | returned v =>
    have hc : w'.cell? ⟨w.heap.size, 0, none⟩ = some (.bool false) := by unfold World.cell?; simp [hK w' he]
    have hz : w'.frozen? ⟨w.heap.size, 0, none⟩ = false := by unfold World.frozen?; simp [hK w' he]
    simp only
    go_wp2
    refine leaves_cons (f := 129) (args := #[.pointer (some ⟨w.heap.size, 0, none⟩)]) (by simp) (by simp [go_sem]) ?_
    refine (hcatch_idle ⟨w.heap.size, 0, none⟩ _).mono ?_
    rintro e u' w'' ⟨rfl, rfl, rfl⟩
    simp [Leaves, settle, results, Tryz.results100, go_sem, hc]
    exact ⟨w', he, rfl⟩
  | panicked chain =>
    obtain ⟨rfl, he⟩ := he
    have hc : w'.cell? ⟨w.heap.size, 0, none⟩ = some (.bool false) := by unfold World.cell?; simp [hKp w' he]
    have hz : w'.frozen? ⟨w.heap.size, 0, none⟩ = false := by unfold World.frozen?; simp [hKp w' he]
    have hlt : w.heap.size < w'.heap.size := (Array.getElem?_eq_some_iff.1 (hKp w' he)).1
    refine leaves_cons (f := 129) (args := #[.pointer (some ⟨w.heap.size, 0, none⟩)]) (by simp) (by simp [go_sem]) ?_
    refine (hcatch_flaw w.heap.size _ _ hlt hc hz).mono ?_
    rintro e u' w'' ⟨rfl, rfl, rfl⟩
    have hc2 : ((w'.setCell ⟨w.heap.size, 0, none⟩ (.bool false)).alloc (.cells #[] 173)).cell? ⟨w.heap.size, 0, none⟩ = some (.bool false) := by
      rw [setCell_block (hKp w' he), World.cell?_alloc_past _ _ _ (by simpa using hlt)]
      unfold World.cell?
      simp [hlt]
    simp [Leaves, settle, results, Tryz.results100, go_sem, hc2]
    exact ⟨w', he, rfl⟩

theorem holds_spec : HoldsSpec Tryz.prog 100 173 4 := fun g fi ca w K Kp h1 h2 h3 h4 => holds_calls g fi ca w K Kp h1 h2 h3 h4

end Go.Hk

/- Contracts of term: types that are formed. -/
namespace Go.Hk
open Go.Proofs


set_option maxRecDepth 100000 in
theorem checked1_yes {g : FuncId} {fg : Func} {cg : Code} (hg : Tryz.prog.funcs[g]? = some fg) (hn : (fg.name == "runtime.NumGoroutine") = false) (hc : fg.body = some cg) {t1 : TypeId} {s1 : Nat} {x1 y1 : List V} (hE : EffC Tryz.prog g [.ref 1 0] [(1, some (.immb t1 s1 x1))] (.ret unitV [(1, some (.immb t1 s1 y1))])) :
    EffC Tryz.prog 66 [.fn (.func g) [] [.ref 1 0]] [(1, some (.immb t1 s1 x1))] (.ret (.imm (.int .i64 0)) [(1, some (.immb t1 s1 y1))]) := by
  refine effc_of ttT_ok Tryz.func66 (by decide +kernel) rfl [2, 3, 4] rfl rfl ?_
  refine tg [] rfl (by simp) ?_
  refine g_call (fr := []) [(1, 1)] [] rfl (by simp) (holds_yes Tryz.func100 (by decide +kernel) rfl holds_spec hg hn hc hE) ⟨⟨rfl, rfl, rfl⟩, trivial⟩ rfl rfl rfl rfl ?_
  refine tg [.a] rfl (by simp) ?_
  exact dgo_ret ⟨_, rfl, tV rfl, ⟨rfl, trivial⟩⟩

set_option maxRecDepth 100000 in
theorem checked1_no {g : FuncId} {fg : Func} {cg : Code} (hg : Tryz.prog.funcs[g]? = some fg) (hn : (fg.name == "runtime.NumGoroutine") = false) (hc : fg.body = some cg) {t1 : TypeId} {s1 : Nat} {x1 : List V} (hE : EffC Tryz.prog g [.ref 1 0] [(1, some (.immb t1 s1 x1))] (.pan flawV)) :
    EffC Tryz.prog 66 [.fn (.func g) [] [.ref 1 0]] [(1, some (.immb t1 s1 x1))] (.ret (.imm (.int .i64 2)) []) := by
  refine effc_of ttT_ok Tryz.func66 (by decide +kernel) rfl [2, 3, 4] rfl rfl ?_
  refine tg [] rfl (by simp) ?_
  refine g_call (fr := []) [(1, 1)] [] rfl (by simp) (holds_no Tryz.func100 (by decide +kernel) rfl holds_spec hg hn hc hE) ⟨⟨rfl, rfl, rfl⟩, trivial⟩ rfl rfl rfl rfl ?_
  refine tg [.a] rfl (by simp) ?_
  exact dgo_ret ⟨_, rfl, tV rfl, trivial⟩

set_option maxRecDepth 100000 in
theorem checked2_yes {g : FuncId} {fg : Func} {cg : Code} (hg : Tryz.prog.funcs[g]? = some fg) (hn : (fg.name == "runtime.NumGoroutine") = false) (hc : fg.body = some cg) {t1 t2 : TypeId} {s1 s2 : Nat} {x1 x2 y1 y2 : List V} (hE : EffC Tryz.prog g [.ref 1 0, .ref 2 0] [(1, some (.immb t1 s1 x1)), (2, some (.immb t2 s2 x2))] (.ret unitV [(1, some (.immb t1 s1 y1)), (2, some (.immb t2 s2 y2))])) :
    EffC Tryz.prog 66 [.fn (.func g) [] [.ref 1 0, .ref 2 0]] [(1, some (.immb t1 s1 x1)), (2, some (.immb t2 s2 x2))] (.ret (.imm (.int .i64 0)) [(1, some (.immb t1 s1 y1)), (2, some (.immb t2 s2 y2))]) := by
  refine effc_of ttT_ok Tryz.func66 (by decide +kernel) rfl [3, 4, 5] rfl rfl ?_
  refine tg [] rfl (by simp) ?_
  refine g_call (fr := []) [(1, 1), (2, 2)] [] rfl (by simp) (holds_yes Tryz.func100 (by decide +kernel) rfl holds_spec hg hn hc hE) ⟨⟨rfl, rfl, rfl⟩, ⟨⟨rfl, rfl, rfl⟩, trivial⟩⟩ rfl rfl rfl rfl ?_
  refine tg [.a] rfl (by simp) ?_
  exact dgo_ret ⟨_, rfl, tV rfl, ⟨rfl, ⟨rfl, trivial⟩⟩⟩

set_option maxRecDepth 100000 in
theorem checked2_no {g : FuncId} {fg : Func} {cg : Code} (hg : Tryz.prog.funcs[g]? = some fg) (hn : (fg.name == "runtime.NumGoroutine") = false) (hc : fg.body = some cg) {t1 t2 : TypeId} {s1 s2 : Nat} {x1 x2 : List V} (hE : EffC Tryz.prog g [.ref 1 0, .ref 2 0] [(1, some (.immb t1 s1 x1)), (2, some (.immb t2 s2 x2))] (.pan flawV)) :
    EffC Tryz.prog 66 [.fn (.func g) [] [.ref 1 0, .ref 2 0]] [(1, some (.immb t1 s1 x1)), (2, some (.immb t2 s2 x2))] (.ret (.imm (.int .i64 2)) []) := by
  refine effc_of ttT_ok Tryz.func66 (by decide +kernel) rfl [3, 4, 5] rfl rfl ?_
  refine tg [] rfl (by simp) ?_
  refine g_call (fr := []) [(1, 1), (2, 2)] [] rfl (by simp) (holds_no Tryz.func100 (by decide +kernel) rfl holds_spec hg hn hc hE) ⟨⟨rfl, rfl, rfl⟩, ⟨⟨rfl, rfl, rfl⟩, trivial⟩⟩ rfl rfl rfl rfl ?_
  refine tg [.a] rfl (by simp) ?_
  exact dgo_ret ⟨_, rfl, tV rfl, trivial⟩

def errI (b : Bool) : V := .int .i64 (bif b then 0 else 2)
def formedB (holes : Bool) (t : Ty) : Bool := decide (nodesTy t ≤ 12) && sortsTy holes t


set_option maxRecDepth 100000 in
theorem formed1_yes (t : Ty) (holes : Bool) (h : formedB holes t = true) : EffC Tryz.prog 105 [.ref 1 0, .ref 2 0] [(1, some (.immb 53 4 (dTyc t))), (2, some (.immb 4 1 [.bool holes]))] (.ret unitV [(1, some (.immb 53 4 (dTyc t))), (2, some (.immb 4 1 [.bool holes]))]) := by
  simp only [formedB, Bool.and_eq_true, decide_eq_true_eq] at h
  refine effc_of ttT_ok Tryz.func105 (by decide +kernel) rfl [3, 4, 5] rfl rfl ?_
  refine tg [] rfl (by simp) ?_
  refine g_call (fr := []) [(3, 1)] [] rfl (by simp) (gkind_yes t 12 (by omega) (by decide)) ⟨⟨rfl, rfl, rfl⟩, trivial⟩ rfl rfl rfl rfl ?_
  refine tg [] rfl (by simp) ?_
  refine g_call (fr := []) [] [] rfl (by simp) (tsorts_yes holes t h.2) trivial rfl rfl rfl rfl ?_
  refine tg [] rfl (by simp) ?_
  exact dgo_end ⟨_, rfl, rfl, ⟨rfl, rfl, trivial⟩⟩

set_option maxRecDepth 100000 in
theorem formed1_no (t : Ty) (holes : Bool) (h : formedB holes t = false) : EffC Tryz.prog 105 [.ref 1 0, .ref 2 0] [(1, some (.immb 53 4 (dTyc t))), (2, some (.immb 4 1 [.bool holes]))] (.pan flawV) := by
  simp only [formedB, Bool.and_eq_false_iff, decide_eq_false_iff_not] at h
  refine effc_of ttT_ok Tryz.func105 (by decide +kernel) rfl [3, 4, 5] rfl rfl ?_
  refine tg [] rfl (by simp) ?_
  by_cases h1 : nodesTy t ≤ 12
  · refine g_call (fr := []) [(3, 1)] [] rfl (by simp) (gkind_yes t 12 (by omega) (by decide)) ⟨⟨rfl, rfl, rfl⟩, trivial⟩ rfl rfl rfl rfl ?_
    refine tg [] rfl (by simp) ?_
    exact dgo_callpan [] rfl (by simp) (tsorts_no holes t (by simpa [h1] using h)) trivial rfl rfl
  · exact dgo_callpan [(3, 1)] rfl (by simp) (gkind_no t 12 (by omega) (by decide) (by decide)) ⟨⟨rfl, rfl, rfl⟩, trivial⟩ rfl rfl

set_option maxRecDepth 100000 in
theorem formed_ok (t : Ty) (holes : Bool) : PureC Tryz.prog 73 [.agg (dTyc t), .bool holes] (errI (formedB holes t)) := by
  refine effc_of ttT_ok Tryz.func73 (by decide +kernel) rfl [1, 2, 3] rfl rfl ?_
  refine tg [] rfl (by simp) ?_
  cases h : formedB holes t with
  | true =>
    refine g_call (fr := []) [(1, 1), (2, 2)] [] rfl (by simp) (checked2_yes Tryz.func105 (by decide +kernel) rfl (formed1_yes t holes h)) ⟨⟨rfl, rfl, rfl⟩, ⟨rfl, rfl, rfl⟩, trivial⟩ rfl rfl rfl rfl ?_
    refine tg [] rfl (by simp) ?_
    exact dgo_ret ⟨_, rfl, tV rfl, trivial⟩
  | false =>
    refine g_call (fr := []) [(1, 1), (2, 2)] [] rfl (by simp) (checked2_no Tryz.func105 (by decide +kernel) rfl (formed1_no t holes h)) ⟨⟨rfl, rfl, rfl⟩, ⟨rfl, rfl, rfl⟩, trivial⟩ rfl rfl rfl rfl ?_
    refine tg [] rfl (by simp) ?_
    exact dgo_ret ⟨_, rfl, tV rfl, trivial⟩

set_option maxRecDepth 100000 in
theorem CheckType_ok (t : Ty) : PureC Tryz.prog 32 [.agg (dTyc t)] (errI (formedB true t)) := by
  refine effc_of ttT_ok Tryz.func32 (by decide +kernel) rfl [1, 2, 3] rfl rfl ?_
  refine tg [] rfl (by simp) ?_
  refine g_pcall rfl (fun _ => formed_ok t true) (by simp [cxOf]) ?_
  refine tg [] rfl (by simp) ?_
  exact dgo_ret ⟨_, rfl, tV rfl, trivial⟩

set_option maxRecDepth 100000 in
theorem whole_ok (t : Ty) : PureC Tryz.prog 113 [.agg (dTyc t)] (.bool (formedB false t)) := by
  refine effc_of ttT_ok Tryz.func113 (by decide +kernel) rfl [1, 2, 3] rfl rfl ?_
  refine tg [] rfl (by simp) ?_
  refine g_pcall rfl (fun _ => formed_ok t false) (by simp [cxOf]) ?_
  refine tg [] rfl (by simp) ?_
  refine dgo_ret ⟨_, rfl, tV (congrArg _ ?_), trivial⟩
  cases formedB false t <;> rfl

end Go.Hk

/- Maps that are owned: made, looked at, changed. -/
namespace Go.Hk
open Go.MapKept

def eqK : V → V → Bool
  | .str a, .str b => a == b
  | .int _ a, .int _ b => a == b
  | .bool a, .bool b => a == b
  | _, _ => false

def lookM : List (V × V) → V → Option V
  | [], _ => none
  | (k, d) :: r, x => if eqK x k then some d else lookM r x

def setM : List (V × V) → V → V → List (V × V)
  | [], x, d => [(x, d)]
  | (k, e) :: r, x, d => if eqK x k then (x, d) :: r else (k, e) :: setM r x d

def descOf : Sh → Option TypeDesc
  | .str => some .string
  | .int k => some (.int k)
  | _ => none

def keyV : Sh → V → Bool
  | .str, .str _ => true
  | .int k, .int k' _ => decide (k' = k)
  | _, _ => false

section
variable {P : Program} {n : Nat} {F : List Nat} {Q : DQ} {tt : TT} {env env' : Env} {st st' : St} {ids ids' : List Nat} {k todo todo' : List DI} {I : Imm} {μ : Mu} {w : World} {a : Act} {Pn : V → Prop} {d : D} {cx : Prop} {ob : List Prop}

theorem descOf_ok {t : TypeId} {sh : Sh} {dd : TypeDesc} (h : descOf sh = some dd) (hs : ShOk P t sh) : P.underlying t = some dd := by
  cases sh <;> simp only [descOf, reduceCtorEq, Option.some.injEq] at h <;> subst h <;> exact hs

theorem isKey_rep {sh : Sh} {dd : TypeDesc} {v : Value} {x : V} (h : descOf sh = some dd) (hk : keyV sh x = true) (hv : RepV I v x) : IsKey dd v := by
  cases sh <;> simp only [descOf, reduceCtorEq, Option.some.injEq] at h <;> subst h <;> cases x <;> simp [keyV] at hk <;> cases hv <;> simp [IsKey, hk]

theorem eqK_rep {sh : Sh} {v u : Value} {x y : V} (hx : keyV sh x = true) (hy : keyV sh y = true) (hv : RepV I v x) (hu : RepV I u y) : eqK x y = true ↔ v = u := by
  cases x with
  | str a =>
    cases y with
    | str b =>
      obtain ⟨s, rfl, rfl⟩ := hv.strInv
      obtain ⟨t, rfl, rfl⟩ := hu.strInv
      simp only [eqK, beq_iff_eq, Value.string.injEq]
      constructor
      · intro h
        obtain ⟨⟨s⟩⟩ := s
        obtain ⟨⟨t⟩⟩ := t
        simp at h
        rw [h]
      · intro h; rw [h]
    | _ => cases sh <;> simp [keyV] at hx hy
  | int k i =>
    cases y with
    | int k' j =>
      obtain rfl := hv.intInv
      obtain rfl := hu.intInv
      cases sh <;> simp [keyV] at hx hy
      subst hx; subst hy
      simp [eqK]
    | _ => cases sh <;> simp [keyV] at hx hy
  | _ => cases sh <;> simp [keyV] at hx

theorem find_rep {sh : Sh} {dd : TypeDesc} {v : Value} {x : V} (hd : descOf sh = some dd) (hk : keyV sh x = true) (hv : RepV I v x) : ∀ (l : List MapEntry) (kv : List (V × V)) (i : Nat), l.length = kv.length →
    (∀ (j : Nat) (e : MapEntry) (p : V × V), l[j]? = some e → kv[j]? = some p → RepV I e.key p.1 ∧ RepV I e.val p.2) → (∀ p ∈ kv, keyV sh p.1 = true) →
    (Instr.findNow dd v l i = some none ∧ lookM kv x = none ∧ (∀ y, setM kv x y = kv ++ [(x, y)]) ∧ ∀ e ∈ l, e.key ≠ v) ∨
      ∃ j e y, Instr.findNow dd v l i = some (some (i + j, e.val)) ∧ l[j]? = some e ∧ e.key = v ∧ lookM kv x = some y ∧ RepV I e.val y ∧ ∀ z, setM kv x z = kv.set j (x, z)
  | [], [], i, _, _, _ => .inl ⟨rfl, rfl, fun _ => rfl, fun _ h => by cases h⟩
  | [], _ :: _, _, h, _, _ => by simp at h
  | _ :: _, [], _, h, _, _ => by simp at h
  | e :: l, p :: kv, i, hl, h, hkv => by
    obtain ⟨h1, h2⟩ := h 0 e p rfl rfl
    obtain ⟨y, dy⟩ := p
    have hky := hkv (y, dy) (by simp)
    obtain ⟨r, hr, hiff⟩ := sameNow_of_keys (isKey_rep hd hk hv) (isKey_rep hd hky h1)
    have he := eqK_rep hk hky hv h1
    cases r with
    | true =>
      have hvy := hiff.1 rfl
      have := he.2 hvy
      exact .inr ⟨0, e, dy, by simp [Instr.findNow, hr], rfl, hvy.symm, by simp [lookM, this], h2, fun z => by simp [setM, this]⟩
    | false =>
      have hne : v ≠ e.key := fun q => by have := hiff.2 q; cases this
      have hf : eqK x y = false := by
        cases hq : eqK x y with
        | false => rfl
        | true => exact absurd (he.1 hq) hne
      rcases find_rep hd hk hv l kv (i + 1) (by simpa using hl) (fun j e' p' a b => h (j + 1) e' p' (by simpa using a) (by simpa using b)) (fun p' hp => hkv p' (by simp [hp])) with ⟨q1, q2, q3, q4⟩ | ⟨j, e', y', q1, q2, q3, q4, q5, q6⟩
      · refine .inl ⟨by simp [Instr.findNow, hr, q1], by simp [lookM, hf, q2], fun z => by simp [setM, hf, q3], fun e' he' => ?_⟩
        rcases List.mem_cons.1 he' with rfl | he'
        · exact fun q => hne q.symm
        · exact q4 e' he'
      · exact .inr ⟨j + 1, e', y', by simp [Instr.findNow, hr, q1]; omega, by simpa using q2, q3, by simp [lookM, hf, q4], q5, fun z => by simp [setM, hf, q6]⟩

/-- A new map. -/
def pmk (n : Nat) (ids : List Nat) (todo : List DI) : Option (Nat × List Nat × Option Nat × List DI) :=
  match opAt todo, ids with
  | some o, id' :: ids' => match o.guard, o.op with
    | none, .makeMap _ none => match dstOk n o.dst, next1 todo ([], [id']) with
      | true, some (_, _, todo') => some (id', ids', o.dst, todo')
      | _, _ => none
    | _, _ => none
  | _, _ => none

theorem g_mkmap {i0 : Nat} {ids0 : List Nat} {d0 : Option Nat} {todo0 : List DI} (h : pmk n ids todo = some (i0, ids0, d0, todo0)) (hk : G P n F Q todo0 (putE d0 (.mapr i0) env) ((i0, some (.map [])) :: st) ids0) : G P n F Q todo env st ids := by
  unfold pmk at h
  split at h
  · rename_i o id' ids' ho
    split at h
    · rename_i t hg hop
      split at h
      · rename_i all o' todo' hd h1
        cases h
        have ho' : o' = o := opAt_next ho h1
        subst ho'
        refine g_step (fr := [i0]) (wr := [(i0, some (.map []))]) (rd := []) h1 ?_ hd (fun c hc => by rw [hop] at hc; cases hc) hk
        intro I μ st1 ids1 a w hag hst hon
        refine ⟨fun _ => ?_, fun hw => by rw [wanted_none hg] at hw; cases hw⟩
        have hrun : (execOp a.eval o').run P w = .ok (.value (.map (some w.heap.size))) (w.alloc (.map #[] 0)) := by
          simp only [execOp, hop, Option.map_none]
          refine ok_of_sem' ?_
          simp only [Instr.makeMap, Sem.run_bind, Result.andThen_ok, Sem.run_pure, run_newObj]
          rfl
        rw [hrun]
        obtain ⟨μ', q1, q2, q3, q4⟩ := hst.allocO (.map #[] 0) (.map (some w.heap.size)) (fun _ h => Eq.symm h) (.map []) (fun μ' _ => ⟨w.heap.size, #[], 0, rfl, heapNew w _, rfl, stamped_empty 0, fun i e p h => by simp at h⟩)
        exact ⟨I, μ', q3, .mapr _ _ q1, q2, q4⟩
      · cases h
    · cases h
  · cases h

theorem map_run {id : Nat} {kv : List (V × V)} {v : Value} (hst : StRep I μ st ids w) (hl : live st id (.map kv)) (hv : RepD I μ v (.mapr id)) :
    ∃ b es clock, v = .map (some b) ∧ μ id = some v ∧ w.heap[b]? = some (.map es clock) ∧ es.size = kv.length ∧ Stamped es clock ∧ ∀ (i : Nat) (e : MapEntry) (p : V × V), es[i]? = some e → kv[i]? = some p → RepV I e.key p.1 ∧ RepV I e.val p.2 := by
  cases hv with
  | mapr _ b hm =>
    obtain ⟨g, hg, b', es, clock, rfl, h1, h2, h3, h4⟩ := hst.blk id _ hl
    rw [hm] at hg; cases hg
    exact ⟨b, es, clock, rfl, hm, h1, h2, h3, h4⟩

/-- An element of a map is set. -/
def pmset (tt : TT) (env : Env) (st : St) (todo : List DI) : Option (Nat × List (V × V) × Sh × V × V × List DI) :=
  match opAt todo with
  | some o => match o.guard, o.op with
    | none, .mapUpdate t m x y => match o.dst, lk tt t, evO env m, evO env x, evO env y with
      | none, some { sh := .map kt _, .. }, some (.mapr id), some (.imm kx), some dy => match lk tt kt, lk st id, next1 todo ([id], [id]), toV dy with
        | some i, some (some (.map kv)), some (_, _, todo'), some vy => some (id, kv, i.sh, kx, vy, todo')
        | _, _, _, _ => none
      | _, _, _, _, _ => none
    | _, _ => none
  | none => none

theorem g_mset (htt : TTok P tt) {i0 : Nat} {kv : List (V × V)} {sh : Sh} {kx : V} {dy : V} {todo0 : List DI} {dd : TypeDesc} (h : pmset tt env st todo = some (i0, kv, sh, kx, dy, todo0)) (hd : descOf sh = some dd) (hk : keyV sh kx = true)
    (hkv : ∀ p ∈ kv, keyV sh p.1 = true) (hg : G P n F Q todo0 env ((i0, some (.map (setM kv kx dy))) :: st) ids) : G P n F Q todo env st ids := by
  unfold pmset at h
  split at h
  · rename_i o ho
    split at h
    · rename_i t m x y hgd hop
      split at h
      · rename_i kt et _ _ _ _ id kx' dy' hdst ht hm hx hy
        split at h
        · rename_i i kv' all o' todo' vy hi hl h1 hng
          cases h
          have ho' : o' = o := opAt_next ho h1
          subst ho'
          have hg : G P n F Q todo0 (putE o'.dst .undef env) ((i0, some (.map (setM kv kx dy))) :: st) ids := by rw [hdst]; exact hg
          refine g_step (fr := []) (wr := [(i0, some (.map (setM kv kx dy)))]) (rd := [i0]) h1 ?_ (by simp [dstOk, hdst]) (fun c hc => by rw [hop] at hc; cases hc) hg
          intro I μ st1 ids1 a w hag hst hon
          refine ⟨fun _ => ?_, fun hw => by rw [wanted_none hgd] at hw; cases hw⟩
          have hops := opsOn_of hon
          rw [hop] at hops
          have hl1 : live st1 i0 (.map kv) := by unfold live; rw [hag i0 (by simp)]; exact hl
          obtain ⟨b, es, clock, e1, hmu, hheap, hlen, hst2, hent⟩ := map_run hst hl1 (hops m (by simp [Op.operands]) _ hm)
          have rx := (hops x (by simp [Op.operands]) _ hx).immInv
          have ry := toV_rep hng (hops y (by simp [Op.operands]) _ hy)
          have hu : P.underlying t = some (.map kt et) := htt.sh ht
          have hkd : P.underlying kt = some dd := descOf_ok hd (htt.sh hi)
          have hik := isKey_rep hd hk rx
          have hbl := lt_of_heap hheap
          have fin : ∀ (es' : Array MapEntry) (c' : Nat), (Instr.mapUpdate t (.map (some b)) (a.eval x) (a.eval y)).run P w = .ok () { w with heap := w.heap.setIfInBounds b (.map es' c') } → es'.size = (setM kv kx dy).length → Stamped es' c' →
              (∀ (i : Nat) (e : MapEntry) (p : V × V), es'[i]? = some e → (setM kv kx dy)[i]? = some p → RepV I e.key p.1 ∧ RepV I e.val p.2) →
              valX P ((execOp a.eval o').run P w) (fun v w' => ∃ I' μ', StRep I' μ' ([(i0, some (.map (setM kv kx dy)))] ++ st1) ids1 w' ∧ RepD I' μ' v .undef ∧ μ.le μ' ∧ Ext I μ st1 w I' μ' ([(i0, some (.map (setM kv kx dy)))] ++ st1) w') (panK (panQ Q) I μ st1 w) := by
            intro es' c' hr h2 h3 h4
            have hrun : (execOp a.eval o').run P w = .ok .skip { w with heap := w.heap.setIfInBounds b (.map es' c') } := by
              simp only [execOp, hop, e1]
              simp [hr]
            rw [hrun]
            obtain ⟨q1, q2⟩ := hst.update (blk' := .map (setM kv kx dy)) (w' := { w with heap := w.heap.setIfInBounds b (.map es' c') }) hl1 hmu (by rw [e1]; rfl) (by simp) rfl rfl rfl
              (fun k hk => Array.getElem?_setIfInBounds_ne (Ne.symm hk)) ⟨b, es', c', e1, by simp [hbl], h2, h3, h4⟩
            exact ⟨I, μ, q1, .undef _, Mu.le_refl μ, q2⟩
          rcases find_rep (I := I) hd hk rx es.toList kv 0 (by simpa using hlen) (fun j e p h1 h2 => hent j e p (by simpa using h1) h2) hkv with ⟨q1, _, q3, q4⟩ | ⟨j, e, y', q1, q2, q3, _, q5, q6⟩
          · refine fin _ _ ?_ (by rw [q3]; simp [hlen]) (stamped_push hst2 (key := a.eval x) (val := a.eval y) q4) fun i e p h1 h2 => ?_
            · simp [Instr.mapUpdate, run_underlying hu, MapKept.run_getObj_map hheap, MapKept.run_checkKey hkd hik, MapKept.run_findKey hkd q1, MapKept.run_setObj_map _ hheap, Result.andThen]
            · rw [q3] at h2
              rw [Array.getElem?_push] at h1
              rw [List.getElem?_append] at h2
              by_cases hi : i = es.size
              · rw [if_pos hi] at h1; cases h1
                rw [if_neg (by omega)] at h2
                rw [show i - kv.length = 0 by omega] at h2
                cases h2
                exact ⟨rx, ry⟩
              · rw [if_neg hi] at h1
                have := (Array.getElem?_eq_some_iff.1 h1).1
                rw [if_pos (by omega)] at h2
                exact hent i e p h1 h2
          · have hj : es[j]? = some e := by simpa using q2
            have hkey : ∀ e', es[j]? = some e' → ({ e' with key := a.eval x, val := a.eval y } : MapEntry).key = e'.key := fun e' he' => by rw [hj] at he'; cases he'; exact q3.symm
            refine fin (es.modify j fun e => { e with key := a.eval x, val := a.eval y }) clock ?_ (by rw [q6]; simp [hlen]) (stamped_modify hst2 _ _ (fun _ _ => rfl) (fun e' _ he' => hkey e' he')) fun i e' p h1 h2 => ?_
            · simp [Instr.mapUpdate, run_underlying hu, MapKept.run_getObj_map hheap, MapKept.run_checkKey hkd hik, MapKept.run_findKey hkd q1, hj, q3, MapKept.run_keyThatStays hik, MapKept.run_setObj_map _ hheap, Result.andThen]
            · rw [q6] at h2
              rw [Array.getElem?_modify] at h1
              rw [List.getElem?_set] at h2
              by_cases hi : j = i
              · subst hi
                rw [if_pos rfl, hj] at h1
                cases h1
                rw [if_pos rfl] at h2
                split at h2
                · cases h2; exact ⟨rx, ry⟩
                · cases h2
              · rw [if_neg hi] at h1 h2
                exact hent i e' p h1 h2
        · cases h
      · cases h
    · cases h
  · cases h

structure PMl where
  kv : List (V × V)
  sh : Sh
  kx : V
  et : TypeId
  two : Bool
  g : Option (Bool × Bool)
  ob : List Prop
  t : Nat
  todo : List DI

/-- An element of a map is looked up. -/
def pmlook (tt : TT) (n : Nat) (env : Env) (st : St) (nm : Nat) (todo : List DI) : Option PMl :=
  match next1 todo ([nm], []) with
  | some (all, o, todo') => match o.op, guardOf all env o with
    | .lookup t m k two, some g => match lk tt t, useD (cxOf g) env m, useD (cxOf g) env k with
      | some { sh := .map kt et, .. }, some (.mapr id, o1), some (.imm kx, o2) => match Nat.beq id nm, lk tt kt, lk st id, dstOk n o.dst with
        | true, some i, some (some (.map kv)), true => match o.dst with
          | some t => some ⟨kv, i.sh, kx, et, two, g, cat o1 o2, t, todo'⟩
          | none => none
        | _, _, _, _ => none
      | _, _, _ => none
    | _, _ => none
  | none => none

theorem run_zeroValue_of {t : TypeId} {z : Value} (h : (P.info? t).bind (·.zero) = some z) : (zeroValue t).run P w = .ok z w := by
  cases hi : P.info? t with
  | none => rw [hi] at h; cases h
  | some inf =>
    rw [hi] at h
    have h : inf.zero = some z := h
    simp [zeroValue, typeInfo, hi, h]

def lookD (two : Bool) (kv : List (V × V)) (x : V) (zd : V) : D :=
  let r := match lookM kv x with
    | some y => (y, true)
    | none => (zd, false)
  if two then .imm (.tup [r.1, .bool r.2]) else .imm r.1

theorem g_mlook (htt : TTok P tt) (nm : Nat) {kv : List (V × V)} {sh : Sh} {kx : V} {et : TypeId} {two : Bool} {g : Option (Bool × Bool)} {ob : List Prop} {t0 : Nat} {todo0 : List DI} {dd : TypeDesc} {z : Value} {zd : V} {dr : D}
    (h : pmlook tt n env st nm todo = some ⟨kv, sh, kx, et, two, g, ob, t0, todo0⟩) (hd : descOf sh = some dd) (hk : keyV sh kx = true) (hkv : ∀ p ∈ kv, keyV sh p.1 = true) (hob : allP ob)
    (hz : (P.info? et).bind (·.zero) = some z) (hzr : ∀ I, RepV I z zd) (hdr : lookD two kv kx zd = dr) (hg : G P n F Q todo0 ((t0, gD g dr) :: env) st ids) : G P n F Q todo env st ids := by
  unfold pmlook at h
  split at h
  · rename_i all o todo' h1
    split at h
    · rename_i t m k two' g' hop hgd
      split at h
      · rename_i kt et' _ _ _ _ id o1 kx' o2 ht hm hx
        split at h
        · rename_i i kv' hid hi hl hdo
          split at h
          · rename_i t' hdst
            cases h
            have hid := Nat.eq_of_beq_eq_true hid
            subst hid
            subst hdr
            have hg : G P n F Q todo0 (putE o.dst (gD g (lookD two kv kx zd)) env) st ids := by rw [hdst]; exact hg
            refine g_step (fr := []) (wr := []) (rd := [id]) h1 (ld_guarded hgd fun I μ st1 ids1 a w hag hst hops hcx => ?_) hdo (fun c hc => by rw [hop] at hc; cases hc) hg
            rw [hop] at hops
            obtain ⟨ho1, ho2⟩ := allP_app hob
            have rm := useD_rep hm ho1 hcx (hops m (by simp [Op.operands]))
            have rx := (useD_rep hx ho2 hcx (hops k (by simp [Op.operands]))).immInv
            have hl1 : live st1 id (.map kv) := by unfold live; rw [hag id (by simp)]; exact hl
            obtain ⟨b, es, clock, e1, hmu, hheap, hlen, hst2, hent⟩ := map_run hst hl1 rm
            have hu : P.underlying t = some (.map kt et) := htt.sh ht
            have hkd : P.underlying kt = some dd := descOf_ok hd (htt.sh hi)
            have hik := isKey_rep hd hk rx
            have fin : ∀ (v : Value) (ok : Bool) (d : V), (Instr.lookup t (.map (some b)) (a.eval k) two).run P w = .ok (if two then .tuple #[v, .bool ok] else v) w → RepV I v d →
                lookD two kv kx zd = (if two then .imm (.tup [d, .bool ok]) else .imm d) →
                valX P ((execOp a.eval o).run P w) (fun u w' => ∃ I' μ', StRep I' μ' st1 ids1 w' ∧ RepD I' μ' u (lookD two kv kx zd) ∧ μ.le μ' ∧ Ext I μ st1 w I' μ' st1 w') (panK (panQ Q) I μ st1 w) := by
              intro v ok d hr hv he
              have hrun : (execOp a.eval o).run P w = .ok (.value (if two then .tuple #[v, .bool ok] else v)) w := by
                simp only [execOp, hop, e1]
                exact ok_of_sem hr
              rw [hrun]
              refine ⟨I, μ, hst, ?_, Mu.le_refl μ, Ext.refl _ _ _ _⟩
              rw [he]
              cases two with
              | false => exact .imm _ _ hv
              | true =>
                refine .imm _ _ (.tup _ _ rfl fun i c x hc hx => ?_)
                match i, hc, hx with
                | 0, hc, hx => cases hc; cases hx; exact hv
                | 1, hc, hx => cases hc; cases hx; exact .bool _
                | i + 2, hc, hx => simp at hx
            rcases find_rep (I := I) hd hk rx es.toList kv 0 (by simpa using hlen) (fun j e p h1 h2 => hent j e p (by simpa using h1) h2) hkv with ⟨q1, q2, _, _⟩ | ⟨j, e, y', q1, q2, q3, q4, q5, q6⟩
            · refine fin z false zd ?_ (hzr I) (by simp [lookD, q2])
              simp [Instr.lookup, run_underlying hu, MapKept.run_getObj_map hheap, MapKept.run_checkKey hkd hik, MapKept.run_findKey hkd q1, run_zeroValue_of hz, Result.andThen]
            · refine fin e.val true y' ?_ q5 (by simp [lookD, q4])
              simp [Instr.lookup, run_underlying hu, MapKept.run_getObj_map hheap, MapKept.run_checkKey hkd hik, MapKept.run_findKey hkd q1, Result.andThen]
          · cases h
        · cases h
      · cases h
    · cases h
  · cases h

end
end Go.Hk

/- Contracts of term: patterns. -/
namespace Go.Hk
open Go.Proofs

def ttP : TT := ttT ++ [
  (79, ⟨.map 9 4, false, 1, 8, [.imm .nilmap]⟩)]
theorem ttP_ok : TTok Tryz.prog ttP := .of_eq (l := [4, 3, 9, 26, 53, 49, 22, 24, 5, 51, 50, 29, 23, 47, 113, 66, 150, 63, 64, 111, 109, 30, 173, 101, 1, 79]) (by kernel_rfl)

section
variable {n : Nat} {F : List Nat} {Q : DQ} {env env' : Env} {st st' : St} {ids ids' : List Nat} {k todo : List DI} {ob : List Prop}
theorem pd (path : List Pt) (h : run ttP n 300 path todo env st ids [] = .at k env' st' ids' ob) (hob : allP ob) (hd : G Tryz.prog n F Q k env' st' ids') : DGo Tryz.prog n F Q todo env st ids := d_run ttP_ok mixed 300 path h hob hd
theorem pg (path : List Pt) (h : run ttP n 300 path todo env st ids [] = .at k env' st' ids' ob) (hob : allP ob) (hd : G Tryz.prog n F Q k env' st' ids') : G Tryz.prog n F Q todo env st ids := g_run ttP_ok mixed 300 path h hob hd
theorem pi {es : List (List V)} {m : Int} {sz : Nat} {e : TypeId} {g : Option (Bool × Bool)} {ob : List Prop} {t : Nat} {todo' : List DI} {c : List V} (h : pidx ttP n env todo = some ⟨es, m, sz, e, g, ob, some t, todo'⟩)
    (hc : cxOf g → 0 ≤ m ∧ es[m.toNat]? = some c ∧ c.length = sz) (hob : allP ob) (hk : G Tryz.prog n F Q todo' ((t, gD g (.ip e c 0)) :: env) st ids) : G Tryz.prog n F Q todo env st ids := g_index ttP_ok h hc hob hk
end

/-- A set of strings. -/
def setK (l : List Str) : List (V × V) := l.map fun s => (.str s, .bool true)
def setB (l : List Str) : Blk := .map (setK l)

theorem setK_keys (l : List Str) : ∀ p ∈ setK l, keyV .str p.1 = true := by
  intro p hp
  obtain ⟨s, _, rfl⟩ := List.mem_map.1 hp
  rfl
theorem beq_swap (s x : Str) : (s == x) = (x == s) := by
  rw [Bool.eq_iff_iff, beq_iff_eq, beq_iff_eq]; exact ⟨Eq.symm, Eq.symm⟩
theorem setK_find (l : List Str) (s : Str) : lookM (setK l) (.str s) = if hasS l s then some (.bool true) else none := by
  induction l with
  | nil => rfl
  | cons x r ih =>
    simp only [setK, List.map_cons, lookM, eqK, hasS] at ih ⊢
    rw [ih]
    by_cases h : x = s
    · subst h; simp
    · have h1 : (s == x) = false := by simpa using fun e => h e.symm
      have h2 : (x == s) = false := by simpa using h
      simp [h1, h2]
theorem setK_look (l : List Str) (s : Str) : lookD false (setK l) (.str s) (.bool false) = .imm (.bool (hasS l s)) := by
  simp only [lookD, setK_find]
  cases hasS l s <;> rfl
theorem setK_new (l : List Str) (s : Str) (h : hasS l s = false) : setM (setK l) (.str s) (.bool true) = setK (l ++ [s]) := by
  induction l with
  | nil => rfl
  | cons x r ih =>
    simp only [hasS, Bool.or_eq_false_iff] at h
    have h1 : (s == x) = false := by rw [beq_swap]; exact h.1
    simp only [setK, List.map_cons, setM, eqK, h1, List.cons_append] at ih ⊢
    simp [ih h.2]

theorem differGo_append : ∀ (a b p : List Str), differGo p (a ++ b) = (differGo p a && differGo (p ++ a) b)
  | [], b, p => by simp [differGo]
  | x :: r, b, p => by simp [differGo, differGo_append r b (p ++ [x]), Bool.and_assoc]


set_option maxRecDepth 100000 in
theorem tpats_yes : ∀ (t : Ty) (met : List Str), (patsTy t && differGo met (namesTy t)) = true → EffC Tryz.prog 72 [.imm (.agg (dTyc t)), .mapr 1] [(1, some (setB met))] (.ret unitV [(1, some (setB (met ++ namesTy t)))])
  | .mk s n x ps, met, hy => by
    refine effC_ok 0 rfl fun hok => ?_
    have hv : ps.length ≤ 9223372036854775807 := by
      simp [vOkL, vOk, dTyc, maxLen] at hok
      have := hok.1
      omega
    refine effc_of ttP_ok Tryz.func72 (by decide +kernel) rfl [2, 3, 4] rfl rfl ?_
    have J : ∀ m0 : List Str, (patsTys ps && differGo m0 (namesTys ps)) = true → m0 ++ namesTys ps = met ++ namesTy (.mk s n x ps) → DGo Tryz.prog Tryz.f72.ntmps (nms [(1, some (setB met))]) (RetQ ttP Tryz.f72.results.toList (.ret unitV [(1, some (setB (met ++ namesTy (.mk s n x ps))))]))
        [.code (tailC Tryz.f72 2)] [(1, .mapr 1), (2, .ref 2 0)] [(2, some (.immb 49 4 (dTyc (.mk s n x ps)))), (1, some (setB m0))] [3, 4] := by
      intro m0 hy he
      refine pd [] rfl (by simp) ?_
      refine dgo_enter (fun i : Nat => [(113, .imm (.int .i64 i)), (112, .imm (.int .i64 ps.length)), (111, .imm (.sl (dTys ps))), (1, .mapr 1), (2, .ref 2 0)]) (fun i => [(2, some (.immb 49 4 (dTyc (.mk s n x ps)))), (1, some (setB (m0 ++ namesTys (ps.take i))))]) [3, 4] (fun i => ps.length - i)
        (fun i => i ≤ ps.length ∧ (patsTys (ps.drop i) && differGo (m0 ++ namesTys (ps.take i)) (namesTys (ps.drop i))) = true) 0 ⟨Nat.zero_le _, by simpa [namesTys] using hy⟩ ⟨rfl, tInt (by simp), rfl, rfl, rfl, trivial⟩ ⟨rfl, by simp [namesTys]; rfl, trivial⟩ rfl fun i hi ih => ?_
      refine pd [] rfl (by simp) ?_
      have hi2 := hi.2
      refine dgo_cond rfl (fun h => ?_) (fun h => ?_)
      · simp at h
        obtain ⟨t, ht⟩ := has_get h
        have htk : namesTys (ps.take (i + 1)) = namesTys (ps.take i) ++ namesTy t := by rw [get_take ht, namesTys_append]; simp [namesTys]
        rw [get_drop ht] at hi2
        simp only [patsTys, namesTys, differGo_append] at hi2
        refine pd [] rfl (by simp) ?_
        refine pi rfl (c := dTyc t) (fun _ => ⟨by simp, by simpa using dTys_get ht, by simp⟩) (by simp) ?_
        refine pg [] rfl (by simp) ?_
        refine g_call (fr := []) [(1, 1)] [] rfl (by simp) (tpats_yes t (m0 ++ namesTys (ps.take i)) (by simp only [Bool.and_eq_true] at hi2 ⊢; exact ⟨hi2.1.1, hi2.2.1⟩)) ⟨⟨rfl, rfl, rfl⟩, trivial⟩ rfl rfl rfl rfl ?_
        refine pg [] rfl (by simp) ?_
        exact dgo_again (ih (i + 1) (by omega) ⟨by omega, by rw [htk, ← List.append_assoc]; simp only [Bool.and_eq_true] at hi2 ⊢; exact ⟨hi2.1.2, hi2.2.2⟩⟩) ⟨tInt (w64 (by omega) (by omega)), rfl, rfl, rfl, rfl, trivial⟩ ⟨rfl, by rw [htk, ← List.append_assoc]; rfl, trivial⟩ rfl
      · refine pd [] rfl (by simp) ?_
        simp at h
        refine dgo_end ⟨_, rfl, rfl, ⟨?_, trivial⟩⟩
        rw [List.take_of_length_le (by omega), he]
        rfl
    simp only [patsTy, Bool.and_eq_true] at hy
    obtain ⟨⟨hp, hps⟩, hdf⟩ := hy
    by_cases h1 : s = 1
    · subst h1
      simp [patB, inI] at hp
      refine pg [.a, .a] rfl (by simp [cxOf] <;> grind) ?_
      refine g_pcall rfl (fun _ => want_ok _ (by simp [integerB] at hp ⊢; grind)) (by simp) ?_
      refine pg [.s] rfl (by simp) ?_
      exact dgo_again (J met (by simpa [namesTy, hps] using hdf) (by simp [namesTy])) ⟨rfl, rfl, trivial⟩ ⟨rfl, rfl, trivial⟩ rfl
    by_cases h5 : s = 5
    · subst h5
      simp [patB, inI] at hp
      refine pg [.a, .a] rfl (by simp [cxOf] <;> grind) ?_
      refine g_pcall rfl (fun _ => want_ok _ (by simp [integerB] at hp ⊢; grind)) (by simp) ?_
      refine pg [.s] rfl (by simp) ?_
      exact dgo_again (J met (by simpa [namesTy, hps] using hdf) (by simp [namesTy])) ⟨rfl, rfl, trivial⟩ ⟨rfl, rfl, trivial⟩ rfl
    by_cases h3 : s = 3
    · subst h3
      simp [patB, inI] at hp
      refine pg [.a, .a, .a, .a] rfl (by simp [cxOf] <;> grind) ?_
      refine g_pcall rfl (fun _ => integer_ok n) (by simp [cxOf]) ?_
      refine pg [] rfl (by simp [cxOf]) ?_
      refine g_pcall rfl (fun _ => want_ok _ (by simp [integerB] at hp ⊢; grind)) (by simp) ?_
      refine pg [.s] rfl (by simp) ?_
      exact dgo_again (J met (by simpa [namesTy, hps] using hdf) (by simp [namesTy])) ⟨rfl, rfl, trivial⟩ ⟨rfl, rfl, trivial⟩ rfl
    by_cases h4 : s = 4
    · subst h4
      simp [patB, inI] at hp
      refine pg [.a, .a, .a, .a, .a] rfl (by simp [cxOf] <;> grind) ?_
      refine g_pcall rfl (fun _ => want_ok _ (by obtain ⟨⟨rfl, rfl⟩, ha, hb⟩ := hp; have : n = 0 ∨ n = 1 := (by omega); rcases this with rfl | rfl <;> simp)) (by simp) ?_
      refine pg [.s] rfl (by simp) ?_
      exact dgo_again (J met (by simpa [namesTy, hps] using hdf) (by simp [namesTy])) ⟨rfl, rfl, trivial⟩ ⟨rfl, rfl, trivial⟩ rfl
    by_cases h6 : s = 6
    · subst h6
      simp [patB, inI] at hp
      refine pg [.a, .a, .a, .a, .a, .a] rfl (by simp [cxOf] <;> grind) ?_
      refine g_pcall rfl (fun _ => tGreat_ok x) (by simp [cxOf]) ?_
      refine pg [] rfl (by simp [cxOf]) ?_
      refine g_pcall rfl (fun _ => want_ok _ (by simp [integerB] at hp ⊢; grind)) (by simp) ?_
      refine pg [.s] rfl (by simp) ?_
      exact dgo_again (J met (by simpa [namesTy, hps] using hdf) (by simp [namesTy])) ⟨rfl, rfl, trivial⟩ ⟨rfl, rfl, trivial⟩ rfl
    by_cases h2 : s = 2
    · subst h2
      simp [patB, inI] at hp
      refine pg [.a, .a, .a] rfl (by simp [cxOf] <;> grind) ?_
      refine g_pcall rfl (fun _ => tName_ok x) (by simp [cxOf]) ?_
      refine pg [] rfl (by simp [cxOf]) ?_
      have hx : hasS met x = false := by simpa [namesTy, differGo] using hdf
      refine g_mlook ttP_ok 1 rfl rfl rfl (setK_keys met) (by simp [cxOf]) (z := .bool false) rfl (fun _ => .bool _) (setK_look met x) ?_
      refine pg [] rfl (by simp [cxOf]) ?_
      refine g_pcall rfl (fun _ => want_ok _ (by simp at hp ⊢; rw [hx]; grind)) (by simp) ?_
      refine pg [] rfl (by simp) ?_
      refine g_mset ttP_ok rfl rfl rfl (setK_keys met) ?_
      rw [setK_new met x hx]
      have he : ps = [] := by simpa using hp.1.1
      subst he
      refine pg [.s] rfl (by simp) ?_
      exact dgo_again (J (met ++ [x]) (by simp [patsTys, namesTys, differGo]) (by simp [namesTy, namesTys])) ⟨rfl, rfl, trivial⟩ ⟨rfl, rfl, trivial⟩ rfl
    exfalso
    simp [patB, h1, h2, h3, h4, h5, h6] at hp
termination_by t => SizeOf.sizeOf t
decreasing_by
  all_goals
    have := List.sizeOf_lt_of_mem (List.mem_of_getElem? ht)
    simp_wf
    omega

set_option maxRecDepth 100000 in
theorem tpats_no : ∀ (t : Ty) (met : List Str), (patsTy t && differGo met (namesTy t)) = false → EffC Tryz.prog 72 [.imm (.agg (dTyc t)), .mapr 1] [(1, some (setB met))] (.pan flawV)
  | .mk s n x ps, met, hy => by
    refine effC_ok 0 rfl fun hok => ?_
    have hv : ps.length ≤ 9223372036854775807 := by
      simp [vOkL, vOk, dTyc, maxLen] at hok
      have := hok.1
      omega
    refine effc_of ttP_ok Tryz.func72 (by decide +kernel) rfl [2, 3, 4] rfl rfl ?_
    have J : ∀ m0 : List Str, (patsTys ps && differGo m0 (namesTys ps)) = false → DGo Tryz.prog Tryz.f72.ntmps (nms [(1, some (setB met))]) (RetQ ttP Tryz.f72.results.toList (.pan flawV))
        [.code (tailC Tryz.f72 2)] [(1, .mapr 1), (2, .ref 2 0)] [(2, some (.immb 49 4 (dTyc (.mk s n x ps)))), (1, some (setB m0))] [3, 4] := by
      intro m0 hy 
      refine pd [] rfl (by simp) ?_
      refine dgo_enter (fun i : Nat => [(113, .imm (.int .i64 i)), (112, .imm (.int .i64 ps.length)), (111, .imm (.sl (dTys ps))), (1, .mapr 1), (2, .ref 2 0)]) (fun i => [(2, some (.immb 49 4 (dTyc (.mk s n x ps)))), (1, some (setB (m0 ++ namesTys (ps.take i))))]) [3, 4] (fun i => ps.length - i)
        (fun i => i ≤ ps.length ∧ (patsTys (ps.drop i) && differGo (m0 ++ namesTys (ps.take i)) (namesTys (ps.drop i))) = false) 0 ⟨Nat.zero_le _, by simpa [namesTys] using hy⟩ ⟨rfl, tInt (by simp), rfl, rfl, rfl, trivial⟩ ⟨rfl, by simp [namesTys]; rfl, trivial⟩ rfl fun i hi ih => ?_
      refine pd [] rfl (by simp) ?_
      have hi2 := hi.2
      refine dgo_cond rfl (fun h => ?_) (fun h => ?_)
      · simp at h
        obtain ⟨t, ht⟩ := has_get h
        have htk : namesTys (ps.take (i + 1)) = namesTys (ps.take i) ++ namesTy t := by rw [get_take ht, namesTys_append]; simp [namesTys]
        rw [get_drop ht] at hi2
        simp only [patsTys, namesTys, differGo_append] at hi2
        refine pd [] rfl (by simp) ?_
        refine pi rfl (c := dTyc t) (fun _ => ⟨by simp, by simpa using dTys_get ht, by simp⟩) (by simp) ?_
        refine pg [] rfl (by simp) ?_
        by_cases hz : (patsTy t && differGo (m0 ++ namesTys (ps.take i)) (namesTy t)) = true
        · refine g_call (fr := []) [(1, 1)] [] rfl (by simp) (tpats_yes t (m0 ++ namesTys (ps.take i)) hz) ⟨⟨rfl, rfl, rfl⟩, trivial⟩ rfl rfl rfl rfl ?_
          refine pg [] rfl (by simp) ?_
          exact dgo_again (ih (i + 1) (by omega) ⟨by omega, by rw [htk, ← List.append_assoc]; simp only [Bool.and_eq_true] at hz; rw [hz.1, hz.2] at hi2; simpa using hi2⟩) ⟨tInt (w64 (by omega) (by omega)), rfl, rfl, rfl, rfl, trivial⟩ ⟨rfl, by rw [htk, ← List.append_assoc]; rfl, trivial⟩ rfl
        · exact dgo_callpan [(1, 1)] rfl (by simp) (tpats_no t (m0 ++ namesTys (ps.take i)) (by simpa using hz)) ⟨⟨rfl, rfl, rfl⟩, trivial⟩ rfl rfl
      · exfalso
        simp at h
        rw [List.drop_eq_nil_of_le (by omega)] at hi2
        simp [patsTys, namesTys, differGo] at hi2
    by_cases h1 : s = 1
    · subst h1
      refine pg [.a, .a] rfl (by simp [cxOf] <;> grind) ?_
      by_cases hp : patB 1 n x ps.length = true
      · have hps : (patsTys ps && differGo met (namesTys ps)) = false := by simpa [patsTy, hp, namesTy] using hy
        simp [patB, inI] at hp
        refine g_pcall rfl (fun _ => want_ok _ (by simp [integerB] at hp ⊢; grind)) (by simp) ?_
        refine pg [.s] rfl (by simp) ?_
        exact dgo_again (J met hps) ⟨rfl, rfl, trivial⟩ ⟨rfl, rfl, trivial⟩ rfl
      · simp [patB, inI] at hp
        exact dgo_callpan [] rfl (by simp) (want_pan _ (by simp [integerB] at hp ⊢; grind)) trivial rfl rfl
    by_cases h5 : s = 5
    · subst h5
      refine pg [.a, .a] rfl (by simp [cxOf] <;> grind) ?_
      by_cases hp : patB 5 n x ps.length = true
      · have hps : (patsTys ps && differGo met (namesTys ps)) = false := by simpa [patsTy, hp, namesTy] using hy
        simp [patB, inI] at hp
        refine g_pcall rfl (fun _ => want_ok _ (by simp [integerB] at hp ⊢; grind)) (by simp) ?_
        refine pg [.s] rfl (by simp) ?_
        exact dgo_again (J met hps) ⟨rfl, rfl, trivial⟩ ⟨rfl, rfl, trivial⟩ rfl
      · simp [patB, inI] at hp
        exact dgo_callpan [] rfl (by simp) (want_pan _ (by simp [integerB] at hp ⊢; grind)) trivial rfl rfl
    by_cases h3 : s = 3
    · subst h3
      refine pg [.a, .a, .a, .a] rfl (by simp [cxOf] <;> grind) ?_
      refine g_pcall rfl (fun _ => integer_ok n) (by simp [cxOf]) ?_
      refine pg [] rfl (by simp [cxOf]) ?_
      by_cases hp : patB 3 n x ps.length = true
      · have hps : (patsTys ps && differGo met (namesTys ps)) = false := by simpa [patsTy, hp, namesTy] using hy
        simp [patB, inI] at hp
        refine g_pcall rfl (fun _ => want_ok _ (by simp [integerB] at hp ⊢; grind)) (by simp) ?_
        refine pg [.s] rfl (by simp) ?_
        exact dgo_again (J met hps) ⟨rfl, rfl, trivial⟩ ⟨rfl, rfl, trivial⟩ rfl
      · simp [patB, inI] at hp
        exact dgo_callpan [] rfl (by simp) (want_pan _ (by simp [integerB] at hp ⊢; grind)) trivial rfl rfl
    by_cases h4 : s = 4
    · subst h4
      refine pg [.a, .a, .a, .a, .a] rfl (by simp [cxOf] <;> grind) ?_
      by_cases hp : patB 4 n x ps.length = true
      · have hps : (patsTys ps && differGo met (namesTys ps)) = false := by simpa [patsTy, hp, namesTy] using hy
        simp [patB, inI] at hp
        refine g_pcall rfl (fun _ => want_ok _ (by obtain ⟨⟨rfl, rfl⟩, ha, hb⟩ := hp; have : n = 0 ∨ n = 1 := (by omega); rcases this with rfl | rfl <;> simp)) (by simp) ?_
        refine pg [.s] rfl (by simp) ?_
        exact dgo_again (J met hps) ⟨rfl, rfl, trivial⟩ ⟨rfl, rfl, trivial⟩ rfl
      · simp [patB, inI] at hp
        exact dgo_callpan [] rfl (by simp) (want_pan _ (by simp [integerB] at hp ⊢; grind)) trivial rfl rfl
    by_cases h6 : s = 6
    · subst h6
      refine pg [.a, .a, .a, .a, .a, .a] rfl (by simp [cxOf] <;> grind) ?_
      refine g_pcall rfl (fun _ => tGreat_ok x) (by simp [cxOf]) ?_
      refine pg [] rfl (by simp [cxOf]) ?_
      by_cases hp : patB 6 n x ps.length = true
      · have hps : (patsTys ps && differGo met (namesTys ps)) = false := by simpa [patsTy, hp, namesTy] using hy
        simp [patB, inI] at hp
        refine g_pcall rfl (fun _ => want_ok _ (by simp [integerB] at hp ⊢; grind)) (by simp) ?_
        refine pg [.s] rfl (by simp) ?_
        exact dgo_again (J met hps) ⟨rfl, rfl, trivial⟩ ⟨rfl, rfl, trivial⟩ rfl
      · simp [patB, inI] at hp
        exact dgo_callpan [] rfl (by simp) (want_pan _ (by simp [integerB] at hp ⊢; grind)) trivial rfl rfl
    by_cases h2 : s = 2
    · subst h2
      refine pg [.a, .a, .a] rfl (by simp [cxOf] <;> grind) ?_
      refine g_pcall rfl (fun _ => tName_ok x) (by simp [cxOf]) ?_
      refine pg [] rfl (by simp [cxOf]) ?_
      refine g_mlook ttP_ok 1 rfl rfl rfl (setK_keys met) (by simp [cxOf]) (z := .bool false) rfl (fun _ => .bool _) (setK_look met x) ?_
      refine pg [] rfl (by simp [cxOf]) ?_
      refine dgo_callpan [] rfl (by simp) (want_pan _ ?_) trivial rfl rfl
      simp [patsTy, patB, namesTy, differGo] at hy
      cases hm : hasS met x with
      | true => simp
      | false =>
        simp only [hm] at hy
        by_cases hq : ps = []
        · subst hq; simp [patsTys] at hy ⊢; grind
        · simp [hq]
    refine pg [.f, .f, .f, .f, .f, .f] rfl (by simp [h1, h2, h3, h4, h5, h6]) ?_
    exact dgo_callpan [] rfl (by simp) (want_pan _ rfl) trivial rfl rfl
termination_by t => SizeOf.sizeOf t
decreasing_by
  all_goals
    have := List.sizeOf_lt_of_mem (List.mem_of_getElem? ht)
    simp_wf
    omega

def checkPatB (t : Ty) : Bool := decide (nodesTy t ≤ 12) && (patsTy t && differB (namesTy t))

set_option maxRecDepth 100000 in
theorem checkPat1_yes (t : Ty) (h : checkPatB t = true) : EffC Tryz.prog 70 [.ref 1 0] [(1, some (.immb 49 4 (dTyc t)))] (.ret unitV [(1, some (.immb 49 4 (dTyc t)))]) := by
  simp only [checkPatB, Bool.and_eq_true, decide_eq_true_eq] at h
  refine effc_of ttP_ok Tryz.func70 (by decide +kernel) rfl [2, 3, 4] rfl rfl ?_
  refine pg [] rfl (by simp) ?_
  refine g_call (fr := []) [(2, 1)] [] rfl (by simp) (gpat_yes t 12 (by omega) (by decide)) ⟨⟨rfl, rfl, rfl⟩, trivial⟩ rfl rfl rfl rfl ?_
  refine pg [] rfl (by simp) ?_
  refine g_mkmap rfl ?_
  refine pg [] rfl (by simp) ?_
  refine g_call (fr := []) [(3, 1)] [] rfl (by simp) (tpats_yes t [] (by simpa [differB] using h.2)) ⟨⟨rfl, rfl, rfl⟩, trivial⟩ rfl rfl rfl rfl ?_
  refine pg [] rfl (by simp) ?_
  exact dgo_end ⟨_, rfl, rfl, ⟨rfl, trivial⟩⟩

set_option maxRecDepth 100000 in
theorem checkPat1_no (t : Ty) (h : checkPatB t = false) : EffC Tryz.prog 70 [.ref 1 0] [(1, some (.immb 49 4 (dTyc t)))] (.pan flawV) := by
  refine effc_of ttP_ok Tryz.func70 (by decide +kernel) rfl [2, 3, 4] rfl rfl ?_
  refine pg [] rfl (by simp) ?_
  by_cases h1 : nodesTy t ≤ 12
  · refine g_call (fr := []) [(2, 1)] [] rfl (by simp) (gpat_yes t 12 (by omega) (by decide)) ⟨⟨rfl, rfl, rfl⟩, trivial⟩ rfl rfl rfl rfl ?_
    refine pg [] rfl (by simp) ?_
    refine g_mkmap rfl ?_
    refine pg [] rfl (by simp) ?_
    exact dgo_callpan [(3, 1)] rfl (by simp) (tpats_no t [] (by simpa [checkPatB, h1, differB] using h)) ⟨⟨rfl, rfl, rfl⟩, trivial⟩ rfl rfl
  · exact dgo_callpan [(2, 1)] rfl (by simp) (gpat_no t 12 (by omega) (by decide) (by decide)) ⟨⟨rfl, rfl, rfl⟩, trivial⟩ rfl rfl

set_option maxRecDepth 100000 in
theorem CheckPat_ok (t : Ty) : PureC Tryz.prog 31 [.agg (dTyc t)] (errI (checkPatB t)) := by
  refine effc_of ttP_ok Tryz.func31 (by decide +kernel) rfl [1, 2, 3] rfl rfl ?_
  refine pg [] rfl (by simp) ?_
  cases h : checkPatB t with
  | true =>
    refine g_call (fr := []) [(1, 1)] [] rfl (by simp) (checked1_yes Tryz.func70 (by decide +kernel) rfl (checkPat1_yes t h)) ⟨⟨rfl, rfl, rfl⟩, trivial⟩ rfl rfl rfl rfl ?_
    refine pg [] rfl (by simp) ?_
    exact dgo_ret ⟨_, rfl, tV rfl, trivial⟩
  | false =>
    refine g_call (fr := []) [(1, 1)] [] rfl (by simp) (checked1_no Tryz.func70 (by decide +kernel) rfl (checkPat1_no t h)) ⟨⟨rfl, rfl, rfl⟩, trivial⟩ rfl rfl rfl rfl ?_
    refine pg [] rfl (by simp) ?_
    exact dgo_ret ⟨_, rfl, tV rfl, trivial⟩

end Go.Hk

/- Contracts of term: what nodes have. -/
namespace Go.Hk
open Go.Proofs

def ttS : TT := ttP ++ [
  (176, ⟨.struct [(0, 4), (1, 4), (2, 4), (3, 3)], true, 4, 16, [.imm (.bool false), .imm (.bool false), .imm (.bool false), .imm (.int .i64 0)]⟩)]
theorem ttS_ok : TTok Tryz.prog ttS := .of_eq (l := [4, 3, 9, 26, 53, 49, 22, 24, 5, 51, 50, 29, 23, 47, 113, 66, 150, 63, 64, 111, 109, 30, 173, 101, 1, 79, 176]) (by kernel_rfl)

section
variable {n : Nat} {F : List Nat} {Q : DQ} {env env' : Env} {st st' : St} {ids ids' : List Nat} {k todo : List DI} {ob : List Prop}
theorem sd (path : List Pt) (h : run ttS n 300 path todo env st ids [] = .at k env' st' ids' ob) (hob : allP ob) (hd : G Tryz.prog n F Q k env' st' ids') : DGo Tryz.prog n F Q todo env st ids := d_run ttS_ok mixed 300 path h hob hd
theorem sg (path : List Pt) (h : run ttS n 300 path todo env st ids [] = .at k env' st' ids' ob) (hob : allP ob) (hd : G Tryz.prog n F Q k env' st' ids') : G Tryz.prog n F Q todo env st ids := g_run ttS_ok mixed 300 path h hob hd
theorem si {es : List (List V)} {m : Int} {sz : Nat} {e : TypeId} {g : Option (Bool × Bool)} {ob : List Prop} {t : Nat} {todo' : List DI} {c : List V} (h : pidx ttS n env todo = some ⟨es, m, sz, e, g, ob, some t, todo'⟩)
    (hc : cxOf g → 0 ≤ m ∧ es[m.toNat]? = some c ∧ c.length = sz) (hob : allP ob) (hk : G Tryz.prog n F Q todo' ((t, gD g (.ip e c 0)) :: env) st ids) : G Tryz.prog n F Q todo env st ids := g_index ttS_ok h hc hob hk
end

/-- What a node has: a number, a text, patterns, how many Kids; and whether there is such a node. -/
structure Has where
  n : Bool
  text : Bool
  pats : Bool
  kids : Int
  is : Bool

def shapeH (op : Int) (k p : Nat) : Has :=
  if op = 1 ∨ op = 2 then ⟨true, false, false, 0, true⟩
  else if op = 3 ∨ op = 21 ∨ op = 25 ∨ op = 28 then ⟨false, false, false, 0, true⟩
  else if op = 4 then ⟨false, true, false, 0, true⟩
  else if op = 5 ∨ op = 27 then ⟨false, true, false, 1, true⟩
  else if op = 7 then ⟨false, true, false, 2, true⟩
  else if op = 8 then ⟨false, false, false, 3, true⟩
  else if op = 14 then ⟨false, true, false, (if (3 : Int) < k then 3 else k), true⟩
  else if op = 15 then ⟨false, false, true, (IntKind.i64.wrap (1 + (p : Int))), true⟩
  else if op = 16 ∨ op = 17 ∨ op = 19 ∨ op = 20 ∨ op = 23 ∨ op = 26 then ⟨false, false, false, 1, true⟩
  else if op = 24 then ⟨true, false, false, 1, true⟩
  else if op = 6 ∨ op = 9 ∨ op = 10 ∨ op = 11 ∨ op = 12 ∨ op = 13 ∨ op = 18 ∨ op = 22 then ⟨false, false, false, 2, true⟩
  else ⟨false, false, false, 0, false⟩

def dHas (h : Has) : List V := [.bool h.n, .bool h.text, .bool h.pats, .int .i64 h.kids]

set_option maxRecDepth 100000 in
set_option maxHeartbeats 1000000 in
theorem shape_ok (op n : Int) (x : Str) (ks : List Tm) (ps : List Ty) : PureC Tryz.prog 130 [.agg (dTmc (.mk op n x ks ps))] (.tup [.agg (dHas (shapeH op ks.length ps.length)), .bool (shapeH op ks.length ps.length).is]) := by
  refine pureC_ok fun hv => ?_
  simp [vOkL, vOk, dTmc, maxLen] at hv
  refine effc_of ttS_ok Tryz.func130 (by decide +kernel) rfl [1, 2, 3] rfl rfl ?_
  by_cases h1 : op = 1
  · subst h1
    refine sg [.a, .a] rfl (by simp) ?_
    refine dgo_ret ⟨_, rfl, tV ?_, trivial⟩
    simp [shapeH, dHas]
  by_cases h2 : op = 2
  · subst h2
    refine sg [.a, .a] rfl (by simp) ?_
    refine dgo_ret ⟨_, rfl, tV ?_, trivial⟩
    simp [shapeH, dHas]
  by_cases h3 : op = 3
  · subst h3
    refine sg [.a, .a, .a, .a] rfl (by simp) ?_
    refine dgo_ret ⟨_, rfl, tV ?_, trivial⟩
    simp [shapeH, dHas]
  by_cases h21 : op = 21
  · subst h21
    refine sg [.a, .a, .a, .a, .a] rfl (by simp) ?_
    refine dgo_ret ⟨_, rfl, tV ?_, trivial⟩
    simp [shapeH, dHas]
  by_cases h25 : op = 25
  · subst h25
    refine sg [.a, .a, .a, .a, .a, .a] rfl (by simp) ?_
    refine dgo_ret ⟨_, rfl, tV ?_, trivial⟩
    simp [shapeH, dHas]
  by_cases h28 : op = 28
  · subst h28
    refine sg [.a, .a, .a, .a, .a, .a] rfl (by simp) ?_
    refine dgo_ret ⟨_, rfl, tV ?_, trivial⟩
    simp [shapeH, dHas]
  by_cases h4 : op = 4
  · subst h4
    refine sg [.a, .a, .a, .a, .a, .a, .a] rfl (by simp) ?_
    refine dgo_ret ⟨_, rfl, tV ?_, trivial⟩
    simp [shapeH, dHas]
  by_cases h5 : op = 5
  · subst h5
    refine sg [.a, .a, .a, .a, .a, .a, .a, .a, .a] rfl (by simp) ?_
    refine dgo_ret ⟨_, rfl, tV ?_, trivial⟩
    simp [shapeH, dHas]
  by_cases h27 : op = 27
  · subst h27
    refine sg [.a, .a, .a, .a, .a, .a, .a, .a, .a] rfl (by simp) ?_
    refine dgo_ret ⟨_, rfl, tV ?_, trivial⟩
    simp [shapeH, dHas]
  by_cases h7 : op = 7
  · subst h7
    refine sg [.a, .a, .a, .a, .a, .a, .a, .a, .a, .a] rfl (by simp) ?_
    refine dgo_ret ⟨_, rfl, tV ?_, trivial⟩
    simp [shapeH, dHas]
  by_cases h8 : op = 8
  · subst h8
    refine sg [.a, .a, .a, .a, .a, .a, .a, .a, .a, .a, .a] rfl (by simp) ?_
    refine dgo_ret ⟨_, rfl, tV ?_, trivial⟩
    simp [shapeH, dHas]
  by_cases h14 : op = 14
  · subst h14
    refine sg [.a, .a, .a, .a, .a, .a, .a, .a, .a, .a, .a, .a] rfl (by simp) ?_
    refine dgo_ret ⟨_, rfl, tV ?_, trivial⟩
    simp [shapeH, dHas]
  by_cases h15 : op = 15
  · subst h15
    refine sg [.a, .a, .a, .a, .a, .a, .a, .a, .a, .a, .a, .a, .a] rfl (by simp) ?_
    refine dgo_ret ⟨_, rfl, tV ?_, trivial⟩
    simp [shapeH, dHas]
  by_cases h16 : op = 16
  · subst h16
    refine sg [.a, .a, .a, .a, .a, .a, .a, .a, .a, .a, .a, .a, .a, .a, .a] rfl (by simp) ?_
    refine dgo_ret ⟨_, rfl, tV ?_, trivial⟩
    simp [shapeH, dHas]
  by_cases h17 : op = 17
  · subst h17
    refine sg [.a, .a, .a, .a, .a, .a, .a, .a, .a, .a, .a, .a, .a, .a, .a, .a] rfl (by simp) ?_
    refine dgo_ret ⟨_, rfl, tV ?_, trivial⟩
    simp [shapeH, dHas]
  by_cases h19 : op = 19
  · subst h19
    refine sg [.a, .a, .a, .a, .a, .a, .a, .a, .a, .a, .a, .a, .a, .a, .a, .a, .a] rfl (by simp) ?_
    refine dgo_ret ⟨_, rfl, tV ?_, trivial⟩
    simp [shapeH, dHas]
  by_cases h20 : op = 20
  · subst h20
    refine sg [.a, .a, .a, .a, .a, .a, .a, .a, .a, .a, .a, .a, .a, .a, .a, .a, .a, .a] rfl (by simp) ?_
    refine dgo_ret ⟨_, rfl, tV ?_, trivial⟩
    simp [shapeH, dHas]
  by_cases h23 : op = 23
  · subst h23
    refine sg [.a, .a, .a, .a, .a, .a, .a, .a, .a, .a, .a, .a, .a, .a, .a, .a, .a, .a, .a] rfl (by simp) ?_
    refine dgo_ret ⟨_, rfl, tV ?_, trivial⟩
    simp [shapeH, dHas]
  by_cases h26 : op = 26
  · subst h26
    refine sg [.a, .a, .a, .a, .a, .a, .a, .a, .a, .a, .a, .a, .a, .a, .a, .a, .a, .a, .a] rfl (by simp) ?_
    refine dgo_ret ⟨_, rfl, tV ?_, trivial⟩
    simp [shapeH, dHas]
  by_cases h24 : op = 24
  · subst h24
    refine sg [.a, .a, .a, .a, .a, .a, .a, .a, .a, .a, .a, .a, .a, .a, .a, .a, .a, .a, .a, .a] rfl (by simp) ?_
    refine dgo_ret ⟨_, rfl, tV ?_, trivial⟩
    simp [shapeH, dHas]
  by_cases h6 : op = 6
  · subst h6
    refine sg [.a, .a, .a, .a, .a, .a, .a, .a, .a, .a, .a, .a, .a, .a, .a, .a, .a, .a, .a, .a, .a, .a] rfl (by simp) ?_
    refine dgo_ret ⟨_, rfl, tV ?_, trivial⟩
    simp [shapeH, dHas]
  by_cases h9 : op = 9
  · subst h9
    refine sg [.a, .a, .a, .a, .a, .a, .a, .a, .a, .a, .a, .a, .a, .a, .a, .a, .a, .a, .a, .a, .a, .a, .a] rfl (by simp) ?_
    refine dgo_ret ⟨_, rfl, tV ?_, trivial⟩
    simp [shapeH, dHas]
  by_cases h10 : op = 10
  · subst h10
    refine sg [.a, .a, .a, .a, .a, .a, .a, .a, .a, .a, .a, .a, .a, .a, .a, .a, .a, .a, .a, .a, .a, .a, .a, .a] rfl (by simp) ?_
    refine dgo_ret ⟨_, rfl, tV ?_, trivial⟩
    simp [shapeH, dHas]
  by_cases h11 : op = 11
  · subst h11
    refine sg [.a, .a, .a, .a, .a, .a, .a, .a, .a, .a, .a, .a, .a, .a, .a, .a, .a, .a, .a, .a, .a, .a, .a, .a, .a] rfl (by simp) ?_
    refine dgo_ret ⟨_, rfl, tV ?_, trivial⟩
    simp [shapeH, dHas]
  by_cases h12 : op = 12
  · subst h12
    refine sg [.a, .a, .a, .a, .a, .a, .a, .a, .a, .a, .a, .a, .a, .a, .a, .a, .a, .a, .a, .a, .a, .a, .a, .a, .a, .a] rfl (by simp) ?_
    refine dgo_ret ⟨_, rfl, tV ?_, trivial⟩
    simp [shapeH, dHas]
  by_cases h13 : op = 13
  · subst h13
    refine sg [.a, .a, .a, .a, .a, .a, .a, .a, .a, .a, .a, .a, .a, .a, .a, .a, .a, .a, .a, .a, .a, .a, .a, .a, .a, .a, .a] rfl (by simp) ?_
    refine dgo_ret ⟨_, rfl, tV ?_, trivial⟩
    simp [shapeH, dHas]
  by_cases h18 : op = 18
  · subst h18
    refine sg [.a, .a, .a, .a, .a, .a, .a, .a, .a, .a, .a, .a, .a, .a, .a, .a, .a, .a, .a, .a, .a, .a, .a, .a, .a, .a, .a, .a] rfl (by simp) ?_
    refine dgo_ret ⟨_, rfl, tV ?_, trivial⟩
    simp [shapeH, dHas]
  by_cases h22 : op = 22
  · subst h22
    refine sg [.a, .a, .a, .a, .a, .a, .a, .a, .a, .a, .a, .a, .a, .a, .a, .a, .a, .a, .a, .a, .a, .a, .a, .a, .a, .a, .a, .a] rfl (by simp) ?_
    refine dgo_ret ⟨_, rfl, tV ?_, trivial⟩
    simp [shapeH, dHas]
  refine sg [.f, .f, .f, .f, .f, .f, .f, .f, .f, .f, .f, .f, .f, .f, .f, .f, .f, .f, .f, .f, .f, .f, .f, .f, .f, .f, .f, .f] rfl (by simp [h1, h2, h3, h21, h25, h28, h4, h5, h27, h7, h8, h14, h15, h16, h17, h19, h20, h23, h26, h24, h6, h9, h10, h11, h12, h13, h18, h22]) ?_
  refine dgo_ret ⟨_, rfl, tV ?_, trivial⟩
  simp [shapeH, dHas, h1, h2, h3, h21, h25, h28, h4, h5, h27, h7, h8, h14, h15, h16, h17, h19, h20, h23, h26, h24, h6, h9, h10, h11, h12, h13, h18, h22]

end Go.Hk

/- Contracts of term: nodes. -/
namespace Go.Hk
open Go.Proofs

def headB (op n : Int) (x : Str) (k p : Nat) : Bool := let h := shapeH op k p
  h.is && ((k : Int) == h.kids) && (h.n || n == 0) && (h.text || x == []) && (h.pats || (p : Int) == 0)
def lastB (op : Int) (x : Str) (k p : Nat) : Bool := !((shapeH op k p).text && op != 14) || nameS x


set_option maxRecDepth 100000 in
theorem tnode_last_yes (op n : Int) (x : Str) (ks : List Tm) (ps : List Ty) (hl : lastB op x ks.length ps.length = true) : DGo Tryz.prog Tryz.f102.ntmps (nms []) (RetQ ttS Tryz.f102.results.toList (.ret unitV []))
    [.code (tailC Tryz.f102 4)] [(1, .ref 1 0), (2, .ref 2 0)] [(2, some (.immb 176 4 (dHas (shapeH op ks.length ps.length)))), (1, some (.immb 26 5 (dTmc (.mk op n x ks ps))))] [3, 4] := by
  refine sd [] rfl (by simp [cxOf]) ?_
  refine dgo_cond rfl (fun h => ?_) (fun h => ?_)
  · refine sd [] rfl (by simp) ?_
    refine g_pcall rfl (fun _ => tName_ok x) (by simp [cxOf]) ?_
    refine sg [] rfl (by simp) ?_
    have hx : nameS x = true := by simp [lastB] at hl h; grind
    refine g_pcall rfl (fun _ => want_ok _ hx) (by simp) ?_
    refine sg [] rfl (by simp) ?_
    exact dgo_end ⟨_, rfl, rfl, trivial⟩
  · refine sd [] rfl (by simp) ?_
    exact dgo_end ⟨_, rfl, rfl, trivial⟩

set_option maxRecDepth 100000 in
theorem tnode_last_no (op n : Int) (x : Str) (ks : List Tm) (ps : List Ty) (hl : lastB op x ks.length ps.length = false) : DGo Tryz.prog Tryz.f102.ntmps (nms []) (RetQ ttS Tryz.f102.results.toList (.pan flawV))
    [.code (tailC Tryz.f102 4)] [(1, .ref 1 0), (2, .ref 2 0)] [(2, some (.immb 176 4 (dHas (shapeH op ks.length ps.length)))), (1, some (.immb 26 5 (dTmc (.mk op n x ks ps))))] [3, 4] := by
  refine sd [] rfl (by simp [cxOf]) ?_
  refine dgo_cond rfl (fun h => ?_) (fun h => ?_)
  · refine sd [] rfl (by simp) ?_
    refine g_pcall rfl (fun _ => tName_ok x) (by simp [cxOf]) ?_
    refine sg [] rfl (by simp) ?_
    have hx : nameS x = false := by simp [lastB] at hl h; grind
    exact dgo_callpan [] rfl (by simp) (want_pan _ hx) trivial rfl rfl
  · exfalso
    simp [lastB] at hl h
    grind

def extraB (op n : Int) (x : Str) (ps : List Ty) : Bool :=
  if op = 1 then integerB n
  else if op = 2 then n == 0 || n == 1
  else if op = 24 then decide (0 ≤ n) && decide (n < 4)
  else if op = 14 then greatS x
  else if op = 15 then decide (1 ≤ (ps.length : Int)) && decide ((ps.length : Int) ≤ 5) && ps.all checkPatB
  else true
def nodeT (op n : Int) (x : Str) (k : Nat) (ps : List Ty) : Bool := headB op n x k ps.length && extraB op n x ps && lastB op x k ps.length

set_option maxRecDepth 100000 in
theorem tnode_yes (op n : Int) (x : Str) (ks : List Tm) (ps : List Ty) (hy : nodeT op n x ks.length ps = true) : EffC Tryz.prog 102 [.imm (.agg (dTmc (.mk op n x ks ps)))] [] (.ret unitV []) := by
  simp only [nodeT] at hy
  refine effc_of ttS_ok Tryz.func102 (by decide +kernel) rfl [1, 2, 3, 4] rfl rfl ?_
  refine sg [] rfl (by simp) ?_
  refine g_pcall rfl (fun _ => shape_ok op n x ks ps) (by simp [cxOf]) ?_
  refine sg [] rfl (by simp [cxOf, dHas] <;> grind) ?_
  simp only [Bool.and_eq_true] at hy
  obtain ⟨⟨hh, he⟩, hl⟩ := hy
  refine g_pcall rfl (fun _ => want_ok _ (by simp [headB] at hh ⊢; grind)) (by simp) ?_
  by_cases h1 : op = 1
  · subst h1
    refine sg [.a] rfl (by simp [cxOf]) ?_
    refine g_pcall rfl (fun _ => integer_ok n) (by simp) ?_
    refine sg [] rfl (by simp) ?_
    simp [extraB] at he
    refine g_pcall rfl (fun _ => want_ok _ (by first | exact he | (simp at he ⊢; grind) | (simp; grind) | grind)) (by simp) ?_
    refine sg [.s] rfl (by simp) ?_
    exact dgo_again (tnode_last_yes _ n x ks ps hl) ⟨rfl, rfl, trivial⟩ ⟨rfl, rfl, trivial⟩ rfl
  by_cases h2 : op = 2
  · subst h2
    refine sg [.a, .a] rfl (by simp [cxOf]) ?_
    simp [extraB] at he
    refine g_pcall rfl (fun _ => want_ok _ (by first | exact he | (simp at he ⊢; grind) | (simp; grind) | grind)) (by simp) ?_
    refine sg [.s] rfl (by simp) ?_
    exact dgo_again (tnode_last_yes _ n x ks ps hl) ⟨rfl, rfl, trivial⟩ ⟨rfl, rfl, trivial⟩ rfl
  by_cases h24 : op = 24
  · subst h24
    refine sg [.a, .a, .a] rfl (by simp [cxOf]) ?_
    simp [extraB] at he
    refine g_pcall rfl (fun _ => want_ok _ (by first | exact he | (simp at he ⊢; grind) | (simp; grind) | grind)) (by simp) ?_
    refine sg [.s] rfl (by simp) ?_
    exact dgo_again (tnode_last_yes _ n x ks ps hl) ⟨rfl, rfl, trivial⟩ ⟨rfl, rfl, trivial⟩ rfl
  by_cases h14 : op = 14
  · subst h14
    refine sg [.a, .a, .a, .a] rfl (by simp [cxOf]) ?_
    refine g_pcall rfl (fun _ => tGreat_ok x) (by simp) ?_
    refine sg [] rfl (by simp) ?_
    simp [extraB] at he
    refine g_pcall rfl (fun _ => want_ok _ (by first | exact he | (simp at he ⊢; grind) | (simp; grind) | grind)) (by simp) ?_
    refine sg [.s] rfl (by simp) ?_
    exact dgo_again (tnode_last_yes _ n x ks ps hl) ⟨rfl, rfl, trivial⟩ ⟨rfl, rfl, trivial⟩ rfl
  by_cases h15 : op = 15
  · subst h15
    refine sg [.a, .a, .a, .a, .a] rfl (by simp [cxOf]) ?_
    simp [extraB] at he
    refine g_pcall rfl (fun _ => want_ok _ (by simp; grind)) (by simp) ?_
    refine sg [] rfl (by simp) ?_
    refine dgo_enter (fun i : Nat => [(101, .imm (.int .i64 i)), (100, .imm (.int .i64 ps.length)), (99, .imm (.sl (dTys ps))), (1, .ref 1 0), (2, .ref 2 0)]) (fun _ => [(2, some (.immb 176 4 (dHas (shapeH 15 ks.length ps.length)))), (1, some (.immb 26 5 (dTmc (.mk 15 n x ks ps))))]) [3, 4] (fun i => ps.length - i)
      (fun i => i ≤ ps.length ∧ (ps.drop i).all checkPatB = true) 0 ⟨Nat.zero_le _, by simpa using he.2⟩ ⟨rfl, tInt (by simp), rfl, rfl, rfl, trivial⟩ ⟨rfl, rfl, trivial⟩ rfl fun i hi ih => ?_
    refine sd [] rfl (by simp) ?_
    have hi2 := hi.2
    refine dgo_cond rfl (fun h => ?_) (fun h => ?_)
    · simp at h
      obtain ⟨t, ht⟩ := has_get h
      rw [get_drop ht, List.all_cons] at hi2
      refine sd [] rfl (by simp) ?_
      refine si rfl (c := dTyc t) (fun _ => ⟨by simp, by simpa using dTys_get ht, by simp⟩) (by simp) ?_
      refine sg [] rfl (by simp) ?_
      refine g_pcall rfl (fun _ => CheckPat_ok t) (by simp) ?_
      refine sg [] rfl (by simp) ?_
      simp only [Bool.and_eq_true] at hi2
      have hz := hi2.1
      refine g_pcall rfl (fun _ => want_ok _ (by first | rfl | (rw [hz]; rfl))) (by simp) ?_
      refine sg [] rfl (by simp) ?_
      exact dgo_again (ih (i + 1) (by omega) ⟨by omega, hi2.2⟩) ⟨tInt (w64 (by omega) (by omega)), rfl, rfl, rfl, rfl, trivial⟩ ⟨rfl, rfl, trivial⟩ rfl
    · simp at h
      rw [List.drop_eq_nil_of_le (by omega)] at hi2
      refine sd [.s] rfl (by simp) ?_
      exact dgo_again (tnode_last_yes _ n x ks ps hl) ⟨rfl, rfl, trivial⟩ ⟨rfl, rfl, trivial⟩ rfl
  refine sg [.f, .f, .f, .f, .f, .s] rfl (by simp [h1, h2, h24, h14, h15]) ?_
  exact dgo_again (tnode_last_yes _ n x ks ps hl) ⟨rfl, rfl, trivial⟩ ⟨rfl, rfl, trivial⟩ rfl

set_option maxRecDepth 100000 in
theorem tnode_no (op n : Int) (x : Str) (ks : List Tm) (ps : List Ty) (hy : nodeT op n x ks.length ps = false) : EffC Tryz.prog 102 [.imm (.agg (dTmc (.mk op n x ks ps)))] [] (.pan flawV) := by
  simp only [nodeT] at hy
  refine effc_of ttS_ok Tryz.func102 (by decide +kernel) rfl [1, 2, 3, 4] rfl rfl ?_
  refine sg [] rfl (by simp) ?_
  refine g_pcall rfl (fun _ => shape_ok op n x ks ps) (by simp [cxOf]) ?_
  refine sg [] rfl (by simp [cxOf, dHas] <;> grind) ?_
  by_cases hh : headB op n x ks.length ps.length = true
  rotate_left
  · exact dgo_callpan [] rfl (by simp) (want_pan _ (by simp [headB] at hh ⊢; grind)) trivial rfl rfl
  rw [hh] at hy
  refine g_pcall rfl (fun _ => want_ok _ (by simp [headB] at hh ⊢; grind)) (by simp) ?_
  by_cases h1 : op = 1
  · subst h1
    refine sg [.a] rfl (by simp [cxOf]) ?_
    refine g_pcall rfl (fun _ => integer_ok n) (by simp) ?_
    refine sg [] rfl (by simp) ?_
    by_cases he : extraB 1 n x ps = true
    · have hl : lastB 1 x ks.length ps.length = false := by simpa [he] using hy
      simp [extraB] at he
      refine g_pcall rfl (fun _ => want_ok _ (by first | exact he | (simp at he ⊢; grind) | (simp; grind) | grind)) (by simp) ?_
      refine sg [.s] rfl (by simp) ?_
      exact dgo_again (tnode_last_no _ n x ks ps hl) ⟨rfl, rfl, trivial⟩ ⟨rfl, rfl, trivial⟩ rfl
    · simp [extraB] at he
      exact dgo_callpan [] rfl (by simp) (want_pan _ (by first | exact he | (simp at he ⊢; grind) | (simp; grind) | grind)) trivial rfl rfl
  by_cases h2 : op = 2
  · subst h2
    refine sg [.a, .a] rfl (by simp [cxOf]) ?_
    by_cases he : extraB 2 n x ps = true
    · have hl : lastB 2 x ks.length ps.length = false := by simpa [he] using hy
      simp [extraB] at he
      refine g_pcall rfl (fun _ => want_ok _ (by first | exact he | (simp at he ⊢; grind) | (simp; grind) | grind)) (by simp) ?_
      refine sg [.s] rfl (by simp) ?_
      exact dgo_again (tnode_last_no _ n x ks ps hl) ⟨rfl, rfl, trivial⟩ ⟨rfl, rfl, trivial⟩ rfl
    · simp [extraB] at he
      exact dgo_callpan [] rfl (by simp) (want_pan _ (by first | exact he | (simp at he ⊢; grind) | (simp; grind) | grind)) trivial rfl rfl
  by_cases h24 : op = 24
  · subst h24
    refine sg [.a, .a, .a] rfl (by simp [cxOf]) ?_
    by_cases he : extraB 24 n x ps = true
    · have hl : lastB 24 x ks.length ps.length = false := by simpa [he] using hy
      simp [extraB] at he
      refine g_pcall rfl (fun _ => want_ok _ (by first | exact he | (simp at he ⊢; grind) | (simp; grind) | grind)) (by simp) ?_
      refine sg [.s] rfl (by simp) ?_
      exact dgo_again (tnode_last_no _ n x ks ps hl) ⟨rfl, rfl, trivial⟩ ⟨rfl, rfl, trivial⟩ rfl
    · simp [extraB] at he
      exact dgo_callpan [] rfl (by simp) (want_pan _ (by first | exact he | (simp at he ⊢; grind) | (simp; grind) | grind)) trivial rfl rfl
  by_cases h14 : op = 14
  · subst h14
    refine sg [.a, .a, .a, .a] rfl (by simp [cxOf]) ?_
    refine g_pcall rfl (fun _ => tGreat_ok x) (by simp) ?_
    refine sg [] rfl (by simp) ?_
    by_cases he : extraB 14 n x ps = true
    · have hl : lastB 14 x ks.length ps.length = false := by simpa [he] using hy
      simp [extraB] at he
      refine g_pcall rfl (fun _ => want_ok _ (by first | exact he | (simp at he ⊢; grind) | (simp; grind) | grind)) (by simp) ?_
      refine sg [.s] rfl (by simp) ?_
      exact dgo_again (tnode_last_no _ n x ks ps hl) ⟨rfl, rfl, trivial⟩ ⟨rfl, rfl, trivial⟩ rfl
    · simp [extraB] at he
      exact dgo_callpan [] rfl (by simp) (want_pan _ (by first | exact he | (simp at he ⊢; grind) | (simp; grind) | grind)) trivial rfl rfl
  by_cases h15 : op = 15
  · subst h15
    refine sg [.a, .a, .a, .a, .a] rfl (by simp [cxOf]) ?_
    by_cases he : (decide (1 ≤ (ps.length : Int)) && decide ((ps.length : Int) ≤ 5)) = true
    rotate_left
    · exact dgo_callpan [] rfl (by simp) (want_pan _ (by simp at he ⊢; grind)) trivial rfl rfl
    have he5 : ps.length ≤ 5 := by simp at he; omega
    have hy : ps.all checkPatB = false ∨ lastB 15 x ks.length ps.length = false := by
      have e : extraB 15 n x ps = ((decide (1 ≤ (ps.length : Int)) && decide ((ps.length : Int) ≤ 5)) && ps.all checkPatB) := by simp only [extraB]; rfl
      rw [e, he] at hy
      simpa only [Bool.true_and, Bool.and_eq_false_iff] using hy
    refine g_pcall rfl (fun _ => want_ok _ (by simp at he ⊢; grind)) (by simp) ?_
    refine sg [] rfl (by simp) ?_
    refine dgo_enter (fun i : Nat => [(101, .imm (.int .i64 i)), (100, .imm (.int .i64 ps.length)), (99, .imm (.sl (dTys ps))), (1, .ref 1 0), (2, .ref 2 0)]) (fun _ => [(2, some (.immb 176 4 (dHas (shapeH 15 ks.length ps.length)))), (1, some (.immb 26 5 (dTmc (.mk 15 n x ks ps))))]) [3, 4] (fun i => ps.length - i)
      (fun i => i ≤ ps.length ∧ ((ps.drop i).all checkPatB = false ∨ lastB 15 x ks.length ps.length = false)) 0 ⟨Nat.zero_le _, hy⟩ ⟨rfl, tInt (by simp), rfl, rfl, rfl, trivial⟩ ⟨rfl, rfl, trivial⟩ rfl fun i hi ih => ?_
    refine sd [] rfl (by simp) ?_
    have hi2 := hi.2
    refine dgo_cond rfl (fun h => ?_) (fun h => ?_)
    · simp at h
      obtain ⟨t, ht⟩ := has_get h
      rw [get_drop ht, List.all_cons] at hi2
      refine sd [] rfl (by simp) ?_
      refine si rfl (c := dTyc t) (fun _ => ⟨by simp, by simpa using dTys_get ht, by simp⟩) (by simp) ?_
      refine sg [] rfl (by simp) ?_
      refine g_pcall rfl (fun _ => CheckPat_ok t) (by simp) ?_
      refine sg [] rfl (by simp) ?_
      cases hz : checkPatB t with
      | true =>
        rw [hz, Bool.true_and] at hi2
        refine g_pcall rfl (fun _ => want_ok _ (by first | rfl | (rw [hz]; rfl))) (by simp) ?_
        refine sg [] rfl (by simp) ?_
        exact dgo_again (ih (i + 1) (by omega) ⟨by omega, hi2⟩) ⟨tInt (w64 (by omega) (by omega)), rfl, rfl, rfl, rfl, trivial⟩ ⟨rfl, rfl, trivial⟩ rfl
      | false => exact dgo_callpan [] rfl (by simp) (want_pan _ (by first | rfl | (rw [hz]; rfl))) trivial rfl rfl
    · simp at h
      rw [List.drop_eq_nil_of_le (by omega)] at hi2
      refine sd [.s] rfl (by simp) ?_
      exact dgo_again (tnode_last_no _ n x ks ps (by simpa using hi2)) ⟨rfl, rfl, trivial⟩ ⟨rfl, rfl, trivial⟩ rfl
  refine sg [.f, .f, .f, .f, .f, .s] rfl (by simp [h1, h2, h24, h14, h15]) ?_
  exact dgo_again (tnode_last_no _ n x ks ps (by simpa [extraB, h1, h2, h24, h14, h15] using hy)) ⟨rfl, rfl, trivial⟩ ⟨rfl, rfl, trivial⟩ rfl

end Go.Hk

/- Contracts of term: terms that are formed. -/
namespace Go.Hk
open Go.Proofs

mutual
def nodesTT : Tm → Bool
  | .mk op n x ks ps => nodeT op n x ks.length ps && nodesTTs ks
def nodesTTs : List Tm → Bool
  | [] => true
  | t :: r => nodesTT t && nodesTTs r
end


set_option maxRecDepth 100000 in
theorem tnodes_yes : ∀ (t : Tm), nodesTT t = true → EffC Tryz.prog 69 [.imm (.agg (dTmc t))] [] (.ret unitV [])
  | .mk op n x ks ps, hy => by
    refine effC_ok 0 rfl fun hok => ?_
    have hv : ks.length ≤ 9223372036854775807 := by
      simp [vOkL, vOk, dTmc, maxLen] at hok
      have := hok.1
      omega
    simp only [nodesTT, Bool.and_eq_true_iff] at hy
    refine effc_of ttS_ok Tryz.func69 (by decide +kernel) rfl [1, 2, 3] rfl rfl ?_
    refine sg [] rfl (by simp) ?_
    refine g_call (fr := []) [] [] rfl (by simp) (tnode_yes op n x ks ps hy.1) trivial rfl rfl rfl rfl ?_
    refine sg [] rfl (by simp) ?_
    refine dgo_enter (fun i : Nat => [(9, .imm (.int .i64 i)), (8, .imm (.int .i64 ks.length)), (7, .imm (.sl (dTms ks))), (1, .ref 1 0)]) (fun _ => [(1, some (.immb 26 5 (dTmc (.mk op n x ks ps))))]) [2, 3] (fun i => ks.length - i)
      (fun i => i ≤ ks.length ∧ nodesTTs (ks.drop i) = true) 0 ⟨Nat.zero_le _, hy.2⟩ ⟨rfl, tInt (by simp), rfl, rfl, trivial⟩ ⟨rfl, trivial⟩ rfl fun i hi ih => ?_
    refine sd [] rfl (by simp) ?_
    have hi2 := hi.2
    refine dgo_cond rfl (fun h => ?_) (fun h => ?_)
    · simp at h
      obtain ⟨t, ht⟩ := has_get h
      rw [get_drop ht] at hi2
      simp only [nodesTTs, Bool.and_eq_true_iff] at hi2
      refine sd [] rfl (by simp) ?_
      refine si rfl (c := dTmc t) (fun _ => ⟨by simp, by simpa using dTms_get ht, by simp⟩) (by simp) ?_
      refine sg [] rfl (by simp) ?_
      · refine g_call (fr := []) [] [] rfl (by simp) (tnodes_yes t hi2.1) trivial rfl rfl rfl rfl ?_
        refine sg [] rfl (by simp) ?_
        exact dgo_again (ih (i + 1) (by omega) ⟨by omega, hi2.2⟩) ⟨tInt (w64 (by omega) (by omega)), rfl, rfl, rfl, trivial⟩ ⟨rfl, trivial⟩ rfl
    · refine sd [] rfl (by simp) ?_
      exact dgo_end ⟨_, rfl, rfl, trivial⟩
termination_by t => SizeOf.sizeOf t
decreasing_by
  all_goals
    have := List.sizeOf_lt_of_mem (List.mem_of_getElem? ht)
    simp_wf
    omega

set_option maxRecDepth 100000 in
theorem tnodes_no : ∀ (t : Tm), nodesTT t = false → EffC Tryz.prog 69 [.imm (.agg (dTmc t))] [] (.pan flawV)
  | .mk op n x ks ps, hy => by
    refine effC_ok 0 rfl fun hok => ?_
    have hv : ks.length ≤ 9223372036854775807 := by
      simp [vOkL, vOk, dTmc, maxLen] at hok
      have := hok.1
      omega
    simp only [nodesTT, Bool.and_eq_false_iff] at hy
    refine effc_of ttS_ok Tryz.func69 (by decide +kernel) rfl [1, 2, 3] rfl rfl ?_
    refine sg [] rfl (by simp) ?_
    by_cases hn : nodeT op n x ks.length ps = true
    rotate_left
    · exact dgo_callpan [] rfl (by simp) (tnode_no op n x ks ps (by simpa using hn)) trivial rfl rfl
    rw [hn] at hy
    simp only [Bool.true_eq_false, false_or] at hy
    refine g_call (fr := []) [] [] rfl (by simp) (tnode_yes op n x ks ps hn) trivial rfl rfl rfl rfl ?_
    refine sg [] rfl (by simp) ?_
    refine dgo_enter (fun i : Nat => [(9, .imm (.int .i64 i)), (8, .imm (.int .i64 ks.length)), (7, .imm (.sl (dTms ks))), (1, .ref 1 0)]) (fun _ => [(1, some (.immb 26 5 (dTmc (.mk op n x ks ps))))]) [2, 3] (fun i => ks.length - i)
      (fun i => i ≤ ks.length ∧ nodesTTs (ks.drop i) = false) 0 ⟨Nat.zero_le _, hy⟩ ⟨rfl, tInt (by simp), rfl, rfl, trivial⟩ ⟨rfl, trivial⟩ rfl fun i hi ih => ?_
    refine sd [] rfl (by simp) ?_
    have hi2 := hi.2
    refine dgo_cond rfl (fun h => ?_) (fun h => ?_)
    · simp at h
      obtain ⟨t, ht⟩ := has_get h
      rw [get_drop ht] at hi2
      simp only [nodesTTs, Bool.and_eq_false_iff] at hi2
      refine sd [] rfl (by simp) ?_
      refine si rfl (c := dTmc t) (fun _ => ⟨by simp, by simpa using dTms_get ht, by simp⟩) (by simp) ?_
      refine sg [] rfl (by simp) ?_
      by_cases hz : nodesTT t = true
      · refine g_call (fr := []) [] [] rfl (by simp) (tnodes_yes t hz) trivial rfl rfl rfl rfl ?_
        refine sg [] rfl (by simp) ?_
        exact dgo_again (ih (i + 1) (by omega) ⟨by omega, by rw [hz] at hi2; simpa using hi2⟩) ⟨tInt (w64 (by omega) (by omega)), rfl, rfl, rfl, trivial⟩ ⟨rfl, trivial⟩ rfl
      · exact dgo_callpan [] rfl (by simp) (tnodes_no t (by simpa using hz)) trivial rfl rfl
    · exfalso
      simp at h
      rw [List.drop_eq_nil_of_le (by omega)] at hi2
      simp [nodesTTs] at hi2
termination_by t => SizeOf.sizeOf t
decreasing_by
  all_goals
    have := List.sizeOf_lt_of_mem (List.mem_of_getElem? ht)
    simp_wf
    omega

def checkB (t : Tm) : Bool := decide (0 ≤ weighTm t 60 14) && nodesTT t

set_option maxRecDepth 100000 in
theorem check1_yes (t : Tm) (h : checkB t = true) : EffC Tryz.prog 67 [.ref 1 0] [(1, some (.immb 26 5 (dTmc t)))] (.ret unitV [(1, some (.immb 26 5 (dTmc t)))]) := by
  simp only [checkB, Bool.and_eq_true, decide_eq_true_eq] at h
  refine effc_of ttS_ok Tryz.func67 (by decide +kernel) rfl [2, 3, 4] rfl rfl ?_
  refine sg [] rfl (by simp) ?_
  refine g_call (fr := []) [(2, 1)] [] rfl (by simp) (gterm_yes t 60 14 1 (by decide) (by decide) (by decide) (by decide) (by decide) (by decide) h.1) ⟨⟨rfl, rfl, rfl⟩, trivial⟩ rfl rfl rfl rfl ?_
  refine sg [] rfl (by simp) ?_
  refine g_call (fr := []) [] [] rfl (by simp) (tnodes_yes t h.2) trivial rfl rfl rfl rfl ?_
  refine sg [] rfl (by simp) ?_
  exact dgo_end ⟨_, rfl, rfl, ⟨rfl, trivial⟩⟩

set_option maxRecDepth 100000 in
theorem check1_no (t : Tm) (h : checkB t = false) : EffC Tryz.prog 67 [.ref 1 0] [(1, some (.immb 26 5 (dTmc t)))] (.pan flawV) := by
  refine effc_of ttS_ok Tryz.func67 (by decide +kernel) rfl [2, 3, 4] rfl rfl ?_
  refine sg [] rfl (by simp) ?_
  by_cases h1 : 0 ≤ weighTm t 60 14
  · refine g_call (fr := []) [(2, 1)] [] rfl (by simp) (gterm_yes t 60 14 1 (by decide) (by decide) (by decide) (by decide) (by decide) (by decide) h1) ⟨⟨rfl, rfl, rfl⟩, trivial⟩ rfl rfl rfl rfl ?_
    refine sg [] rfl (by simp) ?_
    exact dgo_callpan [] rfl (by simp) (tnodes_no t (by simpa [checkB, h1] using h)) trivial rfl rfl
  · exact dgo_callpan [(2, 1)] rfl (by simp) (gterm_no t 60 14 1 (by decide) (by decide) (by decide) (by decide) (by decide) (by decide) (by show weighTm t 60 14 < 0; omega)) ⟨⟨rfl, rfl, rfl⟩, trivial⟩ rfl rfl

set_option maxRecDepth 100000 in
theorem Check_ok (t : Tm) : PureC Tryz.prog 30 [.agg (dTmc t)] (errI (checkB t)) := by
  refine effc_of ttS_ok Tryz.func30 (by decide +kernel) rfl [1, 2, 3] rfl rfl ?_
  refine sg [] rfl (by simp) ?_
  cases h : checkB t with
  | true =>
    refine g_call (fr := []) [(1, 1)] [] rfl (by simp) (checked1_yes Tryz.func67 (by decide +kernel) rfl (check1_yes t h)) ⟨⟨rfl, rfl, rfl⟩, trivial⟩ rfl rfl rfl rfl ?_
    refine sg [] rfl (by simp) ?_
    exact dgo_ret ⟨_, rfl, tV rfl, trivial⟩
  | false =>
    refine g_call (fr := []) [(1, 1)] [] rfl (by simp) (checked1_no Tryz.func67 (by decide +kernel) rfl (check1_no t h)) ⟨⟨rfl, rfl, rfl⟩, trivial⟩ rfl rfl rfl rfl ?_
    refine sg [] rfl (by simp) ?_
    exact dgo_ret ⟨_, rfl, tV rfl, trivial⟩

end Go.Hk

/- Contracts of term and of slices: whether something is so for all elements of a list. -/
namespace Go.Hk
open Go.Proofs

def ttA : TT := ttS ++ [
  (121, ⟨.iface, false, 1, 16, [.imm .niliface]⟩),
  (114, ⟨.sl 121, false, 1, 24, [.nils]⟩),
  (116, ⟨.struct [(0, 111)], true, 2, 40, [.imm (.str []), .nils]⟩),
  (118, ⟨.struct [(0, 113)], true, 15, 224, [.imm (.str []), .imm (.str []), .imm (.int .i64 0), .imm (.int .i64 0), .imm (.str []), .nils, .imm (.int .i64 0), .imm (.int .i64 0), .imm (.str []), .nils, .imm (.int .i64 0), .imm (.int .i64 0), .imm (.str []), .nils, .nils]⟩),
  (55, ⟨.func, false, 1, 8, [.imm .nilfn]⟩),
  (153, ⟨.func, false, 1, 8, [.imm .nilfn]⟩),
  (122, ⟨.func, false, 1, 8, [.imm .nilfn]⟩)]
theorem ttA_ok : TTok Tryz.prog ttA := .of_eq (l := [4, 3, 9, 26, 53, 49, 22, 24, 5, 51, 50, 29, 23, 47, 113, 66, 150, 63, 64, 111, 109, 30, 173, 101, 1, 79, 176, 121, 114, 116, 118, 55, 153, 122]) (by kernel_rfl)

section
variable {n : Nat} {F : List Nat} {Q : DQ} {env env' : Env} {st st' : St} {ids ids' : List Nat} {k todo : List DI} {ob : List Prop}
theorem ad (path : List Pt) (h : run ttA n 300 path todo env st ids [] = .at k env' st' ids' ob) (hob : allP ob) (hd : G Tryz.prog n F Q k env' st' ids') : DGo Tryz.prog n F Q todo env st ids := d_run ttA_ok mixed 300 path h hob hd
theorem ag (path : List Pt) (h : run ttA n 300 path todo env st ids [] = .at k env' st' ids' ob) (hob : allP ob) (hd : G Tryz.prog n F Q k env' st' ids') : G Tryz.prog n F Q todo env st ids := g_run ttA_ok mixed 300 path h hob hd
theorem ai {es : List (List V)} {m : Int} {sz : Nat} {e : TypeId} {g : Option (Bool × Bool)} {ob : List Prop} {t : Nat} {todo' : List DI} {c : List V} (h : pidx ttA n env todo = some ⟨es, m, sz, e, g, ob, some t, todo'⟩)
    (hc : cxOf g → 0 ≤ m ∧ es[m.toNat]? = some c ∧ c.length = sz) (hob : allP ob) (hk : G Tryz.prog n F Q todo' ((t, gD g (.ip e c 0)) :: env) st ids) : G Tryz.prog n F Q todo env st ids := g_index ttA_ok h hc hob hk
end
def idxF {α : Type} (q : α → Bool) : List α → Nat → Int
  | [], _ => -1
  | e :: r, i => if q e then (i : Int) else idxF q r (i + 1)

theorem idxF_neg {α : Type} (q : α → Bool) : ∀ (es : List α) (i : Nat), 0 ≤ idxF q es i ↔ es.any q = true
  | [], i => by simp [idxF]
  | e :: r, i => by
    have ih := idxF_neg q r (i + 1)
    by_cases h : q e = true
    · simp [idxF, h]
    · simp only [idxF, h, List.any_cons]
      simpa using ih


set_option maxRecDepth 100000 in
theorem indexT (g : FuncId) (tf : TypeId) (fv : V) (q : List V → Bool) (es : List (List V)) (hes : ∀ e ∈ es, e.length = 4) (hlen : es.length ≤ 9223372036854775806)
    (hq : ∀ e ∈ es, EffC Tryz.prog g [.imm (.agg e), .ref 1 0] [(1, some (.immb tf 1 [fv]))] (.ret (.imm (.bool (q e))) [(1, some (.immb tf 1 [fv]))])) :
    EffC Tryz.prog 152 [.imm (.sl es), .fn (.func g) [] [.ref 1 0]] [(1, some (.immb tf 1 [fv]))] (.ret (.imm (.int .i64 (idxF q es 0))) [(1, some (.immb tf 1 [fv]))]) := by
  refine effc_of ttA_ok Tryz.func152 (by decide +kernel) rfl [2, 3, 4] rfl rfl ?_
  refine ag [] rfl (by simp) ?_
  refine dgo_enter (fun i : Nat => [(8, .imm (.int .i64 i)), (7, .imm (.int .i64 es.length)), (0, .imm (.sl es)), (1, .fn (.func g) [] [.ref 1 0])]) (fun _ => [(1, some (.immb tf 1 [fv]))]) [2, 3, 4] (fun i => es.length - i)
    (fun i => i ≤ es.length ∧ idxF q es 0 = idxF q (es.drop i) i) 0 ⟨Nat.zero_le _, rfl⟩ ⟨rfl, tInt (by simp), rfl, rfl, trivial⟩ ⟨rfl, trivial⟩ rfl fun i hi ih => ?_
  refine ad [] rfl (by simp) ?_
  have hi2 := hi.2
  refine dgo_cond rfl (fun h => ?_) (fun h => ?_)
  · simp at h
    obtain ⟨e, he⟩ := has_get h
    have hm := List.mem_of_getElem? he
    rw [get_drop he] at hi2
    refine ad [] rfl (by simp) ?_
    refine ai rfl (c := e) (fun _ => ⟨by simp, by simpa using he, hes e hm⟩) (by simp) ?_
    refine ag [] rfl (by simp [hes e hm]) ?_
    refine g_call (fr := []) [(1, 1)] [] rfl (by simp) (hq e hm) ⟨⟨rfl, rfl, rfl⟩, trivial⟩ rfl rfl rfl rfl ?_
    refine ag [] rfl (by simp) ?_
    refine dgo_cond rfl (fun h => ?_) (fun h => ?_)
    · refine ad [] rfl (by simp) ?_
      exact dgo_ret ⟨_, rfl, tV (congrArg _ (by rw [hi2]; simp [idxF, h])), ⟨rfl, trivial⟩⟩
    · refine ad [] rfl (by simp) ?_
      exact dgo_again (ih (i + 1) (by omega) ⟨by omega, by rw [hi2]; simp [idxF, h]⟩) ⟨tInt (w64 (by omega) (by omega)), rfl, rfl, rfl, trivial⟩ ⟨rfl, trivial⟩ rfl
  · refine ad [] rfl (by simp) ?_
    simp at h
    refine dgo_ret ⟨_, rfl, tV (congrArg _ ?_), ⟨rfl, trivial⟩⟩
    rw [hi2, List.drop_eq_nil_of_le (by omega)]; rfl

set_option maxRecDepth 100000 in
theorem containsT (g : FuncId) (tf : TypeId) (fv : V) (q : List V → Bool) (es : List (List V)) (hes : ∀ e ∈ es, e.length = 4) (hlen : es.length ≤ 9223372036854775806)
    (hq : ∀ e ∈ es, EffC Tryz.prog g [.imm (.agg e), .ref 1 0] [(1, some (.immb tf 1 [fv]))] (.ret (.imm (.bool (q e))) [(1, some (.immb tf 1 [fv]))])) :
    EffC Tryz.prog 134 [.imm (.sl es), .fn (.func g) [] [.ref 1 0]] [(1, some (.immb tf 1 [fv]))] (.ret (.imm (.bool (es.any q))) [(1, some (.immb tf 1 [fv]))]) := by
  refine effc_of ttA_ok Tryz.func134 (by decide +kernel) rfl [2, 3, 4] rfl rfl ?_
  refine ag [] rfl (by simp) ?_
  refine g_call (fr := []) [(1, 1)] [] rfl (by simp) (indexT g tf fv q es hes hlen hq) ⟨⟨rfl, rfl, rfl⟩, trivial⟩ rfl rfl rfl rfl ?_
  refine ag [] rfl (by simp) ?_
  refine dgo_ret ⟨_, rfl, tV (congrArg _ ?_), ⟨rfl, trivial⟩⟩
  rw [Bool.eq_iff_iff, ← idxF_neg q es 0]
  simp

set_option maxRecDepth 100000 in
theorem all1T (g : FuncId) (e : List V) (hel : e.length = 4) (b : Bool) (hq : PureC Tryz.prog g [.agg e] (.bool b)) :
    EffC Tryz.prog 135 [.imm (.agg e), .ref 1 0] [(1, some (.immb 55 1 [.fn (.func g)]))] (.ret (.imm (.bool (!b))) [(1, some (.immb 55 1 [.fn (.func g)]))]) := by
  refine effc_of ttA_ok Tryz.func135 (by decide +kernel) rfl [2, 3, 4] rfl rfl ?_
  refine ag [] rfl (by simp [hel]) ?_
  refine g_call (fr := []) [] [] rfl (by simp) hq trivial rfl rfl rfl rfl ?_
  refine ag [] rfl (by simp) ?_
  exact dgo_ret ⟨_, rfl, tV rfl, ⟨rfl, trivial⟩⟩

set_option maxRecDepth 100000 in
theorem allT (g : FuncId) (q : List V → Bool) (es : List (List V)) (hes : ∀ e ∈ es, e.length = 4) (hlen : es.length ≤ 9223372036854775806) (hq : ∀ e ∈ es, PureC Tryz.prog g [.agg e] (.bool (q e))) :
    PureC Tryz.prog 112 [.sl es, .fn (.func g)] (.bool (es.all q)) := by
  refine effc_of ttA_ok Tryz.func112 (by decide +kernel) rfl [1, 2, 3] rfl rfl ?_
  refine ag [] rfl (by simp) ?_
  refine g_call (fr := []) [(1, 1)] [] rfl (by simp) (containsT 135 55 (.fn (.func g)) (fun e => !q e) es hes hlen (fun e he => all1T g e (hes e he) (q e) (hq e he))) ⟨⟨rfl, rfl, rfl⟩, trivial⟩ rfl rfl rfl rfl ?_
  refine ag [] rfl (by simp) ?_
  refine dgo_ret ⟨_, rfl, tV (congrArg _ ?_), trivial⟩
  rw [List.any_eq_not_all_not]
  simp

set_option maxRecDepth 100000 in
theorem indexC (g : FuncId) (tf : TypeId) (fv : V) (q : List V → Bool) (es : List (List V)) (hes : ∀ e ∈ es, e.length = 2) (hlen : es.length ≤ 9223372036854775806)
    (hq : ∀ e ∈ es, EffC Tryz.prog g [.imm (.agg e), .ref 1 0] [(1, some (.immb tf 1 [fv]))] (.ret (.imm (.bool (q e))) [(1, some (.immb tf 1 [fv]))])) :
    EffC Tryz.prog 151 [.imm (.sl es), .fn (.func g) [] [.ref 1 0]] [(1, some (.immb tf 1 [fv]))] (.ret (.imm (.int .i64 (idxF q es 0))) [(1, some (.immb tf 1 [fv]))]) := by
  refine effc_of ttA_ok Tryz.func151 (by decide +kernel) rfl [2, 3, 4] rfl rfl ?_
  refine ag [] rfl (by simp) ?_
  refine dgo_enter (fun i : Nat => [(8, .imm (.int .i64 i)), (7, .imm (.int .i64 es.length)), (0, .imm (.sl es)), (1, .fn (.func g) [] [.ref 1 0])]) (fun _ => [(1, some (.immb tf 1 [fv]))]) [2, 3, 4] (fun i => es.length - i)
    (fun i => i ≤ es.length ∧ idxF q es 0 = idxF q (es.drop i) i) 0 ⟨Nat.zero_le _, rfl⟩ ⟨rfl, tInt (by simp), rfl, rfl, trivial⟩ ⟨rfl, trivial⟩ rfl fun i hi ih => ?_
  refine ad [] rfl (by simp) ?_
  have hi2 := hi.2
  refine dgo_cond rfl (fun h => ?_) (fun h => ?_)
  · simp at h
    obtain ⟨e, he⟩ := has_get h
    have hm := List.mem_of_getElem? he
    rw [get_drop he] at hi2
    refine ad [] rfl (by simp) ?_
    refine ai rfl (c := e) (fun _ => ⟨by simp, by simpa using he, hes e hm⟩) (by simp) ?_
    refine ag [] rfl (by simp [hes e hm]) ?_
    refine g_call (fr := []) [(1, 1)] [] rfl (by simp) (hq e hm) ⟨⟨rfl, rfl, rfl⟩, trivial⟩ rfl rfl rfl rfl ?_
    refine ag [] rfl (by simp) ?_
    refine dgo_cond rfl (fun h => ?_) (fun h => ?_)
    · refine ad [] rfl (by simp) ?_
      exact dgo_ret ⟨_, rfl, tV (congrArg _ (by rw [hi2]; simp [idxF, h])), ⟨rfl, trivial⟩⟩
    · refine ad [] rfl (by simp) ?_
      exact dgo_again (ih (i + 1) (by omega) ⟨by omega, by rw [hi2]; simp [idxF, h]⟩) ⟨tInt (w64 (by omega) (by omega)), rfl, rfl, rfl, trivial⟩ ⟨rfl, trivial⟩ rfl
  · refine ad [] rfl (by simp) ?_
    simp at h
    refine dgo_ret ⟨_, rfl, tV (congrArg _ ?_), ⟨rfl, trivial⟩⟩
    rw [hi2, List.drop_eq_nil_of_le (by omega)]; rfl

set_option maxRecDepth 100000 in
theorem containsC (g : FuncId) (tf : TypeId) (fv : V) (q : List V → Bool) (es : List (List V)) (hes : ∀ e ∈ es, e.length = 2) (hlen : es.length ≤ 9223372036854775806)
    (hq : ∀ e ∈ es, EffC Tryz.prog g [.imm (.agg e), .ref 1 0] [(1, some (.immb tf 1 [fv]))] (.ret (.imm (.bool (q e))) [(1, some (.immb tf 1 [fv]))])) :
    EffC Tryz.prog 132 [.imm (.sl es), .fn (.func g) [] [.ref 1 0]] [(1, some (.immb tf 1 [fv]))] (.ret (.imm (.bool (es.any q))) [(1, some (.immb tf 1 [fv]))]) := by
  refine effc_of ttA_ok Tryz.func132 (by decide +kernel) rfl [2, 3, 4] rfl rfl ?_
  refine ag [] rfl (by simp) ?_
  refine g_call (fr := []) [(1, 1)] [] rfl (by simp) (indexC g tf fv q es hes hlen hq) ⟨⟨rfl, rfl, rfl⟩, trivial⟩ rfl rfl rfl rfl ?_
  refine ag [] rfl (by simp) ?_
  refine dgo_ret ⟨_, rfl, tV (congrArg _ ?_), ⟨rfl, trivial⟩⟩
  rw [Bool.eq_iff_iff, ← idxF_neg q es 0]
  simp

set_option maxRecDepth 100000 in
theorem all1C (g : FuncId) (e : List V) (hel : e.length = 2) (b : Bool) (hq : PureC Tryz.prog g [.agg e] (.bool b)) :
    EffC Tryz.prog 133 [.imm (.agg e), .ref 1 0] [(1, some (.immb 153 1 [.fn (.func g)]))] (.ret (.imm (.bool (!b))) [(1, some (.immb 153 1 [.fn (.func g)]))]) := by
  refine effc_of ttA_ok Tryz.func133 (by decide +kernel) rfl [2, 3, 4] rfl rfl ?_
  refine ag [] rfl (by simp [hel]) ?_
  refine g_call (fr := []) [] [] rfl (by simp) hq trivial rfl rfl rfl rfl ?_
  refine ag [] rfl (by simp) ?_
  exact dgo_ret ⟨_, rfl, tV rfl, ⟨rfl, trivial⟩⟩

set_option maxRecDepth 100000 in
theorem allC (g : FuncId) (q : List V → Bool) (es : List (List V)) (hes : ∀ e ∈ es, e.length = 2) (hlen : es.length ≤ 9223372036854775806) (hq : ∀ e ∈ es, PureC Tryz.prog g [.agg e] (.bool (q e))) :
    PureC Tryz.prog 110 [.sl es, .fn (.func g)] (.bool (es.all q)) := by
  refine effc_of ttA_ok Tryz.func110 (by decide +kernel) rfl [1, 2, 3] rfl rfl ?_
  refine ag [] rfl (by simp) ?_
  refine g_call (fr := []) [(1, 1)] [] rfl (by simp) (containsC 133 153 (.fn (.func g)) (fun e => !q e) es hes hlen (fun e he => all1C g e (hes e he) (q e) (hq e he))) ⟨⟨rfl, rfl, rfl⟩, trivial⟩ rfl rfl rfl rfl ?_
  refine ag [] rfl (by simp) ?_
  refine dgo_ret ⟨_, rfl, tV (congrArg _ ?_), trivial⟩
  rw [List.any_eq_not_all_not]
  simp

set_option maxRecDepth 100000 in
theorem indexI (g : FuncId) (tf : TypeId) (fv : V) (q : V → Bool) (es : List V) (hlen : es.length ≤ 9223372036854775806)
    (hq : ∀ e ∈ es, EffC Tryz.prog g [.imm e, .ref 1 0] [(1, some (.immb tf 1 [fv]))] (.ret (.imm (.bool (q e))) [(1, some (.immb tf 1 [fv]))])) :
    EffC Tryz.prog 131 [.imm (.sl (es.map fun x => [x])), .fn (.func g) [] [.ref 1 0]] [(1, some (.immb tf 1 [fv]))] (.ret (.imm (.int .i64 (idxF q es 0))) [(1, some (.immb tf 1 [fv]))]) := by
  refine effc_of ttA_ok Tryz.func131 (by decide +kernel) rfl [2, 3, 4] rfl rfl ?_
  refine ag [] rfl (by simp) ?_
  refine dgo_enter (fun i : Nat => [(8, .imm (.int .i64 i)), (7, .imm (.int .i64 es.length)), (0, .imm (.sl (es.map fun x => [x]))), (1, .fn (.func g) [] [.ref 1 0])]) (fun _ => [(1, some (.immb tf 1 [fv]))]) [2, 3, 4] (fun i => es.length - i)
    (fun i => i ≤ es.length ∧ idxF q es 0 = idxF q (es.drop i) i) 0 ⟨Nat.zero_le _, rfl⟩ ⟨rfl, tInt (by simp), rfl, rfl, trivial⟩ ⟨rfl, trivial⟩ rfl fun i hi ih => ?_
  refine ad [] rfl (by simp) ?_
  have hi2 := hi.2
  refine dgo_cond rfl (fun h => ?_) (fun h => ?_)
  · simp at h
    obtain ⟨e, he⟩ := has_get h
    have hm := List.mem_of_getElem? he
    rw [get_drop he] at hi2
    refine ad [] rfl (by simp) ?_
    refine ai rfl (c := [e]) (fun _ => ⟨by simp, by simp [he], rfl⟩) (by simp) ?_
    refine ag [] rfl (by simp) ?_
    refine g_call (fr := []) [(1, 1)] [] rfl (by simp) (hq e hm) ⟨⟨rfl, rfl, rfl⟩, trivial⟩ rfl rfl rfl rfl ?_
    refine ag [] rfl (by simp) ?_
    refine dgo_cond rfl (fun h => ?_) (fun h => ?_)
    · refine ad [] rfl (by simp) ?_
      exact dgo_ret ⟨_, rfl, tV (congrArg _ (by rw [hi2]; simp [idxF, h])), ⟨rfl, trivial⟩⟩
    · refine ad [] rfl (by simp) ?_
      exact dgo_again (ih (i + 1) (by omega) ⟨by omega, by rw [hi2]; simp [idxF, h]⟩) ⟨tInt (w64 (by omega) (by omega)), rfl, rfl, rfl, trivial⟩ ⟨rfl, trivial⟩ rfl
  · refine ad [] rfl (by simp) ?_
    simp at h
    refine dgo_ret ⟨_, rfl, tV (congrArg _ ?_), ⟨rfl, trivial⟩⟩
    rw [hi2, List.drop_eq_nil_of_le (by omega)]; rfl

set_option maxRecDepth 100000 in
theorem containsI (g : FuncId) (tf : TypeId) (fv : V) (q : V → Bool) (es : List V) (hlen : es.length ≤ 9223372036854775806)
    (hq : ∀ e ∈ es, EffC Tryz.prog g [.imm e, .ref 1 0] [(1, some (.immb tf 1 [fv]))] (.ret (.imm (.bool (q e))) [(1, some (.immb tf 1 [fv]))])) :
    EffC Tryz.prog 108 [.imm (.sl (es.map fun x => [x])), .fn (.func g) [] [.ref 1 0]] [(1, some (.immb tf 1 [fv]))] (.ret (.imm (.bool (es.any q))) [(1, some (.immb tf 1 [fv]))]) := by
  refine effc_of ttA_ok Tryz.func108 (by decide +kernel) rfl [2, 3, 4] rfl rfl ?_
  refine ag [] rfl (by simp) ?_
  refine g_call (fr := []) [(1, 1)] [] rfl (by simp) (indexI g tf fv q es hlen hq) ⟨⟨rfl, rfl, rfl⟩, trivial⟩ rfl rfl rfl rfl ?_
  refine ag [] rfl (by simp) ?_
  refine dgo_ret ⟨_, rfl, tV (congrArg _ ?_), ⟨rfl, trivial⟩⟩
  rw [Bool.eq_iff_iff, ← idxF_neg q es 0]
  simp

set_option maxRecDepth 100000 in
theorem all1I (g : FuncId) (e : V) (b : Bool) (hq : PureC Tryz.prog g [e] (.bool b)) :
    EffC Tryz.prog 109 [.imm e, .ref 1 0] [(1, some (.immb 122 1 [.fn (.func g)]))] (.ret (.imm (.bool (!b))) [(1, some (.immb 122 1 [.fn (.func g)]))]) := by
  refine effc_of ttA_ok Tryz.func109 (by decide +kernel) rfl [2, 3, 4] rfl rfl ?_
  refine ag [] rfl (by simp) ?_
  refine g_call (fr := []) [] [] rfl (by simp) hq trivial rfl rfl rfl rfl ?_
  refine ag [] rfl (by simp) ?_
  exact dgo_ret ⟨_, rfl, tV rfl, ⟨rfl, trivial⟩⟩

set_option maxRecDepth 100000 in
theorem allI (g : FuncId) (q : V → Bool) (es : List V) (hlen : es.length ≤ 9223372036854775806) (hq : ∀ e ∈ es, PureC Tryz.prog g [e] (.bool (q e))) :
    PureC Tryz.prog 76 [.sl (es.map fun x => [x]), .fn (.func g)] (.bool (es.all q)) := by
  refine effc_of ttA_ok Tryz.func76 (by decide +kernel) rfl [1, 2, 3] rfl rfl ?_
  refine ag [] rfl (by simp) ?_
  refine g_call (fr := []) [(1, 1)] [] rfl (by simp) (containsI 109 122 (.fn (.func g)) (fun e => !q e) es hlen (fun e he => all1I g e (q e) (hq e he))) ⟨⟨rfl, rfl, rfl⟩, trivial⟩ rfl rfl rfl rfl ?_
  refine ag [] rfl (by simp) ?_
  refine dgo_ret ⟨_, rfl, tV (congrArg _ ?_), trivial⟩
  rw [List.any_eq_not_all_not]
  simp

end Go.Hk

/- A value of an interface is asked for its type. -/
namespace Go.Hk

def concrete : Sh → Bool
  | .iface | .other => false
  | _ => true

structure PTa where
  t : TypeId
  v : V
  to_ : TypeId
  dst : Option Nat
  todo : List DI

def pta (tt : TT) (n : Nat) (env : Env) (todo : List DI) : Option PTa :=
  match opAt todo with
  | some o => match o.guard, o.op with
    | none, .typeAssert x _ to_ true => match evO env x, lk tt to_, dstOk n o.dst, next1 todo ([], []) with
      | some (.imm (.iface t v)), some i, true, some (_, _, todo') => match concrete i.sh with
        | true => some ⟨t, v, to_, o.dst, todo'⟩
        | false => none
      | _, _, _, _ => none
    | _, _ => none
  | none => none

section
variable {P : Program} {n : Nat} {F : List Nat} {Q : DQ} {tt : TT} {env env' : Env} {st st' : St} {ids ids' : List Nat} {k todo todo' : List DI} {I : Imm} {μ : Mu} {w : World} {a : Act} {Pn : V → Prop} {d : D} {cx : Prop} {ob : List Prop}

theorem tassert_run {t to_ from_ : TypeId} {i : TyI} {v : Value} (hi : TyOk P to_ i) (hc : concrete i.sh = true) {r : Value} (h : (t = to_ ∧ r = .tuple #[v, .bool true]) ∨ (t ≠ to_ ∧ ∃ z, (P.info? to_).bind (·.zero) = some z ∧ r = .tuple #[z, .bool false])) :
    (Instr.typeAssert (.iface t v) from_ to_ true).run P w = .ok r w := by
  have hu : ∃ dd, P.underlying to_ = some dd ∧ ∀ ms, dd ≠ .interface ms := by
    have := hi.sh
    generalize i.sh = sh at this hc
    cases sh <;> simp only [concrete, Bool.false_eq_true] at hc <;> simp only [ShOk] at this
    case struct fs => obtain ⟨f, h1, _⟩ := this; exact ⟨_, h1, fun _ h => by cases h⟩
    case func => obtain ⟨a, b, c, h1⟩ := this; exact ⟨_, h1, fun _ h => by cases h⟩
    all_goals exact ⟨_, this, fun _ h => by cases h⟩
  obtain ⟨dd, hd, hne⟩ := hu
  rcases h with ⟨rfl, rfl⟩ | ⟨hn, z, hz, rfl⟩
  · cases dd <;> first | exact absurd rfl (hne _) | simp [Instr.typeAssert, run_underlying hd]
  · have hz := run_zeroValue_of (w := w) hz
    cases dd <;> first | exact absurd rfl (hne _) | simp [Instr.typeAssert, run_underlying hd, hn, hz]

theorem g_tassert (htt : TTok P tt) {t0 to_ : TypeId} {v0 : V} {d0 : Option Nat} {todo0 : List DI} (h : pta tt n env todo = some ⟨t0, v0, to_, d0, todo0⟩) {r : List V}
    (hr : (t0 = to_ ∧ r = [v0, .bool true]) ∨ (t0 ≠ to_ ∧ ∃ z zd, (P.info? to_).bind (·.zero) = some z ∧ (∀ I, RepV I z zd) ∧ r = [zd, .bool false]))
    (hk : G P n F Q todo0 (putE d0 (.imm (.tup r)) env) st ids) : G P n F Q todo env st ids := by
  unfold pta at h
  split at h
  · rename_i o ho
    split at h
    · rename_i x from_ to' hg hop
      split at h
      · rename_i t v i all o' todo' hx hi hd h1
        split at h
        · rename_i hc
          cases h
          have ho' : o' = o := opAt_next ho h1
          subst ho'
          refine g_step (fr := []) (wr := []) (rd := []) h1 ?_ hd (fun c hc => by rw [hop] at hc; cases hc) hk
          intro I μ st1 ids1 a w hag hst hon
          refine ⟨fun _ => ?_, fun hw => by rw [wanted_none hg] at hw; cases hw⟩
          have hops := opsOn_of hon
          rw [hop] at hops
          have rx := (hops x (by simp [Op.operands]) _ hx).immInv
          generalize hv : a.eval x = v at rx
          cases rx with
          | iface _ u _ hu =>
            have fin : ∀ (z : Value) (b : Bool) (zd : V), (Instr.typeAssert (.iface t0 u) from_ to_ true).run P w = .ok (.tuple #[z, .bool b]) w → RepV I z zd → r = [zd, .bool b] →
                valX P ((execOp a.eval o').run P w) (fun v w' => ∃ I' μ', StRep I' μ' ([] ++ st1) ids1 w' ∧ RepD I' μ' v (.imm (.tup r)) ∧ μ.le μ' ∧ Ext I μ st1 w I' μ' ([] ++ st1) w') (panK (panQ Q) I μ st1 w) := by
              intro z b zd h1 h2 h3
              have hrun : (execOp a.eval o').run P w = .ok (.value (.tuple #[z, .bool b])) w := by
                simp only [execOp, hop, hv]
                exact ok_of_sem h1
              rw [hrun, h3]
              refine ⟨I, μ, hst, .imm _ _ (.tup _ _ rfl fun i c x hc hx => ?_), Mu.le_refl μ, Ext.refl _ _ _ _⟩
              match i, hc, hx with
              | 0, hc, hx => cases hc; cases hx; exact h2
              | 1, hc, hx => cases hc; cases hx; exact .bool _
              | i + 2, hc, hx => simp at hx
            rcases hr with ⟨e1, e2⟩ | ⟨e1, z, zd, e2, e3, e4⟩
            · exact fin u true v0 (tassert_run (htt _ _ hi) hc (.inl ⟨e1, rfl⟩)) hu e2
            · exact fin z false zd (tassert_run (htt _ _ hi) hc (.inr ⟨e1, z, e2, rfl⟩)) (e3 I) e4
        · cases h
      · cases h
    · cases h
  · cases h

end
end Go.Hk

/- Contracts of term: modules that are formed. -/
namespace Go.Hk
open Go.Proofs

mutual
theorem dTyc_inj : ∀ {a b : Ty}, dTyc a = dTyc b → a = b
  | .mk s n x ps, .mk s' n' x' ps', h => by
    simp only [dTyc, List.cons.injEq, V.int.injEq, V.str.injEq, V.sl.injEq, and_true, true_and] at h
    obtain ⟨h1, h2, h3, h4⟩ := h
    subst h1; subst h2; subst h3
    rw [dTys_inj h4]
theorem dTys_inj : ∀ {a b : List Ty}, dTys a = dTys b → a = b
  | [], [], _ => rfl
  | [], _ :: _, h => by simp [dTys] at h
  | _ :: _, [], h => by simp [dTys] at h
  | x :: r, y :: t, h => by
    simp only [dTys, List.cons.injEq] at h
    rw [dTyc_inj h.1, dTys_inj h.2]
end

theorem dCdc_inj {a b : Cd} (h : dCdc a = dCdc b) : a = b := by
  obtain ⟨a1, a2⟩ := a
  obtain ⟨b1, b2⟩ := b
  simp only [dCdc, List.cons.injEq, V.str.injEq, V.sl.injEq, and_true] at h
  rw [h.1, dTys_inj h.2]

open Classical in
noncomputable def qOf {α β : Type} (d : α → β) (f : α → Bool) (e : β) : Bool := decide (∃ t, d t = e ∧ f t = true)
open Classical in
theorem qOf_at {α β : Type} {d : α → β} (hd : ∀ {a b}, d a = d b → a = b) (f : α → Bool) (t : α) : qOf d f (d t) = f t := by
  unfold qOf
  by_cases h : f t = true
  · rw [h]; exact decide_eq_true ⟨t, rfl, h⟩
  · simp only [Bool.not_eq_true] at h
    rw [h]
    refine decide_eq_false fun ⟨u, h1, h2⟩ => ?_
    rw [hd h1, h] at h2
    cases h2
theorem qOf_all {α β : Type} {d : α → β} (hd : ∀ {a b}, d a = d b → a = b) (f : α → Bool) (l : List α) : (l.map d).all (qOf d f) = l.all f := by
  rw [List.all_map]
  congr 1
  funext t
  exact qOf_at hd f t

def conB2 (c : Cd) : Bool := greatS c.name && decide ((c.args.length : Int) ≤ 3) && c.args.all (formedB false)
def dataB2 (d : Dt) : Bool := greatS d.name && decide ((1 : Int) ≤ d.cons.length) && decide ((d.cons.length : Int) ≤ 5) && d.cons.all conB2
def funB2 (f : Fd) : Bool := nameS f.name && nameS f.param && formedB false f.from_ && formedB false f.to_ && checkB f.body

set_option maxRecDepth 100000 in
theorem allTypes (ts : List Ty) (h : ts.length ≤ 9223372036854775806) : PureC Tryz.prog 112 [.sl (dTys ts), .fn (.func 113)] (.bool (ts.all (formedB false))) := by
  have := allT 113 (qOf dTyc (formedB false)) (dTys ts) (fun e he => by rw [dTys_eq] at he; obtain ⟨t, _, rfl⟩ := List.mem_map.1 he; simp) (by simpa using h) (fun e he => by
    rw [dTys_eq] at he
    obtain ⟨t, _, rfl⟩ := List.mem_map.1 he
    rw [qOf_at dTyc_inj]
    exact whole_ok t)
  rw [dTys_eq, qOf_all dTyc_inj] at this
  rw [dTys_eq]
  exact this

set_option maxRecDepth 100000 in
theorem right1_ok (c : Cd) : PureC Tryz.prog 111 [.agg (dCdc c)] (.bool (conB2 c)) := by
  obtain ⟨nm, ts⟩ := c
  refine pureC_ok fun hv => ?_
  simp [vOkL, vOk, dCdc, maxLen] at hv
  refine effc_of ttA_ok Tryz.func111 (by decide +kernel) rfl [1, 2, 3] rfl rfl ?_
  refine ag [] rfl (by simp [cxOf]) ?_
  refine g_pcall rfl (fun _ => tGreat_ok nm) (by simp [cxOf]) ?_
  refine ag [] rfl (by simp [cxOf]) ?_
  refine g_pcall rfl (fun hg => allTypes ts (by simp [cxOf] at hg; omega)) (by simp [cxOf]) ?_
  refine ag [] rfl (by simp [cxOf] <;> grind) ?_
  refine dgo_ret ⟨_, rfl, tV (congrArg _ ?_), trivial⟩
  simp [conB2] <;> grind

set_option maxRecDepth 100000 in
theorem allCons (cs : List Cd) (h : cs.length ≤ 9223372036854775806) : PureC Tryz.prog 110 [.sl (cs.map dCdc), .fn (.func 111)] (.bool (cs.all conB2)) := by
  have := allC 111 (qOf dCdc conB2) (cs.map dCdc) (fun e he => by obtain ⟨t, _, rfl⟩ := List.mem_map.1 he; rfl) (by simpa using h) (fun e he => by
    obtain ⟨t, _, rfl⟩ := List.mem_map.1 he
    rw [qOf_at dCdc_inj]
    exact right1_ok t)
  rw [qOf_all dCdc_inj] at this
  exact this

/-! ### Parts -/
def partD (d : Dt) : V := .iface 116 (.agg (dDtc d))
def partF (f : Fd) : V := .iface 118 (.agg (dFdc f))

set_option maxRecDepth 100000 in
theorem zeroDataPart : ∃ z, (Tryz.prog.info? 116).bind (·.zero) = some z ∧ ∀ I, RepV I z (.agg [.str [], .sl []]) := by
  refine ⟨.agg #[.string ⟨#[]⟩, .slice none 0 0], by kernel_rfl, fun I => .agg _ _ rfl (by decide) fun i c x hc hx => ?_⟩
  match i, hc, hx with
  | 0, hc, hx => cases hc; cases hx; exact .str _ _ rfl
  | 1, hc, hx => cases hc; cases hx; exact .slnil
  | i + 2, hc, hx => simp at hx

set_option maxRecDepth 100000 in
theorem right_data (d : Dt) : PureC Tryz.prog 77 [partD d] (.bool (dataB2 d)) := by
  obtain ⟨nm, cs⟩ := d
  refine pureC_ok fun hv => ?_
  simp [vOkL, vOk, partD, dDtc, maxLen] at hv
  refine effc_of ttA_ok Tryz.func77 (by decide +kernel) rfl [1, 2, 3, 4] rfl rfl ?_
  refine ag [] rfl (by simp [cxOf]) ?_
  refine g_tassert ttA_ok rfl (.inl ⟨rfl, rfl⟩) ?_
  refine ag [.a] rfl (by simp [cxOf]) ?_
  refine g_pcall rfl (fun _ => tGreat_ok nm) (by simp [cxOf]) ?_
  refine ag [] rfl (by simp [cxOf]) ?_
  refine g_pcall rfl (fun hg => allCons cs (by simp [cxOf] at hg; omega)) (by simp [cxOf]) ?_
  refine ag [] rfl (by simp [cxOf] <;> grind) ?_
  refine dgo_ret ⟨_, rfl, tV (congrArg _ ?_), trivial⟩
  simp [dataB2] <;> grind

set_option maxRecDepth 100000 in
theorem right_fun (f : Fd) : PureC Tryz.prog 77 [partF f] (.bool (funB2 f)) := by
  obtain ⟨nm, pm, ⟨s1, n1, x1, p1⟩, ⟨s2, n2, x2, p2⟩, ⟨o3, n3, x3, k3, p3⟩⟩ := f
  obtain ⟨z, hz, hzr⟩ := zeroDataPart
  refine pureC_ok fun hv => ?_
  refine effc_of ttA_ok Tryz.func77 (by decide +kernel) rfl [1, 2, 3, 4] rfl rfl ?_
  refine ag [] rfl (by simp [cxOf]) ?_
  refine g_tassert ttA_ok rfl (.inr ⟨by decide, z, _, hz, hzr, rfl⟩) ?_
  refine ag [.a] rfl (by simp [cxOf]) ?_
  refine g_tassert ttA_ok rfl (.inl ⟨rfl, rfl⟩) ?_
  refine ag [.a] rfl (by simp [cxOf]) ?_
  refine g_pcall rfl (fun _ => tName_ok nm) (by simp [cxOf]) ?_
  refine ag [] rfl (by simp [cxOf]) ?_
  refine g_pcall rfl (fun _ => tName_ok pm) (by simp [cxOf]) ?_
  refine ag [] rfl (by simp [cxOf]) ?_
  refine g_pcall rfl (fun _ => whole_ok (.mk s1 n1 x1 p1)) (by simp [cxOf]) ?_
  refine ag [] rfl (by simp [cxOf]) ?_
  refine g_pcall rfl (fun _ => whole_ok (.mk s2 n2 x2 p2)) (by simp [cxOf]) ?_
  refine ag [] rfl (by simp [cxOf]) ?_
  refine g_pcall rfl (fun _ => Check_ok (.mk o3 n3 x3 k3 p3)) (by simp [cxOf]) ?_
  refine ag [] rfl (by simp [cxOf] <;> grind) ?_
  refine dgo_ret ⟨_, rfl, tV (congrArg _ ?_), trivial⟩
  simp [funB2, errI] <;> grind

inductive Pt2 where
  | d (x : Dt)
  | f (x : Fd)
def dPt : Pt2 → V
  | .d x => partD x
  | .f x => partF x
def partB : Pt2 → Bool
  | .d x => dataB2 x
  | .f x => funB2 x

set_option maxRecDepth 100000 in
theorem right_ok (p : Pt2) : PureC Tryz.prog 77 [dPt p] (.bool (partB p)) := by
  cases p with
  | d x => exact right_data x
  | f x => exact right_fun x

mutual
theorem dTmc_inj : ∀ {a b : Tm}, dTmc a = dTmc b → a = b
  | .mk s n x ks ps, .mk s' n' x' ks' ps', h => by
    simp only [dTmc, List.cons.injEq, V.int.injEq, V.str.injEq, V.sl.injEq, and_true, true_and] at h
    obtain ⟨h1, h2, h3, h4, h5⟩ := h
    subst h1; subst h2; subst h3
    rw [dTms_inj h4, dTys_inj h5]
theorem dTms_inj : ∀ {a b : List Tm}, dTms a = dTms b → a = b
  | [], [], _ => rfl
  | [], _ :: _, h => by simp [dTms] at h
  | _ :: _, [], h => by simp [dTms] at h
  | x :: r, y :: t, h => by
    simp only [dTms, List.cons.injEq] at h
    rw [dTmc_inj h.1, dTms_inj h.2]
end

theorem map_dCdc_inj : ∀ {a b : List Cd}, a.map dCdc = b.map dCdc → a = b
  | [], [], _ => rfl
  | [], _ :: _, h => by simp at h
  | _ :: _, [], h => by simp at h
  | x :: r, y :: t, h => by
    simp only [List.map_cons, List.cons.injEq] at h
    rw [dCdc_inj h.1, map_dCdc_inj h.2]

set_option maxRecDepth 100000 in
theorem dPt_inj {a b : Pt2} (h : dPt a = dPt b) : a = b := by
  cases a with
  | d x => cases b with
    | d y =>
      obtain ⟨x1, x2⟩ := x
      obtain ⟨y1, y2⟩ := y
      simp only [dPt, partD, dDtc, V.iface.injEq, V.agg.injEq, List.cons.injEq, V.str.injEq, V.sl.injEq, true_and, and_true] at h
      rw [h.1, map_dCdc_inj h.2]
    | f y => simp [dPt, partD, partF] at h
  | f x => cases b with
    | d y => simp [dPt, partD, partF] at h
    | f y =>
      obtain ⟨nm, pm, ⟨s1, n1, x1, p1⟩, ⟨s2, n2, x2, p2⟩, ⟨o3, n3, x3, k3, p3⟩⟩ := x
      obtain ⟨nm', pm', ⟨s1', n1', x1', p1'⟩, ⟨s2', n2', x2', p2'⟩, ⟨o3', n3', x3', k3', p3'⟩⟩ := y
      simp only [dPt, partF, dFdc, dTyc, dTmc, V.iface.injEq, V.agg.injEq, List.cons_append, List.nil_append, List.cons.injEq, V.str.injEq, V.int.injEq, V.sl.injEq, true_and, and_true] at h
      obtain ⟨h1, h2, h3, h4, h5, h6, h7, h8, h9, h10, h11, h12, h13, h14, h15⟩ := h
      rw [h1, h2, h3, h4, h5, dTys_inj h6, h7, h8, h9, dTys_inj h10, h11, h12, h13, dTms_inj h14, dTys_inj h15]

set_option maxRecDepth 100000 in
theorem allParts (ps : List Pt2) (h : ps.length ≤ 9223372036854775806) : PureC Tryz.prog 76 [.sl (ps.map fun p => [dPt p]), .fn (.func 77)] (.bool (ps.all partB)) := by
  have := allI 77 (qOf dPt partB) (ps.map dPt) (by simpa using h) (fun e he => by
    obtain ⟨t, _, rfl⟩ := List.mem_map.1 he
    rw [qOf_at dPt_inj]
    exact right_ok t)
  rw [qOf_all dPt_inj, List.map_map] at this
  exact this

/-! ### Modules -/
def modB2 (m : Md) : Bool := nameS m.name && decide ((m.datas.length : Int) ≤ 4) && decide ((1 : Int) ≤ m.funs.length) && decide ((m.funs.length : Int) ≤ 5) && m.datas.all dataB2 && m.funs.all funB2
def rowP (l : List Pt2) : List (List V) := l.map fun p => [dPt p]
theorem rowP_one (l : List Pt2) : ∀ c ∈ rowP l, c.length = 1 := by
  intro c hc
  simp only [rowP, List.mem_map] at hc
  obtain ⟨a, _, rfl⟩ := hc
  rfl
@[simp] theorem rowP_length (l : List Pt2) : (rowP l).length = l.length := by simp [rowP]

def envP (b : Bool) (k : Nat) : D := match b with
  | false => .nils
  | true => .own 2 k
def stP (b : Bool) (m : Md) (es : List (List V)) : St := match b with
  | false => [(1, some (.immb 66 3 (dMdc m)))]
  | true => [(2, some (.row 121 1 es)), (1, some (.immb 66 3 (dMdc m)))]

theorem rowP_app (a b : List Pt2) : rowP (a ++ b) = rowP a ++ rowP b := by simp [rowP]

set_option maxRecDepth 100000 in
/-- The functions, then what is asked of all parts. -/
theorem cm_tail (m : Md) (b : Bool) (es0 : List (List V)) (hb : b = false → es0 = []) (he0 : es0 = rowP (m.datas.map .d)) (hd : (m.datas.length : Int) ≤ 4) (hf1 : (1 : Int) ≤ m.funs.length) (hf : (m.funs.length : Int) ≤ 5) :
    DGo Tryz.prog Tryz.f35.ntmps (nms []) (RetQ ttA Tryz.f35.results.toList (.ret (.imm (errI (m.datas.all dataB2 && m.funs.all funB2))) []))
      [.code (tailC Tryz.f35 4)] [(3, envP b es0.length), (1, .ref 1 0)] (stP b m es0) [3, 4] := by
  cases b with
  | false =>
    have := hb rfl
    subst this
    refine ad [] rfl (by simp) ?_
    refine dgo_enter (fun y : Nat × Bool × List (List V) => [(47, .imm (.int .i64 y.1)), (46, .imm (.int .i64 m.funs.length)), (45, .imm (.sl (m.funs.map dFdc))), (3, envP y.2.1 y.2.2.length), (1, .ref 1 0)])
      (fun y => stP y.2.1 m y.2.2) [3, 4] (fun y => m.funs.length - y.1)
      (fun y => y.1 ≤ m.funs.length ∧ y.2.2 = rowP (m.datas.map .d ++ (m.funs.take y.1).map .f) ∧ (y.2.1 = false → y.2.2 = [])) (0, false, []) ⟨Nat.zero_le _, by simpa using he0, fun _ => rfl⟩ ⟨rfl, tInt (by simp), rfl, rfl, rfl, trivial⟩ ⟨rfl, trivial⟩ rfl fun y hi ih => ?_
    obtain ⟨i, b, es⟩ := y
    obtain ⟨hi1, hi2, hi3⟩ := hi
    simp only at hi1 hi2 hi3
    have hlen : es.length ≤ 9 := by
      have := congrArg List.length hi2
      simp at this
      omega
    have hnext : ∀ f, m.funs[i]? = some f → es ++ [[partF f]] = rowP (m.datas.map .d ++ (m.funs.take (i + 1)).map .f) := fun f hf => by
      rw [get_take hf, List.map_append, ← List.append_assoc, rowP_app, ← hi2]; rfl
    have hend : ¬ i < m.funs.length → es = rowP (m.datas.map .d ++ m.funs.map .f) := fun h => by
      rw [hi2, List.take_of_length_le (by omega)]
    cases b with
    | false =>
      have hi3 := hi3 rfl
      subst hi3
      refine ad [] rfl (by simp) ?_
      refine dgo_cond rfl (fun h => ?_) (fun h => ?_)
      · simp at h
        obtain ⟨f, hf⟩ := has_get h
        refine ad [] rfl (by simp) ?_
        refine ai rfl (c := dFdc f) (fun _ => ⟨by simp, by simpa using map_get hf, by simp⟩) (by simp) ?_
        refine ag [] rfl (by simp) ?_
        refine g_append ttA_ok rfl ⟨by simp, by simp [maxLen], by simp, trivial⟩ ?_
        refine ag [] rfl (by simp) ?_
        refine dgo_swap 2 4 rfl ?_
        exact dgo_again (ih (i + 1, true, [] ++ [[partF f]]) (by simp only; omega) ⟨by simp only; omega, hnext f hf, fun h => by cases h⟩) ⟨tInt (w64 (by simp only; omega) (by simp only; omega)), rfl, rfl, rfl, rfl, trivial⟩ ⟨rfl, rfl, trivial⟩ rfl
      · simp at h
        have := congrArg List.length (hend (by omega))
        simp at this
        omega
    | true =>
      refine ad [] rfl (by simp) ?_
      refine dgo_cond rfl (fun h => ?_) (fun h => ?_)
      · simp at h
        obtain ⟨f, hf⟩ := has_get h
        refine ad [] rfl (by simp) ?_
        refine ai rfl (c := dFdc f) (fun _ => ⟨by simp, by simpa using map_get hf, by simp⟩) (by simp) ?_
        refine ag [] rfl (by simp) ?_
        refine g_append ttA_ok rfl ⟨by simp, by simp [maxLen]; omega, by simp; omega, trivial⟩ ?_
        refine ag [] rfl (by simp) ?_
        refine dgo_swap 2 4 rfl ?_
        exact dgo_again (ih (i + 1, true, es ++ [[partF f]]) (by simp only; omega) ⟨by simp only; omega, hnext f hf, fun h => by cases h⟩) ⟨tInt (w64 (by simp only; omega) (by simp only; omega)), rfl, rfl, rfl, rfl, trivial⟩ ⟨rfl, rfl, trivial⟩ rfl
      · simp at h
        refine dgo_exit rfl ?_
        refine dgo_freeze 2 rfl ?_
        refine ad [] rfl (by simp) ?_
        refine g_pcall rfl (fun _ => by rw [hend (by omega)]; exact allParts _ (by simp; omega)) (by simp) ?_
        refine ag [] rfl (by simp) ?_
        have hall : (m.datas.map Pt2.d ++ m.funs.map Pt2.f).all partB = (m.datas.all dataB2 && m.funs.all funB2) := by
          rw [List.all_append, List.all_map, List.all_map]; rfl
        rw [hall]
        refine dgo_cond rfl (fun h => ?_) (fun h => ?_)
        · refine ad [] rfl (by simp) ?_
          refine dgo_ret ⟨_, rfl, tV ?_, trivial⟩
          simp only [Bool.not_eq_true'] at h
          rw [h]; rfl
        · refine ad [] rfl (by simp) ?_
          refine dgo_ret ⟨_, rfl, tV ?_, trivial⟩
          simp only [Bool.not_eq_false'] at h
          rw [h]; rfl
  | true =>
    refine ad [] rfl (by simp) ?_
    refine dgo_enter (fun y : Nat × Bool × List (List V) => [(47, .imm (.int .i64 y.1)), (46, .imm (.int .i64 m.funs.length)), (45, .imm (.sl (m.funs.map dFdc))), (3, envP y.2.1 y.2.2.length), (1, .ref 1 0)])
      (fun y => stP y.2.1 m y.2.2) [3, 4] (fun y => m.funs.length - y.1)
      (fun y => y.1 ≤ m.funs.length ∧ y.2.2 = rowP (m.datas.map .d ++ (m.funs.take y.1).map .f) ∧ (y.2.1 = false → y.2.2 = [])) (0, true, es0) ⟨Nat.zero_le _, by simpa using he0, fun h => by cases h⟩ ⟨rfl, tInt (by simp), rfl, rfl, rfl, trivial⟩ ⟨rfl, rfl, trivial⟩ rfl fun y hi ih => ?_
    obtain ⟨i, b, es⟩ := y
    obtain ⟨hi1, hi2, hi3⟩ := hi
    simp only at hi1 hi2 hi3
    have hlen : es.length ≤ 9 := by
      have := congrArg List.length hi2
      simp at this
      omega
    have hnext : ∀ f, m.funs[i]? = some f → es ++ [[partF f]] = rowP (m.datas.map .d ++ (m.funs.take (i + 1)).map .f) := fun f hf => by
      rw [get_take hf, List.map_append, ← List.append_assoc, rowP_app, ← hi2]; rfl
    have hend : ¬ i < m.funs.length → es = rowP (m.datas.map .d ++ m.funs.map .f) := fun h => by
      rw [hi2, List.take_of_length_le (by omega)]
    cases b with
    | false =>
      have hi3 := hi3 rfl
      subst hi3
      refine ad [] rfl (by simp) ?_
      refine dgo_cond rfl (fun h => ?_) (fun h => ?_)
      · simp at h
        obtain ⟨f, hf⟩ := has_get h
        refine ad [] rfl (by simp) ?_
        refine ai rfl (c := dFdc f) (fun _ => ⟨by simp, by simpa using map_get hf, by simp⟩) (by simp) ?_
        refine ag [] rfl (by simp) ?_
        refine g_append ttA_ok rfl ⟨by simp, by simp [maxLen], by simp, trivial⟩ ?_
        refine ag [] rfl (by simp) ?_
        refine dgo_swap 2 4 rfl ?_
        exact dgo_again (ih (i + 1, true, [] ++ [[partF f]]) (by simp only; omega) ⟨by simp only; omega, hnext f hf, fun h => by cases h⟩) ⟨tInt (w64 (by simp only; omega) (by simp only; omega)), rfl, rfl, rfl, rfl, trivial⟩ ⟨rfl, rfl, trivial⟩ rfl
      · simp at h
        have := congrArg List.length (hend (by omega))
        simp at this
        omega
    | true =>
      refine ad [] rfl (by simp) ?_
      refine dgo_cond rfl (fun h => ?_) (fun h => ?_)
      · simp at h
        obtain ⟨f, hf⟩ := has_get h
        refine ad [] rfl (by simp) ?_
        refine ai rfl (c := dFdc f) (fun _ => ⟨by simp, by simpa using map_get hf, by simp⟩) (by simp) ?_
        refine ag [] rfl (by simp) ?_
        refine g_append ttA_ok rfl ⟨by simp, by simp [maxLen]; omega, by simp; omega, trivial⟩ ?_
        refine ag [] rfl (by simp) ?_
        refine dgo_swap 2 4 rfl ?_
        exact dgo_again (ih (i + 1, true, es ++ [[partF f]]) (by simp only; omega) ⟨by simp only; omega, hnext f hf, fun h => by cases h⟩) ⟨tInt (w64 (by simp only; omega) (by simp only; omega)), rfl, rfl, rfl, rfl, trivial⟩ ⟨rfl, rfl, trivial⟩ rfl
      · simp at h
        refine dgo_exit rfl ?_
        refine dgo_freeze 2 rfl ?_
        refine ad [] rfl (by simp) ?_
        refine g_pcall rfl (fun _ => by rw [hend (by omega)]; exact allParts _ (by simp; omega)) (by simp) ?_
        refine ag [] rfl (by simp) ?_
        have hall : (m.datas.map Pt2.d ++ m.funs.map Pt2.f).all partB = (m.datas.all dataB2 && m.funs.all funB2) := by
          rw [List.all_append, List.all_map, List.all_map]; rfl
        rw [hall]
        refine dgo_cond rfl (fun h => ?_) (fun h => ?_)
        · refine ad [] rfl (by simp) ?_
          refine dgo_ret ⟨_, rfl, tV ?_, trivial⟩
          simp only [Bool.not_eq_true'] at h
          rw [h]; rfl
        · refine ad [] rfl (by simp) ?_
          refine dgo_ret ⟨_, rfl, tV ?_, trivial⟩
          simp only [Bool.not_eq_false'] at h
          rw [h]; rfl

set_option maxRecDepth 100000 in
theorem CheckModule_ok (m : Md) : PureC Tryz.prog 35 [.agg (dMdc m)] (errI (modB2 m)) := by
  refine pureC_ok fun hv => ?_
  have hv1 : m.datas.length ≤ 9223372036854775807 ∧ m.funs.length ≤ 9223372036854775807 := by
    simp [vOkL, vOk, dMdc, maxLen] at hv; omega
  refine effc_of ttA_ok Tryz.func35 (by decide +kernel) rfl [1, 2, 3, 4] rfl rfl ?_
  refine ag [] rfl (by simp [cxOf]) ?_
  refine g_pcall rfl (fun _ => tName_ok m.name) (by simp [cxOf]) ?_
  refine ag [] rfl (by simp [cxOf] <;> grind) ?_
  refine dgo_cond rfl (fun h => ?_) (fun h => ?_)
  · refine ad [] rfl (by simp) ?_
    refine dgo_ret ⟨_, rfl, tV (congrArg _ ?_), trivial⟩
    have : modB2 m = false := by
      simp at h
      simp [modB2]
      grind
    rw [this]; rfl
  have hx : nameS m.name = true ∧ (m.datas.length : Int) ≤ 4 ∧ (1 : Int) ≤ m.funs.length ∧ (m.funs.length : Int) ≤ 5 := by
    simp at h
    refine ⟨?_, ?_, ?_, ?_⟩ <;> grind
  clear h
  have hres : modB2 m = (m.datas.all dataB2 && m.funs.all funB2) := by simp [modB2, hx.1, hx.2.1, hx.2.2.1, hx.2.2.2]
  rw [hres]
  refine ad [] rfl (by simp) ?_
  refine dgo_enter (fun y : Nat × Bool × List (List V) => [(33, .imm (.int .i64 y.1)), (32, .imm (.int .i64 m.datas.length)), (31, .imm (.sl (m.datas.map dDtc))), (3, envP y.2.1 y.2.2.length), (1, .ref 1 0)])
    (fun y => stP y.2.1 m y.2.2) [3, 4] (fun y => m.datas.length - y.1)
    (fun y => y.1 ≤ m.datas.length ∧ y.2.2 = rowP ((m.datas.take y.1).map .d) ∧ (y.2.1 = false → y.2.2 = [])) (0, false, []) ⟨Nat.zero_le _, rfl, fun _ => rfl⟩ ⟨rfl, tInt (by simp), rfl, rfl, rfl, trivial⟩ ⟨rfl, trivial⟩ rfl fun y hi ih => ?_
  obtain ⟨i, b, es⟩ := y
  obtain ⟨hi1, hi2, hi3⟩ := hi
  simp only at hi1 hi2 hi3
  have hlen : es.length ≤ 4 := by
    have := congrArg List.length hi2
    simp at this
    omega
  have hend : ¬ i < m.datas.length → es = rowP (m.datas.map .d) := fun h => by
    rw [hi2, List.take_of_length_le (by omega)]
  have hnext : ∀ d, m.datas[i]? = some d → es ++ [[partD d]] = rowP ((m.datas.take (i + 1)).map .d) := fun d hd => by
    rw [get_take hd, List.map_append, rowP_app, ← hi2]; rfl
  cases b with
  | false =>
    have hi3 := hi3 rfl
    subst hi3
    refine ad [] rfl (by simp) ?_
    refine dgo_cond rfl (fun h => ?_) (fun h => ?_)
    · simp at h
      obtain ⟨d, hd⟩ := has_get h
      refine ad [] rfl (by simp) ?_
      refine ai rfl (c := dDtc d) (fun _ => ⟨by simp, by simpa using map_get hd, by simp⟩) (by simp) ?_
      refine ag [] rfl (by simp) ?_
      refine g_append ttA_ok rfl ⟨by simp, by simp [maxLen], by simp, trivial⟩ ?_
      refine ag [] rfl (by simp) ?_
      refine dgo_swap 2 4 rfl ?_
      exact dgo_again (ih (i + 1, true, [] ++ [[partD d]]) (by simp only; omega) ⟨by simp only; omega, hnext d hd, fun h => by cases h⟩) ⟨tInt (w64 (by simp only; omega) (by simp only; omega)), rfl, rfl, rfl, rfl, trivial⟩ ⟨rfl, rfl, trivial⟩ rfl
    · simp at h
      refine dgo_exit rfl ?_
      exact dgo_again (cm_tail m false [] (fun _ => rfl) (hend (by omega)) hx.2.1 hx.2.2.1 hx.2.2.2) ⟨rfl, rfl, trivial⟩ ⟨rfl, trivial⟩ rfl
  | true =>
    refine ad [] rfl (by simp) ?_
    refine dgo_cond rfl (fun h => ?_) (fun h => ?_)
    · simp at h
      obtain ⟨d, hd⟩ := has_get h
      refine ad [] rfl (by simp) ?_
      refine ai rfl (c := dDtc d) (fun _ => ⟨by simp, by simpa using map_get hd, by simp⟩) (by simp) ?_
      refine ag [] rfl (by simp) ?_
      refine g_append ttA_ok rfl ⟨by simp, by simp [maxLen]; omega, by simp; omega, trivial⟩ ?_
      refine ag [] rfl (by simp) ?_
      refine dgo_swap 2 4 rfl ?_
      exact dgo_again (ih (i + 1, true, es ++ [[partD d]]) (by simp only; omega) ⟨by simp only; omega, hnext d hd, fun h => by cases h⟩) ⟨tInt (w64 (by simp only; omega) (by simp only; omega)), rfl, rfl, rfl, rfl, trivial⟩ ⟨rfl, rfl, trivial⟩ rfl
    · simp at h
      refine dgo_exit rfl ?_
      exact dgo_again (cm_tail m true es (fun h => by cases h) (hend (by omega)) hx.2.1 hx.2.2.1 hx.2.2.2) ⟨rfl, rfl, trivial⟩ ⟨rfl, rfl, trivial⟩ rfl

end Go.Hk

/- Ranges over functions in the D-logic: calls of yield by contract; what rounds own is known as a whole (bundles). -/
namespace Go.Hk

/-- What a run does, under names that stay. -/
def EffW (P : Program) (I : Imm) (μ : Mu) (st : St) (w : World) (d : D) (st' : St) (r : Result Next) : Prop :=
  valX P r (fun u w' => ∃ I' μ', RepD I' μ' u d ∧ StRep I' μ' st' [] w' ∧ Pin (nms st) μ μ' ∧ Ext I μ st w I' μ' st' w') (fun _ _ => False)

def yst (j : Nat) (S : Bun) : St := [(0, some .pin), (j, some (.bun 0 S))]

/-- What a call of a loop's yield does. -/
def EffY (P : Program) (ds : List D) (S : Bun) (r : Bool) (S' : Bun) : Prop :=
  ∀ I μ w b (xs : Array Value), μ 0 = some (.func (.yield b) #[] #[]) → StRep I μ (yst 1 S) [] w → RepL I μ xs.toList ds → EffW P I μ (yst 1 S) w (.imm (.bool r)) (yst 2 S') ((Instr.yield b xs).run P w)

section
variable {P : Program} {n : Nat} {F : List Nat} {Q : DQ} {tt : TT} {env E : Env} {st st0 st1 : St} {ids ids' : List Nat} {k todo todo' : List DI} {I : Imm} {μ : Mu} {w : World} {Pn : V → Prop} {d : D} {das : List D} {f : FuncId}

theorem live_nms : ∀ {st : St} {i : Nat} {b : Blk}, live st i b → i ∈ nms st
  | [], i, b, h => by simp [live, lk] at h
  | (s, x) :: r, i, b, h => by
    by_cases hs : s = i
    · subst hs; simp [nms]
    · have : live r i b := by unfold live at h ⊢; rwa [lk_cons_ne _ _ hs] at h
      simp only [nms, List.map_cons, List.mem_cons]
      exact .inr (live_nms this)

theorem live_app {s t : St} {i : Nat} {b : Blk} (h : live (s ++ t) i b) : live s i b ∨ (i ∉ nms s ∧ live t i b) := by
  by_cases hm : i ∈ s.map (·.1)
  · left; unfold live at h ⊢; rwa [lk_app_mem hm] at h
  · right; unfold live at h ⊢; rw [lk_app_ne hm] at h; exact ⟨hm, h⟩
theorem live_appL {s t : St} {i : Nat} {b : Blk} (h : live s i b) : live (s ++ t) i b := by
  have hm : i ∈ s.map (·.1) := live_nms h
  unfold live at h ⊢; rwa [lk_app_mem hm]
theorem live_appR {s t : St} {i : Nat} {b : Blk} (hn : i ∉ nms s) (h : live t i b) : live (s ++ t) i b := by
  unfold live at h ⊢; rwa [lk_app_ne hn]

/-- A step that is passed over. -/
theorem ld_not {all : List Oper} {o : Oper} {g : Option (Bool × Bool)} (hg : guardOf all env o = some g) (hcx : ¬ cxOf g) : LD P Pn all o env st [] [] [] (gD g d) := by
  intro I μ st2 ids1 a w hag hst hon
  have hwant := guard_wanted hg hon
  refine ⟨fun hw => absurd (hwant.1 hw) hcx, fun _ => ⟨rfl, rfl, ?_⟩⟩
  cases g with
  | none => exact absurd trivial hcx
  | some p => exact .guard _ _ _ _ (fun h => absurd h hcx) (fun _ => rfl)

structure YCall where
  id : Nat
  das : List D
  g : Option (Bool × Bool)
  ob : List Prop
  dst : Option Nat
  o : Oper
  all : List Oper

/-- A call of a loop's yield. -/
def ycall (n : Nat) (env : Env) (todo : List DI) : Option YCall :=
  match next1 todo ([], []) with
  | some (all, o, _) => match guardOf all env o, o.op with
    | some g, .call { callee := .value (.tmp t), args := ⟨args⟩, .. } => match lk env t, evAs (cxOf g) env args, dstOk n o.dst with
      | some (.yld id), some (ds, ob), true => some ⟨id, ds, g, ob, o.dst, o, all⟩
      | some (.guard c w (.yld id)), some (ds, ob), true => some ⟨id, ds, g, (cxOf g → c = w) :: ob, o.dst, o, all⟩
      | _, _, _ => none
    | _, _ => none
  | none => none

theorem RepD.yldInv {v : Value} {id : Nat} (h : RepD I μ v (.yld id)) : ∃ b, μ id = some (.func (.yield b) #[] #[]) ∧ v = .func (.yield b) #[] #[] := by
  cases h with
  | yld b _ h => exact ⟨b, h, rfl⟩

theorem yield_run {o : Oper} {t b : Nat} {args : List Operand} {ts : Array TypeId} {a : Act} (ho : o.op = .call { callee := .value (.tmp t), args := ⟨args⟩, argTypes := ts }) (hv : a.eval (.tmp t) = .func (.yield b) #[] #[]) :
    (execOp a.eval o).run P w = (Instr.yield b (args.map a.eval).toArray).run P w := by
  simp only [execOp, ho, resolve, hv, Deferred.ofValue, Sem.run_bind, Sem.run_pure, Result.andThen_ok, invoke]
  congr 2
  simp

theorem ycall_run {c : YCall} (h : ycall n env todo = some c) (hob : allP c.ob) (hcx : cxOf c.g) :
    (∀ f, ∃ todo', next1 todo f = some (c.all, c.o, todo')) ∧ guardOf c.all env c.o = some c.g ∧ dstOk n c.dst = true ∧ c.dst = c.o.dst ∧ (∀ x, c.o.op ≠ .defer x) ∧
    ∀ I μ a, OpsOn I μ env a c.o.op → ∃ b, ∃ xs : Array Value, μ c.id = some (.func (.yield b) #[] #[]) ∧ RepL I μ xs.toList c.das ∧ ∀ w, (execOp a.eval c.o).run P w = (Instr.yield b xs).run P w := by
  unfold ycall at h
  have hnext : ∀ {all : List Oper} {o : Oper} {t : List DI}, next1 todo ([], []) = some (all, o, t) → ∀ f, ∃ todo', next1 todo f = some (all, o, todo') := by
    intro all o t h f
    rcases next1_ops h with ⟨r, k, rfl, _⟩ | ⟨r, fs, k, rfl, _⟩
    · exact ⟨_, rfl⟩
    · exact ⟨_, rfl⟩
  split at h
  · rename_i all o t h1
    split at h
    · rename_i g t' args ts hg ho
      have fin : ∀ {dv : D} {ds : List D} {ob : List Prop} {id : Nat}, lk env t' = some dv → evAs (cxOf g) env args = some (ds, ob) → allP ob → cxOf g → (∀ {I : Imm} {μ : Mu} {v : Value}, RepD I μ v dv → ∃ b, μ id = some (.func (.yield b) #[] #[]) ∧ v = .func (.yield b) #[] #[]) →
          ∀ I μ a, OpsOn I μ env a o.op → ∃ b, ∃ xs : Array Value, μ id = some (.func (.yield b) #[] #[]) ∧ RepL I μ xs.toList ds ∧ ∀ w, (execOp a.eval o).run P w = (Instr.yield b xs).run P w := by
        intro dv ds ob id ht ha hob hcx hyl I μ a hop
        rw [ho] at hop
        have hargs := evAs_rep (I := I) (μ := μ) (a := a) hcx ha hob fun x hx => hop x (by simp [Op.operands, Call.operands, hx])
        obtain ⟨b, q1, q2⟩ := hyl (hop (.tmp t') (by simp [Op.operands, Call.operands]) _ ht)
        exact ⟨b, _, q1, by simpa using hargs, fun w => yield_run ho q2⟩
      split at h
      · rename_i id ds ob ht ha hd
        cases h
        exact ⟨hnext h1, hg, hd, rfl, (fun x hx => by rw [ho] at hx; cases hx), fin ht ha hob hcx (fun h => h.yldInv)⟩
      · rename_i cc ww id ds ob ht ha hd
        cases h
        exact ⟨hnext h1, hg, hd, rfl, (fun x hx => by rw [ho] at hx; cases hx), fin ht ha hob.2 hcx (fun h => (h.guardInv (hob.1 hcx)).yldInv)⟩
      · cases h
    · cases h
  · cases h

/-- A call of yield by contract. 'j': the bundle's name, 'j2': its name afterwards. -/
theorem g_ycall {c : YCall} {j j2 : Nat} {S S' : Bun} {r : Bool} (h : ycall n env todo = some c) (hob : allP c.ob) (hcx : cxOf c.g) (hE : EffY P (renL (look [(c.id, 0), (j, 1)]) c.das) S r S') (hy : lk st c.id = some (some .pin)) (hj : lk st j = some (some (.bun c.id S)))
    (hn : namesB [(c.id, 0), (j, 1)] [(2, j2)] c.das (yst 1 S) (.imm (.bool r)) (yst 2 S') [j2] = true) (h1 : next1 todo ([c.id, j], [c.id, j2, c.id, j]) = some (c.all, c.o, todo')) (hids : ids = j2 :: ids')
    (hk : G P n F Q todo' (putE c.dst (gD c.g (.imm (.bool r))) env) ((c.id, some .pin) :: (j2, some (.bun c.id S')) :: (c.id, none) :: (j, none) :: st) ids') : G P n F Q todo env st ids := by
  obtain ⟨_, q2, q3, q4, q5, q6⟩ := ycall_run (P := P) h hob hcx
  rw [q4] at q3 hk
  subst hids
  have hN := namesB_ok hn
  have hb : blksOk [(c.id, 0), (j, 1)] st (yst 1 S) := by
    have hne : Nat.beq c.id j = false := by
      have := hN.inv
      simp only [List.map_cons, List.map_nil, backOk, swapL] at this
      cases hb : Nat.beq c.id j with
      | false => rfl
      | true =>
        have := Nat.eq_of_beq_eq_true hb
        rw [← this] at hj
        rw [hy] at hj
        cases hj
    have e0 : lk (swapL [(c.id, 0), (j, 1)]) 0 = some c.id := rfl
    have e1 : lk (swapL [(c.id, 0), (j, 1)]) 1 = some j := rfl
    have f0 : lk [(c.id, 0), (j, 1)] c.id = some 0 := lk_cons_self _ _ _
    have f1 : lk [(c.id, 0), (j, 1)] j = some 1 := by
      have : c.id ≠ j := fun e => by rw [e] at hne; simp at hne
      rw [lk_cons_ne _ _ this]; exact lk_cons_self _ _ _
    have g0 : look [(c.id, 0), (j, 1)] c.id = 0 := by simp [look, f0]
    refine ⟨?_, ?_, trivial⟩
    · simp only [e0, f0, hy]
      exact ⟨rfl, rfl, rfl⟩
    · simp only [e1, f1, hj]
      refine ⟨rfl, ?_, ?_⟩
      · simp only [renB, g0]
      · simp only [nmB, backOk, f0, e0]; simp
  have hl : LD P (panQ Q) c.all c.o env st (fstL [(c.id, 0), (j, 1)]) [j2] (renSt (swapL [(c.id, 0), (j, 1)] ++ [(2, j2)]) (yst 2 S') ++ delSt (fstL [(c.id, 0), (j, 1)])) (gD c.g (.imm (.bool r))) := by
    intro I μ st2 ids1 a w hag hst hon
    have hwant := guard_wanted q2 hon
    refine ⟨fun _ => ?_, fun hw => by rw [hwant.2 hcx] at hw; cases hw⟩
    obtain ⟨b, xs, m1, m2, m3⟩ := q6 I μ a (opsOn_of hon)
    have hb' := blksOk_agree hag hb
    obtain ⟨g1, g2, g3⟩ := call_given hst hb' hN.args m2
    rw [m3]
    refine (hE I _ w b xs (by simpa [subMu, swapL, lk] using m1) g1 g2).mono (fun u w' hu => ?_) (fun _ _ h => h.elim)
    obtain ⟨I', μ', r1, r2, r3, r4⟩ := hu
    obtain ⟨ν, s1, s2, s3, s4⟩ := call_left hst hb' hN r1 r2 r3 r4 g3
    rw [← fstL_eq] at s1 s4
    refine ⟨I', ν, s1, ?_, s3, s4⟩
    cases hg : c.g with
    | none => exact s2
    | some p => rw [hg] at hcx; exact .guard _ _ _ _ (fun _ => s2) (fun hn => absurd hcx hn)
  have ew : renSt (swapL [(c.id, 0), (j, 1)] ++ [(2, j2)]) (yst 2 S') ++ delSt (fstL [(c.id, 0), (j, 1)]) = [(c.id, some .pin), (j2, some (.bun c.id S')), (c.id, none), (j, none)] := rfl
  rw [ew] at hl
  exact g_step (fr := [j2]) (wr := [(c.id, some .pin), (j2, some (.bun c.id S')), (c.id, none), (j, none)]) h1 hl q3 q5 hk

structure NCall where
  g : Option (Bool × Bool)
  dst : Option Nat
  todo : List DI

/-- Any call whose guard does not hold. -/
def ncall (n : Nat) (env : Env) (todo : List DI) : Option NCall :=
  match next1 todo ([], []) with
  | some (all, o, todo') => match guardOf all env o, o.op, dstOk n o.dst with
    | some g, .call _, true => some ⟨g, o.dst, todo'⟩
    | _, _, _ => none
  | none => none

/-- A call that is passed over. -/
theorem g_ncall {c : NCall} (d : D) (h : ncall n env todo = some c) (hcx : ¬ cxOf c.g) (hk : G P n F Q c.todo (putE c.dst (gD c.g d) env) st ids) : G P n F Q todo env st ids := by
  unfold ncall at h
  split at h
  · rename_i all o todo' h1
    split at h
    · rename_i g cc hg ho hd
      cases h
      exact g_step (fr := []) (wr := []) h1 (ld_not hg hcx) hd (fun x hx => by rw [ho] at hx; cases hx) hk
    · cases h
  · cases h

end
end Go.Hk

namespace Go.Hk

/-- How a round ends. -/
def BodyQ (pend : Option Code) (stB : St) : DQ := fun x _ st _ => match x, pend with
  | .norm, none => subSt st stB
  | .ret, some .ret => subSt st stB
  | .exit j, some (.exit j') => j = j' ∧ subSt st stB
  | _, _ => False

/-- What a loop is. -/
structure LoopI where
  fn : FuncId
  ps : Array Tmp
  asg : Code
  body : Code
  tmps : Array Value
  E : Env
  F : List Nat
  μ0 : Mu

def PendOk (pend : Option Code) (r : Go.Loop) : Prop := r.state = (match pend with | none => .ready | some _ => .done) ∧ r.pending = pend

def bunP (L : LoopI) (st : St) (pend : Option Code) (I : Imm) (w : World) (b : Nat) (bs : List Nat) : Prop :=
  ∃ (r : Go.Loop) (μ : Mu) (bs0 : List Nat), bs = b :: bs0 ∧ w.heap[b]? = some (.loop r) ∧ PendOk pend r ∧ (r.fn = L.fn ∧ r.params = L.ps ∧ r.assign = L.asg ∧ r.body = L.body ∧ r.tmps = L.tmps) ∧
    (∀ t d, lk L.E t = some d → RepD I μ (L.tmps.getD t undef) d) ∧ (∀ i blk, live st i blk → ∃ g, μ i = some g ∧ BlkRep I μ w g blk) ∧
    (∀ i j bi bj gi gj k, live st i bi → live st j bj → μ i = some gi → μ j = some gj → ownB gi k → ownB gj k → i = j) ∧ (∀ k, k ∈ bs0 ↔ owned μ st k) ∧ b ∉ bs0 ∧ Pin L.F L.μ0 μ

/-- The record of a loop and what its rounds own. -/
def bunOf (L : LoopI) (st : St) (pend : Option Code) : Bun where
  P := bunP L st pend
  mono := fun {I J w b bs} h hp => by
    obtain ⟨r, μ, bs0, h1, h2, h3, h4, h5, h6, h7, h8, h9, h10⟩ := hp
    exact ⟨r, μ, bs0, h1, h2, h3, h4, fun t d hl => (h5 t d hl).mono h (Mu.le_refl μ), fun i blk hl => let ⟨g, q1, q2⟩ := h6 i blk hl; ⟨g, q1, q2.mono h (Mu.le_refl μ)⟩, h7, h8, h9, h10⟩
  loc := fun {I w w' b bs} h hp => by
    obtain ⟨r, μ, bs0, h1, h2, h3, h4, h5, h6, h7, h8, h9, h10⟩ := hp
    subst h1
    exact ⟨r, μ, bs0, rfl, (h b (by simp)).trans h2, h3, h4, h5, fun i blk hl => let ⟨g, q1, q2⟩ := h6 i blk hl; ⟨g, q1, q2.world fun k hk => h k (by simp [(h8 k).2 ⟨i, blk, g, hl, q1, hk⟩])⟩, h7, h8, h9, h10⟩

def blocksV : Value → List Nat
  | .pointer (some a) => [a.block]
  | .slice (some a) _ _ => [a.block]
  | .map (some c) => [c]
  | .agg cs => cs.toList.filterMap fun | .pointer (some a) => some a.block | _ => none
  | _ => []

theorem blocksV_iff {g : Value} {k : Nat} : k ∈ blocksV g ↔ ownB g k := by
  unfold blocksV ownB
  split <;> simp [eq_comm]
  · constructor
    · rintro ⟨a, h1, h2⟩
      split at h2
      · cases h2; exact ⟨_, h1, rfl⟩
      · cases h2
    · rintro ⟨a, h1, h2⟩
      exact ⟨_, h1, by rw [h2]⟩

open Classical in
theorem owned_list (μ : Mu) (st : St) : ∃ l : List Nat, ∀ k, k ∈ l ↔ owned μ st k := by
  refine ⟨(nms st).flatMap fun i => if (∃ b, live st i b) then (match μ i with | some g => blocksV g | none => []) else [], fun k => ?_⟩
  rw [List.mem_flatMap]
  constructor
  · rintro ⟨i, _, h⟩
    split at h
    · rename_i hb
      obtain ⟨b, hb⟩ := hb
      cases hg : μ i with
      | none => rw [hg] at h; cases h
      | some g => rw [hg] at h; exact ⟨i, b, g, hb, hg, blocksV_iff.1 h⟩
    · cases h
  · rintro ⟨i, b, g, h1, h2, h3⟩
    refine ⟨i, live_nms h1, ?_⟩
    rw [if_pos ⟨b, h1⟩, h2]
    exact blocksV_iff.2 h3

/-- Names that the body's walk may make: none that is in use. -/
def freeOf (ids : List Nat) (E : Env) (st : St) (F : List Nat) : Prop := ids.Nodup ∧ ∀ i ∈ ids, i ∉ nmE E ∧ i ∉ nmSt st ∧ i ∉ F

section
variable {P : Program} {n : Nat} {F : List Nat} {Q : DQ} {tt : TT} {env E : Env} {st st0 st1 : St} {ids ids' : List Nat} {k todo todo' : List DI} {I : Imm} {μ : Mu} {w : World} {Pn : V → Prop} {d : D} {das : List D} {f : FuncId}

theorem nms_sub : ∀ {st : St} {i : Nat} {b : Blk}, live st i b → i ∈ nmSt st := fun h => (nmSt_live h).1

/-- What of a bundle's names is in use, with others free. -/
theorem bun_open {L : LoopI} {pend : Option Code} {b : Nat} {bs : List Nat} (h : bunP L st pend I w b bs) (hf : freeOf ids L.E st L.F) (hI : I.ok w) (hbs : ∀ k ∈ bs, I k = none ∧ k < w.heap.size) :
    ∃ (r : Go.Loop) (ν : Mu) (bs0 : List Nat), bs = b :: bs0 ∧ w.heap[b]? = some (.loop r) ∧ PendOk pend r ∧ (r.fn = L.fn ∧ r.params = L.ps ∧ r.assign = L.asg ∧ r.body = L.body ∧ r.tmps = L.tmps) ∧
      (∀ t d, lk L.E t = some d → RepD I ν (L.tmps.getD t undef) d) ∧ StRep I ν st ids w ∧ (∀ k, k ∈ bs0 ↔ owned ν st k) ∧ b ∉ bs0 ∧ Pin L.F L.μ0 ν := by
  obtain ⟨r, μ, bs0, h1, h2, h3, h4, h5, h6, h7, h8, h9, h10⟩ := h
  obtain ⟨hf1, hf2⟩ := hf
  obtain ⟨ν, hν⟩ : ∃ ν : Mu, ν = fun i => if i ∈ ids then none else μ i := ⟨_, rfl⟩
  have hν1 : ∀ i, i ∉ ids → ν i = μ i := fun i hi => by rw [hν]; exact if_neg hi
  have hv1 : ∀ i, i ∈ nmE L.E ∨ i ∈ nmSt st ∨ i ∈ L.F → ν i = μ i := fun i hi => hν1 i fun hm => by
    obtain ⟨q1, q2, q3⟩ := hf2 i hm
    rcases hi with h | h | h
    · exact q1 h
    · exact q2 h
    · exact q3 h
  have hv2 : ∀ {i bi}, live st i bi → ν i = μ i := fun hl => hv1 _ (.inr (.inl (nms_sub hl)))
  have hown : ∀ k, owned ν st k ↔ owned μ st k := fun k => by
    constructor <;> rintro ⟨i, bi, g, q1, q2, q3⟩
    · exact ⟨i, bi, g, q1, by rw [← hv2 q1]; exact q2, q3⟩
    · exact ⟨i, bi, g, q1, by rw [hv2 q1]; exact q2, q3⟩
  refine ⟨r, ν, bs0, h1, h2, h3, h4, fun t d hl => (h5 t d hl).sub fun j hj g hg => by rw [hv1 j (.inl (nmE_lk hl j hj))]; exact hg, ?_, fun k => by rw [hown k]; exact h8 k, h9, fun i hi g hg => by rw [hv1 i (.inr (.inr hi))]; exact h10 i hi g hg⟩
  exact
    { imm := hI
      blk := fun i bi hl => by
        obtain ⟨g, q1, q2⟩ := h6 i bi hl
        exact ⟨g, by rw [hv2 hl]; exact q1, q2.sub fun j hj g hg => by rw [hv1 j (.inr (.inl ((nmSt_live hl).2 j hj)))]; exact hg⟩
      apart := fun i bi g k hl hgi hk => hbs k (by rw [h1]; exact List.mem_cons_of_mem _ ((h8 k).2 ⟨i, bi, g, hl, by rw [← hv2 hl]; exact hgi, hk⟩))
      inj := fun i j bi bj gi gj k hi hj hgi hgj => h7 i j bi bj gi gj k hi hj (by rw [← hv2 hi]; exact hgi) (by rw [← hv2 hj]; exact hgj)
      nodup := hf1
      idsFree := fun i hi => by rw [hν]; exact if_pos hi }

theorem yst_live {j : Nat} {S : Bun} (hj : j ≠ 0) {i : Nat} {bi : Blk} (h : live (yst j S) i bi) : (i = 0 ∧ bi = .pin) ∨ (i = j ∧ bi = .bun 0 S) := by
  rcases live_cons.1 h with h | ⟨_, h⟩
  · exact .inl h
  · rcases live_cons.1 h with h | ⟨_, h⟩
    · exact .inr h
    · simp [live, lk] at h

theorem effy_of {L : LoopI} {p t rid : Nat} {fc : Func} {o : Oper} {d : D} {stB : St} {pend : Option Code} (hf : P.funcs[L.fn]? = some fc) (hps : L.ps = #[p]) (hasg : L.asg = .region rid ⟨[o]⟩ false) (hsz : L.tmps.size = n)
    (hd : nmD d = []) (ho : o.op = .assign (.tmp p)) (hog : o.guard = none) (hod : o.dst = some t) (hp : p < n) (ht : t < n) (hfree : freeOf ids L.E st L.F)
    (h : DGo P n (rmark :: (L.F ++ nmE L.E)) (BodyQ pend stB) [.code L.body] ((t, d) :: (p, d) :: L.E) st ids) : EffY P [d] (bunOf L st none) pend.isNone (bunOf L stB pend) := by
  intro I μ w b xs hμ hst hx
  have hl0 : live (yst 1 (bunOf L st none)) 0 .pin := live_cons.2 (.inl ⟨rfl, rfl⟩)
  have hl1 : live (yst 1 (bunOf L st none)) 1 (.bun 0 (bunOf L st none)) := live_cons.2 (.inr ⟨by simp, live_cons.2 (.inl ⟨rfl, rfl⟩)⟩)
  obtain ⟨g1, hg1, b', bs, hb1, rfl, hP⟩ := hst.blk 1 _ hl1
  rw [hμ] at hb1
  cases hb1
  have hbs : ∀ k ∈ bs, I k = none ∧ k < w.heap.size := fun k hk => hst.apart 1 _ _ k hl1 hg1 (ownB_ptrs.2 hk)
  have hP0 := hP
  obtain ⟨r, ν, bs0, e1, hr1, ⟨hr2, hr3⟩, ⟨hr4, hr5, hr6, hr7, hr8⟩, hE1, hS, hown, hnb, hF⟩ := bun_open hP hfree hst.imm hbs
  subst e1
  obtain ⟨x, rfl⟩ : ∃ x, xs = #[x] := by
    obtain ⟨l⟩ := xs
    have := hx.1
    match l, this with
    | [x], _ => exact ⟨x, rfl⟩
  have hxd0 : RepD I μ x d := hx.2 0 x d rfl rfl
  have hxd1 : RepD I ν x d := hxd0.sub fun j hj => by rw [hd] at hj; cases hj
  have hsz1 : (#[x] : Array Value).size = r.params.size := by rw [hr5, hps]; rfl
  unfold EffW
  rw [run_yield hr1 hsz1]
  refine roundIn_of_reach (fc := fc) (by rw [hr4]; exact hf) fun fb cs hbf hbr => ?_
  rw [hr5, hps, hr6, hasg, hr7, hr8]
  have hfold : ((#[p] : Array Nat).zip #[x]).foldl (fun tmps (t, a) => tmps.setIfInBounds t a) L.tmps = L.tmps.setIfInBounds p x := by simp
  rw [hfold]
  obtain ⟨hIb, hblt⟩ := hbs b (by simp)
  have hnob : ¬ owned ν st b := fun h => hnb ((hown b).2 h)
  obtain ⟨w1, hw1⟩ : ∃ w1 : World, w1 = w.putObj b (.loop { r with state := .busy }) := ⟨_, rfl⟩
  have hput : ∀ (w : World) (o : Obj), (w.putObj b o).heap = w.heap.setIfInBounds b o := fun w o => by
    unfold World.putObj
    by_cases hi : b < w.heap.size <;> simp [hi]
  have hoth : ∀ (w : World) (o : Obj) k, k ≠ b → (w.putObj b o).heap[k]? = w.heap[k]? := fun w o k hk => by rw [hput, Array.getElem?_setIfInBounds_ne (Ne.symm hk)]
  have hbeg := run_beginRound (P := P) hr1 hr2
  -- the assignment
  refine reach_region ?_
  show Reach P fb cs _ (.inRegion #[o] [0] :: [.beginRound, .code L.body]) _ w
  refine reach_op (o := o) rfl (wanted_none hog) (fun c hc => by rw [ho] at hc; cases hc) ?_
  refine valX.upon ?_
  have hex : ∀ a : Act, (execOp a.eval o).run P w = .ok (.value (a.eval (.tmp p))) w := fun a => by simp [execOp, ho]
  rw [hex]
  show Reach P fb cs _ _ _ w
  refine reach_regionEnd (Reach.step (stepR_beginRound hbr hbeg) ?_)
  rw [← hw1]
  have hpx : (Act.eval { tmps := L.tmps.setIfInBounds p x, defers := [] } (.tmp p)) = x := by
    have hlt : p < L.tmps.size := by omega
    simp [Act.eval, hlt]
  rw [hpx, hod]
  obtain ⟨e1, e2, e3⟩ := put_env (n := n) (w := w) (a := { tmps := L.tmps, defers := [] }) (dst := some p) hE1 hsz (fun t ht => by cases ht; exact hp) hxd1
  obtain ⟨c1, c2, c3⟩ := put_env (n := n) (w := w) (dst := some t) e1 e2 (fun t' ht' => by cases ht'; exact ht) hxd1
  have hc : Conc n I ν ((t, d) :: (p, d) :: L.E) st ids ((Act.put { tmps := L.tmps, defers := [] } (some p) x).put (some t) x) w1 :=
    { hS.other (by rw [hw1, hput]; simp) (fun k o hk => by rw [hw1]; exact hoth _ _ k (fun e => by rw [e, hIb] at hk; cases hk)) (fun k hk => by rw [hw1]; exact hoth _ _ k (fun e => hnob (e ▸ hk))) with
      size := c2
      env := c1
      defers := by rw [c3, e3]; exact MarksOk.nil _ _ _ _ }
  have hgo := h ⟨fb, .inl (by simp)⟩ cs I ν _ w1 [.code L.body] ⟨rfl, trivial⟩ hc
  refine Reach.mono (fun e a' w' hpost => ?_) hgo
  obtain ⟨x', env', st', ids2, I', μ', p1, p2, p3, p4, p5, p6⟩ := hpost
  have hb1 : w1.heap[b]? = some (.loop { r with state := .busy }) := by rw [hw1, hput]; simp [hblt]
  have hsz1 : w1.heap.size = w.heap.size := by rw [hw1, hput]; simp
  have hb' : w'.heap[b]? = some (.loop { r with state := .busy }) := by rw [p5.block b (by omega) hnob]; exact hb1
  have hno' : ¬ owned μ' st' b := fun ho => hnob (p5.fresh b (by omega) ho)
  have hI' : I' b = none := by rw [p5.old b (by omega) hnob]; exact hIb
  have hblt' : b < w'.heap.size := (Array.getElem?_eq_some_iff.1 hb').1
  have fin : subSt st' stB → ∃ v w'', (Instr.endRound b pend).run P w' = .ok v w'' ∧ (∃ I2 μ2, RepD I2 μ2 v (.imm (.bool pend.isNone)) ∧ StRep I2 μ2 (yst 2 (bunOf L stB pend)) [] w'' ∧
      Pin (nms (yst 1 (bunOf L st none))) μ μ2 ∧ Ext I μ (yst 1 (bunOf L st none)) w I2 μ2 (yst 2 (bunOf L stB pend)) w'') := by
    intro hsub
    have hSB : StRep I' μ' stB [] w' := p3.toStRep.less (subSt_live hsub) .nil (fun _ h => by simp at h)
    have hownB' : ∀ k, owned μ' stB k → owned μ' st' k := fun k ⟨i, bi, g, q1, q2⟩ => ⟨i, bi, g, subSt_live hsub i bi q1, q2⟩
    have hnoB : ¬ owned μ' stB b := fun h => hno' (hownB' b h)
    obtain ⟨w2, hw2⟩ : ∃ w2 : World, w2 = w'.putObj b (.loop { r with state := if pend.isNone then .ready else .done, pending := pend }) := ⟨_, rfl⟩
    have hend : (Instr.endRound b pend).run P w' = .ok (.bool pend.isNone) w2 := by
      have := run_endRound (P := P) pend hb'
      rw [hw2]; exact this
    have hw2s : w2.heap.size = w'.heap.size := by rw [hw2, hput]; simp
    have hw2o : ∀ k, k ≠ b → w2.heap[k]? = w'.heap[k]? := fun k hk => by rw [hw2]; exact hoth _ _ k hk
    have hSB2 : StRep I' μ' stB [] w2 := hSB.other (by omega) (fun k o hk => hw2o k (fun e => by rw [e, hI'] at hk; cases hk)) (fun k hk => hw2o k (fun e => hnoB (e ▸ hk)))
    obtain ⟨bsN, hbsN⟩ := owned_list μ' stB
    -- the new bundle
    have hPN : (bunOf L stB pend).P I' w2 b (b :: bsN) := by
      refine ⟨{ r with state := if pend.isNone then .ready else .done, pending := pend }, μ', bsN, rfl, by rw [hw2, hput]; simp [hblt'], ⟨by cases pend <;> rfl, rfl⟩, ⟨hr4, hr5, hr6, hr7, hr8⟩, fun t d hl => ?_, hSB2.blk, hSB2.inj, hbsN, fun hm => hnoB ((hbsN b).1 hm), fun i hi => ?_⟩
      · exact ((hE1 t d hl).mono p5.imm (Mu.le_refl ν)).sub fun j hj g hg => p4 j (by simp [nmE_lk hl j hj]) g hg
      · exact fun g hg0 => p4 i (by simp [hi]) g (hF i hi g hg0)
    obtain ⟨μ2, hμ2⟩ : ∃ μ2 : Mu, μ2 = fun i => if i = 2 then some (.agg (ptrs (b :: bsN))) else μ i := ⟨_, rfl⟩
    have hm0 : μ2 0 = some (.func (.yield b) #[] #[]) := by rw [hμ2]; simpa using hμ
    have hm2 : μ2 2 = some (.agg (ptrs (b :: bsN))) := by rw [hμ2]; simp
    have hold : ∀ k, k ∈ b :: bsN → k < w.heap.size → k ∈ b :: bs0 := fun k hk hlt => by
      rcases List.mem_cons.1 hk with rfl | hk
      · simp
      · exact List.mem_cons_of_mem _ ((hown k).2 (p5.fresh k (by omega) (hownB' k ((hbsN k).1 hk))))
    have hnew : ∀ k ∈ b :: bsN, I' k = none ∧ k < w2.heap.size := fun k hk => by
      rcases List.mem_cons.1 hk with rfl | hk
      · exact ⟨hI', by omega⟩
      · obtain ⟨i, bi, g, q1, q2, q3⟩ := (hbsN k).1 hk
        exact hSB2.apart i bi g k q1 q2 q3
    have hownO : ∀ k, owned μ (yst 1 (bunOf L st none)) k ↔ k ∈ b :: bs0 := fun k => by
      constructor
      · rintro ⟨i, bi, g, q1, q2, q3⟩
        rcases yst_live (by simp) q1 with ⟨rfl, rfl⟩ | ⟨rfl, rfl⟩
        · rw [hμ] at q2; cases q2; exact q3.elim
        · rw [hg1] at q2; cases q2; exact ownB_ptrs.1 q3
      · intro hk; exact ⟨1, _, _, hl1, hg1, ownB_ptrs.2 hk⟩
    have hownN : ∀ k, owned μ2 (yst 2 (bunOf L stB pend)) k → k ∈ b :: bsN := fun k => by
      rintro ⟨i, bi, g, q1, q2, q3⟩
      rcases yst_live (by simp) q1 with ⟨rfl, rfl⟩ | ⟨rfl, rfl⟩
      · rw [hm0] at q2; cases q2; exact q3.elim
      · rw [hm2] at q2; cases q2; exact ownB_ptrs.1 q3
    refine ⟨_, w2, hend, I', μ2, .imm _ _ (.bool _), ?_, ?_, ?_⟩
    · refine { imm := hSB2.imm, blk := fun i bi hl => ?_, apart := fun i bi g k hl hgi hk => hnew k (hownN k ⟨i, bi, g, hl, hgi, hk⟩), inj := fun i j bi bj gi gj k hi hj hgi hgj hki hkj => ?_, nodup := .nil, idsFree := fun _ h => by simp at h }
      · rcases yst_live (by simp) hl with ⟨rfl, rfl⟩ | ⟨rfl, rfl⟩
        · exact ⟨_, hm0, b, rfl⟩
        · exact ⟨_, hm2, b, _, hm0, rfl, hPN⟩
      · rcases yst_live (by simp) hi with ⟨rfl, rfl⟩ | ⟨rfl, rfl⟩ <;> rcases yst_live (by simp) hj with ⟨rfl, rfl⟩ | ⟨rfl, rfl⟩
        · rfl
        · rw [hm0] at hgi; cases hgi; exact hki.elim
        · rw [hm0] at hgj; cases hgj; exact hkj.elim
        · rfl
    · intro i hi g hg
      simp only [yst, nms, List.map_cons, List.map_nil, List.mem_cons, List.not_mem_nil, or_false] at hi
      have : i ≠ 2 := by omega
      rw [hμ2]; simp only [if_neg this]; exact hg
    · refine { imm := p5.imm, os := ?_, tape := ?_, output := ?_, size := ?_, block := fun k hk hno => ?_, fresh := fun k hk ho => (hownO k).2 (hold k (hownN k ho) hk), old := fun k hk hno => p5.old k (by omega) (fun h => hno ((hownO k).2 (List.mem_cons_of_mem _ ((hown k).2 h)))) }
      · have := p5.os; rw [hw1] at this; rw [hw2]; unfold World.putObj at this ⊢; exact this
      · have := p5.tape; rw [hw1] at this; rw [hw2]; unfold World.putObj at this ⊢; exact this
      · have := p5.output; rw [hw1] at this; rw [hw2]; unfold World.putObj at this ⊢; exact this
      · have := p5.size; omega
      · have hkb : k ≠ b := fun e => hno ((hownO k).2 (by simp [e]))
        rw [hw2o k hkb, p5.block k (by omega) (fun h => hno ((hownO k).2 (List.mem_cons_of_mem _ ((hown k).2 h)))), hw1, hoth _ _ k hkb]
  cases e with
  | normal =>
    cases x' <;> simp only [XRep] at p1
    cases pend with
    | none => exact fin p2
    | some c => exact p2.elim
  | ret =>
    cases x' <;> simp only [XRep] at p1
    cases pend with
    | none => exact p2.elim
    | some c => cases c <;> first | exact p2.elim | exact fin p2
  | exit j =>
    cases x' <;> simp only [XRep] at p1
    cases pend with
    | none => exact p2.elim
    | some c =>
      cases c <;> first | exact p2.elim | skip
      obtain ⟨q1, q2⟩ := p2
      subst q1; subst p1
      exact fin q2
  | goto l =>
    cases x' <;> simp only [XRep] at p1
    cases pend <;> exact p2.elim
  | panic chain =>
    cases x' <;> simp only [XRep] at p1
    cases pend <;> exact p2.elim
  | outgrown => cases x' <;> simp only [XRep] at p1

def jumpI : Option Code → List DI
  | none => []
  | some c => [.code c]

/-- The loop, by the contract of its function. 'stc': what the function is given beside the bundle; 'stx': what the rounds own; 'E': what is known of the frame, in the rounds and afterwards. -/
theorem dgo_range {g : Operand} {ps : Array Tmp} {asg body c : Code} {f y j j2 : Nat} {fc : Func} {df dc : List D} {stc stc' stx stB : St} {pend : Option Code} (hg : evO env g = some (.fn (.func f) df dc)) (hf : P.funcs[f]? = some fc)
    (hname : (fc.name == "runtime.NumGoroutine") = false) (hb : fc.body = some c) (hF : rmark ∉ F) (hEE : subE env E) (hl : ∀ i b, live (stc ++ stx) i b → live st i b)
    (hE : ∀ L : LoopI, P.funcs[L.fn]?.isSome → L.tmps.size = n → L.ps = ps → L.asg = asg → L.body = body → L.E = E → L.F = F →
      EffC P f (df ++ .yld y :: dc) ((y, some .pin) :: (j, some (.bun y (bunOf L stx none))) :: stc) (.ret d ((y, some .pin) :: (j2, some (.bun y (bunOf L stB pend))) :: stc')))
    (hdis : ∀ i ∈ nms stc, i ∉ nms stx) (hyj : y ≠ j ∧ y ≠ j2 ∧ y ∉ nms stc ∧ j ∉ nms stc) (hcl : ∀ i, i ∈ nmL (df ++ dc) ∨ i ∈ nmSt stc → i ∈ nms stc) (hfree : freeOf ids' E stB F)
    (hk : DGo P n F Q (jumpI pend ++ k) E stB ids') : DGo P n F Q (.code (.rangeFunc g ps asg body) :: k) env st ids := by
  intro b cs I μ a w items hd hc
  obtain ⟨is, rfl, hki⟩ := den_code hd
  rcases b.2 with hb0 | ⟨hb0, fcb, hfb⟩
  · exact absurd hb0 hF
  have he := run_enterLoop_outer (P := P) (w := w) b.1.fn a.tmps ps asg body
  obtain ⟨ro, hro⟩ : ∃ ro, ro = b.1.roundOf := ⟨_, rfl⟩
  have he' : (Instr.enterLoop b.1.fn a.tmps ps asg body ro).run P w = (Instr.enterLoop b.1.fn a.tmps ps asg body none).run P w := by rw [hro, hb0]
  rw [← he', hro] at he
  clear he'
  obtain ⟨L, hL⟩ : ∃ L : LoopI, L = ⟨b.1.fn, ps, asg, body, a.tmps, E, F, μ⟩ := ⟨_, rfl⟩
  obtain ⟨wa, hwa⟩ : ∃ wa : World, wa = w.alloc (.deferred (some [])) := ⟨_, rfl⟩
  rw [← hwa] at he
  have hwas : wa.heap.size = w.heap.size + 1 := by rw [hwa]; simp
  obtain ⟨R, hR⟩ : ∃ R : Go.Loop, R = { state := .ready, pending := none, fn := b.1.fn, tmps := a.tmps, params := ps, assign := asg, body, defers := w.heap.size } := ⟨_, rfl⟩
  rw [← hR, ← hwas] at he
  obtain ⟨w1, hw1⟩ : ∃ w1 : World, w1 = wa.alloc (.loop R) := ⟨_, rfl⟩
  rw [← hw1] at he
  have hw1s : w1.heap.size = w.heap.size + 2 := by rw [hw1]; simp; omega
  have hw1o : ∀ i, i < w.heap.size → w1.heap[i]? = w.heap[i]? := fun i hi => by rw [hw1, heapOld wa _ (by omega), hwa]; exact heapOld w _ hi
  have hw1m : w1.heap[w.heap.size]? = some (.deferred (some [])) := by rw [hw1, heapOld wa _ (by omega), hwa]; exact heapNew w _
  have hw1r : w1.heap[wa.heap.size]? = some (.loop R) := by rw [hw1]; exact heapNew wa _
  have hInew : ∀ k, w.heap.size ≤ k → I k = none := fun k hk => by
    cases hI : I k with
    | none => rfl
    | some o => have := lt_of_heap (hc.imm k o hI); omega
  -- the caller's state in the new world
  have hS1 : StRep I μ st ids w1 := hc.toStRep.other (by omega) (fun i o hi => hw1o i (lt_of_heap (hc.imm i o hi))) (fun i hi => hw1o i (owned_lt hc.toStRep hi))
  have hlx : ∀ i bi, live stx i bi → live st i bi := fun i bi h => hl i bi (live_appR (fun hm => hdis i hm (live_nms h)) h)
  have hlc : ∀ i bi, live stc i bi → live st i bi := fun i bi h => hl i bi (live_appL h)
  obtain ⟨bs0, hbs0⟩ := owned_list μ stx
  have hownx : ∀ k, k ∈ bs0 → owned μ st k := fun k hk => let ⟨i, bi, g, h1, h2⟩ := (hbs0 k).1 hk; ⟨i, bi, g, hlx i bi h1, h2⟩
  have hltx : ∀ k, k ∈ bs0 → k < w.heap.size := fun k hk => owned_lt hc.toStRep (hownx k hk)
  have hEnv : ∀ t d', lk E t = some d' → RepD I μ (a.tmps.getD t undef) d' := fun t d' hl => by
    obtain ⟨d, h1, h2⟩ := subE_spec hEE t d' hl
    exact told_rep h2 (hc.env t d h1)
  have hB1 : (bunOf L stx none).P I w1 wa.heap.size (wa.heap.size :: bs0) := by
    refine ⟨R, μ, bs0, rfl, hw1r, ⟨by rw [hR], by rw [hR]⟩, ?_, ?_, fun i bi h => hS1.blk i bi (hlx i bi h), fun i j bi bj gi gj k hi hj => hS1.inj i j bi bj gi gj k (hlx i bi hi) (hlx j bj hj), hbs0, fun hm => by have := hltx _ hm; omega, ?_⟩
    · rw [hR, hL]; exact ⟨rfl, rfl, rfl, rfl, rfl⟩
    · rw [hL]; exact hEnv
    · rw [hL]; exact .refl _ _
  obtain ⟨μc, hμc⟩ : ∃ μc : Mu, μc = fun i => if i = y then some (.func (.yield wa.heap.size) #[] #[]) else if i = j then some (.agg (ptrs (wa.heap.size :: bs0))) else μ i := ⟨_, rfl⟩
  have hmy : μc y = some (.func (.yield wa.heap.size) #[] #[]) := by rw [hμc]; simp
  have hmj : μc j = some (.agg (ptrs (wa.heap.size :: bs0))) := by rw [hμc]; simp [Ne.symm hyj.1]
  have hmo : ∀ i ∈ nms stc, μc i = μ i := fun i hi => by
    have h1 : i ≠ y := fun e => hyj.2.2.1 (e ▸ hi)
    have h2 : i ≠ j := fun e => hyj.2.2.2 (e ▸ hi)
    rw [hμc]; simp [h1, h2]
  obtain ⟨st0, hst0⟩ : ∃ st0 : St, st0 = (y, some .pin) :: (j, some (.bun y (bunOf L stx none))) :: stc := ⟨_, rfl⟩
  have hl0 : ∀ {i bi}, live st0 i bi → (i = y ∧ bi = .pin) ∨ (i = j ∧ bi = .bun y (bunOf L stx none)) ∨ (i ≠ y ∧ i ≠ j ∧ live stc i bi) := fun {i bi} h => by
    rw [hst0] at h
    rcases live_cons.1 h with h | ⟨h1, h⟩
    · exact .inl h
    · rcases live_cons.1 h with h | ⟨h2, h⟩
      · exact .inr (.inl h)
      · exact .inr (.inr ⟨h1, h2, h⟩)
  have hown0 : ∀ k, owned μc st0 k → k = wa.heap.size ∨ k ∈ bs0 ∨ owned μ stc k := fun k ⟨i, bi, g, h1, h2, h3⟩ => by
    rcases hl0 h1 with ⟨rfl, rfl⟩ | ⟨rfl, rfl⟩ | ⟨_, _, h⟩
    · rw [hmy] at h2; cases h2; exact h3.elim
    · rw [hmj] at h2; cases h2
      rcases List.mem_cons.1 (ownB_ptrs.1 h3) with h | h
      · exact .inl h
      · exact .inr (.inl h)
    · exact .inr (.inr ⟨i, bi, g, h, by rw [← hmo i (live_nms h)]; exact h2, h3⟩)
  have hcx : ∀ {i bi g k}, live stc i bi → μ i = some g → ownB g k → k ∉ bs0 := fun {i bi g k} h1 h2 h3 hm => by
    obtain ⟨i', bi', g', q1, q2, q3⟩ := (hbs0 k).1 hm
    have := hS1.inj i i' bi bi' g g' k (hlc i bi h1) (hlx i' bi' q1) h2 q2 h3 q3
    subst this
    exact hdis i (live_nms h1) (live_nms q1)
  have hS0 : StRep I μc st0 [] w1 := by
    refine { imm := hS1.imm, blk := fun i bi h => ?_, apart := fun i bi g k h hgi hk => ?_, inj := fun i i' bi bj gi gj k hi hj hgi hgj hki hkj => ?_, nodup := .nil, idsFree := fun _ h => by simp at h }
    · rcases hl0 h with ⟨rfl, rfl⟩ | ⟨rfl, rfl⟩ | ⟨_, _, h⟩
      · exact ⟨_, hmy, _, rfl⟩
      · exact ⟨_, hmj, _, _, hmy, rfl, hB1⟩
      · obtain ⟨g, q1, q2⟩ := hS1.blk i bi (hlc i bi h)
        exact ⟨g, by rw [hmo i (live_nms h)]; exact q1, q2.sub fun x hx g hg => by rw [hmo x (hcl x (.inr ((nmSt_live h).2 x hx)))]; exact hg⟩
    · rcases hown0 k ⟨i, bi, g, h, hgi, hk⟩ with h | h | ⟨i', bi', g', q1, q2, q3⟩
      · rw [h]; exact ⟨hInew _ (by omega), by omega⟩
      · obtain ⟨i', bi', g', q1, q2, q3⟩ := hownx k h
        exact hS1.apart i' bi' g' k q1 q2 q3
      · exact hS1.apart i' bi' g' k (hlc i' bi' q1) q2 q3
    · rcases hl0 hi with ⟨rfl, rfl⟩ | ⟨rfl, rfl⟩ | ⟨_, _, hi⟩ <;> rcases hl0 hj with ⟨rfl, rfl⟩ | ⟨rfl, rfl⟩ | ⟨_, _, hj⟩
      · rfl
      · rw [hmy] at hgi; cases hgi; exact hki.elim
      · rw [hmy] at hgi; cases hgi; exact hki.elim
      · rw [hmy] at hgj; cases hgj; exact hkj.elim
      · rfl
      · rw [hmj] at hgi; cases hgi
        have q := hmo i' (live_nms hj)
        rw [hgj] at q
        rcases List.mem_cons.1 (ownB_ptrs.1 hki) with h | h
        · have := (hS1.apart i' bj gj k (hlc _ _ hj) q.symm hkj)
          have hlt := owned_lt hc.toStRep ⟨i', bj, gj, hlc _ _ hj, q.symm, hkj⟩
          omega
        · exact absurd h (hcx hj q.symm hkj)
      · rw [hmy] at hgj; cases hgj; exact hkj.elim
      · rw [hmj] at hgj; cases hgj
        have q := hmo i (live_nms hi)
        rw [hgi] at q
        rcases List.mem_cons.1 (ownB_ptrs.1 hkj) with h | h
        · have hlt := owned_lt hc.toStRep ⟨i, bi, gi, hlc _ _ hi, q.symm, hki⟩
          omega
        · exact absurd h (hcx hi q.symm hki)
      · have q1 := hmo i (live_nms hi)
        have q2 := hmo i' (live_nms hj)
        rw [hgi] at q1
        rw [hgj] at q2
        exact hS1.inj i i' bi bj gi gj k (hlc _ _ hi) (hlc _ _ hj) q1.symm q2.symm hki hkj
  -- the call
  have hvg := evO_rep (I := I) (μ := μ) (a := a) hg fun t _ d hl => hc.env t d hl
  generalize hve : a.eval g = vg at hvg
  cases hvg with
  | fn _ first cap _ _ hl1 hl2 q1 q2 =>
  have hnL : ∀ {l m : List D} {i}, i ∈ nmL l ∨ i ∈ nmL m → i ∈ nmL (l ++ m) := fun {l m i} h => by
    have : ∀ (l m : List D), nmL (l ++ m) = nmL l ++ nmL m := fun l m => by
      induction l with
      | nil => rfl
      | cons x r ih => simp [nmL, ih]
    rw [this]; simpa using h
  have hargs : RepL I μc (first ++ #[Value.func (.yield wa.heap.size) #[] #[]] ++ cap).toList (df ++ .yld y :: dc) := by
    have e : df ++ .yld y :: dc = df ++ [.yld y] ++ dc := by simp
    rw [e, Array.toList_append, Array.toList_append]
    have h1 : RepL I μ first.toList df := ⟨by simpa using hl1, fun i v d p q => q1 i v d (by simpa using p) q⟩
    have h2 : RepL I μ cap.toList dc := ⟨by simpa using hl2, fun i v d p q => q2 i v d (by simpa using p) q⟩
    refine RepL.append (RepL.append (h1.sub fun x hx g hg => ?_) (.mk (.yld _ _ hmy) .nil)) (h2.sub fun x hx g hg => ?_)
    · rw [hmo x (hcl x (.inl (hnL (.inl hx))))]; exact hg
    · rw [hmo x (hcl x (.inl (hnL (.inr hx))))]; exact hg
  have hEL := hE L (by rw [hL]; simp [hfb]) (by rw [hL]; exact hc.size) (by rw [hL]) (by rw [hL]) (by rw [hL]) (by rw [hL]) (by rw [hL])
  rw [← hst0] at hEL
  have hcall := hEL I μc w1 _ hS0 hargs
  rw [run_callFunc_body hf hname hb] at hcall
  have hres : ∃ dd, (resolve a.eval (rangeCall g wa.heap.size) 0).run P w1 = .ok dd w1 ∧ (invoke dd.target dd.args).run P w1 = .ok (.enter f (first ++ #[Value.func (.yield wa.heap.size) #[] #[]] ++ cap)) w1 := by
    refine ⟨⟨.fn (.func f) cap, first ++ #[Value.func (.yield wa.heap.size) #[] #[]]⟩, ?_, ?_⟩
    · have hcv : a.eval (.const (.func (.yield wa.heap.size) #[] #[])) = .func (.yield wa.heap.size) #[] #[] := rfl
      simp [rangeCall, resolve, Deferred.ofValue, hve, hcv]
    · simpa [invoke] using run_callFunc_body (w := w1) hf hname hb (first ++ #[Value.func (.yield wa.heap.size) #[] #[]] ++ cap)
  obtain ⟨dd, hr1, hr2⟩ := hres
  refine reach_rangeFunc he hr1 hr2 (Calls.mono hcall fun en w3 hen => ?_)
  cases en with
  | panicked chain => exact hen.elim
  | outgrown => exact hen.elim
  | returned v =>
    obtain ⟨I', μ', p1, p2, p3, p4⟩ := hen
    have hly : live ((y, some .pin) :: (j2, some (.bun y (bunOf L stB pend))) :: stc') j2 (.bun y (bunOf L stB pend)) := live_cons.2 (.inr ⟨Ne.symm hyj.2.1, live_cons.2 (.inl ⟨rfl, rfl⟩)⟩)
    obtain ⟨g2, hg2, b2, bs2, hb2, rfl, hP2⟩ := p2.blk j2 _ hly
    have hyy : μ' y = some (.func (.yield wa.heap.size) #[] #[]) := p3 y (by rw [hst0]; simp [nms]) _ hmy
    rw [hyy] at hb2
    cases hb2
    have hbs2 : ∀ k ∈ bs2, I' k = none ∧ k < w3.heap.size := fun k hk => p2.apart j2 _ _ k hly hg2 (ownB_ptrs.2 hk)
    obtain ⟨r, ν, bsN, e1, hrr, ⟨hr2', hr3⟩, ⟨hr4, hr5, hr6, hr7, hr8⟩, hE3, hS3, hownN, hnbN, hFN⟩ := bun_open hP2 (ids := ids') (by rw [hL]; exact hfree) p2.imm hbs2
    subst e1
    have hend := run_endLoop (P := P) hrr (by rw [hr2']; cases pend <;> simp)
    obtain ⟨w4, hw4⟩ : ∃ w4 : World, w4 = w3.putObj wa.heap.size (.loop { r with state := .exhausted }) := ⟨_, rfl⟩
    have hend' : (Instr.endLoop wa.heap.size).run P w3 = .ok pend w4 := by rw [hw4, hend, hr3]
    refine ⟨pend, w4, hend', ?_⟩
    have hlb : wa.heap.size < w3.heap.size := lt_of_heap hrr
    have hoth : ∀ i, i ≠ wa.heap.size → w4.heap[i]? = w3.heap[i]? := fun i hi => by
      rw [hw4]; unfold World.putObj
      simp [Array.getElem?_setIfInBounds_ne (Ne.symm hi)]
    have hw4s : w4.heap.size = w3.heap.size := by rw [hw4]; unfold World.putObj; simp
    obtain ⟨hIb, _⟩ := hbs2 _ (List.mem_cons_self ..)
    have hS4 : StRep I' ν stB ids' w4 := hS3.other (by omega) (fun i o hi => hoth i (fun e => by rw [e, hIb] at hi; cases hi)) (fun i hi => hoth i (fun e => hnbN ((hownN _).2 (e ▸ hi))))
    have hsz3 := p4.size
    -- what is not owned stays
    have hno0 : ∀ k, k < w.heap.size → ¬ owned μ st k → ¬ owned μc st0 k := fun k hk hno h => by
      rcases hown0 k h with h | h | ⟨i, bi, g, q1, q2⟩
      · omega
      · exact hno (hownx k h)
      · exact hno ⟨i, bi, g, hlc i bi q1, q2⟩
    have hblk : ∀ k, k < w1.heap.size → k ≠ wa.heap.size → ¬ owned μc st0 k → w4.heap[k]? = w1.heap[k]? := fun k hk hne hno => (hoth k hne).trans (p4.block k hk hno)
    have hfr : ∀ k, k < w1.heap.size → owned ν stB k → owned μc st0 k := fun k hk ho => p4.fresh k hk ⟨j2, _, _, hly, hg2, ownB_ptrs.2 (List.mem_cons_of_mem _ ((hownN k).2 ho))⟩
    have hExt : Ext I μ st w I' ν stB w4 :=
      { imm := p4.imm
        os := by rw [hw4]; unfold World.putObj; exact p4.os.trans (by rw [hw1, hwa]; rfl)
        tape := by rw [hw4]; unfold World.putObj; exact p4.tape.trans (by rw [hw1, hwa]; rfl)
        output := by rw [hw4]; unfold World.putObj; exact p4.output.trans (by rw [hw1, hwa]; rfl)
        size := by omega
        block := fun k hk hno => (hblk k (by omega) (by omega) (hno0 k hk hno)).trans (hw1o k hk)
        fresh := fun k hk ho => by
          rcases hown0 k (hfr k (by omega) ho) with h | h | ⟨i, bi, g, q1, q2⟩
          · omega
          · exact hownx k h
          · exact ⟨i, bi, g, hlc i bi q1, q2⟩
        old := fun k hk hno => p4.old k (by omega) (hno0 k hk hno) }
    have hMk : MarksOk I' ν stB w4 ([{ target := .collected w.heap.size, args := #[] }] ++ a.defers) := by
      obtain ⟨rs, r1, r2, r3⟩ := hc.defers
      refine ⟨w.heap.size :: rs, by rw [r1]; rfl, List.nodup_cons.2 ⟨fun hm => ?_, r2⟩, fun r hr => ?_⟩
      · have := lt_of_heap (r3 _ hm).1; omega
      have hno : ¬ owned μc st0 r ∧ r < w1.heap.size ∧ r ≠ wa.heap.size ∧ w1.heap[r]? = some (.deferred (some [])) ∧ I r = none := by
        rcases List.mem_cons.1 hr with rfl | hr
        · refine ⟨fun h => ?_, by omega, by omega, hw1m, hInew _ (Nat.le_refl _)⟩
          rcases hown0 _ h with h | h | ⟨i, bi, g, q1, q2, q3⟩
          · omega
          · have := hltx _ h; omega
          · have := owned_lt hc.toStRep ⟨i, bi, g, hlc i bi q1, q2, q3⟩; omega
        · obtain ⟨h1, h2, h3⟩ := r3 r hr
          have hlt := lt_of_heap h1
          exact ⟨hno0 r hlt h3, by omega, by omega, (hw1o r hlt).trans h1, h2⟩
      obtain ⟨h1, h2, h3, h4, h5⟩ := hno
      exact ⟨(hblk r h2 h3 h1).trans h4, (p4.old r h2 h1).trans h5, fun ho => h1 (hfr r h2 ho)⟩
    have hC : Conc n I' ν E stB ids' { a with defers := [{ target := .collected w.heap.size, args := #[] }] ++ a.defers } w4 :=
      { hS4 with size := hc.size, env := fun t d hl => by have := hE3 t d (by rw [hL]; exact hl); rw [hL] at this; exact this, defers := hMk }
    have hden : Den (jumpI pend ++ k) ((pend.map Item.code).toList ++ is) := by
      cases pend with
      | none => exact hki
      | some c => exact ⟨rfl, hki⟩
    refine Reach.mono (fun e a' w' hp => ?_) (hk b cs I' ν _ w4 _ hden hC)
    obtain ⟨x', env', st', ids2, I2, μ2, t1, t2, t3, t4, t5, t6⟩ := hp
    have hpin : Pin F μ ν := by rw [hL] at hFN; exact hFN
    refine ⟨x', env', st', ids2, I2, μ2, t1, t2, t3, hpin.trans t4, hExt.trans t5, fun r hr => ?_⟩
    rcases t6 r hr with h | h
    · simp only [List.singleton_append, List.mem_cons] at h
      rcases h with h | h
      · simp only [mkD, Deferred.mk.injEq, Target.collected.injEq, and_true] at h
        exact .inr (by omega)
      · exact .inl h
    · exact .inr (by omega)

end
end Go.Hk
