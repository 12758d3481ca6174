/- The ghost machine's memory under writes and new blocks. (And what it stands on.) -/
import Derived.Test.YtkkdjkidlgnagaaGreatWb
import Derived.RowKit3
import Derived.MapKept
import Derived.Test.YtkkdjkidlgnagaaGreatProg
import Derived.WalkKit
import Derived.Laws.NewBlocks
import Derived.Defers
import Derived.Recover
import Derived.AtR
import Derived.Orders
import Derived.KernelRfl
import Derived.Laws.AppendOwn
import Derived.Test.YtkkdjkidlgnagaaGreatWa
set_option linter.unusedSimpArgs false
set_option linter.unusedVariables false

/- Contracts of hearthref01: modules; lists of names. -/
namespace Go.Hk
open Go.Proofs

theorem map_get {α β : Type} {f : α → β} {l : List α} {i : Nat} {t : α} (h : l[i]? = some t) : (l.map f)[i]? = some (f t) := by simp [h]
@[simp] theorem dCdc_length (c : Cd) : (dCdc c).length = 2 := rfl
@[simp] theorem dDtc_length (c : Dt) : (dDtc c).length = 2 := rfl
@[simp] theorem dMdc_length (m : Md) : (dMdc m).length = 3 := rfl
@[simp] theorem dFdc_length (c : Fd) : (dFdc c).length = 15 := by simp [dFdc]

def conB (c : Cd) : Bool := greatS c.name && decide ((c.args.length : Int) ≤ 3) && c.args.all wholeB
def dataB (d : Dt) : Bool := greatS d.name && inI d.cons.length 1 5 && d.cons.all conB
def smallConB (c : Cd) : Bool := decide ((c.name.length : Int) ≤ 30) && decide ((c.args.length : Int) ≤ 6) && c.args.all smallTypeB
def smallDataB (d : Dt) : Bool := decide ((d.name.length : Int) ≤ 30) && decide ((d.cons.length : Int) ≤ 8) && d.cons.all smallConB
def funB (f : Fd) : Bool := nameS f.name && nameS f.param && wholeB f.from_ && wholeB f.to_ && termB f.body
def moduleB (m : Md) : Bool := nameS m.name && decide ((m.datas.length : Int) ≤ 4) && inI m.funs.length 1 5 && m.datas.all dataB && m.funs.all funB
def smallFunB (f : Fd) : Bool := decide ((f.name.length : Int) ≤ 30) && decide ((f.param.length : Int) ≤ 30) && smallTypeB f.from_ && smallTypeB f.to_ && smallTermB f.body
def smallModuleB (m : Md) : Bool := decide ((m.name.length : Int) ≤ 30) && decide ((m.datas.length : Int) ≤ 6) && decide ((m.funs.length : Int) ≤ 8) && m.datas.all smallDataB && m.funs.all smallFunB

set_option maxRecDepth 100000 in
theorem data_ok (d : Dt) : PureC Tryz.prog 79 [.agg (dDtc d)] (.bool (dataB d)) := by
  obtain ⟨nm, cs⟩ := d
  refine pureC_ok fun hv => ?_
  simp [vOkL, vOk, dDtc, maxLen] at hv
  refine effc_of ttK_ok Tryz.func79 (by decide +kernel) rfl [1, 2, 3] rfl rfl ?_
  refine kg [] rfl (by simp) ?_
  refine g_pcall rfl (fun _ => Great_ok nm) (by simp) ?_
  refine kg [] rfl (by simp) ?_
  refine g_pcall rfl (v := .bool (inI cs.length 1 5)) (fun _ => by have := in_ok cs.length 1 5; simpa using this) (by simp [cxOf]) ?_
  refine kg [] rfl (by simp) ?_
  refine dgo_cond rfl (fun h => ?_) (fun h => ?_)
  · refine kd [] rfl (by simp) ?_
    refine dgo_ret ⟨_, rfl, tV (congrArg _ ?_), trivial⟩
    simp at h
    simp [dataB]
    grind
  have hx : (greatS nm && inI cs.length 1 5) = true := by simp at h ⊢; grind
  clear h
  refine kd [] rfl (by simp) ?_
  refine dgo_enter (fun i : Nat => [(3, .imm (.int .i64 i)), (1, .ref 1 0)]) (fun _ => [(1, some (.immb 111 2 (dDtc ⟨nm, cs⟩)))]) [2, 3] (fun i => cs.length - i)
    (fun i => i ≤ cs.length ∧ cs.all conB = (cs.drop i).all conB) 0 ⟨Nat.zero_le _, rfl⟩ ⟨rfl, rfl, trivial⟩ ⟨rfl, trivial⟩ rfl fun i hi ih => ?_
  refine kd [] rfl (by simp) ?_
  refine dgo_cond rfl (fun h => ?_) (fun h => ?_)
  · simp at h
    obtain ⟨c, hc⟩ := has_get h
    have e := hi.2
    rw [get_drop hc] at e
    refine kd [] rfl (by simp) ?_
    refine ki rfl (c := dCdc c) (fun _ => ⟨by simp, by simpa using map_get hc, by simp⟩) (by simp) ?_
    obtain ⟨cn, ag⟩ := c
    refine kg [] rfl (by simp) ?_
    refine g_pcall rfl (fun _ => Great_ok cn) (by simp) ?_
    refine kg [] rfl (by simp) ?_
    refine dgo_cond rfl (fun h => ?_) (fun h => ?_)
    · refine kd [] rfl (by simp) ?_
      refine dgo_ret ⟨_, rfl, tV (congrArg _ ?_), trivial⟩
      simp at h
      have : conB ⟨cn, ag⟩ = false := by simp [conB]; grind
      simp [dataB, e, this]
    have hy : (greatS cn && decide ((ag.length : Int) ≤ 3)) = true := by simp at h ⊢; grind
    have hal : ag.length ≤ 6 := by simp at hy; omega
    clear h
    refine kd [] rfl (by simp) ?_
    refine dgo_enter (fun j : Nat => [(5, .imm (.int .i64 j)), (4, .ref 2 0), (3, .imm (.int .i64 i)), (1, .ref 1 0)]) (fun _ => [(2, some (.immb 150 2 (dCdc ⟨cn, ag⟩))), (1, some (.immb 111 2 (dDtc ⟨nm, cs⟩)))]) [3] (fun j => ag.length - j)
      (fun j => j ≤ ag.length ∧ ag.all wholeB = (ag.drop j).all wholeB) 0 ⟨Nat.zero_le _, rfl⟩ ⟨rfl, rfl, rfl, rfl, trivial⟩ ⟨rfl, rfl, trivial⟩ rfl fun j hj ihj => ?_
    refine kd [] rfl (by simp) ?_
    refine dgo_cond rfl (fun h => ?_) (fun h => ?_)
    · simp at h
      obtain ⟨t, ht⟩ := has_get h
      have ej := hj.2
      rw [get_drop ht] at ej
      refine kd [] rfl (by simp) ?_
      refine ki rfl (c := dTyc t) (fun _ => ⟨by simp, by simpa using dTys_get ht, by simp⟩) (by simp) ?_
      refine kg [] rfl (by simp) ?_
      refine g_pcall rfl (fun _ => Whole_ok t) (by simp) ?_
      refine kg [] rfl (by simp) ?_
      refine dgo_cond rfl (fun h => ?_) (fun h => ?_)
      · refine kd [] rfl (by simp) ?_
        refine dgo_ret ⟨_, rfl, tV (congrArg _ ?_), trivial⟩
        simp at h
        have : conB ⟨cn, ag⟩ = false := by simp only [conB]; rw [ej]; simp [h]
        simp [dataB, e, this]
      · refine kd [] rfl (by simp) ?_
        simp at h
        exact dgo_again (ihj (j + 1) (by omega) ⟨by omega, by rw [ej]; simp [h]⟩) ⟨tInt (w64 (by omega) (by omega)), rfl, rfl, rfl, trivial⟩ ⟨rfl, rfl, trivial⟩ rfl
    · simp at h
      refine kd [] rfl (by simp) ?_
      have : conB ⟨cn, ag⟩ = true := by
        simp only [conB]
        rw [hj.2, List.drop_eq_nil_of_le (by omega)]
        simpa using hy
      exact dgo_again (ih (i + 1) (by omega) ⟨by omega, by rw [e]; simp [this]⟩) ⟨tInt (w64 (by omega) (by omega)), rfl, trivial⟩ ⟨rfl, trivial⟩ rfl
  · refine kd [] rfl (by simp) ?_
    refine dgo_ret ⟨_, rfl, tV (congrArg _ ?_), trivial⟩
    simp at h
    simp only [dataB]
    rw [hi.2, List.drop_eq_nil_of_le (by omega)]
    simpa using hx.symm

set_option maxRecDepth 100000 in
theorem smallData_ok (d : Dt) : PureC Tryz.prog 75 [.agg (dDtc d)] (.bool (smallDataB d)) := by
  obtain ⟨nm, cs⟩ := d
  refine pureC_ok fun hv => ?_
  simp [vOkL, vOk, dDtc, maxLen] at hv
  refine effc_of ttK_ok Tryz.func75 (by decide +kernel) rfl [1, 2, 3] rfl rfl ?_
  refine kg [] rfl (by simp) ?_
  refine dgo_cond rfl (fun h => ?_) (fun h => ?_)
  · refine kd [] rfl (by simp) ?_
    refine dgo_ret ⟨_, rfl, tV (congrArg _ ?_), trivial⟩
    simp at h
    simp [smallDataB]
    grind
  have hx : (decide ((nm.length : Int) ≤ 30) && decide ((cs.length : Int) ≤ 8)) = true := by simp at h ⊢; grind
  clear h
  refine kd [] rfl (by simp) ?_
  refine dgo_enter (fun i : Nat => [(3, .imm (.int .i64 i)), (1, .ref 1 0)]) (fun _ => [(1, some (.immb 111 2 (dDtc ⟨nm, cs⟩)))]) [2, 3] (fun i => cs.length - i)
    (fun i => i ≤ cs.length ∧ cs.all smallConB = (cs.drop i).all smallConB) 0 ⟨Nat.zero_le _, rfl⟩ ⟨rfl, rfl, trivial⟩ ⟨rfl, trivial⟩ rfl fun i hi ih => ?_
  refine kd [] rfl (by simp) ?_
  refine dgo_cond rfl (fun h => ?_) (fun h => ?_)
  · simp at h
    obtain ⟨c, hc⟩ := has_get h
    have e := hi.2
    rw [get_drop hc] at e
    refine kd [] rfl (by simp) ?_
    refine ki rfl (c := dCdc c) (fun _ => ⟨by simp, by simpa using map_get hc, by simp⟩) (by simp) ?_
    obtain ⟨cn, ag⟩ := c
    refine kg [] rfl (by simp) ?_
    refine dgo_cond rfl (fun h => ?_) (fun h => ?_)
    · refine kd [] rfl (by simp) ?_
      refine dgo_ret ⟨_, rfl, tV (congrArg _ ?_), trivial⟩
      simp at h
      have : smallConB ⟨cn, ag⟩ = false := by simp [smallConB]; grind
      simp [smallDataB, e, this]
    have hy : (decide ((cn.length : Int) ≤ 30) && decide ((ag.length : Int) ≤ 6)) = true := by simp at h ⊢; grind
    have hal : ag.length ≤ 6 := by simp at hy; omega
    clear h
    refine kd [] rfl (by simp) ?_
    refine dgo_enter (fun j : Nat => [(5, .imm (.int .i64 j)), (4, .ref 2 0), (3, .imm (.int .i64 i)), (1, .ref 1 0)]) (fun _ => [(2, some (.immb 150 2 (dCdc ⟨cn, ag⟩))), (1, some (.immb 111 2 (dDtc ⟨nm, cs⟩)))]) [3] (fun j => ag.length - j)
      (fun j => j ≤ ag.length ∧ ag.all smallTypeB = (ag.drop j).all smallTypeB) 0 ⟨Nat.zero_le _, rfl⟩ ⟨rfl, rfl, rfl, rfl, trivial⟩ ⟨rfl, rfl, trivial⟩ rfl fun j hj ihj => ?_
    refine kd [] rfl (by simp) ?_
    refine dgo_cond rfl (fun h => ?_) (fun h => ?_)
    · simp at h
      obtain ⟨t, ht⟩ := has_get h
      have ej := hj.2
      rw [get_drop ht] at ej
      refine kd [] rfl (by simp) ?_
      refine ki rfl (c := dTyc t) (fun _ => ⟨by simp, by simpa using dTys_get ht, by simp⟩) (by simp) ?_
      refine kg [] rfl (by simp) ?_
      refine g_pcall rfl (fun _ => SmallType_ok t) (by simp) ?_
      refine kg [] rfl (by simp) ?_
      refine dgo_cond rfl (fun h => ?_) (fun h => ?_)
      · refine kd [] rfl (by simp) ?_
        refine dgo_ret ⟨_, rfl, tV (congrArg _ ?_), trivial⟩
        simp at h
        have : smallConB ⟨cn, ag⟩ = false := by simp only [smallConB]; rw [ej]; simp [h]
        simp [smallDataB, e, this]
      · refine kd [] rfl (by simp) ?_
        simp at h
        exact dgo_again (ihj (j + 1) (by omega) ⟨by omega, by rw [ej]; simp [h]⟩) ⟨tInt (w64 (by omega) (by omega)), rfl, rfl, rfl, trivial⟩ ⟨rfl, rfl, trivial⟩ rfl
    · simp at h
      refine kd [] rfl (by simp) ?_
      have : smallConB ⟨cn, ag⟩ = true := by
        simp only [smallConB]
        rw [hj.2, List.drop_eq_nil_of_le (by omega)]
        simpa using hy
      exact dgo_again (ih (i + 1) (by omega) ⟨by omega, by rw [e]; simp [this]⟩) ⟨tInt (w64 (by omega) (by omega)), rfl, trivial⟩ ⟨rfl, trivial⟩ rfl
  · refine kd [] rfl (by simp) ?_
    refine dgo_ret ⟨_, rfl, tV (congrArg _ ?_), trivial⟩
    simp at h
    simp only [smallDataB]
    rw [hi.2, List.drop_eq_nil_of_le (by omega)]
    simpa using hx.symm

set_option maxRecDepth 100000 in
theorem Module_ok (m : Md) : PureC Tryz.prog 36 [.agg (dMdc m)] (.bool (moduleB m)) := by
  obtain ⟨nm, ds, fs⟩ := m
  refine pureC_ok fun hv => ?_
  simp [vOkL, vOk, dMdc, maxLen] at hv
  refine effc_of ttK_ok Tryz.func36 (by decide +kernel) rfl [1, 2, 3] rfl rfl ?_
  refine kg [] rfl (by simp) ?_
  refine g_pcall rfl (fun _ => Name_ok nm) (by simp) ?_
  refine kg [] rfl (by simp) ?_
  refine g_pcall rfl (v := .bool (inI fs.length 1 5)) (fun _ => by have := in_ok fs.length 1 5; simpa using this) (by simp [cxOf]) ?_
  refine kg [] rfl (by simp) ?_
  refine dgo_cond rfl (fun h => ?_) (fun h => ?_)
  · refine kd [] rfl (by simp) ?_
    refine dgo_ret ⟨_, rfl, tV (congrArg _ ?_), trivial⟩
    simp at h
    simp [moduleB]
    grind
  have hx : (nameS nm && decide ((ds.length : Int) ≤ 4) && inI fs.length 1 5) = true := by simp at h ⊢; grind
  clear h
  refine kd [] rfl (by simp) ?_
  refine dgo_enter (fun i : Nat => [(3, .imm (.int .i64 i)), (1, .ref 1 0)]) (fun _ => [(1, some (.immb 66 3 (dMdc ⟨nm, ds, fs⟩)))]) [2, 3] (fun i => ds.length - i)
    (fun i => i ≤ ds.length ∧ ds.all dataB = (ds.drop i).all dataB) 0 ⟨Nat.zero_le _, rfl⟩ ⟨rfl, rfl, trivial⟩ ⟨rfl, trivial⟩ rfl fun i hi ih => ?_
  refine kd [] rfl (by simp) ?_
  refine dgo_cond rfl (fun h => ?_) (fun h => ?_)
  · simp at h
    obtain ⟨c, hc⟩ := has_get h
    have e := hi.2
    rw [get_drop hc] at e
    refine kd [] rfl (by simp) ?_
    refine ki rfl (c := dDtc c) (fun _ => ⟨by simp, by simpa using map_get hc, by simp⟩) (by simp) ?_
    refine kg [] rfl (by simp) ?_
    refine g_pcall rfl (fun _ => data_ok c) (by simp) ?_
    refine kg [] rfl (by simp) ?_
    refine dgo_cond rfl (fun h => ?_) (fun h => ?_)
    · refine kd [] rfl (by simp) ?_
      refine dgo_ret ⟨_, rfl, tV (congrArg _ ?_), trivial⟩
      simp at h
      simp [moduleB, e, h]
    · refine kd [] rfl (by simp) ?_
      simp at h
      exact dgo_again (ih (i + 1) (by omega) ⟨by omega, by rw [e]; simp [h]⟩) ⟨tInt (w64 (by omega) (by omega)), rfl, trivial⟩ ⟨rfl, trivial⟩ rfl
  simp at h
  have hds : ds.all dataB = true := by rw [hi.2, List.drop_eq_nil_of_le (by omega)]; rfl
  clear ih hi h
  refine kd [] rfl (by simp) ?_
  refine dgo_enter (fun i : Nat => [(4, .imm (.int .i64 i)), (1, .ref 1 0)]) (fun _ => [(1, some (.immb 66 3 (dMdc ⟨nm, ds, fs⟩)))]) [2, 3] (fun i => fs.length - i)
    (fun i => i ≤ fs.length ∧ fs.all funB = (fs.drop i).all funB) 0 ⟨Nat.zero_le _, rfl⟩ ⟨rfl, rfl, trivial⟩ ⟨rfl, trivial⟩ rfl fun i hi ih => ?_
  refine kd [] rfl (by simp) ?_
  refine dgo_cond rfl (fun h => ?_) (fun h => ?_)
  · simp at h
    obtain ⟨c, hc⟩ := has_get h
    have e := hi.2
    rw [get_drop hc] at e
    refine kd [] rfl (by simp) ?_
    refine ki rfl (c := dFdc c) (fun _ => ⟨by simp, by simpa using map_get hc, by simp⟩) (by simp) ?_
    obtain ⟨fnm, fpa, ⟨s1, n1, x1, p1⟩, ⟨s2, n2, x2, p2⟩, ⟨op, n3, x3, ks, p3⟩⟩ := c
    refine kg [] rfl (by simp) ?_
    refine g_pcall rfl (fun _ => Name_ok fnm) (by simp [cxOf]) ?_
    refine kg [] rfl (by simp) ?_
    refine g_pcall rfl (fun _ => Name_ok fpa) (by simp [cxOf]) ?_
    refine kg [] rfl (by simp) ?_
    refine g_pcall rfl (fun _ => Whole_ok (.mk s1 n1 x1 p1)) (by simp [cxOf]) ?_
    refine kg [] rfl (by simp) ?_
    refine g_pcall rfl (fun _ => Whole_ok (.mk s2 n2 x2 p2)) (by simp [cxOf]) ?_
    refine kg [] rfl (by simp) ?_
    refine g_pcall rfl (fun _ => Term_ok (.mk op n3 x3 ks p3)) (by simp [cxOf]) ?_
    refine kg [] rfl (by simp) ?_
    refine dgo_cond rfl (fun h => ?_) (fun h => ?_)
    · refine kd [] rfl (by simp) ?_
      refine dgo_ret ⟨_, rfl, tV (congrArg _ ?_), trivial⟩
      simp at h
      have : funB ⟨fnm, fpa, .mk s1 n1 x1 p1, .mk s2 n2 x2 p2, .mk op n3 x3 ks p3⟩ = false := by simp [funB]; grind
      simp [moduleB, e, this]
    · refine kd [] rfl (by simp) ?_
      simp at h
      have : funB ⟨fnm, fpa, .mk s1 n1 x1 p1, .mk s2 n2 x2 p2, .mk op n3 x3 ks p3⟩ = true := by simp [funB]; grind
      exact dgo_again (ih (i + 1) (by omega) ⟨by omega, by rw [e]; simp [this]⟩) ⟨tInt (w64 (by omega) (by omega)), rfl, trivial⟩ ⟨rfl, trivial⟩ rfl
  · refine kd [] rfl (by simp) ?_
    refine dgo_ret ⟨_, rfl, tV (congrArg _ ?_), trivial⟩
    simp at h
    simp only [moduleB]
    rw [hds, hi.2, List.drop_eq_nil_of_le (by omega)]
    simpa using hx.symm

set_option maxRecDepth 100000 in
theorem SmallModule_ok (m : Md) : PureC Tryz.prog 34 [.agg (dMdc m)] (.bool (smallModuleB m)) := by
  obtain ⟨nm, ds, fs⟩ := m
  refine pureC_ok fun hv => ?_
  simp [vOkL, vOk, dMdc, maxLen] at hv
  refine effc_of ttK_ok Tryz.func34 (by decide +kernel) rfl [1, 2, 3] rfl rfl ?_
  refine kg [] rfl (by simp) ?_
  refine dgo_cond rfl (fun h => ?_) (fun h => ?_)
  · refine kd [] rfl (by simp) ?_
    refine dgo_ret ⟨_, rfl, tV (congrArg _ ?_), trivial⟩
    simp at h
    simp [smallModuleB]
    grind
  have hx : (decide ((nm.length : Int) ≤ 30) && decide ((ds.length : Int) ≤ 6) && decide ((fs.length : Int) ≤ 8)) = true := by simp at h ⊢; grind
  clear h
  refine kd [] rfl (by simp) ?_
  refine dgo_enter (fun i : Nat => [(3, .imm (.int .i64 i)), (1, .ref 1 0)]) (fun _ => [(1, some (.immb 66 3 (dMdc ⟨nm, ds, fs⟩)))]) [2, 3] (fun i => ds.length - i)
    (fun i => i ≤ ds.length ∧ ds.all smallDataB = (ds.drop i).all smallDataB) 0 ⟨Nat.zero_le _, rfl⟩ ⟨rfl, rfl, trivial⟩ ⟨rfl, trivial⟩ rfl fun i hi ih => ?_
  refine kd [] rfl (by simp) ?_
  refine dgo_cond rfl (fun h => ?_) (fun h => ?_)
  · simp at h
    obtain ⟨c, hc⟩ := has_get h
    have e := hi.2
    rw [get_drop hc] at e
    refine kd [] rfl (by simp) ?_
    refine ki rfl (c := dDtc c) (fun _ => ⟨by simp, by simpa using map_get hc, by simp⟩) (by simp) ?_
    refine kg [] rfl (by simp) ?_
    refine g_pcall rfl (fun _ => smallData_ok c) (by simp) ?_
    refine kg [] rfl (by simp) ?_
    refine dgo_cond rfl (fun h => ?_) (fun h => ?_)
    · refine kd [] rfl (by simp) ?_
      refine dgo_ret ⟨_, rfl, tV (congrArg _ ?_), trivial⟩
      simp at h
      simp [smallModuleB, e, h]
    · refine kd [] rfl (by simp) ?_
      simp at h
      exact dgo_again (ih (i + 1) (by omega) ⟨by omega, by rw [e]; simp [h]⟩) ⟨tInt (w64 (by omega) (by omega)), rfl, trivial⟩ ⟨rfl, trivial⟩ rfl
  simp at h
  have hds : ds.all smallDataB = true := by rw [hi.2, List.drop_eq_nil_of_le (by omega)]; rfl
  clear ih hi h
  refine kd [] rfl (by simp) ?_
  refine dgo_enter (fun i : Nat => [(4, .imm (.int .i64 i)), (1, .ref 1 0)]) (fun _ => [(1, some (.immb 66 3 (dMdc ⟨nm, ds, fs⟩)))]) [2, 3] (fun i => fs.length - i)
    (fun i => i ≤ fs.length ∧ fs.all smallFunB = (fs.drop i).all smallFunB) 0 ⟨Nat.zero_le _, rfl⟩ ⟨rfl, rfl, trivial⟩ ⟨rfl, trivial⟩ rfl fun i hi ih => ?_
  refine kd [] rfl (by simp) ?_
  refine dgo_cond rfl (fun h => ?_) (fun h => ?_)
  · simp at h
    obtain ⟨c, hc⟩ := has_get h
    have e := hi.2
    rw [get_drop hc] at e
    refine kd [] rfl (by simp) ?_
    refine ki rfl (c := dFdc c) (fun _ => ⟨by simp, by simpa using map_get hc, by simp⟩) (by simp) ?_
    obtain ⟨fnm, fpa, ⟨s1, n1, x1, p1⟩, ⟨s2, n2, x2, p2⟩, ⟨op, n3, x3, ks, p3⟩⟩ := c
    refine kg [] rfl (by simp) ?_
    refine g_pcall rfl (fun _ => SmallType_ok (.mk s1 n1 x1 p1)) (by simp [cxOf]) ?_
    refine kg [] rfl (by simp) ?_
    refine g_pcall rfl (fun _ => SmallType_ok (.mk s2 n2 x2 p2)) (by simp [cxOf]) ?_
    refine kg [] rfl (by simp) ?_
    refine g_pcall rfl (fun _ => SmallTerm_ok (.mk op n3 x3 ks p3)) (by simp [cxOf]) ?_
    refine kg [] rfl (by simp) ?_
    refine dgo_cond rfl (fun h => ?_) (fun h => ?_)
    · refine kd [] rfl (by simp) ?_
      refine dgo_ret ⟨_, rfl, tV (congrArg _ ?_), trivial⟩
      simp at h
      have : smallFunB ⟨fnm, fpa, .mk s1 n1 x1 p1, .mk s2 n2 x2 p2, .mk op n3 x3 ks p3⟩ = false := by simp [smallFunB]; grind
      simp [smallModuleB, e, this]
    · refine kd [] rfl (by simp) ?_
      simp at h
      have : smallFunB ⟨fnm, fpa, .mk s1 n1 x1 p1, .mk s2 n2 x2 p2, .mk op n3 x3 ks p3⟩ = true := by simp [smallFunB]; grind
      exact dgo_again (ih (i + 1) (by omega) ⟨by omega, by rw [e]; simp [this]⟩) ⟨tInt (w64 (by omega) (by omega)), rfl, trivial⟩ ⟨rfl, trivial⟩ rfl
  · refine kd [] rfl (by simp) ?_
    refine dgo_ret ⟨_, rfl, tV (congrArg _ ?_), trivial⟩
    simp at h
    simp only [smallModuleB]
    rw [hds, hi.2, List.drop_eq_nil_of_le (by omega)]
    simpa using hx.symm

end Go.Hk

/- A function that does something and tells whether it gave up, by contract. -/
namespace Go.Hk

/-- What the walk of such a function shows. -/
def HoldsSpec (P : Program) (f : FuncId) (t tb : TypeId) : Prop := ∀ (g : FuncId) (fi ca : Array Value) (w : World) (K Kp : World → Prop),
  (callFunc g (fi ++ ca)).run P (w.alloc (.cells #[.bool false] tb)) = .ok (.enter g (fi ++ ca)) (w.alloc (.cells #[.bool false] tb)) →
  Calls P g (fi ++ ca) (w.alloc (.cells #[.bool false] tb)) (fun e w' => match e with
    | .returned _ => K w'
    | .panicked chain => chain = [{ v := .iface t (.agg #[]), recovered := false }] ∧ Kp w'
    | .outgrown => False) →
  (∀ w', K w' → w'.heap[w.heap.size]? = some (.cells #[.bool false] tb (0, 0))) → (∀ w', Kp w' → w'.heap[w.heap.size]? = some (.cells #[.bool false] tb (0, 0))) →
  Calls P f #[.func (.func g) fi ca] w fun e w' => (e = .returned (.bool true) ∧ ∃ w1, K w1 ∧ w' = w1.setCell ⟨w.heap.size, 0, none⟩ (.bool true)) ∨
    (e = .returned (.bool false) ∧ ∃ w1, Kp w1 ∧ w' = (w1.setCell ⟨w.heap.size, 0, none⟩ (.bool false)).alloc (.cells #[] t))

theorem setCell_block {w : World} {b : Nat} {v x : Value} {t : TypeId} (h : w.heap[b]? = some (.cells #[x] t (0, 0))) : w.setCell ⟨b, 0, none⟩ v = { w with heap := w.heap.setIfInBounds b (.cells #[v] t (0, 0)) } := by
  have : ∀ (A : Array Obj) (f : Obj → Obj), A[b]? = some (.cells #[x] t (0, 0)) → A.modify b f = A.setIfInBounds b (f (.cells #[x] t (0, 0))) := by
    intro A f hA
    apply Array.ext_getElem?
    intro i
    rw [Array.getElem?_modify, Array.getElem?_setIfInBounds]
    by_cases hi : b = i
    · subst hi; rw [if_pos rfl, if_pos rfl, hA]; simp [(Array.getElem?_eq_some_iff.1 hA).1]
    · rw [if_neg hi, if_neg hi]
  unfold World.setCell
  rw [this _ _ h]
  rfl

theorem owned_lt {I : Imm} {μ : Mu} {st : St} {ids : List Nat} {w : World} (hst : StRep I μ st ids w) {b : Nat} (h : owned μ st b) : b < w.heap.size := by
  obtain ⟨id, blk, g, h1, h2, h3⟩ := h
  exact (hst.apart id blk g b h1 h2 h3).2

/-- A state in a world of which neither its blocks nor what it holds as immutable has changed. -/
theorem StRep.other {I : Imm} {μ : Mu} {st : St} {ids : List Nat} {w w' : World} (hst : StRep I μ st ids w) (hs : w.heap.size ≤ w'.heap.size) (hi : ∀ b o, I b = some o → w'.heap[b]? = w.heap[b]?) (ho : ∀ b, owned μ st b → w'.heap[b]? = w.heap[b]?) : StRep I μ st ids w' :=
  { imm := fun b o h => (hi b o h).trans (hst.imm b o h), blk := fun id blk hl => let ⟨g, h1, h2⟩ := hst.blk id blk hl; ⟨g, h1, h2.world fun b hb => ho b ⟨id, blk, g, hl, h1, hb⟩⟩,
    apart := fun id blk g b h1 h2 h3 => ⟨(hst.apart id blk g b h1 h2 h3).1, Nat.lt_of_lt_of_le (hst.apart id blk g b h1 h2 h3).2 hs⟩, inj := hst.inj, nodup := hst.nodup, idsFree := hst.idsFree }

theorem RepD.fnD {I : Imm} {μ : Mu} {v : Value} {f : Fn} {df dc : List D} (h : RepD I μ v (.fn f df dc)) : ∃ first cap : Array Value, v = .func f first cap ∧ RepL I μ (first ++ cap).toList (df ++ dc) := by
  cases h with
  | fn _ first cap _ _ hf hc h1 h2 =>
    refine ⟨first, cap, rfl, ?_⟩
    rw [Array.toList_append]
    refine ⟨by simp [hf, hc], fun i v d p q => ?_⟩
    rw [List.getElem?_append] at p q
    have hl : first.toList.length = df.length := by simpa using hf
    rw [hl] at p
    split at p
    · rename_i hlt
      rw [if_pos hlt] at q
      exact h1 i v d (by simpa using p) q
    · rename_i hlt
      rw [if_neg hlt] at q
      exact h2 _ v d (by simpa using p) q

section
variable {P : Program} {f g : FuncId} {t tb : TypeId} {fn fg : Func} {cf cg : Code} {df dc : List D} {st0 st1 : St} {d : D}

theorem holds_args {I : Imm} {μ : Mu} {xs : Array Value} (hxs : RepL I μ xs.toList [.fn (.func g) df dc]) : ∃ first cap : Array Value, xs = #[.func (.func g) first cap] ∧ RepL I μ (first ++ cap).toList (df ++ dc) := by
  obtain ⟨l, rfl⟩ : ∃ l : List Value, xs = l.toArray := ⟨xs.toList, by simp⟩
  rw [List.toList_toArray] at hxs
  match l, hxs with
  | [v], hxs =>
    obtain ⟨first, cap, rfl, h⟩ := (hxs.2 0 v _ rfl rfl).fnD
    exact ⟨first, cap, rfl, h⟩
  | [], hxs => exact absurd hxs.1 (by simp)
  | _ :: _ :: _, hxs => exact absurd hxs.1 (by simp)

/-- It does not give up. -/
theorem holds_yes (hf : P.funcs[f]? = some fn) (hn : (fn.name == "runtime.NumGoroutine") = false) (hb : fn.body = some cf) (hs : HoldsSpec P f t tb)
    (hg : P.funcs[g]? = some fg) (hgn : (fg.name == "runtime.NumGoroutine") = false) (hgb : fg.body = some cg) (hE : EffC P g (df ++ dc) st0 (.ret d st1)) : EffC P f [.fn (.func g) df dc] st0 (.ret (.imm (.bool true)) st1) := by
  intro I μ w xs hst hxs
  obtain ⟨first, cap, rfl, hx⟩ := holds_args hxs
  rw [run_callFunc_body hf hn hb]
  have hheap : (w.alloc (.cells #[.bool false] tb)).heap = w.heap.push (.cells #[.bool false] tb (0, 0)) := rfl
  have hgrow : ∀ r, r < w.heap.size → (w.alloc (.cells #[.bool false] tb)).heap[r]? = w.heap[r]? := fun r hr => by rw [hheap]; simp [Array.getElem?_push, Nat.ne_of_lt hr]
  have hself : (w.alloc (.cells #[.bool false] tb)).heap[w.heap.size]? = some (.cells #[.bool false] tb (0, 0)) := by rw [hheap]; simp
  have hsize : (w.alloc (.cells #[.bool false] tb)).heap.size = w.heap.size + 1 := by rw [hheap]; simp
  have hlt : ∀ b o, I b = some o → b < w.heap.size := fun b o h => (Array.getElem?_eq_some_iff.1 (hst.imm b o h)).1
  have hst1 : StRep I μ st0 [] (w.alloc (.cells #[.bool false] tb)) := hst.other (by omega) (fun b o h => hgrow b (hlt b o h)) (fun b h => hgrow b (owned_lt hst h))
  have hno : ¬ owned μ st0 w.heap.size := fun h => absurd (owned_lt hst h) (Nat.lt_irrefl _)
  have hIn : I w.heap.size = none := by
    cases h : I w.heap.size with
    | none => rfl
    | some o => exact absurd (hlt _ o h) (Nat.lt_irrefl _)
  have hcall := hE I μ _ (first ++ cap) hst1 hx
  have hrun := run_callFunc_body (w := w.alloc (.cells #[.bool false] tb)) hg hgn hgb (first ++ cap)
  rw [hrun] at hcall
  have hcall : Calls P g (first ++ cap) (w.alloc (.cells #[.bool false] tb)) (fun e w' => match e with
    | .returned u => ∃ I' μ', RepD I' μ' u d ∧ StRep I' μ' st1 [] w' ∧ Pin (nms st0) μ μ' ∧ Ext I μ st0 (w.alloc (.cells #[.bool false] tb)) I' μ' st1 w'
    | .panicked _ => False
    | .outgrown => False) := hcall
  have keep : ∀ w' I' μ', Ext I μ st0 (w.alloc (.cells #[.bool false] tb)) I' μ' st1 w' → w'.heap[w.heap.size]? = some (.cells #[.bool false] tb (0, 0)) := fun w' I' μ' he => (he.block _ (by omega) hno).trans hself
  show Calls P f _ w _
  refine Calls.mono (hs g first cap w (fun w' => ∃ I' μ', StRep I' μ' st1 [] w' ∧ Pin (nms st0) μ μ' ∧ Ext I μ st0 (w.alloc (.cells #[.bool false] tb)) I' μ' st1 w') (fun _ => False) hrun (Calls.mono hcall ?_) (fun w' ⟨I', μ', _, _, he⟩ => keep w' I' μ' he) (fun _ h => h.elim)) ?_
  · intro e w' he
    cases e with
    | returned u => obtain ⟨I', μ', _, h2, h3, h4⟩ := he; exact ⟨I', μ', h2, h3, h4⟩
    | panicked => exact he.elim
    | outgrown => exact he.elim
  · rintro e w2 (⟨rfl, w1, ⟨I', μ', h2, h3, h4⟩, rfl⟩ | ⟨_, _, hx, _⟩)
    · have hc := keep w1 I' μ' h4
      rw [setCell_block hc]
      have hI' : I' w.heap.size = none := (h4.old _ (by omega) hno).trans hIn
      have hno' : ¬ owned μ' st1 w.heap.size := fun h => hno (h4.fresh _ (by omega) h)
      have hsame : ∀ b, b ≠ w.heap.size → (w1.heap.setIfInBounds w.heap.size (.cells #[.bool true] tb (0, 0)))[b]? = w1.heap[b]? := fun b hb => Array.getElem?_setIfInBounds_ne (Ne.symm hb)
      refine ⟨I', μ', .imm _ _ (.bool true), ?_, h3, ?_⟩
      · exact h2.other (by simp) (fun b o h => hsame b fun e => by rw [e, hI'] at h; cases h) (fun b h => hsame b fun e => hno' (e ▸ h))
      · have hsz := h4.size
        exact { imm := h4.imm, os := h4.os, tape := h4.tape, output := h4.output, size := by simp; omega,
                block := fun b hb ho => (hsame b (by omega)).trans ((h4.block b (by omega) ho).trans (hgrow b hb)), fresh := fun b hb ho => h4.fresh b (by omega) ho, old := fun b hb ho => h4.old b (by omega) ho }
    · exact hx.elim

/-- It gives up: what it owned is lost. -/
theorem holds_no (hf : P.funcs[f]? = some fn) (hn : (fn.name == "runtime.NumGoroutine") = false) (hb : fn.body = some cf) (hs : HoldsSpec P f t tb)
    (hg : P.funcs[g]? = some fg) (hgn : (fg.name == "runtime.NumGoroutine") = false) (hgb : fg.body = some cg) (hE : EffC P g (df ++ dc) st0 (.pan (.iface t (.agg [])))) : EffC P f [.fn (.func g) df dc] st0 (.ret (.imm (.bool false)) []) := by
  intro I μ w xs hst hxs
  obtain ⟨first, cap, rfl, hx⟩ := holds_args hxs
  rw [run_callFunc_body hf hn hb]
  have hheap : (w.alloc (.cells #[.bool false] tb)).heap = w.heap.push (.cells #[.bool false] tb (0, 0)) := rfl
  have hgrow : ∀ r, r < w.heap.size → (w.alloc (.cells #[.bool false] tb)).heap[r]? = w.heap[r]? := fun r hr => by rw [hheap]; simp [Array.getElem?_push, Nat.ne_of_lt hr]
  have hself : (w.alloc (.cells #[.bool false] tb)).heap[w.heap.size]? = some (.cells #[.bool false] tb (0, 0)) := by rw [hheap]; simp
  have hsize : (w.alloc (.cells #[.bool false] tb)).heap.size = w.heap.size + 1 := by rw [hheap]; simp
  have hlt : ∀ b o, I b = some o → b < w.heap.size := fun b o h => (Array.getElem?_eq_some_iff.1 (hst.imm b o h)).1
  have hst1 : StRep I μ st0 [] (w.alloc (.cells #[.bool false] tb)) := hst.other (by omega) (fun b o h => hgrow b (hlt b o h)) (fun b h => hgrow b (owned_lt hst h))
  have hno : ¬ owned μ st0 w.heap.size := fun h => absurd (owned_lt hst h) (Nat.lt_irrefl _)
  have hIn : I w.heap.size = none := by
    cases h : I w.heap.size with
    | none => rfl
    | some o => exact absurd (hlt _ o h) (Nat.lt_irrefl _)
  have hcall := hE I μ _ (first ++ cap) hst1 hx
  have hrun := run_callFunc_body (w := w.alloc (.cells #[.bool false] tb)) hg hgn hgb (first ++ cap)
  rw [hrun] at hcall
  have hcall : Calls P g (first ++ cap) (w.alloc (.cells #[.bool false] tb)) (fun e w' => match e with
    | .returned _ => False
    | .panicked chain => panK (· = .iface t (.agg [])) I μ st0 (w.alloc (.cells #[.bool false] tb)) chain w'
    | .outgrown => False) := hcall
  have keep : ∀ w' I', Ext I μ st0 (w.alloc (.cells #[.bool false] tb)) I' μ [] w' → w'.heap[w.heap.size]? = some (.cells #[.bool false] tb (0, 0)) := fun w' I' he => (he.block _ (by omega) hno).trans hself
  show Calls P f _ w _
  refine Calls.mono (hs g first cap w (fun _ => False) (fun w' => ∃ I', I'.ok w' ∧ Ext I μ st0 (w.alloc (.cells #[.bool false] tb)) I' μ [] w') hrun (Calls.mono hcall ?_) (fun _ h => h.elim) (fun w' ⟨I', _, he⟩ => keep w' I' he)) ?_
  · intro e w' he
    cases e with
    | returned u => exact he.elim
    | panicked chain =>
      obtain ⟨v, x, I', h1, h2, h3, h4, h5⟩ := he
      subst h2
      cases h3 with
      | iface _ v' _ hv =>
        cases hv with
        | agg cs _ hl _ _ =>
          have : cs = #[] := Array.eq_empty_of_size_eq_zero (by simpa using hl)
          subst this
          exact ⟨h1, I', h4, h5⟩
    | outgrown => exact he.elim
  · rintro e w2 (⟨_, _, hx, _⟩ | ⟨rfl, w1, ⟨I', h2, h4⟩, rfl⟩)
    · exact hx.elim
    · have hc := keep w1 I' h4
      rw [setCell_block hc]
      have hI' : I' w.heap.size = none := (h4.old _ (by omega) hno).trans hIn
      have hsz := h4.size
      have hsame : ∀ b, b ≠ w.heap.size → b < w1.heap.size → (({ w1 with heap := w1.heap.setIfInBounds w.heap.size (.cells #[.bool false] tb (0, 0)) } : World).alloc (.cells #[] t)).heap[b]? = w1.heap[b]? := fun b hb hlt => by
        show ((w1.heap.setIfInBounds w.heap.size _).push _)[b]? = _
        rw [Array.getElem?_push, if_neg (by simp; omega)]
        exact Array.getElem?_setIfInBounds_ne (Ne.symm hb)
      refine ⟨I', μ, .imm _ _ (.bool false), ?_, Pin.refl _ _, ?_⟩
      · exact { imm := fun b o h => (hsame b (fun e => by rw [e, hI'] at h; cases h) (Array.getElem?_eq_some_iff.1 (h2 b o h)).1).trans (h2 b o h), blk := fun id blk hl => (by cases hl), apart := fun id blk g b hl => (by cases hl), inj := fun i j bi bj gi gj b hl => (by cases hl), nodup := .nil, idsFree := fun id hi => (by cases hi) }
      · exact { imm := h4.imm, os := h4.os, tape := h4.tape, output := h4.output, size := by show w.heap.size ≤ ((w1.heap.setIfInBounds w.heap.size _).push _).size; simp; omega,
                block := fun b hb ho => (hsame b (by omega) (by omega)).trans ((h4.block b (by omega) ho).trans (hgrow b hb)), fresh := fun b hb ho => h4.fresh b (by omega) ho, old := fun b hb ho => h4.old b (by omega) ho }

end
end Go.Hk

/- A panic of the text's own. -/
namespace Go.Hk

section
variable {P : Program} {n : Nat} {F : List Nat} {Q : DQ} {env : Env} {st : St} {ids : List Nat} {k : List DI}

theorem dgo_panic {all rest : List Oper} {o : Oper} {x : Operand} {t : TypeId} {v : V} (hg : o.guard = none) (ho : o.op = .panic x) (hx : evO env x = some (.imm (.iface t v))) (hq : panQ Q (.iface t v)) : DGo P n F Q (.ops all (o :: rest) :: k) env st ids := by
  intro b cs I μ a w items hd hc
  obtain ⟨j, is, rfl, hr, hk⟩ := den_ops hd
  obtain ⟨hj, _⟩ := get_of_drop hr
  have hlen : (o :: rest).length = rest.length + 1 := rfl
  rw [hlen, List.range'_succ]
  refine reach_op hj (wanted_none hg) (fun c hc => by rw [ho] at hc; cases hc) ?_
  have hon : EnvOn (o.looksAt all.toArray) I μ env a := fun t _ d hl => hc.env t d hl
  have hxr := opsOn_of hon x (by rw [ho]; simp [Op.operands]) _ hx
  obtain ⟨u, hu, hur⟩ : ∃ u, a.eval x = .iface t u ∧ RepV I (.iface t u) (.iface t v) := by
    have := hxr.immInv
    generalize a.eval x = y at this
    cases this with
    | iface _ u _ h => exact ⟨u, rfl, .iface t u v h⟩
  have hrun : (execOp a.eval o).run P w = .halt (.panic (.iface t u)) w := by simp [execOp, ho, hu, Instr.panic, goPanic]
  rw [hrun]
  refine ⟨.panic (.iface t v), [], [], [], I, μ, ⟨_, rfl, hur⟩, hq, conc_nil hc.imm hc.size hc.defers, .refl _ _, ?_⟩
  exact { imm := Imm.le_refl I, os := rfl, tape := rfl, output := rfl, size := Nat.le_refl _, block := fun _ _ _ => rfl, fresh := fun b hb ⟨i, bi, g, h1, _⟩ => by simp [live, lk] at h1, old := fun _ _ _ => rfl }

end

/-- What stands in an argument is formed. -/
theorem effC_ok {P : Program} {f : FuncId} {ds : List D} {st : St} {out : Out} (j : Nat) {x : V} (hj : ds[j]? = some (.imm x)) (h : vOk x → EffC P f ds st out) : EffC P f ds st out := by
  intro I μ w xs hst hx
  have hlt : j < xs.toList.length := by rw [hx.1]; exact (List.getElem?_eq_some_iff.1 hj).1
  exact h (hx.2 j _ (.imm x) (List.getElem?_eq_getElem hlt) hj).immInv.ok I μ w xs hst hx

end Go.Hk

/- Contracts of term: what gives up, and what counts. -/
namespace Go.Hk
open Go.Proofs

/-- What is given up with. -/
def flawV : V := .iface 173 (.agg [])

def ttT : TT := ttK ++ [
  (173, ⟨.struct [], true, 0, 0, []⟩),
  (101, ⟨.struct [(0, 3), (1, 3)], true, 2, 16, [.imm (.int .i64 0), .imm (.int .i64 0)]⟩),
  (1, ⟨.func, false, 1, 8, [.imm .nilfn]⟩)]
theorem ttT_ok : TTok Tryz.prog ttT := .of_eq (l := [4, 3, 9, 26, 53, 49, 22, 24, 5, 51, 50, 29, 23, 47, 113, 66, 150, 63, 64, 111, 109, 30, 173, 101, 1]) (by kernel_rfl)

section
variable {n : Nat} {F : List Nat} {Q : DQ} {env env' : Env} {st st' : St} {ids ids' : List Nat} {k todo : List DI} {ob : List Prop}
theorem td (path : List Pt) (h : run ttT n 300 path todo env st ids [] = .at k env' st' ids' ob) (hob : allP ob) (hd : G Tryz.prog n F Q k env' st' ids') : DGo Tryz.prog n F Q todo env st ids := d_run ttT_ok mixed 300 path h hob hd
theorem tg (path : List Pt) (h : run ttT n 300 path todo env st ids [] = .at k env' st' ids' ob) (hob : allP ob) (hd : G Tryz.prog n F Q k env' st' ids') : G Tryz.prog n F Q todo env st ids := g_run ttT_ok mixed 300 path h hob hd
theorem ti {es : List (List V)} {m : Int} {sz : Nat} {e : TypeId} {g : Option (Bool × Bool)} {ob : List Prop} {t : Nat} {todo' : List DI} {c : List V} (h : pidx ttT n env todo = some ⟨es, m, sz, e, g, ob, some t, todo'⟩)
    (hc : cxOf g → 0 ≤ m ∧ es[m.toNat]? = some c ∧ c.length = sz) (hob : allP ob) (hk : G Tryz.prog n F Q todo' ((t, gD g (.ip e c 0)) :: env) st ids) : G Tryz.prog n F Q todo env st ids := g_index ttT_ok h hc hob hk
end

set_option maxRecDepth 100000 in
theorem want_yes : PureC Tryz.prog 103 [.bool true] (.tup []) := by
  refine effc_of ttT_ok Tryz.func103 (by decide +kernel) rfl [1, 2] rfl rfl ?_
  refine tg [.a] rfl (by simp) ?_
  exact dgo_end ⟨_, rfl, rfl, trivial⟩

set_option maxRecDepth 100000 in
theorem want_no : EffC Tryz.prog 103 [.imm (.bool false)] [] (.pan flawV) := by
  refine effc_of ttT_ok Tryz.func103 (by decide +kernel) rfl [1, 2] rfl rfl ?_
  refine tg [.a] rfl (by simp) ?_
  exact dgo_panic rfl rfl rfl rfl

end Go.Hk

/- Contracts of term: the gauge. -/
namespace Go.Hk
open Go.Proofs

set_option maxRecDepth 100000 in
theorem want_ok (b : Bool) (h : b = true) : PureC Tryz.prog 103 [.bool b] (.tup []) := by subst h; exact want_yes
set_option maxRecDepth 100000 in
theorem want_pan (b : Bool) (h : b = false) : EffC Tryz.prog 103 [.imm (.bool b)] [] (.pan flawV) := by subst h; exact want_no

def gaugeB (a b : Int) : Blk := .immb 101 2 [.int .i64 a, .int .i64 b]

set_option maxRecDepth 100000 in
theorem spend_yes (n d x : Int) (h0 : 1 ≤ n) (h1 : n ≤ 4611686018427387904) (hx : x ≤ d) : EffC Tryz.prog 101 [.ref 1 0, .imm (.int .i64 x)] [(1, some (gaugeB n d))] (.ret (.imm (.tup [])) [(1, some (gaugeB (n - 1) d))]) := by
  have hw : IntKind.i64.wrap (n - 1) = n - 1 := w64 (by omega) (by omega)
  refine effc_of ttT_ok Tryz.func101 (by decide +kernel) rfl [2, 3] rfl rfl ?_
  refine tg [] rfl (by simp) ?_
  refine g_pcall rfl (fun _ => want_ok _ (by simp [hw]; omega)) (by simp) ?_
  refine tg [] rfl (by simp) ?_
  refine dgo_end ⟨_, rfl, rfl, ?_⟩
  simp only [hw]
  exact ⟨rfl, trivial⟩

set_option maxRecDepth 100000 in
theorem spend_no (n d x : Int) (h0 : -1 ≤ n) (h1 : n ≤ 4611686018427387904) (hx : n < 1 ∨ d < x) : EffC Tryz.prog 101 [.ref 1 0, .imm (.int .i64 x)] [(1, some (gaugeB n d))] (.pan flawV) := by
  have hw : IntKind.i64.wrap (n - 1) = n - 1 := w64 (by omega) (by omega)
  refine effc_of ttT_ok Tryz.func101 (by decide +kernel) rfl [2, 3] rfl rfl ?_
  refine tg [] rfl (by simp) ?_
  exact dgo_callpan [] rfl (by simp) (want_pan _ (by simp [hw]; omega)) trivial rfl rfl

theorem nodesTys_drop {ps : List Ty} {i : Nat} {t : Ty} (h : ps[i]? = some t) : nodesTys (ps.drop i) = nodesTy t + nodesTys (ps.drop (i + 1)) := by rw [get_drop h]; rfl

set_option maxRecDepth 100000 in
theorem gkind_yes : ∀ (t : Ty) (n : Int), (nodesTy t : Int) ≤ n → n ≤ 4611686018427387904 → EffC Tryz.prog 106 [.ref 1 0, .imm (.agg (dTyc t))] [(1, some (gaugeB n 0))] (.ret (.imm (.tup [])) [(1, some (gaugeB (n - nodesTy t) 0))])
  | .mk s m x ps, n, h0, h1 => by
    refine effC_ok 1 rfl fun hok => ?_
    have hv : ps.length ≤ 9223372036854775807 := by
      simp [vOkL, vOk, dTyc, maxLen] at hok
      have := hok.1
      omega
    refine effc_of ttT_ok Tryz.func106 (by decide +kernel) rfl [2, 3, 4] rfl rfl ?_
    have hN : (1 : Int) + nodesTys ps ≤ n := by simp only [nodesTy] at h0; omega
    refine tg [] rfl (by simp) ?_
    refine g_call (fr := []) [(1, 1)] [] rfl (by simp) (spend_yes n 0 0 (by omega) h1 (by decide)) ⟨⟨rfl, rfl, rfl⟩, trivial⟩ rfl rfl rfl rfl ?_
    refine tg [] rfl (by simp) ?_
    refine dgo_enter (fun i : Nat => [(11, .imm (.int .i64 i)), (10, .imm (.int .i64 ps.length)), (9, .imm (.sl (dTys ps))), (0, .ref 1 0)]) (fun i => [(1, some (gaugeB (n - 1 - nodesTys (ps.take i)) 0))]) [2, 3, 4] (fun i => ps.length - i)
      (fun i => i ≤ ps.length) 0 (Nat.zero_le _) ⟨rfl, tInt (by simp), rfl, rfl, trivial⟩ ⟨by simp [nodesTys]; rfl, trivial⟩ rfl fun i hi ih => ?_
    refine td [] rfl (by simp) ?_
    refine dgo_cond rfl (fun h => ?_) (fun h => ?_)
    · simp at h
      obtain ⟨t, ht⟩ := has_get h
      have hnt := nodesTys_get ht
      have hnd := nodesTys_drop ht
      have htk : (nodesTys (ps.take (i + 1)) : Int) = nodesTys (ps.take i) + nodesTy t := by rw [get_take ht, nodesTys_append]; simp [nodesTys]
      refine td [] rfl (by simp) ?_
      refine ti rfl (c := dTyc t) (fun _ => ⟨by simp, by simpa using dTys_get ht, by simp⟩) (by simp) ?_
      refine tg [] rfl (by simp) ?_
      refine g_call (fr := []) [(1, 1)] [] rfl (by simp) (gkind_yes t (n - 1 - nodesTys (ps.take i)) (by omega) (by omega)) ⟨⟨rfl, rfl, rfl⟩, trivial⟩ rfl rfl rfl rfl ?_
      refine tg [] rfl (by simp) ?_
      exact dgo_again (ih (i + 1) (by omega) (by omega)) ⟨tInt (w64 (by omega) (by omega)), rfl, rfl, rfl, trivial⟩ ⟨congrArg (fun z => gaugeB z 0) (by omega), trivial⟩ rfl
    · refine td [] rfl (by simp) ?_
      simp at h
      refine dgo_end ⟨_, rfl, rfl, ⟨?_, trivial⟩⟩
      rw [List.take_of_length_le (by omega)]
      simp only [nodesTy]
      exact congrArg (fun z => some (some (gaugeB z 0))) (by omega)
termination_by t => SizeOf.sizeOf t
decreasing_by
  all_goals
    have := List.sizeOf_lt_of_mem (List.mem_of_getElem? ht)
    simp_wf
    omega


set_option maxRecDepth 100000 in
theorem gkind_no : ∀ (t : Ty) (n : Int), n < nodesTy t → -1 ≤ n → n ≤ 4611686018427387904 → EffC Tryz.prog 106 [.ref 1 0, .imm (.agg (dTyc t))] [(1, some (gaugeB n 0))] (.pan flawV)
  | .mk s m x ps, n, h0, hm1, h1 => by
    refine effC_ok 1 rfl fun hok => ?_
    have hv : ps.length ≤ 9223372036854775807 := by
      simp [vOkL, vOk, dTyc, maxLen] at hok
      have := hok.1
      omega
    refine effc_of ttT_ok Tryz.func106 (by decide +kernel) rfl [2, 3, 4] rfl rfl ?_
    have hN : n < (1 : Int) + nodesTys ps := by simp only [nodesTy] at h0; omega
    refine tg [] rfl (by simp) ?_
    by_cases hn : n < 1
    · exact dgo_callpan [(1, 1)] rfl (by simp) (spend_no n 0 0 (by omega) h1 (.inl hn)) ⟨⟨rfl, rfl, rfl⟩, trivial⟩ rfl rfl
    refine g_call (fr := []) [(1, 1)] [] rfl (by simp) (spend_yes n 0 0 (by omega) h1 (by decide)) ⟨⟨rfl, rfl, rfl⟩, trivial⟩ rfl rfl rfl rfl ?_
    refine tg [] rfl (by simp) ?_
    refine dgo_enter (fun i : Nat => [(11, .imm (.int .i64 i)), (10, .imm (.int .i64 ps.length)), (9, .imm (.sl (dTys ps))), (0, .ref 1 0)]) (fun i => [(1, some (gaugeB (n - 1 - nodesTys (ps.take i)) 0))]) [2, 3, 4] (fun i => ps.length - i)
      (fun i => i ≤ ps.length ∧ (nodesTys (ps.take i) : Int) ≤ n - 1 ∧ n - 1 < nodesTys (ps.take i) + nodesTys (ps.drop i)) 0 ⟨Nat.zero_le _, by simp [nodesTys]; omega, by simp [nodesTys]; omega⟩ ⟨rfl, tInt (by simp), rfl, rfl, trivial⟩ ⟨by simp [nodesTys]; rfl, trivial⟩ rfl fun i hi ih => ?_
    refine td [] rfl (by simp) ?_
    refine dgo_cond rfl (fun h => ?_) (fun h => ?_)
    · simp at h
      obtain ⟨t, ht⟩ := has_get h
      have hnt := nodesTys_get ht
      have hnd := nodesTys_drop ht
      have htk : (nodesTys (ps.take (i + 1)) : Int) = nodesTys (ps.take i) + nodesTy t := by rw [get_take ht, nodesTys_append]; simp [nodesTys]
      refine td [] rfl (by simp) ?_
      refine ti rfl (c := dTyc t) (fun _ => ⟨by simp, by simpa using dTys_get ht, by simp⟩) (by simp) ?_
      refine tg [] rfl (by simp) ?_
      by_cases hle : (nodesTy t : Int) ≤ n - 1 - nodesTys (ps.take i)
      · refine g_call (fr := []) [(1, 1)] [] rfl (by simp) (gkind_yes t (n - 1 - nodesTys (ps.take i)) (by omega) (by omega)) ⟨⟨rfl, rfl, rfl⟩, trivial⟩ rfl rfl rfl rfl ?_
        refine tg [] rfl (by simp) ?_
        exact dgo_again (ih (i + 1) (by omega) ⟨by omega, by omega, by omega⟩) ⟨tInt (w64 (by omega) (by omega)), rfl, rfl, rfl, trivial⟩ ⟨congrArg (fun z => gaugeB z 0) (by omega), trivial⟩ rfl
      · exact dgo_callpan [(1, 1)] rfl (by simp) (gkind_no t (n - 1 - nodesTys (ps.take i)) (by omega) (by omega) (by omega)) ⟨⟨rfl, rfl, rfl⟩, trivial⟩ rfl rfl
    · exfalso
      simp at h
      have := hi.2
      rw [List.take_of_length_le (by omega), List.drop_eq_nil_of_le (by omega)] at this
      simp [nodesTys] at this
      omega
termination_by t => SizeOf.sizeOf t
decreasing_by
  all_goals
    have := List.sizeOf_lt_of_mem (List.mem_of_getElem? ht)
    simp_wf
    omega


set_option maxRecDepth 100000 in
theorem gpat_yes : ∀ (t : Ty) (n : Int), (nodesTy t : Int) ≤ n → n ≤ 4611686018427387904 → EffC Tryz.prog 71 [.ref 1 0, .imm (.agg (dTyc t))] [(1, some (gaugeB n 0))] (.ret (.imm (.tup [])) [(1, some (gaugeB (n - nodesTy t) 0))])
  | .mk s m x ps, n, h0, h1 => by
    refine effC_ok 1 rfl fun hok => ?_
    have hv : ps.length ≤ 9223372036854775807 := by
      simp [vOkL, vOk, dTyc, maxLen] at hok
      have := hok.1
      omega
    refine effc_of ttT_ok Tryz.func71 (by decide +kernel) rfl [2, 3, 4] rfl rfl ?_
    have hN : (1 : Int) + nodesTys ps ≤ n := by simp only [nodesTy] at h0; omega
    refine tg [] rfl (by simp) ?_
    refine g_call (fr := []) [(1, 1)] [] rfl (by simp) (spend_yes n 0 0 (by omega) h1 (by decide)) ⟨⟨rfl, rfl, rfl⟩, trivial⟩ rfl rfl rfl rfl ?_
    refine tg [] rfl (by simp) ?_
    refine dgo_enter (fun i : Nat => [(11, .imm (.int .i64 i)), (10, .imm (.int .i64 ps.length)), (9, .imm (.sl (dTys ps))), (0, .ref 1 0)]) (fun i => [(1, some (gaugeB (n - 1 - nodesTys (ps.take i)) 0))]) [2, 3, 4] (fun i => ps.length - i)
      (fun i => i ≤ ps.length) 0 (Nat.zero_le _) ⟨rfl, tInt (by simp), rfl, rfl, trivial⟩ ⟨by simp [nodesTys]; rfl, trivial⟩ rfl fun i hi ih => ?_
    refine td [] rfl (by simp) ?_
    refine dgo_cond rfl (fun h => ?_) (fun h => ?_)
    · simp at h
      obtain ⟨t, ht⟩ := has_get h
      have hnt := nodesTys_get ht
      have hnd := nodesTys_drop ht
      have htk : (nodesTys (ps.take (i + 1)) : Int) = nodesTys (ps.take i) + nodesTy t := by rw [get_take ht, nodesTys_append]; simp [nodesTys]
      refine td [] rfl (by simp) ?_
      refine ti rfl (c := dTyc t) (fun _ => ⟨by simp, by simpa using dTys_get ht, by simp⟩) (by simp) ?_
      refine tg [] rfl (by simp) ?_
      refine g_call (fr := []) [(1, 1)] [] rfl (by simp) (gpat_yes t (n - 1 - nodesTys (ps.take i)) (by omega) (by omega)) ⟨⟨rfl, rfl, rfl⟩, trivial⟩ rfl rfl rfl rfl ?_
      refine tg [] rfl (by simp) ?_
      exact dgo_again (ih (i + 1) (by omega) (by omega)) ⟨tInt (w64 (by omega) (by omega)), rfl, rfl, rfl, trivial⟩ ⟨congrArg (fun z => gaugeB z 0) (by omega), trivial⟩ rfl
    · refine td [] rfl (by simp) ?_
      simp at h
      refine dgo_end ⟨_, rfl, rfl, ⟨?_, trivial⟩⟩
      rw [List.take_of_length_le (by omega)]
      simp only [nodesTy]
      exact congrArg (fun z => some (some (gaugeB z 0))) (by omega)
termination_by t => SizeOf.sizeOf t
decreasing_by
  all_goals
    have := List.sizeOf_lt_of_mem (List.mem_of_getElem? ht)
    simp_wf
    omega


set_option maxRecDepth 100000 in
theorem gpat_no : ∀ (t : Ty) (n : Int), n < nodesTy t → -1 ≤ n → n ≤ 4611686018427387904 → EffC Tryz.prog 71 [.ref 1 0, .imm (.agg (dTyc t))] [(1, some (gaugeB n 0))] (.pan flawV)
  | .mk s m x ps, n, h0, hm1, h1 => by
    refine effC_ok 1 rfl fun hok => ?_
    have hv : ps.length ≤ 9223372036854775807 := by
      simp [vOkL, vOk, dTyc, maxLen] at hok
      have := hok.1
      omega
    refine effc_of ttT_ok Tryz.func71 (by decide +kernel) rfl [2, 3, 4] rfl rfl ?_
    have hN : n < (1 : Int) + nodesTys ps := by simp only [nodesTy] at h0; omega
    refine tg [] rfl (by simp) ?_
    by_cases hn : n < 1
    · exact dgo_callpan [(1, 1)] rfl (by simp) (spend_no n 0 0 (by omega) h1 (.inl hn)) ⟨⟨rfl, rfl, rfl⟩, trivial⟩ rfl rfl
    refine g_call (fr := []) [(1, 1)] [] rfl (by simp) (spend_yes n 0 0 (by omega) h1 (by decide)) ⟨⟨rfl, rfl, rfl⟩, trivial⟩ rfl rfl rfl rfl ?_
    refine tg [] rfl (by simp) ?_
    refine dgo_enter (fun i : Nat => [(11, .imm (.int .i64 i)), (10, .imm (.int .i64 ps.length)), (9, .imm (.sl (dTys ps))), (0, .ref 1 0)]) (fun i => [(1, some (gaugeB (n - 1 - nodesTys (ps.take i)) 0))]) [2, 3, 4] (fun i => ps.length - i)
      (fun i => i ≤ ps.length ∧ (nodesTys (ps.take i) : Int) ≤ n - 1 ∧ n - 1 < nodesTys (ps.take i) + nodesTys (ps.drop i)) 0 ⟨Nat.zero_le _, by simp [nodesTys]; omega, by simp [nodesTys]; omega⟩ ⟨rfl, tInt (by simp), rfl, rfl, trivial⟩ ⟨by simp [nodesTys]; rfl, trivial⟩ rfl fun i hi ih => ?_
    refine td [] rfl (by simp) ?_
    refine dgo_cond rfl (fun h => ?_) (fun h => ?_)
    · simp at h
      obtain ⟨t, ht⟩ := has_get h
      have hnt := nodesTys_get ht
      have hnd := nodesTys_drop ht
      have htk : (nodesTys (ps.take (i + 1)) : Int) = nodesTys (ps.take i) + nodesTy t := by rw [get_take ht, nodesTys_append]; simp [nodesTys]
      refine td [] rfl (by simp) ?_
      refine ti rfl (c := dTyc t) (fun _ => ⟨by simp, by simpa using dTys_get ht, by simp⟩) (by simp) ?_
      refine tg [] rfl (by simp) ?_
      by_cases hle : (nodesTy t : Int) ≤ n - 1 - nodesTys (ps.take i)
      · refine g_call (fr := []) [(1, 1)] [] rfl (by simp) (gpat_yes t (n - 1 - nodesTys (ps.take i)) (by omega) (by omega)) ⟨⟨rfl, rfl, rfl⟩, trivial⟩ rfl rfl rfl rfl ?_
        refine tg [] rfl (by simp) ?_
        exact dgo_again (ih (i + 1) (by omega) ⟨by omega, by omega, by omega⟩) ⟨tInt (w64 (by omega) (by omega)), rfl, rfl, rfl, trivial⟩ ⟨congrArg (fun z => gaugeB z 0) (by omega), trivial⟩ rfl
      · exact dgo_callpan [(1, 1)] rfl (by simp) (gpat_no t (n - 1 - nodesTys (ps.take i)) (by omega) (by omega) (by omega)) ⟨⟨rfl, rfl, rfl⟩, trivial⟩ rfl rfl
    · exfalso
      simp at h
      have := hi.2
      rw [List.take_of_length_le (by omega), List.drop_eq_nil_of_le (by omega)] at this
      simp [nodesTys] at this
      omega
termination_by t => SizeOf.sizeOf t
decreasing_by
  all_goals
    have := List.sizeOf_lt_of_mem (List.mem_of_getElem? ht)
    simp_wf
    omega


theorem weighTms_neg : ∀ (ts : List Tm) (l d : Int), l < 0 → weighTms ts l d < 0
  | [], l, d, h => h
  | t :: r, l, d, h => by simp only [weighTms]; rw [if_neg (by omega)]; exact h

set_option maxRecDepth 100000 in
theorem gterm_yes : ∀ (t : Tm) (n dp x : Int), 0 ≤ n → n ≤ 4611686018427387904 → 0 ≤ dp → dp ≤ 1000000 → 0 ≤ x → x ≤ 1000001 → 0 ≤ weighTm t n (dp - x + 1) → EffC Tryz.prog 68 [.ref 1 0, .imm (.agg (dTmc t)), .imm (.int .i64 x)] [(1, some (gaugeB n dp))] (.ret (.imm (.tup [])) [(1, some (gaugeB (weighTm t n (dp - x + 1)) dp))])
  | .mk op nn tx ks ps, n, dp, x, h0, h1, hd0, hd1, hx0, hx1, hw => by
    refine effC_ok 1 rfl fun hok => ?_
    have hv : ks.length ≤ 9223372036854775807 := by
      simp [vOkL, vOk, dTmc, maxLen] at hok
      have := hok.1
      omega
    refine effc_of ttT_ok Tryz.func68 (by decide +kernel) rfl [2, 3, 4] rfl rfl ?_
    have hst : ¬ (n < 1 ∨ dp - x + 1 < 1) → weighTm (.mk op nn tx ks ps) n (dp - x + 1) = weighTms ks (n - 1) (dp - x) := fun h => by
      simp only [weighTm]; rw [if_neg h]; congr 1; omega
    refine tg [] rfl (by simp) ?_
    by_cases hs : n < 1 ∨ dp - x + 1 < 1
    · exfalso
      simp only [weighTm] at hw
      rw [if_pos hs] at hw
      omega
    have hs' : 1 ≤ n ∧ x ≤ dp := by omega
    refine g_call (fr := []) [(1, 1)] [] rfl (by simp) (spend_yes n dp x (by omega) h1 (by omega)) ⟨⟨rfl, rfl, rfl⟩, trivial⟩ rfl rfl rfl rfl ?_
    refine tg [] rfl (by simp) ?_
    refine dgo_enter (fun y : Nat × Int => [(14, .imm (.int .i64 y.1)), (13, .imm (.int .i64 ks.length)), (12, .imm (.sl (dTms ks))), (0, .ref 1 0), (2, .imm (.int .i64 x))]) (fun y => [(1, some (gaugeB y.2 dp))]) [2, 3, 4] (fun y => ks.length - y.1)
      (fun y => y.1 ≤ ks.length ∧ weighTm (.mk op nn tx ks ps) n (dp - x + 1) = weighTms (ks.drop y.1) y.2 (dp - x) ∧ 0 ≤ y.2 ∧ y.2 ≤ n) (0, n - 1) ⟨Nat.zero_le _, by simp only [List.drop_zero]; exact hst hs, by simp only; omega, by simp only; omega⟩ ⟨rfl, tInt (by simp), rfl, rfl, rfl, trivial⟩ ⟨rfl, trivial⟩ rfl fun y hi ih => ?_
    obtain ⟨i, m⟩ := y
    obtain ⟨hi1, hi2, hi3, hi4⟩ := hi
    simp only at hi1 hi2 hi3 hi4
    refine td [] rfl (by simp) ?_
    refine dgo_cond rfl (fun h => ?_) (fun h => ?_)
    · simp at h
      obtain ⟨t, ht⟩ := has_get h
      rw [get_drop ht] at hi2
      simp only [weighTms] at hi2
      rw [if_pos hi3] at hi2
      have hb := weighTm_le t m (dp - x)
      have hx : IntKind.i64.wrap (x + 1) = x + 1 := w64 (by omega) (by omega)
      refine td [] rfl (by simp) ?_
      refine ti rfl (c := dTmc t) (fun _ => ⟨by simp, by simpa using dTms_get ht, by simp⟩) (by simp) ?_
      refine tg [] rfl (by simp) ?_
      have hdx : dp - (x + 1) + 1 = dp - x := by omega
      have hz : 0 ≤ weighTm t m (dp - x) := by
        rw [hi2] at hw
        rcases Int.lt_or_le (weighTm t m (dp - x)) 0 with hl | hl
        · exfalso
          have := weighTms_neg (ks.drop (i + 1)) (weighTm t m (dp - x)) (dp - x) hl
          omega
        · exact hl
      refine g_call (fr := []) [(1, 1)] [] rfl (by simp) (gterm_yes t m dp (IntKind.i64.wrap (x + 1)) hi3 (by omega) hd0 hd1 (by omega) (by omega) (by rw [hx, hdx]; exact hz)) ⟨⟨rfl, rfl, rfl⟩, trivial⟩ rfl rfl rfl rfl ?_
      refine tg [] rfl (by simp) ?_
      exact dgo_again (ih (i + 1, weighTm t m (dp - x)) (by simp only; omega) ⟨by simp only; omega, hi2, by simp only; exact hz, by simp only; omega⟩) ⟨tInt (w64 (by omega) (by omega)), rfl, rfl, rfl, rfl, trivial⟩ ⟨congrArg (fun z => gaugeB z dp) (by simp only [hx, hdx]), trivial⟩ rfl
    · refine td [] rfl (by simp) ?_
      simp at h
      refine dgo_end ⟨_, rfl, rfl, ⟨?_, trivial⟩⟩
      rw [List.drop_eq_nil_of_le (by omega)] at hi2
      simp only [weighTms] at hi2
      rw [hi2]
      rfl
termination_by t => SizeOf.sizeOf t
decreasing_by
  all_goals
    have := List.sizeOf_lt_of_mem (List.mem_of_getElem? ht)
    simp_wf
    omega

set_option maxRecDepth 100000 in
theorem gterm_no : ∀ (t : Tm) (n dp x : Int), 0 ≤ n → n ≤ 4611686018427387904 → 0 ≤ dp → dp ≤ 1000000 → 0 ≤ x → x ≤ 1000001 → weighTm t n (dp - x + 1) < 0 → EffC Tryz.prog 68 [.ref 1 0, .imm (.agg (dTmc t)), .imm (.int .i64 x)] [(1, some (gaugeB n dp))] (.pan flawV)
  | .mk op nn tx ks ps, n, dp, x, h0, h1, hd0, hd1, hx0, hx1, hw => by
    refine effC_ok 1 rfl fun hok => ?_
    have hv : ks.length ≤ 9223372036854775807 := by
      simp [vOkL, vOk, dTmc, maxLen] at hok
      have := hok.1
      omega
    refine effc_of ttT_ok Tryz.func68 (by decide +kernel) rfl [2, 3, 4] rfl rfl ?_
    have hst : ¬ (n < 1 ∨ dp - x + 1 < 1) → weighTm (.mk op nn tx ks ps) n (dp - x + 1) = weighTms ks (n - 1) (dp - x) := fun h => by
      simp only [weighTm]; rw [if_neg h]; congr 1; omega
    refine tg [] rfl (by simp) ?_
    by_cases hs : n < 1 ∨ dp - x + 1 < 1
    · exact dgo_callpan [(1, 1)] rfl (by simp) (spend_no n dp x (by omega) h1 (by omega)) ⟨⟨rfl, rfl, rfl⟩, trivial⟩ rfl rfl
    have hs' : 1 ≤ n ∧ x ≤ dp := by omega
    refine g_call (fr := []) [(1, 1)] [] rfl (by simp) (spend_yes n dp x (by omega) h1 (by omega)) ⟨⟨rfl, rfl, rfl⟩, trivial⟩ rfl rfl rfl rfl ?_
    refine tg [] rfl (by simp) ?_
    refine dgo_enter (fun y : Nat × Int => [(14, .imm (.int .i64 y.1)), (13, .imm (.int .i64 ks.length)), (12, .imm (.sl (dTms ks))), (0, .ref 1 0), (2, .imm (.int .i64 x))]) (fun y => [(1, some (gaugeB y.2 dp))]) [2, 3, 4] (fun y => ks.length - y.1)
      (fun y => y.1 ≤ ks.length ∧ weighTm (.mk op nn tx ks ps) n (dp - x + 1) = weighTms (ks.drop y.1) y.2 (dp - x) ∧ 0 ≤ y.2 ∧ y.2 ≤ n) (0, n - 1) ⟨Nat.zero_le _, by simp only [List.drop_zero]; exact hst hs, by simp only; omega, by simp only; omega⟩ ⟨rfl, tInt (by simp), rfl, rfl, rfl, trivial⟩ ⟨rfl, trivial⟩ rfl fun y hi ih => ?_
    obtain ⟨i, m⟩ := y
    obtain ⟨hi1, hi2, hi3, hi4⟩ := hi
    simp only at hi1 hi2 hi3 hi4
    refine td [] rfl (by simp) ?_
    refine dgo_cond rfl (fun h => ?_) (fun h => ?_)
    · simp at h
      obtain ⟨t, ht⟩ := has_get h
      rw [get_drop ht] at hi2
      simp only [weighTms] at hi2
      rw [if_pos hi3] at hi2
      have hb := weighTm_le t m (dp - x)
      have hx : IntKind.i64.wrap (x + 1) = x + 1 := w64 (by omega) (by omega)
      refine td [] rfl (by simp) ?_
      refine ti rfl (c := dTmc t) (fun _ => ⟨by simp, by simpa using dTms_get ht, by simp⟩) (by simp) ?_
      refine tg [] rfl (by simp) ?_
      have hdx : dp - (x + 1) + 1 = dp - x := by omega
      by_cases hz : 0 ≤ weighTm t m (dp - x)
      · refine g_call (fr := []) [(1, 1)] [] rfl (by simp) (gterm_yes t m dp (IntKind.i64.wrap (x + 1)) hi3 (by omega) hd0 hd1 (by omega) (by omega) (by rw [hx, hdx]; exact hz)) ⟨⟨rfl, rfl, rfl⟩, trivial⟩ rfl rfl rfl rfl ?_
        refine tg [] rfl (by simp) ?_
        exact dgo_again (ih (i + 1, weighTm t m (dp - x)) (by simp only; omega) ⟨by simp only; omega, hi2, by simp only; exact hz, by simp only; omega⟩) ⟨tInt (w64 (by omega) (by omega)), rfl, rfl, rfl, rfl, trivial⟩ ⟨congrArg (fun z => gaugeB z dp) (by simp only [hx, hdx]), trivial⟩ rfl
      · exact dgo_callpan [(1, 1)] rfl (by simp) (gterm_no t m dp (IntKind.i64.wrap (x + 1)) hi3 (by omega) hd0 hd1 (by omega) (by omega) (by rw [hx, hdx]; omega)) ⟨⟨rfl, rfl, rfl⟩, trivial⟩ rfl rfl
    · exfalso
      simp at h
      rw [List.drop_eq_nil_of_le (by omega)] at hi2
      simp only [weighTms] at hi2
      omega
termination_by t => SizeOf.sizeOf t
decreasing_by
  all_goals
    have := List.sizeOf_lt_of_mem (List.mem_of_getElem? ht)
    simp_wf
    omega

end Go.Hk

/- Strings that are gone through, rune by rune; maps that are owned. -/
namespace Go.Hk

structure PRng where
  s : List UInt8
  id' : Nat
  ids' : List Nat
  dst : Option Nat
  todo : List DI

/-- A string is gone through: the iterator. -/
def prng (tt : TT) (n : Nat) (env : Env) (ids : List Nat) (todo : List DI) : Option PRng :=
  match opAt todo, ids with
  | some o, id' :: ids' => match o.guard, o.op with
    | none, .range t x => match lk tt t, evO env x, dstOk n o.dst, next1 todo ([], [id']) with
      | some { sh := .str, .. }, some (.imm (.str s)), true, some (_, _, todo') => some ⟨s, id', ids', o.dst, todo'⟩
      | _, _, _, _ => none
    | _, _ => none
  | _, _ => none

structure PNxt where
  s : List UInt8
  pos : Nat
  id : Nat
  dst : Option Nat
  todo : List DI

def pnxt (n : Nat) (env : Env) (st : St) (wr : Bool) (todo : List DI) : Option PNxt :=
  match opAt todo with
  | some o => match o.guard, o.op with
    | none, .next x true => match evO env x, dstOk n o.dst with
      | some (.iter id), true => match lk st id, next1 todo ([id], bif wr then [id] else []) with
        | some (some (.siter s pos)), some (_, _, todo') => some ⟨s, pos, id, o.dst, todo'⟩
        | _, _ => none
      | _, _ => none
    | _, _ => none
  | none => none

def decodeL (s : List UInt8) (pos : Nat) : Nat × Nat := Utf8.decode ⟨s.toArray⟩ pos

section
variable {P : Program} {n : Nat} {F : List Nat} {Q : DQ} {tt : TT} {env env' : Env} {st st' : St} {ids ids' : List Nat} {k todo todo' : List DI} {I : Imm} {μ : Mu} {w : World} {a : Act} {Pn : V → Prop} {d : D} {cx : Prop} {ob : List Prop}

theorem ok_of_sem' {s : Sem Value} {v : Value} {w' : World} (h : s.run P w = .ok v w') : (do pure (.value (← s)) : Sem Next).run P w = .ok (.value v) w' := by simp [h]

theorem RepD.iterInv {v : Value} {id : Nat} (h : RepD I μ v (.iter id)) : ∃ b, v = .pointer (some ⟨b, 0, none⟩) ∧ μ id = some v := by
  cases h with
  | iter _ b h => exact ⟨b, rfl, h⟩

theorem g_srange (htt : TTok P tt) {s0 : List UInt8} {i0 : Nat} {ids0 : List Nat} {d0 : Option Nat} {todo0 : List DI} (h : prng tt n env ids todo = some ⟨s0, i0, ids0, d0, todo0⟩) (hk : G P n F Q todo0 (putE d0 (.iter i0) env) ((i0, some (.siter s0 0)) :: st) ids0) : G P n F Q todo env st ids := by
  unfold prng at h
  split at h
  · rename_i o id' ids' ho
    split at h
    · rename_i t x hg hop
      split at h
      · rename_i _ _ _ _ s all o' todo' ht hx hd h1
        cases h
        have ho' : o' = o := opAt_next ho h1
        subst ho'
        refine g_step (fr := [i0]) (wr := [(i0, some (.siter s0 0))]) (rd := []) h1 ?_ hd (fun c hc => by rw [hop] at hc; cases hc) hk
        intro I μ st1 ids1 a w hag hst hon
        refine ⟨fun _ => ?_, fun hw => by rw [wanted_none hg] at hw; cases hw⟩
        have hops := opsOn_of hon
        rw [hop] at hops
        obtain ⟨bs, e1, e2⟩ := (hops x (by simp [Op.operands]) _ hx).immInv.strInv
        have hu : P.underlying t = some .string := htt.sh ht
        have hrun : (execOp a.eval o').run P w = .ok (.value (.pointer (some ⟨w.heap.size, 0, none⟩))) (w.alloc (.stringIter bs 0)) := by
          simp only [execOp, hop, e1]
          refine ok_of_sem' ?_
          simp only [Instr.range, Sem.run_bind, run_underlying hu, Result.andThen_ok, Sem.run_pure, run_newObj]
          rfl
        rw [hrun]
        obtain ⟨μ', q1, q2, q3, q4⟩ := hst.allocO (.stringIter bs 0) (.pointer (some ⟨w.heap.size, 0, none⟩)) rfl (.siter s0 0) (fun μ' _ => ⟨w.heap.size, bs, rfl, heap_alloc_new w _, e2⟩)
        exact ⟨I, μ', q3, .iter _ _ q1, q2, q4⟩
      · cases h
    · cases h
  · cases h

theorem siter_run {id pos : Nat} {s : List UInt8} {v : Value} (hst : StRep I μ st ids w) (hl : live st id (.siter s pos)) (hv : RepD I μ v (.iter id)) :
    ∃ b, v = .pointer (some ⟨b, 0, none⟩) ∧ μ id = some v ∧ w.heap[b]? = some (.stringIter ⟨s.toArray⟩ pos) := by
  obtain ⟨b, rfl, hm⟩ := hv.iterInv
  obtain ⟨g, hg, b', bs, rfl, hheap, hs⟩ := hst.blk id _ hl
  rw [hm] at hg; cases hg
  refine ⟨b, rfl, hm, ?_⟩
  rw [hheap, ← hs]

theorem g_snext {s0 : List UInt8} {p0 i0 : Nat} {d0 : Option Nat} {todo0 : List DI} (h : pnxt n env st true todo = some ⟨s0, p0, i0, d0, todo0⟩) (hp : p0 < s0.length) {dc : Nat × Nat} (hdc : decodeL s0 p0 = dc)
    (hk : G P n F Q todo0 (putE d0 (.imm (.tup [.bool true, .int .i64 p0, .int .i32 dc.1])) env) ((i0, some (.siter s0 (p0 + dc.2))) :: st) ids) : G P n F Q todo env st ids := by
  subst hdc
  unfold pnxt at h
  split at h
  · rename_i o ho
    split at h
    · rename_i x hg hop
      split at h
      · rename_i id hx hd
        split at h
        · rename_i s pos all o' todo' hl h1
          cases h
          have ho' : o' = o := opAt_next ho h1
          subst ho'
          refine g_step (fr := []) (wr := [(i0, some (.siter s0 (p0 + (decodeL s0 p0).2)))]) (rd := [i0]) h1 ?_ hd (fun c hc => by rw [hop] at hc; cases hc) hk
          intro I μ st1 ids1 a w hag hst hon
          refine ⟨fun _ => ?_, fun hw => by rw [wanted_none hg] at hw; cases hw⟩
          have hops := opsOn_of hon
          rw [hop] at hops
          have hl1 : live st1 i0 (.siter s0 p0) := by unfold live; rw [hag i0 (by simp)]; exact hl
          obtain ⟨b, e1, hm, hheap⟩ := siter_run hst hl1 (hops x (by simp [Op.operands]) _ hx)
          have hget : (getObj b).run P w = .ok (.stringIter ⟨s0.toArray⟩ p0) w := by simp [getObj, Sem.run, hheap]
          have hset : (setObj b (.stringIter ⟨s0.toArray⟩ (p0 + (decodeL s0 p0).2))).run P w = .ok () { w with heap := w.heap.setIfInBounds b (.stringIter ⟨s0.toArray⟩ (p0 + (decodeL s0 p0).2)) } := by simp [setObj, Sem.run, hheap]
          have hlt : p0 < (ByteArray.mk s0.toArray).size := by simpa [ByteArray.size] using hp
          have hrun : (execOp a.eval o').run P w = .ok (.value (.tuple #[.bool true, .int .i64 p0, .int .i32 (decodeL s0 p0).1])) { w with heap := w.heap.setIfInBounds b (.stringIter ⟨s0.toArray⟩ (p0 + (decodeL s0 p0).2)) } := by
            simp only [execOp, hop, e1]
            refine ok_of_sem' ?_
            simp only [Instr.next, Sem.run_bind, hget, Result.andThen_ok, if_pos hlt]
            have : (setObj b (.stringIter ⟨s0.toArray⟩ (p0 + (Utf8.decode ⟨s0.toArray⟩ p0).2))).run P w = _ := hset
            simp only [Sem.run_bind, this, Result.andThen_ok, Sem.run_pure]
            rfl
          rw [hrun]
          have hbl := lt_of_heap hheap
          obtain ⟨q1, q2⟩ := hst.update (blk' := .siter s0 (p0 + (decodeL s0 p0).2)) (w' := { w with heap := w.heap.setIfInBounds b (.stringIter ⟨s0.toArray⟩ (p0 + (decodeL s0 p0).2)) }) hl1 hm (by rw [e1]; rfl) (by simp) rfl rfl rfl
            (fun k hk => Array.getElem?_setIfInBounds_ne (Ne.symm hk)) ⟨b, ⟨s0.toArray⟩, e1, by simp [hbl], rfl⟩
          refine ⟨I, μ, q1, .imm _ _ (.tup _ _ rfl fun i c x hc hx => ?_), Mu.le_refl μ, q2⟩
          match i, hc, hx with
          | 0, hc, hx => cases hc; cases hx; exact .bool _
          | 1, hc, hx => cases hc; cases hx; exact .int _ _
          | 2, hc, hx => cases hc; cases hx; exact .int _ _
          | i + 3, hc, hx => simp at hx
        · cases h
      · cases h
    · cases h
  · cases h

theorem g_sover {s0 : List UInt8} {p0 i0 : Nat} {d0 : Option Nat} {todo0 : List DI} (h : pnxt n env st false todo = some ⟨s0, p0, i0, d0, todo0⟩) (hp : s0.length ≤ p0)
    (hk : G P n F Q todo0 (putE d0 (.imm (.tup [.bool false])) env) st ids) : G P n F Q todo env st ids := by
  unfold pnxt at h
  split at h
  · rename_i o ho
    split at h
    · rename_i x hg hop
      split at h
      · rename_i id hx hd
        split at h
        · rename_i s pos all o' todo' hl h1
          cases h
          have ho' : o' = o := opAt_next ho h1
          subst ho'
          refine g_step (fr := []) (wr := []) (rd := [i0]) h1 ?_ hd (fun c hc => by rw [hop] at hc; cases hc) hk
          intro I μ st1 ids1 a w hag hst hon
          refine ⟨fun _ => ?_, fun hw => by rw [wanted_none hg] at hw; cases hw⟩
          have hops := opsOn_of hon
          rw [hop] at hops
          have hl1 : live st1 i0 (.siter s0 p0) := by unfold live; rw [hag i0 (by simp)]; exact hl
          obtain ⟨b, e1, hm, hheap⟩ := siter_run hst hl1 (hops x (by simp [Op.operands]) _ hx)
          have hget : (getObj b).run P w = .ok (.stringIter ⟨s0.toArray⟩ p0) w := by simp [getObj, Sem.run, hheap]
          have hlt : ¬ p0 < (ByteArray.mk s0.toArray).size := by simpa [ByteArray.size] using hp
          have hrun : (execOp a.eval o').run P w = .ok (.value (.tuple #[.bool false])) w := by
            simp only [execOp, hop, e1]
            refine ok_of_sem' ?_
            simp only [Instr.next, Sem.run_bind, hget, Result.andThen_ok, if_neg hlt, Sem.run_pure]
          rw [hrun]
          refine ⟨I, μ, hst, .imm _ _ (.tup _ _ rfl fun i c x hc hx => ?_), Mu.le_refl μ, Ext.refl _ _ _ _⟩
          match i, hc, hx with
          | 0, hc, hx => cases hc; cases hx; exact .bool _
          | i + 1, hc, hx => simp at hx
        · cases h
      · cases h
    · cases h
  · cases h

end
end Go.Hk

/- Contracts of term: names. -/
namespace Go.Hk
open Go.Proofs

theorem decode_low {s : Str} {pos : Nat} {c : UInt8} (h : s[pos]? = some c) (hc : c.toNat < 128) : decodeL s pos = (c.toNat, 1) := by
  have hg : (ByteArray.mk s.toArray).get! pos = c := by simp [ByteArray.get!, h]
  simp only [decodeL, Utf8.decode, Nat.add_zero, hg]
  rw [if_pos hc]

theorem decode_high {s : Str} {pos : Nat} {c : UInt8} (h : s[pos]? = some c) (hc : 128 ≤ c.toNat) : 128 ≤ (decodeL s pos).1 := by
  have hg : (ByteArray.mk s.toArray).get! pos = c := by simp [ByteArray.get!, h]
  simp only [decodeL, Utf8.decode, Nat.add_zero, hg, Utf8.runeError]
  rw [if_neg (by omega)]
  repeat' split
  all_goals first | (simp only; omega) | decide | (simp only [Bool.and_eq_true, decide_eq_true_eq] at *; omega)

theorem decode_width (s : Str) (pos : Nat) : 1 ≤ (decodeL s pos).2 := by
  simp only [decodeL, Utf8.decode]
  repeat' split
  all_goals simp

set_option maxRecDepth 100000 in
theorem tsmall_ok (s : Str) : PureC Tryz.prog 84 [.str s] (.bool (smallS s)) := by
  refine effc_of ttT_ok Tryz.func84 (by decide +kernel) rfl [1, 2] rfl rfl ?_
  refine tg [] rfl (by simp) ?_
  refine g_srange ttT_ok rfl ?_
  refine tg [] rfl (by simp) ?_
  refine dgo_enter (fun i : Nat => [(6, .iter 1)]) (fun i => [(1, some (.siter s i))]) [2] (fun i => s.length - i) (fun i => i ≤ s.length ∧ smallS s = smallS (s.drop i)) 0
    ⟨Nat.zero_le _, rfl⟩ ⟨rfl, trivial⟩ ⟨rfl, trivial⟩ rfl fun i hi ih => ?_
  refine td [] rfl (by simp) ?_
  by_cases hl : i < s.length
  · obtain ⟨c, hc⟩ := has_get hl
    have e := hi.2
    rw [smallS_drop hc] at e
    by_cases hlow : c.toNat < 128
    · refine g_snext rfl hl (decode_low hc hlow) ?_
      refine tg [.a] rfl (by simp) ?_
      refine dgo_cond rfl (fun h => ?_) (fun h => ?_)
      · refine td [] rfl (by simp) ?_
        refine dgo_ret ⟨_, rfl, tV (congrArg _ ?_), trivial⟩
        rw [e]; simp at h; simp [UInt8.le_iff_toNat_le]; omega
      · refine td [] rfl (by simp) ?_
        refine dgo_again (ih (i + 1) (by omega) ⟨by omega, ?_⟩) ⟨rfl, trivial⟩ ⟨rfl, trivial⟩ rfl
        rw [e]; simp at h; simp [UInt8.le_iff_toNat_le]; omega
    · refine g_snext (dc := decodeL s i) rfl hl rfl ?_
      have hh := decode_high hc (by omega)
      refine tg [.a] rfl (by simp) ?_
      refine dgo_cond rfl (fun h => ?_) (fun h => ?_)
      · refine td [] rfl (by simp) ?_
        refine dgo_ret ⟨_, rfl, tV (congrArg _ ?_), trivial⟩
        rw [e]; simp [UInt8.le_iff_toNat_le]; omega
      · exfalso
        simp at h
        omega
  · refine g_sover rfl (by omega) ?_
    refine tg [.a] rfl (by simp) ?_
    refine dgo_ret ⟨_, rfl, tV (congrArg _ ?_), trivial⟩
    rw [hi.2, List.drop_eq_nil_of_le (by omega)]; rfl

set_option maxRecDepth 100000 in
theorem keyword_no (s : Str) (h : keyS s = false) : PureC Tryz.prog 85 [.str s] (.bool false) := by
  simp only [keyS, keywordsL, hasS, Bool.or_eq_false_iff] at h
  refine effc_of ttT_ok Tryz.func85 (by decide +kernel) rfl [1, 2] rfl rfl ?_
  refine tg [.f, .f, .f, .f, .f, .f, .f, .f, .f, .f, .f, .f, .f, .f, .f, .f, .f, .f, .f, .f, .f, .f, .f, .f, .f, .f, .f, .f, .f] rfl (by simp at h; simp; grind) ?_
  exact dgo_ret ⟨_, rfl, tV rfl, trivial⟩

set_option maxRecDepth 100000 in
theorem keyword_0 : PureC Tryz.prog 85 [.str [98, 111, 111, 108]] (.bool true) := by
  refine effc_of ttT_ok Tryz.func85 (by decide +kernel) rfl [1, 2] rfl rfl ?_
  refine tg [.a, .a] rfl (by simp) ?_
  exact dgo_ret ⟨_, rfl, tV rfl, trivial⟩

set_option maxRecDepth 100000 in
theorem keyword_1 : PureC Tryz.prog 85 [.str [99, 101, 108, 108]] (.bool true) := by
  refine effc_of ttT_ok Tryz.func85 (by decide +kernel) rfl [1, 2] rfl rfl ?_
  refine tg [.a, .a, .a] rfl (by simp) ?_
  exact dgo_ret ⟨_, rfl, tV rfl, trivial⟩

set_option maxRecDepth 100000 in
theorem keyword_2 : PureC Tryz.prog 85 [.str [99, 104, 97, 110]] (.bool true) := by
  refine effc_of ttT_ok Tryz.func85 (by decide +kernel) rfl [1, 2] rfl rfl ?_
  refine tg [.a, .a, .a, .a] rfl (by simp) ?_
  exact dgo_ret ⟨_, rfl, tV rfl, trivial⟩

set_option maxRecDepth 100000 in
theorem keyword_3 : PureC Tryz.prog 85 [.str [101, 108, 115, 101]] (.bool true) := by
  refine effc_of ttT_ok Tryz.func85 (by decide +kernel) rfl [1, 2] rfl rfl ?_
  refine tg [.a, .a, .a, .a, .a] rfl (by simp) ?_
  exact dgo_ret ⟨_, rfl, tV rfl, trivial⟩

set_option maxRecDepth 100000 in
theorem keyword_4 : PureC Tryz.prog 85 [.str [102, 97, 108, 115, 101]] (.bool true) := by
  refine effc_of ttT_ok Tryz.func85 (by decide +kernel) rfl [1, 2] rfl rfl ?_
  refine tg [.a, .a, .a, .a, .a, .a] rfl (by simp) ?_
  exact dgo_ret ⟨_, rfl, tV rfl, trivial⟩

set_option maxRecDepth 100000 in
theorem keyword_5 : PureC Tryz.prog 85 [.str [102, 117, 110]] (.bool true) := by
  refine effc_of ttT_ok Tryz.func85 (by decide +kernel) rfl [1, 2] rfl rfl ?_
  refine tg [.a, .a, .a, .a, .a, .a, .a] rfl (by simp) ?_
  exact dgo_ret ⟨_, rfl, tV rfl, trivial⟩

set_option maxRecDepth 100000 in
theorem keyword_6 : PureC Tryz.prog 85 [.str [103, 101, 116]] (.bool true) := by
  refine effc_of ttT_ok Tryz.func85 (by decide +kernel) rfl [1, 2] rfl rfl ?_
  refine tg [.a, .a, .a, .a, .a, .a, .a, .a] rfl (by simp) ?_
  exact dgo_ret ⟨_, rfl, tV rfl, trivial⟩

set_option maxRecDepth 100000 in
theorem keyword_7 : PureC Tryz.prog 85 [.str [105, 102]] (.bool true) := by
  refine effc_of ttT_ok Tryz.func85 (by decide +kernel) rfl [1, 2] rfl rfl ?_
  refine tg [.a, .a, .a, .a, .a, .a, .a, .a, .a] rfl (by simp) ?_
  exact dgo_ret ⟨_, rfl, tV rfl, trivial⟩

set_option maxRecDepth 100000 in
theorem keyword_8 : PureC Tryz.prog 85 [.str [105, 110]] (.bool true) := by
  refine effc_of ttT_ok Tryz.func85 (by decide +kernel) rfl [1, 2] rfl rfl ?_
  refine tg [.a, .a, .a, .a, .a, .a, .a, .a, .a, .a] rfl (by simp) ?_
  exact dgo_ret ⟨_, rfl, tV rfl, trivial⟩

set_option maxRecDepth 100000 in
theorem keyword_9 : PureC Tryz.prog 85 [.str [105, 110, 112, 117, 116]] (.bool true) := by
  refine effc_of ttT_ok Tryz.func85 (by decide +kernel) rfl [1, 2] rfl rfl ?_
  refine tg [.a, .a, .a, .a, .a, .a, .a, .a, .a, .a, .a] rfl (by simp) ?_
  exact dgo_ret ⟨_, rfl, tV rfl, trivial⟩

set_option maxRecDepth 100000 in
theorem keyword_10 : PureC Tryz.prog 85 [.str [105, 110, 116]] (.bool true) := by
  refine effc_of ttT_ok Tryz.func85 (by decide +kernel) rfl [1, 2] rfl rfl ?_
  refine tg [.a, .a, .a, .a, .a, .a, .a, .a, .a, .a, .a, .a] rfl (by simp) ?_
  exact dgo_ret ⟨_, rfl, tV rfl, trivial⟩

set_option maxRecDepth 100000 in
theorem keyword_11 : PureC Tryz.prog 85 [.str [106, 111, 105, 110]] (.bool true) := by
  refine effc_of ttT_ok Tryz.func85 (by decide +kernel) rfl [1, 2] rfl rfl ?_
  refine tg [.a, .a, .a, .a, .a, .a, .a, .a, .a, .a, .a, .a, .a] rfl (by simp) ?_
  exact dgo_ret ⟨_, rfl, tV rfl, trivial⟩

set_option maxRecDepth 100000 in
theorem keyword_12 : PureC Tryz.prog 85 [.str [108, 101, 116]] (.bool true) := by
  refine effc_of ttT_ok Tryz.func85 (by decide +kernel) rfl [1, 2] rfl rfl ?_
  refine tg [.a, .a, .a, .a, .a, .a, .a, .a, .a, .a, .a, .a, .a, .a] rfl (by simp) ?_
  exact dgo_ret ⟨_, rfl, tV rfl, trivial⟩

set_option maxRecDepth 100000 in
theorem keyword_13 : PureC Tryz.prog 85 [.str [109, 97, 116, 99, 104]] (.bool true) := by
  refine effc_of ttT_ok Tryz.func85 (by decide +kernel) rfl [1, 2] rfl rfl ?_
  refine tg [.a, .a, .a, .a, .a, .a, .a, .a, .a, .a, .a, .a, .a, .a, .a] rfl (by simp) ?_
  exact dgo_ret ⟨_, rfl, tV rfl, trivial⟩

set_option maxRecDepth 100000 in
theorem keyword_14 : PureC Tryz.prog 85 [.str [109, 111, 100, 117, 108, 101]] (.bool true) := by
  refine effc_of ttT_ok Tryz.func85 (by decide +kernel) rfl [1, 2] rfl rfl ?_
  refine tg [.a, .a, .a, .a, .a, .a, .a, .a, .a, .a, .a, .a, .a, .a, .a, .a] rfl (by simp) ?_
  exact dgo_ret ⟨_, rfl, tV rfl, trivial⟩

set_option maxRecDepth 100000 in
theorem keyword_15 : PureC Tryz.prog 85 [.str [111, 117, 116]] (.bool true) := by
  refine effc_of ttT_ok Tryz.func85 (by decide +kernel) rfl [1, 2] rfl rfl ?_
  refine tg [.a, .a, .a, .a, .a, .a, .a, .a, .a, .a, .a, .a, .a, .a, .a, .a, .a] rfl (by simp) ?_
  exact dgo_ret ⟨_, rfl, tV rfl, trivial⟩

set_option maxRecDepth 100000 in
theorem keyword_16 : PureC Tryz.prog 85 [.str [112, 97, 117, 115, 101]] (.bool true) := by
  refine effc_of ttT_ok Tryz.func85 (by decide +kernel) rfl [1, 2] rfl rfl ?_
  refine tg [.a, .a, .a, .a, .a, .a, .a, .a, .a, .a, .a, .a, .a, .a, .a, .a, .a, .a] rfl (by simp) ?_
  exact dgo_ret ⟨_, rfl, tV rfl, trivial⟩

set_option maxRecDepth 100000 in
theorem keyword_17 : PureC Tryz.prog 85 [.str [112, 117, 116]] (.bool true) := by
  refine effc_of ttT_ok Tryz.func85 (by decide +kernel) rfl [1, 2] rfl rfl ?_
  refine tg [.a, .a, .a, .a, .a, .a, .a, .a, .a, .a, .a, .a, .a, .a, .a, .a, .a, .a, .a] rfl (by simp) ?_
  exact dgo_ret ⟨_, rfl, tV rfl, trivial⟩

set_option maxRecDepth 100000 in
theorem keyword_18 : PureC Tryz.prog 85 [.str [114, 101, 115, 101, 116]] (.bool true) := by
  refine effc_of ttT_ok Tryz.func85 (by decide +kernel) rfl [1, 2] rfl rfl ?_
  refine tg [.a, .a, .a, .a, .a, .a, .a, .a, .a, .a, .a, .a, .a, .a, .a, .a, .a, .a, .a, .a] rfl (by simp) ?_
  exact dgo_ret ⟨_, rfl, tV rfl, trivial⟩

set_option maxRecDepth 100000 in
theorem keyword_19 : PureC Tryz.prog 85 [.str [115, 101, 110, 100]] (.bool true) := by
  refine effc_of ttT_ok Tryz.func85 (by decide +kernel) rfl [1, 2] rfl rfl ?_
  refine tg [.a, .a, .a, .a, .a, .a, .a, .a, .a, .a, .a, .a, .a, .a, .a, .a, .a, .a, .a, .a, .a] rfl (by simp) ?_
  exact dgo_ret ⟨_, rfl, tV rfl, trivial⟩

set_option maxRecDepth 100000 in
theorem keyword_20 : PureC Tryz.prog 85 [.str [115, 104, 105, 102, 116]] (.bool true) := by
  refine effc_of ttT_ok Tryz.func85 (by decide +kernel) rfl [1, 2] rfl rfl ?_
  refine tg [.a, .a, .a, .a, .a, .a, .a, .a, .a, .a, .a, .a, .a, .a, .a, .a, .a, .a, .a, .a, .a, .a] rfl (by simp) ?_
  exact dgo_ret ⟨_, rfl, tV rfl, trivial⟩

set_option maxRecDepth 100000 in
theorem keyword_21 : PureC Tryz.prog 85 [.str [115, 112, 97, 119, 110]] (.bool true) := by
  refine effc_of ttT_ok Tryz.func85 (by decide +kernel) rfl [1, 2] rfl rfl ?_
  refine tg [.a, .a, .a, .a, .a, .a, .a, .a, .a, .a, .a, .a, .a, .a, .a, .a, .a, .a, .a, .a, .a, .a, .a] rfl (by simp) ?_
  exact dgo_ret ⟨_, rfl, tV rfl, trivial⟩

set_option maxRecDepth 100000 in
theorem keyword_22 : PureC Tryz.prog 85 [.str [116, 97, 107, 101]] (.bool true) := by
  refine effc_of ttT_ok Tryz.func85 (by decide +kernel) rfl [1, 2] rfl rfl ?_
  refine tg [.a, .a, .a, .a, .a, .a, .a, .a, .a, .a, .a, .a, .a, .a, .a, .a, .a, .a, .a, .a, .a, .a, .a, .a] rfl (by simp) ?_
  exact dgo_ret ⟨_, rfl, tV rfl, trivial⟩

set_option maxRecDepth 100000 in
theorem keyword_23 : PureC Tryz.prog 85 [.str [116, 97, 115, 107]] (.bool true) := by
  refine effc_of ttT_ok Tryz.func85 (by decide +kernel) rfl [1, 2] rfl rfl ?_
  refine tg [.a, .a, .a, .a, .a, .a, .a, .a, .a, .a, .a, .a, .a, .a, .a, .a, .a, .a, .a, .a, .a, .a, .a, .a, .a] rfl (by simp) ?_
  exact dgo_ret ⟨_, rfl, tV rfl, trivial⟩

set_option maxRecDepth 100000 in
theorem keyword_24 : PureC Tryz.prog 85 [.str [116, 104, 101, 110]] (.bool true) := by
  refine effc_of ttT_ok Tryz.func85 (by decide +kernel) rfl [1, 2] rfl rfl ?_
  refine tg [.a, .a, .a, .a, .a, .a, .a, .a, .a, .a, .a, .a, .a, .a, .a, .a, .a, .a, .a, .a, .a, .a, .a, .a, .a, .a] rfl (by simp) ?_
  exact dgo_ret ⟨_, rfl, tV rfl, trivial⟩

set_option maxRecDepth 100000 in
theorem keyword_25 : PureC Tryz.prog 85 [.str [116, 114, 117, 101]] (.bool true) := by
  refine effc_of ttT_ok Tryz.func85 (by decide +kernel) rfl [1, 2] rfl rfl ?_
  refine tg [.a, .a, .a, .a, .a, .a, .a, .a, .a, .a, .a, .a, .a, .a, .a, .a, .a, .a, .a, .a, .a, .a, .a, .a, .a, .a, .a] rfl (by simp) ?_
  exact dgo_ret ⟨_, rfl, tV rfl, trivial⟩

set_option maxRecDepth 100000 in
theorem keyword_26 : PureC Tryz.prog 85 [.str [116, 121, 112, 101]] (.bool true) := by
  refine effc_of ttT_ok Tryz.func85 (by decide +kernel) rfl [1, 2] rfl rfl ?_
  refine tg [.a, .a, .a, .a, .a, .a, .a, .a, .a, .a, .a, .a, .a, .a, .a, .a, .a, .a, .a, .a, .a, .a, .a, .a, .a, .a, .a, .a] rfl (by simp) ?_
  exact dgo_ret ⟨_, rfl, tV rfl, trivial⟩

set_option maxRecDepth 100000 in
theorem keyword_27 : PureC Tryz.prog 85 [.str [117, 110, 105, 116]] (.bool true) := by
  refine effc_of ttT_ok Tryz.func85 (by decide +kernel) rfl [1, 2] rfl rfl ?_
  refine tg [.a, .a, .a, .a, .a, .a, .a, .a, .a, .a, .a, .a, .a, .a, .a, .a, .a, .a, .a, .a, .a, .a, .a, .a, .a, .a, .a, .a, .a] rfl (by simp) ?_
  exact dgo_ret ⟨_, rfl, tV rfl, trivial⟩

set_option maxRecDepth 100000 in
theorem keyword_ok (s : Str) : PureC Tryz.prog 85 [.str s] (.bool (keyS s)) := by
  cases h : keyS s with
  | false => exact keyword_no s h
  | true =>
    simp only [keyS, keywordsL, hasS, Bool.or_eq_true, beq_iff_eq, Bool.or_false] at h
    rcases h with rfl | rfl | rfl | rfl | rfl | rfl | rfl | rfl | rfl | rfl | rfl | rfl | rfl | rfl | rfl | rfl | rfl | rfl | rfl | rfl | rfl | rfl | rfl | rfl | rfl | rfl | rfl | rfl
    · exact keyword_0
    · exact keyword_1
    · exact keyword_2
    · exact keyword_3
    · exact keyword_4
    · exact keyword_5
    · exact keyword_6
    · exact keyword_7
    · exact keyword_8
    · exact keyword_9
    · exact keyword_10
    · exact keyword_11
    · exact keyword_12
    · exact keyword_13
    · exact keyword_14
    · exact keyword_15
    · exact keyword_16
    · exact keyword_17
    · exact keyword_18
    · exact keyword_19
    · exact keyword_20
    · exact keyword_21
    · exact keyword_22
    · exact keyword_23
    · exact keyword_24
    · exact keyword_25
    · exact keyword_26
    · exact keyword_27

set_option maxRecDepth 100000 in
theorem tName_ok (s : Str) : PureC Tryz.prog 45 [.str s] (.bool (nameS s)) := by
  refine effc_of ttT_ok Tryz.func45 (by decide +kernel) rfl [1, 2] rfl rfl ?_
  refine tg [] rfl (by simp) ?_
  refine g_pcall rfl (v := .bool (smallS s)) (fun h => tsmall_ok s) (by simp [cxOf]) ?_
  refine tg [] rfl (by simp) ?_
  refine g_pcall rfl (v := .bool (keyS s)) (fun h => keyword_ok s) (by simp [cxOf]) ?_
  refine tg [] rfl (by simp) ?_
  refine dgo_ret ⟨_, rfl, tV (congrArg _ ?_), trivial⟩
  cases s with
  | nil => simp [nameS]
  | cons a r => simp [nameS]; norm_cast; simp

set_option maxRecDepth 100000 in
theorem tGreat_ok (s : Str) : PureC Tryz.prog 46 [.str s] (.bool (greatS s)) := by
  refine effc_of ttT_ok Tryz.func46 (by decide +kernel) rfl [1, 2] rfl rfl ?_
  refine tg [] rfl (by cases s with | nil => simp [cxOf] | cons a r => simp [cxOf]; omega) ?_
  refine g_pcall rfl (v := .bool (smallS (s.drop 1))) (fun h => tsmall_ok _) (by simp [cxOf]) ?_
  refine tg [] rfl (by simp) ?_
  refine dgo_ret ⟨_, rfl, tV (congrArg _ ?_), trivial⟩
  cases s with
  | nil => simp [greatS]
  | cons a r => simp [greatS, UInt8.le_iff_toNat_le, Bool.and_assoc]; norm_cast; simp

def integerB (n : Int) : Bool := decide (-1000000000 ≤ n) && decide (n ≤ 1000000000)

set_option maxRecDepth 100000 in
theorem integer_ok (n : Int) : PureC Tryz.prog 104 [.int .i64 n] (.bool (integerB n)) := by
  refine effc_of ttT_ok Tryz.func104 (by decide +kernel) rfl [1, 2] rfl rfl ?_
  refine tg [] rfl (by simp) ?_
  refine dgo_ret ⟨_, rfl, tV (congrArg _ ?_), trivial⟩
  simp [integerB]

end Go.Hk

/- Contracts of term: types. -/
namespace Go.Hk
open Go.Proofs

def unitV : D := .imm (.tup [])

theorem sortBk (k p : Nat) : ((k : Int) == (p : Int)) = decide (k = p) := by
  rw [Bool.eq_iff_iff]; simp; omega

set_option maxRecDepth 100000 in
theorem tsorts_yes (holes : Bool) : ∀ (t : Ty), sortsTy holes t = true → EffC Tryz.prog 107 [.imm (.agg (dTyc t)), .imm (.bool holes)] [] (.ret unitV [])
  | .mk s n x ps, hy => by
    refine effC_ok 0 rfl fun hok => ?_
    have hv : ps.length ≤ 9223372036854775807 := by
      simp [vOkL, vOk, dTyc, maxLen] at hok
      have := hok.1
      omega
    simp only [sortsTy, Bool.and_eq_true_iff] at hy
    refine effc_of ttT_ok Tryz.func107 (by decide +kernel) rfl [1, 2, 3] rfl rfl ?_
    have J : ∀ p : Nat, sortB holes s n x ps.length = (((ps.length : Int) == (p : Int)) && (s == 9 || n == 0) && (s == 8 || x == [])) → DGo Tryz.prog Tryz.f107.ntmps (nms []) (RetQ ttT Tryz.f107.results.toList (.ret unitV []))
        [.code (tailC Tryz.f107 3)] [(4, .imm (.int .i64 p)), (1, .imm (.bool holes)), (2, .ref 1 0)] [(1, some (.immb 53 4 (dTyc (.mk s n x ps))))] [2, 3] := by
      intro p hp
      have hc : (((ps.length : Int) == (p : Int)) && (s == 9 || n == 0) && (s == 8 || x == [])) = true := by rw [← hp]; exact hy.1
      refine td [] rfl (by simp [cxOf]; grind) ?_
      refine g_pcall rfl (fun _ => want_ok _ ?_) (by simp) ?_
      · simp at hc ⊢; grind
      refine tg [] rfl (by simp) ?_
      refine dgo_enter (fun i : Nat => [(69, .imm (.int .i64 i)), (68, .imm (.int .i64 ps.length)), (67, .imm (.sl (dTys ps))), (1, .imm (.bool holes)), (2, .ref 1 0)]) (fun _ => [(1, some (.immb 53 4 (dTyc (.mk s n x ps))))]) [2, 3] (fun i => ps.length - i)
        (fun i => i ≤ ps.length ∧ sortsTys holes (ps.drop i) = true) 0 ⟨Nat.zero_le _, hy.2⟩ ⟨rfl, tInt (by simp), rfl, rfl, rfl, trivial⟩ ⟨rfl, trivial⟩ rfl fun i hi ih => ?_
      refine td [] rfl (by simp) ?_
      have hi2 := hi.2
      refine dgo_cond rfl (fun h => ?_) (fun h => ?_)
      · simp at h
        obtain ⟨t, ht⟩ := has_get h
        rw [get_drop ht] at hi2
        simp only [sortsTys, Bool.and_eq_true_iff] at hi2
        refine td [] rfl (by simp) ?_
        refine ti rfl (c := dTyc t) (fun _ => ⟨by simp, by simpa using dTys_get ht, by simp⟩) (by simp) ?_
        refine tg [] rfl (by simp) ?_
        refine g_call (fr := []) [] [] rfl (by simp) (tsorts_yes holes t hi2.1) trivial rfl rfl rfl rfl ?_
        refine tg [] rfl (by simp) ?_
        exact dgo_again (ih (i + 1) (by omega) ⟨by omega, hi2.2⟩) ⟨tInt (w64 (by omega) (by omega)), rfl, rfl, rfl, rfl, trivial⟩ ⟨rfl, trivial⟩ rfl
      · refine td [] rfl (by simp) ?_
        exact dgo_end ⟨_, rfl, rfl, trivial⟩
    by_cases h1 : s = 1
    · subst h1
      refine tg [.a, .a, .s] rfl (by simp) ?_
      exact dgo_again (J 0 (by simp [sortB])) ⟨rfl, rfl, rfl, trivial⟩ ⟨rfl, trivial⟩ rfl
    by_cases h2 : s = 2
    · subst h2
      refine tg [.a, .a, .a, .s] rfl (by simp) ?_
      exact dgo_again (J 0 (by simp [sortB])) ⟨rfl, rfl, rfl, trivial⟩ ⟨rfl, trivial⟩ rfl
    by_cases h3 : s = 3
    · subst h3
      refine tg [.a, .a, .a, .s] rfl (by simp) ?_
      exact dgo_again (J 0 (by simp [sortB])) ⟨rfl, rfl, rfl, trivial⟩ ⟨rfl, trivial⟩ rfl
    by_cases h4 : s = 4
    · subst h4
      refine tg [.a, .a, .a, .a, .s] rfl (by simp) ?_
      exact dgo_again (J 2 (by simp [sortB])) ⟨rfl, rfl, rfl, trivial⟩ ⟨rfl, trivial⟩ rfl
    by_cases h5 : s = 5
    · subst h5
      refine tg [.a, .a, .a, .a, .a, .a, .s] rfl (by simp) ?_
      exact dgo_again (J 1 (by simp [sortB])) ⟨rfl, rfl, rfl, trivial⟩ ⟨rfl, trivial⟩ rfl
    by_cases h6 : s = 6
    · subst h6
      refine tg [.a, .a, .a, .a, .a, .a, .a, .s] rfl (by simp) ?_
      exact dgo_again (J 1 (by simp [sortB])) ⟨rfl, rfl, rfl, trivial⟩ ⟨rfl, trivial⟩ rfl
    by_cases h7 : s = 7
    · subst h7
      refine tg [.a, .a, .a, .a, .a, .a, .a, .s] rfl (by simp) ?_
      exact dgo_again (J 1 (by simp [sortB])) ⟨rfl, rfl, rfl, trivial⟩ ⟨rfl, trivial⟩ rfl
    by_cases h8 : s = 8
    · subst h8
      by_cases hg : greatS x = true
      · refine tg [.a, .a, .a, .a, .a, .a, .a, .a] rfl (by simp [cxOf]) ?_
        refine g_pcall rfl (fun _ => tGreat_ok x) (by simp) ?_
        refine tg [] rfl (by simp) ?_
        refine g_pcall rfl (fun _ => want_ok _ hg) (by simp) ?_
        refine tg [.s] rfl (by simp) ?_
        exact dgo_again (J 0 (by simp [sortB, hg])) ⟨rfl, rfl, rfl, trivial⟩ ⟨rfl, trivial⟩ rfl
      · exfalso
        have := hy.1
        simp [sortB] at this
        simp at hg
        grind
    by_cases h9 : s = 9
    · subst h9
      by_cases hg : (holes && inI n 0 99) = true
      · refine tg [.a, .a, .a, .a, .a, .a, .a, .a, .a] rfl (by simp [cxOf]) ?_
        refine g_pcall rfl (fun _ => want_ok _ (by simp [inI] at hg ⊢; grind)) (by simp) ?_
        refine tg [.s] rfl (by simp) ?_
        exact dgo_again (J 0 (by simp [sortB, inI] at hg ⊢; grind)) ⟨rfl, rfl, rfl, trivial⟩ ⟨rfl, trivial⟩ rfl
      · exfalso
        have := hy.1
        simp [sortB] at this
        simp at hg
        grind
    exfalso
    have := hy.1
    simp [sortB, h1, h2, h3, h4, h5, h6, h7, h8, h9] at this
termination_by t => SizeOf.sizeOf t
decreasing_by
  all_goals
    have := List.sizeOf_lt_of_mem (List.mem_of_getElem? ht)
    simp_wf
    omega

set_option maxRecDepth 100000 in
theorem tsorts_no (holes : Bool) : ∀ (t : Ty), sortsTy holes t = false → EffC Tryz.prog 107 [.imm (.agg (dTyc t)), .imm (.bool holes)] [] (.pan flawV)
  | .mk s n x ps, hy => by
    refine effC_ok 0 rfl fun hok => ?_
    have hv : ps.length ≤ 9223372036854775807 := by
      simp [vOkL, vOk, dTyc, maxLen] at hok
      have := hok.1
      omega
    simp only [sortsTy, Bool.and_eq_false_iff] at hy
    refine effc_of ttT_ok Tryz.func107 (by decide +kernel) rfl [1, 2, 3] rfl rfl ?_
    have J : ∀ p : Nat, sortB holes s n x ps.length = (((ps.length : Int) == (p : Int)) && (s == 9 || n == 0) && (s == 8 || x == [])) → DGo Tryz.prog Tryz.f107.ntmps (nms []) (RetQ ttT Tryz.f107.results.toList (.pan flawV))
        [.code (tailC Tryz.f107 3)] [(4, .imm (.int .i64 p)), (1, .imm (.bool holes)), (2, .ref 1 0)] [(1, some (.immb 53 4 (dTyc (.mk s n x ps))))] [2, 3] := by
      intro p hp
      by_cases hc : (((ps.length : Int) == (p : Int)) && (s == 9 || n == 0) && (s == 8 || x == [])) = true
      rotate_left
      · refine td [] rfl (by simp [cxOf]; grind) ?_
        exact dgo_callpan [] rfl (by simp) (want_pan _ (by simp at hc ⊢; grind)) trivial rfl rfl
      rw [hp, hc] at hy
      simp only [Bool.true_eq_false, false_or] at hy
      refine td [] rfl (by simp [cxOf]; grind) ?_
      refine g_pcall rfl (fun _ => want_ok _ ?_) (by simp) ?_
      · simp at hc ⊢; grind
      refine tg [] rfl (by simp) ?_
      refine dgo_enter (fun i : Nat => [(69, .imm (.int .i64 i)), (68, .imm (.int .i64 ps.length)), (67, .imm (.sl (dTys ps))), (1, .imm (.bool holes)), (2, .ref 1 0)]) (fun _ => [(1, some (.immb 53 4 (dTyc (.mk s n x ps))))]) [2, 3] (fun i => ps.length - i)
        (fun i => i ≤ ps.length ∧ sortsTys holes (ps.drop i) = false) 0 ⟨Nat.zero_le _, hy⟩ ⟨rfl, tInt (by simp), rfl, rfl, rfl, trivial⟩ ⟨rfl, trivial⟩ rfl fun i hi ih => ?_
      refine td [] rfl (by simp) ?_
      have hi2 := hi.2
      refine dgo_cond rfl (fun h => ?_) (fun h => ?_)
      · simp at h
        obtain ⟨t, ht⟩ := has_get h
        rw [get_drop ht] at hi2
        simp only [sortsTys, Bool.and_eq_false_iff] at hi2
        refine td [] rfl (by simp) ?_
        refine ti rfl (c := dTyc t) (fun _ => ⟨by simp, by simpa using dTys_get ht, by simp⟩) (by simp) ?_
        refine tg [] rfl (by simp) ?_
        by_cases hz : sortsTy holes t = true
        · refine g_call (fr := []) [] [] rfl (by simp) (tsorts_yes holes t hz) trivial rfl rfl rfl rfl ?_
          refine tg [] rfl (by simp) ?_
          exact dgo_again (ih (i + 1) (by omega) ⟨by omega, by rw [hz] at hi2; simpa using hi2⟩) ⟨tInt (w64 (by omega) (by omega)), rfl, rfl, rfl, rfl, trivial⟩ ⟨rfl, trivial⟩ rfl
        · exact dgo_callpan [] rfl (by simp) (tsorts_no holes t (by simpa using hz)) trivial rfl rfl
      · exfalso
        simp at h
        rw [List.drop_eq_nil_of_le (by omega)] at hi2
        simp [sortsTys] at hi2
    by_cases h1 : s = 1
    · subst h1
      refine tg [.a, .a, .s] rfl (by simp) ?_
      exact dgo_again (J 0 (by simp [sortB])) ⟨rfl, rfl, rfl, trivial⟩ ⟨rfl, trivial⟩ rfl
    by_cases h2 : s = 2
    · subst h2
      refine tg [.a, .a, .a, .s] rfl (by simp) ?_
      exact dgo_again (J 0 (by simp [sortB])) ⟨rfl, rfl, rfl, trivial⟩ ⟨rfl, trivial⟩ rfl
    by_cases h3 : s = 3
    · subst h3
      refine tg [.a, .a, .a, .s] rfl (by simp) ?_
      exact dgo_again (J 0 (by simp [sortB])) ⟨rfl, rfl, rfl, trivial⟩ ⟨rfl, trivial⟩ rfl
    by_cases h4 : s = 4
    · subst h4
      refine tg [.a, .a, .a, .a, .s] rfl (by simp) ?_
      exact dgo_again (J 2 (by simp [sortB])) ⟨rfl, rfl, rfl, trivial⟩ ⟨rfl, trivial⟩ rfl
    by_cases h5 : s = 5
    · subst h5
      refine tg [.a, .a, .a, .a, .a, .a, .s] rfl (by simp) ?_
      exact dgo_again (J 1 (by simp [sortB])) ⟨rfl, rfl, rfl, trivial⟩ ⟨rfl, trivial⟩ rfl
    by_cases h6 : s = 6
    · subst h6
      refine tg [.a, .a, .a, .a, .a, .a, .a, .s] rfl (by simp) ?_
      exact dgo_again (J 1 (by simp [sortB])) ⟨rfl, rfl, rfl, trivial⟩ ⟨rfl, trivial⟩ rfl
    by_cases h7 : s = 7
    · subst h7
      refine tg [.a, .a, .a, .a, .a, .a, .a, .s] rfl (by simp) ?_
      exact dgo_again (J 1 (by simp [sortB])) ⟨rfl, rfl, rfl, trivial⟩ ⟨rfl, trivial⟩ rfl
    by_cases h8 : s = 8
    · subst h8
      by_cases hg : greatS x = true
      · refine tg [.a, .a, .a, .a, .a, .a, .a, .a] rfl (by simp [cxOf]) ?_
        refine g_pcall rfl (fun _ => tGreat_ok x) (by simp) ?_
        refine tg [] rfl (by simp) ?_
        refine g_pcall rfl (fun _ => want_ok _ hg) (by simp) ?_
        refine tg [.s] rfl (by simp) ?_
        exact dgo_again (J 0 (by simp [sortB, hg])) ⟨rfl, rfl, rfl, trivial⟩ ⟨rfl, trivial⟩ rfl
      · refine tg [.a, .a, .a, .a, .a, .a, .a, .a] rfl (by simp [cxOf]) ?_
        refine g_pcall rfl (fun _ => tGreat_ok x) (by simp) ?_
        refine tg [] rfl (by simp) ?_
        exact dgo_callpan [] rfl (by simp) (want_pan _ (by simpa using hg)) trivial rfl rfl
    by_cases h9 : s = 9
    · subst h9
      by_cases hg : (holes && inI n 0 99) = true
      · refine tg [.a, .a, .a, .a, .a, .a, .a, .a, .a] rfl (by simp [cxOf]) ?_
        refine g_pcall rfl (fun _ => want_ok _ (by simp [inI] at hg ⊢; grind)) (by simp) ?_
        refine tg [.s] rfl (by simp) ?_
        exact dgo_again (J 0 (by simp [sortB, inI] at hg ⊢; grind)) ⟨rfl, rfl, rfl, trivial⟩ ⟨rfl, trivial⟩ rfl
      · refine tg [.a, .a, .a, .a, .a, .a, .a, .a, .a] rfl (by simp [cxOf]) ?_
        exact dgo_callpan [] rfl (by simp) (want_pan _ (by simp [inI] at hg ⊢; grind)) trivial rfl rfl
    refine tg [.f, .f, .f, .f, .f, .f, .f, .f, .f] rfl (by simp [h1, h2, h3, h4, h5, h6, h7, h8, h9]) ?_
    exact dgo_callpan [] rfl (by simp) (want_pan _ rfl) trivial rfl rfl
termination_by t => SizeOf.sizeOf t
decreasing_by
  all_goals
    have := List.sizeOf_lt_of_mem (List.mem_of_getElem? ht)
    simp_wf
    omega

end Go.Hk

/- A function that does something and tells whether it gave up: the walks of term.holds and of what it defers. -/
namespace Go.Hk
open Go.Proofs

theorem hmf : ∀ (fn : Fn) (first cap : Array Value) (w : World), (Instr.makeFunc fn first cap).run Tryz.prog w = .ok (.func fn first cap) w := fun _ _ _ _ => rfl

/-- What is deferred, where nothing was given up with. -/
theorem hcatch_idle (p : Addr) (w : World) :
    CallsD Tryz.prog 129 #[.pointer (some p)] .returning w fun e u' w' => e = .returned (.tuple #[]) ∧ u' = .returning ∧ w' = w := by
  refine callsD_of_wpS Tryz.func129 rfl fun c₀ cs hu => ?_
  apply wpS_seq
  apply wpS_region
  simp [wpOpsS, go_sem, recoverD, hu, Tryz.ntmps129, Exit.thenS]
  apply wpS_seq
  apply wpS_region
  simp [wpOpsS, go_sem, Exit.thenS]
  refine wpS_cond (t := false) (by simp [Act.eval, Array.replicate]) ?_
  simp only [if_false, Bool.false_eq_true]
  refine wpS_of_wp (wp_skip ?_)
  cases c₀
  simp_all [bodyPostS, results, Tryz.results129]

set_option maxRecDepth 100000 in
/-- What is deferred, where a flaw was given up with. -/
theorem hcatch_flaw (pb : Nat) (x : Value) (w : World) (hpb : pb < w.heap.size) (hx : w.cell? ⟨pb, 0, none⟩ = some x) (hz : w.frozen? ⟨pb, 0, none⟩ = false) :
    CallsD Tryz.prog 129 #[.pointer (some ⟨pb, 0, none⟩)] (.panicking [{ v := .iface 173 (.agg #[]), recovered := false }]) w fun e u' w' => e = .returned (.tuple #[]) ∧
      u' = .panicking [{ v := .iface 173 (.agg #[]), recovered := true }] ∧ w' = (w.setCell ⟨pb, 0, none⟩ (.bool false)).alloc (.cells #[] 173) := by
  refine callsD_of_wpS Tryz.func129 rfl fun c₀ cs hu => ?_
  change Code.wpS _ _ _ { tmps := #[.pointer (some ⟨pb, 0, none⟩), undef, undef, undef, undef, undef, undef, undef, undef, undef, undef, undef, undef, undef, undef], defers := [] } _ _
  apply wpS_seq
  apply wpS_region
  simp [wpOpsS, go_sem, recoverD, hu, Tryz.ntmps129, Exit.thenS]
  apply wpS_seq
  apply wpS_region
  simp [wpOpsS, go_sem, Exit.thenS]
  refine wpS_cond (t := true) (by simp [Act.eval, Array.replicate]) ?_
  simp only [if_true]
  refine wpS_of_wp ?_
  clear hu
  have hta : ∀ w : World, (Instr.typeAssert (.iface 173 (.agg #[])) 20 173 true).run Tryz.prog w = .ok (.tuple #[.agg #[], .bool true]) w := fun _ => by kernel_rfl
  have hx' : (w.alloc (.cells #[] 173)).cell? ⟨pb, 0, none⟩ = some x := by rw [World.cell?_alloc_past _ _ _ hpb]; exact hx
  have hz' : (w.alloc (.cells #[] 173)).frozen? ⟨pb, 0, none⟩ = false := by rw [RowKit.frozen?_alloc_cells]; exact hz
  go_wp2
  simp [bodyPostS, results, Tryz.results129]

set_option maxRecDepth 100000 in
theorem holds_calls (g : FuncId) (fi ca : Array Value) (w : World) (K : World → Prop) (Kp : World → Prop)
    (hen : (callFunc g (fi ++ ca)).run Tryz.prog (w.alloc (.cells #[.bool false] 4)) = .ok (.enter g (fi ++ ca)) (w.alloc (.cells #[.bool false] 4)))
    (hcall : Calls Tryz.prog g (fi ++ ca) (w.alloc (.cells #[.bool false] 4)) fun e w' => match e with
      | .returned _ => K w'
      | .panicked chain => chain = [{ v := .iface 173 (.agg #[]), recovered := false }] ∧ Kp w'
      | .outgrown => False)
    (hK : ∀ w', K w' → w'.heap[w.heap.size]? = some (.cells #[.bool false] 4 (0, 0))) (hKp : ∀ w', Kp w' → w'.heap[w.heap.size]? = some (.cells #[.bool false] 4 (0, 0))) :
    Calls Tryz.prog 100 #[.func (.func g) fi ca] w fun e w' => (e = .returned (.bool true) ∧ ∃ w1, K w1 ∧ w' = w1.setCell ⟨w.heap.size, 0, none⟩ (.bool true)) ∨
      (e = .returned (.bool false) ∧ ∃ w1, Kp w1 ∧ w' = (w1.setCell ⟨w.heap.size, 0, none⟩ (.bool false)).alloc (.cells #[] 173)) := by
  go_enter_defers Tryz.func100, Tryz.ntmps100
  have hmf := hmf
  go_wp2_with fail
  clear hen
  refine hcall.mono ?_
  intro e w' he
  cases e with
  | outgrown => exact he.elim
  | returned v =>
    have hc : w'.cell? ⟨w.heap.size, 0, none⟩ = some (.bool false) := by unfold World.cell?; simp [hK w' he]
    have hz : w'.frozen? ⟨w.heap.size, 0, none⟩ = false := by unfold World.frozen?; simp [hK w' he]
    simp only
    go_wp2
    refine leaves_cons (f := 129) (args := #[.pointer (some ⟨w.heap.size, 0, none⟩)]) (by simp) (by simp [go_sem]) ?_
    refine (hcatch_idle ⟨w.heap.size, 0, none⟩ _).mono ?_
    rintro e u' w'' ⟨rfl, rfl, rfl⟩
    simp [Leaves, settle, results, Tryz.results100, go_sem, hc]
    exact ⟨w', he, rfl⟩
  | panicked chain =>
    obtain ⟨rfl, he⟩ := he
    have hc : w'.cell? ⟨w.heap.size, 0, none⟩ = some (.bool false) := by unfold World.cell?; simp [hKp w' he]
    have hz : w'.frozen? ⟨w.heap.size, 0, none⟩ = false := by unfold World.frozen?; simp [hKp w' he]
    have hlt : w.heap.size < w'.heap.size := (Array.getElem?_eq_some_iff.1 (hKp w' he)).1
    refine leaves_cons (f := 129) (args := #[.pointer (some ⟨w.heap.size, 0, none⟩)]) (by simp) (by simp [go_sem]) ?_
    refine (hcatch_flaw w.heap.size _ _ hlt hc hz).mono ?_
    rintro e u' w'' ⟨rfl, rfl, rfl⟩
    have hc2 : ((w'.setCell ⟨w.heap.size, 0, none⟩ (.bool false)).alloc (.cells #[] 173)).cell? ⟨w.heap.size, 0, none⟩ = some (.bool false) := by
      rw [setCell_block (hKp w' he), World.cell?_alloc_past _ _ _ (by simpa using hlt)]
      unfold World.cell?
      simp [hlt]
    simp [Leaves, settle, results, Tryz.results100, go_sem, hc2]
    exact ⟨w', he, rfl⟩

theorem holds_spec : HoldsSpec Tryz.prog 100 173 4 := fun g fi ca w K Kp h1 h2 h3 h4 => holds_calls g fi ca w K Kp h1 h2 h3 h4

end Go.Hk

/- Contracts of term: types that are formed. -/
namespace Go.Hk
open Go.Proofs


set_option maxRecDepth 100000 in
theorem checked1_yes {g : FuncId} {fg : Func} {cg : Code} (hg : Tryz.prog.funcs[g]? = some fg) (hn : (fg.name == "runtime.NumGoroutine") = false) (hc : fg.body = some cg) {t1 : TypeId} {s1 : Nat} {x1 y1 : List V} (hE : EffC Tryz.prog g [.ref 1 0] [(1, some (.immb t1 s1 x1))] (.ret unitV [(1, some (.immb t1 s1 y1))])) :
    EffC Tryz.prog 66 [.fn (.func g) [] [.ref 1 0]] [(1, some (.immb t1 s1 x1))] (.ret (.imm (.int .i64 0)) [(1, some (.immb t1 s1 y1))]) := by
  refine effc_of ttT_ok Tryz.func66 (by decide +kernel) rfl [2, 3, 4] rfl rfl ?_
  refine tg [] rfl (by simp) ?_
  refine g_call (fr := []) [(1, 1)] [] rfl (by simp) (holds_yes Tryz.func100 (by decide +kernel) rfl holds_spec hg hn hc hE) ⟨⟨rfl, rfl, rfl⟩, trivial⟩ rfl rfl rfl rfl ?_
  refine tg [.a] rfl (by simp) ?_
  exact dgo_ret ⟨_, rfl, tV rfl, ⟨rfl, trivial⟩⟩

set_option maxRecDepth 100000 in
theorem checked1_no {g : FuncId} {fg : Func} {cg : Code} (hg : Tryz.prog.funcs[g]? = some fg) (hn : (fg.name == "runtime.NumGoroutine") = false) (hc : fg.body = some cg) {t1 : TypeId} {s1 : Nat} {x1 : List V} (hE : EffC Tryz.prog g [.ref 1 0] [(1, some (.immb t1 s1 x1))] (.pan flawV)) :
    EffC Tryz.prog 66 [.fn (.func g) [] [.ref 1 0]] [(1, some (.immb t1 s1 x1))] (.ret (.imm (.int .i64 2)) []) := by
  refine effc_of ttT_ok Tryz.func66 (by decide +kernel) rfl [2, 3, 4] rfl rfl ?_
  refine tg [] rfl (by simp) ?_
  refine g_call (fr := []) [(1, 1)] [] rfl (by simp) (holds_no Tryz.func100 (by decide +kernel) rfl holds_spec hg hn hc hE) ⟨⟨rfl, rfl, rfl⟩, trivial⟩ rfl rfl rfl rfl ?_
  refine tg [.a] rfl (by simp) ?_
  exact dgo_ret ⟨_, rfl, tV rfl, trivial⟩

set_option maxRecDepth 100000 in
theorem checked2_yes {g : FuncId} {fg : Func} {cg : Code} (hg : Tryz.prog.funcs[g]? = some fg) (hn : (fg.name == "runtime.NumGoroutine") = false) (hc : fg.body = some cg) {t1 t2 : TypeId} {s1 s2 : Nat} {x1 x2 y1 y2 : List V} (hE : EffC Tryz.prog g [.ref 1 0, .ref 2 0] [(1, some (.immb t1 s1 x1)), (2, some (.immb t2 s2 x2))] (.ret unitV [(1, some (.immb t1 s1 y1)), (2, some (.immb t2 s2 y2))])) :
    EffC Tryz.prog 66 [.fn (.func g) [] [.ref 1 0, .ref 2 0]] [(1, some (.immb t1 s1 x1)), (2, some (.immb t2 s2 x2))] (.ret (.imm (.int .i64 0)) [(1, some (.immb t1 s1 y1)), (2, some (.immb t2 s2 y2))]) := by
  refine effc_of ttT_ok Tryz.func66 (by decide +kernel) rfl [3, 4, 5] rfl rfl ?_
  refine tg [] rfl (by simp) ?_
  refine g_call (fr := []) [(1, 1), (2, 2)] [] rfl (by simp) (holds_yes Tryz.func100 (by decide +kernel) rfl holds_spec hg hn hc hE) ⟨⟨rfl, rfl, rfl⟩, ⟨⟨rfl, rfl, rfl⟩, trivial⟩⟩ rfl rfl rfl rfl ?_
  refine tg [.a] rfl (by simp) ?_
  exact dgo_ret ⟨_, rfl, tV rfl, ⟨rfl, ⟨rfl, trivial⟩⟩⟩

set_option maxRecDepth 100000 in
theorem checked2_no {g : FuncId} {fg : Func} {cg : Code} (hg : Tryz.prog.funcs[g]? = some fg) (hn : (fg.name == "runtime.NumGoroutine") = false) (hc : fg.body = some cg) {t1 t2 : TypeId} {s1 s2 : Nat} {x1 x2 : List V} (hE : EffC Tryz.prog g [.ref 1 0, .ref 2 0] [(1, some (.immb t1 s1 x1)), (2, some (.immb t2 s2 x2))] (.pan flawV)) :
    EffC Tryz.prog 66 [.fn (.func g) [] [.ref 1 0, .ref 2 0]] [(1, some (.immb t1 s1 x1)), (2, some (.immb t2 s2 x2))] (.ret (.imm (.int .i64 2)) []) := by
  refine effc_of ttT_ok Tryz.func66 (by decide +kernel) rfl [3, 4, 5] rfl rfl ?_
  refine tg [] rfl (by simp) ?_
  refine g_call (fr := []) [(1, 1), (2, 2)] [] rfl (by simp) (holds_no Tryz.func100 (by decide +kernel) rfl holds_spec hg hn hc hE) ⟨⟨rfl, rfl, rfl⟩, ⟨⟨rfl, rfl, rfl⟩, trivial⟩⟩ rfl rfl rfl rfl ?_
  refine tg [.a] rfl (by simp) ?_
  exact dgo_ret ⟨_, rfl, tV rfl, trivial⟩

def errI (b : Bool) : V := .int .i64 (bif b then 0 else 2)
def formedB (holes : Bool) (t : Ty) : Bool := decide (nodesTy t ≤ 12) && sortsTy holes t


set_option maxRecDepth 100000 in
theorem formed1_yes (t : Ty) (holes : Bool) (h : formedB holes t = true) : EffC Tryz.prog 105 [.ref 1 0, .ref 2 0] [(1, some (.immb 53 4 (dTyc t))), (2, some (.immb 4 1 [.bool holes]))] (.ret unitV [(1, some (.immb 53 4 (dTyc t))), (2, some (.immb 4 1 [.bool holes]))]) := by
  simp only [formedB, Bool.and_eq_true, decide_eq_true_eq] at h
  refine effc_of ttT_ok Tryz.func105 (by decide +kernel) rfl [3, 4, 5] rfl rfl ?_
  refine tg [] rfl (by simp) ?_
  refine g_call (fr := []) [(3, 1)] [] rfl (by simp) (gkind_yes t 12 (by omega) (by decide)) ⟨⟨rfl, rfl, rfl⟩, trivial⟩ rfl rfl rfl rfl ?_
  refine tg [] rfl (by simp) ?_
  refine g_call (fr := []) [] [] rfl (by simp) (tsorts_yes holes t h.2) trivial rfl rfl rfl rfl ?_
  refine tg [] rfl (by simp) ?_
  exact dgo_end ⟨_, rfl, rfl, ⟨rfl, rfl, trivial⟩⟩

set_option maxRecDepth 100000 in
theorem formed1_no (t : Ty) (holes : Bool) (h : formedB holes t = false) : EffC Tryz.prog 105 [.ref 1 0, .ref 2 0] [(1, some (.immb 53 4 (dTyc t))), (2, some (.immb 4 1 [.bool holes]))] (.pan flawV) := by
  simp only [formedB, Bool.and_eq_false_iff, decide_eq_false_iff_not] at h
  refine effc_of ttT_ok Tryz.func105 (by decide +kernel) rfl [3, 4, 5] rfl rfl ?_
  refine tg [] rfl (by simp) ?_
  by_cases h1 : nodesTy t ≤ 12
  · refine g_call (fr := []) [(3, 1)] [] rfl (by simp) (gkind_yes t 12 (by omega) (by decide)) ⟨⟨rfl, rfl, rfl⟩, trivial⟩ rfl rfl rfl rfl ?_
    refine tg [] rfl (by simp) ?_
    exact dgo_callpan [] rfl (by simp) (tsorts_no holes t (by simpa [h1] using h)) trivial rfl rfl
  · exact dgo_callpan [(3, 1)] rfl (by simp) (gkind_no t 12 (by omega) (by decide) (by decide)) ⟨⟨rfl, rfl, rfl⟩, trivial⟩ rfl rfl

set_option maxRecDepth 100000 in
theorem formed_ok (t : Ty) (holes : Bool) : PureC Tryz.prog 73 [.agg (dTyc t), .bool holes] (errI (formedB holes t)) := by
  refine effc_of ttT_ok Tryz.func73 (by decide +kernel) rfl [1, 2, 3] rfl rfl ?_
  refine tg [] rfl (by simp) ?_
  cases h : formedB holes t with
  | true =>
    refine g_call (fr := []) [(1, 1), (2, 2)] [] rfl (by simp) (checked2_yes Tryz.func105 (by decide +kernel) rfl (formed1_yes t holes h)) ⟨⟨rfl, rfl, rfl⟩, ⟨rfl, rfl, rfl⟩, trivial⟩ rfl rfl rfl rfl ?_
    refine tg [] rfl (by simp) ?_
    exact dgo_ret ⟨_, rfl, tV rfl, trivial⟩
  | false =>
    refine g_call (fr := []) [(1, 1), (2, 2)] [] rfl (by simp) (checked2_no Tryz.func105 (by decide +kernel) rfl (formed1_no t holes h)) ⟨⟨rfl, rfl, rfl⟩, ⟨rfl, rfl, rfl⟩, trivial⟩ rfl rfl rfl rfl ?_
    refine tg [] rfl (by simp) ?_
    exact dgo_ret ⟨_, rfl, tV rfl, trivial⟩

set_option maxRecDepth 100000 in
theorem CheckType_ok (t : Ty) : PureC Tryz.prog 32 [.agg (dTyc t)] (errI (formedB true t)) := by
  refine effc_of ttT_ok Tryz.func32 (by decide +kernel) rfl [1, 2, 3] rfl rfl ?_
  refine tg [] rfl (by simp) ?_
  refine g_pcall rfl (fun _ => formed_ok t true) (by simp [cxOf]) ?_
  refine tg [] rfl (by simp) ?_
  exact dgo_ret ⟨_, rfl, tV rfl, trivial⟩

set_option maxRecDepth 100000 in
theorem whole_ok (t : Ty) : PureC Tryz.prog 113 [.agg (dTyc t)] (.bool (formedB false t)) := by
  refine effc_of ttT_ok Tryz.func113 (by decide +kernel) rfl [1, 2, 3] rfl rfl ?_
  refine tg [] rfl (by simp) ?_
  refine g_pcall rfl (fun _ => formed_ok t false) (by simp [cxOf]) ?_
  refine tg [] rfl (by simp) ?_
  refine dgo_ret ⟨_, rfl, tV (congrArg _ ?_), trivial⟩
  cases formedB false t <;> rfl

end Go.Hk

/- Maps that are owned: made, looked at, changed. -/
namespace Go.Hk
open Go.MapKept

def eqK : V → V → Bool
  | .str a, .str b => a == b
  | .int _ a, .int _ b => a == b
  | .bool a, .bool b => a == b
  | _, _ => false

def lookM : List (V × V) → V → Option V
  | [], _ => none
  | (k, d) :: r, x => if eqK x k then some d else lookM r x

def setM : List (V × V) → V → V → List (V × V)
  | [], x, d => [(x, d)]
  | (k, e) :: r, x, d => if eqK x k then (x, d) :: r else (k, e) :: setM r x d

def descOf : Sh → Option TypeDesc
  | .str => some .string
  | .int k => some (.int k)
  | _ => none

def keyV : Sh → V → Bool
  | .str, .str _ => true
  | .int k, .int k' _ => decide (k' = k)
  | _, _ => false

section
variable {P : Program} {n : Nat} {F : List Nat} {Q : DQ} {tt : TT} {env env' : Env} {st st' : St} {ids ids' : List Nat} {k todo todo' : List DI} {I : Imm} {μ : Mu} {w : World} {a : Act} {Pn : V → Prop} {d : D} {cx : Prop} {ob : List Prop}

theorem descOf_ok {t : TypeId} {sh : Sh} {dd : TypeDesc} (h : descOf sh = some dd) (hs : ShOk P t sh) : P.underlying t = some dd := by
  cases sh <;> simp only [descOf, reduceCtorEq, Option.some.injEq] at h <;> subst h <;> exact hs

theorem isKey_rep {sh : Sh} {dd : TypeDesc} {v : Value} {x : V} (h : descOf sh = some dd) (hk : keyV sh x = true) (hv : RepV I v x) : IsKey dd v := by
  cases sh <;> simp only [descOf, reduceCtorEq, Option.some.injEq] at h <;> subst h <;> cases x <;> simp [keyV] at hk <;> cases hv <;> simp [IsKey, hk]

theorem eqK_rep {sh : Sh} {v u : Value} {x y : V} (hx : keyV sh x = true) (hy : keyV sh y = true) (hv : RepV I v x) (hu : RepV I u y) : eqK x y = true ↔ v = u := by
  cases x with
  | str a =>
    cases y with
    | str b =>
      obtain ⟨s, rfl, rfl⟩ := hv.strInv
      obtain ⟨t, rfl, rfl⟩ := hu.strInv
      simp only [eqK, beq_iff_eq, Value.string.injEq]
      constructor
      · intro h
        obtain ⟨⟨s⟩⟩ := s
        obtain ⟨⟨t⟩⟩ := t
        simp at h
        rw [h]
      · intro h; rw [h]
    | _ => cases sh <;> simp [keyV] at hx hy
  | int k i =>
    cases y with
    | int k' j =>
      obtain rfl := hv.intInv
      obtain rfl := hu.intInv
      cases sh <;> simp [keyV] at hx hy
      subst hx; subst hy
      simp [eqK]
    | _ => cases sh <;> simp [keyV] at hx hy
  | _ => cases sh <;> simp [keyV] at hx

theorem find_rep {sh : Sh} {dd : TypeDesc} {v : Value} {x : V} (hd : descOf sh = some dd) (hk : keyV sh x = true) (hv : RepV I v x) : ∀ (l : List MapEntry) (kv : List (V × V)) (i : Nat), l.length = kv.length →
    (∀ (j : Nat) (e : MapEntry) (p : V × V), l[j]? = some e → kv[j]? = some p → RepV I e.key p.1 ∧ RepV I e.val p.2) → (∀ p ∈ kv, keyV sh p.1 = true) →
    (Instr.findNow dd v l i = some none ∧ lookM kv x = none ∧ (∀ y, setM kv x y = kv ++ [(x, y)]) ∧ ∀ e ∈ l, e.key ≠ v) ∨
      ∃ j e y, Instr.findNow dd v l i = some (some (i + j, e.val)) ∧ l[j]? = some e ∧ e.key = v ∧ lookM kv x = some y ∧ RepV I e.val y ∧ ∀ z, setM kv x z = kv.set j (x, z)
  | [], [], i, _, _, _ => .inl ⟨rfl, rfl, fun _ => rfl, fun _ h => by cases h⟩
  | [], _ :: _, _, h, _, _ => by simp at h
  | _ :: _, [], _, h, _, _ => by simp at h
  | e :: l, p :: kv, i, hl, h, hkv => by
    obtain ⟨h1, h2⟩ := h 0 e p rfl rfl
    obtain ⟨y, dy⟩ := p
    have hky := hkv (y, dy) (by simp)
    obtain ⟨r, hr, hiff⟩ := sameNow_of_keys (isKey_rep hd hk hv) (isKey_rep hd hky h1)
    have he := eqK_rep hk hky hv h1
    cases r with
    | true =>
      have hvy := hiff.1 rfl
      have := he.2 hvy
      exact .inr ⟨0, e, dy, by simp [Instr.findNow, hr], rfl, hvy.symm, by simp [lookM, this], h2, fun z => by simp [setM, this]⟩
    | false =>
      have hne : v ≠ e.key := fun q => by have := hiff.2 q; cases this
      have hf : eqK x y = false := by
        cases hq : eqK x y with
        | false => rfl
        | true => exact absurd (he.1 hq) hne
      rcases find_rep hd hk hv l kv (i + 1) (by simpa using hl) (fun j e' p' a b => h (j + 1) e' p' (by simpa using a) (by simpa using b)) (fun p' hp => hkv p' (by simp [hp])) with ⟨q1, q2, q3, q4⟩ | ⟨j, e', y', q1, q2, q3, q4, q5, q6⟩
      · refine .inl ⟨by simp [Instr.findNow, hr, q1], by simp [lookM, hf, q2], fun z => by simp [setM, hf, q3], fun e' he' => ?_⟩
        rcases List.mem_cons.1 he' with rfl | he'
        · exact fun q => hne q.symm
        · exact q4 e' he'
      · exact .inr ⟨j + 1, e', y', by simp [Instr.findNow, hr, q1]; omega, by simpa using q2, q3, by simp [lookM, hf, q4], q5, fun z => by simp [setM, hf, q6]⟩

/-- A new map. -/
def pmk (n : Nat) (ids : List Nat) (todo : List DI) : Option (Nat × List Nat × Option Nat × List DI) :=
  match opAt todo, ids with
  | some o, id' :: ids' => match o.guard, o.op with
    | none, .makeMap _ none => match dstOk n o.dst, next1 todo ([], [id']) with
      | true, some (_, _, todo') => some (id', ids', o.dst, todo')
      | _, _ => none
    | _, _ => none
  | _, _ => none

theorem g_mkmap {i0 : Nat} {ids0 : List Nat} {d0 : Option Nat} {todo0 : List DI} (h : pmk n ids todo = some (i0, ids0, d0, todo0)) (hk : G P n F Q todo0 (putE d0 (.mapr i0) env) ((i0, some (.map [])) :: st) ids0) : G P n F Q todo env st ids := by
  unfold pmk at h
  split at h
  · rename_i o id' ids' ho
    split at h
    · rename_i t hg hop
      split at h
      · rename_i all o' todo' hd h1
        cases h
        have ho' : o' = o := opAt_next ho h1
        subst ho'
        refine g_step (fr := [i0]) (wr := [(i0, some (.map []))]) (rd := []) h1 ?_ hd (fun c hc => by rw [hop] at hc; cases hc) hk
        intro I μ st1 ids1 a w hag hst hon
        refine ⟨fun _ => ?_, fun hw => by rw [wanted_none hg] at hw; cases hw⟩
        have hrun : (execOp a.eval o').run P w = .ok (.value (.map (some w.heap.size))) (w.alloc (.map #[] 0)) := by
          simp only [execOp, hop, Option.map_none]
          refine ok_of_sem' ?_
          simp only [Instr.makeMap, Sem.run_bind, Result.andThen_ok, Sem.run_pure, run_newObj]
          rfl
        rw [hrun]
        obtain ⟨μ', q1, q2, q3, q4⟩ := hst.allocO (.map #[] 0) (.map (some w.heap.size)) rfl (.map []) (fun μ' _ => ⟨w.heap.size, #[], 0, rfl, heap_alloc_new w _, rfl, stamped_empty 0, fun i e p h => by simp at h⟩)
        exact ⟨I, μ', q3, .mapr _ _ q1, q2, q4⟩
      · cases h
    · cases h
  · cases h

theorem map_run {id : Nat} {kv : List (V × V)} {v : Value} (hst : StRep I μ st ids w) (hl : live st id (.map kv)) (hv : RepD I μ v (.mapr id)) :
    ∃ b es clock, v = .map (some b) ∧ μ id = some v ∧ w.heap[b]? = some (.map es clock) ∧ es.size = kv.length ∧ Stamped es clock ∧ ∀ (i : Nat) (e : MapEntry) (p : V × V), es[i]? = some e → kv[i]? = some p → RepV I e.key p.1 ∧ RepV I e.val p.2 := by
  cases hv with
  | mapr _ b hm =>
    obtain ⟨g, hg, b', es, clock, rfl, h1, h2, h3, h4⟩ := hst.blk id _ hl
    rw [hm] at hg; cases hg
    exact ⟨b, es, clock, rfl, hm, h1, h2, h3, h4⟩

/-- An element of a map is set. -/
def pmset (tt : TT) (env : Env) (st : St) (todo : List DI) : Option (Nat × List (V × V) × Sh × V × V × List DI) :=
  match opAt todo with
  | some o => match o.guard, o.op with
    | none, .mapUpdate t m x y => match o.dst, lk tt t, evO env m, evO env x, evO env y with
      | none, some { sh := .map kt _, .. }, some (.mapr id), some (.imm kx), some dy => match lk tt kt, lk st id, next1 todo ([id], [id]), toV dy with
        | some i, some (some (.map kv)), some (_, _, todo'), some vy => some (id, kv, i.sh, kx, vy, todo')
        | _, _, _, _ => none
      | _, _, _, _, _ => none
    | _, _ => none
  | none => none

theorem g_mset (htt : TTok P tt) {i0 : Nat} {kv : List (V × V)} {sh : Sh} {kx : V} {dy : V} {todo0 : List DI} {dd : TypeDesc} (h : pmset tt env st todo = some (i0, kv, sh, kx, dy, todo0)) (hd : descOf sh = some dd) (hk : keyV sh kx = true)
    (hkv : ∀ p ∈ kv, keyV sh p.1 = true) (hg : G P n F Q todo0 env ((i0, some (.map (setM kv kx dy))) :: st) ids) : G P n F Q todo env st ids := by
  unfold pmset at h
  split at h
  · rename_i o ho
    split at h
    · rename_i t m x y hgd hop
      split at h
      · rename_i kt et _ _ _ _ id kx' dy' hdst ht hm hx hy
        split at h
        · rename_i i kv' all o' todo' vy hi hl h1 hng
          cases h
          have ho' : o' = o := opAt_next ho h1
          subst ho'
          have hg : G P n F Q todo0 (putE o'.dst .undef env) ((i0, some (.map (setM kv kx dy))) :: st) ids := by rw [hdst]; exact hg
          refine g_step (fr := []) (wr := [(i0, some (.map (setM kv kx dy)))]) (rd := [i0]) h1 ?_ (by simp [dstOk, hdst]) (fun c hc => by rw [hop] at hc; cases hc) hg
          intro I μ st1 ids1 a w hag hst hon
          refine ⟨fun _ => ?_, fun hw => by rw [wanted_none hgd] at hw; cases hw⟩
          have hops := opsOn_of hon
          rw [hop] at hops
          have hl1 : live st1 i0 (.map kv) := by unfold live; rw [hag i0 (by simp)]; exact hl
          obtain ⟨b, es, clock, e1, hmu, hheap, hlen, hst2, hent⟩ := map_run hst hl1 (hops m (by simp [Op.operands]) _ hm)
          have rx := (hops x (by simp [Op.operands]) _ hx).immInv
          have ry := toV_rep hng (hops y (by simp [Op.operands]) _ hy)
          have hu : P.underlying t = some (.map kt et) := htt.sh ht
          have hkd : P.underlying kt = some dd := descOf_ok hd (htt.sh hi)
          have hik := isKey_rep hd hk rx
          have hbl := lt_of_heap hheap
          have fin : ∀ (es' : Array MapEntry) (c' : Nat), (Instr.mapUpdate t (.map (some b)) (a.eval x) (a.eval y)).run P w = .ok () { w with heap := w.heap.setIfInBounds b (.map es' c') } → es'.size = (setM kv kx dy).length → Stamped es' c' →
              (∀ (i : Nat) (e : MapEntry) (p : V × V), es'[i]? = some e → (setM kv kx dy)[i]? = some p → RepV I e.key p.1 ∧ RepV I e.val p.2) →
              valX P ((execOp a.eval o').run P w) (fun v w' => ∃ I' μ', StRep I' μ' ([(i0, some (.map (setM kv kx dy)))] ++ st1) ids1 w' ∧ RepD I' μ' v .undef ∧ μ.le μ' ∧ Ext I μ st1 w I' μ' ([(i0, some (.map (setM kv kx dy)))] ++ st1) w') (panK (panQ Q) I μ st1 w) := by
            intro es' c' hr h2 h3 h4
            have hrun : (execOp a.eval o').run P w = .ok .skip { w with heap := w.heap.setIfInBounds b (.map es' c') } := by
              simp only [execOp, hop, e1]
              simp [hr]
            rw [hrun]
            obtain ⟨q1, q2⟩ := hst.update (blk' := .map (setM kv kx dy)) (w' := { w with heap := w.heap.setIfInBounds b (.map es' c') }) hl1 hmu (by rw [e1]; rfl) (by simp) rfl rfl rfl
              (fun k hk => Array.getElem?_setIfInBounds_ne (Ne.symm hk)) ⟨b, es', c', e1, by simp [hbl], h2, h3, h4⟩
            exact ⟨I, μ, q1, .undef _, Mu.le_refl μ, q2⟩
          rcases find_rep (I := I) hd hk rx es.toList kv 0 (by simpa using hlen) (fun j e p h1 h2 => hent j e p (by simpa using h1) h2) hkv with ⟨q1, _, q3, q4⟩ | ⟨j, e, y', q1, q2, q3, _, q5, q6⟩
          · refine fin _ _ ?_ (by rw [q3]; simp [hlen]) (stamped_push hst2 (key := a.eval x) (val := a.eval y) q4) fun i e p h1 h2 => ?_
            · simp [Instr.mapUpdate, run_underlying hu, MapKept.run_getObj_map hheap, MapKept.run_checkKey hkd hik, MapKept.run_findKey hkd q1, MapKept.run_setObj_map _ hheap, Result.andThen]
            · rw [q3] at h2
              rw [Array.getElem?_push] at h1
              rw [List.getElem?_append] at h2
              by_cases hi : i = es.size
              · rw [if_pos hi] at h1; cases h1
                rw [if_neg (by omega)] at h2
                rw [show i - kv.length = 0 by omega] at h2
                cases h2
                exact ⟨rx, ry⟩
              · rw [if_neg hi] at h1
                have := (Array.getElem?_eq_some_iff.1 h1).1
                rw [if_pos (by omega)] at h2
                exact hent i e p h1 h2
          · have hj : es[j]? = some e := by simpa using q2
            have hkey : ∀ e', es[j]? = some e' → ({ e' with key := a.eval x, val := a.eval y } : MapEntry).key = e'.key := fun e' he' => by rw [hj] at he'; cases he'; exact q3.symm
            refine fin (es.modify j fun e => { e with key := a.eval x, val := a.eval y }) clock ?_ (by rw [q6]; simp [hlen]) (stamped_modify hst2 _ _ (fun _ _ => rfl) (fun e' _ he' => hkey e' he')) fun i e' p h1 h2 => ?_
            · simp [Instr.mapUpdate, run_underlying hu, MapKept.run_getObj_map hheap, MapKept.run_checkKey hkd hik, MapKept.run_findKey hkd q1, hj, q3, MapKept.run_keyThatStays hik, MapKept.run_setObj_map _ hheap, Result.andThen]
            · rw [q6] at h2
              rw [Array.getElem?_modify] at h1
              rw [List.getElem?_set] at h2
              by_cases hi : j = i
              · subst hi
                rw [if_pos rfl, hj] at h1
                cases h1
                rw [if_pos rfl] at h2
                split at h2
                · cases h2; exact ⟨rx, ry⟩
                · cases h2
              · rw [if_neg hi] at h1 h2
                exact hent i e' p h1 h2
        · cases h
      · cases h
    · cases h
  · cases h

structure PMl where
  kv : List (V × V)
  sh : Sh
  kx : V
  et : TypeId
  two : Bool
  g : Option (Bool × Bool)
  ob : List Prop
  t : Nat
  todo : List DI

/-- An element of a map is looked up. -/
def pmlook (tt : TT) (n : Nat) (env : Env) (st : St) (nm : Nat) (todo : List DI) : Option PMl :=
  match next1 todo ([nm], []) with
  | some (all, o, todo') => match o.op, guardOf all env o with
    | .lookup t m k two, some g => match lk tt t, useD (cxOf g) env m, useD (cxOf g) env k with
      | some { sh := .map kt et, .. }, some (.mapr id, o1), some (.imm kx, o2) => match Nat.beq id nm, lk tt kt, lk st id, dstOk n o.dst with
        | true, some i, some (some (.map kv)), true => match o.dst with
          | some t => some ⟨kv, i.sh, kx, et, two, g, cat o1 o2, t, todo'⟩
          | none => none
        | _, _, _, _ => none
      | _, _, _ => none
    | _, _ => none
  | none => none

theorem run_zeroValue_of {t : TypeId} {z : Value} (h : (P.info? t).bind (·.zero) = some z) : (zeroValue t).run P w = .ok z w := by
  cases hi : P.info? t with
  | none => rw [hi] at h; cases h
  | some inf =>
    rw [hi] at h
    have h : inf.zero = some z := h
    simp [zeroValue, typeInfo, hi, h]

def lookD (two : Bool) (kv : List (V × V)) (x : V) (zd : V) : D :=
  let r := match lookM kv x with
    | some y => (y, true)
    | none => (zd, false)
  if two then .imm (.tup [r.1, .bool r.2]) else .imm r.1

theorem g_mlook (htt : TTok P tt) (nm : Nat) {kv : List (V × V)} {sh : Sh} {kx : V} {et : TypeId} {two : Bool} {g : Option (Bool × Bool)} {ob : List Prop} {t0 : Nat} {todo0 : List DI} {dd : TypeDesc} {z : Value} {zd : V} {dr : D}
    (h : pmlook tt n env st nm todo = some ⟨kv, sh, kx, et, two, g, ob, t0, todo0⟩) (hd : descOf sh = some dd) (hk : keyV sh kx = true) (hkv : ∀ p ∈ kv, keyV sh p.1 = true) (hob : allP ob)
    (hz : (P.info? et).bind (·.zero) = some z) (hzr : ∀ I, RepV I z zd) (hdr : lookD two kv kx zd = dr) (hg : G P n F Q todo0 ((t0, gD g dr) :: env) st ids) : G P n F Q todo env st ids := by
  unfold pmlook at h
  split at h
  · rename_i all o todo' h1
    split at h
    · rename_i t m k two' g' hop hgd
      split at h
      · rename_i kt et' _ _ _ _ id o1 kx' o2 ht hm hx
        split at h
        · rename_i i kv' hid hi hl hdo
          split at h
          · rename_i t' hdst
            cases h
            have hid := Nat.eq_of_beq_eq_true hid
            subst hid
            subst hdr
            have hg : G P n F Q todo0 (putE o.dst (gD g (lookD two kv kx zd)) env) st ids := by rw [hdst]; exact hg
            refine g_step (fr := []) (wr := []) (rd := [id]) h1 (ld_guarded hgd fun I μ st1 ids1 a w hag hst hops hcx => ?_) hdo (fun c hc => by rw [hop] at hc; cases hc) hg
            rw [hop] at hops
            obtain ⟨ho1, ho2⟩ := allP_app hob
            have rm := useD_rep hm ho1 hcx (hops m (by simp [Op.operands]))
            have rx := (useD_rep hx ho2 hcx (hops k (by simp [Op.operands]))).immInv
            have hl1 : live st1 id (.map kv) := by unfold live; rw [hag id (by simp)]; exact hl
            obtain ⟨b, es, clock, e1, hmu, hheap, hlen, hst2, hent⟩ := map_run hst hl1 rm
            have hu : P.underlying t = some (.map kt et) := htt.sh ht
            have hkd : P.underlying kt = some dd := descOf_ok hd (htt.sh hi)
            have hik := isKey_rep hd hk rx
            have fin : ∀ (v : Value) (ok : Bool) (d : V), (Instr.lookup t (.map (some b)) (a.eval k) two).run P w = .ok (if two then .tuple #[v, .bool ok] else v) w → RepV I v d →
                lookD two kv kx zd = (if two then .imm (.tup [d, .bool ok]) else .imm d) →
                valX P ((execOp a.eval o).run P w) (fun u w' => ∃ I' μ', StRep I' μ' st1 ids1 w' ∧ RepD I' μ' u (lookD two kv kx zd) ∧ μ.le μ' ∧ Ext I μ st1 w I' μ' st1 w') (panK (panQ Q) I μ st1 w) := by
              intro v ok d hr hv he
              have hrun : (execOp a.eval o).run P w = .ok (.value (if two then .tuple #[v, .bool ok] else v)) w := by
                simp only [execOp, hop, e1]
                exact ok_of_sem hr
              rw [hrun]
              refine ⟨I, μ, hst, ?_, Mu.le_refl μ, Ext.refl _ _ _ _⟩
              rw [he]
              cases two with
              | false => exact .imm _ _ hv
              | true =>
                refine .imm _ _ (.tup _ _ rfl fun i c x hc hx => ?_)
                match i, hc, hx with
                | 0, hc, hx => cases hc; cases hx; exact hv
                | 1, hc, hx => cases hc; cases hx; exact .bool _
                | i + 2, hc, hx => simp at hx
            rcases find_rep (I := I) hd hk rx es.toList kv 0 (by simpa using hlen) (fun j e p h1 h2 => hent j e p (by simpa using h1) h2) hkv with ⟨q1, q2, _, _⟩ | ⟨j, e, y', q1, q2, q3, q4, q5, q6⟩
            · refine fin z false zd ?_ (hzr I) (by simp [lookD, q2])
              simp [Instr.lookup, run_underlying hu, MapKept.run_getObj_map hheap, MapKept.run_checkKey hkd hik, MapKept.run_findKey hkd q1, run_zeroValue_of hz, Result.andThen]
            · refine fin e.val true y' ?_ q5 (by simp [lookD, q4])
              simp [Instr.lookup, run_underlying hu, MapKept.run_getObj_map hheap, MapKept.run_checkKey hkd hik, MapKept.run_findKey hkd q1, Result.andThen]
          · cases h
        · cases h
      · cases h
    · cases h
  · cases h

end
end Go.Hk

/- Contracts of term: patterns. -/
namespace Go.Hk
open Go.Proofs

def ttP : TT := ttT ++ [
  (79, ⟨.map 9 4, false, 1, 8, [.imm .nilmap]⟩)]
theorem ttP_ok : TTok Tryz.prog ttP := .of_eq (l := [4, 3, 9, 26, 53, 49, 22, 24, 5, 51, 50, 29, 23, 47, 113, 66, 150, 63, 64, 111, 109, 30, 173, 101, 1, 79]) (by kernel_rfl)

section
variable {n : Nat} {F : List Nat} {Q : DQ} {env env' : Env} {st st' : St} {ids ids' : List Nat} {k todo : List DI} {ob : List Prop}
theorem pd (path : List Pt) (h : run ttP n 300 path todo env st ids [] = .at k env' st' ids' ob) (hob : allP ob) (hd : G Tryz.prog n F Q k env' st' ids') : DGo Tryz.prog n F Q todo env st ids := d_run ttP_ok mixed 300 path h hob hd
theorem pg (path : List Pt) (h : run ttP n 300 path todo env st ids [] = .at k env' st' ids' ob) (hob : allP ob) (hd : G Tryz.prog n F Q k env' st' ids') : G Tryz.prog n F Q todo env st ids := g_run ttP_ok mixed 300 path h hob hd
theorem pi {es : List (List V)} {m : Int} {sz : Nat} {e : TypeId} {g : Option (Bool × Bool)} {ob : List Prop} {t : Nat} {todo' : List DI} {c : List V} (h : pidx ttP n env todo = some ⟨es, m, sz, e, g, ob, some t, todo'⟩)
    (hc : cxOf g → 0 ≤ m ∧ es[m.toNat]? = some c ∧ c.length = sz) (hob : allP ob) (hk : G Tryz.prog n F Q todo' ((t, gD g (.ip e c 0)) :: env) st ids) : G Tryz.prog n F Q todo env st ids := g_index ttP_ok h hc hob hk
end

/-- A set of strings. -/
def setK (l : List Str) : List (V × V) := l.map fun s => (.str s, .bool true)
def setB (l : List Str) : Blk := .map (setK l)

theorem setK_keys (l : List Str) : ∀ p ∈ setK l, keyV .str p.1 = true := by
  intro p hp
  obtain ⟨s, _, rfl⟩ := List.mem_map.1 hp
  rfl
theorem beq_swap (s x : Str) : (s == x) = (x == s) := by
  rw [Bool.eq_iff_iff, beq_iff_eq, beq_iff_eq]; exact ⟨Eq.symm, Eq.symm⟩
theorem setK_find (l : List Str) (s : Str) : lookM (setK l) (.str s) = if hasS l s then some (.bool true) else none := by
  induction l with
  | nil => rfl
  | cons x r ih =>
    simp only [setK, List.map_cons, lookM, eqK, hasS] at ih ⊢
    rw [ih]
    by_cases h : x = s
    · subst h; simp
    · have h1 : (s == x) = false := by simpa using fun e => h e.symm
      have h2 : (x == s) = false := by simpa using h
      simp [h1, h2]
theorem setK_look (l : List Str) (s : Str) : lookD false (setK l) (.str s) (.bool false) = .imm (.bool (hasS l s)) := by
  simp only [lookD, setK_find]
  cases hasS l s <;> rfl
theorem setK_new (l : List Str) (s : Str) (h : hasS l s = false) : setM (setK l) (.str s) (.bool true) = setK (l ++ [s]) := by
  induction l with
  | nil => rfl
  | cons x r ih =>
    simp only [hasS, Bool.or_eq_false_iff] at h
    have h1 : (s == x) = false := by rw [beq_swap]; exact h.1
    simp only [setK, List.map_cons, setM, eqK, h1, List.cons_append] at ih ⊢
    simp [ih h.2]

theorem differGo_append : ∀ (a b p : List Str), differGo p (a ++ b) = (differGo p a && differGo (p ++ a) b)
  | [], b, p => by simp [differGo]
  | x :: r, b, p => by simp [differGo, differGo_append r b (p ++ [x]), Bool.and_assoc]


set_option maxRecDepth 100000 in
theorem tpats_yes : ∀ (t : Ty) (met : List Str), (patsTy t && differGo met (namesTy t)) = true → EffC Tryz.prog 72 [.imm (.agg (dTyc t)), .mapr 1] [(1, some (setB met))] (.ret unitV [(1, some (setB (met ++ namesTy t)))])
  | .mk s n x ps, met, hy => by
    refine effC_ok 0 rfl fun hok => ?_
    have hv : ps.length ≤ 9223372036854775807 := by
      simp [vOkL, vOk, dTyc, maxLen] at hok
      have := hok.1
      omega
    refine effc_of ttP_ok Tryz.func72 (by decide +kernel) rfl [2, 3, 4] rfl rfl ?_
    have J : ∀ m0 : List Str, (patsTys ps && differGo m0 (namesTys ps)) = true → m0 ++ namesTys ps = met ++ namesTy (.mk s n x ps) → DGo Tryz.prog Tryz.f72.ntmps (nms [(1, some (setB met))]) (RetQ ttP Tryz.f72.results.toList (.ret unitV [(1, some (setB (met ++ namesTy (.mk s n x ps))))]))
        [.code (tailC Tryz.f72 2)] [(1, .mapr 1), (2, .ref 2 0)] [(2, some (.immb 49 4 (dTyc (.mk s n x ps)))), (1, some (setB m0))] [3, 4] := by
      intro m0 hy he
      refine pd [] rfl (by simp) ?_
      refine dgo_enter (fun i : Nat => [(113, .imm (.int .i64 i)), (112, .imm (.int .i64 ps.length)), (111, .imm (.sl (dTys ps))), (1, .mapr 1), (2, .ref 2 0)]) (fun i => [(2, some (.immb 49 4 (dTyc (.mk s n x ps)))), (1, some (setB (m0 ++ namesTys (ps.take i))))]) [3, 4] (fun i => ps.length - i)
        (fun i => i ≤ ps.length ∧ (patsTys (ps.drop i) && differGo (m0 ++ namesTys (ps.take i)) (namesTys (ps.drop i))) = true) 0 ⟨Nat.zero_le _, by simpa [namesTys] using hy⟩ ⟨rfl, tInt (by simp), rfl, rfl, rfl, trivial⟩ ⟨rfl, by simp [namesTys]; rfl, trivial⟩ rfl fun i hi ih => ?_
      refine pd [] rfl (by simp) ?_
      have hi2 := hi.2
      refine dgo_cond rfl (fun h => ?_) (fun h => ?_)
      · simp at h
        obtain ⟨t, ht⟩ := has_get h
        have htk : namesTys (ps.take (i + 1)) = namesTys (ps.take i) ++ namesTy t := by rw [get_take ht, namesTys_append]; simp [namesTys]
        rw [get_drop ht] at hi2
        simp only [patsTys, namesTys, differGo_append] at hi2
        refine pd [] rfl (by simp) ?_
        refine pi rfl (c := dTyc t) (fun _ => ⟨by simp, by simpa using dTys_get ht, by simp⟩) (by simp) ?_
        refine pg [] rfl (by simp) ?_
        refine g_call (fr := []) [(1, 1)] [] rfl (by simp) (tpats_yes t (m0 ++ namesTys (ps.take i)) (by simp only [Bool.and_eq_true] at hi2 ⊢; exact ⟨hi2.1.1, hi2.2.1⟩)) ⟨⟨rfl, rfl, rfl⟩, trivial⟩ rfl rfl rfl rfl ?_
        refine pg [] rfl (by simp) ?_
        exact dgo_again (ih (i + 1) (by omega) ⟨by omega, by rw [htk, ← List.append_assoc]; simp only [Bool.and_eq_true] at hi2 ⊢; exact ⟨hi2.1.2, hi2.2.2⟩⟩) ⟨tInt (w64 (by omega) (by omega)), rfl, rfl, rfl, rfl, trivial⟩ ⟨rfl, by rw [htk, ← List.append_assoc]; rfl, trivial⟩ rfl
      · refine pd [] rfl (by simp) ?_
        simp at h
        refine dgo_end ⟨_, rfl, rfl, ⟨?_, trivial⟩⟩
        rw [List.take_of_length_le (by omega), he]
        rfl
    simp only [patsTy, Bool.and_eq_true] at hy
    obtain ⟨⟨hp, hps⟩, hdf⟩ := hy
    by_cases h1 : s = 1
    · subst h1
      simp [patB, inI] at hp
      refine pg [.a, .a] rfl (by simp [cxOf] <;> grind) ?_
      refine g_pcall rfl (fun _ => want_ok _ (by simp [integerB] at hp ⊢; grind)) (by simp) ?_
      refine pg [.s] rfl (by simp) ?_
      exact dgo_again (J met (by simpa [namesTy, hps] using hdf) (by simp [namesTy])) ⟨rfl, rfl, trivial⟩ ⟨rfl, rfl, trivial⟩ rfl
    by_cases h5 : s = 5
    · subst h5
      simp [patB, inI] at hp
      refine pg [.a, .a] rfl (by simp [cxOf] <;> grind) ?_
      refine g_pcall rfl (fun _ => want_ok _ (by simp [integerB] at hp ⊢; grind)) (by simp) ?_
      refine pg [.s] rfl (by simp) ?_
      exact dgo_again (J met (by simpa [namesTy, hps] using hdf) (by simp [namesTy])) ⟨rfl, rfl, trivial⟩ ⟨rfl, rfl, trivial⟩ rfl
    by_cases h3 : s = 3
    · subst h3
      simp [patB, inI] at hp
      refine pg [.a, .a, .a, .a] rfl (by simp [cxOf] <;> grind) ?_
      refine g_pcall rfl (fun _ => integer_ok n) (by simp [cxOf]) ?_
      refine pg [] rfl (by simp [cxOf]) ?_
      refine g_pcall rfl (fun _ => want_ok _ (by simp [integerB] at hp ⊢; grind)) (by simp) ?_
      refine pg [.s] rfl (by simp) ?_
      exact dgo_again (J met (by simpa [namesTy, hps] using hdf) (by simp [namesTy])) ⟨rfl, rfl, trivial⟩ ⟨rfl, rfl, trivial⟩ rfl
    by_cases h4 : s = 4
    · subst h4
      simp [patB, inI] at hp
      refine pg [.a, .a, .a, .a, .a] rfl (by simp [cxOf] <;> grind) ?_
      refine g_pcall rfl (fun _ => want_ok _ (by obtain ⟨⟨rfl, rfl⟩, ha, hb⟩ := hp; have : n = 0 ∨ n = 1 := (by omega); rcases this with rfl | rfl <;> simp)) (by simp) ?_
      refine pg [.s] rfl (by simp) ?_
      exact dgo_again (J met (by simpa [namesTy, hps] using hdf) (by simp [namesTy])) ⟨rfl, rfl, trivial⟩ ⟨rfl, rfl, trivial⟩ rfl
    by_cases h6 : s = 6
    · subst h6
      simp [patB, inI] at hp
      refine pg [.a, .a, .a, .a, .a, .a] rfl (by simp [cxOf] <;> grind) ?_
      refine g_pcall rfl (fun _ => tGreat_ok x) (by simp [cxOf]) ?_
      refine pg [] rfl (by simp [cxOf]) ?_
      refine g_pcall rfl (fun _ => want_ok _ (by simp [integerB] at hp ⊢; grind)) (by simp) ?_
      refine pg [.s] rfl (by simp) ?_
      exact dgo_again (J met (by simpa [namesTy, hps] using hdf) (by simp [namesTy])) ⟨rfl, rfl, trivial⟩ ⟨rfl, rfl, trivial⟩ rfl
    by_cases h2 : s = 2
    · subst h2
      simp [patB, inI] at hp
      refine pg [.a, .a, .a] rfl (by simp [cxOf] <;> grind) ?_
      refine g_pcall rfl (fun _ => tName_ok x) (by simp [cxOf]) ?_
      refine pg [] rfl (by simp [cxOf]) ?_
      have hx : hasS met x = false := by simpa [namesTy, differGo] using hdf
      refine g_mlook ttP_ok 1 rfl rfl rfl (setK_keys met) (by simp [cxOf]) (z := .bool false) rfl (fun _ => .bool _) (setK_look met x) ?_
      refine pg [] rfl (by simp [cxOf]) ?_
      refine g_pcall rfl (fun _ => want_ok _ (by simp at hp ⊢; rw [hx]; grind)) (by simp) ?_
      refine pg [] rfl (by simp) ?_
      refine g_mset ttP_ok rfl rfl rfl (setK_keys met) ?_
      rw [setK_new met x hx]
      have he : ps = [] := by simpa using hp.1.1
      subst he
      refine pg [.s] rfl (by simp) ?_
      exact dgo_again (J (met ++ [x]) (by simp [patsTys, namesTys, differGo]) (by simp [namesTy, namesTys])) ⟨rfl, rfl, trivial⟩ ⟨rfl, rfl, trivial⟩ rfl
    exfalso
    simp [patB, h1, h2, h3, h4, h5, h6] at hp
termination_by t => SizeOf.sizeOf t
decreasing_by
  all_goals
    have := List.sizeOf_lt_of_mem (List.mem_of_getElem? ht)
    simp_wf
    omega

set_option maxRecDepth 100000 in
theorem tpats_no : ∀ (t : Ty) (met : List Str), (patsTy t && differGo met (namesTy t)) = false → EffC Tryz.prog 72 [.imm (.agg (dTyc t)), .mapr 1] [(1, some (setB met))] (.pan flawV)
  | .mk s n x ps, met, hy => by
    refine effC_ok 0 rfl fun hok => ?_
    have hv : ps.length ≤ 9223372036854775807 := by
      simp [vOkL, vOk, dTyc, maxLen] at hok
      have := hok.1
      omega
    refine effc_of ttP_ok Tryz.func72 (by decide +kernel) rfl [2, 3, 4] rfl rfl ?_
    have J : ∀ m0 : List Str, (patsTys ps && differGo m0 (namesTys ps)) = false → DGo Tryz.prog Tryz.f72.ntmps (nms [(1, some (setB met))]) (RetQ ttP Tryz.f72.results.toList (.pan flawV))
        [.code (tailC Tryz.f72 2)] [(1, .mapr 1), (2, .ref 2 0)] [(2, some (.immb 49 4 (dTyc (.mk s n x ps)))), (1, some (setB m0))] [3, 4] := by
      intro m0 hy 
      refine pd [] rfl (by simp) ?_
      refine dgo_enter (fun i : Nat => [(113, .imm (.int .i64 i)), (112, .imm (.int .i64 ps.length)), (111, .imm (.sl (dTys ps))), (1, .mapr 1), (2, .ref 2 0)]) (fun i => [(2, some (.immb 49 4 (dTyc (.mk s n x ps)))), (1, some (setB (m0 ++ namesTys (ps.take i))))]) [3, 4] (fun i => ps.length - i)
        (fun i => i ≤ ps.length ∧ (patsTys (ps.drop i) && differGo (m0 ++ namesTys (ps.take i)) (namesTys (ps.drop i))) = false) 0 ⟨Nat.zero_le _, by simpa [namesTys] using hy⟩ ⟨rfl, tInt (by simp), rfl, rfl, rfl, trivial⟩ ⟨rfl, by simp [namesTys]; rfl, trivial⟩ rfl fun i hi ih => ?_
      refine pd [] rfl (by simp) ?_
      have hi2 := hi.2
      refine dgo_cond rfl (fun h => ?_) (fun h => ?_)
      · simp at h
        obtain ⟨t, ht⟩ := has_get h
        have htk : namesTys (ps.take (i + 1)) = namesTys (ps.take i) ++ namesTy t := by rw [get_take ht, namesTys_append]; simp [namesTys]
        rw [get_drop ht] at hi2
        simp only [patsTys, namesTys, differGo_append] at hi2
        refine pd [] rfl (by simp) ?_
        refine pi rfl (c := dTyc t) (fun _ => ⟨by simp, by simpa using dTys_get ht, by simp⟩) (by simp) ?_
        refine pg [] rfl (by simp) ?_
        by_cases hz : (patsTy t && differGo (m0 ++ namesTys (ps.take i)) (namesTy t)) = true
        · refine g_call (fr := []) [(1, 1)] [] rfl (by simp) (tpats_yes t (m0 ++ namesTys (ps.take i)) hz) ⟨⟨rfl, rfl, rfl⟩, trivial⟩ rfl rfl rfl rfl ?_
          refine pg [] rfl (by simp) ?_
          exact dgo_again (ih (i + 1) (by omega) ⟨by omega, by rw [htk, ← List.append_assoc]; simp only [Bool.and_eq_true] at hz; rw [hz.1, hz.2] at hi2; simpa using hi2⟩) ⟨tInt (w64 (by omega) (by omega)), rfl, rfl, rfl, rfl, trivial⟩ ⟨rfl, by rw [htk, ← List.append_assoc]; rfl, trivial⟩ rfl
        · exact dgo_callpan [(1, 1)] rfl (by simp) (tpats_no t (m0 ++ namesTys (ps.take i)) (by simpa using hz)) ⟨⟨rfl, rfl, rfl⟩, trivial⟩ rfl rfl
      · exfalso
        simp at h
        rw [List.drop_eq_nil_of_le (by omega)] at hi2
        simp [patsTys, namesTys, differGo] at hi2
    by_cases h1 : s = 1
    · subst h1
      refine pg [.a, .a] rfl (by simp [cxOf] <;> grind) ?_
      by_cases hp : patB 1 n x ps.length = true
      · have hps : (patsTys ps && differGo met (namesTys ps)) = false := by simpa [patsTy, hp, namesTy] using hy
        simp [patB, inI] at hp
        refine g_pcall rfl (fun _ => want_ok _ (by simp [integerB] at hp ⊢; grind)) (by simp) ?_
        refine pg [.s] rfl (by simp) ?_
        exact dgo_again (J met hps) ⟨rfl, rfl, trivial⟩ ⟨rfl, rfl, trivial⟩ rfl
      · simp [patB, inI] at hp
        exact dgo_callpan [] rfl (by simp) (want_pan _ (by simp [integerB] at hp ⊢; grind)) trivial rfl rfl
    by_cases h5 : s = 5
    · subst h5
      refine pg [.a, .a] rfl (by simp [cxOf] <;> grind) ?_
      by_cases hp : patB 5 n x ps.length = true
      · have hps : (patsTys ps && differGo met (namesTys ps)) = false := by simpa [patsTy, hp, namesTy] using hy
        simp [patB, inI] at hp
        refine g_pcall rfl (fun _ => want_ok _ (by simp [integerB] at hp ⊢; grind)) (by simp) ?_
        refine pg [.s] rfl (by simp) ?_
        exact dgo_again (J met hps) ⟨rfl, rfl, trivial⟩ ⟨rfl, rfl, trivial⟩ rfl
      · simp [patB, inI] at hp
        exact dgo_callpan [] rfl (by simp) (want_pan _ (by simp [integerB] at hp ⊢; grind)) trivial rfl rfl
    by_cases h3 : s = 3
    · subst h3
      refine pg [.a, .a, .a, .a] rfl (by simp [cxOf] <;> grind) ?_
      refine g_pcall rfl (fun _ => integer_ok n) (by simp [cxOf]) ?_
      refine pg [] rfl (by simp [cxOf]) ?_
      by_cases hp : patB 3 n x ps.length = true
      · have hps : (patsTys ps && differGo met (namesTys ps)) = false := by simpa [patsTy, hp, namesTy] using hy
        simp [patB, inI] at hp
        refine g_pcall rfl (fun _ => want_ok _ (by simp [integerB] at hp ⊢; grind)) (by simp) ?_
        refine pg [.s] rfl (by simp) ?_
        exact dgo_again (J met hps) ⟨rfl, rfl, trivial⟩ ⟨rfl, rfl, trivial⟩ rfl
      · simp [patB, inI] at hp
        exact dgo_callpan [] rfl (by simp) (want_pan _ (by simp [integerB] at hp ⊢; grind)) trivial rfl rfl
    by_cases h4 : s = 4
    · subst h4
      refine pg [.a, .a, .a, .a, .a] rfl (by simp [cxOf] <;> grind) ?_
      by_cases hp : patB 4 n x ps.length = true
      · have hps : (patsTys ps && differGo met (namesTys ps)) = false := by simpa [patsTy, hp, namesTy] using hy
        simp [patB, inI] at hp
        refine g_pcall rfl (fun _ => want_ok _ (by obtain ⟨⟨rfl, rfl⟩, ha, hb⟩ := hp; have : n = 0 ∨ n = 1 := (by omega); rcases this with rfl | rfl <;> simp)) (by simp) ?_
        refine pg [.s] rfl (by simp) ?_
        exact dgo_again (J met hps) ⟨rfl, rfl, trivial⟩ ⟨rfl, rfl, trivial⟩ rfl
      · simp [patB, inI] at hp
        exact dgo_callpan [] rfl (by simp) (want_pan _ (by simp [integerB] at hp ⊢; grind)) trivial rfl rfl
    by_cases h6 : s = 6
    · subst h6
      refine pg [.a, .a, .a, .a, .a, .a] rfl (by simp [cxOf] <;> grind) ?_
      refine g_pcall rfl (fun _ => tGreat_ok x) (by simp [cxOf]) ?_
      refine pg [] rfl (by simp [cxOf]) ?_
      by_cases hp : patB 6 n x ps.length = true
      · have hps : (patsTys ps && differGo met (namesTys ps)) = false := by simpa [patsTy, hp, namesTy] using hy
        simp [patB, inI] at hp
        refine g_pcall rfl (fun _ => want_ok _ (by simp [integerB] at hp ⊢; grind)) (by simp) ?_
        refine pg [.s] rfl (by simp) ?_
        exact dgo_again (J met hps) ⟨rfl, rfl, trivial⟩ ⟨rfl, rfl, trivial⟩ rfl
      · simp [patB, inI] at hp
        exact dgo_callpan [] rfl (by simp) (want_pan _ (by simp [integerB] at hp ⊢; grind)) trivial rfl rfl
    by_cases h2 : s = 2
    · subst h2
      refine pg [.a, .a, .a] rfl (by simp [cxOf] <;> grind) ?_
      refine g_pcall rfl (fun _ => tName_ok x) (by simp [cxOf]) ?_
      refine pg [] rfl (by simp [cxOf]) ?_
      refine g_mlook ttP_ok 1 rfl rfl rfl (setK_keys met) (by simp [cxOf]) (z := .bool false) rfl (fun _ => .bool _) (setK_look met x) ?_
      refine pg [] rfl (by simp [cxOf]) ?_
      refine dgo_callpan [] rfl (by simp) (want_pan _ ?_) trivial rfl rfl
      simp [patsTy, patB, namesTy, differGo] at hy
      cases hm : hasS met x with
      | true => simp
      | false =>
        simp only [hm] at hy
        by_cases hq : ps = []
        · subst hq; simp [patsTys] at hy ⊢; grind
        · simp [hq]
    refine pg [.f, .f, .f, .f, .f, .f] rfl (by simp [h1, h2, h3, h4, h5, h6]) ?_
    exact dgo_callpan [] rfl (by simp) (want_pan _ rfl) trivial rfl rfl
termination_by t => SizeOf.sizeOf t
decreasing_by
  all_goals
    have := List.sizeOf_lt_of_mem (List.mem_of_getElem? ht)
    simp_wf
    omega

def checkPatB (t : Ty) : Bool := decide (nodesTy t ≤ 12) && (patsTy t && differB (namesTy t))

set_option maxRecDepth 100000 in
theorem checkPat1_yes (t : Ty) (h : checkPatB t = true) : EffC Tryz.prog 70 [.ref 1 0] [(1, some (.immb 49 4 (dTyc t)))] (.ret unitV [(1, some (.immb 49 4 (dTyc t)))]) := by
  simp only [checkPatB, Bool.and_eq_true, decide_eq_true_eq] at h
  refine effc_of ttP_ok Tryz.func70 (by decide +kernel) rfl [2, 3, 4] rfl rfl ?_
  refine pg [] rfl (by simp) ?_
  refine g_call (fr := []) [(2, 1)] [] rfl (by simp) (gpat_yes t 12 (by omega) (by decide)) ⟨⟨rfl, rfl, rfl⟩, trivial⟩ rfl rfl rfl rfl ?_
  refine pg [] rfl (by simp) ?_
  refine g_mkmap rfl ?_
  refine pg [] rfl (by simp) ?_
  refine g_call (fr := []) [(3, 1)] [] rfl (by simp) (tpats_yes t [] (by simpa [differB] using h.2)) ⟨⟨rfl, rfl, rfl⟩, trivial⟩ rfl rfl rfl rfl ?_
  refine pg [] rfl (by simp) ?_
  exact dgo_end ⟨_, rfl, rfl, ⟨rfl, trivial⟩⟩

set_option maxRecDepth 100000 in
theorem checkPat1_no (t : Ty) (h : checkPatB t = false) : EffC Tryz.prog 70 [.ref 1 0] [(1, some (.immb 49 4 (dTyc t)))] (.pan flawV) := by
  refine effc_of ttP_ok Tryz.func70 (by decide +kernel) rfl [2, 3, 4] rfl rfl ?_
  refine pg [] rfl (by simp) ?_
  by_cases h1 : nodesTy t ≤ 12
  · refine g_call (fr := []) [(2, 1)] [] rfl (by simp) (gpat_yes t 12 (by omega) (by decide)) ⟨⟨rfl, rfl, rfl⟩, trivial⟩ rfl rfl rfl rfl ?_
    refine pg [] rfl (by simp) ?_
    refine g_mkmap rfl ?_
    refine pg [] rfl (by simp) ?_
    exact dgo_callpan [(3, 1)] rfl (by simp) (tpats_no t [] (by simpa [checkPatB, h1, differB] using h)) ⟨⟨rfl, rfl, rfl⟩, trivial⟩ rfl rfl
  · exact dgo_callpan [(2, 1)] rfl (by simp) (gpat_no t 12 (by omega) (by decide) (by decide)) ⟨⟨rfl, rfl, rfl⟩, trivial⟩ rfl rfl

set_option maxRecDepth 100000 in
theorem CheckPat_ok (t : Ty) : PureC Tryz.prog 31 [.agg (dTyc t)] (errI (checkPatB t)) := by
  refine effc_of ttP_ok Tryz.func31 (by decide +kernel) rfl [1, 2, 3] rfl rfl ?_
  refine pg [] rfl (by simp) ?_
  cases h : checkPatB t with
  | true =>
    refine g_call (fr := []) [(1, 1)] [] rfl (by simp) (checked1_yes Tryz.func70 (by decide +kernel) rfl (checkPat1_yes t h)) ⟨⟨rfl, rfl, rfl⟩, trivial⟩ rfl rfl rfl rfl ?_
    refine pg [] rfl (by simp) ?_
    exact dgo_ret ⟨_, rfl, tV rfl, trivial⟩
  | false =>
    refine g_call (fr := []) [(1, 1)] [] rfl (by simp) (checked1_no Tryz.func70 (by decide +kernel) rfl (checkPat1_no t h)) ⟨⟨rfl, rfl, rfl⟩, trivial⟩ rfl rfl rfl rfl ?_
    refine pg [] rfl (by simp) ?_
    exact dgo_ret ⟨_, rfl, tV rfl, trivial⟩

end Go.Hk

/- Contracts of term: what nodes have. -/
namespace Go.Hk
open Go.Proofs

def ttS : TT := ttP ++ [
  (176, ⟨.struct [(0, 4), (1, 4), (2, 4), (3, 3)], true, 4, 16, [.imm (.bool false), .imm (.bool false), .imm (.bool false), .imm (.int .i64 0)]⟩)]
theorem ttS_ok : TTok Tryz.prog ttS := .of_eq (l := [4, 3, 9, 26, 53, 49, 22, 24, 5, 51, 50, 29, 23, 47, 113, 66, 150, 63, 64, 111, 109, 30, 173, 101, 1, 79, 176]) (by kernel_rfl)

section
variable {n : Nat} {F : List Nat} {Q : DQ} {env env' : Env} {st st' : St} {ids ids' : List Nat} {k todo : List DI} {ob : List Prop}
theorem sd (path : List Pt) (h : run ttS n 300 path todo env st ids [] = .at k env' st' ids' ob) (hob : allP ob) (hd : G Tryz.prog n F Q k env' st' ids') : DGo Tryz.prog n F Q todo env st ids := d_run ttS_ok mixed 300 path h hob hd
theorem sg (path : List Pt) (h : run ttS n 300 path todo env st ids [] = .at k env' st' ids' ob) (hob : allP ob) (hd : G Tryz.prog n F Q k env' st' ids') : G Tryz.prog n F Q todo env st ids := g_run ttS_ok mixed 300 path h hob hd
theorem si {es : List (List V)} {m : Int} {sz : Nat} {e : TypeId} {g : Option (Bool × Bool)} {ob : List Prop} {t : Nat} {todo' : List DI} {c : List V} (h : pidx ttS n env todo = some ⟨es, m, sz, e, g, ob, some t, todo'⟩)
    (hc : cxOf g → 0 ≤ m ∧ es[m.toNat]? = some c ∧ c.length = sz) (hob : allP ob) (hk : G Tryz.prog n F Q todo' ((t, gD g (.ip e c 0)) :: env) st ids) : G Tryz.prog n F Q todo env st ids := g_index ttS_ok h hc hob hk
end

/-- What a node has: a number, a text, patterns, how many Kids; and whether there is such a node. -/
structure Has where
  n : Bool
  text : Bool
  pats : Bool
  kids : Int
  is : Bool

def shapeH (op : Int) (k p : Nat) : Has :=
  if op = 1 ∨ op = 2 then ⟨true, false, false, 0, true⟩
  else if op = 3 ∨ op = 21 ∨ op = 25 ∨ op = 28 then ⟨false, false, false, 0, true⟩
  else if op = 4 then ⟨false, true, false, 0, true⟩
  else if op = 5 ∨ op = 27 then ⟨false, true, false, 1, true⟩
  else if op = 7 then ⟨false, true, false, 2, true⟩
  else if op = 8 then ⟨false, false, false, 3, true⟩
  else if op = 14 then ⟨false, true, false, (if (3 : Int) < k then 3 else k), true⟩
  else if op = 15 then ⟨false, false, true, (IntKind.i64.wrap (1 + (p : Int))), true⟩
  else if op = 16 ∨ op = 17 ∨ op = 19 ∨ op = 20 ∨ op = 23 ∨ op = 26 then ⟨false, false, false, 1, true⟩
  else if op = 24 then ⟨true, false, false, 1, true⟩
  else if op = 6 ∨ op = 9 ∨ op = 10 ∨ op = 11 ∨ op = 12 ∨ op = 13 ∨ op = 18 ∨ op = 22 then ⟨false, false, false, 2, true⟩
  else ⟨false, false, false, 0, false⟩

def dHas (h : Has) : List V := [.bool h.n, .bool h.text, .bool h.pats, .int .i64 h.kids]

set_option maxRecDepth 100000 in
set_option maxHeartbeats 1000000 in
theorem shape_ok (op n : Int) (x : Str) (ks : List Tm) (ps : List Ty) : PureC Tryz.prog 130 [.agg (dTmc (.mk op n x ks ps))] (.tup [.agg (dHas (shapeH op ks.length ps.length)), .bool (shapeH op ks.length ps.length).is]) := by
  refine pureC_ok fun hv => ?_
  simp [vOkL, vOk, dTmc, maxLen] at hv
  refine effc_of ttS_ok Tryz.func130 (by decide +kernel) rfl [1, 2, 3] rfl rfl ?_
  by_cases h1 : op = 1
  · subst h1
    refine sg [.a, .a] rfl (by simp) ?_
    refine dgo_ret ⟨_, rfl, tV ?_, trivial⟩
    simp [shapeH, dHas]
  by_cases h2 : op = 2
  · subst h2
    refine sg [.a, .a] rfl (by simp) ?_
    refine dgo_ret ⟨_, rfl, tV ?_, trivial⟩
    simp [shapeH, dHas]
  by_cases h3 : op = 3
  · subst h3
    refine sg [.a, .a, .a, .a] rfl (by simp) ?_
    refine dgo_ret ⟨_, rfl, tV ?_, trivial⟩
    simp [shapeH, dHas]
  by_cases h21 : op = 21
  · subst h21
    refine sg [.a, .a, .a, .a, .a] rfl (by simp) ?_
    refine dgo_ret ⟨_, rfl, tV ?_, trivial⟩
    simp [shapeH, dHas]
  by_cases h25 : op = 25
  · subst h25
    refine sg [.a, .a, .a, .a, .a, .a] rfl (by simp) ?_
    refine dgo_ret ⟨_, rfl, tV ?_, trivial⟩
    simp [shapeH, dHas]
  by_cases h28 : op = 28
  · subst h28
    refine sg [.a, .a, .a, .a, .a, .a] rfl (by simp) ?_
    refine dgo_ret ⟨_, rfl, tV ?_, trivial⟩
    simp [shapeH, dHas]
  by_cases h4 : op = 4
  · subst h4
    refine sg [.a, .a, .a, .a, .a, .a, .a] rfl (by simp) ?_
    refine dgo_ret ⟨_, rfl, tV ?_, trivial⟩
    simp [shapeH, dHas]
  by_cases h5 : op = 5
  · subst h5
    refine sg [.a, .a, .a, .a, .a, .a, .a, .a, .a] rfl (by simp) ?_
    refine dgo_ret ⟨_, rfl, tV ?_, trivial⟩
    simp [shapeH, dHas]
  by_cases h27 : op = 27
  · subst h27
    refine sg [.a, .a, .a, .a, .a, .a, .a, .a, .a] rfl (by simp) ?_
    refine dgo_ret ⟨_, rfl, tV ?_, trivial⟩
    simp [shapeH, dHas]
  by_cases h7 : op = 7
  · subst h7
    refine sg [.a, .a, .a, .a, .a, .a, .a, .a, .a, .a] rfl (by simp) ?_
    refine dgo_ret ⟨_, rfl, tV ?_, trivial⟩
    simp [shapeH, dHas]
  by_cases h8 : op = 8
  · subst h8
    refine sg [.a, .a, .a, .a, .a, .a, .a, .a, .a, .a, .a] rfl (by simp) ?_
    refine dgo_ret ⟨_, rfl, tV ?_, trivial⟩
    simp [shapeH, dHas]
  by_cases h14 : op = 14
  · subst h14
    refine sg [.a, .a, .a, .a, .a, .a, .a, .a, .a, .a, .a, .a] rfl (by simp) ?_
    refine dgo_ret ⟨_, rfl, tV ?_, trivial⟩
    simp [shapeH, dHas]
  by_cases h15 : op = 15
  · subst h15
    refine sg [.a, .a, .a, .a, .a, .a, .a, .a, .a, .a, .a, .a, .a] rfl (by simp) ?_
    refine dgo_ret ⟨_, rfl, tV ?_, trivial⟩
    simp [shapeH, dHas]
  by_cases h16 : op = 16
  · subst h16
    refine sg [.a, .a, .a, .a, .a, .a, .a, .a, .a, .a, .a, .a, .a, .a, .a] rfl (by simp) ?_
    refine dgo_ret ⟨_, rfl, tV ?_, trivial⟩
    simp [shapeH, dHas]
  by_cases h17 : op = 17
  · subst h17
    refine sg [.a, .a, .a, .a, .a, .a, .a, .a, .a, .a, .a, .a, .a, .a, .a, .a] rfl (by simp) ?_
    refine dgo_ret ⟨_, rfl, tV ?_, trivial⟩
    simp [shapeH, dHas]
  by_cases h19 : op = 19
  · subst h19
    refine sg [.a, .a, .a, .a, .a, .a, .a, .a, .a, .a, .a, .a, .a, .a, .a, .a, .a] rfl (by simp) ?_
    refine dgo_ret ⟨_, rfl, tV ?_, trivial⟩
    simp [shapeH, dHas]
  by_cases h20 : op = 20
  · subst h20
    refine sg [.a, .a, .a, .a, .a, .a, .a, .a, .a, .a, .a, .a, .a, .a, .a, .a, .a, .a] rfl (by simp) ?_
    refine dgo_ret ⟨_, rfl, tV ?_, trivial⟩
    simp [shapeH, dHas]
  by_cases h23 : op = 23
  · subst h23
    refine sg [.a, .a, .a, .a, .a, .a, .a, .a, .a, .a, .a, .a, .a, .a, .a, .a, .a, .a, .a] rfl (by simp) ?_
    refine dgo_ret ⟨_, rfl, tV ?_, trivial⟩
    simp [shapeH, dHas]
  by_cases h26 : op = 26
  · subst h26
    refine sg [.a, .a, .a, .a, .a, .a, .a, .a, .a, .a, .a, .a, .a, .a, .a, .a, .a, .a, .a] rfl (by simp) ?_
    refine dgo_ret ⟨_, rfl, tV ?_, trivial⟩
    simp [shapeH, dHas]
  by_cases h24 : op = 24
  · subst h24
    refine sg [.a, .a, .a, .a, .a, .a, .a, .a, .a, .a, .a, .a, .a, .a, .a, .a, .a, .a, .a, .a] rfl (by simp) ?_
    refine dgo_ret ⟨_, rfl, tV ?_, trivial⟩
    simp [shapeH, dHas]
  by_cases h6 : op = 6
  · subst h6
    refine sg [.a, .a, .a, .a, .a, .a, .a, .a, .a, .a, .a, .a, .a, .a, .a, .a, .a, .a, .a, .a, .a, .a] rfl (by simp) ?_
    refine dgo_ret ⟨_, rfl, tV ?_, trivial⟩
    simp [shapeH, dHas]
  by_cases h9 : op = 9
  · subst h9
    refine sg [.a, .a, .a, .a, .a, .a, .a, .a, .a, .a, .a, .a, .a, .a, .a, .a, .a, .a, .a, .a, .a, .a, .a] rfl (by simp) ?_
    refine dgo_ret ⟨_, rfl, tV ?_, trivial⟩
    simp [shapeH, dHas]
  by_cases h10 : op = 10
  · subst h10
    refine sg [.a, .a, .a, .a, .a, .a, .a, .a, .a, .a, .a, .a, .a, .a, .a, .a, .a, .a, .a, .a, .a, .a, .a, .a] rfl (by simp) ?_
    refine dgo_ret ⟨_, rfl, tV ?_, trivial⟩
    simp [shapeH, dHas]
  by_cases h11 : op = 11
  · subst h11
    refine sg [.a, .a, .a, .a, .a, .a, .a, .a, .a, .a, .a, .a, .a, .a, .a, .a, .a, .a, .a, .a, .a, .a, .a, .a, .a] rfl (by simp) ?_
    refine dgo_ret ⟨_, rfl, tV ?_, trivial⟩
    simp [shapeH, dHas]
  by_cases h12 : op = 12
  · subst h12
    refine sg [.a, .a, .a, .a, .a, .a, .a, .a, .a, .a, .a, .a, .a, .a, .a, .a, .a, .a, .a, .a, .a, .a, .a, .a, .a, .a] rfl (by simp) ?_
    refine dgo_ret ⟨_, rfl, tV ?_, trivial⟩
    simp [shapeH, dHas]
  by_cases h13 : op = 13
  · subst h13
    refine sg [.a, .a, .a, .a, .a, .a, .a, .a, .a, .a, .a, .a, .a, .a, .a, .a, .a, .a, .a, .a, .a, .a, .a, .a, .a, .a, .a] rfl (by simp) ?_
    refine dgo_ret ⟨_, rfl, tV ?_, trivial⟩
    simp [shapeH, dHas]
  by_cases h18 : op = 18
  · subst h18
    refine sg [.a, .a, .a, .a, .a, .a, .a, .a, .a, .a, .a, .a, .a, .a, .a, .a, .a, .a, .a, .a, .a, .a, .a, .a, .a, .a, .a, .a] rfl (by simp) ?_
    refine dgo_ret ⟨_, rfl, tV ?_, trivial⟩
    simp [shapeH, dHas]
  by_cases h22 : op = 22
  · subst h22
    refine sg [.a, .a, .a, .a, .a, .a, .a, .a, .a, .a, .a, .a, .a, .a, .a, .a, .a, .a, .a, .a, .a, .a, .a, .a, .a, .a, .a, .a] rfl (by simp) ?_
    refine dgo_ret ⟨_, rfl, tV ?_, trivial⟩
    simp [shapeH, dHas]
  refine sg [.f, .f, .f, .f, .f, .f, .f, .f, .f, .f, .f, .f, .f, .f, .f, .f, .f, .f, .f, .f, .f, .f, .f, .f, .f, .f, .f, .f] rfl (by simp [h1, h2, h3, h21, h25, h28, h4, h5, h27, h7, h8, h14, h15, h16, h17, h19, h20, h23, h26, h24, h6, h9, h10, h11, h12, h13, h18, h22]) ?_
  refine dgo_ret ⟨_, rfl, tV ?_, trivial⟩
  simp [shapeH, dHas, h1, h2, h3, h21, h25, h28, h4, h5, h27, h7, h8, h14, h15, h16, h17, h19, h20, h23, h26, h24, h6, h9, h10, h11, h12, h13, h18, h22]

end Go.Hk

/- Contracts of term: nodes. -/
namespace Go.Hk
open Go.Proofs

def headB (op n : Int) (x : Str) (k p : Nat) : Bool := let h := shapeH op k p
  h.is && ((k : Int) == h.kids) && (h.n || n == 0) && (h.text || x == []) && (h.pats || (p : Int) == 0)
def lastB (op : Int) (x : Str) (k p : Nat) : Bool := !((shapeH op k p).text && op != 14) || nameS x


set_option maxRecDepth 100000 in
theorem tnode_last_yes (op n : Int) (x : Str) (ks : List Tm) (ps : List Ty) (hl : lastB op x ks.length ps.length = true) : DGo Tryz.prog Tryz.f102.ntmps (nms []) (RetQ ttS Tryz.f102.results.toList (.ret unitV []))
    [.code (tailC Tryz.f102 4)] [(1, .ref 1 0), (2, .ref 2 0)] [(2, some (.immb 176 4 (dHas (shapeH op ks.length ps.length)))), (1, some (.immb 26 5 (dTmc (.mk op n x ks ps))))] [3, 4] := by
  refine sd [] rfl (by simp [cxOf]) ?_
  refine dgo_cond rfl (fun h => ?_) (fun h => ?_)
  · refine sd [] rfl (by simp) ?_
    refine g_pcall rfl (fun _ => tName_ok x) (by simp [cxOf]) ?_
    refine sg [] rfl (by simp) ?_
    have hx : nameS x = true := by simp [lastB] at hl h; grind
    refine g_pcall rfl (fun _ => want_ok _ hx) (by simp) ?_
    refine sg [] rfl (by simp) ?_
    exact dgo_end ⟨_, rfl, rfl, trivial⟩
  · refine sd [] rfl (by simp) ?_
    exact dgo_end ⟨_, rfl, rfl, trivial⟩

set_option maxRecDepth 100000 in
theorem tnode_last_no (op n : Int) (x : Str) (ks : List Tm) (ps : List Ty) (hl : lastB op x ks.length ps.length = false) : DGo Tryz.prog Tryz.f102.ntmps (nms []) (RetQ ttS Tryz.f102.results.toList (.pan flawV))
    [.code (tailC Tryz.f102 4)] [(1, .ref 1 0), (2, .ref 2 0)] [(2, some (.immb 176 4 (dHas (shapeH op ks.length ps.length)))), (1, some (.immb 26 5 (dTmc (.mk op n x ks ps))))] [3, 4] := by
  refine sd [] rfl (by simp [cxOf]) ?_
  refine dgo_cond rfl (fun h => ?_) (fun h => ?_)
  · refine sd [] rfl (by simp) ?_
    refine g_pcall rfl (fun _ => tName_ok x) (by simp [cxOf]) ?_
    refine sg [] rfl (by simp) ?_
    have hx : nameS x = false := by simp [lastB] at hl h; grind
    exact dgo_callpan [] rfl (by simp) (want_pan _ hx) trivial rfl rfl
  · exfalso
    simp [lastB] at hl h
    grind

def extraB (op n : Int) (x : Str) (ps : List Ty) : Bool :=
  if op = 1 then integerB n
  else if op = 2 then n == 0 || n == 1
  else if op = 24 then decide (0 ≤ n) && decide (n < 4)
  else if op = 14 then greatS x
  else if op = 15 then decide (1 ≤ (ps.length : Int)) && decide ((ps.length : Int) ≤ 5) && ps.all checkPatB
  else true
def nodeT (op n : Int) (x : Str) (k : Nat) (ps : List Ty) : Bool := headB op n x k ps.length && extraB op n x ps && lastB op x k ps.length

set_option maxRecDepth 100000 in
theorem tnode_yes (op n : Int) (x : Str) (ks : List Tm) (ps : List Ty) (hy : nodeT op n x ks.length ps = true) : EffC Tryz.prog 102 [.imm (.agg (dTmc (.mk op n x ks ps)))] [] (.ret unitV []) := by
  simp only [nodeT] at hy
  refine effc_of ttS_ok Tryz.func102 (by decide +kernel) rfl [1, 2, 3, 4] rfl rfl ?_
  refine sg [] rfl (by simp) ?_
  refine g_pcall rfl (fun _ => shape_ok op n x ks ps) (by simp [cxOf]) ?_
  refine sg [] rfl (by simp [cxOf, dHas] <;> grind) ?_
  simp only [Bool.and_eq_true] at hy
  obtain ⟨⟨hh, he⟩, hl⟩ := hy
  refine g_pcall rfl (fun _ => want_ok _ (by simp [headB] at hh ⊢; grind)) (by simp) ?_
  by_cases h1 : op = 1
  · subst h1
    refine sg [.a] rfl (by simp [cxOf]) ?_
    refine g_pcall rfl (fun _ => integer_ok n) (by simp) ?_
    refine sg [] rfl (by simp) ?_
    simp [extraB] at he
    refine g_pcall rfl (fun _ => want_ok _ (by first | exact he | (simp at he ⊢; grind) | (simp; grind) | grind)) (by simp) ?_
    refine sg [.s] rfl (by simp) ?_
    exact dgo_again (tnode_last_yes _ n x ks ps hl) ⟨rfl, rfl, trivial⟩ ⟨rfl, rfl, trivial⟩ rfl
  by_cases h2 : op = 2
  · subst h2
    refine sg [.a, .a] rfl (by simp [cxOf]) ?_
    simp [extraB] at he
    refine g_pcall rfl (fun _ => want_ok _ (by first | exact he | (simp at he ⊢; grind) | (simp; grind) | grind)) (by simp) ?_
    refine sg [.s] rfl (by simp) ?_
    exact dgo_again (tnode_last_yes _ n x ks ps hl) ⟨rfl, rfl, trivial⟩ ⟨rfl, rfl, trivial⟩ rfl
  by_cases h24 : op = 24
  · subst h24
    refine sg [.a, .a, .a] rfl (by simp [cxOf]) ?_
    simp [extraB] at he
    refine g_pcall rfl (fun _ => want_ok _ (by first | exact he | (simp at he ⊢; grind) | (simp; grind) | grind)) (by simp) ?_
    refine sg [.s] rfl (by simp) ?_
    exact dgo_again (tnode_last_yes _ n x ks ps hl) ⟨rfl, rfl, trivial⟩ ⟨rfl, rfl, trivial⟩ rfl
  by_cases h14 : op = 14
  · subst h14
    refine sg [.a, .a, .a, .a] rfl (by simp [cxOf]) ?_
    refine g_pcall rfl (fun _ => tGreat_ok x) (by simp) ?_
    refine sg [] rfl (by simp) ?_
    simp [extraB] at he
    refine g_pcall rfl (fun _ => want_ok _ (by first | exact he | (simp at he ⊢; grind) | (simp; grind) | grind)) (by simp) ?_
    refine sg [.s] rfl (by simp) ?_
    exact dgo_again (tnode_last_yes _ n x ks ps hl) ⟨rfl, rfl, trivial⟩ ⟨rfl, rfl, trivial⟩ rfl
  by_cases h15 : op = 15
  · subst h15
    refine sg [.a, .a, .a, .a, .a] rfl (by simp [cxOf]) ?_
    simp [extraB] at he
    refine g_pcall rfl (fun _ => want_ok _ (by simp; grind)) (by simp) ?_
    refine sg [] rfl (by simp) ?_
    refine dgo_enter (fun i : Nat => [(101, .imm (.int .i64 i)), (100, .imm (.int .i64 ps.length)), (99, .imm (.sl (dTys ps))), (1, .ref 1 0), (2, .ref 2 0)]) (fun _ => [(2, some (.immb 176 4 (dHas (shapeH 15 ks.length ps.length)))), (1, some (.immb 26 5 (dTmc (.mk 15 n x ks ps))))]) [3, 4] (fun i => ps.length - i)
      (fun i => i ≤ ps.length ∧ (ps.drop i).all checkPatB = true) 0 ⟨Nat.zero_le _, by simpa using he.2⟩ ⟨rfl, tInt (by simp), rfl, rfl, rfl, trivial⟩ ⟨rfl, rfl, trivial⟩ rfl fun i hi ih => ?_
    refine sd [] rfl (by simp) ?_
    have hi2 := hi.2
    refine dgo_cond rfl (fun h => ?_) (fun h => ?_)
    · simp at h
      obtain ⟨t, ht⟩ := has_get h
      rw [get_drop ht, List.all_cons] at hi2
      refine sd [] rfl (by simp) ?_
      refine si rfl (c := dTyc t) (fun _ => ⟨by simp, by simpa using dTys_get ht, by simp⟩) (by simp) ?_
      refine sg [] rfl (by simp) ?_
      refine g_pcall rfl (fun _ => CheckPat_ok t) (by simp) ?_
      refine sg [] rfl (by simp) ?_
      simp only [Bool.and_eq_true] at hi2
      have hz := hi2.1
      refine g_pcall rfl (fun _ => want_ok _ (by first | rfl | (rw [hz]; rfl))) (by simp) ?_
      refine sg [] rfl (by simp) ?_
      exact dgo_again (ih (i + 1) (by omega) ⟨by omega, hi2.2⟩) ⟨tInt (w64 (by omega) (by omega)), rfl, rfl, rfl, rfl, trivial⟩ ⟨rfl, rfl, trivial⟩ rfl
    · simp at h
      rw [List.drop_eq_nil_of_le (by omega)] at hi2
      refine sd [.s] rfl (by simp) ?_
      exact dgo_again (tnode_last_yes _ n x ks ps hl) ⟨rfl, rfl, trivial⟩ ⟨rfl, rfl, trivial⟩ rfl
  refine sg [.f, .f, .f, .f, .f, .s] rfl (by simp [h1, h2, h24, h14, h15]) ?_
  exact dgo_again (tnode_last_yes _ n x ks ps hl) ⟨rfl, rfl, trivial⟩ ⟨rfl, rfl, trivial⟩ rfl

set_option maxRecDepth 100000 in
theorem tnode_no (op n : Int) (x : Str) (ks : List Tm) (ps : List Ty) (hy : nodeT op n x ks.length ps = false) : EffC Tryz.prog 102 [.imm (.agg (dTmc (.mk op n x ks ps)))] [] (.pan flawV) := by
  simp only [nodeT] at hy
  refine effc_of ttS_ok Tryz.func102 (by decide +kernel) rfl [1, 2, 3, 4] rfl rfl ?_
  refine sg [] rfl (by simp) ?_
  refine g_pcall rfl (fun _ => shape_ok op n x ks ps) (by simp [cxOf]) ?_
  refine sg [] rfl (by simp [cxOf, dHas] <;> grind) ?_
  by_cases hh : headB op n x ks.length ps.length = true
  rotate_left
  · exact dgo_callpan [] rfl (by simp) (want_pan _ (by simp [headB] at hh ⊢; grind)) trivial rfl rfl
  rw [hh] at hy
  refine g_pcall rfl (fun _ => want_ok _ (by simp [headB] at hh ⊢; grind)) (by simp) ?_
  by_cases h1 : op = 1
  · subst h1
    refine sg [.a] rfl (by simp [cxOf]) ?_
    refine g_pcall rfl (fun _ => integer_ok n) (by simp) ?_
    refine sg [] rfl (by simp) ?_
    by_cases he : extraB 1 n x ps = true
    · have hl : lastB 1 x ks.length ps.length = false := by simpa [he] using hy
      simp [extraB] at he
      refine g_pcall rfl (fun _ => want_ok _ (by first | exact he | (simp at he ⊢; grind) | (simp; grind) | grind)) (by simp) ?_
      refine sg [.s] rfl (by simp) ?_
      exact dgo_again (tnode_last_no _ n x ks ps hl) ⟨rfl, rfl, trivial⟩ ⟨rfl, rfl, trivial⟩ rfl
    · simp [extraB] at he
      exact dgo_callpan [] rfl (by simp) (want_pan _ (by first | exact he | (simp at he ⊢; grind) | (simp; grind) | grind)) trivial rfl rfl
  by_cases h2 : op = 2
  · subst h2
    refine sg [.a, .a] rfl (by simp [cxOf]) ?_
    by_cases he : extraB 2 n x ps = true
    · have hl : lastB 2 x ks.length ps.length = false := by simpa [he] using hy
      simp [extraB] at he
      refine g_pcall rfl (fun _ => want_ok _ (by first | exact he | (simp at he ⊢; grind) | (simp; grind) | grind)) (by simp) ?_
      refine sg [.s] rfl (by simp) ?_
      exact dgo_again (tnode_last_no _ n x ks ps hl) ⟨rfl, rfl, trivial⟩ ⟨rfl, rfl, trivial⟩ rfl
    · simp [extraB] at he
      exact dgo_callpan [] rfl (by simp) (want_pan _ (by first | exact he | (simp at he ⊢; grind) | (simp; grind) | grind)) trivial rfl rfl
  by_cases h24 : op = 24
  · subst h24
    refine sg [.a, .a, .a] rfl (by simp [cxOf]) ?_
    by_cases he : extraB 24 n x ps = true
    · have hl : lastB 24 x ks.length ps.length = false := by simpa [he] using hy
      simp [extraB] at he
      refine g_pcall rfl (fun _ => want_ok _ (by first | exact he | (simp at he ⊢; grind) | (simp; grind) | grind)) (by simp) ?_
      refine sg [.s] rfl (by simp) ?_
      exact dgo_again (tnode_last_no _ n x ks ps hl) ⟨rfl, rfl, trivial⟩ ⟨rfl, rfl, trivial⟩ rfl
    · simp [extraB] at he
      exact dgo_callpan [] rfl (by simp) (want_pan _ (by first | exact he | (simp at he ⊢; grind) | (simp; grind) | grind)) trivial rfl rfl
  by_cases h14 : op = 14
  · subst h14
    refine sg [.a, .a, .a, .a] rfl (by simp [cxOf]) ?_
    refine g_pcall rfl (fun _ => tGreat_ok x) (by simp) ?_
    refine sg [] rfl (by simp) ?_
    by_cases he : extraB 14 n x ps = true
    · have hl : lastB 14 x ks.length ps.length = false := by simpa [he] using hy
      simp [extraB] at he
      refine g_pcall rfl (fun _ => want_ok _ (by first | exact he | (simp at he ⊢; grind) | (simp; grind) | grind)) (by simp) ?_
      refine sg [.s] rfl (by simp) ?_
      exact dgo_again (tnode_last_no _ n x ks ps hl) ⟨rfl, rfl, trivial⟩ ⟨rfl, rfl, trivial⟩ rfl
    · simp [extraB] at he
      exact dgo_callpan [] rfl (by simp) (want_pan _ (by first | exact he | (simp at he ⊢; grind) | (simp; grind) | grind)) trivial rfl rfl
  by_cases h15 : op = 15
  · subst h15
    refine sg [.a, .a, .a, .a, .a] rfl (by simp [cxOf]) ?_
    by_cases he : (decide (1 ≤ (ps.length : Int)) && decide ((ps.length : Int) ≤ 5)) = true
    rotate_left
    · exact dgo_callpan [] rfl (by simp) (want_pan _ (by simp at he ⊢; grind)) trivial rfl rfl
    have he5 : ps.length ≤ 5 := by simp at he; omega
    have hy : ps.all checkPatB = false ∨ lastB 15 x ks.length ps.length = false := by
      have e : extraB 15 n x ps = ((decide (1 ≤ (ps.length : Int)) && decide ((ps.length : Int) ≤ 5)) && ps.all checkPatB) := by simp only [extraB]; rfl
      rw [e, he] at hy
      simpa only [Bool.true_and, Bool.and_eq_false_iff] using hy
    refine g_pcall rfl (fun _ => want_ok _ (by simp at he ⊢; grind)) (by simp) ?_
    refine sg [] rfl (by simp) ?_
    refine dgo_enter (fun i : Nat => [(101, .imm (.int .i64 i)), (100, .imm (.int .i64 ps.length)), (99, .imm (.sl (dTys ps))), (1, .ref 1 0), (2, .ref 2 0)]) (fun _ => [(2, some (.immb 176 4 (dHas (shapeH 15 ks.length ps.length)))), (1, some (.immb 26 5 (dTmc (.mk 15 n x ks ps))))]) [3, 4] (fun i => ps.length - i)
      (fun i => i ≤ ps.length ∧ ((ps.drop i).all checkPatB = false ∨ lastB 15 x ks.length ps.length = false)) 0 ⟨Nat.zero_le _, hy⟩ ⟨rfl, tInt (by simp), rfl, rfl, rfl, trivial⟩ ⟨rfl, rfl, trivial⟩ rfl fun i hi ih => ?_
    refine sd [] rfl (by simp) ?_
    have hi2 := hi.2
    refine dgo_cond rfl (fun h => ?_) (fun h => ?_)
    · simp at h
      obtain ⟨t, ht⟩ := has_get h
      rw [get_drop ht, List.all_cons] at hi2
      refine sd [] rfl (by simp) ?_
      refine si rfl (c := dTyc t) (fun _ => ⟨by simp, by simpa using dTys_get ht, by simp⟩) (by simp) ?_
      refine sg [] rfl (by simp) ?_
      refine g_pcall rfl (fun _ => CheckPat_ok t) (by simp) ?_
      refine sg [] rfl (by simp) ?_
      cases hz : checkPatB t with
      | true =>
        rw [hz, Bool.true_and] at hi2
        refine g_pcall rfl (fun _ => want_ok _ (by first | rfl | (rw [hz]; rfl))) (by simp) ?_
        refine sg [] rfl (by simp) ?_
        exact dgo_again (ih (i + 1) (by omega) ⟨by omega, hi2⟩) ⟨tInt (w64 (by omega) (by omega)), rfl, rfl, rfl, rfl, trivial⟩ ⟨rfl, rfl, trivial⟩ rfl
      | false => exact dgo_callpan [] rfl (by simp) (want_pan _ (by first | rfl | (rw [hz]; rfl))) trivial rfl rfl
    · simp at h
      rw [List.drop_eq_nil_of_le (by omega)] at hi2
      refine sd [.s] rfl (by simp) ?_
      exact dgo_again (tnode_last_no _ n x ks ps (by simpa using hi2)) ⟨rfl, rfl, trivial⟩ ⟨rfl, rfl, trivial⟩ rfl
  refine sg [.f, .f, .f, .f, .f, .s] rfl (by simp [h1, h2, h24, h14, h15]) ?_
  exact dgo_again (tnode_last_no _ n x ks ps (by simpa [extraB, h1, h2, h24, h14, h15] using hy)) ⟨rfl, rfl, trivial⟩ ⟨rfl, rfl, trivial⟩ rfl

end Go.Hk

/- Contracts of term: terms that are formed. -/
namespace Go.Hk
open Go.Proofs

mutual
def nodesTT : Tm → Bool
  | .mk op n x ks ps => nodeT op n x ks.length ps && nodesTTs ks
def nodesTTs : List Tm → Bool
  | [] => true
  | t :: r => nodesTT t && nodesTTs r
end


set_option maxRecDepth 100000 in
theorem tnodes_yes : ∀ (t : Tm), nodesTT t = true → EffC Tryz.prog 69 [.imm (.agg (dTmc t))] [] (.ret unitV [])
  | .mk op n x ks ps, hy => by
    refine effC_ok 0 rfl fun hok => ?_
    have hv : ks.length ≤ 9223372036854775807 := by
      simp [vOkL, vOk, dTmc, maxLen] at hok
      have := hok.1
      omega
    simp only [nodesTT, Bool.and_eq_true_iff] at hy
    refine effc_of ttS_ok Tryz.func69 (by decide +kernel) rfl [1, 2, 3] rfl rfl ?_
    refine sg [] rfl (by simp) ?_
    refine g_call (fr := []) [] [] rfl (by simp) (tnode_yes op n x ks ps hy.1) trivial rfl rfl rfl rfl ?_
    refine sg [] rfl (by simp) ?_
    refine dgo_enter (fun i : Nat => [(9, .imm (.int .i64 i)), (8, .imm (.int .i64 ks.length)), (7, .imm (.sl (dTms ks))), (1, .ref 1 0)]) (fun _ => [(1, some (.immb 26 5 (dTmc (.mk op n x ks ps))))]) [2, 3] (fun i => ks.length - i)
      (fun i => i ≤ ks.length ∧ nodesTTs (ks.drop i) = true) 0 ⟨Nat.zero_le _, hy.2⟩ ⟨rfl, tInt (by simp), rfl, rfl, trivial⟩ ⟨rfl, trivial⟩ rfl fun i hi ih => ?_
    refine sd [] rfl (by simp) ?_
    have hi2 := hi.2
    refine dgo_cond rfl (fun h => ?_) (fun h => ?_)
    · simp at h
      obtain ⟨t, ht⟩ := has_get h
      rw [get_drop ht] at hi2
      simp only [nodesTTs, Bool.and_eq_true_iff] at hi2
      refine sd [] rfl (by simp) ?_
      refine si rfl (c := dTmc t) (fun _ => ⟨by simp, by simpa using dTms_get ht, by simp⟩) (by simp) ?_
      refine sg [] rfl (by simp) ?_
      · refine g_call (fr := []) [] [] rfl (by simp) (tnodes_yes t hi2.1) trivial rfl rfl rfl rfl ?_
        refine sg [] rfl (by simp) ?_
        exact dgo_again (ih (i + 1) (by omega) ⟨by omega, hi2.2⟩) ⟨tInt (w64 (by omega) (by omega)), rfl, rfl, rfl, trivial⟩ ⟨rfl, trivial⟩ rfl
    · refine sd [] rfl (by simp) ?_
      exact dgo_end ⟨_, rfl, rfl, trivial⟩
termination_by t => SizeOf.sizeOf t
decreasing_by
  all_goals
    have := List.sizeOf_lt_of_mem (List.mem_of_getElem? ht)
    simp_wf
    omega

set_option maxRecDepth 100000 in
theorem tnodes_no : ∀ (t : Tm), nodesTT t = false → EffC Tryz.prog 69 [.imm (.agg (dTmc t))] [] (.pan flawV)
  | .mk op n x ks ps, hy => by
    refine effC_ok 0 rfl fun hok => ?_
    have hv : ks.length ≤ 9223372036854775807 := by
      simp [vOkL, vOk, dTmc, maxLen] at hok
      have := hok.1
      omega
    simp only [nodesTT, Bool.and_eq_false_iff] at hy
    refine effc_of ttS_ok Tryz.func69 (by decide +kernel) rfl [1, 2, 3] rfl rfl ?_
    refine sg [] rfl (by simp) ?_
    by_cases hn : nodeT op n x ks.length ps = true
    rotate_left
    · exact dgo_callpan [] rfl (by simp) (tnode_no op n x ks ps (by simpa using hn)) trivial rfl rfl
    rw [hn] at hy
    simp only [Bool.true_eq_false, false_or] at hy
    refine g_call (fr := []) [] [] rfl (by simp) (tnode_yes op n x ks ps hn) trivial rfl rfl rfl rfl ?_
    refine sg [] rfl (by simp) ?_
    refine dgo_enter (fun i : Nat => [(9, .imm (.int .i64 i)), (8, .imm (.int .i64 ks.length)), (7, .imm (.sl (dTms ks))), (1, .ref 1 0)]) (fun _ => [(1, some (.immb 26 5 (dTmc (.mk op n x ks ps))))]) [2, 3] (fun i => ks.length - i)
      (fun i => i ≤ ks.length ∧ nodesTTs (ks.drop i) = false) 0 ⟨Nat.zero_le _, hy⟩ ⟨rfl, tInt (by simp), rfl, rfl, trivial⟩ ⟨rfl, trivial⟩ rfl fun i hi ih => ?_
    refine sd [] rfl (by simp) ?_
    have hi2 := hi.2
    refine dgo_cond rfl (fun h => ?_) (fun h => ?_)
    · simp at h
      obtain ⟨t, ht⟩ := has_get h
      rw [get_drop ht] at hi2
      simp only [nodesTTs, Bool.and_eq_false_iff] at hi2
      refine sd [] rfl (by simp) ?_
      refine si rfl (c := dTmc t) (fun _ => ⟨by simp, by simpa using dTms_get ht, by simp⟩) (by simp) ?_
      refine sg [] rfl (by simp) ?_
      by_cases hz : nodesTT t = true
      · refine g_call (fr := []) [] [] rfl (by simp) (tnodes_yes t hz) trivial rfl rfl rfl rfl ?_
        refine sg [] rfl (by simp) ?_
        exact dgo_again (ih (i + 1) (by omega) ⟨by omega, by rw [hz] at hi2; simpa using hi2⟩) ⟨tInt (w64 (by omega) (by omega)), rfl, rfl, rfl, trivial⟩ ⟨rfl, trivial⟩ rfl
      · exact dgo_callpan [] rfl (by simp) (tnodes_no t (by simpa using hz)) trivial rfl rfl
    · exfalso
      simp at h
      rw [List.drop_eq_nil_of_le (by omega)] at hi2
      simp [nodesTTs] at hi2
termination_by t => SizeOf.sizeOf t
decreasing_by
  all_goals
    have := List.sizeOf_lt_of_mem (List.mem_of_getElem? ht)
    simp_wf
    omega

def checkB (t : Tm) : Bool := decide (0 ≤ weighTm t 60 14) && nodesTT t

set_option maxRecDepth 100000 in
theorem check1_yes (t : Tm) (h : checkB t = true) : EffC Tryz.prog 67 [.ref 1 0] [(1, some (.immb 26 5 (dTmc t)))] (.ret unitV [(1, some (.immb 26 5 (dTmc t)))]) := by
  simp only [checkB, Bool.and_eq_true, decide_eq_true_eq] at h
  refine effc_of ttS_ok Tryz.func67 (by decide +kernel) rfl [2, 3, 4] rfl rfl ?_
  refine sg [] rfl (by simp) ?_
  refine g_call (fr := []) [(2, 1)] [] rfl (by simp) (gterm_yes t 60 14 1 (by decide) (by decide) (by decide) (by decide) (by decide) (by decide) h.1) ⟨⟨rfl, rfl, rfl⟩, trivial⟩ rfl rfl rfl rfl ?_
  refine sg [] rfl (by simp) ?_
  refine g_call (fr := []) [] [] rfl (by simp) (tnodes_yes t h.2) trivial rfl rfl rfl rfl ?_
  refine sg [] rfl (by simp) ?_
  exact dgo_end ⟨_, rfl, rfl, ⟨rfl, trivial⟩⟩

set_option maxRecDepth 100000 in
theorem check1_no (t : Tm) (h : checkB t = false) : EffC Tryz.prog 67 [.ref 1 0] [(1, some (.immb 26 5 (dTmc t)))] (.pan flawV) := by
  refine effc_of ttS_ok Tryz.func67 (by decide +kernel) rfl [2, 3, 4] rfl rfl ?_
  refine sg [] rfl (by simp) ?_
  by_cases h1 : 0 ≤ weighTm t 60 14
  · refine g_call (fr := []) [(2, 1)] [] rfl (by simp) (gterm_yes t 60 14 1 (by decide) (by decide) (by decide) (by decide) (by decide) (by decide) h1) ⟨⟨rfl, rfl, rfl⟩, trivial⟩ rfl rfl rfl rfl ?_
    refine sg [] rfl (by simp) ?_
    exact dgo_callpan [] rfl (by simp) (tnodes_no t (by simpa [checkB, h1] using h)) trivial rfl rfl
  · exact dgo_callpan [(2, 1)] rfl (by simp) (gterm_no t 60 14 1 (by decide) (by decide) (by decide) (by decide) (by decide) (by decide) (by show weighTm t 60 14 < 0; omega)) ⟨⟨rfl, rfl, rfl⟩, trivial⟩ rfl rfl

set_option maxRecDepth 100000 in
theorem Check_ok (t : Tm) : PureC Tryz.prog 30 [.agg (dTmc t)] (errI (checkB t)) := by
  refine effc_of ttS_ok Tryz.func30 (by decide +kernel) rfl [1, 2, 3] rfl rfl ?_
  refine sg [] rfl (by simp) ?_
  cases h : checkB t with
  | true =>
    refine g_call (fr := []) [(1, 1)] [] rfl (by simp) (checked1_yes Tryz.func67 (by decide +kernel) rfl (check1_yes t h)) ⟨⟨rfl, rfl, rfl⟩, trivial⟩ rfl rfl rfl rfl ?_
    refine sg [] rfl (by simp) ?_
    exact dgo_ret ⟨_, rfl, tV rfl, trivial⟩
  | false =>
    refine g_call (fr := []) [(1, 1)] [] rfl (by simp) (checked1_no Tryz.func67 (by decide +kernel) rfl (check1_no t h)) ⟨⟨rfl, rfl, rfl⟩, trivial⟩ rfl rfl rfl rfl ?_
    refine sg [] rfl (by simp) ?_
    exact dgo_ret ⟨_, rfl, tV rfl, trivial⟩

end Go.Hk

/- Contracts of term and of slices: whether something is so for all elements of a list. -/
namespace Go.Hk
open Go.Proofs

def ttA : TT := ttS ++ [
  (121, ⟨.iface, false, 1, 16, [.imm .niliface]⟩),
  (114, ⟨.sl 121, false, 1, 24, [.nils]⟩),
  (116, ⟨.struct [(0, 111)], true, 2, 40, [.imm (.str []), .nils]⟩),
  (118, ⟨.struct [(0, 113)], true, 15, 224, [.imm (.str []), .imm (.str []), .imm (.int .i64 0), .imm (.int .i64 0), .imm (.str []), .nils, .imm (.int .i64 0), .imm (.int .i64 0), .imm (.str []), .nils, .imm (.int .i64 0), .imm (.int .i64 0), .imm (.str []), .nils, .nils]⟩),
  (55, ⟨.func, false, 1, 8, [.imm .nilfn]⟩),
  (153, ⟨.func, false, 1, 8, [.imm .nilfn]⟩),
  (122, ⟨.func, false, 1, 8, [.imm .nilfn]⟩)]
theorem ttA_ok : TTok Tryz.prog ttA := .of_eq (l := [4, 3, 9, 26, 53, 49, 22, 24, 5, 51, 50, 29, 23, 47, 113, 66, 150, 63, 64, 111, 109, 30, 173, 101, 1, 79, 176, 121, 114, 116, 118, 55, 153, 122]) (by kernel_rfl)

section
variable {n : Nat} {F : List Nat} {Q : DQ} {env env' : Env} {st st' : St} {ids ids' : List Nat} {k todo : List DI} {ob : List Prop}
theorem ad (path : List Pt) (h : run ttA n 300 path todo env st ids [] = .at k env' st' ids' ob) (hob : allP ob) (hd : G Tryz.prog n F Q k env' st' ids') : DGo Tryz.prog n F Q todo env st ids := d_run ttA_ok mixed 300 path h hob hd
theorem ag (path : List Pt) (h : run ttA n 300 path todo env st ids [] = .at k env' st' ids' ob) (hob : allP ob) (hd : G Tryz.prog n F Q k env' st' ids') : G Tryz.prog n F Q todo env st ids := g_run ttA_ok mixed 300 path h hob hd
theorem ai {es : List (List V)} {m : Int} {sz : Nat} {e : TypeId} {g : Option (Bool × Bool)} {ob : List Prop} {t : Nat} {todo' : List DI} {c : List V} (h : pidx ttA n env todo = some ⟨es, m, sz, e, g, ob, some t, todo'⟩)
    (hc : cxOf g → 0 ≤ m ∧ es[m.toNat]? = some c ∧ c.length = sz) (hob : allP ob) (hk : G Tryz.prog n F Q todo' ((t, gD g (.ip e c 0)) :: env) st ids) : G Tryz.prog n F Q todo env st ids := g_index ttA_ok h hc hob hk
end
def idxF {α : Type} (q : α → Bool) : List α → Nat → Int
  | [], _ => -1
  | e :: r, i => if q e then (i : Int) else idxF q r (i + 1)

theorem idxF_neg {α : Type} (q : α → Bool) : ∀ (es : List α) (i : Nat), 0 ≤ idxF q es i ↔ es.any q = true
  | [], i => by simp [idxF]
  | e :: r, i => by
    have ih := idxF_neg q r (i + 1)
    by_cases h : q e = true
    · simp [idxF, h]
    · simp only [idxF, h, List.any_cons]
      simpa using ih


set_option maxRecDepth 100000 in
theorem indexT (g : FuncId) (tf : TypeId) (fv : V) (q : List V → Bool) (es : List (List V)) (hes : ∀ e ∈ es, e.length = 4) (hlen : es.length ≤ 9223372036854775806)
    (hq : ∀ e ∈ es, EffC Tryz.prog g [.imm (.agg e), .ref 1 0] [(1, some (.immb tf 1 [fv]))] (.ret (.imm (.bool (q e))) [(1, some (.immb tf 1 [fv]))])) :
    EffC Tryz.prog 152 [.imm (.sl es), .fn (.func g) [] [.ref 1 0]] [(1, some (.immb tf 1 [fv]))] (.ret (.imm (.int .i64 (idxF q es 0))) [(1, some (.immb tf 1 [fv]))]) := by
  refine effc_of ttA_ok Tryz.func152 (by decide +kernel) rfl [2, 3, 4] rfl rfl ?_
  refine ag [] rfl (by simp) ?_
  refine dgo_enter (fun i : Nat => [(8, .imm (.int .i64 i)), (7, .imm (.int .i64 es.length)), (0, .imm (.sl es)), (1, .fn (.func g) [] [.ref 1 0])]) (fun _ => [(1, some (.immb tf 1 [fv]))]) [2, 3, 4] (fun i => es.length - i)
    (fun i => i ≤ es.length ∧ idxF q es 0 = idxF q (es.drop i) i) 0 ⟨Nat.zero_le _, rfl⟩ ⟨rfl, tInt (by simp), rfl, rfl, trivial⟩ ⟨rfl, trivial⟩ rfl fun i hi ih => ?_
  refine ad [] rfl (by simp) ?_
  have hi2 := hi.2
  refine dgo_cond rfl (fun h => ?_) (fun h => ?_)
  · simp at h
    obtain ⟨e, he⟩ := has_get h
    have hm := List.mem_of_getElem? he
    rw [get_drop he] at hi2
    refine ad [] rfl (by simp) ?_
    refine ai rfl (c := e) (fun _ => ⟨by simp, by simpa using he, hes e hm⟩) (by simp) ?_
    refine ag [] rfl (by simp [hes e hm]) ?_
    refine g_call (fr := []) [(1, 1)] [] rfl (by simp) (hq e hm) ⟨⟨rfl, rfl, rfl⟩, trivial⟩ rfl rfl rfl rfl ?_
    refine ag [] rfl (by simp) ?_
    refine dgo_cond rfl (fun h => ?_) (fun h => ?_)
    · refine ad [] rfl (by simp) ?_
      exact dgo_ret ⟨_, rfl, tV (congrArg _ (by rw [hi2]; simp [idxF, h])), ⟨rfl, trivial⟩⟩
    · refine ad [] rfl (by simp) ?_
      exact dgo_again (ih (i + 1) (by omega) ⟨by omega, by rw [hi2]; simp [idxF, h]⟩) ⟨tInt (w64 (by omega) (by omega)), rfl, rfl, rfl, trivial⟩ ⟨rfl, trivial⟩ rfl
  · refine ad [] rfl (by simp) ?_
    simp at h
    refine dgo_ret ⟨_, rfl, tV (congrArg _ ?_), ⟨rfl, trivial⟩⟩
    rw [hi2, List.drop_eq_nil_of_le (by omega)]; rfl

set_option maxRecDepth 100000 in
theorem containsT (g : FuncId) (tf : TypeId) (fv : V) (q : List V → Bool) (es : List (List V)) (hes : ∀ e ∈ es, e.length = 4) (hlen : es.length ≤ 9223372036854775806)
    (hq : ∀ e ∈ es, EffC Tryz.prog g [.imm (.agg e), .ref 1 0] [(1, some (.immb tf 1 [fv]))] (.ret (.imm (.bool (q e))) [(1, some (.immb tf 1 [fv]))])) :
    EffC Tryz.prog 134 [.imm (.sl es), .fn (.func g) [] [.ref 1 0]] [(1, some (.immb tf 1 [fv]))] (.ret (.imm (.bool (es.any q))) [(1, some (.immb tf 1 [fv]))]) := by
  refine effc_of ttA_ok Tryz.func134 (by decide +kernel) rfl [2, 3, 4] rfl rfl ?_
  refine ag [] rfl (by simp) ?_
  refine g_call (fr := []) [(1, 1)] [] rfl (by simp) (indexT g tf fv q es hes hlen hq) ⟨⟨rfl, rfl, rfl⟩, trivial⟩ rfl rfl rfl rfl ?_
  refine ag [] rfl (by simp) ?_
  refine dgo_ret ⟨_, rfl, tV (congrArg _ ?_), ⟨rfl, trivial⟩⟩
  rw [Bool.eq_iff_iff, ← idxF_neg q es 0]
  simp

set_option maxRecDepth 100000 in
theorem all1T (g : FuncId) (e : List V) (hel : e.length = 4) (b : Bool) (hq : PureC Tryz.prog g [.agg e] (.bool b)) :
    EffC Tryz.prog 135 [.imm (.agg e), .ref 1 0] [(1, some (.immb 55 1 [.fn (.func g)]))] (.ret (.imm (.bool (!b))) [(1, some (.immb 55 1 [.fn (.func g)]))]) := by
  refine effc_of ttA_ok Tryz.func135 (by decide +kernel) rfl [2, 3, 4] rfl rfl ?_
  refine ag [] rfl (by simp [hel]) ?_
  refine g_call (fr := []) [] [] rfl (by simp) hq trivial rfl rfl rfl rfl ?_
  refine ag [] rfl (by simp) ?_
  exact dgo_ret ⟨_, rfl, tV rfl, ⟨rfl, trivial⟩⟩

set_option maxRecDepth 100000 in
theorem allT (g : FuncId) (q : List V → Bool) (es : List (List V)) (hes : ∀ e ∈ es, e.length = 4) (hlen : es.length ≤ 9223372036854775806) (hq : ∀ e ∈ es, PureC Tryz.prog g [.agg e] (.bool (q e))) :
    PureC Tryz.prog 112 [.sl es, .fn (.func g)] (.bool (es.all q)) := by
  refine effc_of ttA_ok Tryz.func112 (by decide +kernel) rfl [1, 2, 3] rfl rfl ?_
  refine ag [] rfl (by simp) ?_
  refine g_call (fr := []) [(1, 1)] [] rfl (by simp) (containsT 135 55 (.fn (.func g)) (fun e => !q e) es hes hlen (fun e he => all1T g e (hes e he) (q e) (hq e he))) ⟨⟨rfl, rfl, rfl⟩, trivial⟩ rfl rfl rfl rfl ?_
  refine ag [] rfl (by simp) ?_
  refine dgo_ret ⟨_, rfl, tV (congrArg _ ?_), trivial⟩
  rw [List.any_eq_not_all_not]
  simp

set_option maxRecDepth 100000 in
theorem indexC (g : FuncId) (tf : TypeId) (fv : V) (q : List V → Bool) (es : List (List V)) (hes : ∀ e ∈ es, e.length = 2) (hlen : es.length ≤ 9223372036854775806)
    (hq : ∀ e ∈ es, EffC Tryz.prog g [.imm (.agg e), .ref 1 0] [(1, some (.immb tf 1 [fv]))] (.ret (.imm (.bool (q e))) [(1, some (.immb tf 1 [fv]))])) :
    EffC Tryz.prog 151 [.imm (.sl es), .fn (.func g) [] [.ref 1 0]] [(1, some (.immb tf 1 [fv]))] (.ret (.imm (.int .i64 (idxF q es 0))) [(1, some (.immb tf 1 [fv]))]) := by
  refine effc_of ttA_ok Tryz.func151 (by decide +kernel) rfl [2, 3, 4] rfl rfl ?_
  refine ag [] rfl (by simp) ?_
  refine dgo_enter (fun i : Nat => [(8, .imm (.int .i64 i)), (7, .imm (.int .i64 es.length)), (0, .imm (.sl es)), (1, .fn (.func g) [] [.ref 1 0])]) (fun _ => [(1, some (.immb tf 1 [fv]))]) [2, 3, 4] (fun i => es.length - i)
    (fun i => i ≤ es.length ∧ idxF q es 0 = idxF q (es.drop i) i) 0 ⟨Nat.zero_le _, rfl⟩ ⟨rfl, tInt (by simp), rfl, rfl, trivial⟩ ⟨rfl, trivial⟩ rfl fun i hi ih => ?_
  refine ad [] rfl (by simp) ?_
  have hi2 := hi.2
  refine dgo_cond rfl (fun h => ?_) (fun h => ?_)
  · simp at h
    obtain ⟨e, he⟩ := has_get h
    have hm := List.mem_of_getElem? he
    rw [get_drop he] at hi2
    refine ad [] rfl (by simp) ?_
    refine ai rfl (c := e) (fun _ => ⟨by simp, by simpa using he, hes e hm⟩) (by simp) ?_
    refine ag [] rfl (by simp [hes e hm]) ?_
    refine g_call (fr := []) [(1, 1)] [] rfl (by simp) (hq e hm) ⟨⟨rfl, rfl, rfl⟩, trivial⟩ rfl rfl rfl rfl ?_
    refine ag [] rfl (by simp) ?_
    refine dgo_cond rfl (fun h => ?_) (fun h => ?_)
    · refine ad [] rfl (by simp) ?_
      exact dgo_ret ⟨_, rfl, tV (congrArg _ (by rw [hi2]; simp [idxF, h])), ⟨rfl, trivial⟩⟩
    · refine ad [] rfl (by simp) ?_
      exact dgo_again (ih (i + 1) (by omega) ⟨by omega, by rw [hi2]; simp [idxF, h]⟩) ⟨tInt (w64 (by omega) (by omega)), rfl, rfl, rfl, trivial⟩ ⟨rfl, trivial⟩ rfl
  · refine ad [] rfl (by simp) ?_
    simp at h
    refine dgo_ret ⟨_, rfl, tV (congrArg _ ?_), ⟨rfl, trivial⟩⟩
    rw [hi2, List.drop_eq_nil_of_le (by omega)]; rfl

set_option maxRecDepth 100000 in
theorem containsC (g : FuncId) (tf : TypeId) (fv : V) (q : List V → Bool) (es : List (List V)) (hes : ∀ e ∈ es, e.length = 2) (hlen : es.length ≤ 9223372036854775806)
    (hq : ∀ e ∈ es, EffC Tryz.prog g [.imm (.agg e), .ref 1 0] [(1, some (.immb tf 1 [fv]))] (.ret (.imm (.bool (q e))) [(1, some (.immb tf 1 [fv]))])) :
    EffC Tryz.prog 132 [.imm (.sl es), .fn (.func g) [] [.ref 1 0]] [(1, some (.immb tf 1 [fv]))] (.ret (.imm (.bool (es.any q))) [(1, some (.immb tf 1 [fv]))]) := by
  refine effc_of ttA_ok Tryz.func132 (by decide +kernel) rfl [2, 3, 4] rfl rfl ?_
  refine ag [] rfl (by simp) ?_
  refine g_call (fr := []) [(1, 1)] [] rfl (by simp) (indexC g tf fv q es hes hlen hq) ⟨⟨rfl, rfl, rfl⟩, trivial⟩ rfl rfl rfl rfl ?_
  refine ag [] rfl (by simp) ?_
  refine dgo_ret ⟨_, rfl, tV (congrArg _ ?_), ⟨rfl, trivial⟩⟩
  rw [Bool.eq_iff_iff, ← idxF_neg q es 0]
  simp

set_option maxRecDepth 100000 in
theorem all1C (g : FuncId) (e : List V) (hel : e.length = 2) (b : Bool) (hq : PureC Tryz.prog g [.agg e] (.bool b)) :
    EffC Tryz.prog 133 [.imm (.agg e), .ref 1 0] [(1, some (.immb 153 1 [.fn (.func g)]))] (.ret (.imm (.bool (!b))) [(1, some (.immb 153 1 [.fn (.func g)]))]) := by
  refine effc_of ttA_ok Tryz.func133 (by decide +kernel) rfl [2, 3, 4] rfl rfl ?_
  refine ag [] rfl (by simp [hel]) ?_
  refine g_call (fr := []) [] [] rfl (by simp) hq trivial rfl rfl rfl rfl ?_
  refine ag [] rfl (by simp) ?_
  exact dgo_ret ⟨_, rfl, tV rfl, ⟨rfl, trivial⟩⟩

set_option maxRecDepth 100000 in
theorem allC (g : FuncId) (q : List V → Bool) (es : List (List V)) (hes : ∀ e ∈ es, e.length = 2) (hlen : es.length ≤ 9223372036854775806) (hq : ∀ e ∈ es, PureC Tryz.prog g [.agg e] (.bool (q e))) :
    PureC Tryz.prog 110 [.sl es, .fn (.func g)] (.bool (es.all q)) := by
  refine effc_of ttA_ok Tryz.func110 (by decide +kernel) rfl [1, 2, 3] rfl rfl ?_
  refine ag [] rfl (by simp) ?_
  refine g_call (fr := []) [(1, 1)] [] rfl (by simp) (containsC 133 153 (.fn (.func g)) (fun e => !q e) es hes hlen (fun e he => all1C g e (hes e he) (q e) (hq e he))) ⟨⟨rfl, rfl, rfl⟩, trivial⟩ rfl rfl rfl rfl ?_
  refine ag [] rfl (by simp) ?_
  refine dgo_ret ⟨_, rfl, tV (congrArg _ ?_), trivial⟩
  rw [List.any_eq_not_all_not]
  simp

set_option maxRecDepth 100000 in
theorem indexI (g : FuncId) (tf : TypeId) (fv : V) (q : V → Bool) (es : List V) (hlen : es.length ≤ 9223372036854775806)
    (hq : ∀ e ∈ es, EffC Tryz.prog g [.imm e, .ref 1 0] [(1, some (.immb tf 1 [fv]))] (.ret (.imm (.bool (q e))) [(1, some (.immb tf 1 [fv]))])) :
    EffC Tryz.prog 131 [.imm (.sl (es.map fun x => [x])), .fn (.func g) [] [.ref 1 0]] [(1, some (.immb tf 1 [fv]))] (.ret (.imm (.int .i64 (idxF q es 0))) [(1, some (.immb tf 1 [fv]))]) := by
  refine effc_of ttA_ok Tryz.func131 (by decide +kernel) rfl [2, 3, 4] rfl rfl ?_
  refine ag [] rfl (by simp) ?_
  refine dgo_enter (fun i : Nat => [(8, .imm (.int .i64 i)), (7, .imm (.int .i64 es.length)), (0, .imm (.sl (es.map fun x => [x]))), (1, .fn (.func g) [] [.ref 1 0])]) (fun _ => [(1, some (.immb tf 1 [fv]))]) [2, 3, 4] (fun i => es.length - i)
    (fun i => i ≤ es.length ∧ idxF q es 0 = idxF q (es.drop i) i) 0 ⟨Nat.zero_le _, rfl⟩ ⟨rfl, tInt (by simp), rfl, rfl, trivial⟩ ⟨rfl, trivial⟩ rfl fun i hi ih => ?_
  refine ad [] rfl (by simp) ?_
  have hi2 := hi.2
  refine dgo_cond rfl (fun h => ?_) (fun h => ?_)
  · simp at h
    obtain ⟨e, he⟩ := has_get h
    have hm := List.mem_of_getElem? he
    rw [get_drop he] at hi2
    refine ad [] rfl (by simp) ?_
    refine ai rfl (c := [e]) (fun _ => ⟨by simp, by simp [he], rfl⟩) (by simp) ?_
    refine ag [] rfl (by simp) ?_
    refine g_call (fr := []) [(1, 1)] [] rfl (by simp) (hq e hm) ⟨⟨rfl, rfl, rfl⟩, trivial⟩ rfl rfl rfl rfl ?_
    refine ag [] rfl (by simp) ?_
    refine dgo_cond rfl (fun h => ?_) (fun h => ?_)
    · refine ad [] rfl (by simp) ?_
      exact dgo_ret ⟨_, rfl, tV (congrArg _ (by rw [hi2]; simp [idxF, h])), ⟨rfl, trivial⟩⟩
    · refine ad [] rfl (by simp) ?_
      exact dgo_again (ih (i + 1) (by omega) ⟨by omega, by rw [hi2]; simp [idxF, h]⟩) ⟨tInt (w64 (by omega) (by omega)), rfl, rfl, rfl, trivial⟩ ⟨rfl, trivial⟩ rfl
  · refine ad [] rfl (by simp) ?_
    simp at h
    refine dgo_ret ⟨_, rfl, tV (congrArg _ ?_), ⟨rfl, trivial⟩⟩
    rw [hi2, List.drop_eq_nil_of_le (by omega)]; rfl

set_option maxRecDepth 100000 in
theorem containsI (g : FuncId) (tf : TypeId) (fv : V) (q : V → Bool) (es : List V) (hlen : es.length ≤ 9223372036854775806)
    (hq : ∀ e ∈ es, EffC Tryz.prog g [.imm e, .ref 1 0] [(1, some (.immb tf 1 [fv]))] (.ret (.imm (.bool (q e))) [(1, some (.immb tf 1 [fv]))])) :
    EffC Tryz.prog 108 [.imm (.sl (es.map fun x => [x])), .fn (.func g) [] [.ref 1 0]] [(1, some (.immb tf 1 [fv]))] (.ret (.imm (.bool (es.any q))) [(1, some (.immb tf 1 [fv]))]) := by
  refine effc_of ttA_ok Tryz.func108 (by decide +kernel) rfl [2, 3, 4] rfl rfl ?_
  refine ag [] rfl (by simp) ?_
  refine g_call (fr := []) [(1, 1)] [] rfl (by simp) (indexI g tf fv q es hlen hq) ⟨⟨rfl, rfl, rfl⟩, trivial⟩ rfl rfl rfl rfl ?_
  refine ag [] rfl (by simp) ?_
  refine dgo_ret ⟨_, rfl, tV (congrArg _ ?_), ⟨rfl, trivial⟩⟩
  rw [Bool.eq_iff_iff, ← idxF_neg q es 0]
  simp

set_option maxRecDepth 100000 in
theorem all1I (g : FuncId) (e : V) (b : Bool) (hq : PureC Tryz.prog g [e] (.bool b)) :
    EffC Tryz.prog 109 [.imm e, .ref 1 0] [(1, some (.immb 122 1 [.fn (.func g)]))] (.ret (.imm (.bool (!b))) [(1, some (.immb 122 1 [.fn (.func g)]))]) := by
  refine effc_of ttA_ok Tryz.func109 (by decide +kernel) rfl [2, 3, 4] rfl rfl ?_
  refine ag [] rfl (by simp) ?_
  refine g_call (fr := []) [] [] rfl (by simp) hq trivial rfl rfl rfl rfl ?_
  refine ag [] rfl (by simp) ?_
  exact dgo_ret ⟨_, rfl, tV rfl, ⟨rfl, trivial⟩⟩

set_option maxRecDepth 100000 in
theorem allI (g : FuncId) (q : V → Bool) (es : List V) (hlen : es.length ≤ 9223372036854775806) (hq : ∀ e ∈ es, PureC Tryz.prog g [e] (.bool (q e))) :
    PureC Tryz.prog 76 [.sl (es.map fun x => [x]), .fn (.func g)] (.bool (es.all q)) := by
  refine effc_of ttA_ok Tryz.func76 (by decide +kernel) rfl [1, 2, 3] rfl rfl ?_
  refine ag [] rfl (by simp) ?_
  refine g_call (fr := []) [(1, 1)] [] rfl (by simp) (containsI 109 122 (.fn (.func g)) (fun e => !q e) es hlen (fun e he => all1I g e (q e) (hq e he))) ⟨⟨rfl, rfl, rfl⟩, trivial⟩ rfl rfl rfl rfl ?_
  refine ag [] rfl (by simp) ?_
  refine dgo_ret ⟨_, rfl, tV (congrArg _ ?_), trivial⟩
  rw [List.any_eq_not_all_not]
  simp

end Go.Hk

/- A value of an interface is asked for its type. -/
namespace Go.Hk

def concrete : Sh → Bool
  | .iface | .other => false
  | _ => true

structure PTa where
  t : TypeId
  v : V
  to_ : TypeId
  dst : Option Nat
  todo : List DI

def pta (tt : TT) (n : Nat) (env : Env) (todo : List DI) : Option PTa :=
  match opAt todo with
  | some o => match o.guard, o.op with
    | none, .typeAssert x _ to_ true => match evO env x, lk tt to_, dstOk n o.dst, next1 todo ([], []) with
      | some (.imm (.iface t v)), some i, true, some (_, _, todo') => match concrete i.sh with
        | true => some ⟨t, v, to_, o.dst, todo'⟩
        | false => none
      | _, _, _, _ => none
    | _, _ => none
  | none => none

section
variable {P : Program} {n : Nat} {F : List Nat} {Q : DQ} {tt : TT} {env env' : Env} {st st' : St} {ids ids' : List Nat} {k todo todo' : List DI} {I : Imm} {μ : Mu} {w : World} {a : Act} {Pn : V → Prop} {d : D} {cx : Prop} {ob : List Prop}

theorem tassert_run {t to_ from_ : TypeId} {i : TyI} {v : Value} (hi : TyOk P to_ i) (hc : concrete i.sh = true) {r : Value} (h : (t = to_ ∧ r = .tuple #[v, .bool true]) ∨ (t ≠ to_ ∧ ∃ z, (P.info? to_).bind (·.zero) = some z ∧ r = .tuple #[z, .bool false])) :
    (Instr.typeAssert (.iface t v) from_ to_ true).run P w = .ok r w := by
  have hu : ∃ dd, P.underlying to_ = some dd ∧ ∀ ms, dd ≠ .interface ms := by
    have := hi.sh
    generalize i.sh = sh at this hc
    cases sh <;> simp only [concrete, Bool.false_eq_true] at hc <;> simp only [ShOk] at this
    case struct fs => obtain ⟨f, h1, _⟩ := this; exact ⟨_, h1, fun _ h => by cases h⟩
    case func => obtain ⟨a, b, c, h1⟩ := this; exact ⟨_, h1, fun _ h => by cases h⟩
    all_goals exact ⟨_, this, fun _ h => by cases h⟩
  obtain ⟨dd, hd, hne⟩ := hu
  rcases h with ⟨rfl, rfl⟩ | ⟨hn, z, hz, rfl⟩
  · cases dd <;> first | exact absurd rfl (hne _) | simp [Instr.typeAssert, run_underlying hd]
  · have hz := run_zeroValue_of (w := w) hz
    cases dd <;> first | exact absurd rfl (hne _) | simp [Instr.typeAssert, run_underlying hd, hn, hz]

theorem g_tassert (htt : TTok P tt) {t0 to_ : TypeId} {v0 : V} {d0 : Option Nat} {todo0 : List DI} (h : pta tt n env todo = some ⟨t0, v0, to_, d0, todo0⟩) {r : List V}
    (hr : (t0 = to_ ∧ r = [v0, .bool true]) ∨ (t0 ≠ to_ ∧ ∃ z zd, (P.info? to_).bind (·.zero) = some z ∧ (∀ I, RepV I z zd) ∧ r = [zd, .bool false]))
    (hk : G P n F Q todo0 (putE d0 (.imm (.tup r)) env) st ids) : G P n F Q todo env st ids := by
  unfold pta at h
  split at h
  · rename_i o ho
    split at h
    · rename_i x from_ to' hg hop
      split at h
      · rename_i t v i all o' todo' hx hi hd h1
        split at h
        · rename_i hc
          cases h
          have ho' : o' = o := opAt_next ho h1
          subst ho'
          refine g_step (fr := []) (wr := []) (rd := []) h1 ?_ hd (fun c hc => by rw [hop] at hc; cases hc) hk
          intro I μ st1 ids1 a w hag hst hon
          refine ⟨fun _ => ?_, fun hw => by rw [wanted_none hg] at hw; cases hw⟩
          have hops := opsOn_of hon
          rw [hop] at hops
          have rx := (hops x (by simp [Op.operands]) _ hx).immInv
          generalize hv : a.eval x = v at rx
          cases rx with
          | iface _ u _ hu =>
            have fin : ∀ (z : Value) (b : Bool) (zd : V), (Instr.typeAssert (.iface t0 u) from_ to_ true).run P w = .ok (.tuple #[z, .bool b]) w → RepV I z zd → r = [zd, .bool b] →
                valX P ((execOp a.eval o').run P w) (fun v w' => ∃ I' μ', StRep I' μ' ([] ++ st1) ids1 w' ∧ RepD I' μ' v (.imm (.tup r)) ∧ μ.le μ' ∧ Ext I μ st1 w I' μ' ([] ++ st1) w') (panK (panQ Q) I μ st1 w) := by
              intro z b zd h1 h2 h3
              have hrun : (execOp a.eval o').run P w = .ok (.value (.tuple #[z, .bool b])) w := by
                simp only [execOp, hop, hv]
                exact ok_of_sem h1
              rw [hrun, h3]
              refine ⟨I, μ, hst, .imm _ _ (.tup _ _ rfl fun i c x hc hx => ?_), Mu.le_refl μ, Ext.refl _ _ _ _⟩
              match i, hc, hx with
              | 0, hc, hx => cases hc; cases hx; exact h2
              | 1, hc, hx => cases hc; cases hx; exact .bool _
              | i + 2, hc, hx => simp at hx
            rcases hr with ⟨e1, e2⟩ | ⟨e1, z, zd, e2, e3, e4⟩
            · exact fin u true v0 (tassert_run (htt _ _ hi) hc (.inl ⟨e1, rfl⟩)) hu e2
            · exact fin z false zd (tassert_run (htt _ _ hi) hc (.inr ⟨e1, z, e2, rfl⟩)) (e3 I) e4
        · cases h
      · cases h
    · cases h
  · cases h

end
end Go.Hk

/- Contracts of term: modules that are formed. -/
namespace Go.Hk
open Go.Proofs

mutual
theorem dTyc_inj : ∀ {a b : Ty}, dTyc a = dTyc b → a = b
  | .mk s n x ps, .mk s' n' x' ps', h => by
    simp only [dTyc, List.cons.injEq, V.int.injEq, V.str.injEq, V.sl.injEq, and_true, true_and] at h
    obtain ⟨h1, h2, h3, h4⟩ := h
    subst h1; subst h2; subst h3
    rw [dTys_inj h4]
theorem dTys_inj : ∀ {a b : List Ty}, dTys a = dTys b → a = b
  | [], [], _ => rfl
  | [], _ :: _, h => by simp [dTys] at h
  | _ :: _, [], h => by simp [dTys] at h
  | x :: r, y :: t, h => by
    simp only [dTys, List.cons.injEq] at h
    rw [dTyc_inj h.1, dTys_inj h.2]
end

theorem dCdc_inj {a b : Cd} (h : dCdc a = dCdc b) : a = b := by
  obtain ⟨a1, a2⟩ := a
  obtain ⟨b1, b2⟩ := b
  simp only [dCdc, List.cons.injEq, V.str.injEq, V.sl.injEq, and_true] at h
  rw [h.1, dTys_inj h.2]

open Classical in
noncomputable def qOf {α β : Type} (d : α → β) (f : α → Bool) (e : β) : Bool := decide (∃ t, d t = e ∧ f t = true)
open Classical in
theorem qOf_at {α β : Type} {d : α → β} (hd : ∀ {a b}, d a = d b → a = b) (f : α → Bool) (t : α) : qOf d f (d t) = f t := by
  unfold qOf
  by_cases h : f t = true
  · rw [h]; exact decide_eq_true ⟨t, rfl, h⟩
  · simp only [Bool.not_eq_true] at h
    rw [h]
    refine decide_eq_false fun ⟨u, h1, h2⟩ => ?_
    rw [hd h1, h] at h2
    cases h2
theorem qOf_all {α β : Type} {d : α → β} (hd : ∀ {a b}, d a = d b → a = b) (f : α → Bool) (l : List α) : (l.map d).all (qOf d f) = l.all f := by
  rw [List.all_map]
  congr 1
  funext t
  exact qOf_at hd f t

def conB2 (c : Cd) : Bool := greatS c.name && decide ((c.args.length : Int) ≤ 3) && c.args.all (formedB false)
def dataB2 (d : Dt) : Bool := greatS d.name && decide ((1 : Int) ≤ d.cons.length) && decide ((d.cons.length : Int) ≤ 5) && d.cons.all conB2
def funB2 (f : Fd) : Bool := nameS f.name && nameS f.param && formedB false f.from_ && formedB false f.to_ && checkB f.body

set_option maxRecDepth 100000 in
theorem allTypes (ts : List Ty) (h : ts.length ≤ 9223372036854775806) : PureC Tryz.prog 112 [.sl (dTys ts), .fn (.func 113)] (.bool (ts.all (formedB false))) := by
  have := allT 113 (qOf dTyc (formedB false)) (dTys ts) (fun e he => by rw [dTys_eq] at he; obtain ⟨t, _, rfl⟩ := List.mem_map.1 he; simp) (by simpa using h) (fun e he => by
    rw [dTys_eq] at he
    obtain ⟨t, _, rfl⟩ := List.mem_map.1 he
    rw [qOf_at dTyc_inj]
    exact whole_ok t)
  rw [dTys_eq, qOf_all dTyc_inj] at this
  rw [dTys_eq]
  exact this

set_option maxRecDepth 100000 in
theorem right1_ok (c : Cd) : PureC Tryz.prog 111 [.agg (dCdc c)] (.bool (conB2 c)) := by
  obtain ⟨nm, ts⟩ := c
  refine pureC_ok fun hv => ?_
  simp [vOkL, vOk, dCdc, maxLen] at hv
  refine effc_of ttA_ok Tryz.func111 (by decide +kernel) rfl [1, 2, 3] rfl rfl ?_
  refine ag [] rfl (by simp [cxOf]) ?_
  refine g_pcall rfl (fun _ => tGreat_ok nm) (by simp [cxOf]) ?_
  refine ag [] rfl (by simp [cxOf]) ?_
  refine g_pcall rfl (fun hg => allTypes ts (by simp [cxOf] at hg; omega)) (by simp [cxOf]) ?_
  refine ag [] rfl (by simp [cxOf] <;> grind) ?_
  refine dgo_ret ⟨_, rfl, tV (congrArg _ ?_), trivial⟩
  simp [conB2] <;> grind

set_option maxRecDepth 100000 in
theorem allCons (cs : List Cd) (h : cs.length ≤ 9223372036854775806) : PureC Tryz.prog 110 [.sl (cs.map dCdc), .fn (.func 111)] (.bool (cs.all conB2)) := by
  have := allC 111 (qOf dCdc conB2) (cs.map dCdc) (fun e he => by obtain ⟨t, _, rfl⟩ := List.mem_map.1 he; rfl) (by simpa using h) (fun e he => by
    obtain ⟨t, _, rfl⟩ := List.mem_map.1 he
    rw [qOf_at dCdc_inj]
    exact right1_ok t)
  rw [qOf_all dCdc_inj] at this
  exact this

/-! ### Parts -/
def partD (d : Dt) : V := .iface 116 (.agg (dDtc d))
def partF (f : Fd) : V := .iface 118 (.agg (dFdc f))

set_option maxRecDepth 100000 in
theorem zeroDataPart : ∃ z, (Tryz.prog.info? 116).bind (·.zero) = some z ∧ ∀ I, RepV I z (.agg [.str [], .sl []]) := by
  refine ⟨.agg #[.string ⟨#[]⟩, .slice none 0 0], by kernel_rfl, fun I => .agg _ _ rfl (by decide) fun i c x hc hx => ?_⟩
  match i, hc, hx with
  | 0, hc, hx => cases hc; cases hx; exact .str _ _ rfl
  | 1, hc, hx => cases hc; cases hx; exact .slnil
  | i + 2, hc, hx => simp at hx

set_option maxRecDepth 100000 in
theorem right_data (d : Dt) : PureC Tryz.prog 77 [partD d] (.bool (dataB2 d)) := by
  obtain ⟨nm, cs⟩ := d
  refine pureC_ok fun hv => ?_
  simp [vOkL, vOk, partD, dDtc, maxLen] at hv
  refine effc_of ttA_ok Tryz.func77 (by decide +kernel) rfl [1, 2, 3, 4] rfl rfl ?_
  refine ag [] rfl (by simp [cxOf]) ?_
  refine g_tassert ttA_ok rfl (.inl ⟨rfl, rfl⟩) ?_
  refine ag [.a] rfl (by simp [cxOf]) ?_
  refine g_pcall rfl (fun _ => tGreat_ok nm) (by simp [cxOf]) ?_
  refine ag [] rfl (by simp [cxOf]) ?_
  refine g_pcall rfl (fun hg => allCons cs (by simp [cxOf] at hg; omega)) (by simp [cxOf]) ?_
  refine ag [] rfl (by simp [cxOf] <;> grind) ?_
  refine dgo_ret ⟨_, rfl, tV (congrArg _ ?_), trivial⟩
  simp [dataB2] <;> grind

set_option maxRecDepth 100000 in
theorem right_fun (f : Fd) : PureC Tryz.prog 77 [partF f] (.bool (funB2 f)) := by
  obtain ⟨nm, pm, ⟨s1, n1, x1, p1⟩, ⟨s2, n2, x2, p2⟩, ⟨o3, n3, x3, k3, p3⟩⟩ := f
  obtain ⟨z, hz, hzr⟩ := zeroDataPart
  refine pureC_ok fun hv => ?_
  refine effc_of ttA_ok Tryz.func77 (by decide +kernel) rfl [1, 2, 3, 4] rfl rfl ?_
  refine ag [] rfl (by simp [cxOf]) ?_
  refine g_tassert ttA_ok rfl (.inr ⟨by decide, z, _, hz, hzr, rfl⟩) ?_
  refine ag [.a] rfl (by simp [cxOf]) ?_
  refine g_tassert ttA_ok rfl (.inl ⟨rfl, rfl⟩) ?_
  refine ag [.a] rfl (by simp [cxOf]) ?_
  refine g_pcall rfl (fun _ => tName_ok nm) (by simp [cxOf]) ?_
  refine ag [] rfl (by simp [cxOf]) ?_
  refine g_pcall rfl (fun _ => tName_ok pm) (by simp [cxOf]) ?_
  refine ag [] rfl (by simp [cxOf]) ?_
  refine g_pcall rfl (fun _ => whole_ok (.mk s1 n1 x1 p1)) (by simp [cxOf]) ?_
  refine ag [] rfl (by simp [cxOf]) ?_
  refine g_pcall rfl (fun _ => whole_ok (.mk s2 n2 x2 p2)) (by simp [cxOf]) ?_
  refine ag [] rfl (by simp [cxOf]) ?_
  refine g_pcall rfl (fun _ => Check_ok (.mk o3 n3 x3 k3 p3)) (by simp [cxOf]) ?_
  refine ag [] rfl (by simp [cxOf] <;> grind) ?_
  refine dgo_ret ⟨_, rfl, tV (congrArg _ ?_), trivial⟩
  simp [funB2, errI] <;> grind

inductive Pt2 where
  | d (x : Dt)
  | f (x : Fd)
def dPt : Pt2 → V
  | .d x => partD x
  | .f x => partF x
def partB : Pt2 → Bool
  | .d x => dataB2 x
  | .f x => funB2 x

set_option maxRecDepth 100000 in
theorem right_ok (p : Pt2) : PureC Tryz.prog 77 [dPt p] (.bool (partB p)) := by
  cases p with
  | d x => exact right_data x
  | f x => exact right_fun x

mutual
theorem dTmc_inj : ∀ {a b : Tm}, dTmc a = dTmc b → a = b
  | .mk s n x ks ps, .mk s' n' x' ks' ps', h => by
    simp only [dTmc, List.cons.injEq, V.int.injEq, V.str.injEq, V.sl.injEq, and_true, true_and] at h
    obtain ⟨h1, h2, h3, h4, h5⟩ := h
    subst h1; subst h2; subst h3
    rw [dTms_inj h4, dTys_inj h5]
theorem dTms_inj : ∀ {a b : List Tm}, dTms a = dTms b → a = b
  | [], [], _ => rfl
  | [], _ :: _, h => by simp [dTms] at h
  | _ :: _, [], h => by simp [dTms] at h
  | x :: r, y :: t, h => by
    simp only [dTms, List.cons.injEq] at h
    rw [dTmc_inj h.1, dTms_inj h.2]
end

theorem map_dCdc_inj : ∀ {a b : List Cd}, a.map dCdc = b.map dCdc → a = b
  | [], [], _ => rfl
  | [], _ :: _, h => by simp at h
  | _ :: _, [], h => by simp at h
  | x :: r, y :: t, h => by
    simp only [List.map_cons, List.cons.injEq] at h
    rw [dCdc_inj h.1, map_dCdc_inj h.2]

set_option maxRecDepth 100000 in
theorem dPt_inj {a b : Pt2} (h : dPt a = dPt b) : a = b := by
  cases a with
  | d x => cases b with
    | d y =>
      obtain ⟨x1, x2⟩ := x
      obtain ⟨y1, y2⟩ := y
      simp only [dPt, partD, dDtc, V.iface.injEq, V.agg.injEq, List.cons.injEq, V.str.injEq, V.sl.injEq, true_and, and_true] at h
      rw [h.1, map_dCdc_inj h.2]
    | f y => simp [dPt, partD, partF] at h
  | f x => cases b with
    | d y => simp [dPt, partD, partF] at h
    | f y =>
      obtain ⟨nm, pm, ⟨s1, n1, x1, p1⟩, ⟨s2, n2, x2, p2⟩, ⟨o3, n3, x3, k3, p3⟩⟩ := x
      obtain ⟨nm', pm', ⟨s1', n1', x1', p1'⟩, ⟨s2', n2', x2', p2'⟩, ⟨o3', n3', x3', k3', p3'⟩⟩ := y
      simp only [dPt, partF, dFdc, dTyc, dTmc, V.iface.injEq, V.agg.injEq, List.cons_append, List.nil_append, List.cons.injEq, V.str.injEq, V.int.injEq, V.sl.injEq, true_and, and_true] at h
      obtain ⟨h1, h2, h3, h4, h5, h6, h7, h8, h9, h10, h11, h12, h13, h14, h15⟩ := h
      rw [h1, h2, h3, h4, h5, dTys_inj h6, h7, h8, h9, dTys_inj h10, h11, h12, h13, dTms_inj h14, dTys_inj h15]

set_option maxRecDepth 100000 in
theorem allParts (ps : List Pt2) (h : ps.length ≤ 9223372036854775806) : PureC Tryz.prog 76 [.sl (ps.map fun p => [dPt p]), .fn (.func 77)] (.bool (ps.all partB)) := by
  have := allI 77 (qOf dPt partB) (ps.map dPt) (by simpa using h) (fun e he => by
    obtain ⟨t, _, rfl⟩ := List.mem_map.1 he
    rw [qOf_at dPt_inj]
    exact right_ok t)
  rw [qOf_all dPt_inj, List.map_map] at this
  exact this

/-! ### Modules -/
def modB2 (m : Md) : Bool := nameS m.name && decide ((m.datas.length : Int) ≤ 4) && decide ((1 : Int) ≤ m.funs.length) && decide ((m.funs.length : Int) ≤ 5) && m.datas.all dataB2 && m.funs.all funB2
def rowP (l : List Pt2) : List (List V) := l.map fun p => [dPt p]
theorem rowP_one (l : List Pt2) : ∀ c ∈ rowP l, c.length = 1 := by
  intro c hc
  simp only [rowP, List.mem_map] at hc
  obtain ⟨a, _, rfl⟩ := hc
  rfl
@[simp] theorem rowP_length (l : List Pt2) : (rowP l).length = l.length := by simp [rowP]

def envP (b : Bool) (k : Nat) : D := match b with
  | false => .nils
  | true => .own 2 k
def stP (b : Bool) (m : Md) (es : List (List V)) : St := match b with
  | false => [(1, some (.immb 66 3 (dMdc m)))]
  | true => [(2, some (.row 121 1 es)), (1, some (.immb 66 3 (dMdc m)))]

theorem rowP_app (a b : List Pt2) : rowP (a ++ b) = rowP a ++ rowP b := by simp [rowP]

set_option maxRecDepth 100000 in
/-- The functions, then what is asked of all parts. -/
theorem cm_tail (m : Md) (b : Bool) (es0 : List (List V)) (hb : b = false → es0 = []) (he0 : es0 = rowP (m.datas.map .d)) (hd : (m.datas.length : Int) ≤ 4) (hf1 : (1 : Int) ≤ m.funs.length) (hf : (m.funs.length : Int) ≤ 5) :
    DGo Tryz.prog Tryz.f35.ntmps (nms []) (RetQ ttA Tryz.f35.results.toList (.ret (.imm (errI (m.datas.all dataB2 && m.funs.all funB2))) []))
      [.code (tailC Tryz.f35 4)] [(3, envP b es0.length), (1, .ref 1 0)] (stP b m es0) [3, 4] := by
  cases b with
  | false =>
    have := hb rfl
    subst this
    refine ad [] rfl (by simp) ?_
    refine dgo_enter (fun y : Nat × Bool × List (List V) => [(47, .imm (.int .i64 y.1)), (46, .imm (.int .i64 m.funs.length)), (45, .imm (.sl (m.funs.map dFdc))), (3, envP y.2.1 y.2.2.length), (1, .ref 1 0)])
      (fun y => stP y.2.1 m y.2.2) [3, 4] (fun y => m.funs.length - y.1)
      (fun y => y.1 ≤ m.funs.length ∧ y.2.2 = rowP (m.datas.map .d ++ (m.funs.take y.1).map .f) ∧ (y.2.1 = false → y.2.2 = [])) (0, false, []) ⟨Nat.zero_le _, by simpa using he0, fun _ => rfl⟩ ⟨rfl, tInt (by simp), rfl, rfl, rfl, trivial⟩ ⟨rfl, trivial⟩ rfl fun y hi ih => ?_
    obtain ⟨i, b, es⟩ := y
    obtain ⟨hi1, hi2, hi3⟩ := hi
    simp only at hi1 hi2 hi3
    have hlen : es.length ≤ 9 := by
      have := congrArg List.length hi2
      simp at this
      omega
    have hnext : ∀ f, m.funs[i]? = some f → es ++ [[partF f]] = rowP (m.datas.map .d ++ (m.funs.take (i + 1)).map .f) := fun f hf => by
      rw [get_take hf, List.map_append, ← List.append_assoc, rowP_app, ← hi2]; rfl
    have hend : ¬ i < m.funs.length → es = rowP (m.datas.map .d ++ m.funs.map .f) := fun h => by
      rw [hi2, List.take_of_length_le (by omega)]
    cases b with
    | false =>
      have hi3 := hi3 rfl
      subst hi3
      refine ad [] rfl (by simp) ?_
      refine dgo_cond rfl (fun h => ?_) (fun h => ?_)
      · simp at h
        obtain ⟨f, hf⟩ := has_get h
        refine ad [] rfl (by simp) ?_
        refine ai rfl (c := dFdc f) (fun _ => ⟨by simp, by simpa using map_get hf, by simp⟩) (by simp) ?_
        refine ag [] rfl (by simp) ?_
        refine g_append ttA_ok rfl ⟨by simp, by simp [maxLen], by simp, trivial⟩ ?_
        refine ag [] rfl (by simp) ?_
        refine dgo_swap 2 4 rfl ?_
        exact dgo_again (ih (i + 1, true, [] ++ [[partF f]]) (by simp only; omega) ⟨by simp only; omega, hnext f hf, fun h => by cases h⟩) ⟨tInt (w64 (by simp only; omega) (by simp only; omega)), rfl, rfl, rfl, rfl, trivial⟩ ⟨rfl, rfl, trivial⟩ rfl
      · simp at h
        have := congrArg List.length (hend (by omega))
        simp at this
        omega
    | true =>
      refine ad [] rfl (by simp) ?_
      refine dgo_cond rfl (fun h => ?_) (fun h => ?_)
      · simp at h
        obtain ⟨f, hf⟩ := has_get h
        refine ad [] rfl (by simp) ?_
        refine ai rfl (c := dFdc f) (fun _ => ⟨by simp, by simpa using map_get hf, by simp⟩) (by simp) ?_
        refine ag [] rfl (by simp) ?_
        refine g_append ttA_ok rfl ⟨by simp, by simp [maxLen]; omega, by simp; omega, trivial⟩ ?_
        refine ag [] rfl (by simp) ?_
        refine dgo_swap 2 4 rfl ?_
        exact dgo_again (ih (i + 1, true, es ++ [[partF f]]) (by simp only; omega) ⟨by simp only; omega, hnext f hf, fun h => by cases h⟩) ⟨tInt (w64 (by simp only; omega) (by simp only; omega)), rfl, rfl, rfl, rfl, trivial⟩ ⟨rfl, rfl, trivial⟩ rfl
      · simp at h
        refine dgo_exit rfl ?_
        refine dgo_freeze 2 rfl ?_
        refine ad [] rfl (by simp) ?_
        refine g_pcall rfl (fun _ => by rw [hend (by omega)]; exact allParts _ (by simp; omega)) (by simp) ?_
        refine ag [] rfl (by simp) ?_
        have hall : (m.datas.map Pt2.d ++ m.funs.map Pt2.f).all partB = (m.datas.all dataB2 && m.funs.all funB2) := by
          rw [List.all_append, List.all_map, List.all_map]; rfl
        rw [hall]
        refine dgo_cond rfl (fun h => ?_) (fun h => ?_)
        · refine ad [] rfl (by simp) ?_
          refine dgo_ret ⟨_, rfl, tV ?_, trivial⟩
          simp only [Bool.not_eq_true'] at h
          rw [h]; rfl
        · refine ad [] rfl (by simp) ?_
          refine dgo_ret ⟨_, rfl, tV ?_, trivial⟩
          simp only [Bool.not_eq_false'] at h
          rw [h]; rfl
  | true =>
    refine ad [] rfl (by simp) ?_
    refine dgo_enter (fun y : Nat × Bool × List (List V) => [(47, .imm (.int .i64 y.1)), (46, .imm (.int .i64 m.funs.length)), (45, .imm (.sl (m.funs.map dFdc))), (3, envP y.2.1 y.2.2.length), (1, .ref 1 0)])
      (fun y => stP y.2.1 m y.2.2) [3, 4] (fun y => m.funs.length - y.1)
      (fun y => y.1 ≤ m.funs.length ∧ y.2.2 = rowP (m.datas.map .d ++ (m.funs.take y.1).map .f) ∧ (y.2.1 = false → y.2.2 = [])) (0, true, es0) ⟨Nat.zero_le _, by simpa using he0, fun h => by cases h⟩ ⟨rfl, tInt (by simp), rfl, rfl, rfl, trivial⟩ ⟨rfl, rfl, trivial⟩ rfl fun y hi ih => ?_
    obtain ⟨i, b, es⟩ := y
    obtain ⟨hi1, hi2, hi3⟩ := hi
    simp only at hi1 hi2 hi3
    have hlen : es.length ≤ 9 := by
      have := congrArg List.length hi2
      simp at this
      omega
    have hnext : ∀ f, m.funs[i]? = some f → es ++ [[partF f]] = rowP (m.datas.map .d ++ (m.funs.take (i + 1)).map .f) := fun f hf => by
      rw [get_take hf, List.map_append, ← List.append_assoc, rowP_app, ← hi2]; rfl
    have hend : ¬ i < m.funs.length → es = rowP (m.datas.map .d ++ m.funs.map .f) := fun h => by
      rw [hi2, List.take_of_length_le (by omega)]
    cases b with
    | false =>
      have hi3 := hi3 rfl
      subst hi3
      refine ad [] rfl (by simp) ?_
      refine dgo_cond rfl (fun h => ?_) (fun h => ?_)
      · simp at h
        obtain ⟨f, hf⟩ := has_get h
        refine ad [] rfl (by simp) ?_
        refine ai rfl (c := dFdc f) (fun _ => ⟨by simp, by simpa using map_get hf, by simp⟩) (by simp) ?_
        refine ag [] rfl (by simp) ?_
        refine g_append ttA_ok rfl ⟨by simp, by simp [maxLen], by simp, trivial⟩ ?_
        refine ag [] rfl (by simp) ?_
        refine dgo_swap 2 4 rfl ?_
        exact dgo_again (ih (i + 1, true, [] ++ [[partF f]]) (by simp only; omega) ⟨by simp only; omega, hnext f hf, fun h => by cases h⟩) ⟨tInt (w64 (by simp only; omega) (by simp only; omega)), rfl, rfl, rfl, rfl, trivial⟩ ⟨rfl, rfl, trivial⟩ rfl
      · simp at h
        have := congrArg List.length (hend (by omega))
        simp at this
        omega
    | true =>
      refine ad [] rfl (by simp) ?_
      refine dgo_cond rfl (fun h => ?_) (fun h => ?_)
      · simp at h
        obtain ⟨f, hf⟩ := has_get h
        refine ad [] rfl (by simp) ?_
        refine ai rfl (c := dFdc f) (fun _ => ⟨by simp, by simpa using map_get hf, by simp⟩) (by simp) ?_
        refine ag [] rfl (by simp) ?_
        refine g_append ttA_ok rfl ⟨by simp, by simp [maxLen]; omega, by simp; omega, trivial⟩ ?_
        refine ag [] rfl (by simp) ?_
        refine dgo_swap 2 4 rfl ?_
        exact dgo_again (ih (i + 1, true, es ++ [[partF f]]) (by simp only; omega) ⟨by simp only; omega, hnext f hf, fun h => by cases h⟩) ⟨tInt (w64 (by simp only; omega) (by simp only; omega)), rfl, rfl, rfl, rfl, trivial⟩ ⟨rfl, rfl, trivial⟩ rfl
      · simp at h
        refine dgo_exit rfl ?_
        refine dgo_freeze 2 rfl ?_
        refine ad [] rfl (by simp) ?_
        refine g_pcall rfl (fun _ => by rw [hend (by omega)]; exact allParts _ (by simp; omega)) (by simp) ?_
        refine ag [] rfl (by simp) ?_
        have hall : (m.datas.map Pt2.d ++ m.funs.map Pt2.f).all partB = (m.datas.all dataB2 && m.funs.all funB2) := by
          rw [List.all_append, List.all_map, List.all_map]; rfl
        rw [hall]
        refine dgo_cond rfl (fun h => ?_) (fun h => ?_)
        · refine ad [] rfl (by simp) ?_
          refine dgo_ret ⟨_, rfl, tV ?_, trivial⟩
          simp only [Bool.not_eq_true'] at h
          rw [h]; rfl
        · refine ad [] rfl (by simp) ?_
          refine dgo_ret ⟨_, rfl, tV ?_, trivial⟩
          simp only [Bool.not_eq_false'] at h
          rw [h]; rfl

set_option maxRecDepth 100000 in
theorem CheckModule_ok (m : Md) : PureC Tryz.prog 35 [.agg (dMdc m)] (errI (modB2 m)) := by
  refine pureC_ok fun hv => ?_
  have hv1 : m.datas.length ≤ 9223372036854775807 ∧ m.funs.length ≤ 9223372036854775807 := by
    simp [vOkL, vOk, dMdc, maxLen] at hv; omega
  refine effc_of ttA_ok Tryz.func35 (by decide +kernel) rfl [1, 2, 3, 4] rfl rfl ?_
  refine ag [] rfl (by simp [cxOf]) ?_
  refine g_pcall rfl (fun _ => tName_ok m.name) (by simp [cxOf]) ?_
  refine ag [] rfl (by simp [cxOf] <;> grind) ?_
  refine dgo_cond rfl (fun h => ?_) (fun h => ?_)
  · refine ad [] rfl (by simp) ?_
    refine dgo_ret ⟨_, rfl, tV (congrArg _ ?_), trivial⟩
    have : modB2 m = false := by
      simp at h
      simp [modB2]
      grind
    rw [this]; rfl
  have hx : nameS m.name = true ∧ (m.datas.length : Int) ≤ 4 ∧ (1 : Int) ≤ m.funs.length ∧ (m.funs.length : Int) ≤ 5 := by
    simp at h
    refine ⟨?_, ?_, ?_, ?_⟩ <;> grind
  clear h
  have hres : modB2 m = (m.datas.all dataB2 && m.funs.all funB2) := by simp [modB2, hx.1, hx.2.1, hx.2.2.1, hx.2.2.2]
  rw [hres]
  refine ad [] rfl (by simp) ?_
  refine dgo_enter (fun y : Nat × Bool × List (List V) => [(33, .imm (.int .i64 y.1)), (32, .imm (.int .i64 m.datas.length)), (31, .imm (.sl (m.datas.map dDtc))), (3, envP y.2.1 y.2.2.length), (1, .ref 1 0)])
    (fun y => stP y.2.1 m y.2.2) [3, 4] (fun y => m.datas.length - y.1)
    (fun y => y.1 ≤ m.datas.length ∧ y.2.2 = rowP ((m.datas.take y.1).map .d) ∧ (y.2.1 = false → y.2.2 = [])) (0, false, []) ⟨Nat.zero_le _, rfl, fun _ => rfl⟩ ⟨rfl, tInt (by simp), rfl, rfl, rfl, trivial⟩ ⟨rfl, trivial⟩ rfl fun y hi ih => ?_
  obtain ⟨i, b, es⟩ := y
  obtain ⟨hi1, hi2, hi3⟩ := hi
  simp only at hi1 hi2 hi3
  have hlen : es.length ≤ 4 := by
    have := congrArg List.length hi2
    simp at this
    omega
  have hend : ¬ i < m.datas.length → es = rowP (m.datas.map .d) := fun h => by
    rw [hi2, List.take_of_length_le (by omega)]
  have hnext : ∀ d, m.datas[i]? = some d → es ++ [[partD d]] = rowP ((m.datas.take (i + 1)).map .d) := fun d hd => by
    rw [get_take hd, List.map_append, rowP_app, ← hi2]; rfl
  cases b with
  | false =>
    have hi3 := hi3 rfl
    subst hi3
    refine ad [] rfl (by simp) ?_
    refine dgo_cond rfl (fun h => ?_) (fun h => ?_)
    · simp at h
      obtain ⟨d, hd⟩ := has_get h
      refine ad [] rfl (by simp) ?_
      refine ai rfl (c := dDtc d) (fun _ => ⟨by simp, by simpa using map_get hd, by simp⟩) (by simp) ?_
      refine ag [] rfl (by simp) ?_
      refine g_append ttA_ok rfl ⟨by simp, by simp [maxLen], by simp, trivial⟩ ?_
      refine ag [] rfl (by simp) ?_
      refine dgo_swap 2 4 rfl ?_
      exact dgo_again (ih (i + 1, true, [] ++ [[partD d]]) (by simp only; omega) ⟨by simp only; omega, hnext d hd, fun h => by cases h⟩) ⟨tInt (w64 (by simp only; omega) (by simp only; omega)), rfl, rfl, rfl, rfl, trivial⟩ ⟨rfl, rfl, trivial⟩ rfl
    · simp at h
      refine dgo_exit rfl ?_
      exact dgo_again (cm_tail m false [] (fun _ => rfl) (hend (by omega)) hx.2.1 hx.2.2.1 hx.2.2.2) ⟨rfl, rfl, trivial⟩ ⟨rfl, trivial⟩ rfl
  | true =>
    refine ad [] rfl (by simp) ?_
    refine dgo_cond rfl (fun h => ?_) (fun h => ?_)
    · simp at h
      obtain ⟨d, hd⟩ := has_get h
      refine ad [] rfl (by simp) ?_
      refine ai rfl (c := dDtc d) (fun _ => ⟨by simp, by simpa using map_get hd, by simp⟩) (by simp) ?_
      refine ag [] rfl (by simp) ?_
      refine g_append ttA_ok rfl ⟨by simp, by simp [maxLen]; omega, by simp; omega, trivial⟩ ?_
      refine ag [] rfl (by simp) ?_
      refine dgo_swap 2 4 rfl ?_
      exact dgo_again (ih (i + 1, true, es ++ [[partD d]]) (by simp only; omega) ⟨by simp only; omega, hnext d hd, fun h => by cases h⟩) ⟨tInt (w64 (by simp only; omega) (by simp only; omega)), rfl, rfl, rfl, rfl, trivial⟩ ⟨rfl, rfl, trivial⟩ rfl
    · simp at h
      refine dgo_exit rfl ?_
      exact dgo_again (cm_tail m true es (fun h => by cases h) (hend (by omega)) hx.2.1 hx.2.2.1 hx.2.2.2) ⟨rfl, rfl, trivial⟩ ⟨rfl, rfl, trivial⟩ rfl

end Go.Hk

/- Plain laws of layer 1: what the program asks of types, patterns, terms and modules is what the document asks. -/
namespace Go.Hk

mutual
theorem weighTy_of : ∀ (t : Ty) (l : Int), (nodesTy t : Int) ≤ l → 0 ≤ weighTy t l
  | .mk _ _ _ ps, l, h => by
    simp only [nodesTy] at h
    simp only [weighTy]
    rw [if_neg (by omega)]
    exact weighTys_of ps (l - 1) (by omega)
theorem weighTys_of : ∀ (ts : List Ty) (l : Int), (nodesTys ts : Int) ≤ l → 0 ≤ weighTys ts l
  | [], l, h => by simpa [weighTys, nodesTys] using h
  | t :: r, l, h => by
    simp only [nodesTys] at h
    simp only [weighTys]
    rw [if_pos (by omega)]
    have h1 := weighTy_of t l (by omega)
    have h2 := weighTy_nodes t l h1
    exact weighTys_of r _ (by omega)
end

theorem weigh_iff (t : Ty) (l : Nat) : decide (0 ≤ weighTy t l) = decide (nodesTy t ≤ l) := by
  by_cases h : nodesTy t ≤ l
  · rw [decide_eq_true h, decide_eq_true (weighTy_of t l (by omega))]
  · rw [decide_eq_false h]
    refine decide_eq_false fun h1 => h ?_
    have := weighTy_nodes t l h1
    omega

theorem formed_type (t : Ty) : formedB true t = typeB t := by
  simp only [formedB, typeB]; rw [← weigh_iff t 12]; rfl
theorem formed_whole (t : Ty) : formedB false t = wholeB t := by
  simp only [formedB, wholeB]; rw [← weigh_iff t 12]; rfl
theorem check_pat (t : Ty) : checkPatB t = patOkB t := by
  simp only [checkPatB, patOkB]; rw [← weigh_iff t 12, Bool.and_assoc]; rfl

theorem integer_in (n : Int) : integerB n = inI n (-1000000000) 1000000000 := rfl

theorem wrap_small (p : Nat) (h : p ≤ 1000) : IntKind.i64.wrap (1 + (p : Int)) = 1 + (p : Int) := w64 (by omega) (by omega)

theorem nodeT_eq (op n : Int) (x : Str) (k : Nat) (ps : List Ty) (hp : ps.length ≤ 1000) : nodeT op n x k ps = (nodeB op n x k ps.length && ps.all patOkB) := by
  have hc : checkPatB = patOkB := funext check_pat
  have hw := wrap_small ps.length hp
  by_cases h1 : op = 1
  · subst h1
    cases ps <;> simp [nodeT, headB, extraB, lastB, nodeB, shapeH, spareB, inI, integerB] <;> grind
  by_cases h2 : op = 2
  · subst h2
    cases ps <;> simp [nodeT, headB, extraB, lastB, nodeB, shapeH, spareB, inI, integerB] <;> grind
  by_cases h3 : op = 3
  · subst h3
    cases ps <;> simp [nodeT, headB, extraB, lastB, nodeB, shapeH, spareB, inI, integerB] <;> grind
  by_cases h4 : op = 4
  · subst h4
    cases ps <;> simp [nodeT, headB, extraB, lastB, nodeB, shapeH, spareB, inI, integerB] <;> grind
  by_cases h5 : op = 5
  · subst h5
    cases ps <;> simp [nodeT, headB, extraB, lastB, nodeB, shapeH, spareB, inI, integerB] <;> grind
  by_cases h6 : op = 6
  · subst h6
    cases ps <;> simp [nodeT, headB, extraB, lastB, nodeB, shapeH, spareB, inI, integerB] <;> grind
  by_cases h7 : op = 7
  · subst h7
    cases ps <;> simp [nodeT, headB, extraB, lastB, nodeB, shapeH, spareB, inI, integerB] <;> grind
  by_cases h8 : op = 8
  · subst h8
    cases ps <;> simp [nodeT, headB, extraB, lastB, nodeB, shapeH, spareB, inI, integerB] <;> grind
  by_cases h9 : op = 9
  · subst h9
    cases ps <;> simp [nodeT, headB, extraB, lastB, nodeB, shapeH, spareB, inI, integerB] <;> grind
  by_cases h10 : op = 10
  · subst h10
    cases ps <;> simp [nodeT, headB, extraB, lastB, nodeB, shapeH, spareB, inI, integerB] <;> grind
  by_cases h11 : op = 11
  · subst h11
    cases ps <;> simp [nodeT, headB, extraB, lastB, nodeB, shapeH, spareB, inI, integerB] <;> grind
  by_cases h12 : op = 12
  · subst h12
    cases ps <;> simp [nodeT, headB, extraB, lastB, nodeB, shapeH, spareB, inI, integerB] <;> grind
  by_cases h13 : op = 13
  · subst h13
    cases ps <;> simp [nodeT, headB, extraB, lastB, nodeB, shapeH, spareB, inI, integerB] <;> grind
  by_cases h14 : op = 14
  · subst h14
    have hk : (if (3 : Int) < k then 3 else (k : Int)) = k ↔ (k : Int) ≤ 3 := by split <;> omega
    cases ps <;> simp [nodeT, headB, extraB, lastB, nodeB, shapeH, spareB] <;> grind
  by_cases h15 : op = 15
  · subst h15
    simp only [nodeT, headB, extraB, lastB, nodeB, shapeH, spareB, inI, hc]
    simp [hw]
    grind
  by_cases h16 : op = 16
  · subst h16
    cases ps <;> simp [nodeT, headB, extraB, lastB, nodeB, shapeH, spareB, inI, integerB] <;> grind
  by_cases h17 : op = 17
  · subst h17
    cases ps <;> simp [nodeT, headB, extraB, lastB, nodeB, shapeH, spareB, inI, integerB] <;> grind
  by_cases h18 : op = 18
  · subst h18
    cases ps <;> simp [nodeT, headB, extraB, lastB, nodeB, shapeH, spareB, inI, integerB] <;> grind
  by_cases h19 : op = 19
  · subst h19
    cases ps <;> simp [nodeT, headB, extraB, lastB, nodeB, shapeH, spareB, inI, integerB] <;> grind
  by_cases h20 : op = 20
  · subst h20
    cases ps <;> simp [nodeT, headB, extraB, lastB, nodeB, shapeH, spareB, inI, integerB] <;> grind
  by_cases h21 : op = 21
  · subst h21
    cases ps <;> simp [nodeT, headB, extraB, lastB, nodeB, shapeH, spareB, inI, integerB] <;> grind
  by_cases h22 : op = 22
  · subst h22
    cases ps <;> simp [nodeT, headB, extraB, lastB, nodeB, shapeH, spareB, inI, integerB] <;> grind
  by_cases h23 : op = 23
  · subst h23
    cases ps <;> simp [nodeT, headB, extraB, lastB, nodeB, shapeH, spareB, inI, integerB] <;> grind
  by_cases h24 : op = 24
  · subst h24
    cases ps <;> simp [nodeT, headB, extraB, lastB, nodeB, shapeH, spareB, inI, integerB] <;> grind
  by_cases h25 : op = 25
  · subst h25
    cases ps <;> simp [nodeT, headB, extraB, lastB, nodeB, shapeH, spareB, inI, integerB] <;> grind
  by_cases h26 : op = 26
  · subst h26
    cases ps <;> simp [nodeT, headB, extraB, lastB, nodeB, shapeH, spareB, inI, integerB] <;> grind
  by_cases h27 : op = 27
  · subst h27
    cases ps <;> simp [nodeT, headB, extraB, lastB, nodeB, shapeH, spareB, inI, integerB] <;> grind
  by_cases h28 : op = 28
  · subst h28
    cases ps <;> simp [nodeT, headB, extraB, lastB, nodeB, shapeH, spareB, inI, integerB] <;> grind
  simp [nodeT, headB, nodeB, shapeH, h1, h2, h3, h4, h5, h6, h7, h8, h9, h10, h11, h12, h13, h14, h15, h16, h17, h18, h19, h20, h21, h22, h23, h24, h25, h26, h27, h28]

mutual
theorem nodesTT_eq : ∀ (t : Tm), smallTm t = true → nodesTT t = nodesTm t
  | .mk op n x ks ps, h => by
    simp only [smallTm, Bool.and_eq_true, decide_eq_true_eq] at h
    simp only [nodesTT, nodesTm]
    rw [nodeT_eq op n x ks.length ps (by omega), nodesTTs_eq ks h.2]
theorem nodesTTs_eq : ∀ (ts : List Tm), smallTms ts = true → nodesTTs ts = nodesTms ts
  | [], _ => rfl
  | t :: r, h => by
    simp only [smallTms, Bool.and_eq_true] at h
    simp only [nodesTTs, nodesTms]
    rw [nodesTT_eq t h.1, nodesTTs_eq r h.2]
end

theorem check_term (t : Tm) (h : smallTermB t = true) : checkB t = termB t := by
  simp only [smallTermB, Bool.and_eq_true] at h
  simp only [checkB, termB]
  rw [nodesTT_eq t h.2]

theorem conB_eq (c : Cd) : conB2 c = conB c := by
  simp only [conB2, conB]
  rw [show formedB false = wholeB from funext formed_whole]
theorem dataB_eq (d : Dt) : dataB2 d = dataB d := by
  simp only [dataB2, dataB, inI]
  rw [show conB2 = conB from funext conB_eq]
  simp only [Bool.and_assoc]
theorem funB_eq (f : Fd) (h : smallFunB f = true) : funB2 f = funB f := by
  simp only [smallFunB, Bool.and_eq_true] at h
  simp only [funB2, funB, formed_whole, check_term f.body h.2]

theorem modB_eq (m : Md) (h : smallModuleB m = true) : modB2 m = moduleB m := by
  simp only [smallModuleB, Bool.and_eq_true] at h
  have hf : m.funs.all funB2 = m.funs.all funB := by
    rw [Bool.eq_iff_iff]
    simp only [List.all_eq_true]
    exact ⟨fun q f hf => by rw [← funB_eq f (List.all_eq_true.1 h.2 f hf)]; exact q f hf, fun q f hf => by rw [funB_eq f (List.all_eq_true.1 h.2 f hf)]; exact q f hf⟩
  simp only [modB2, moduleB, inI]
  rw [show dataB2 = dataB from funext dataB_eq, hf]
  simp only [Bool.and_assoc]

end Go.Hk

/- Values, blocks and frames of the ghost machine, which computes closed programs; how they stand for those of a world. -/
namespace Go.Gx

inductive G where
  | undef
  | bool (b : Bool)
  | int (k : IntKind) (n : Int)
  | str (len n : Nat)
  | nilp
  | ptr (b o : Nat)
  | nils
  | sl (b o len cap : Nat) (ex : Option Nat)
  | nilm
  | map (b : Nat)
  | nili
  | if_ (t : TypeId) (g : G)
  | nilf
  | fn (f : FuncId) (fi ca : List G)
  | yield (b : Nat)
  | agg (l : List G)
  | tup (l : List G)

/-! ### Strings as numbers -/
def pk : List UInt8 → Nat
  | [] => 0
  | b :: r => b.toNat + 256 * pk r

theorem pk_lt : ∀ l : List UInt8, pk l < 256 ^ l.length
  | [] => by simp [pk]
  | b :: r => by
    have := pk_lt r
    have hb := b.toNat_lt
    simp only [pk, List.length_cons, Nat.pow_succ]
    omega

theorem pk_inj : ∀ {a b : List UInt8}, a.length = b.length → pk a = pk b → a = b
  | [], [], _, _ => rfl
  | x :: a, y :: b, hl, h => by
    have hx := x.toNat_lt
    have hy := y.toNat_lt
    simp only [pk] at h
    have h1 : x.toNat = y.toNat := by omega
    have h2 : pk a = pk b := by omega
    rw [UInt8.toNat_inj.1 h1, pk_inj (by simpa using hl) h2]
  | [], _ :: _, hl, _ => by simp at hl
  | _ :: _, [], hl, _ => by simp at hl

theorem pk_append : ∀ (a b : List UInt8), pk (a ++ b) = pk a + 256 ^ a.length * pk b
  | [], b => by simp [pk]
  | x :: a, b => by
    simp only [List.cons_append, pk, pk_append a b, List.length_cons, Nat.pow_succ]
    rw [Nat.mul_add, Nat.mul_comm (256 ^ a.length) 256, Nat.mul_assoc]
    omega

theorem pk_take_drop (l : List UInt8) (k : Nat) (h : k ≤ l.length) : pk (l.take k) = pk l % 256 ^ k ∧ pk (l.drop k) = pk l / 256 ^ k := by
  have e := pk_append (l.take k) (l.drop k)
  rw [List.take_append_drop, List.length_take, Nat.min_eq_left h] at e
  have hlt := pk_lt (l.take k)
  rw [List.length_take, Nat.min_eq_left h] at hlt
  rw [e]
  constructor
  · rw [Nat.add_mul_mod_self_left, Nat.mod_eq_of_lt hlt]
  · rw [Nat.add_mul_div_left _ _ (Nat.pow_pos (by omega)), Nat.div_eq_of_lt hlt, Nat.zero_add]

theorem pow_256 (k : Nat) : 256 ^ k = 2 ^ (8 * k) := by
  rw [Nat.pow_mul]

/-- The byte at a place. -/
def byteAt (n i : Nat) : Nat := Nat.mod (Nat.shiftRight n (Nat.mul 8 i)) 256

theorem byteAt_pk (l : List UInt8) (i : Nat) (h : i < l.length) : byteAt (pk l) i = (l[i]).toNat := by
  unfold byteAt
  have h1 := (pk_take_drop l i (by omega)).2
  have e : Nat.shiftRight (pk l) (Nat.mul 8 i) = pk l / 256 ^ i := by
    rw [pow_256]
    exact Nat.shiftRight_eq_div_pow _ _
  rw [e, ← h1, List.drop_eq_getElem_cons h]
  have := l[i].toNat_lt
  show (_ + 256 * _) % 256 = _
  omega

/-! ### Blocks and frames -/
abbrev S := Nat → G

def getS (t : Nat) (s : S) : G := s t
noncomputable def setS (t : Nat) (s : S) (v : G) : S := fun u => Bool.rec (motive := fun _ => G) (s u) v (Nat.beq u t)
def S0 : S := fun _ => .undef

theorem getS_setS (t u : Nat) (s : S) (v : G) : getS t (setS u s v) = if t = u then v else getS t s := by
  by_cases h : t = u
  · subst h
    rw [if_pos rfl]
    show Bool.rec (motive := fun _ => G) (s t) v (Nat.beq t t) = v
    rw [Nat.beq_refl]
  · rw [if_neg h]
    have : Nat.beq t u = false := by
      cases hb : Nat.beq t u with
      | false => rfl
      | true => exact absurd (Nat.eq_of_beq_eq_true hb) h
    show Bool.rec (motive := fun _ => G) (s t) v (Nat.beq t u) = s t
    rw [this]

theorem getS_S0 (t : Nat) : getS t S0 = .undef := rfl

end Go.Gx

/- The ghost machine's memory, and how it stands for a world's. -/
namespace Go.Gx

inductive GB where
  | dead
  | cells (l : List G)
  | map (ver : Nat) (kv : List (G × G))
  | siter (len n pos : Nat)
  | miter (m ver : Nat) (cur : Option (G × G)) (rem : List (G × G))
  | minone
  | loop (st : LoopState) (pend : Option Code) (fn : FuncId) (s : S) (n : Nat) (ps : Array Tmp) (asg body : Code) (db : Nat)
  | defd

inductive T where
  | e
  | n (v : GB) (l r : T)

noncomputable def T.get (t : T) : Nat → GB :=
  T.rec (motive := fun _ => Nat → GB) (fun _ => .dead)
    (fun v _ _ ihl ihr k => Nat.rec (motive := fun _ => GB) v (fun m _ => Nat.rec (motive := fun _ => GB) (ihl (Nat.div m 2)) (fun _ _ => ihr (Nat.div m 2)) (Nat.mod m 2)) k) t

noncomputable def T.setK {β : Type} (t : T) : Nat → GB → (T → β) → β → β :=
  T.rec (motive := fun _ => Nat → GB → (T → β) → β → β)
    (fun k x c f => Nat.rec (motive := fun _ => β) (c (.n x .e .e)) (fun _ _ => f) k)
    (fun v l r ihl ihr k x c f => Nat.rec (motive := fun _ => β) (c (.n x l r))
      (fun m _ => Nat.rec (motive := fun _ => β) (ihl (Nat.div m 2) x (fun l' => c (.n v l' r)) f) (fun _ _ => ihr (Nat.div m 2) x (fun r' => c (.n v l r')) f) (Nat.mod m 2)) k) t

noncomputable def T.set? (t : T) (k : Nat) (x : GB) : Option T := t.setK k x some none

theorem T.setK_eq {β : Type} : ∀ (t : T) (k : Nat) (x : GB) (c : T → β) (f : β), t.setK k x c f = match t.set? k x with | some t' => c t' | none => f
  | .e, 0, x, c, f => rfl
  | .e, k + 1, x, c, f => rfl
  | .n v l r, 0, x, c, f => rfl
  | .n v l r, k + 1, x, c, f => by
    have hl := fun c f => T.setK_eq (β := β) l (k / 2) x c f
    have hr := fun c f => T.setK_eq (β := β) r (k / 2) x c f
    have hl' := fun c f => T.setK_eq (β := Option T) l (k / 2) x c f
    have hr' := fun c f => T.setK_eq (β := Option T) r (k / 2) x c f
    have e1 : (T.n v l r).setK (k + 1) x c f = Nat.rec (motive := fun _ => β) (l.setK (k / 2) x (fun l' => c (.n v l' r)) f) (fun _ _ => r.setK (k / 2) x (fun r' => c (.n v l r')) f) (k % 2) := rfl
    have e2 : (T.n v l r).set? (k + 1) x = Nat.rec (motive := fun _ => Option T) (l.setK (k / 2) x (fun l' => some (.n v l' r)) none) (fun _ _ => r.setK (k / 2) x (fun r' => some (.n v l r')) none) (k % 2) := rfl
    rw [e1, e2]
    cases k % 2 with
    | zero =>
      show l.setK (k / 2) x (fun l' => c (.n v l' r)) f = match l.setK (k / 2) x (fun l' => some (T.n v l' r)) none with | some t' => c t' | none => f
      rw [hl, hl']
      cases l.set? (k / 2) x <;> rfl
    | succ n =>
      show r.setK (k / 2) x (fun r' => c (.n v l r')) f = match r.setK (k / 2) x (fun r' => some (T.n v l r')) none with | some t' => c t' | none => f
      rw [hr, hr']
      cases r.set? (k / 2) x <;> rfl

theorem T.get_set : ∀ {t t' : T} {k : Nat} {x : GB}, t.set? k x = some t' → ∀ j, t'.get j = if j = k then x else t.get j
  | .e, t', 0, x, h, j => by
    cases h
    cases j with
    | zero => rfl
    | succ j =>
      rw [if_neg (by simp)]
      show Nat.rec (motive := fun _ => GB) (T.e.get (j / 2)) (fun _ _ => T.e.get (j / 2)) (j % 2) = .dead
      cases j % 2 <;> rfl
  | .e, t', k + 1, x, h, j => by cases h
  | .n v l r, t', 0, x, h, j => by
    cases h
    cases j with
    | zero => rfl
    | succ j => rw [if_neg (by simp)]; rfl
  | .n v l r, t', k + 1, x, h, j => by
    have e2 : (T.n v l r).set? (k + 1) x = Nat.rec (motive := fun _ => Option T) (l.setK (k / 2) x (fun l' => some (.n v l' r)) none) (fun _ _ => r.setK (k / 2) x (fun r' => some (.n v l r')) none) (k % 2) := rfl
    rw [e2] at h
    have hj : ∀ (a b : T) (j : Nat), (T.n v a b).get (j + 1) = Nat.rec (motive := fun _ => GB) (a.get (j / 2)) (fun _ _ => b.get (j / 2)) (j % 2) := fun _ _ _ => rfl
    have hk2 : k % 2 = 0 ∨ k % 2 = 1 := by omega
    rcases hk2 with hk2 | hk2
    · rw [hk2] at h
      have h : l.setK (k / 2) x (fun l' => some (T.n v l' r)) none = some t' := h
      rw [T.setK_eq] at h
      cases hs : l.set? (k / 2) x with
      | none => rw [hs] at h; cases h
      | some l' =>
        rw [hs] at h
        cases h
        cases j with
        | zero => simp; rfl
        | succ j =>
          rw [hj, hj]
          have hj2 : j % 2 = 0 ∨ j % 2 = 1 := by omega
          rcases hj2 with hj2 | hj2
          · rw [hj2]
            show l'.get (j / 2) = if j + 1 = k + 1 then x else l.get (j / 2)
            rw [T.get_set hs]
            have : j / 2 = k / 2 ↔ j + 1 = k + 1 := by omega
            simp only [this]
          · rw [hj2]
            have : j + 1 ≠ k + 1 := by omega
            simp only [this, if_false]
            rfl
    · rw [hk2] at h
      have h : r.setK (k / 2) x (fun r' => some (T.n v l r')) none = some t' := h
      rw [T.setK_eq] at h
      cases hs : r.set? (k / 2) x with
      | none => rw [hs] at h; cases h
      | some r' =>
        rw [hs] at h
        cases h
        cases j with
        | zero => simp; rfl
        | succ j =>
          rw [hj, hj]
          have hj2 : j % 2 = 0 ∨ j % 2 = 1 := by omega
          rcases hj2 with hj2 | hj2
          · rw [hj2]
            have : j + 1 ≠ k + 1 := by omega
            simp only [this, if_false]
            rfl
          · rw [hj2]
            show r'.get (j / 2) = if j + 1 = k + 1 then x else r.get (j / 2)
            rw [T.get_set hs]
            have : j / 2 = k / 2 ↔ j + 1 = k + 1 := by omega
            simp only [this]

structure GH where
  size : Nat
  t : T

noncomputable def GH.get (h : GH) (b : Nat) : GB := h.t.get b

/-! ### What stands for what -/
/-- The world's block that a block of the ghost stands for, and how many cells it has. -/
abbrev Rho := Nat → Option (Nat × Nat)

def Rho.le (ρ ρ' : Rho) : Prop := ∀ b x, ρ b = some x → ρ' b = some x
theorem Rho.le_refl (ρ : Rho) : ρ.le ρ := fun _ _ h => h
theorem Rho.le_trans {a b c : Rho} (h : a.le b) (k : b.le c) : a.le c := fun i x hx => k i x (h i x hx)

inductive RepG (ρ : Rho) : Value → G → Prop where
  | undef (v : Value) : RepG ρ v .undef
  | bool (b : Bool) : RepG ρ (.bool b) (.bool b)
  | int (k : IntKind) (n : Int) : RepG ρ (.int k n) (.int k n)
  | str (s : ByteArray) (len n : Nat) (hl : s.size = len) (hn : pk s.data.toList = n) : RepG ρ (.string s) (.str len n)
  | nilp : RepG ρ (.pointer none) .nilp
  | ptr (b r z o : Nat) (h : ρ b = some (r, z)) : RepG ρ (.pointer (some ⟨r, o, none⟩)) (.ptr b o)
  | nils : RepG ρ (.slice none 0 0) .nils
  | sl (b r z o len cap cap' : Nat) (ex : Option Nat) (h : ρ b = some (r, z)) (hl : len ≤ cap) (hc : cap ≤ cap') (hm : cap' ≤ maxLen)
      (hx : match ex with | none => cap' = cap | some sz => o + cap' * sz = z) : RepG ρ (.slice (some ⟨r, o, none⟩) len cap') (.sl b o len cap ex)
  | sl0 (a : Addr) (b o : Nat) (ex : Option Nat) : RepG ρ (.slice (some a) 0 0) (.sl b o 0 0 ex)
  | nilm : RepG ρ (.map none) .nilm
  | map (b r z : Nat) (h : ρ b = some (r, z)) : RepG ρ (.map (some r)) (.map b)
  | nili : RepG ρ .nilIface .nili
  | if_ (t : TypeId) (v : Value) (g : G) (h : RepG ρ v g) : RepG ρ (.iface t v) (.if_ t g)
  | nilf : RepG ρ .nilFunc .nilf
  | fn (f : FuncId) (first cap : Array Value) (fi ca : List G) (hf : first.size = fi.length) (hc : cap.size = ca.length)
      (h1 : ∀ (i : Nat) (v : Value) (g : G), first[i]? = some v → fi[i]? = some g → RepG ρ v g) (h2 : ∀ (i : Nat) (v : Value) (g : G), cap[i]? = some v → ca[i]? = some g → RepG ρ v g) :
      RepG ρ (.func (.func f) first cap) (.fn f fi ca)
  | yield (b l z : Nat) (h : ρ b = some (l, z)) : RepG ρ (.func (.yield l) #[] #[]) (.yield b)
  | agg (cs : Array Value) (l : List G) (hl : cs.size = l.length) (h1 : ∀ c ∈ cs.toList, c.oneCell' = true) (h : ∀ (i : Nat) (v : Value) (g : G), cs[i]? = some v → l[i]? = some g → RepG ρ v g) : RepG ρ (.agg cs) (.agg l)
  | tup (cs : Array Value) (l : List G) (hl : cs.size = l.length) (h : ∀ (i : Nat) (v : Value) (g : G), cs[i]? = some v → l[i]? = some g → RepG ρ v g) : RepG ρ (.tuple cs) (.tup l)

theorem RepG.mapρ {ρ : Rho} {v : Value} {b : Nat} (h : RepG ρ v (.map b)) : ∃ r z, ρ b = some (r, z) := by cases h with | map _ r z h => exact ⟨r, z, h⟩

theorem RepG.mono {ρ ρ' : Rho} (hρ : ρ.le ρ') {v : Value} {g : G} (h : RepG ρ v g) : RepG ρ' v g := by
  induction h with
  | undef v => exact .undef v
  | bool b => exact .bool b
  | int k n => exact .int k n
  | str s len n hl hn => exact .str s len n hl hn
  | nilp => exact .nilp
  | ptr b r z o h => exact .ptr b r z o (hρ _ _ h)
  | nils => exact .nils
  | sl b r z o len cap cap' ex h hl hc hm hx => exact .sl b r z o len cap cap' ex (hρ _ _ h) hl hc hm hx
  | sl0 a b o ex => exact .sl0 a b o ex
  | nilm => exact .nilm
  | map b r z h => exact .map b r z (hρ _ _ h)
  | nili => exact .nili
  | if_ t v g _ ih => exact .if_ t v g ih
  | nilf => exact .nilf
  | fn f first cap fi ca hf hc _ _ ih1 ih2 => exact .fn f first cap fi ca hf hc ih1 ih2
  | yield b l z h => exact .yield b l z (hρ _ _ h)
  | agg cs l hl h1 _ ih => exact .agg cs l hl h1 ih
  | tup cs l hl _ ih => exact .tup cs l hl ih

/-- Values that take one cell. -/
def G.one : G → Bool
  | .agg _ | .tup _ | .undef => false
  | _ => true
theorem RepG.one {ρ : Rho} {v : Value} {g : G} (h : RepG ρ v g) (hx : g.one = true) : v.oneCell' = true := by
  cases h <;> first | rfl | (simp [G.one] at hx)

def RepGs (ρ : Rho) (vs : List Value) (gs : List G) : Prop := vs.length = gs.length ∧ ∀ (i : Nat) (v : Value) (g : G), vs[i]? = some v → gs[i]? = some g → RepG ρ v g

theorem RepGs.mono {ρ ρ' : Rho} (hρ : ρ.le ρ') {vs : List Value} {gs : List G} (h : RepGs ρ vs gs) : RepGs ρ' vs gs := ⟨h.1, fun i v g a b => (h.2 i v g a b).mono hρ⟩
theorem RepGs.nil {ρ : Rho} : RepGs ρ [] [] := ⟨rfl, fun i v g h => by simp at h⟩
theorem RepGs.mk {ρ : Rho} {v : Value} {vs : List Value} {g : G} {gs : List G} (h : RepG ρ v g) (hs : RepGs ρ vs gs) : RepGs ρ (v :: vs) (g :: gs) :=
  ⟨by simp [hs.1], fun i u y h1 h2 => by
    cases i with
    | zero => simp at h1 h2; subst h1; subst h2; exact h
    | succ i => exact hs.2 i u y (by simpa using h1) (by simpa using h2)⟩
theorem RepGs.cons {ρ : Rho} {v : Value} {vs : List Value} {g : G} {gs : List G} (h : RepGs ρ (v :: vs) (g :: gs)) : RepG ρ v g ∧ RepGs ρ vs gs :=
  ⟨h.2 0 v g rfl rfl, by simpa using h.1, fun i v g h1 h2 => h.2 (i + 1) v g (by simpa using h1) (by simpa using h2)⟩
theorem RepGs.append {ρ : Rho} : ∀ {vs us : List Value} {gs ys : List G}, RepGs ρ vs gs → RepGs ρ us ys → RepGs ρ (vs ++ us) (gs ++ ys)
  | [], _, [], _, _, k => k
  | [], _, _ :: _, _, h, _ => by simp [RepGs] at h
  | _ :: _, _, [], _, h, _ => by simp [RepGs] at h
  | v :: vs, us, g :: gs, ys, h, k => .mk h.cons.1 (RepGs.append h.cons.2 k)
theorem RepGs.take {ρ : Rho} {vs : List Value} {gs : List G} (h : RepGs ρ vs gs) (n : Nat) : RepGs ρ (vs.take n) (gs.take n) :=
  ⟨by simp [h.1], fun i v g a b => by
    rw [List.getElem?_take] at a b
    split at a
    · rw [if_pos (by assumption)] at b; exact h.2 i v g a b
    · cases a⟩
theorem RepGs.drop {ρ : Rho} {vs : List Value} {gs : List G} (h : RepGs ρ vs gs) (n : Nat) : RepGs ρ (vs.drop n) (gs.drop n) :=
  ⟨by simp [h.1], fun i v g a b => by
    rw [List.getElem?_drop] at a b; exact h.2 _ v g a b⟩

/-- The slots of a frame. -/
def SRep (ρ : Rho) (s : S) (tmps : Array Value) : Prop := tmps.size ≤ 256 ∧ ∀ t, RepG ρ (tmps.getD t Go.undef) (getS t s)

theorem SRep.mono {ρ ρ' : Rho} (hρ : ρ.le ρ') {s : S} {tmps : Array Value} (h : SRep ρ s tmps) : SRep ρ' s tmps := ⟨h.1, fun t => (h.2 t).mono hρ⟩

def loopKeep (r : Go.Loop) (st : LoopState) (pend : Option Code) (fn : FuncId) (ps : Array Tmp) (asg body : Code) : Prop :=
  r.state = st ∧ r.pending = pend ∧ r.fn = fn ∧ r.params = ps ∧ r.assign = asg ∧ r.body = body

/-- The entries of a map, in any order. -/
def KvRep (ρ : Rho) (es : List MapEntry) (kv : List (G × G)) : Prop :=
  ∃ l : List MapEntry, l.Perm es ∧ l.length = kv.length ∧ ∀ (i : Nat) (e : MapEntry) (p : G × G), l[i]? = some e → kv[i]? = some p → RepG ρ e.key p.1 ∧ RepG ρ e.val p.2

/-- What an iterator over a map has come to. -/
def CurRep (ρ : Rho) (es : List MapEntry) (seen : Array Nat) : Option (G × G) → Prop
  | none => True
  | some p => ∃ (e : MapEntry) (s0 : Array Nat), e ∈ es ∧ seen = s0.push e.born ∧ RepG ρ e.key p.1 ∧ RepG ρ e.val p.2

def GB.isDead : GB → Bool
  | .dead => true
  | _ => false

def BRep (ρ : Rho) (h : GH) (w : World) (r z : Nat) : GB → Prop
  | .dead => True
  | .cells l => ∃ vs t, w.heap[r]? = some (.cells vs t (0, 0)) ∧ vs.size = z ∧ l.length ≤ z ∧ RepGs ρ (vs.toList.take l.length) l ∧ ∀ v ∈ vs.toList.take l.length, v.oneCell' = true
  | .map _ kv => ∃ es clock, w.heap[r]? = some (.map es clock) ∧ KvRep ρ es.toList kv ∧ (kv.map (·.1)).Nodup ∧ kv.length ≤ maxLen ∧ (∀ e ∈ es.toList, e.born < clock) ∧ (es.toList.map (·.born)).Nodup
  | .siter len n pos => ∃ s : ByteArray, w.heap[r]? = some (.stringIter s pos) ∧ s.size = len ∧ pk s.data.toList = n
  | .miter m ver cur rem => ∃ rm zm since seen stepped, ρ m = some (rm, zm) ∧ w.heap[r]? = some (.mapIter (some rm) since seen stepped) ∧
      (∀ v kv, h.get m = .map v kv → ver ≤ v ∧ (v = ver → ∀ es clock, w.heap[rm]? = some (.map es clock) → since = clock ∧ stepped = clock ∧ KvRep ρ (es.toList.filter fun e => !seen.contains e.born) rem ∧ CurRep ρ es.toList seen cur))
  | .minone => ∃ a b c, w.heap[r]? = some (.mapIter none a b c)
  | .loop st pend fn s n ps asg body db => ∃ rl rd zd, w.heap[r]? = some (.loop rl) ∧ loopKeep rl st pend fn ps asg body ∧ SRep ρ s rl.tmps ∧ rl.tmps.size = n ∧ ρ db = some (rd, zd) ∧ rl.defers = rd
  | .defd => w.heap[r]? = some (.deferred (some []))

/-- What stays as it is: blocks of the world; names of the ghost that stand for nothing yet. -/
structure Bl where
  r : Nat → Prop
  p : Nat → Prop
instance : CoeFun Bl (fun _ => Nat → Prop) := ⟨Bl.r⟩

structure HRep (B : Bl) (ρ : Rho) (h : GH) (w : World) : Prop where
  blk : ∀ b r z, (h.get b).isDead = false → ρ b = some (r, z) → BRep ρ h w r z (h.get b)
  inj : ∀ b b' r z z', (h.get b).isDead = false → (h.get b').isDead = false → ρ b = some (r, z) → ρ b' = some (r, z') → b = b'
  lo : ∀ b r z, ρ b = some (r, z) → ¬ B r ∧ r < w.heap.size
  dom : ∀ b x, ρ b = some x → b < h.size
  top : ∀ r, B r → r < w.heap.size
  pl : ∀ b x, ρ b = some x → ¬ B.p b
  pt : ∀ b, B.p b → b < h.size

/-- What stays as it is: all blocks of B, and what lies outside of memory. -/
structure Kept (B : Bl) (w w' : World) : Prop where
  os : w'.os = w.os
  tape : w'.tape = w.tape
  output : w'.output = w.output
  size : w.heap.size ≤ w'.heap.size
  block : ∀ b, B b → w'.heap[b]? = w.heap[b]?

theorem Kept.refl (B : Bl) (w : World) : Kept B w w := ⟨rfl, rfl, rfl, Nat.le_refl _, fun _ _ => rfl⟩
theorem Kept.trans {B : Bl} {w x y : World} (h : Kept B w x) (k : Kept B x y) : Kept B w y :=
  ⟨k.os.trans h.os, k.tape.trans h.tape, k.output.trans h.output, Nat.le_trans h.size k.size, fun b hb => (k.block b hb).trans (h.block b hb)⟩
theorem Kept.drew (B : Bl) (w : World) : Kept B w { w with drawn := w.drawn + 1 } := ⟨rfl, rfl, rfl, Nat.le_refl _, fun _ _ => rfl⟩

end Go.Gx

/- The ghost machine's operations that change nothing. -/
namespace Go.Gx
open Go.Hk (TT TTok TyI Sh lk TyOk ShOk)

/-! ### Lists, for the kernel -/
noncomputable def gnth (l : List G) : Nat → Option G :=
  List.rec (motive := fun _ => Nat → Option G) (fun _ => none) (fun x _ ih n => Nat.rec (motive := fun _ => Option G) (some x) (fun m _ => ih m) n) l
theorem gnth_eq : ∀ (l : List G) (n : Nat), gnth l n = l[n]?
  | [], n => by simp [gnth]
  | x :: l, 0 => by
    show some x = _
    simp
  | x :: l, n + 1 => by
    show gnth l n = _
    rw [gnth_eq l n]; simp

noncomputable def gdrop (l : List G) : Nat → Option (List G) :=
  List.rec (motive := fun _ => Nat → Option (List G)) (fun o => Nat.rec (motive := fun _ => Option (List G)) (some []) (fun _ _ => none) o)
    (fun x r ih o => Nat.rec (motive := fun _ => Option (List G)) (some (x :: r)) (fun m _ => ih m) o) l
theorem gdrop_eq : ∀ (l : List G) (o : Nat), gdrop l o = if o ≤ l.length then some (l.drop o) else none
  | [], 0 => rfl
  | [], o + 1 => by simp [gdrop]
  | x :: l, 0 => rfl
  | x :: l, o + 1 => by
    show gdrop l o = _
    rw [gdrop_eq l o]; simp

noncomputable def gtake (n : Nat) : List G → Option (List G) :=
  Nat.rec (motive := fun _ => List G → Option (List G)) (fun _ => some [])
    (fun _ ih l => List.rec (motive := fun _ => Option (List G)) none (fun x r _ => Option.rec (motive := fun _ => Option (List G)) none (fun t => some (x :: t)) (ih r)) l) n
theorem gtake_eq : ∀ (n : Nat) (l : List G), gtake n l = if n ≤ l.length then some (l.take n) else none
  | 0, l => by
    show some [] = _
    simp
  | n + 1, [] => by simp [gtake]
  | n + 1, x :: l => by
    show Option.rec (motive := fun _ => Option (List G)) none (fun t => some (x :: t)) (gtake n l) = _
    rw [gtake_eq n l]
    by_cases h : n ≤ l.length <;> simp [h]

noncomputable def gsub (l : List G) (o n : Nat) : Option (List G) := Option.rec (motive := fun _ => Option (List G)) none (gtake n) (gdrop l o)
theorem gsub_eq {l r : List G} {o n : Nat} (h : gsub l o n = some r) : r = (l.drop o).take n ∧ o + n ≤ l.length := by
  unfold gsub at h
  rw [gdrop_eq] at h
  by_cases ho : o ≤ l.length
  · rw [if_pos ho] at h
    have h : gtake n (l.drop o) = some r := h
    rw [gtake_eq] at h
    split at h
    · rename_i hn
      cases h
      simp at hn
      exact ⟨rfl, by omega⟩
    · cases h
  · rw [if_neg ho] at h; cases h

/-- A list with other elements from a place on. -/
noncomputable def gover (ys : List G) : List G → Option (List G) :=
  List.rec (motive := fun _ => List G → Option (List G)) (fun l => some l)
    (fun y _ ih l => List.rec (motive := fun _ => Option (List G)) none (fun _ r _ => Option.rec (motive := fun _ => Option (List G)) none (fun t => some (y :: t)) (ih r)) l) ys
noncomputable def gsplice (l : List G) : Nat → List G → Option (List G) :=
  List.rec (motive := fun _ => Nat → List G → Option (List G)) (fun o ys => Nat.rec (motive := fun _ => Option (List G)) (gover ys []) (fun _ _ => none) o)
    (fun x r ih o ys => Nat.rec (motive := fun _ => Option (List G)) (gover ys (x :: r)) (fun m _ => Option.rec (motive := fun _ => Option (List G)) none (fun t => some (x :: t)) (ih m ys)) o) l
theorem gover_eq : ∀ (ys l : List G), gover ys l = if ys.length ≤ l.length then some (ys ++ l.drop ys.length) else none
  | [], l => by simp [gover]
  | y :: ys, [] => by simp [gover]
  | y :: ys, x :: l => by
    show Option.rec (motive := fun _ => Option (List G)) none (fun t => some (y :: t)) (gover ys l) = _
    rw [gover_eq ys l]
    by_cases h : ys.length ≤ l.length <;> simp [h]
theorem gsplice_eq : ∀ {l : List G} {o : Nat} {ys r : List G}, gsplice l o ys = some r → r = l.take o ++ ys ++ l.drop (o + ys.length) ∧ o + ys.length ≤ l.length
  | [], 0, ys, r, h => by
    have h : gover ys [] = some r := h
    rw [gover_eq] at h
    split at h
    · rename_i hl; cases h; simp at hl; subst hl; simp
    · cases h
  | [], o + 1, ys, r, h => by cases h
  | x :: l, 0, ys, r, h => by
    have h : gover ys (x :: l) = some r := h
    rw [gover_eq] at h
    split at h
    · rename_i hl; cases h; simp; simpa using hl
    · cases h
  | x :: l, o + 1, ys, r, h => by
    have h : Option.rec (motive := fun _ => Option (List G)) none (fun t => some (x :: t)) (gsplice l o ys) = some r := h
    cases hs : gsplice l o ys with
    | none => rw [hs] at h; cases h
    | some t =>
      rw [hs] at h; cases h
      obtain ⟨h1, h2⟩ := gsplice_eq hs
      refine ⟨?_, by simp; omega⟩
      rw [h1, show o + 1 + ys.length = (o + ys.length) + 1 by omega]
      simp

/-! ### Operands -/
def ofValue : Value → Option G
  | .bool b => some (.bool b)
  | .int k n => some (.int k n)
  | .string s => some (.str s.size (pk s.data.toList))
  | .pointer none => some .nilp
  | .slice none 0 0 => some .nils
  | .map none => some .nilm
  | .nilFunc => some .nilf
  | .nilIface => some .nili
  | _ => none

def evA (x : Operand) (s : S) : G := match x with
  | .tmp t => getS t s
  | .const v => match ofValue v with
    | some g => g
    | none => .undef
  | .func f => .fn f [] []
  | .global _ => .undef

theorem ofValue_rep {ρ : Rho} {v : Value} {g : G} (h : ofValue v = some g) : RepG ρ v g := by
  unfold ofValue at h
  split at h <;> first
    | (cases h; exact .bool _)
    | (cases h; exact .int _ _)
    | (cases h; exact .str _ _ _ rfl rfl)
    | (cases h; exact .nilp)
    | (cases h; exact .nils)
    | (cases h; exact .nilm)
    | (cases h; exact .nilf)
    | (cases h; exact .nili)
    | cases h

theorem evA_rep {ρ : Rho} {s : S} {a : Act} (h : SRep ρ s a.tmps) (x : Operand) : RepG ρ (a.eval x) (evA x s) := by
  cases x with
  | tmp t =>
    exact h.2 t
  | const v =>
    show RepG ρ v (match ofValue v with | some g => g | none => .undef)
    cases hv : ofValue v with
    | none => exact .undef _
    | some g => exact ofValue_rep hv
  | func f => exact .fn f #[] #[] [] [] rfl rfl (fun i v g h => by simp at h) (fun i v g h => by simp at h)
  | global g => exact .undef _

end Go.Gx

namespace Go.Gx
open Go.Hk (TT TTok TyI Sh lk TyOk ShOk)

theorem getD_set {tmps : Array Value} {d t : Nat} {v : Value} : (tmps.setIfInBounds d v).getD t Go.undef = if d = t ∧ d < tmps.size then v else tmps.getD t Go.undef := by
  simp only [Array.getD_eq_getD_getElem?]
  by_cases h : d = t
  · subst h
    by_cases hd : d < tmps.size
    · simp [hd]
    · simp [hd]
  · rw [Array.getElem?_setIfInBounds_ne h, if_neg (fun hh => h hh.1)]

theorem SRep.set {ρ : Rho} {s : S} {tmps : Array Value} (h : SRep ρ s tmps) {d : Nat} {v : Value} {g : G} (hd : d < tmps.size) (hv : RepG ρ v g) : SRep ρ (setS d s g) (tmps.setIfInBounds d v) := by
  refine ⟨by simpa using h.1, fun t => ?_⟩
  rw [getD_set, getS_setS t d s g]
  by_cases hdt : d = t
  · subst hdt; simpa [hd] using hv
  · rw [if_neg (fun hh => hdt hh.1), if_neg (fun hh => hdt hh.symm)]
    exact h.2 t

theorem SRep.put {ρ : Rho} {s : S} {a : Act} (h : SRep ρ s a.tmps) {d : Nat} {v : Value} {g : G} (hd : d < a.tmps.size) (hv : RepG ρ v g) : SRep ρ (setS d s g) (a.put (some d) v).tmps := h.set hd hv

/-! ### Memory -/
theorem GB.isDead_iff {g : GB} : g.isDead = true ↔ g = .dead := by cases g <;> simp [GB.isDead]

theorem KvRep.mono {ρ ρ' : Rho} (hρ : ρ.le ρ') {es : List MapEntry} {kv : List (G × G)} (h : KvRep ρ es kv) : KvRep ρ' es kv := by
  obtain ⟨l, h1, h2, h3⟩ := h
  exact ⟨l, h1, h2, fun i e p a b => ⟨(h3 i e p a b).1.mono hρ, (h3 i e p a b).2.mono hρ⟩⟩

theorem CurRep.mono {ρ ρ' : Rho} (hρ : ρ.le ρ') {es : List MapEntry} {seen : Array Nat} {cur : Option (G × G)} (h : CurRep ρ es seen cur) : CurRep ρ' es seen cur := by
  cases cur with
  | none => trivial
  | some p =>
    obtain ⟨e, s0, h1, h2, h3, h4⟩ := h
    exact ⟨e, s0, h1, h2, h3.mono hρ, h4.mono hρ⟩

/-- A block is as it was, in a later world. -/
theorem BRep.frame {ρ ρ' : Rho} {h h' : GH} {w w' : World} {r z : Nat} {g : GB} (hr : BRep ρ h w r z g) (hρ : ρ.le ρ') (hw : w'.heap[r]? = w.heap[r]?)
    (hm : ∀ m ver cur rem v kv rm zm, g = .miter m ver cur rem → ρ m = some (rm, zm) → h'.get m = .map v kv → (∃ kv0, h.get m = .map v kv0 ∧ w'.heap[rm]? = w.heap[rm]?) ∨ (∃ v0 kv0, h.get m = .map v0 kv0 ∧ v0 < v)) : BRep ρ' h' w' r z g := by
  cases g with
  | dead => trivial
  | cells l => obtain ⟨vs, t, h1, h2, h3, h4, h5⟩ := hr; exact ⟨vs, t, hw.trans h1, h2, h3, h4.mono hρ, h5⟩
  | map ver kv => obtain ⟨es, clock, h1, h2, h3⟩ := hr; exact ⟨es, clock, hw.trans h1, h2.mono hρ, h3⟩
  | siter len n pos => obtain ⟨s, h1, h2⟩ := hr; exact ⟨s, hw.trans h1, h2⟩
  | miter m ver cur rem =>
    obtain ⟨rm, zm, since, seen, stepped, h1, h2, h3⟩ := hr
    refine ⟨rm, zm, since, seen, stepped, hρ _ _ h1, hw.trans h2, fun v kv hk => ?_⟩
    rcases hm m ver cur rem v kv rm zm rfl h1 hk with ⟨kv0, q1, q2⟩ | ⟨v0, kv0, q1, q2⟩
    · obtain ⟨q3, q4⟩ := h3 v kv0 q1
      refine ⟨q3, fun e es clock he => ?_⟩
      obtain ⟨q5, q6, q7, q8⟩ := q4 e es clock (by rw [← q2]; exact he)
      exact ⟨q5, q6, q7.mono hρ, q8.mono hρ⟩
    · obtain ⟨q3, _⟩ := h3 v0 kv0 q1
      exact ⟨by omega, fun e => by omega⟩
  | minone => obtain ⟨a, b, c, h1⟩ := hr; exact ⟨a, b, c, hw.trans h1⟩
  | loop st pend fn s n ps asg body db =>
    obtain ⟨rl, rd, zd, h1, h2, h3, h4, h5, h6⟩ := hr
    exact ⟨rl, rd, zd, hw.trans h1, h2, h3.mono hρ, h4, hρ _ _ h5, h6⟩
  | defd => exact hw.trans hr

section
variable {B : Bl} {ρ : Rho} {h h' : GH} {w : World}

theorem HRep.atρ (hr : HRep B ρ h w) {b r z : Nat} {g : GB} (hg : h.get b = g) (hd : g.isDead = false) (hρ : ρ b = some (r, z)) : BRep ρ h w r z g := by
  subst hg; exact hr.blk b r z hd hρ

noncomputable def GH.set? (h : GH) (b : Nat) (x : GB) : Option GH := match h.t.set? b x with
  | some t => some ⟨h.size, t⟩
  | none => none

theorem GH.get_set {x : GB} {b : Nat} (hs : h.set? b x = some h') : h'.size = h.size ∧ ∀ j, h'.get j = if j = b then x else h.get j := by
  unfold GH.set? at hs
  split at hs
  · rename_i t ht
    cases hs
    exact ⟨rfl, T.get_set ht⟩
  · cases hs

/-- A live block is written: the world's block holds another object. -/
theorem HRep.write (hr : HRep B ρ h w) {b r z : Nat} {x : GB} {o : Obj} (hs : h.set? b x = some h') (hlive : (h.get b).isDead = false) (hρ : ρ b = some (r, z))
    (hx : BRep ρ h' { w with heap := w.heap.setIfInBounds r o } r z x) (hver : ∀ v kv, x = .map v kv → ∃ v0 kv0, h.get b = .map v0 kv0 ∧ v0 < v) :
    HRep B ρ h' { w with heap := w.heap.setIfInBounds r o } := by
  obtain ⟨hsz, hget⟩ := GH.get_set hs
  have hrlt := (hr.lo b r z hρ).2
  refine { blk := fun j rj zj hj hρj => ?_, inj := fun i j ri zi zj hi hj hρi hρj => ?_, lo := fun j r' z' hj => by simpa using hr.lo j r' z' hj, dom := fun j x hj => by rw [hsz]; exact hr.dom j x hj, top := fun r hb => by simpa using hr.top r hb, pl := hr.pl, pt := fun b hb => by rw [hsz]; exact hr.pt b hb }
  · rw [hget] at hj ⊢
    by_cases hjb : j = b
    · subst hjb
      rw [if_pos rfl]
      rw [hρ] at hρj; cases hρj
      exact hx
    · rw [if_neg hjb] at hj ⊢
      have h2 := hr.blk j rj zj hj hρj
      have hne : rj ≠ r := fun e => by subst e; exact hjb (hr.inj j b rj zj z hj hlive hρj hρ)
      refine h2.frame (Rho.le_refl ρ) (by simp [Array.getElem?_setIfInBounds_ne (Ne.symm hne)]) ?_
      intro m ver cur rem v kv rm zm hg hm hk
      rw [hget] at hk
      by_cases hmb : m = b
      · subst hmb
        rw [if_pos rfl] at hk
        exact .inr (hver v kv hk)
      · rw [if_neg hmb] at hk
        have hmlive : (h.get m).isDead = false := by rw [hk]; rfl
        have hne2 : rm ≠ r := fun e => by subst e; exact hmb (hr.inj m b rm zm z hmlive hlive hm hρ)
        exact .inl ⟨kv, hk, by simp [Array.getElem?_setIfInBounds_ne (Ne.symm hne2)]⟩
  · rw [hget] at hi hj
    have hi' : (h.get i).isDead = false := by
      by_cases e : i = b
      · rw [e]; exact hlive
      · rwa [if_neg e] at hi
    have hj' : (h.get j).isDead = false := by
      by_cases e : j = b
      · rw [e]; exact hlive
      · rwa [if_neg e] at hj
    exact hr.inj i j ri zi zj hi' hj' hρi hρj

/-- The same where the new block is no map. -/
theorem HRep.write1 (hr : HRep B ρ h w) {b r z : Nat} {x : GB} {o : Obj} (hs : h.set? b x = some h') (hlive : (h.get b).isDead = false) (hρ : ρ b = some (r, z))
    (hx : BRep ρ h' { w with heap := w.heap.setIfInBounds r o } r z x) (hn : ∀ ver kv, x ≠ .map ver kv) : HRep B ρ h' { w with heap := w.heap.setIfInBounds r o } :=
  hr.write hs hlive hρ hx (fun v kv hx => absurd hx (hn v kv))

theorem Kept.write {r : Nat} {o : Obj} (hr : ¬ B r) : Kept B w { w with heap := w.heap.setIfInBounds r o } :=
  ⟨rfl, rfl, rfl, by simp, fun b hb => by simp [Array.getElem?_setIfInBounds_ne (show r ≠ b from fun e => hr (e ▸ hb))]⟩

noncomputable def GH.push? (h : GH) (x : GB) : Option GH := match h.t.set? h.size x with
  | some t => some ⟨h.size + 1, t⟩
  | none => none

theorem GH.get_push {x : GB} (hs : h.push? x = some h') : h'.size = h.size + 1 ∧ ∀ j, h'.get j = if j = h.size then x else h.get j := by
  unfold GH.push? at hs
  split at hs
  · rename_i t ht
    cases hs
    exact ⟨rfl, T.get_set ht⟩
  · cases hs

def Rho.add (ρ : Rho) (b : Nat) (x : Nat × Nat) : Rho := fun i => if i = b then some x else ρ i

theorem HRep.fresh (hr : HRep B ρ h w) : ρ h.size = none := by
  cases hx : ρ h.size with
  | none => rfl
  | some x => have := hr.dom _ _ hx; omega

theorem HRep.le_add (hr : HRep B ρ h w) (x : Nat × Nat) : ρ.le (ρ.add h.size x) := by
  intro i y hy
  unfold Rho.add
  rw [if_neg (fun e => by rw [e, hr.fresh] at hy; cases hy)]
  exact hy

/-- A new block. -/
theorem HRep.push (hr : HRep B ρ h w) {x : GB} {o : Obj} {z : Nat} (hs : h.push? x = some h')
    (hx : BRep (ρ.add h.size (w.heap.size, z)) h' { w with heap := w.heap.push o } w.heap.size z x) :
    HRep B (ρ.add h.size (w.heap.size, z)) h' { w with heap := w.heap.push o } := by
  obtain ⟨hsz, hget⟩ := GH.get_push hs
  have hle := hr.le_add (w.heap.size, z)
  have hold : ∀ j r' z', j ≠ h.size → ρ.add h.size (w.heap.size, z) j = some (r', z') → ρ j = some (r', z') := fun j r' z' hj hh => by
    unfold Rho.add at hh; rwa [if_neg hj] at hh
  refine { blk := fun j rj zj hj hρj => ?_, inj := fun i j ri zi zj hi hj hρi hρj => ?_, lo := fun j r' z' hj => ?_, dom := fun j x hj => ?_, top := fun r hb => by have := hr.top r hb; simp; omega, pl := fun j x hj => ?_, pt := fun b hb => by have := hr.pt b hb; omega }
  · rw [hget] at hj ⊢
    by_cases hjb : j = h.size
    · subst hjb
      rw [if_pos rfl]
      unfold Rho.add at hρj; rw [if_pos rfl] at hρj; cases hρj
      exact hx
    · rw [if_neg hjb] at hj ⊢
      have h1 := hold _ _ _ hjb hρj
      have h2 := hr.blk j rj zj hj h1
      have hlt := (hr.lo _ _ _ h1).2
      refine h2.frame hle (by simp [Array.getElem?_push, Nat.ne_of_lt hlt]) ?_
      intro m ver cur rem v kv rm zm hg hm hk
      rw [hget] at hk
      have hmne : m ≠ h.size := fun e => by rw [e, hr.fresh] at hm; cases hm
      rw [if_neg hmne] at hk
      have hlt2 := (hr.lo _ _ _ hm).2
      exact .inl ⟨kv, hk, by simp [Array.getElem?_push, Nat.ne_of_lt hlt2]⟩
  · rw [hget] at hi hj
    by_cases hie : i = h.size
    · by_cases hje : j = h.size
      · rw [hie, hje]
      · have := (hr.lo _ _ _ (hold _ _ _ hje hρj)).2
        unfold Rho.add at hρi; rw [if_pos hie] at hρi; cases hρi; omega
    · by_cases hje : j = h.size
      · have := (hr.lo _ _ _ (hold _ _ _ hie hρi)).2
        unfold Rho.add at hρj; rw [if_pos hje] at hρj; cases hρj; omega
      · rw [if_neg hie] at hi; rw [if_neg hje] at hj
        exact hr.inj i j ri zi zj hi hj (hold _ _ _ hie hρi) (hold _ _ _ hje hρj)
  · by_cases hje : j = h.size
    · unfold Rho.add at hj; rw [if_pos hje] at hj; cases hj
      exact ⟨fun hb => absurd (hr.top _ hb) (Nat.lt_irrefl _), by simp⟩
    · have := hr.lo _ _ _ (hold _ _ _ hje hj)
      exact ⟨this.1, by simp; omega⟩
  · by_cases hje : j = h.size
    · omega
    · cases hx : x with
      | mk r' z' => rw [hx] at hj; have := hr.dom _ _ (hold _ _ _ hje hj); omega
  · by_cases hje : j = h.size
    · exact fun hb => absurd (hr.pt _ hb) (by omega)
    · cases hx : x with
      | mk r' z' => rw [hx] at hj; exact hr.pl _ _ (hold _ _ _ hje hj)

theorem Kept.push {o : Obj} (hB : ∀ r, B r → r < w.heap.size) : Kept B w { w with heap := w.heap.push o } :=
  ⟨rfl, rfl, rfl, by simp, fun b hb => by
    have : b ≠ w.heap.size := Nat.ne_of_lt (hB b hb)
    simp [Array.getElem?_push, this]⟩

theorem HRep.drew (hr : HRep B ρ h w) : HRep B ρ h { w with drawn := w.drawn + 1 } :=
  { blk := fun b r z hb h1 => (hr.blk b r z hb h1).frame (Rho.le_refl ρ) rfl fun _ _ _ _ _ kv _ _ _ _ hk => .inl ⟨kv, hk, rfl⟩,
    inj := hr.inj, lo := hr.lo, dom := hr.dom, top := hr.top, pl := hr.pl, pt := hr.pt }

end
end Go.Gx
