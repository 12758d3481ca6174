/- A function that does something and tells whether it gave up: out of its walk what the ghost machine makes of it. (And what it stands on.) -/
import Derived.Test.YtdgomkfabfageaaGreatVe
import Derived.RangeFuncLeaves
import Derived.RangeFuncNested
import Derived.Maps.RangeRun
set_option linter.unusedSimpArgs false
set_option linter.unusedVariables false

set_option maxRecDepth 100000
namespace Go.Gx
open Go.Hk (TT TTok TyI Sh lk TyOk Cf CE AA B6 Gg Fl DK DJ Fk reach_seq Gj Fm EH Di Gh I5 C6 Ba BK B2 HA DL F5)
def Eb (P : Program) (b : Frame) (cs : List Frame) (Q : Exit → Act → World → Prop) (ρ : Rho) (x : GX) (is : List Item) (a : Act) (w : World) : Prop:=match x with
 | .norm=>Hk.Reach P b cs Q is a w
 | .ret=>Q .ret a w
 | .exit id=>match exitTo id is with
  | some k=>Hk.Reach P b cs Q k a w
  | none=>Q (.exit id) a w
 | .goto l=>match gotoIn l is with
  | some k=>Hk.Reach P b cs Q k a w
  | none=>Q (.goto l) a w
 | .pan g=>∀ v,RepG ρ v g → Q (.panic [{ v,recovered:=false }]) a w
def roRep (ρ : Rho) : Option Nat → Option Nat → Prop
 | none,none=>True
 | some l,some r=>∃ z,ρ l = some (r,z)
 | _,_=>False
theorem roRep.mono {ρ ρ' : Rho} (hρ : ρ.le ρ') {a b : Option Nat} (h : roRep ρ a b) : roRep ρ' a b:=by
 cases a <;> cases b <;> first | exact h | (obtain ⟨z,hz⟩:=h;exact ⟨z,hρ _ _ hz⟩)
structure Fr (B : Bl) (n : Nat) (fn : FuncId) (ro : Option Nat) (b : Frame) (ρ : Rho) (s : S) (d : List Nat) (h : GH) (a : Act) (w : World) : Prop where
 f : b.fn = fn
 ro : roRep ρ ro b.roundOf
 h : HRep B ρ h w
 s : FRep ρ n s d a
def Items (P : Program) (n : Nat) (fn : FuncId) (ro : Option Nat) (front : Item) (s : S) (d : List Nat) (h : GH) (res : Res) : Prop :=
 ∀ x s' d' h',res = .fr x s' d' h' → ∀ B ρ w a b cs is Q,Fr B n fn ro b ρ s d h a w →
  (∀ ρ' a' w',Fr B n fn ro b ρ' s' d' h' a' w' → ρ.le ρ' → Kept B w w' → Eb P b cs Q ρ' x is a' w') → Hk.Reach P b cs Q (front :: is) a w
abbrev GoS (P : Program) (n : Nat) (fn : FuncId) (ro : Option Nat) (c : Code):=Items P n fn ro (.code c)
def CfgX (P : Program) (c : Cfg) (res : Res) : Prop:=match c with
 | .go n fn ro c s d h=>GoS P n fn ro c s d h res
 | c=>Q5 P c res
theorem CfgX.s {P : Program} {c : Cfg} {res : Res} (h : CfgX P c res) : Q5 P c res:=by
 cases c <;> first | exact h | trivial
section
variable {P : Program} {tb : Tab} {ih : Cfg → Res} {n : Nat} {fn : FuncId} {ro : Option Nat} {s s' : S} {d d' : List Nat} {h h' : GH} {g : G} {res : Res}
theorem Items.fail {front : Item} : Items P n fn ro front s d h .fail:=fun _ _ _ _ e=>by cases e
theorem Items.seq {front : Item} {r : Res} {f : S → List Nat → GH → Res} (second : Item) (h1 : Items P n fn ro front s d h r) (h2 : ∀ s d h,Items P n fn ro second s d h (f s d h))
  (hx : ∀ id is,exitTo id (second :: is) = exitTo id is) (hg : ∀ l is,gotoIn l (second :: is) = gotoIn l is) {B : Bl} {ρ : Rho} {w : World} {a : Act} {b : Frame} {cs : List Frame} {is : List Item} {Q : Exit → Act → World → Prop} {x : GX}
  (e : Ic r f = .fr x s' d' h') (hF : Fr B n fn ro b ρ s d h a w) (hA : ∀ ρ' a' w',Fr B n fn ro b ρ' s' d' h' a' w' → ρ.le ρ' → Kept B w w' → Eb P b cs Q ρ' x is a' w') : Hk.Reach P b cs Q (front :: second :: is) a w:=by
 rcases Ud e with ⟨s1,d1,h1',e1,e2⟩ | ⟨e1,hn⟩
 ·refine h1 _ _ _ _ e1 B ρ w a b cs (second :: is) Q hF fun ρ1 a1 w1 hF1 hρ hk=>?_
  exact h2 _ _ _ _ _ _ _ e2 B ρ1 w1 a1 b cs is Q hF1 fun ρ2 a2 w2 hF2 hρ2 hk2=>hA ρ2 a2 w2 hF2 (Rho.le_trans hρ hρ2) (hk.trans hk2)
 ·refine h1 _ _ _ _ e1 B ρ w a b cs (second :: is) Q hF fun ρ1 a1 w1 hF1 hρ hk=>?_
  have:=hA ρ1 a1 w1 hF1 hρ hk
  cases x with
  | norm=>exact absurd rfl hn
  | ret=>exact this
  | exit id=>simp only [Eb,hx] at this ⊢;exact this
  | goto l=>simp only [Eb,hg] at this ⊢;exact this
  | pan g=>exact this
theorem aO (hc : Ctx2 P tb) (hih : ∀ c,CfgX P c (ih c)) {all rest : List Oper} {o : Oper} {j : Nat} (hj : o :: rest = all.drop j) {k : S → GH → Res}
  (hk : ∀ s h,Items P n fn ro (.inRegion all.toArray (List.range' (j + 1) rest.length)) s d h (k s h)) :
  Items P n fn ro (.inRegion all.toArray (List.range' j (o :: rest).length)) s d h (gop tb n ih all o s d h k):=by
 intro x s' d' h' e B ρ w a b cs is Q hF hA
 obtain ⟨ho,hr⟩:=B6 hj
 have hrange : List.range' j (o :: rest).length = j :: List.range' (j + 1) rest.length:=by simp [List.range'_succ]
 rw [hrange]
 unfold gop at e
 cases hw : GI all o s with
 | none=>rw [hw] at e;cases e
 | some q =>
 rw [hw] at e
 have hwant:=R3 hw (fun t _=>hF.s.s.2 t)
 have hput : ∀ {v : Value} {g : G} {ρ1 : Rho} {w1 : World} {h1 : GH},GZ .fail n o.dst g s (fun s'=>k s' h1) = .fr x s' d' h' → HRep B ρ1 h1 w1 → ρ.le ρ1 → RepG ρ1 v g → Kept B w w1 →
   Hk.Reach P b cs Q (.inRegion all.toArray (List.range' (j + 1) rest.length) :: is) (a.put o.dst v) w1:=by
  intro v g ρ1 w1 h1 ep q1 q2 q3 q4
  rw [PJ] at ep
  cases hd : RX n o.dst with
  | false=>rw [hd] at ep;cases ep
  | true =>
   rw [hd] at ep
   exact hk _ _ _ _ _ _ ep B ρ1 w1 _ b cs is Q ⟨hF.f,hF.ro.mono q2,q1,(hF.s.mono q2).put hd q3⟩ fun ρ2 a2 w2 hF2 hρ2 hk2=>hA ρ2 a2 w2 hF2 (Rho.le_trans q2 hρ2) (q4.trans hk2)
 cases q with
 | false =>
  exact B2 ho hwant (hput e hF.h (Rho.le_refl ρ) QG (Kept.refl B w))
 | true =>
  have e : (match evQ tb.tt tb.eqs o.op s h with
   | some g=>GZ .fail n o.dst g s (fun s'=>k s' h)
   | none=>match LG tb.tt o.op s h with
    | some (g,h1)=>GZ .fail n o.dst g s (fun s'=>k s' h1)
    | none=>match callee tb o.op s h with
     | some c=>match ih c with
      | .rv g h1=>GZ .fail n o.dst g s (fun s'=>k s' h1)
      | .rp g h1=>.fr (.pan g) s d h1
      | _=>.fail
     | none=>match o.op with
      | .panic x=>match AS x s with
       | .if_ t g=>.fr (.pan (.if_ t g)) s d h
       | _=>.fail
      | _=>.fail) = Res.fr x s' d' h':=e
  have pan : ∀ {chain : List PanicEntry} {w1 : World} {g : G} {h1 : GH},Y1 B ρ w g h1 chain w1 → Res.fr (.pan g) s d h1 = .fr x s' d' h' → Q (.panic chain) a w1:=by
   intro chain w1 g h1 hp e
   obtain ⟨ρ1,v,rfl,q1,q2,q3,q4⟩:=hp
   cases e
   exact hA ρ1 a w1 ⟨hF.f,hF.ro.mono q2,q1,hF.s.mono q2⟩ q2 q4 v q3
  by_cases hnd : ∃ c,o.op = .defer c
  ·obtain ⟨c,hdef⟩:=hnd
   have e1 : evQ tb.tt tb.eqs o.op s h = none:=by rw [hdef];rfl
   have e2 : LG tb.tt o.op s h = none:=by rw [hdef];rfl
   have e3 : callee tb o.op s h = none:=by rw [hdef];rfl
   rw [e1,e2,e3,hdef] at e
   cases e
  ·refine BK ho hwant (fun c hc=>hnd ⟨c,hc⟩) ?_
   cases hq : evQ tb.tt tb.eqs o.op s h with
   | some g =>
    rw [hq] at e
    exact valY.upon (((TA hc.c hF.h hF.s.s hq).valY hF.h).mono (fun v w1 ⟨ρ1,q1,q2,q3,q4⟩=>hput e q1 q2 q3 q4) (fun _ _ hx=>hx.elim))
   | none =>
    rw [hq] at e
    simp only at e
    cases hh : LG tb.tt o.op s h with
    | some p =>
     obtain ⟨g,h1⟩:=p
     rw [hh] at e
     exact valY.upon (((UO hc hh).valY hF.h hF.s.s).mono (fun v w1 ⟨ρ1,q1,q2,q3,q4⟩=>hput e q1 q2 q3 q4) (fun _ _ hx=>hx.elim))
    | none =>
     rw [hh] at e
     simp only at e
     cases hcal : callee tb o.op s h with
     | some c =>
      rw [hcal] at e
      simp only at e
      have hS:=Pp hc hcal ((hih c).s) hF.h hF.s.s
      cases hres : ih c with
      | rv g h1 =>
       rw [hres] at e hS
       exact valY.upon (hS.mono (fun v w1 ⟨ρ1,q1,q2,q3,q4⟩=>hput e q1 q2 q3 q4) (fun _ _ hx=>hx.elim))
      | rp g h1 =>
       rw [hres] at e hS
       exact valY.upon (hS.mono (fun _ _ hx=>hx.elim) (fun chain w1 hp=>pan hp e))
      | _=>rw [hres] at e;cases e
     | none =>
      rw [hcal] at e
      simp only at e
      cases hop : o.op with
      | panic y =>
       rw [hop] at e
       have hv:=Ay hF.s.s y
       simp only at e
       cases hg : AS y s <;> rw [hg] at e hv <;> first | (cases e;done) | skip
       rename_i t g
       generalize hvy : a.eval y = vy at hv
       have : (execOp a.eval o).run P w = .halt (.panic vy) w:=by
        cases hv with
        | if_ _ v _ hv=>simp [execOp,hop,hvy,Instr.panic,goPanic]
       rw [this]
       exact pan ⟨ρ,_,rfl,hF.h,Rho.le_refl ρ,hv,Kept.refl B w⟩ e
      | _=>rw [hop] at e;cases e
theorem Qc (hc : Ctx2 P tb) (hih : ∀ c,CfgX P c (ih c)) {all : List Oper} : ∀ {rest : List Oper} {j : Nat} (s : S) (h : GH),rest = all.drop j → Items P n fn ro (.inRegion all.toArray (List.range' j rest.length)) s d h (XC tb n ih all rest d s h)
 | [],j,s,h,hj=>by
  intro x s' d' h' e B ρ w a b cs is Q hF hA
  cases e
  exact Ba (hA ρ a w hF (Rho.le_refl ρ) (Kept.refl B w))
 | o :: rest,j,s,h,hj=>aO hc hih hj fun s h=>Qc hc hih s h (B6 hj).2
end
end Go.Gx
namespace Go.Gx
open Go.Hk (TT TTok TyI Sh lk TyOk Cf CE AA B6 Gg Fl DK DJ Fk reach_seq Gj Fm EH Di Gh I5 C6 Ba BK B2 HA DL F5)
def TX (P : Program) (f : FuncId) (t : TypeId) : Prop := ∀ g fi ca h res fc c, P.funcs[g]? = some fc → (fc.name == "runtime.NumGoroutine") = false → fc.body = some c → Q5 P (.call g (fi ++ ca) h) res → Q5 P (.call f [.fn g fi ca] h) (XB t res)
def bB (P : Program) (f : FuncId) : Prop:=∀ args h,Q5 P (.call f args h) (Z6 args h)
structure JV (P : Program) (tb : Tab) : Prop extends Ctx2 P tb where
 fn : ∀ f x, tb.fn f = some x → P.funcs[f]? = some x ∧ (x.name == "runtime.NumGoroutine") = false
 hold : ∀ f t,cP tb.hold f = some t → TX P f t
 sort : ∀ f,YU tb.sorts f = true → bB P f
section
variable {P : Program} {tb : Tab} {ih : Cfg → Res} {n : Nat} {fn : FuncId} {ro : Option Nat} {s s' : S} {d d' : List Nat} {h h' : GH} {g : G} {res : Res} {B : Bl} {ρ : Rho} {w : World} {a : Act} {b : Frame} {cs : List Frame} {is k : List Item} {Q : Exit → Act → World → Prop} {x : GX}
theorem reach_rangeFunc {g : Operand} {ps : Array Tmp} {asg body : Code} {l : Nat} {mark : List Deferred} {w₁ w₁' w₂ : World} {dd : Deferred} {f : FuncId} {args : Array Value}
  (he : (Instr.enterLoop b.fn a.tmps ps asg body b.roundOf).run P w = .ok (l,mark) w₁) (hres : (resolve a.eval (rangeCall g l) 0).run P w₁ = .ok dd w₁') (hinv : (invoke dd.target dd.args).run P w₁' = .ok (.enter f args) w₂)
  (h : Calls P f args w₂ fun e w₃=>match e with
   | .returned _=>∃ jump w₄,(Instr.endLoop l).run P w₃ = .ok jump w₄ ∧ Hk.Reach P b cs Q ((jump.map Item.code).toList ++ k) { a with defers:=mark ++ a.defers } w₄
   | .panicked chain=>Q (.panic chain) { a with defers:=mark ++ a.defers } w₃
   | .outgrown=>False) : Hk.Reach P b cs Q (.code (.rangeFunc g ps asg body) :: k) a w:=by
 have henter:=stepR_rangeFunc (P:=P) (b:=b) (a:=a) (k:=k) (cs:=cs) (w:=w) he hres hinv
 obtain ⟨e,w₃,fr,hR,hsteps,_,hleave⟩:=h (b.atR { a with defers:=mark ++ a.defers } (.inRangeFunc l :: k) :: cs)
 cases e with
 | returned v =>
  obtain ⟨jump,w₄,hend,e',a',w₅,hq,harr⟩:=hR
  refine ⟨e',a',w₅,hq,.of_steps (.head henter (Steps.trans hsteps (.head ?_ (.one (stepR_endRangeFunc hend))))) harr⟩
  rw [← finish_atR_inRangeFunc l v];exact step_leave_returned hleave
 | panicked chain =>
  refine ⟨.panic chain,_,w₃,hR,.inRangeFunc l :: k,.head henter (Steps.trans hsteps (.one ?_))⟩
  rw [← Frame.raise_atR];exact step_leave_panicked hleave
 | outgrown=>exact hR.elim
theorem Ko (w : World) (r : Nat) (o : Obj) : w.putObj r o = { w with heap:=w.heap.setIfInBounds r o }:=rfl
theorem OY (hc : JV P tb) (hih : ∀ c,CfgX P c (ih c)) {g : Operand} {ps : Array Tmp} {asg body : Code} {l rl z : Nat} {mark : List Deferred} {w1 : World} {ρ1 : Rho} {d2 : List Nat} {h2 : GH}
  (e : K5 tb ih n fn ro s d2 (AS g s) l h2 = .fr x s' d' h') (he : (Instr.enterLoop b.fn a.tmps ps asg body b.roundOf).run P w = .ok (rl,mark) w1)
  (hl : ρ1 l = some (rl,z)) (hρ1 : ρ.le ρ1) (hk1 : Kept B w w1) (hF : Fr B n fn ro b ρ1 s d2 h2 { a with defers:=mark ++ a.defers } w1)
  (hA : ∀ ρ' a' w',Fr B n fn ro b ρ' s' d' h' a' w' → ρ.le ρ' → Kept B w w' → Eb P b cs Q ρ' x is a' w') : Hk.Reach P b cs Q (.code (.rangeFunc g ps asg body) :: is) a w:=by
 unfold K5 at e
 have hg:=Ay (a:=a) hF.s.s g
 cases hgv : AS g s <;> rw [hgv] at e hg <;> first | (cases e;done) | skip
 rename_i f fi ca
 simp only at e
 cases hfn : tb.fn f with
 | none=>rw [hfn] at e;cases e
 | some fc =>
 rw [hfn] at e
 simp only at e
 cases hb : fc.body with
 | none=>rw [hb] at e;cases e
 | some c0 =>
 rw [hb] at e
 simp only at e
 obtain ⟨hf1,hf2⟩:=hc.fn f fc hfn
 generalize hvg : a.eval g = vg at hg
 cases hg with
 | fn _ first cap _ _ hl1 hl2 q1 q2 =>
 have hargs : RepGs ρ1 (first ++ #[Value.func (.yield rl) #[] #[]] ++ cap).toList (Dv fi (Dv [.yield l] ca id) id):=by
  simp only [DV,id]
  rw [Array.toList_append,Array.toList_append,List.append_assoc]
  refine RepGs.append ⟨by simpa using hl1,fun i v g p q=>q1 i v g (by simpa using p) q⟩ (RepGs.append (.mk (.yield l rl z hl) .nil) ⟨by simpa using hl2,fun i v g p q=>q2 i v g (by simpa using p) q⟩)
 have hcall:=(hih (.call f (Dv fi (Dv [.yield l] ca id) id) h2)).s B ρ1 w1 (first ++ #[Value.func (.yield rl) #[] #[]] ++ cap) hF.h hargs
 rw [Hk.run_callFunc_body hf1 hf2 hb] at hcall
 have hres : ∃ dd,(resolve a.eval (rangeCall g rl) 0).run P w1 = .ok dd w1 ∧ (invoke dd.target dd.args).run P w1 = .ok (.enter f (first ++ #[Value.func (.yield rl) #[] #[]] ++ cap)) w1:=by
  refine ⟨⟨.fn (.func f) cap,first ++ #[Value.func (.yield rl) #[] #[]]⟩,?_,?_⟩
  ·have hcv : a.eval (.const (.func (.yield rl) #[] #[])) = .func (.yield rl) #[] #[]:=rfl
   simp [rangeCall,resolve,Deferred.ofValue,hvg,hcv]
  ·simpa [invoke] using Hk.run_callFunc_body (w:=w1) hf1 hf2 hb (first ++ #[Value.func (.yield rl) #[] #[]] ++ cap)
 obtain ⟨dd,hr1,hr2⟩:=hres
 refine reach_rangeFunc he hr1 hr2 ?_
 cases hr : ih (.call f (Dv fi (Dv [.yield l] ca id) id) h2) with
 | fail=>rw [hr] at e;cases e
 | fr=>rw [hr] at e;cases e
 | rp v h3 =>
  rw [hr] at e hcall
  refine Calls.mono hcall fun en w3 hen=>?_
  cases en with
  | returned v=>exact hen.elim
  | outgrown=>exact hen.elim
  | panicked chain =>
   obtain ⟨ρ3,v,rfl,p1,p2,p3,p4⟩:=hen
   cases e
   exact hA ρ3 _ w3 ⟨hF.f,hF.ro.mono p2,p1,hF.s.mono p2⟩ (Rho.le_trans hρ1 p2) (hk1.trans p4) v p3
 | rv v h3 =>
  rw [hr] at e hcall
  refine Calls.mono hcall fun en w3 hen=>?_
  cases en with
  | outgrown=>exact hen.elim
  | panicked chain=>exact hen.elim
  | returned v =>
   obtain ⟨ρ3,p1,p2,p3,p4⟩:=hen
   have hl3:=p2 _ _ hl
   simp only [ZJ] at e
   split at e
   ·cases e
   ·rename_i st pend fn' s2 n2 ps2 asg2 body2 db hnb hgl
    have hbr:=p1.atρ hgl rfl hl3
    obtain ⟨lr,rd,zd,b1,b2,_,_,_,_⟩:=hbr
    obtain ⟨k1,k2,_⟩:=b2
    rw [Fg] at e
    cases hset : h3.set? l .dead with
    | none=>rw [hset] at e;cases e
    | some h4 =>
     rw [hset] at e
     simp only at e
     have hbusy : lr.state ≠ .busy:=by
      rw [k1];intro hb';subst hb'
      exact hnb rfl
     have hend : (Instr.endLoop rl).run P w3 = .ok pend { w3 with heap:=w3.heap.setIfInBounds rl (.loop { lr with state:=.exhausted }) }:=by
      rw [← k2];exact run_endLoop b1 hbusy
     have p1' : HRep B ρ3 h4 { w3 with heap:=w3.heap.setIfInBounds rl (.loop { lr with state:=.exhausted }) } :=
      p1.write1 hset (by rw [hgl];rfl) hl3 trivial (fun _ _ h=>by cases h)
     have hk3 : Kept B w { w3 with heap:=w3.heap.setIfInBounds rl (.loop { lr with state:=.exhausted }) }:=(hk1.trans p4).trans (Kept.write (p1.lo _ _ _ hl3).1)
     have hF4 : Fr B n fn ro b ρ3 s d2 h4 { a with defers:=mark ++ a.defers } { w3 with heap:=w3.heap.setIfInBounds rl (.loop { lr with state:=.exhausted }) }:=⟨hF.f,hF.ro.mono p2,p1',hF.s.mono p2⟩
     refine ⟨pend,_,hend,?_⟩
     cases pend with
     | none =>
      cases e
      exact hA ρ3 _ _ hF4 (Rho.le_trans hρ1 p2) hk3
     | some c =>
      simp only at e
      exact (hih (.go n fn ro c s d2 h4)) _ _ _ _ e B ρ3 _ _ b cs is Q hF4 fun ρ5 a5 w5 hF5 hρ5 hk5=>hA ρ5 a5 w5 hF5 (Rho.le_trans (Rho.le_trans hρ1 p2) hρ5) (hk3.trans hk5)
   ·cases e
theorem Ws {id : Nat} {r : Res} (e : Qx id r = .fr x s d h) : ∃ x1,r = .fr x1 s d h ∧ ((x1 = .exit id ∧ x = .norm) ∨ (x1 = x ∧ x ≠ .exit id)):=by
 cases r with
 | fr x1 s1 d1 h1 =>
  cases x1 with
  | exit j =>
   simp only [Qx] at e
   split at e
   ·rename_i hb
    have:=Nat.eq_of_beq_eq_true hb
    subst this
    cases e
    exact ⟨_,rfl,.inl ⟨rfl,rfl⟩⟩
   ·rename_i hb
    cases e
    exact ⟨_,rfl,.inr ⟨rfl,fun hx=>by cases hx;simp at hb⟩⟩
  | _=>cases e;exact ⟨_,rfl,.inr ⟨rfl,by simp⟩⟩
 | _=>cases e
theorem R8 {c : Code} {f : S → List Nat → GH → Res} (hf : ∀ s d h,Items P n fn ro (.code c) s d h (f s d h)) : ∀ (N : Nat) (s : S) (d : List Nat) (h : GH),Items P n fn ro (.inLoop c) s d h (OZ f N s d h)
 | 0,s,d,h=>Items.fail
 | N + 1,s,d,h=>by
  intro x s' d' h' e B ρ w a b cs is Q hF hA
  exact Di (Items.seq (.inLoop c) (hf s d h) (R8 hf N) (fun id is=>rfl) (fun l is=>rfl) (show Ic (f s d h) (OZ f N) = _ from e) hF hA)
theorem T3 {c : Code} {f : S → List Nat → GH → Res} (hf : ∀ s d h,Items P n fn ro (.code c) s d h (f s d h)) (N : Nat) (s : S) (d : List Nat) (h : GH) : Items P n fn ro (.code (.loop c)) s d h (OZ f N s d h):=by
 cases N with
 | zero=>exact Items.fail
 | succ N =>
  intro x s' d' h' e B ρ w a b cs is Q hF hA
  exact EH (Items.seq (.inLoop c) (hf s d h) (R8 hf N) (fun id is=>rfl) (fun l is=>rfl) (show Ic (f s d h) (OZ f N) = _ from e) hF hA)
theorem aN {x y : GX} (h : gxB x y = true) : x = y:=by
 cases x <;> cases y <;> simp only [gxB,Bool.false_eq_true] at h <;> first | rfl | (rw [Nat.eq_of_beq_eq_true h])
theorem Rj : ∀ {a b : List Nat},U3 a b = true → a = b
 | [],[],_=>rfl
 | [],_ :: _,h=>by cases h
 | _ :: _,[],h=>by cases h
 | x :: a,y :: b,h=>by
  simp only [U3,Bool.and_eq_true] at h
  rw [Nat.eq_of_beq_eq_true h.1,Rj h.2]
theorem ZZ {p q : G × G} (h : prB p q = true) : p = q:=by
 simp only [prB,Bool.and_eq_true] at h
 exact Prod.ext (Np h.1) (Np h.2)
theorem QL {p : G × G} : ∀ {l t : List (G × G)},rmB p l = some t → l.Perm (p :: t)
 | [],_,h=>by cases h
 | q :: r,t,h=>by
  simp only [rmB] at h
  split at h
  ·rename_i hq
   cases h
   rw [ZZ hq]
  ·split at h
   ·rename_i t' ht
    cases h
    exact ((QL ht).cons q).trans (List.Perm.swap p q t')
   ·cases h
theorem MC : ∀ {k l : List (G × G)},Uq k l = true → k.Perm l
 | [],[],_=>.nil
 | [],_ :: _,h=>by cases h
 | p :: r,l,h=>by
  simp only [Uq] at h
  split at h
  ·rename_i t ht
   exact ((MC h).cons p).trans (QL ht).symm
  ·cases h
def likeB (g g' : GB) : Prop:=g' = g ∨ ∃ v kv kv',g = .map v kv ∧ g' = .map v kv' ∧ kv.Perm kv'
theorem Wa {g g' : GB} (h : If g g' = true) : likeB g' g:=by
 cases g <;> cases g' <;> simp only [If,Bool.false_eq_true,Bool.and_eq_true] at h <;> first | exact .inl rfl | skip
 ·rw [IB (fun _ _=>Np) h];exact .inl rfl
 ·rw [Nat.eq_of_beq_eq_true h.1]
  exact .inr ⟨_,_,_,rfl,rfl,(MC h.2).symm⟩
 ·rw [Nat.eq_of_beq_eq_true h.1,Nat.eq_of_beq_eq_true h.2.1,Nat.eq_of_beq_eq_true h.2.2];exact .inl rfl
noncomputable def T.join (t t' : T) : T:=t.joinK t' id
theorem T.joinK_eq {β : Type} : ∀ (t t' : T) (k : T → β),t.joinK t' k = k (t.join t')
 | .e,_,_=>rfl
 | .n v l r,.e,_=>rfl
 | .n v l r,.n v' l' r',k=>by
  show l.joinK l' (fun a=>r.joinK r' fun b=>Bool.rec (motive:=fun _=>β) (k (.n .dead a b)) (k (.n v a b)) (If v v')) = k (l.joinK l' (fun a=>r.joinK r' fun b=>Bool.rec (motive:=fun _=>T) (.n .dead a b) (.n v a b) (If v v')))
  rw [T.joinK_eq l l',T.joinK_eq r r',T.joinK_eq l l',T.joinK_eq r r']
  cases If v v' <;> rfl
theorem T.get_join : ∀ (t t' : T) (j : Nat),(t.join t').get j = .dead ∨ ((t.join t').get j = t.get j ∧ If (t.get j) (t'.get j) = true)
 | .e,_,_=>.inl rfl
 | .n v l r,.e,_=>.inl rfl
 | .n v l r,.n v' l' r',j=>by
  have e : (T.n v l r).join (.n v' l' r') = .n (if If v v' then v else .dead) (l.join l') (r.join r'):=by
   show l.joinK l' (fun a=>r.joinK r' fun b=>Bool.rec (motive:=fun _=>T) (.n .dead a b) (.n v a b) (If v v')) = _
   rw [T.joinK_eq l l',T.joinK_eq r r']
   cases If v v' <;> rfl
  rw [e]
  cases j with
  | zero =>
   show (if If v v' then v else .dead) = .dead ∨ ((if If v v' then v else .dead) = v ∧ If v v' = true)
   by_cases h : If v v' = true
   ·rw [if_pos h];exact .inr ⟨rfl,h⟩
   ·rw [if_neg h];exact .inl rfl
  | succ j =>
   show Nat.rec (motive:=fun _=>GB) ((l.join l').get (j / 2)) (fun _ _=>(r.join r').get (j / 2)) (j % 2) = .dead ∨ (Nat.rec (motive:=fun _=>GB) ((l.join l').get (j / 2)) (fun _ _=>(r.join r').get (j / 2)) (j % 2) = Nat.rec (motive:=fun _=>GB) (l.get (j / 2)) (fun _ _=>r.get (j / 2)) (j % 2) ∧
    If (Nat.rec (motive:=fun _=>GB) (l.get (j / 2)) (fun _ _=>r.get (j / 2)) (j % 2)) (Nat.rec (motive:=fun _=>GB) (l'.get (j / 2)) (fun _ _=>r'.get (j / 2)) (j % 2)) = true)
   cases j % 2 with
   | zero=>exact T.get_join l l' (j / 2)
   | succ _=>exact T.get_join r r' (j / 2)
def wkS (s s2 : S) : Prop:=∀ t,BG t s2 = BG t s ∨ BG t s2 = .undef
def wkH (h h2 : GH) : Prop:=h2.size = h.size ∧ ∀ b,h2.get b = .dead ∨ likeB (h.get b) (h2.get b)
theorem wkS.refl (s : S) : wkS s s:=fun _=>.inl rfl
theorem wkS.trans {s s1 s2 : S} (h : wkS s s1) (k : wkS s1 s2) : wkS s s2:=fun t=>by
 rcases k t with e | e
 ·rw [e];exact h t
 ·exact .inr e
theorem wkH.refl (h : GH) : wkH h h:=⟨rfl,fun _=>.inr (.inl rfl)⟩
theorem likeB.trans {a b c : GB} (h : likeB a b) (k : likeB b c) : likeB a c:=by
 rcases k with rfl | ⟨v,kv,kv',rfl,rfl,hp⟩
 ·exact h
 ·rcases h with h | ⟨v1,k1,k1',e1,e2,hp1⟩
  ·exact .inr ⟨v,kv,kv',h.symm,rfl,hp⟩
  ·cases e2;exact .inr ⟨_,_,_,e1,rfl,hp1.trans hp⟩
theorem wkH.trans {h h1 h2 : GH} (a : wkH h h1) (b : wkH h1 h2) : wkH h h2:=⟨b.1.trans a.1,fun j=>by
 rcases b.2 j with e | e
 ·exact .inl e
 ·rcases a.2 j with e1 | e1
  ·rcases e with e | ⟨v,kv,kv',e2,e3,_⟩
   ·rw [e,e1];exact .inl rfl
   ·rw [e1] at e2;cases e2
  ·exact .inr (e1.trans e)⟩
theorem KvRep.perm {ρ : Rho} {es : List MapEntry} : ∀ {kv kv' : List (G × G)},kv.Perm kv' → KvRep ρ es kv → KvRep ρ es kv':=by
 intro kv kv' hp
 have main : ∀ {kv kv' : List (G × G)},kv.Perm kv' → ∀ l : List MapEntry,l.length = kv.length → (∀ (i : Nat) (e : MapEntry) (p : G × G),l[i]? = some e → kv[i]? = some p → RepG ρ e.key p.1 ∧ RepG ρ e.val p.2) →
   ∃ l' : List MapEntry,l'.Perm l ∧ l'.length = kv'.length ∧ ∀ (i : Nat) (e : MapEntry) (p : G × G),l'[i]? = some e → kv'[i]? = some p → RepG ρ e.key p.1 ∧ RepG ρ e.val p.2:=by
  intro kv kv' hp
  induction hp with
  | nil=>intro l hl hr;exact ⟨l,.refl l,hl,hr⟩
  | cons x _ ih =>
   intro l hl hr
   cases l with
   | nil=>simp at hl
   | cons e l =>
    obtain ⟨l',q1,q2,q3⟩:=ih l (by simpa using hl) (fun i e p h1 h2=>hr (i + 1) e p (by simpa using h1) (by simpa using h2))
    refine ⟨e :: l',q1.cons e,by simp [q2],fun i e' p h1 h2=>?_⟩
    cases i with
    | zero=>exact hr 0 e' p (by simpa using h1) (by simpa using h2)
    | succ i=>exact q3 i e' p (by simpa using h1) (by simpa using h2)
  | swap x y t =>
   intro l hl hr
   match l,hl with
   | a :: b :: l,hl =>
    refine ⟨b :: a :: l,List.Perm.swap a b l,by simpa using hl,fun i e p h1 h2=>?_⟩
    match i,h1,h2 with
    | 0,h1,h2=>exact hr 1 e p (by simpa using h1) (by simpa using h2)
    | 1,h1,h2=>exact hr 0 e p (by simpa using h1) (by simpa using h2)
    | i + 2,h1,h2=>exact hr (i + 2) e p (by simpa using h1) (by simpa using h2)
  | trans _ _ ih1 ih2 =>
   intro l hl hr
   obtain ⟨l1,q1,q2,q3⟩:=ih1 l hl hr
   obtain ⟨l2,p1,p2,p3⟩:=ih2 l1 q2 q3
   exact ⟨l2,p1.trans q1,p2,p3⟩
 rintro ⟨l,h1,h2,h3⟩
 obtain ⟨l',q1,q2,q3⟩:=main hp l h2 h3
 exact ⟨l',q1.trans h1,q2,q3⟩
theorem HRep.weak {h2 : GH} (hr : HRep B ρ h w) (hw : wkH h h2) : HRep B ρ h2 w:=by
 have Ap : ∀ b,(h2.get b).isDead = false → (h.get b).isDead = false ∧ likeB (h.get b) (h2.get b):=by
  intro b hb
  rcases hw.2 b with e | e
  ·rw [e] at hb;cases hb
  ·refine ⟨?_,e⟩
   rcases e with e | ⟨v,kv,kv',e1,e2,_⟩
   ·rw [← e];exact hb
   ·rw [e1];rfl
 refine { blk:=fun b r z hb hρ=>?_,inj:=fun b b' r z z' hb hb'=>hr.inj b b' r z z' (Ap b hb).1 (Ap b' hb').1,lo:=hr.lo,dom:=fun b x hx=>by rw [hw.1];exact hr.dom b x hx,top:=hr.top,pl:=hr.pl,pt:=fun b hb=>by rw [hw.1];exact hr.pt b hb }
 obtain ⟨l1,l2⟩:=Ap b hb
 have h1:=hr.blk b r z l1 hρ
 have hm : ∀ m v kv,h2.get m = .map v kv → ∃ kv0,h.get m = .map v kv0:=by
  intro m v kv hm
  rcases hw.2 m with e | e | ⟨v',k1,k2,e1,e2,_⟩
  ·rw [e] at hm;cases hm
  ·exact ⟨kv,by rw [← e];exact hm⟩
  ·rw [e2] at hm;cases hm;exact ⟨_,e1⟩
 rcases l2 with e | ⟨v,kv,kv',e1,e2,hp⟩
 ·rw [e]
  refine h1.frame (Rho.le_refl ρ) rfl fun m ver cur rem v kv rm zm _ _ hk=>?_
  obtain ⟨kv0,hk0⟩:=hm m v kv hk
  exact .inl ⟨kv0,hk0,rfl⟩
 ·rw [e1] at h1
  rw [e2]
  obtain ⟨es,clock,q1,q2,q3,q4,q5⟩:=h1
  exact ⟨es,clock,q1,q2.perm hp,(hp.map _).nodup_iff.1 q3,by rw [← hp.length_eq];exact q4,q5⟩
theorem FRep.weak {s2 : S} (h : FRep ρ n s d a) (hw : wkS s s2) : FRep ρ n s2 d a :=
 {h with s:=⟨h.s.1,fun t=>by
   rcases hw t with e | e
   ·rw [e];exact h.s.2 t
   ·rw [e];exact .undef _⟩ }
theorem Fr.weak {s2 : S} {h2 : GH} (hF : Fr B n fn ro b ρ s d h a w) (hs : wkS s s2) (hh : wkH h h2) : Fr B n fn ro b ρ s2 d h2 a w:=⟨hF.f,hF.ro,hF.h.weak hh,hF.s.weak hs⟩
theorem K3 {β : Type} (s s' : S) : ∀ (m : Nat) (acc : S) (k : S → β),(∀ t,acc t = .undef ∨ (acc t = s t ∧ s t = s' t)) → ∃ s2,PZ s s' m acc k = k s2 ∧ ∀ t,s2 t = .undef ∨ (s2 t = s t ∧ s t = s' t)
 | 0,acc,k,h=>⟨acc,rfl,h⟩
 | m + 1,acc,k,h=>by
  show ∃ s2,Bool.rec (motive:=fun _=>β) (PZ s s' m acc k) (PZ s s' m (Ib m acc (s m)) k) (gB 60 (s m) (s' m)) = k s2 ∧ _
  cases hb : gB 60 (s m) (s' m) with
  | false=>exact K3 s s' m acc k h
  | true =>
   refine K3 s s' m (Ib m acc (s m)) k fun t=>?_
   have:=CW m t acc (s m)
   by_cases e : m = t
   ·subst e
    have hset:=CW m m acc (s m)
    rw [if_pos rfl] at hset
    exact .inr ⟨hset,Np hb⟩
   ·have hset:=CW t m acc (s m)
    rw [if_neg (fun h=>e h.symm)] at hset
    rcases h t with q | q
    ·exact .inl (hset.trans q)
    ·exact .inr ⟨hset.trans q.1,q.2⟩
theorem X9 {r r' : Res} (e : UC n r r' = .fr x s d h) : (∃ s1 h1,r = .fr x s1 d h1 ∧ wkS s1 s ∧ wkH h1 h) ∧ ∃ s1 h1,r' = .fr x s1 d h1 ∧ wkS s1 s ∧ wkH h1 h:=by
 unfold UC at e
 split at e
 case h_2=>cases e
 rename_i x1 s1 d1 h1
 split at e
 case h_2=>cases e
 rename_i x2 s2 d2 h2
 split at e
 case h_2=>cases e
 rename_i b1 b2 b3
 have b1:=aN b1
 have b2:=Rj b2
 have b3:=Nat.eq_of_beq_eq_true b3
 subst b1;subst b2
 obtain ⟨s3,e1,e2⟩:=K3 s1 s2 n S0 (fun s2=>T.joinK h1.t h2.t (fun t=>Res.fr x1 s2 d1 ⟨h1.size,t⟩)) (fun t=>.inl rfl)
 rw [e1,T.joinK_eq] at e
 cases e
 have hj : ∀ b,(⟨h1.size,h1.t.join h2.t⟩ : GH).get b = .dead ∨ ((⟨h1.size,h1.t.join h2.t⟩ : GH).get b = h1.get b ∧ If (h1.get b) (h2.get b) = true):=fun b=>T.get_join h1.t h2.t b
 refine ⟨⟨s1,h1,rfl,fun t=>?_,rfl,fun b=>?_⟩,s2,h2,rfl,fun t=>?_,b3,fun b=>?_⟩
 ·rcases e2 t with q | q
  ·exact .inr q
  ·exact .inl q.1
 ·rcases hj b with q | q
  ·exact .inl q
  ·exact .inr (.inl q.1)
 ·rcases e2 t with q | q
  ·exact .inr q
  ·exact .inl (q.1.trans q.2)
 ·rcases hj b with q | q
  ·exact .inl q
  ·exact .inr (by rw [q.1];exact Wa q.2)
theorem QS {f : G × G → List (G × G) → Res} : ∀ (l pre : List (G × G)) (s : S) (h : GH),O7 n f l pre = .fr x s d h → ∀ a p b,l = a ++ p :: b → ∃ s1 h1,f p (pre ++ a ++ b) = .fr x s1 d h1 ∧ wkS s1 s ∧ wkH h1 h
 | [],_,_,_,e,_,_,_,hl=>by cases e
 | [q],pre,s,h,e,a,p,b,hl=>by
  cases a with
  | nil=>simp at hl;obtain ⟨rfl,rfl⟩:=hl;exact ⟨s,h,by simpa [O7] using e,.refl s,.refl h⟩
  | cons y a=>simp at hl
 | q :: q' :: r,pre,s,h,e,a,p,b,hl=>by
  obtain ⟨⟨s1,h1,e1,e2,e3⟩,s2,h2,e4,e5,e6⟩:=X9 (show UC n (f q (pre ++ q' :: r)) (O7 n f (q' :: r) (pre ++ [q])) = _ from e)
  cases a with
  | nil=>simp at hl;obtain ⟨rfl,rfl⟩:=hl;exact ⟨s1,h1,by simpa using e1,e2,e3⟩
  | cons y a =>
   simp at hl
   obtain ⟨rfl,hl⟩:=hl
   obtain ⟨s3,h3,q1,q2,q3⟩:=QS (q' :: r) (pre ++ [q]) _ _ e4 a p b hl
   exact ⟨s3,h3,by simpa using q1,q2.trans e5,q3.trans e6⟩
theorem YR {c : Code} {o : Oper} {y : Operand} {os : List Oper} {rest : Code} (h : Rk c = some (o,y,os,rest)) : ∃ id,c = .seq (.region id ⟨o :: os⟩ false) rest ∧ o.guard = none ∧ o.op = .next y false:=by
 unfold Rk at h
 split at h
 case h_2=>cases h
 rename_i id ops rest'
 split at h
 case h_2=>cases h
 rename_i o' os' hops
 split at h
 case h_2=>cases h
 rename_i y' hg ho
 cases h
 refine ⟨id,?_,hg,ho⟩
 have : ops = ⟨o :: os⟩:=by rw [← hops]
 rw [this]
theorem YQ {bt m v r z : Nat} {cur : Option (G × G)} {rem kv : List (G × G)} {o : Oper} {y : Operand} (ho : o.op = .next y false) (hy : AS y s = .ptr bt 0) (hb : h.get bt = .miter m v cur rem) (hm : h.get m = .map v kv) (hne : rem ≠ [])
  (hr : HRep B ρ h w) (hs : SRep ρ s a.tmps) : ∃ l p t u w',rem = l ++ p :: t ∧ (execOp a.eval o).run P w = .ok (.value u) w' ∧ RepG ρ u (.tup [.bool true,p.1,p.2]) ∧ Kept B w w' ∧ ∀ h1,h.set? bt (.miter m v (some p) (l ++ t)) = some h1 → HRep B ρ h1 w':=by
 have hxr:=Ay hs y
 rw [hy] at hxr
 obtain ⟨r,z,e1,hρ⟩:=hxr.ptrInv
 obtain ⟨rm,zm,seen,stepped,es,clock,q1,q2,q3,q4,q5,q6,q7,q8⟩:=MT hr hb hm hρ
 subst q4
 have hlen:=q5.length
 have hne2 : ¬ (leftOf es seen).size = 0:=by
  unfold leftOf
  intro h0
  have : (es.toList.filter fun e=>!seen.contains e.born).length = 0:=by rw [← Array.toList_filter,Array.length_toList];exact h0
  rw [this] at hlen
  exact hne (List.eq_nil_of_length_eq_zero hlen.symm)
 rcases run_next_at (P:=P) w 0 r rm _ _ seen es _ q2 q3 q7 (Nat.le_refl _) with ⟨h0,_⟩ | ⟨e,he,w1,hw1,hrun⟩
 ·exact absurd h0 hne2
 have hef : e ∈ es.toList.filter fun e=>!seen.contains e.born:=by unfold leftOf at he;rwa [Array.toList_filter] at he
 obtain ⟨l,k1,k2,k3⟩:=q5
 obtain ⟨j,hj⟩:=List.getElem?_of_mem (k1.mem_iff.2 hef)
 have hjl:=(List.getElem?_eq_some_iff.1 hj).1
 have hpj : rem[j]? = some (rem[j]'(by omega)):=List.getElem?_eq_getElem _
 have hsplit : ∀ {α : Type} (l : List α) (x : α),l[j]? = some x → l = l.take j ++ x :: l.drop (j + 1):=by
  intro α l x hx
  have hlt:=(List.getElem?_eq_some_iff.1 hx).1
  have hx' : l[j] = x:=(List.getElem?_eq_some_iff.1 hx).2
  conv=>lhs;rw [← List.take_append_drop j l,List.drop_eq_getElem_cons hlt,hx']
 have hrep:=k3 j e _ hj hpj
 refine ⟨rem.take j,rem[j]'(by omega),rem.drop (j + 1),.tuple #[.bool true,e.key,e.val],ChangeMaps.setBlock w1 r (.mapIter (some rm) stepped (seen.push e.born) stepped),hsplit rem _ hpj,?_,Ej (.mk (.bool _) (.mk hrep.1 (.mk hrep.2 .nil))),?_,fun h1 hset=>?_⟩
 ·have : ∀ ty,(Instr.next (.pointer (some ⟨r,0,none⟩)) false ty).run P w = (Instr.next (.pointer (some ⟨r,0,none⟩)) false 0).run P w:=fun ty=>rfl
  simp [execOp,ho,e1,this,hrun]
 ·have hk : Kept B w1 (ChangeMaps.setBlock w1 r (.mapIter (some rm) stepped (seen.push e.born) stepped)):=Kept.write (hr.lo _ _ _ hρ).1
  rcases hw1 with rfl | rfl
  ·exact hk
  ·exact (Kept.drew B w).trans hk
 ·have hborn : ((l.map (·.born))).Nodup:=(k1.map _).nodup_iff.2 (q8.sublist (List.Sublist.map _ List.filter_sublist))
  have hlsplit:=hsplit l e hj
  have hfl : l.filter (fun e'=>!(e'.born == e.born)) = l.take j ++ l.drop (j + 1):=by
   rw [hlsplit] at hborn
   simp only [List.map_append,List.map_cons] at hborn
   have hn:=List.nodup_append.1 hborn
   conv=>lhs;rw [hlsplit]
   rw [List.filter_append,List.filter_cons_of_neg (by simp)]
   congr 1
   ·refine List.filter_eq_self.2 fun x hx=>?_
    have:=hn.2.2 x.born (List.mem_map.2 ⟨x,hx,rfl⟩) e.born (by simp)
    simpa using this
   ·refine List.filter_eq_self.2 fun x hx=>?_
    have:=(List.nodup_cons.1 hn.2.1).1
    simp only [Bool.not_eq_true',beq_eq_false_iff_ne]
    intro h0
    exact this (List.mem_map.2 ⟨x,hx,h0⟩)
  have hkv : KvRep ρ (es.toList.filter fun e'=>!(seen.push e.born).contains e'.born) (rem.take j ++ rem.drop (j + 1)):=by
   refine ⟨l.take j ++ l.drop (j + 1),?_,by simp [k2],fun i e' p' h1 h2=>?_⟩
   ·rw [← hfl]
    have e2 : (es.toList.filter fun e'=>!(seen.push e.born).contains e'.born) = (es.toList.filter fun e'=>!seen.contains e'.born).filter (fun e'=>!(e'.born == e.born)):=by
     rw [List.filter_filter]
     congr 1
     funext e'
     rw [contains_push,Bool.not_or,Bool.and_comm]
    rw [e2]
    exact k1.filter _
   ·by_cases hi : i < j
    ·rw [List.getElem?_append_left (by simp;omega),List.getElem?_take_of_lt hi] at h1
     rw [List.getElem?_append_left (by simp;omega),List.getElem?_take_of_lt hi] at h2
     exact k3 i e' p' h1 h2
    ·rw [List.getElem?_append_right (by simp;omega),List.getElem?_drop] at h1
     rw [List.getElem?_append_right (by simp;omega),List.getElem?_drop] at h2
     simp only [List.length_take] at h1 h2
     rw [Nat.min_eq_left (by omega)] at h1 h2
     exact k3 _ e' p' h1 h2
  have hrlt:=(Array.getElem?_eq_some_iff.1 q2).1
  obtain ⟨hsz,hget⟩:=GH.get_set hset
  have hmb : m ≠ bt:=fun e0=>by rw [e0,hb] at hm;cases hm
  have hrr : rm ≠ r:=fun e0=>by
   subst e0
   rw [q2] at q3;cases q3
  have hr1 : HRep B ρ h w1:=by
   rcases hw1 with rfl | rfl
   ·exact hr
   ·exact hr.drew
  have hheap : w1.heap = w.heap:=by rcases hw1 with rfl | rfl <;> rfl
  refine hr1.write1 hset (by rw [hb];rfl) hρ ⟨rm,zm,stepped,seen.push e.born,stepped,q1,?_,fun v' kv' hk=>?_⟩ (by simp)
  ·show (w1.heap.setIfInBounds r _)[r]? = _
   rw [Array.getElem?_setIfInBounds_self_of_lt (by rw [hheap];exact hrlt)]
  ·rw [hget,if_neg hmb,hm] at hk
   cases hk
   refine ⟨Nat.le_refl _,fun _ es' clock' he'=>?_⟩
   have : (w1.heap.setIfInBounds r (.mapIter (some rm) stepped (seen.push e.born) stepped))[rm]? = some (.map es stepped):=by
    rw [Array.getElem?_setIfInBounds_ne (Ne.symm hrr),hheap,q3]
   rw [show ({ w1 with heap:=w1.heap.setIfInBounds r (.mapIter (some rm) stepped (seen.push e.born) stepped) } : World).heap[rm]? = some (.map es stepped) from this] at he'
   cases he'
   exact ⟨rfl,rfl,hkv,e,seen,(List.mem_filter.1 hef).1,rfl,hrep.1,hrep.2⟩
theorem MR (hc : JV P tb) (hih : ∀ c,CfgX P c (ih c)) {o : Oper} {y : Operand} {os : List Oper} {rest c : Code} {ic : S → List Nat → GH → Res} (hcode : Rk c = some (o,y,os,rest))
  (hic : ∀ s d h,Items P n fn ro (.code c) s d h (ic s d h)) (N : Nat) (hrec : ∀ s d h,Items P n fn ro (.inLoop c) s d h (Hg tb ih n fn ro o y os rest ic N s d h)) (s : S) (d : List Nat) (h : GH) :
  ∀ x s' d' h',Hg tb ih n fn ro o y os rest ic (N + 1) s d h = .fr x s' d' h' → ∀ B ρ w a b cs is Q,Fr B n fn ro b ρ s d h a w →
   (∀ ρ' a' w',Fr B n fn ro b ρ' s' d' h' a' w' → ρ.le ρ' → Kept B w w' → Eb P b cs Q ρ' x is a' w') → Hk.Reach P b cs Q (.code c :: .inLoop c :: is) a w:=by
 have plain : ∀ x s' d' h',Ic (ic s d h) (Hg tb ih n fn ro o y os rest ic N) = .fr x s' d' h' → ∀ B ρ w a b cs is Q,Fr B n fn ro b ρ s d h a w →
  (∀ ρ' a' w',Fr B n fn ro b ρ' s' d' h' a' w' → ρ.le ρ' → Kept B w w' → Eb P b cs Q ρ' x is a' w') → Hk.Reach P b cs Q (.code c :: .inLoop c :: is) a w:=by
  intro x s' d' h' e B ρ w a b cs is Q hF hA
  exact Items.seq (.inLoop c) (hic s d h) hrec (fun id is=>rfl) (fun l is=>rfl) e hF hA
 intro x s' d' h' e B ρ w a b cs is Q hF hA
 have e : (match AS y s with
  | .ptr b 0=>match h.get b with
   | .miter m v _ rem=>match rem with
    | []=>Ic (ic s d h) (Hg tb ih n fn ro o y os rest ic N)
    | p :: r=>match h.get m with
     | .map v' _=>match Nat.beq v' v with
      | true=>O7 n (Xk tb ih n fn ro o os rest (Hg tb ih n fn ro o y os rest ic N) s d h b m v) (p :: r) []
      | false=>.fail
     | _=>.fail
   | _=>Ic (ic s d h) (Hg tb ih n fn ro o y os rest ic N)
  | _=>.fail) = Res.fr x s' d' h':=e
 split at e
 case h_2=>cases e
 rename_i bt hy
 split at e
 case h_2=>exact plain _ _ _ _ e B ρ w a b cs is Q hF hA
 rename_i m v cur rem hb
 split at e
 ·exact plain _ _ _ _ e B ρ w a b cs is Q hF hA
 rename_i p0 r0
 split at e
 case h_2=>cases e
 rename_i v' kv hm
 split at e
 case h_2=>cases e
 rename_i hv
 have hv:=Nat.eq_of_beq_eq_true hv
 subst hv
 obtain ⟨id,rfl,hg,ho⟩:=YR hcode
 obtain ⟨l,p,t,u,w',k1,k2,k3,k4,k5⟩:=YQ (P:=P) (r:=0) (z:=0) ho hy hb hm (by simp) hF.h hF.s.s
 obtain ⟨s1,h1,e1,e2,e3⟩:=QS _ _ _ _ e l p t k1
 refine reach_seq (C6 ?_)
 rw [List.range_eq_range']
 have hrange : List.range' 0 (#[].push o ++ os.toArray : Array Oper).size = 0 :: List.range' 1 os.length:=by simp [List.range'_succ,Nat.add_comm]
 have hrange2 : List.range' 0 (⟨o :: os⟩ : Array Oper).size = 0 :: List.range' 1 os.length:=by simp [List.range'_succ]
 rw [hrange2]
 have hwant : Region.wanted o (yielded (⟨o :: os⟩ : Array Oper) a.tmps) = true:=Hk.wanted_none hg
 refine BK (o:=o) rfl hwant (fun c hc=>by rw [ho] at hc;cases hc) ?_
 have e1' : wr h bt (.miter m v' (some p) (l ++ t)) (fun h1=>GZ .fail n o.dst (.tup [.bool true,p.1,p.2]) s (fun s1=>Ic (Ic (XC tb n ih (o :: os) os d s1 h1) (fun s d h=>ih (.go n fn ro rest s d h))) (Hg tb ih n fn ro o y os rest ic N))) .fail = .fr x s1 d' h1:=by simpa [Xk] using e1
 rw [Fg] at e1'
 cases hset : h.set? bt (.miter m v' (some p) (l ++ t)) with
 | none=>rw [hset] at e1';cases e1'
 | some h2 =>
 rw [hset] at e1'
 simp only [PJ] at e1'
 cases hd : RX n o.dst with
 | false=>rw [hd] at e1';cases e1'
 | true =>
 rw [hd] at e1'
 simp only at e1'
 have hR : valY P ((execOp a.eval o).run P w) (fun v w1=>Hk.Reach P b cs Q (.inRegion (⟨o :: os⟩ : Array Oper) (List.range' 1 os.length) :: .code rest :: .inLoop (.seq (.region id ⟨o :: os⟩ false) rest) :: is) (a.put o.dst v) w1) (fun chain w1=>Q (.panic chain) a w1):=by
  rw [k2]
  have hF2 : Fr B n fn ro b ρ (M9 o.dst (.tup [.bool true,p.1,p.2]) s) d h2 (a.put o.dst u) w':=⟨hF.f,hF.ro,k5 h2 hset,hF.s.put hd k3⟩
  have hops:=Qc hc.toCtx2 hih (rest:=os) (j:=1) (n:=n) (fn:=fn) (ro:=ro) (d:=d) (all:=o :: os) (M9 o.dst (.tup [.bool true,p.1,p.2]) s) h2 rfl
  have hA2 : ∀ ρ' a' w1,Fr B n fn ro b ρ' s1 d' h1 a' w1 → ρ.le ρ' → Kept B w' w1 → Eb P b cs Q ρ' x is a' w1:=fun ρ' a' w1 q1 q2 q3=>hA ρ' a' w1 (q1.weak e2 e3) q2 (k4.trans q3)
  rcases Ud e1' with ⟨s3,d3,h3,g1,g2⟩ | ⟨g1,g2⟩
  ·exact Items.seq (.code rest) hops (fun s d h=>hih (.go n fn ro rest s d h)) (fun id is=>rfl) (fun l is=>rfl) g1 hF2 fun ρ1 a1 w1 q1 q2 q3 =>
    hrec s3 d3 h3 _ _ _ _ g2 B ρ1 w1 a1 b cs is Q q1 fun ρ2 a2 w2 p1 p2 p3=>hA2 ρ2 a2 w2 p1 (Rho.le_trans q2 p2) (q3.trans p3)
  ·exact Items.seq (.code rest) hops (fun s d h=>hih (.go n fn ro rest s d h)) (fun id is=>rfl) (fun l is=>rfl) g1 hF2 fun ρ1 a1 w1 q1 q2 q3=>by
    have:=hA2 ρ1 a1 w1 q1 q2 q3
    cases x with
    | norm=>exact absurd rfl g2
    | ret=>exact this
    | exit id=>exact this
    | goto l=>exact this
    | pan g=>exact this
 exact valY.upon hR
theorem Rl (hc : JV P tb) (hih : ∀ c,CfgX P c (ih c)) {o : Oper} {y : Operand} {os : List Oper} {rest c : Code} {ic : S → List Nat → GH → Res} (hcode : Rk c = some (o,y,os,rest))
  (hic : ∀ s d h,Items P n fn ro (.code c) s d h (ic s d h)) : ∀ (N : Nat) (s : S) (d : List Nat) (h : GH),Items P n fn ro (.inLoop c) s d h (Hg tb ih n fn ro o y os rest ic N s d h)
 | 0,s,d,h=>Items.fail
 | N + 1,s,d,h=>fun x s' d' h' e B ρ w a b cs is Q hF hA=>Di (MR hc hih hcode hic N (Rl hc hih hcode hic N) s d h x s' d' h' e B ρ w a b cs is Q hF hA)
theorem SW (hc : JV P tb) (hih : ∀ c,CfgX P c (ih c)) {o : Oper} {y : Operand} {os : List Oper} {rest c : Code} {ic : S → List Nat → GH → Res} (hcode : Rk c = some (o,y,os,rest))
  (hic : ∀ s d h,Items P n fn ro (.code c) s d h (ic s d h)) (N : Nat) (s : S) (d : List Nat) (h : GH) : Items P n fn ro (.code (.loop c)) s d h (Hg tb ih n fn ro o y os rest ic N s d h):=by
 cases N with
 | zero=>exact Items.fail
 | succ N=>exact fun x s' d' h' e B ρ w a b cs is Q hF hA=>EH (MR hc hih hcode hic N (Rl hc hih hcode hic N) s d h x s' d' h' e B ρ w a b cs is Q hF hA)
theorem Oz {f : Code → S → List Nat → GH → Res} {body : Code} (hf : ∀ c s d h,Items P n fn ro (.code c) s d h (f c s d h)) : ∀ (N : Nat) (front : Item) (s : S) (d : List Nat) (h : GH) (r : Res),Items P n fn ro front s d h r →
  ∀ x s' d' h',SI f body N r = .fr x s' d' h' → ∀ B ρ w a b cs is Q,Fr B n fn ro b ρ s d h a w → (∀ ρ' a' w',Fr B n fn ro b ρ' s' d' h' a' w' → ρ.le ρ' → Kept B w w' → Eb P b cs Q ρ' x is a' w') → Hk.Reach P b cs Q (front :: .inScope body :: is) a w
 | 0,_,_,_,_,_,_,_,_,_,_,e=>by cases e
 | N + 1,front,s,d,h,r,hr,x,s',d',h',e=>by
  intro B ρ w a b cs is Q hF hA
  cases r with
  | fr x1 s1 d1 h1 =>
   refine hr _ _ _ _ rfl B ρ w a b cs (.inScope body :: is) Q hF fun ρ1 a1 w1 hF1 hρ hk=>?_
   cases x1 with
   | goto l =>
    have e : (match findLabel body l with | some c=>SI f body N (f c s1 d1 h1) | none=>.fr (.goto l) s1 d1 h1) = Res.fr x s' d' h':=e
    cases hl : findLabel body l with
    | some c =>
     rw [hl] at e
     simp only [Eb,gotoIn,hl]
     exact Oz hf N (.code c) s1 d1 h1 _ (hf c s1 d1 h1) x s' d' h' e B ρ1 w1 a1 b cs is Q hF1 fun ρ2 a2 w2 hF2 hρ2 hk2=>hA ρ2 a2 w2 hF2 (Rho.le_trans hρ hρ2) (hk.trans hk2)
    | none =>
     rw [hl] at e
     cases e
     have:=hA ρ1 a1 w1 hF1 hρ hk
     simp only [Eb,gotoIn,hl] at this ⊢
     exact this
   | norm=>cases e;exact DJ (hA ρ1 a1 w1 hF1 hρ hk)
   | ret=>cases e;exact hA ρ1 a1 w1 hF1 hρ hk
   | exit id=>cases e;exact hA ρ1 a1 w1 hF1 hρ hk
   | pan g=>cases e;exact hA ρ1 a1 w1 hF1 hρ hk
  | _=>cases e
theorem C2 (hc : JV P tb) (hih : ∀ c,CfgX P c (ih c)) : ∀ (c : Code) (s : S) (d : List Nat) (h : GH),GoS P n fn ro c s d h (FR tb ih n fn ro c s d h)
 | .skip,s,d,h=>by
  intro x s' d' h' e B ρ w a b cs is Q hF hA
  cases e;exact Gg (hA ρ a w hF (Rho.le_refl ρ) (Kept.refl B w))
 | .label _,s,d,h=>by
  intro x s' d' h' e B ρ w a b cs is Q hF hA
  cases e;exact Fl (hA ρ a w hF (Rho.le_refl ρ) (Kept.refl B w))
 | .ret,s,d,h=>by
  intro x s' d' h' e B ρ w a b cs is Q hF hA
  cases e;exact HA (hA ρ a w hF (Rho.le_refl ρ) (Kept.refl B w))
 | .exit id,s,d,h=>by
  intro x s' d' h' e B ρ w a b cs is Q hF hA
  cases e
  have:=hA ρ a w hF (Rho.le_refl ρ) (Kept.refl B w)
  simp only [Eb] at this
  cases hx : exitTo id is with
  | some k=>rw [hx] at this;exact Gh hx this
  | none=>rw [hx] at this;exact DL hx this
 | .goto l,s,d,h=>by
  intro x s' d' h' e B ρ w a b cs is Q hF hA
  cases e
  have:=hA ρ a w hF (Rho.le_refl ρ) (Kept.refl B w)
  simp only [Eb] at this
  cases hx : gotoIn l is with
  | some k=>rw [hx] at this;exact I5 hx this
  | none=>rw [hx] at this;exact F5 hx this
 | .refuse _,s,d,h=>by intro x s' d' h' e;cases e
 | .seq p q,s,d,h=>by
  intro x s' d' h' e B ρ w a b cs is Q hF hA
  exact reach_seq (Items.seq (.code q) (C2 hc hih p s d h) (fun s d h=>C2 hc hih q s d h) (fun id is=>rfl) (fun l is=>rfl) (show Ic (FR tb ih n fn ro p s d h) (FR tb ih n fn ro q) = _ from e) hF hA)
 | .cond y p q,s,d,h=>by
  intro x s' d' h' e B ρ w a b cs is Q hF hA
  have e : (match AS y s with | .bool t=>Bool.rec (motive:=fun _=>Res) (FR tb ih n fn ro q s d h) (FR tb ih n fn ro p s d h) t | _=>.fail) = Res.fr x s' d' h':=e
  have hv:=Ay hF.s.s y
  cases hy : AS y s <;> rw [hy] at e hv <;> first | (cases e;done) | skip
  rename_i t
  have hv:=hv.boolInv
  refine Gj hv ?_
  cases t with
  | true=>exact C2 hc hih p s d h _ _ _ _ e B ρ w a b cs is Q hF hA
  | false=>exact C2 hc hih q s d h _ _ _ _ e B ρ w a b cs is Q hF hA
 | .block id c,s,d,h=>by
  intro x s' d' h' e B ρ w a b cs is Q hF hA
  obtain ⟨x1,e1,e2⟩:=Ws (show Qx id (FR tb ih n fn ro c s d h) = _ from e)
  refine Fm (C2 hc hih c s d h _ _ _ _ e1 B ρ w a b cs (.inBlock id :: is) Q hF fun ρ1 a1 w1 hF1 hρ hk=>?_)
  have hA1:=hA ρ1 a1 w1 hF1 hρ hk
  rcases e2 with ⟨rfl,rfl⟩ | ⟨rfl,hne⟩
  ·simp only [Eb,exitTo,beq_self_eq_true,if_true];exact hA1
  ·cases x1 with
   | norm=>exact DK hA1
   | ret=>exact hA1
   | exit j =>
    have hj : ¬ id = j:=fun e=>hne (by rw [e])
    simp only [Eb,exitTo,beq_iff_eq,hj,if_false] at hA1 ⊢
    exact hA1
   | goto l=>exact hA1
   | pan g=>exact hA1
 | .loop c,s,d,h=>by
  show Items P n fn ro (.code (.loop c)) s d h (match Rk c with
   | none=>OZ (FR tb ih n fn ro c) 100000000 s d h
   | some (o,x,os,rest)=>Hg tb ih n fn ro o x os rest (FR tb ih n fn ro c) 100000000 s d h)
  cases hm : Rk c with
  | none=>exact T3 (C2 hc hih c) 100000000 s d h
  | some p =>
   obtain ⟨o,y,os,rest⟩:=p
   exact SW hc hih hm (C2 hc hih c) 100000000 s d h
 | .scope c,s,d,h=>by
  intro x s' d' h' e B ρ w a b cs is Q hF hA
  exact Fk (Oz (f:=fun c s d h=>ih (.go n fn ro c s d h)) (fun c s d h=>hih (.go n fn ro c s d h)) 100000000 (.code c) s d h _ (C2 hc hih c s d h) x s' d' h' e B ρ w a b cs is Q hF hA)
 | .region id ⟨ops⟩ dr,s,d,h=>by
  intro x s' d' h' e B ρ w a b cs is Q hF hA
  cases dr with
  | false =>
   have e : XC tb n ih ops ops d s h = .fr x s' d' h':=e
   refine C6 ?_
   have:=Qc hc.toCtx2 hih (rest:=ops) (j:=0) (n:=n) (fn:=fn) (ro:=ro) (d:=d) (all:=ops) s h (by simp) x s' d' h' e B ρ w a b cs is Q hF hA
   rw [List.range_eq_range']
   exact this
  | true =>
   have e : (match OH ops with | true=>(match FS tb n ih ops s h with | some (s',h')=>.fr .norm s' d h' | none=>.fail) | false=>.fail) = Res.fr x s' d' h':=e
   cases hnd : OH ops with
   | false=>rw [hnd] at e;cases e
   | true =>
    rw [hnd] at e
    simp only at e
    cases hd : FS tb n ih ops s h with
    | none=>rw [hd] at e;cases e
    | some p =>
     obtain ⟨s1,h1⟩:=p
     rw [hd] at e
     cases e
     have hn : n ≤ 256:=by have:=hF.s.s.1;have:=hF.s.size;omega
     exact Yb hc.toCtx2 (fun c=>(hih c).s) hn hd hF.h hF.s (Re hnd) fun ρ1 a1 w1 q1 q2 q3 q4=>hA ρ1 a1 w1 ⟨hF.f,hF.ro.mono q2,q1,q3⟩ q2 q4
 | .rangeFunc g ps asg body,s,d,h=>by
  intro x s' d' h' e B ρ w a b cs is Q hF hA
  have hro:=hF.ro
  cases ro with
  | none =>
   have e : nw h .defd (fun db h1=>nw h1 (.loop .ready none fn s n ps asg body db) (fun l h2=>K5 tb ih n fn none s (db :: d) (AS g s) l h2) .fail) .fail = .fr x s' d' h':=e
   have hb0 : b.roundOf = none:=by
    cases hb : b.roundOf with
    | none=>rfl
    | some r=>rw [hb] at hro;exact hro.elim
   rw [EL] at e
   cases h1e : h.push? .defd with
   | none=>rw [h1e] at e;cases e
   | some h1 =>
   rw [h1e] at e
   simp only at e
   rw [EL] at e
   cases h2e : h1.push? (.loop .ready none fn s n ps asg body h.size) with
   | none=>rw [h2e] at e;cases e
   | some h2 =>
   rw [h2e] at e
   simp only at e
   have he:=run_enterLoop_outer (P:=P) (w:=w) b.fn a.tmps ps asg body
   rw [← hb0] at he
   have r1 : HRep B (ρ.add h.size (w.heap.size,0)) h1 (w.alloc (.deferred (some []))):=hF.h.push h1e (CV _)
   have l1:=hF.h.le_add (w.heap.size,0)
   have hdb : (ρ.add h.size (w.heap.size,0)) h.size = some (w.heap.size,0):=by simp [Rho.add]
   have l2:=r1.le_add ((w.alloc (.deferred (some []))).heap.size,0)
   have r2:=r1.push (z:=0) h2e (o:=.loop { state:=.ready,pending:=none,fn:=b.fn,tmps:=a.tmps,params:=ps,assign:=asg,body,defers:=w.heap.size })
    ⟨_,w.heap.size,0,CV _,⟨rfl,rfl,hF.f,rfl,rfl,rfl⟩,(hF.s.s.mono l1).mono l2,hF.s.size,l2 _ _ hdb,rfl⟩
   have hsz : (w.alloc (.deferred (some []))).heap.size = w.heap.size + 1:=by simp
   have k1 : Kept B w (w.alloc (.deferred (some []))):=Kept.push hF.h.top
   have k2:=k1.trans (Kept.push (o:=.loop { state:=.ready,pending:=none,fn:=b.fn,tmps:=a.tmps,params:=ps,assign:=asg,body,defers:=w.heap.size }) r1.top)
   refine OY hc hih e he (ρ:=ρ) (z:=0) (by simp [Rho.add,hsz]) (Rho.le_trans l1 l2) k2 ⟨hF.f,by rw [hb0];trivial,r2,?_⟩ hA
   refine ⟨(hF.s.s.mono l1).mono l2,hF.s.size,?_⟩
   obtain ⟨rs,q1,q2,q3⟩:=hF.s.d
   refine ⟨w.heap.size :: rs,by simp [PV,q1],by simp [q2],fun i r b p q=>?_⟩
   cases i with
   | zero =>
    simp at p q
    subst p;subst q
    exact ⟨0,l2 _ _ hdb⟩
   | succ i =>
    obtain ⟨z,hz⟩:=q3 i r b (by simpa using p) (by simpa using q)
    exact ⟨z,l2 _ _ (l1 _ _ hz)⟩
  | some l0 =>
   have e : (match h.get l0 with | .loop _ _ _ _ _ _ _ _ db=>nw h (.loop .ready none fn s n ps asg body db) (fun l h2=>K5 tb ih n fn (some l0) s d (AS g s) l h2) .fail | _=>.fail) = Res.fr x s' d' h':=e
   cases hb : b.roundOf with
   | none=>rw [hb] at hro;exact hro.elim
   | some r0 =>
   rw [hb] at hro
   obtain ⟨z0,hz0⟩:=hro
   cases hg0 : h.get l0 <;> rw [hg0] at e <;> first | (cases e;done) | skip
   rename_i st0 pend0 fn0 s0 n0 ps0 asg0 body0 db
   simp only at e
   rw [EL] at e
   cases h2e : h.push? (.loop .ready none fn s n ps asg body db) with
   | none=>rw [h2e] at e;cases e
   | some h2 =>
   rw [h2e] at e
   simp only at e
   obtain ⟨lr,rd,zd,b1,b2,_,_,b5,b6⟩:=hF.h.atρ hg0 rfl hz0
   have he:=run_enterLoop_inner (P:=P) b1 b.fn a.tmps ps asg body
   rw [← hb] at he
   have l2:=hF.h.le_add (w.heap.size,0)
   have r2:=hF.h.push (z:=0) h2e (o:=.loop { state:=.ready,pending:=none,fn:=b.fn,tmps:=a.tmps,params:=ps,assign:=asg,body,defers:=lr.defers })
    ⟨_,rd,zd,CV _,⟨rfl,rfl,hF.f,rfl,rfl,rfl⟩,hF.s.s.mono l2,hF.s.size,l2 _ _ b5,b6⟩
   exact OY hc hih e he (ρ:=ρ) (z:=0) (by simp [Rho.add]) l2 (Kept.push hF.h.top) ⟨hF.f,by rw [hb];exact ⟨z0,l2 _ _ hz0⟩,r2,by simpa using hF.s.mono l2⟩ hA
end
end Go.Gx
namespace Go.Gx
def HoldsSpec (P : Program) (f : FuncId) (t tb : TypeId) : Prop:=∀ (g : FuncId) (fi ca : Array Value) (w : World) (K Kp : World → Prop),
 (callFunc g (fi ++ ca)).run P (w.alloc (.cells #[.bool false] tb)) = .ok (.enter g (fi ++ ca)) (w.alloc (.cells #[.bool false] tb)) →
 Calls P g (fi ++ ca) (w.alloc (.cells #[.bool false] tb)) (fun e w'=>match e with
  | .returned _=>K w'
  | .panicked chain=>chain = [{ v:=.iface t (.agg #[]),recovered:=false }] ∧ Kp w'
  | .outgrown=>False) →
 (∀ w',K w' → w'.heap[w.heap.size]? = some (.cells #[.bool false] tb (0,0))) → (∀ w',Kp w' → w'.heap[w.heap.size]? = some (.cells #[.bool false] tb (0,0))) →
 Calls P f #[.func (.func g) fi ca] w fun e w'=>(e = .returned (.bool true) ∧ ∃ w1,K w1 ∧ w' = w1.setCell ⟨w.heap.size,0,none⟩ (.bool true)) ∨
  (e = .returned (.bool false) ∧ ∃ w1,Kp w1 ∧ w' = (w1.setCell ⟨w.heap.size,0,none⟩ (.bool false)).alloc (.cells #[] t))
theorem setCell_block {w : World} {b : Nat} {v x : Value} {t : TypeId} (h : w.heap[b]? = some (.cells #[x] t (0,0))) : w.setCell ⟨b,0,none⟩ v = { w with heap:=w.heap.setIfInBounds b (.cells #[v] t (0,0)) }:=by
 obtain ⟨hb,hx⟩:=Array.getElem?_eq_some_iff.1 h
 have : ∀ (A : Array Obj) (f : Obj → Obj),A[b]? = some (.cells #[x] t (0,0)) → A.modify b f = A.setIfInBounds b (f (.cells #[x] t (0,0))):=by
  intro A f hA
  apply Array.ext_getElem?
  intro i
  rw [Array.getElem?_modify,Array.getElem?_setIfInBounds]
  by_cases hi : b = i
  ·subst hi;rw [if_pos rfl,if_pos rfl,hA];simp [(Array.getElem?_eq_some_iff.1 hA).1]
  ·rw [if_neg hi,if_neg hi]
 unfold World.setCell
 rw [this _ _ h]
 rfl
theorem HRep.change {B B' : Bl} {ρ : Rho} {h : GH} {w w2 : World} (hr : HRep B' ρ h w) (hsub : ∀ r,B.r r → B'.r r) (hp : B'.p = B.p) (hsz : w.heap.size ≤ w2.heap.size) (hs : ∀ r,r < w.heap.size → ¬ B'.r r → w2.heap[r]? = w.heap[r]?) : HRep B ρ h w2 :=
 {blk:=fun b r z hb h1=>(hr.blk b r z hb h1).frame (Rho.le_refl ρ) (hs r (hr.lo b r z h1).2 (hr.lo b r z h1).1) fun _ _ _ _ _ kv rm zm _ hm hk=>.inl ⟨kv,hk,hs rm (hr.lo _ _ _ hm).2 (hr.lo _ _ _ hm).1⟩,
  inj:=hr.inj,lo:=fun b r z h1=>⟨fun hB=>(hr.lo b r z h1).1 (hsub r hB),Nat.lt_of_lt_of_le (hr.lo b r z h1).2 hsz⟩,dom:=hr.dom,top:=fun r hB=>Nat.lt_of_lt_of_le (hr.top r (hsub r hB)) hsz,pl:=by rw [← hp];exact hr.pl,pt:=by rw [← hp];exact hr.pt }
theorem Ze {P : Program} {f : FuncId} {t tb : TypeId} {fn : Func} {cf : Code} (hf : P.funcs[f]? = some fn) (hn : (fn.name == "runtime.NumGoroutine") = false) (hb : fn.body = some cf) (hs : HoldsSpec P f t tb) : TX P f t := by
 intro g fi ca h res fc c hgf hgn hgb hS B ρ w xs hr hargs
 have hxs : ∃ first cap : Array Value,xs = #[.func (.func g) first cap] ∧ RepGs ρ (first ++ cap).toList (fi ++ ca):=by
  obtain ⟨l,rfl⟩ : ∃ l : List Value,xs = l.toArray:=⟨xs.toList,by simp⟩
  rw [List.toList_toArray] at hargs
  match l,hargs with
  | [v],hargs =>
   have hv:=hargs.cons.1
   cases hv with
   | fn _ first cap _ _ h1 h2 h3 h4 =>
    refine ⟨first,cap,rfl,?_⟩
    rw [Array.toList_append]
    exact RepGs.append ⟨by simpa using h1,fun i v g p q=>h3 i v g (by simpa using p) q⟩ ⟨by simpa using h2,fun i v g p q=>h4 i v g (by simpa using p) q⟩
  | [],hargs=>simp [RepGs] at hargs
  | _ :: _ :: _,hargs=>simp [RepGs] at hargs
 obtain ⟨first,cap,rfl,hg⟩:=hxs
 rw [Hk.run_callFunc_body hf hn hb]
 have hheap : (w.alloc (.cells #[.bool false] tb)).heap = w.heap.push (.cells #[.bool false] tb (0,0)):=by rw [H5]
 have hgrow : ∀ r,r < w.heap.size → (w.alloc (.cells #[.bool false] tb)).heap[r]? = w.heap[r]?:=fun r hr=>by
  rw [hheap];simp [Array.getElem?_push,Nat.ne_of_lt hr]
 have hself : (w.alloc (.cells #[.bool false] tb)).heap[w.heap.size]? = some (.cells #[.bool false] tb (0,0)):=by rw [hheap];simp
 have hsize : (w.alloc (.cells #[.bool false] tb)).heap.size = w.heap.size + 1:=by rw [hheap];simp
 have hr1 : HRep ⟨fun r=>B.r r ∨ r = w.heap.size,B.p⟩ ρ h (w.alloc (.cells #[.bool false] tb)):=by
  have h0 : HRep B ρ h (w.alloc (.cells #[.bool false] tb)):=hr.change (fun _ h=>h) rfl (by omega) fun r hr _=>hgrow r hr
  exact { blk:=h0.blk,inj:=h0.inj,lo:=fun b r z h1=>⟨fun hB=>hB.elim (h0.lo b r z h1).1 fun e=>by have:=(hr.lo b r z h1).2;omega,(h0.lo b r z h1).2⟩,dom:=h0.dom,
          top:=fun r hB=>hB.elim (h0.top r) fun e=>by omega,pl:=h0.pl,pt:=h0.pt }
 have hcall:=hS ⟨fun r=>B.r r ∨ r = w.heap.size,B.p⟩ ρ _ (first ++ cap) hr1 hg
 have hrun:=Hk.run_callFunc_body (w:=w.alloc (.cells #[.bool false] tb)) hgf hgn hgb (first ++ cap)
 rw [hrun] at hcall
 have hk0 : Kept B w (w.alloc (.cells #[.bool false] tb)):=Kept.push hr.top
 have keep : ∀ w1,Kept ⟨fun r=>B.r r ∨ r = w.heap.size,B.p⟩ (w.alloc (.cells #[.bool false] tb)) w1 → w1.heap[w.heap.size]? = some (.cells #[.bool false] tb (0,0)):=fun w1 hk=>(hk.block _ (.inr rfl)).trans hself
 have fin : ∀ (ρ1 : Rho) (h1 : GH) (w1 : World) (x : Value),HRep ⟨fun r=>B.r r ∨ r = w.heap.size,B.p⟩ ρ1 h1 w1 → Kept ⟨fun r=>B.r r ∨ r = w.heap.size,B.p⟩ (w.alloc (.cells #[.bool false] tb)) w1 →
   HRep B ρ1 h1 (w1.setCell ⟨w.heap.size,0,none⟩ x) ∧ Kept B w (w1.setCell ⟨w.heap.size,0,none⟩ x):=by
  intro ρ1 h1 w1 x q1 q2
  have hc:=keep w1 q2
  rw [setCell_block hc]
  refine ⟨q1.change (fun _ h=>.inl h) rfl (by simp) fun r _ hB=>?_,⟨q2.os,q2.tape,q2.output,?_,fun r hB=>?_⟩⟩
  ·have : r ≠ w.heap.size:=fun e=>hB (.inr e)
   simp [Array.getElem?_setIfInBounds_ne (Ne.symm this)]
  ·have:=q2.size;simp;omega
  ·have hlt:=hr.top r hB
   have : w.heap.size ≠ r:=by omega
   simp only [Array.getElem?_setIfInBounds_ne this]
   exact (q2.block r (.inl hB)).trans (hgrow r hlt)
 cases res with
 | fail=>trivial
 | fr=>trivial
 | rv v h1 =>
  have hcall : Calls P g (first ++ cap) (w.alloc (.cells #[.bool false] tb)) (fun e w'=>match e with | .returned v'=>Q3 ⟨fun r=>B.r r ∨ r = w.heap.size,B.p⟩ ρ (w.alloc (.cells #[.bool false] tb)) v h1 v' w' | .panicked _=>False | .outgrown=>False):=hcall
  refine Calls.mono (hs g first cap w (fun w1=>∃ ρ1,HRep ⟨fun r=>B.r r ∨ r = w.heap.size,B.p⟩ ρ1 h1 w1 ∧ ρ.le ρ1 ∧ Kept ⟨fun r=>B.r r ∨ r = w.heap.size,B.p⟩ (w.alloc (.cells #[.bool false] tb)) w1) (fun _=>False) hrun (Calls.mono hcall ?_) (fun w1 ⟨_,_,_,hk⟩=>keep w1 hk) (fun _ h=>h.elim)) ?_
  ·intro e w1 he
   cases e with
   | returned v1=>obtain ⟨ρ1,g1,g2,g3,g4⟩:=he;exact ⟨ρ1,g1,g2,g4⟩
   | panicked=>exact he.elim
   | outgrown=>exact he.elim
  ·rintro e w2 (⟨rfl,w1,⟨ρ1,g1,g2,g3⟩,rfl⟩ | ⟨_,_,hf,_⟩)
   ·obtain ⟨k1,k2⟩:=fin ρ1 h1 w1 (.bool true) g1 g3
    exact ⟨ρ1,k1,g2,.bool true,k2⟩
   ·exact hf.elim
 | rp v h1 =>
  unfold XB
  split
  ·rename_i hh;cases hh
  ·rename_i t' g' _ hh
   cases hh
   split
   ·rename_i l
    split
    ·cases htt : Nat.beq t' t with
     | false=>trivial
     | true =>
      have htt:=Nat.eq_of_beq_eq_true htt
      subst htt
      have hcall : Calls P g (first ++ cap) (w.alloc (.cells #[.bool false] tb)) (fun e w'=>match e with | .returned _=>False | .panicked chain=>Y1 ⟨fun r=>B.r r ∨ r = w.heap.size,B.p⟩ ρ (w.alloc (.cells #[.bool false] tb)) (.if_ t' (.agg [])) h1 chain w' | .outgrown=>False):=hcall
      refine Calls.mono (hs g first cap w (fun _=>False) (fun w1=>∃ ρ1,HRep ⟨fun r=>B.r r ∨ r = w.heap.size,B.p⟩ ρ1 h1 w1 ∧ ρ.le ρ1 ∧ Kept ⟨fun r=>B.r r ∨ r = w.heap.size,B.p⟩ (w.alloc (.cells #[.bool false] tb)) w1) hrun (Calls.mono hcall ?_) (fun _ h=>h.elim) (fun w1 ⟨_,_,_,hk⟩=>keep w1 hk)) ?_
      ·intro e w1 he
       cases e with
       | returned v1=>exact he.elim
       | panicked chain =>
        obtain ⟨ρ1,v1,g0,g1,g2,g3,g4⟩:=he
        cases g3 with
        | if_ _ x _ hx =>
         cases hx with
         | agg cs l hl _ _ =>
          have : cs = #[]:=Array.eq_empty_of_size_eq_zero (by simpa using hl)
          subst this
          exact ⟨g0,ρ1,g1,g2,g4⟩
       | outgrown=>exact he.elim
      ·rintro e w2 (⟨_,_,hf,_⟩ | ⟨rfl,w1,⟨ρ1,g1,g2,g3⟩,rfl⟩)
       ·exact hf.elim
       ·obtain ⟨k1,k2⟩:=fin ρ1 h1 w1 (.bool false) g1 g3
        refine ⟨ρ1,k1.change (fun _ h=>h) rfl (by rw [H5];simp) (fun r hr _=>by rw [H5];rw [Array.getElem?_push,if_neg (Nat.ne_of_lt hr)]),g2,.bool false,k2.trans (Kept.push k1.top)⟩
    ·trivial
   ·trivial
  ·trivial
end Go.Gx
namespace Go.Gx
def ZE (P : Program) (t : TypeId) (m : String) (f : FuncId) : Bool:=match P.info? t with
 | some i=>match i.methods.find? (·.name == m) with
  | some r=>r.path.toList.isEmpty && (match r.func with
   | some (f',pr)=>Nat.beq f' f && !pr
   | none=>false) && (match P.underlying t with
   | some (.pointer _)=>false
   | some _=>true
   | none=>false)
  | none=>false
 | none=>false
theorem U7 {P : Program} {t : TypeId} {m : String} {f : FuncId} (h : ZE P t m f = true) (n : Nat) (v : Value) (w : World) : (method (n + 1) t v m).run P w = .ok (f,v) w:=by
 unfold ZE at h
 split at h
 ·rename_i i hi
  split at h
  ·rename_i r hr
   simp only [Bool.and_eq_true] at h
   obtain ⟨⟨h1,h2⟩,h3⟩:=h
   split at h2
   ·rename_i f' pr hf
    simp only [Bool.and_eq_true,Bool.not_eq_true'] at h2
    have hff:=Nat.eq_of_beq_eq_true h2.1
    subst hff
    have hpr:=h2.2
    subst hpr
    have hp : r.path.toList = []:=List.isEmpty_iff.1 h1
    split at h3
    ·cases h3
    ·rename_i u hne hu
     have hrecv : ∀ wr,(receiverAt t (.val v) false wr).run P w = .ok v w:=fun wr=>by
      unfold receiverAt
      rw [Sem.run_bind,run_underlying hu,Result.andThen_ok]
      cases u <;> first | rfl | exact absurd rfl (hne _)
     simp only [method,typeInfo,Sem.run_bind,run_program,Result.andThen_ok,hi,hr,hp,follow,Sem.run_pure,hf,hrecv]
    ·cases h3
   ·cases h2
  ·cases h
 ·cases h
end Go.Gx
