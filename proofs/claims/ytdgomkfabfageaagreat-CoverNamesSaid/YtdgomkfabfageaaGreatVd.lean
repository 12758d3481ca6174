/- The ghost machine's operations that change nothing: what they yield. (And what it stands on.) -/
import Derived.Test.YtdgomkfabfageaaGreatVc
import Derived.Laws.MakeOwn
import Derived.Test.YtdgomkfabfageaaGreatVb
import Derived.AtR
import Derived.Orders
import Derived.KernelRfl
import Derived.Laws.AppendOwn
import Derived.Test.YtdgomkfabfageaaGreatVa
set_option linter.unusedSimpArgs false
set_option linter.unusedVariables false

set_option maxRecDepth 100000
namespace Go.Hk
open Go.Proofs
def HB (s n : Int) (x : Str) (k : Int) : Bool :=
 if s = 1 then decide (-1000000000 ≤ n) && decide (n ≤ 1000000000) && (x == []) && (k == 0)
 else if s = 2 then (n == 0 || n == 1) && (x == []) && (k == 0)
 else if s = 3 ∨ s = 5 then n == 0 && x == [] && k == 0
 else if s = 4 then n == 0 && Cl x && decide (k ≤ 3)
 else false
theorem V1 (v : Ty) (k : Int) : PureC Tryz.prog 126 [.agg (UG v),.int .i64 k] (.bool (match v with | .mk s n x _=>HB s n x k)):=by
 obtain ⟨s,n,x,ps⟩:=v
 refine Ae An Tryz.func126 (by decide +kernel) rfl [1,2,3] rfl rfl ?_
 simp only [HB,UG]
 refine bg [] rfl (by simp) ?_
 by_cases h1 : s = 1
 ·subst h1
  refine Aa rfl (fun h=>?_) (fun h=>by simp at h)
  refine bd [] rfl (by simp [Af]) ?_
  refine Ab ⟨_,rfl,tV (congrArg _ ?_),trivial⟩
  simp [Bool.and_assoc]
 rw [if_neg h1]
 refine Aa rfl (fun h=>absurd (by simpa using h) h1) (fun h=>?_)
 clear h
 refine bd [] rfl (by simp) ?_
 by_cases h2 : s = 2
 ·subst h2
  refine Aa rfl (fun h=>?_) (fun h=>by simp at h)
  refine bd [] rfl (by simp [Af]) ?_
  refine Ab ⟨_,rfl,tV (congrArg _ ?_),trivial⟩
  simp [Bool.and_assoc]
 rw [if_neg h2]
 refine Aa rfl (fun h=>absurd (by simpa using h) h2) (fun h=>?_)
 clear h
 refine bd [] rfl (by simp) ?_
 by_cases h3 : s = 3
 ·subst h3
  refine Aa rfl (fun h=>?_) (fun h=>by simp at h)
  refine bd [] rfl (by simp) ?_
  refine Aa rfl (fun h=>?_) (fun h=>by simp at h)
  refine bd [] rfl (by simp [Af]) ?_
  refine Ab ⟨_,rfl,tV (congrArg _ ?_),trivial⟩
  simp [Bool.and_assoc]
 refine Aa rfl (fun h=>absurd (by simpa using h) h3) (fun h=>?_)
 clear h
 refine bd [] rfl (by simp) ?_
 by_cases h5 : s = 5
 ·subst h5
  refine Aa rfl (fun h=>?_) (fun h=>by simp at h)
  refine bd [] rfl (by simp [Af]) ?_
  refine Ab ⟨_,rfl,tV (congrArg _ ?_),trivial⟩
  simp [Bool.and_assoc]
 rw [if_neg (by simp [h3,h5])]
 refine Aa rfl (fun h=>absurd (by simpa using h) h5) (fun h=>?_)
 clear h
 refine bd [] rfl (by simp) ?_
 by_cases h4 : s = 4
 ·subst h4
  refine Aa rfl (fun h=>?_) (fun h=>by simp at h)
  refine bd [] rfl (by simp) ?_
  refine Ac rfl (fun _=>Cr x) (by simp [Af]) ?_
  refine bg [] rfl (by simp [Af]) ?_
  refine Ab ⟨_,rfl,tV (congrArg _ ?_),trivial⟩
  simp [Bool.and_assoc]
 rw [if_neg h4]
 refine Aa rfl (fun h=>absurd (by simpa using h) h4) (fun h=>?_)
 clear h
 refine bd [] rfl (by simp) ?_
 exact Ab ⟨_,rfl,tV rfl,trivial⟩
theorem aI (g : FuncId) (q : List V → Bool) (es : List (List V)) (hes : ∀ e ∈ es,e.length = 4) (hlen : es.length ≤ 9223372036854775807)
  (hq : ∀ e ∈ es,PureC Tryz.prog g [.agg e] (.bool (q e))) :
  PureC Tryz.prog 158 [.sl es,.fn (.func g)] (.int .i64 (Da q es 0)):=by
 refine Ae An Tryz.func158 (by decide +kernel) rfl [2,3,4] rfl rfl ?_
 refine bg [] rfl (by simp) ?_
 refine Ah (fun i : Nat=>[(8,.imm (.int .i64 i)),(7,.imm (.int .i64 es.length)),(0,.imm (.sl es)),(1,.imm (.fn (.func g)))]) (fun _=>[]) [2,3,4] (fun i=>es.length - i)
  (fun i=>i ≤ es.length ∧ Da q es 0 = Da q (es.drop i) i) 0 ⟨Nat.zero_le _,rfl⟩ ⟨rfl,As (by simp),rfl,rfl,trivial⟩ trivial rfl fun i hi ih=>?_
 refine bd [] rfl (by simp) ?_
 have hi2:=hi.2
 refine Aa rfl (fun h=>?_) (fun h=>?_)
 ·simp at h
  obtain ⟨e,he⟩:=Ai h
  have hm:=List.mem_of_getElem? he
  rw [Al he] at hi2
  refine bd [] rfl (by simp) ?_
  refine bi rfl (c:=e) (fun _=>⟨by simp,by simpa using he,hes e hm⟩) (by simp) ?_
  refine bg [] rfl (by simp [hes e hm]) ?_
  refine Ac rfl (fun _=>hq e hm) (by simp) ?_
  refine bg [] rfl (by simp) ?_
  refine Aa rfl (fun h=>?_) (fun h=>?_)
  ·refine bd [] rfl (by simp) ?_
   exact Ab ⟨_,rfl,tV (congrArg _ (by rw [hi2];simp [Da,h])),trivial⟩
  ·refine bd [] rfl (by simp) ?_
   exact Ad (ih (i + 1) (by omega) ⟨by omega,by rw [hi2];simp [Da,h]⟩) ⟨As (Bw (by omega) (by omega)),rfl,rfl,rfl,trivial⟩ trivial rfl
 ·refine bd [] rfl (by simp) ?_
  simp at h
  refine Ab ⟨_,rfl,tV (congrArg _ ?_),trivial⟩
  rw [hi2,List.drop_eq_nil_of_le (by omega)];rfl
theorem Wh (g : FuncId) (q : List V → Bool) (es : List (List V)) (hes : ∀ e ∈ es,e.length = 4) (hlen : es.length ≤ 9223372036854775807)
  (hq : ∀ e ∈ es,PureC Tryz.prog g [.agg e] (.bool (q e))) :
  PureC Tryz.prog 127 [.sl es,.fn (.func g)] (.bool (es.any q)):=by
 refine Ae An Tryz.func127 (by decide +kernel) rfl [2,3,4] rfl rfl ?_
 refine bg [] rfl (by simp) ?_
 refine Ac rfl (fun _=>aI g q es hes hlen hq) (by simp) ?_
 refine bg [] rfl (by simp) ?_
 refine Ab ⟨_,rfl,tV (congrArg _ ?_),trivial⟩
 rw [Bool.eq_iff_iff,← FQ q es 0]
 simp
mutual
def allV : Ty → Bool
 | .mk s n x ps=>HB s n x ps.length && Pz ps
def Pz : List Ty → Bool
 | []=>true
 | t :: r=>allV t && Pz r
end
theorem S4 : ∀ l : List Ty,Pz l = l.all allV
 | []=>rfl
 | t :: r=>by simp [Pz,S4 r]
theorem Yt (v : Ty) (h : PureC Tryz.prog 97 [.agg (dTyc v)] (.bool (allV v))) : PureC Tryz.prog 128 [.agg (dTyc v)] (.bool (!allV v)):=by
 obtain ⟨s,n,x,ps⟩:=v
 generalize allV (.mk s n x ps) = b at *
 refine Ae An Tryz.func128 (by decide +kernel) rfl [1,2,3] rfl rfl ?_
 refine bg [] rfl (by simp) ?_
 refine Ac rfl (fun _=>h) (by simp) ?_
 refine bg [] rfl (by simp) ?_
 exact Ab ⟨_,rfl,tV rfl,trivial⟩
theorem UW : ∀ v : Ty,PureC Tryz.prog 97 [.agg (dTyc v)] (.bool (allV v))
 | .mk s n x ps=>by
  have hP:=V1 (.mk s n x ps) ps.length
  simp only at hP
  have hO:=Uw (.mk s n x ps)
  refine A2 fun hv=>?_
  simp [Bt,Dd,dTyc,maxLen] at hv
  have hC:=Wh 128 (qOf dTyc (fun v=>!allV v)) (A9 ps) (fun e he=>by rw [BW] at he;obtain ⟨t,_,rfl⟩:=List.mem_map.1 he;simp) (by simpa using hv.1)
   (fun e he=>by
    rw [BW] at he
    obtain ⟨t,ht,rfl⟩:=List.mem_map.1 he
    rw [GY Fb]
    exact Yt t (UW t))
  refine Ae An Tryz.func97 (by decide +kernel) rfl [1,2,3] rfl rfl ?_
  refine bg [] rfl (by simp) ?_
  refine Ac rfl (fun _=>hO) (by simp) ?_
  refine bg [] rfl (by simp) ?_
  refine Ac rfl (v:=.bool (HB s n x ps.length)) (fun _=>by simpa using hP) (by simp) ?_
  refine bg [] rfl (by simp) ?_
  refine Ac rfl (fun _=>hC) (by simp [Af]) ?_
  refine bg [] rfl (by simp [Af];rfl) ?_
  refine Ab ⟨_,rfl,tV (congrArg _ ?_),trivial⟩
  rw [BW,List.any_map,show (qOf dTyc (fun v=>!allV v) ∘ dTyc) = (fun v=>!allV v) from funext fun v=>GY Fb _ v]
  simp [allV,S4,List.all_eq_not_any_not]
termination_by v=>SizeOf.sizeOf v
decreasing_by
 have:=List.sizeOf_lt_of_mem ht
 simp_wf
 omega
theorem T6 (v : Ty) : PureC Tryz.prog 64 [.agg (dTyc v)] (.bool (decide (0 ≤ AN v 20000 100) && allV v)):=by
 have hW:=Mi v 20000 100 (by decide) (by decide) (by decide) (by decide)
 have hA:=UW v
 obtain ⟨s,n,x,ps⟩:=v
 refine Ae An Tryz.func64 (by decide +kernel) rfl [1,2,3] rfl rfl ?_
 refine bg [] rfl (by simp) ?_
 refine Ac rfl (fun _=>hW) (by simp) ?_
 refine bg [] rfl (by simp) ?_
 refine Ac rfl (fun _=>hA) (by simp [Af]) ?_
 refine bg [] rfl (by simp [Af]) ?_
 refine Ab ⟨_,rfl,tV (congrArg _ ?_),trivial⟩
 simp
theorem Hq {l : List Str} {s : Str} : Ed l s = true ↔ s ∈ l:=by
 induction l with
 | nil=>simp [Ed]
 | cons x r ih=>simp only [Ed,Bool.or_eq_true,beq_iff_eq,ih,List.mem_cons];exact ⟨fun h=>h.imp Eq.symm id,fun h=>h.imp Eq.symm id⟩
theorem Qp {l : List Str} : ∀ {pre : List Str},A3 pre l = true ↔ l.Nodup ∧ ∀ s ∈ l,s ∉ pre:=by
 induction l with
 | nil=>intro pre;simp [A3]
 | cons x r ih =>
  intro pre
  simp only [A3,Bool.and_eq_true,Bool.not_eq_true',ih,List.nodup_cons,List.mem_cons,List.mem_append,List.not_mem_nil,or_false]
  have : Ed pre x = false ↔ x ∉ pre:=by rw [← Bool.not_eq_true,Hq]
  rw [this]
  constructor
  ·rintro ⟨h1,h2,h3⟩
   exact ⟨⟨fun hx=>h3 x hx (.inr rfl),h2⟩,fun s hs=>hs.elim (fun e=>e ▸ h1) fun h hp=>h3 s h (.inl hp)⟩
  ·rintro ⟨⟨h1,h2⟩,h3⟩
   exact ⟨h3 x (.inl rfl),h2,fun s hs hp=>hp.elim (h3 s (.inr hs)) fun e=>h1 (e ▸ hs)⟩
theorem L1 {l : List Str} : AJ l = true ↔ l.Nodup:=by
 unfold AJ
 rw [Qp]
 simp
def De (l : List (Str × V)) : List (V × V):=l.map fun p=>(.str p.1,p.2)
def Ig (m : List (V × V)) (p : Str × V) : List (V × V):=CY m (.str p.1) p.2
def SY (l : List (Str × V)) : List (V × V):=l.foldl Ig []
def DG (m : List (V × V)) : Prop:=∀ p ∈ m,G0 .str p.1 = true
theorem FE (l : List (Str × V)) : DG (De l):=by
 intro p hp
 obtain ⟨q,_,rfl⟩:=List.mem_map.1 hp
 rfl
theorem Ox {m : List (V × V)} (h : DG m) (s : Str) (v : V) : DG (CY m (.str s) v):=by
 induction m with
 | nil=>intro p hp;simp only [CY,List.mem_singleton] at hp;subst hp;rfl
 | cons a r ih =>
  obtain ⟨k,e⟩:=a
  have h1 : DG r:=fun p hp=>h p (by simp [hp])
  simp only [CY]
  split
  ·intro p hp
   rcases List.mem_cons.1 hp with rfl | hp
   ·rfl
   ·exact h1 p hp
  ·intro p hp
   rcases List.mem_cons.1 hp with rfl | hp
   ·exact h _ (by simp)
   ·exact ih h1 p hp
theorem SX (l : List (Str × V)) : ∀ m,DG m → DG (l.foldl Ig m):=by
 induction l with
 | nil=>intro m h;exact h
 | cons p r ih=>intro m h;exact ih _ (Ox h _ _)
theorem Rn (l : List (Str × V)) : DG (SY l):=SX l [] fun p hp=>by cases hp
theorem WQ {m : List (V × V)} (s : Str) (v : V) : (By m (.str s) = none → (CY m (.str s) v).length = m.length + 1) ∧ (By m (.str s) ≠ none → (CY m (.str s) v).length = m.length):=by
 induction m with
 | nil=>simp [By,CY]
 | cons a r ih =>
  obtain ⟨k,e⟩:=a
  simp only [By,CY]
  cases h : RQ (.str s) k
  ·simpa using ih
  ·simp
theorem Vo {m : List (V × V)} (s t : Str) (v : V) (hk : DG m) : (By (CY m (.str s) v) (.str t) = none) ↔ (By m (.str t) = none ∧ s ≠ t):=by
 induction m with
 | nil =>
  simp only [CY,By,RQ,beq_iff_eq]
  by_cases e : t = s
  ·subst e;simp
  ·have e' : ¬ s = t:=fun h=>e h.symm
   simp [e,e']
 | cons a r ih =>
  obtain ⟨k,e⟩:=a
  have h1 : DG r:=fun p hp=>hk p (by simp [hp])
  have h0:=hk (k,e) (by simp)
  cases k with
  | str x =>
   simp only [CY,By,RQ]
   by_cases hx : s = x
   ·subst hx
    simp only [beq_self_eq_true,if_true,By,RQ]
    by_cases ht : t = s
    ·simp [ht]
    ·simp only [beq_iff_eq,ht,if_false]
     exact ⟨fun h=>⟨h,fun e=>ht e.symm⟩,fun h=>h.1⟩
   ·simp only [beq_iff_eq,hx,if_false,By,RQ]
    by_cases ht : t = x
    ·simp [ht]
    ·simp only [ht,if_false]
     exact ih h1
  | _=>simp [G0] at h0
theorem Xy : ∀ (l : List (Str × V)) (pre : List Str) (m : List (V × V)),DG m → (∀ s,By m (.str s) = none ↔ s ∉ pre) → m.length ≤ pre.length →
  (l.foldl Ig m).length ≤ pre.length + l.length ∧ (A3 pre (l.map (·.1)) = false ∨ m.length < pre.length → (l.foldl Ig m).length < pre.length + l.length) ∧ (A3 pre (l.map (·.1)) = true → m.length = pre.length → (l.foldl Ig m).length = pre.length + l.length)
 | [],pre,m,hk,h,hl=>by
  simp only [List.foldl_nil,List.length_nil,List.map_nil,A3]
  exact ⟨by omega,fun h=>by rcases h with h | h;exact absurd h (by simp);omega,fun _ h=>by omega⟩
 | p :: r,pre,m,hk,h,hl=>by
  have hL:=WQ (m:=m) p.1 p.2
  have hm : (Ig m p).length ≤ (pre ++ [p.1]).length:=by
   simp only [Ig,List.length_append,List.length_singleton]
   by_cases hn : By m (.str p.1) = none
   ·rw [hL.1 hn];omega
   ·rw [hL.2 hn];omega
  have hs : ∀ s,By (Ig m p) (.str s) = none ↔ s ∉ pre ++ [p.1]:=fun s=>by
   simp only [Ig,Vo _ _ _ hk,h s,List.mem_append,List.mem_singleton,not_or]
   exact ⟨fun ⟨a,b⟩=>⟨a,fun e=>b e.symm⟩,fun ⟨a,b⟩=>⟨a,fun e=>b e.symm⟩⟩
  have ih:=Xy r (pre ++ [p.1]) (Ig m p) (Ox hk _ _) hs hm
  simp only [List.length_append,List.length_singleton] at ih
  simp only [List.foldl_cons,List.length_cons,List.map_cons,A3]
  obtain ⟨i1,i2,i3⟩:=ih
  refine ⟨by omega,fun hc=>?_,fun hd he=>?_⟩
  ·by_cases hp : Ed pre p.1 = true
   ·have hn : By m (.str p.1) ≠ none:=fun hn=>(h p.1).1 hn (Hq.1 hp)
    have : (Ig m p).length = m.length:=hL.2 hn
    have:=i2 (.inr (by omega))
    omega
   ·have hp : Ed pre p.1 = false:=by simpa using hp
    rcases hc with hc | hc
    ·rw [hp] at hc
     have:=i2 (.inl (by simpa using hc))
     omega
    ·have hn : By m (.str p.1) = none:=(h p.1).2 fun hm=>by rw [Hq.2 hm] at hp;cases hp
     have : (Ig m p).length = m.length + 1:=hL.1 hn
     have:=i2 (.inr (by omega))
     omega
  ·simp only [Bool.and_eq_true,Bool.not_eq_true'] at hd
   have hn : By m (.str p.1) = none:=(h p.1).2 fun hm=>by rw [Hq.2 hm] at hd;exact absurd hd.1 (by simp)
   have : (Ig m p).length = m.length + 1:=hL.1 hn
   have:=i3 hd.2 (by omega)
   omega
theorem U6 (l : List (Str × V)) : (SY l).length ≤ l.length ∧ (decide ((SY l).length < l.length) = !AJ (l.map (·.1))):=by
 obtain ⟨h1,h2,h3⟩:=Xy l [] [] (fun p hp=>by cases hp) (fun s=>by simp [By]) (Nat.le_refl _)
 have h0 : ([] : List Str).length = 0:=rfl
 refine ⟨by unfold SY;omega,?_⟩
 unfold AJ
 cases hd : A3 [] (l.map (·.1)) with
 | true=>have:=h3 hd rfl;unfold SY;simp;omega
 | false=>have:=h2 (.inl hd);unfold SY;simp;omega
theorem WP (l : List (Str × V)) (s : Str) (v : V) (h : s ∉ l.map (·.1)) : CY (De l) (.str s) v = De (l ++ [(s,v)]):=by
 induction l with
 | nil=>rfl
 | cons a r ih =>
  simp only [List.map_cons,List.mem_cons,not_or] at h
  simp only [De,List.map_cons,CY,RQ,List.cons_append,beq_iff_eq,h.1,if_false] at ih ⊢
  rw [ih h.2]
theorem Jn : ∀ (l pre : List (Str × V)),A3 (pre.map (·.1)) (l.map (·.1)) = true → l.foldl Ig (De pre) = De (pre ++ l)
 | [],pre,_=>by simp
 | p :: r,pre,h=>by
  simp only [List.map_cons,A3,Bool.and_eq_true,Bool.not_eq_true'] at h
  have hn : p.1 ∉ pre.map (·.1):=fun hm=>by rw [Hq.2 hm] at h;exact absurd h.1 (by simp)
  have:=Jn r (pre ++ [p]) (by simpa using h.2)
  simp only [List.foldl_cons,Ig,WP pre p.1 p.2 hn] at this ⊢
  rw [this];simp
theorem MS (l : List (Str × V)) (h : AJ (l.map (·.1)) = true) : SY l = De l:=by
 have:=Jn l [] h
 simpa [SY,De] using this
def B4 : Nat → List Dt → List (Str × V)
 | _,[]=>[]
 | i,d :: r=>(d.name,.int .i64 i) :: B4 (i + 1) r
def C3 (i : Nat) : Nat → List Cd → List (Str × V)
 | _,[]=>[]
 | k,c :: r=>(c.name,.agg [.int .i64 i,.int .i64 k]) :: C3 i (k + 1) r
def C4 : Nat → List Dt → List (Str × V)
 | _,[]=>[]
 | i,d :: r=>C3 i 0 d.cons ++ C4 (i + 1) r
theorem Eu : ∀ (i : Nat) (ds : List Dt),(B4 i ds).map (·.1) = B9 ds
 | _,[]=>rfl
 | i,d :: r=>by simp [B4,B9];exact Eu (i + 1) r
theorem JH (i : Nat) : ∀ (k : Nat) (cs : List Cd),(C3 i k cs).map (·.1) = cs.map Cd.name
 | _,[]=>rfl
 | k,c :: r=>by simp [C3];exact JH i (k + 1) r
theorem Fz : ∀ (i : Nat) (ds : List Dt),(C4 i ds).map (·.1) = Bv ds
 | _,[]=>rfl
 | i,d :: r=>by simp only [C4,List.map_append,JH,Fz (i + 1) r];simp [Bv]
theorem Ir : ∀ (i : Nat) (a b : List Dt),B4 i (a ++ b) = B4 i a ++ B4 (i + a.length) b
 | _,[],_=>rfl
 | i,d :: r,b=>by simp only [List.cons_append,B4,List.length_cons,Ir (i + 1) r b];rw [Nat.add_assoc,Nat.add_comm 1]
theorem Is (i : Nat) : ∀ (k : Nat) (a b : List Cd),C3 i k (a ++ b) = C3 i k a ++ C3 i (k + a.length) b
 | _,[],_=>rfl
 | k,d :: r,b=>by simp only [List.cons_append,C3,List.length_cons,Is i (k + 1) r b];rw [Nat.add_assoc,Nat.add_comm 1]
theorem JG : ∀ (i : Nat) (a b : List Dt),C4 i (a ++ b) = C4 i a ++ C4 (i + a.length) b
 | _,[],_=>rfl
 | i,d :: r,b=>by simp only [List.cons_append,C4,List.length_cons,JG (i + 1) r b,List.append_assoc];rw [Nat.add_assoc,Nat.add_comm 1]
theorem II (s : Str) : ∀ (ds : List Dt) (i : Nat),By (De (B4 i ds)) (.str s) = if 0 ≤ AK s i ds then some (.int .i64 (AK s i ds)) else none
 | [],i=>by simp [B4,De,By,AK]
 | d :: r,i=>by
  simp only [B4,De,List.map_cons,By,RQ,beq_iff_eq]
  by_cases h : s = d.name
  ·have : AK s i (d :: r) = i:=by simp [AK,h]
   rw [this,if_pos h];simp
  ·have : AK s i (d :: r) = AK s (i + 1) r:=by simp only [AK];rw [if_neg (fun e=>h e.symm)]
   rw [if_neg h,this]
   exact II s r (i + 1)
def ET (s : Str) : Nat → List Dt → Option (Nat × Int)
 | _,[]=>none
 | i,d :: r=>if 0 ≤ (Db s 0 d.cons).2 then some (i,(Db s 0 d.cons).2) else ET s (i + 1) r
theorem N7 (s : Str) (i : Nat) (rest : List (Str × V)) : ∀ (cs : List Cd) (k : Nat),By (De (C3 i k cs ++ rest)) (.str s) = if 0 ≤ (Db s k cs).2 then some (.agg [.int .i64 i,.int .i64 (Db s k cs).2]) else By (De rest) (.str s)
 | [],k=>by simp [C3,Db]
 | c :: r,k=>by
  simp only [C3,De,List.cons_append,List.map_cons,By,RQ,beq_iff_eq]
  by_cases h : s = c.name
  ·have : (Db s k (c :: r)).2 = k:=by simp [Db,h]
   rw [this,if_pos h];simp
  ·have : Db s k (c :: r) = Db s (k + 1) r:=by simp only [Db];rw [if_neg (fun e=>h e.symm)]
   rw [if_neg h,this]
   exact N7 s i rest r (k + 1)
theorem Pj (s : Str) : ∀ (ds : List Dt) (i : Nat),By (De (C4 i ds)) (.str s) = (match ET s i ds with | some (a,b)=>some (.agg [.int .i64 a,.int .i64 b]) | none=>none)
 | [],i=>by simp [C4,De,By,ET]
 | d :: r,i=>by
  simp only [C4,ET,N7]
  split
  ·rfl
  ·exact Pj s r (i + 1)
theorem Sl {s : Str} : ∀ {l : List Cd} {i : Nat},0 ≤ (Db s i l).2 → ∃ k,(Db s i l).2 = ((i + k : Nat) : Int) ∧ l[k]? = some (Db s i l).1
 | [],i,h=>by simp [Db] at h
 | c :: r,i,h=>by
  simp only [Db] at h ⊢
  by_cases e : c.name = s
  ·rw [if_pos e];exact ⟨0,by simp,by simp⟩
  ·rw [if_neg e] at h ⊢
   obtain ⟨k,h1,h2⟩:=Sl (l:=r) h
   exact ⟨k + 1,by rw [h1];omega,by simpa using h2⟩
theorem Ns {s : Str} : ∀ {ds : List Dt} {i a : Nat} {b : Int},ET s i ds = some (a,b) → ∃ k d,a = i + k ∧ ds[k]? = some d ∧ (Db s 0 d.cons).2 = b ∧ 0 ≤ b
 | [],i,a,b,h=>by simp [ET] at h
 | d :: r,i,a,b,h=>by
  simp only [ET] at h
  split at h
  ·rename_i h0
   cases h
   exact ⟨0,d,rfl,rfl,rfl,h0⟩
  ·obtain ⟨k,e,h1,h2,h3⟩:=Ns h
   exact ⟨k + 1,e,by omega,by simpa using h2,h3⟩
theorem Nt {s : Str} : ∀ {ds : List Dt} {i : Nat},ET s i ds = none → ∀ d ∈ ds,¬ 0 ≤ (Db s 0 d.cons).2
 | [],i,_,d,hd=>by cases hd
 | e :: r,i,h,d,hd=>by
  simp only [ET] at h
  split at h
  ·cases h
  ·rename_i h0
   rcases List.mem_cons.1 hd with rfl | hd
   ·exact h0
   ·exact Nt h d hd
theorem Pk {ds : List Dt} {d : Dt} {c : Cd} (hd : d ∈ ds) (hc : c ∈ d.cons) : c.name ∈ Bv ds:=by
 simp only [Bv,List.mem_flatMap]
 exact ⟨d,hd,List.mem_map.2 ⟨c,hc,rfl⟩⟩
theorem N5 : ∀ {ds : List Dt} {i j : Nat} {d e : Dt} {c c' : Cd},(Bv ds).Nodup → ds[i]? = some d → ds[j]? = some e → c ∈ d.cons → c' ∈ e.cons → c.name = c'.name → i = j
 | [],i,j,d,e,c,c',_,h,_,_,_,_=>by simp at h
 | x :: r,i,j,d,e,c,c',hn,hi,hj,hc,hc',hs=>by
  have hn' : (x.cons.map Cd.name ++ Bv r).Nodup:=by simpa [Bv] using hn
  obtain ⟨n1,n2,n3⟩:=List.nodup_append.1 hn'
  cases i with
  | zero =>
   simp at hi;subst hi
   cases j with
   | zero=>rfl
   | succ j=>exact absurd hs (n3 _ (List.mem_map.2 ⟨c,hc,rfl⟩) _ (Pk (List.mem_of_getElem? (by simpa using hj)) hc'))
  | succ i =>
   cases j with
   | zero =>
    simp at hj;subst hj
    exact absurd hs.symm (n3 _ (List.mem_map.2 ⟨c',hc',rfl⟩) _ (Pk (List.mem_of_getElem? (by simpa using hi)) hc))
   | succ j=>exact congrArg (· + 1) (N5 n2 (by simpa using hi) (by simpa using hj) hc hc' hs)
theorem XL {ds : List Dt} (hn : AJ (Bv ds) = true) {n : Int} {x s : Str} {ps : List Ty} (hp : 0 ≤ AK x 0 ds) :
  (match ET s 0 ds with | some (a,b)=>(decide ((a : Int) = AK x 0 ds) = decide (0 ≤ (Cg ds (.mk 8 n x ps) s).2)) ∧ ((a : Int) = AK x 0 ds → ∃ d,ds[a]? = some d ∧ 0 ≤ b ∧ d.cons[b.toNat]? = some (Cg ds (.mk 8 n x ps) s).1) ∧ a < ds.length | none=>(Cg ds (.mk 8 n x ps) s).2 < 0):=by
 have hn:=L1.1 hn
 obtain ⟨k,d,h1,h2,h3⟩:=Gl x ds 0 hp
 have hcD : Cg ds (.mk 8 n x ps) s = Db s 0 d.cons:=by simp [Cg,h1,h2]
 rw [hcD]
 cases hf : ET s 0 ds with
 | none =>
  have:=Nt hf d (List.mem_of_getElem? h2)
  simp only;omega
 | some p =>
  obtain ⟨a,b⟩:=p
  obtain ⟨k',e,q1,q2,q3,q4⟩:=Ns hf
  simp only [Nat.zero_add] at q1
  subst q1
  have hget:=Sl (s:=s) (l:=e.cons) (i:=0) (by omega)
  obtain ⟨j,j1,j2⟩:=hget
  have hlt : a < ds.length:=(List.getElem?_eq_some_iff.1 q2).1
  refine ⟨?_,fun ha=>?_,hlt⟩
  ·rw [h1]
   by_cases hc : 0 ≤ (Db s 0 d.cons).2
   ·have m1:=JJ (s:=s) (l:=d.cons) (i:=0) hc
    have m2:=JJ (s:=s) (l:=e.cons) (i:=0) (by omega)
    have:=N5 hn q2 h2 m2.1 m1.1 (m2.2.trans m1.2.symm)
    subst this
    simp [hc]
   ·have : a ≠ k:=fun he=>by
     subst he
     rw [h2] at q2;cases q2
     exact hc (by omega)
    simp [hc];omega
  ·have hak : a = k:=by omega
   subst hak
   rw [h2] at q2;cases q2
   refine ⟨d,h2,q4,?_⟩
   rw [← q3,j1]
   simpa using j2
def W2 (c : Cse) (sz : List (List V)) : List V:=dCse c ++ [.mapv (De (B4 0 c.datas)),.mapv (De (C4 0 c.datas)),.sl sz]
def Ck (c : Cse) (sz : List (List V)) : V:=.ip 137 (W2 c sz) 0
mutual
def CM (q : Ty → Bool) : Ty → Bool
 | .mk s n x ps=>q (.mk s n x ps) && CI q ps
def CI (q : Ty → Bool) : List Ty → Bool
 | []=>true
 | t :: r=>CM q t && CI q r
end
theorem On (f : FuncId) (a b : List V) (q : Ty → Bool) (hq : ∀ t,PureC Tryz.prog f (a ++ [.agg (dTyc t)] ++ b) (.bool (q t))) : ∀ t : Ty,PureC Tryz.prog 90 [.agg (dTyc t),.clo (.func f) a b] (.bool (CM q t))
 | .mk s n x ps=>by
  refine A2 fun hv=>?_
  simp [Bt,Dd,dTyc,maxLen] at hv
  simp only [CM]
  have hq0:=hq (.mk s n x ps)
  generalize q (.mk s n x ps) = c at *
  refine Ae An Tryz.func90 (by decide +kernel) rfl [2,3,4,5] rfl rfl ?_
  refine bg [] rfl (by simp) ?_
  refine Qe rfl (fun _=>hq0) (by simp) ?_
  refine bg [] rfl (by simp) ?_
  cases c with
  | false =>
   refine Aa rfl (fun h=>?_) (fun h=>by simp at h)
   refine bd [] rfl (by simp) ?_
   exact Ab ⟨_,rfl,tV rfl,trivial⟩
  | true =>
  refine Aa rfl (fun h=>by simp at h) (fun h=>?_)
  clear h
  refine bd [] rfl (by simp) ?_
  rw [Bool.true_and]
  refine Ah (fun i : Nat=>[(14,.imm (.int .i64 i)),(13,.imm (.int .i64 ps.length)),(12,.imm (.sl (A9 ps))),(1,.imm (.clo (.func f) a b))]) (fun _=>[]) [2,3,4,5] (fun i=>ps.length - i)
   (fun i=>i ≤ ps.length ∧ CI q ps = CI q (ps.drop i)) 0 ⟨Nat.zero_le _,rfl⟩ ⟨rfl,As (by simp),rfl,rfl,trivial⟩ trivial rfl fun i hi ih=>?_
  obtain ⟨hi1,hi2⟩:=hi
  refine bd [] rfl (by simp) ?_
  refine Aa rfl (fun h=>?_) (fun h=>?_)
  ·simp at h
   obtain ⟨t,ht⟩:=Ai h
   rw [Al ht] at hi2
   simp only [CI] at hi2
   refine bd [] rfl (by simp) ?_
   refine bi rfl (c:=dTyc t) (fun _=>⟨by simp,by simpa using Ao ht,by simp⟩) (by simp) ?_
   refine bg [] rfl (by simp) ?_
   refine Ac rfl (fun _=>On f a b q hq t) (by simp) ?_
   refine bg [] rfl (by simp) ?_
   refine Aa rfl (fun h=>?_) (fun h=>?_)
   ·refine bd [] rfl (by simp) ?_
    refine Ab ⟨_,rfl,tV (congrArg _ ?_),trivial⟩
    simp at h
    simp [hi2,h]
   ·refine bd [] rfl (by simp) ?_
    simp at h
    exact Ad (ih (i + 1) (by omega) ⟨by omega,by rw [hi2];simp [h]⟩) ⟨As (Bw (by omega) (by omega)),rfl,rfl,rfl,trivial⟩ trivial rfl
  ·simp at h
   refine Av rfl ?_
   refine bd [] rfl (by simp) ?_
   rw [hi2,List.drop_eq_nil_of_le (by omega)]
   exact Ab ⟨_,rfl,tV rfl,trivial⟩
termination_by t=>SizeOf.sizeOf t
decreasing_by
 have:=List.sizeOf_lt_of_mem (List.mem_of_getElem? ht)
 simp_wf
 omega
theorem Mn (f : FuncId) (q : Ty → Bool) (hq : ∀ t,PureC Tryz.prog f [.agg (dTyc t)] (.bool (q t))) : ∀ t : Ty,PureC Tryz.prog 90 [.agg (dTyc t),.fn (.func f)] (.bool (CM q t))
 | .mk s n x ps=>by
  refine A2 fun hv=>?_
  simp [Bt,Dd,dTyc,maxLen] at hv
  simp only [CM]
  have hq0:=hq (.mk s n x ps)
  generalize q (.mk s n x ps) = c at *
  refine Ae An Tryz.func90 (by decide +kernel) rfl [2,3,4,5] rfl rfl ?_
  refine bg [] rfl (by simp) ?_
  refine Ac rfl (fun _=>hq0) (by simp) ?_
  refine bg [] rfl (by simp) ?_
  cases c with
  | false =>
   refine Aa rfl (fun h=>?_) (fun h=>by simp at h)
   refine bd [] rfl (by simp) ?_
   exact Ab ⟨_,rfl,tV rfl,trivial⟩
  | true =>
  refine Aa rfl (fun h=>by simp at h) (fun h=>?_)
  clear h
  refine bd [] rfl (by simp) ?_
  rw [Bool.true_and]
  refine Ah (fun i : Nat=>[(14,.imm (.int .i64 i)),(13,.imm (.int .i64 ps.length)),(12,.imm (.sl (A9 ps))),(1,.imm (.fn (.func f)))]) (fun _=>[]) [2,3,4,5] (fun i=>ps.length - i)
   (fun i=>i ≤ ps.length ∧ CI q ps = CI q (ps.drop i)) 0 ⟨Nat.zero_le _,rfl⟩ ⟨rfl,As (by simp),rfl,rfl,trivial⟩ trivial rfl fun i hi ih=>?_
  obtain ⟨hi1,hi2⟩:=hi
  refine bd [] rfl (by simp) ?_
  refine Aa rfl (fun h=>?_) (fun h=>?_)
  ·simp at h
   obtain ⟨t,ht⟩:=Ai h
   rw [Al ht] at hi2
   simp only [CI] at hi2
   refine bd [] rfl (by simp) ?_
   refine bi rfl (c:=dTyc t) (fun _=>⟨by simp,by simpa using Ao ht,by simp⟩) (by simp) ?_
   refine bg [] rfl (by simp) ?_
   refine Ac rfl (fun _=>Mn f q hq t) (by simp) ?_
   refine bg [] rfl (by simp) ?_
   refine Aa rfl (fun h=>?_) (fun h=>?_)
   ·refine bd [] rfl (by simp) ?_
    refine Ab ⟨_,rfl,tV (congrArg _ ?_),trivial⟩
    simp at h
    simp [hi2,h]
   ·refine bd [] rfl (by simp) ?_
    simp at h
    exact Ad (ih (i + 1) (by omega) ⟨by omega,by rw [hi2];simp [h]⟩) ⟨As (Bw (by omega) (by omega)),rfl,rfl,rfl,trivial⟩ trivial rfl
  ·simp at h
   refine Av rfl ?_
   refine bd [] rfl (by simp) ?_
   rw [hi2,List.drop_eq_nil_of_le (by omega)]
   exact Ab ⟨_,rfl,tV rfl,trivial⟩
termination_by t=>SizeOf.sizeOf t
decreasing_by
 have:=List.sizeOf_lt_of_mem (List.mem_of_getElem? ht)
 simp_wf
 omega
def Ob (ds : List Dt) (x : Str) : Int:=if 0 ≤ AK x 0 ds then AK x 0 ds else 0
theorem Ta (ds : List Dt) (x : Str) : CU true (De (B4 0 ds)) (.str x) (.int .i64 0) = .imm (.tup [.int .i64 (Ob ds x),.bool (decide (0 ≤ AK x 0 ds))]):=by
 simp only [CU,II,Ob]
 by_cases h : 0 ≤ AK x 0 ds <;> simp [h]
theorem Hi (ds : List Dt) (x : Str) : CU false (De (B4 0 ds)) (.str x) (.int .i64 0) = .imm (.int .i64 (Ob ds x)):=by
 simp only [CU,II,Ob]
 by_cases h : 0 ≤ AK x 0 ds <;> simp [h]
def Ub (ds : List Dt) (s : Str) : Nat × Int:=match ET s 0 ds with
 | some p=>p
 | none=>(0,0)
theorem VB (ds : List Dt) (s : Str) : CU true (De (C4 0 ds)) (.str s) (.agg [.int .i64 0,.int .i64 0]) = .imm (.tup [.agg [.int .i64 (Ub ds s).1,.int .i64 (Ub ds s).2],.bool (ET s 0 ds).isSome]):=by
 simp only [CU,Pj,Ub]
 cases h : ET s 0 ds with
 | none=>simp
 | some p=>obtain ⟨a,b⟩:=p;simp
def Kx (ds : List Dt) : Ty → Bool
 | .mk s _ x _=>decide (0 ≤ AK x 0 ds) || !(s == 8)
theorem V6 (c : Cse) (sz : List (List V)) (t : Ty) : PureC Tryz.prog 120 [.agg (dTyc t),.ip 95 [Ck c sz] 0] (.bool (Kx c.datas t)):=by
 obtain ⟨ds,⟨c1,c2,c3,c4⟩,rows⟩:=c
 obtain ⟨s,n,x,ps⟩:=t
 refine PL ?_
 refine Ae An Tryz.func120 (by decide +kernel) rfl [2,3,4,5] rfl rfl ?_
 refine bg [] rfl (by simp) ?_
 refine Hs An rfl rfl rfl (FE _) (by simp [Af]) (z:=.int .i64 0) rfl (fun _=>.int _ _) (Ta ds x) ?_
 refine bg [] rfl (by simp [Af];rfl) ?_
 refine Ab ⟨_,rfl,tV (congrArg _ ?_),trivial⟩
 simp [Kx,bne]
mutual
theorem IT (ds : List Dt) : ∀ t : Ty,CM (Kx ds) t = Bp ds t
 | .mk s n x ps=>by
  simp only [CM,Bp,Ii ds ps,Kx]
  congr 1
  by_cases h : 0 ≤ AK x 0 ds
  ·simp [h]
  ·simp [h]
theorem Ii (ds : List Dt) : ∀ l : List Ty,CI (Kx ds) l = AF ds l
 | []=>rfl
 | t :: r=>by simp only [CI,AF,IT ds t,Ii ds r]
end
theorem Oj (c : Cse) (sz : List (List V)) (t : Ty) : PureC Tryz.prog 89 [Ck c sz,.agg (dTyc t)] (.bool (Bp c.datas t)):=by
 rw [← IT]
 obtain ⟨s,n,x,ps⟩:=t
 refine Ae An Tryz.func89 (by decide +kernel) rfl [2,3,4,5] rfl rfl ?_
 refine bg [] rfl (by simp) ?_
 refine HN rfl (fun _=>On 120 [] [.ip 95 [Ck c sz] 0] (Kx c.datas) (fun t=>V6 c sz t) (.mk s n x ps)) rfl (by simp) ?_
 refine bg [] rfl (by simp) ?_
 exact Ab ⟨_,rfl,tV rfl,trivial⟩
theorem Q8 (t : Ty) : PureC Tryz.prog 91 [.agg (dTyc t)] (.bool (match t with | .mk s _ _ _=>!(s == 9))):=by
 obtain ⟨s,n,x,ps⟩:=t
 refine Ae An Tryz.func91 (by decide +kernel) rfl [2,3,4,5] rfl rfl ?_
 refine bg [] rfl (by simp) ?_
 refine Ab ⟨_,rfl,tV (congrArg _ ?_),trivial⟩
 simp [bne]
def Ce (ds : List Dt) (t : Ty) (s : Str) : List Ty × Bool:=bif decide (0 ≤ (Cg ds t s).2) then ((Cg ds t s).1.args,true) else ([],false)
set_option maxHeartbeats 1000000 in
theorem UU (c : Cse) (sz : List (List V)) (t : Ty) (s : Str) (hn : AJ (Bv c.datas) = true) (ht : Bp c.datas t = true) :
  PureC Tryz.prog 98 [Ck c sz,.agg (dTyc t),.str s] (.tup [.sl (A9 (Ce c.datas t s).1),.bool (Ce c.datas t s).2]):=by
 obtain ⟨ds,⟨c1,c2,c3,c4⟩,rows⟩:=c
 obtain ⟨so,n,x,ps⟩:=t
 simp only at hn ht
 refine Ae An Tryz.func98 (by decide +kernel) rfl [2,3,4,5] rfl rfl ?_
 refine bg [] rfl (by simp) ?_
 refine Hs An rfl rfl rfl (FE _) (by simp [Af]) (z:=.agg #[.int .i64 0,.int .i64 0]) rfl (fun _=>.agg _ _ rfl (by decide) (fun i c x h1 h2=>by match i,h1,h2 with | 0,h1,h2=>cases h1;cases h2;exact .int _ _ | 1,h1,h2=>cases h1;cases h2;exact .int _ _ | i + 2,h1,h2=>simp at h2)) (VB ds s) ?_
 refine bg [] rfl (by simp) ?_
 by_cases h8 : so = 8
 case neg =>
  refine Hs An rfl rfl rfl (FE _) (by simp [Af]) (z:=.int .i64 0) rfl (fun _=>.int _ _) (Hi ds x) ?_
  refine bg [] rfl (by simp [Af];rfl) ?_
  refine Aa rfl (fun h=>?_) (fun h=>by simp [h8] at h)
  refine bd [] rfl (by simp) ?_
  rw [show Ce ds (.mk so n x ps) s = ([],false) by simp [Ce,Cg,h8]]
  exact Ab ⟨_,rfl,tV rfl,trivial⟩
 subst h8
 have hp:=(HG ht 8 n x ps rfl rfl).1
 have hf:=XL hn (n:=n) (s:=s) (ps:=ps) hp
 refine Hs An rfl rfl rfl (FE _) (by simp [Af]) (z:=.int .i64 0) rfl (fun _=>.int _ _) (Hi ds x) ?_
 refine bg [] rfl (by simp [Af];rfl) ?_
 rw [show Ob ds x = AK x 0 ds by simp [Ob,hp]]
 unfold Ub
 cases hfs : ET s 0 ds with
 | none =>
  rw [hfs] at hf
  refine Aa rfl (fun h=>?_) (fun h=>by simp at h)
  refine bd [] rfl (by simp) ?_
  have hf : ¬ 0 ≤ (Cg ds (.mk 8 n x ps) s).2:=by have : (Cg ds (.mk 8 n x ps) s).2 < 0:=hf;omega
  rw [show Ce ds (.mk 8 n x ps) s = ([],false) by simp [Ce,hf]]
  exact Ab ⟨_,rfl,tV rfl,trivial⟩
 | some p =>
  obtain ⟨a,b⟩:=p
  rw [hfs] at hf
  obtain ⟨hf1,hf2,hf3⟩:=hf
  refine Aa rfl (fun h=>?_) (fun h=>?_)
  ·refine bd [] rfl (by simp) ?_
   have : ¬ 0 ≤ (Cg ds (.mk 8 n x ps) s).2:=by
    have : ¬ ((a : Int) = AK x 0 ds):=by simp at h;exact fun e=>h e.symm
    simpa [this] using hf1
   rw [show Ce ds (.mk 8 n x ps) s = ([],false) by simp [Ce,this]]
   exact Ab ⟨_,rfl,tV rfl,trivial⟩
  ·have ha : (a : Int) = AK x 0 ds:=by simp at h;exact h.symm
   obtain ⟨d,hd,hb,hc⟩:=hf2 ha
   have hc0 : 0 ≤ (Cg ds (.mk 8 n x ps) s).2:=by simpa [ha] using hf1
   rw [show Ce ds (.mk 8 n x ps) s = ((Cg ds (.mk 8 n x ps) s).1.args,true) by simp [Ce,hc0]]
   generalize (Cg ds (.mk 8 n x ps) s).1 = k at *
   refine bd [] rfl (by simp) ?_
   refine bi rfl (c:=BB d) (fun _=>⟨by simp,by simpa using AG hd,by simp⟩) (by simp) ?_
   obtain ⟨dn,dc⟩:=d
   refine bg [] rfl (by simp) ?_
   refine bi rfl (c:=CA k) (fun _=>⟨hb,by simpa using AG hc,by simp⟩) (by simp) ?_
   obtain ⟨kn,ka⟩:=k
   refine bg [] rfl (by simp;rfl) ?_
   exact Ab ⟨_,rfl,tV rfl,trivial⟩
theorem LE {ds : List Dt} (ho : OkD ds) {t : Ty} {s : Str} : AF ds (Ce ds t s).1 = true:=by
 unfold Ce
 by_cases h : 0 ≤ (Cg ds t s).2
 ·simpa [h] using IK ho h
 ·simp [h,AF]
def HC (ds : List Dt) : Ty → Ty → Bool
 | .mk so m x0 qs,.mk f _ x ps=>if f = 3 then so == 1 else if f = 4 then so == 2 else if f = 5 then so == 3 else if f = 6 then decide ((Ce ds (.mk so m x0 qs) x).1.length = ps.length) && ((Ce ds (.mk so m x0 qs) x).2 && BV ds (Ce ds (.mk so m x0 qs) x).1 ps) else true
theorem Kt (ds : List Dt) : ∀ t p : Ty,BR ds t p = HC ds t p
 | .mk so m x0 qs,.mk f k x ps=>by
  simp only [BR,HC,Ce]
  rw [LY ds so 0 m x0 x [] qs]
  by_cases h : 0 ≤ (Cg ds (.mk so m x0 qs) x).2
  ·simp [h]
  ·simp [h]
def V2 (ds : List Dt) : Ty → Ty → Bool
 | .mk so m x0 qs,.mk f _ x ps=>if so = 1 then f == 1 else if so = 2 then f == 2 else if so = 3 then f == 3 else if so = 8 then decide (f = 4) && (decide ((Ce ds (.mk so m x0 qs) x).1.length = ps.length) && ((Ce ds (.mk so m x0 qs) x).2 && GM ds (Ce ds (.mk so m x0 qs) x).1 ps)) else f == 5
theorem ST (ds : List Dt) : ∀ t p : Ty,Rb ds t p = V2 ds t p
 | .mk so m x0 qs,.mk f k x ps=>by
  simp only [Rb,V2,Ce]
  rw [LY ds so 0 m x0 x [] qs]
  by_cases h : 0 ≤ (Cg ds (.mk so m x0 qs) x).2
  ·simp [h]
  ·simp [h]
set_option maxHeartbeats 1000000 in
theorem UM (c : Cse) (sz : List (List V)) (ho : OkD c.datas) (hd : AJ (Bv c.datas) = true) : ∀ (p t : Ty),Bp c.datas t = true → PureC Tryz.prog 93 [Ck c sz,.agg (dTyc t),.agg (dTyc p)] (.bool (BR c.datas t p))
 | .mk f n x ps,t,hn=>by
  have hcon:=UU c sz t x hd hn
  have hnm:=LE ho (t:=t) (s:=x)
  have hS : BR c.datas t (.mk f n x ps) = HC c.datas t (.mk f n x ps):=Kt c.datas t (.mk f n x ps)
  rw [hS]
  obtain ⟨so,n0,x0,ps0⟩:=t
  simp only [HC]
  generalize Ce c.datas (.mk so n0 x0 ps0) x = r at *
  obtain ⟨ka,kb⟩:=r
  refine A2 fun hv=>?_
  simp [Bt,Dd,dTyc,maxLen] at hv
  refine Ae An Tryz.func93 (by decide +kernel) rfl [2,3,4,5,6,7] rfl rfl ?_
  refine bg [] rfl (by simp) ?_
  by_cases h3 : f = 3
  ·subst h3
   refine Aa rfl (fun h=>?_) (fun h=>by simp at h)
   refine bd [] rfl (by simp) ?_
   refine Ab ⟨_,rfl,tV (congrArg _ ?_),trivial⟩
   simp
  rw [if_neg h3]
  refine Aa rfl (fun h=>absurd (by simpa using h) h3) (fun h=>?_)
  clear h
  refine bd [] rfl (by simp) ?_
  by_cases h4 : f = 4
  ·subst h4
   refine Aa rfl (fun h=>?_) (fun h=>by simp at h)
   refine bd [] rfl (by simp) ?_
   refine Ab ⟨_,rfl,tV (congrArg _ ?_),trivial⟩
   simp
  rw [if_neg h4]
  refine Aa rfl (fun h=>absurd (by simpa using h) h4) (fun h=>?_)
  clear h
  refine bd [] rfl (by simp) ?_
  by_cases h5 : f = 5
  ·subst h5
   refine Aa rfl (fun h=>?_) (fun h=>by simp at h)
   refine bd [] rfl (by simp) ?_
   refine Ab ⟨_,rfl,tV (congrArg _ ?_),trivial⟩
   simp
  rw [if_neg h5]
  refine Aa rfl (fun h=>absurd (by simpa using h) h5) (fun h=>?_)
  clear h
  refine bd [] rfl (by simp) ?_
  by_cases h6 : f = 6
  case neg =>
   rw [if_neg h6]
   refine Aa rfl (fun h=>absurd (by simpa using h) h6) (fun h=>?_)
   refine bd [] rfl (by simp) ?_
   refine Ab ⟨_,rfl,tV (congrArg _ ?_),trivial⟩
   simp
  rw [if_pos h6]
  refine Aa rfl (fun h=>?_) (fun h=>by simp [h6] at h)
  clear h
  refine bd [] rfl (by simp) ?_
  refine Ac rfl (fun _=>hcon) (by simp) ?_
  refine bg [] rfl (by simp) ?_
  by_cases hg : ka.length = ps.length ∧ kb = true
  case neg =>
   refine Aa rfl (fun h=>?_) (fun h=>?_)
   ·refine bd [] rfl (by simp) ?_
    refine Ab ⟨_,rfl,tV (congrArg _ ?_),trivial⟩
    simp
    grind
   ·exfalso
    simp at h
    apply hg
    grind
  obtain ⟨hlen,rfl⟩:=hg
  refine Aa rfl (fun h=>by exfalso;simp [hlen] at h) (fun h=>?_)
  clear h
  refine bd [] rfl (by simp) ?_
  simp only [hlen,decide_true,Bool.true_and]
  refine Ah (fun i : Nat=>[(51,.imm (.int .i64 i)),(50,.imm (.int .i64 ps.length)),(49,.imm (.sl (A9 ps))),(0,.imm (Ck c sz)),(7,.imm (.sl (A9 ka)))]) (fun _=>[]) [4,5,6,7] (fun i=>ps.length - i)
   (fun i=>i ≤ ps.length ∧ BV c.datas ka ps = BV c.datas (ka.drop i) (ps.drop i)) 0 ⟨Nat.zero_le _,rfl⟩ ⟨rfl,As (by simp),rfl,rfl,rfl,trivial⟩ trivial rfl fun i hi ih=>?_
  obtain ⟨hi1,hi2⟩:=hi
  refine bd [] rfl (by simp) ?_
  refine Aa rfl (fun h=>?_) (fun h=>?_)
  ·simp at h
   obtain ⟨p,hp⟩:=Ai h
   obtain ⟨a,ha⟩:=Ai (l:=ka) (i:=i) (by omega)
   rw [Al hp,Al ha] at hi2
   simp only [BV] at hi2
   refine bd [] rfl (by simp) ?_
   refine bi rfl (c:=dTyc p) (fun _=>⟨by simp,by simpa using Ao hp,by simp⟩) (by simp) ?_
   refine bg [] rfl (by simp) ?_
   refine bi rfl (c:=dTyc a) (fun _=>⟨by simp,by simpa using Ao ha,by simp⟩) (by simp) ?_
   refine bg [] rfl (by simp) ?_
   refine Ac rfl (fun _=>UM c sz ho hd p a (DT hnm ha)) (by simp) ?_
   refine bg [] rfl (by simp;rfl) ?_
   refine Aa rfl (fun h=>?_) (fun h=>?_)
   ·refine bd [] rfl (by simp) ?_
    refine Ab ⟨_,rfl,tV (congrArg _ ?_),trivial⟩
    simp at h
    simp [hi2,h]
   ·refine bd [] rfl (by simp) ?_
    simp at h
    exact Ad (ih (i + 1) (by omega) ⟨by omega,by rw [hi2];simp [h]⟩) ⟨As (Bw (by omega) (by omega)),rfl,rfl,rfl,rfl,trivial⟩ trivial rfl
  ·simp at h
   refine Av rfl ?_
   refine bd [] rfl (by simp) ?_
   rw [hi2,List.drop_eq_nil_of_le (by omega),List.drop_eq_nil_of_le (by omega)]
   exact Ab ⟨_,rfl,tV rfl,trivial⟩
termination_by p=>SizeOf.sizeOf p
decreasing_by
 have:=List.sizeOf_lt_of_mem (List.mem_of_getElem? hp)
 simp_wf
 omega
set_option maxHeartbeats 1000000 in
theorem ZH (c : Cse) (sz : List (List V)) (ho : OkD c.datas) (hd : AJ (Bv c.datas) = true) : ∀ (p t : Ty),Bp c.datas t = true → PureC Tryz.prog 65 [Ck c sz,.agg (dTyc t),.agg (dTyc p)] (.bool (Rb c.datas t p))
 | .mk f n x ps,t,hn=>by
  have hcon:=UU c sz t x hd hn
  have hnm:=LE ho (t:=t) (s:=x)
  have hS : Rb c.datas t (.mk f n x ps) = V2 c.datas t (.mk f n x ps):=ST c.datas t (.mk f n x ps)
  rw [hS]
  obtain ⟨so,n0,x0,ps0⟩:=t
  simp only [V2]
  generalize Ce c.datas (.mk so n0 x0 ps0) x = r at *
  obtain ⟨ka,kb⟩:=r
  refine A2 fun hv=>?_
  simp [Bt,Dd,dTyc,maxLen] at hv
  refine Ae An Tryz.func65 (by decide +kernel) rfl [2,3,4,5,6,7] rfl rfl ?_
  refine bg [] rfl (by simp) ?_
  by_cases h1 : so = 1
  ·subst h1
   refine Aa rfl (fun h=>?_) (fun h=>by simp at h)
   refine bd [] rfl (by simp) ?_
   refine Ab ⟨_,rfl,tV (congrArg _ ?_),trivial⟩
   simp
  rw [if_neg h1]
  refine Aa rfl (fun h=>absurd (by simpa using h) h1) (fun h=>?_)
  clear h
  refine bd [] rfl (by simp) ?_
  by_cases h2 : so = 2
  ·subst h2
   refine Aa rfl (fun h=>?_) (fun h=>by simp at h)
   refine bd [] rfl (by simp) ?_
   refine Ab ⟨_,rfl,tV (congrArg _ ?_),trivial⟩
   simp
  rw [if_neg h2]
  refine Aa rfl (fun h=>absurd (by simpa using h) h2) (fun h=>?_)
  clear h
  refine bd [] rfl (by simp) ?_
  by_cases h3 : so = 3
  ·subst h3
   refine Aa rfl (fun h=>?_) (fun h=>by simp at h)
   refine bd [] rfl (by simp) ?_
   refine Ab ⟨_,rfl,tV (congrArg _ ?_),trivial⟩
   simp
  rw [if_neg h3]
  refine Aa rfl (fun h=>absurd (by simpa using h) h3) (fun h=>?_)
  clear h
  refine bd [] rfl (by simp) ?_
  by_cases h8 : so = 8
  case neg =>
   rw [if_neg h8]
   refine Aa rfl (fun h=>absurd (by simpa using h) h8) (fun h=>?_)
   refine bd [] rfl (by simp) ?_
   refine Ab ⟨_,rfl,tV (congrArg _ ?_),trivial⟩
   simp
  rw [if_pos h8]
  refine Aa rfl (fun h=>?_) (fun h=>by simp [h8] at h)
  clear h
  refine bd [] rfl (by simp) ?_
  refine Ac rfl (fun _=>hcon) (by simp) ?_
  refine bg [] rfl (by simp) ?_
  by_cases hg : f = 4 ∧ ka.length = ps.length ∧ kb = true
  case neg =>
   refine Aa rfl (fun h=>?_) (fun h=>?_)
   ·refine bd [] rfl (by simp) ?_
    refine Ab ⟨_,rfl,tV (congrArg _ ?_),trivial⟩
    simp
    grind
   ·exfalso
    simp at h
    apply hg
    grind
  obtain ⟨rfl,hlen,rfl⟩:=hg
  refine Aa rfl (fun h=>by exfalso;simp [hlen] at h) (fun h=>?_)
  clear h
  refine bd [] rfl (by simp) ?_
  simp only [hlen,decide_true,Bool.true_and]
  refine Ah (fun i : Nat=>[(56,.imm (.int .i64 i)),(55,.imm (.int .i64 ps.length)),(54,.imm (.sl (A9 ps))),(0,.imm (Ck c sz)),(7,.imm (.sl (A9 ka)))]) (fun _=>[]) [4,5,6,7] (fun i=>ps.length - i)
   (fun i=>i ≤ ps.length ∧ GM c.datas ka ps = GM c.datas (ka.drop i) (ps.drop i)) 0 ⟨Nat.zero_le _,rfl⟩ ⟨rfl,As (by simp),rfl,rfl,rfl,trivial⟩ trivial rfl fun i hi ih=>?_
  obtain ⟨hi1,hi2⟩:=hi
  refine bd [] rfl (by simp) ?_
  refine Aa rfl (fun h=>?_) (fun h=>?_)
  ·simp at h
   obtain ⟨p,hp⟩:=Ai h
   obtain ⟨a,ha⟩:=Ai (l:=ka) (i:=i) (by omega)
   rw [Al hp,Al ha] at hi2
   simp only [GM] at hi2
   refine bd [] rfl (by simp) ?_
   refine bi rfl (c:=dTyc p) (fun _=>⟨by simp,by simpa using Ao hp,by simp⟩) (by simp) ?_
   refine bg [] rfl (by simp) ?_
   refine bi rfl (c:=dTyc a) (fun _=>⟨by simp,by simpa using Ao ha,by simp⟩) (by simp) ?_
   refine bg [] rfl (by simp) ?_
   refine Ac rfl (fun _=>ZH c sz ho hd p a (DT hnm ha)) (by simp) ?_
   refine bg [] rfl (by simp;rfl) ?_
   refine Aa rfl (fun h=>?_) (fun h=>?_)
   ·refine bd [] rfl (by simp) ?_
    refine Ab ⟨_,rfl,tV (congrArg _ ?_),trivial⟩
    simp at h
    simp [hi2,h]
   ·refine bd [] rfl (by simp) ?_
    simp at h
    exact Ad (ih (i + 1) (by omega) ⟨by omega,by rw [hi2];simp [h]⟩) ⟨As (Bw (by omega) (by omega)),rfl,rfl,rfl,rfl,trivial⟩ trivial rfl
  ·simp at h
   refine Av rfl ?_
   refine bd [] rfl (by simp) ?_
   rw [hi2,List.drop_eq_nil_of_le (by omega),List.drop_eq_nil_of_le (by omega)]
   exact Ab ⟨_,rfl,tV rfl,trivial⟩
termination_by p=>SizeOf.sizeOf p
decreasing_by
 have:=List.sizeOf_lt_of_mem (List.mem_of_getElem? hp)
 simp_wf
 omega
theorem T0 (g : FuncId) (a b : List V) (q : List V → Bool) (es : List (List V)) (hes : ∀ e ∈ es,e.length = 4) (hlen : es.length ≤ 9223372036854775807)
  (hq : ∀ e ∈ es,PureC Tryz.prog g (a ++ [.agg e] ++ b) (.bool (q e))) :
  PureC Tryz.prog 149 [.sl es,.clo (.func g) a b] (.int .i64 (Da q es 0)):=by
 refine Ae An Tryz.func149 (by decide +kernel) rfl [2,3,4] rfl rfl ?_
 refine bg [] rfl (by simp) ?_
 refine Ah (fun i : Nat=>[(8,.imm (.int .i64 i)),(7,.imm (.int .i64 es.length)),(0,.imm (.sl es)),(1,.imm (.clo (.func g) a b))]) (fun _=>[]) [2,3,4] (fun i=>es.length - i)
  (fun i=>i ≤ es.length ∧ Da q es 0 = Da q (es.drop i) i) 0 ⟨Nat.zero_le _,rfl⟩ ⟨rfl,As (by simp),rfl,rfl,trivial⟩ trivial rfl fun i hi ih=>?_
 refine bd [] rfl (by simp) ?_
 have hi2:=hi.2
 refine Aa rfl (fun h=>?_) (fun h=>?_)
 ·simp at h
  obtain ⟨e,he⟩:=Ai h
  have hm:=List.mem_of_getElem? he
  rw [Al he] at hi2
  refine bd [] rfl (by simp) ?_
  refine bi rfl (c:=e) (fun _=>⟨by simp,by simpa using he,hes e hm⟩) (by simp) ?_
  refine bg [] rfl (by simp [hes e hm]) ?_
  refine Qe rfl (fun _=>hq e hm) (by simp) ?_
  refine bg [] rfl (by simp) ?_
  refine Aa rfl (fun h=>?_) (fun h=>?_)
  ·refine bd [] rfl (by simp) ?_
   exact Ab ⟨_,rfl,tV (congrArg _ (by rw [hi2];simp [Da,h])),trivial⟩
  ·refine bd [] rfl (by simp) ?_
   exact Ad (ih (i + 1) (by omega) ⟨by omega,by rw [hi2];simp [Da,h]⟩) ⟨As (Bw (by omega) (by omega)),rfl,rfl,rfl,trivial⟩ trivial rfl
 ·refine bd [] rfl (by simp) ?_
  simp at h
  refine Ab ⟨_,rfl,tV (congrArg _ ?_),trivial⟩
  rw [hi2,List.drop_eq_nil_of_le (by omega)];rfl
theorem Oc (g : FuncId) (a b : List V) (q : List V → Bool) (es : List (List V)) (hes : ∀ e ∈ es,e.length = 4) (hlen : es.length ≤ 9223372036854775807)
  (hq : ∀ e ∈ es,PureC Tryz.prog g (a ++ [.agg e] ++ b) (.bool (q e))) :
  PureC Tryz.prog 117 [.sl es,.clo (.func g) a b] (.bool (es.any q)):=by
 refine Ae An Tryz.func117 (by decide +kernel) rfl [2,3,4] rfl rfl ?_
 refine bg [] rfl (by simp) ?_
 refine Ac rfl (fun _=>T0 g a b q es hes hlen hq) (by simp) ?_
 refine bg [] rfl (by simp) ?_
 refine Ab ⟨_,rfl,tV (congrArg _ ?_),trivial⟩
 rw [Bool.eq_iff_iff,← FQ q es 0]
 simp
theorem Xc (c : Cse) (sz : List (List V)) (t : Ty) : PureC Tryz.prog 118 [.agg (dTyc t),.ip 95 [Ck c sz] 0] (.bool (!Bp c.datas t)):=by
 have hN:=Oj c sz t
 obtain ⟨s,n,x,ps⟩:=t
 generalize Bp c.datas (.mk s n x ps) = b at *
 refine PL ?_
 refine Ae An Tryz.func118 (by decide +kernel) rfl [2,3,4,5] rfl rfl ?_
 refine bg [] rfl (by simp) ?_
 refine Ac rfl (fun _=>hN) (by simp) ?_
 refine bg [] rfl (by simp) ?_
 exact Ab ⟨_,rfl,tV rfl,trivial⟩
theorem Q0 (c : Cse) (sz : List (List V)) (ts : List Ty) (h : ts.length ≤ 9223372036854775807) :
  PureC Tryz.prog 117 [.sl (A9 ts),.clo (.func 118) [] [.ip 95 [Ck c sz] 0]] (.bool (!AF c.datas ts)):=by
 have:=Oc 118 [] [.ip 95 [Ck c sz] 0] (qOf dTyc (fun t=>!Bp c.datas t)) (A9 ts) (fun e he=>by rw [BW] at he;obtain ⟨t,_,rfl⟩:=List.mem_map.1 he;simp) (by simpa using h)
  (fun e he=>by
   rw [BW] at he
   obtain ⟨t,ht,rfl⟩:=List.mem_map.1 he
   rw [GY Fb]
   exact Xc c sz t)
 rw [BW,List.any_map,show (qOf dTyc (fun t=>!Bp c.datas t) ∘ dTyc) = (fun t=>!Bp c.datas t) from funext fun v=>GY Fb _ v,← BW] at this
 rw [He,List.all_eq_not_any_not,Bool.not_not]
 exact this
def EG (ds : List Dt) : Bool:=GG ⟨[109],ds,[Fv]⟩ && (AJ (B9 ds) && AJ (Bv ds)) && Bm ds ds
def JZ (c : Cse) (a b : D) (sz : D) : List D:=(dCse c).map .imm ++ [a,b,sz]
def Mg (c : Cse) : Blk:=.cells 137 9 (JZ c (.imm (.mapv (De (B4 0 c.datas)))) (.imm (.mapv (De (C4 0 c.datas)))) .nils)
def outR (c : Cse) : Bool → Out
 | true=>.ret (.tup [.ref 6 0,.imm (.bool true)]) [(6,some (Mg c))]
 | false=>.ret (.imm (.tup [.nilp,.bool false])) []
theorem Gv {ds : List Dt} (h : GG ⟨[109],ds,[Fv]⟩ = true) : ds.length ≤ 4 ∧ ∀ d ∈ ds,d.cons.length ≤ 5 ∧ ∀ c ∈ d.cons,c.args.length ≤ 3:=by
 simp only [GG,Bool.and_eq_true,List.all_eq_true,decide_eq_true_eq] at h
 refine ⟨by omega,fun d hd=>?_⟩
 have hd:=h.1.2 d hd
 simp only [Ef,Bool.and_eq_true,List.all_eq_true,decide_eq_true_eq] at hd
 refine ⟨by omega,fun c hc=>?_⟩
 have hc:=hd.2 c hc
 simp only [JK,Bool.and_eq_true,decide_eq_true_eq] at hc
 omega
theorem Rm (l : List (Str × V)) (p : Str × V) : SY (l ++ [p]) = CY (SY l) (.str p.1) p.2:=by simp [SY,Ig]
theorem Si {ds : List Dt} {i : Nat} {d : Dt} (h : ds[i]? = some d) : B4 0 (ds.take (i + 1)) = B4 0 (ds.take i) ++ [(d.name,.int .i64 i)]:=by
 have hl : (ds.take i).length = i:=by rw [List.length_take];have:=(List.getElem?_eq_some_iff.1 h).1;omega
 rw [AI h,Ir,hl];simp [B4]
theorem TN {ds : List Dt} {i : Nat} {d : Dt} (h : ds[i]? = some d) : C4 0 (ds.take (i + 1)) = C4 0 (ds.take i) ++ C3 i 0 d.cons:=by
 have hl : (ds.take i).length = i:=by rw [List.length_take];have:=(List.getElem?_eq_some_iff.1 h).1;omega
 rw [AI h,JG,hl];simp [C4]
theorem Sk {cs : List Cd} {i k : Nat} {c : Cd} (h : cs[k]? = some c) : C3 i 0 (cs.take (k + 1)) = C3 i 0 (cs.take k) ++ [(c.name,.agg [.int .i64 i,.int .i64 k])]:=by
 have hl : (cs.take k).length = k:=by rw [List.length_take];have:=(List.getElem?_eq_some_iff.1 h).1;omega
 rw [AI h,Is,hl];simp [C3]
set_option maxHeartbeats 2000000 in
theorem YI (c : Cse) : AU Tryz.prog 87 [.imm (.agg (dCse c))] [] (outR c (EG c.datas)):=by
 obtain ⟨ds,⟨c1,c2,c3,c4⟩,rows⟩:=c
 simp only
 have hck:=NM ⟨[109],ds,[Fv]⟩
 generalize hmb : GG ⟨[109],ds,[Fv]⟩ = mb at hck
 refine Ae An Tryz.func87 (by decide +kernel) rfl [1,2,3,4,5,6,7,8,9,10,11,12] rfl rfl ?_
 refine bg [] rfl (by simp) ?_
 refine Ac rfl (fun _=>hck) (by simp) ?_
 refine bg [] rfl (by simp [Hw]) ?_
 cases mb with
 | false =>
  refine Aa rfl (fun h=>?_) (fun h=>by simp [Hw] at h)
  refine bd [] rfl (by simp) ?_
  rw [show EG ds = false by simp [EG,hmb]]
  exact Ab ⟨_,rfl,tV rfl,trivial⟩
 | true =>
 refine Aa rfl (fun h=>by simp [Hw] at h) (fun h=>?_)
 clear h
 obtain ⟨hl1,hl2⟩:=Gv hmb
 refine bd [] rfl (by simp) ?_
 refine LX rfl ?_
 refine bg [] rfl (by simp) ?_
 refine LX rfl ?_
 refine bg [] rfl (by simp) ?_
 refine Ah (fun i : Nat=>[(36,.imm (.int .i64 i)),(35,.imm (.int .i64 ds.length)),(34,.imm (.sl (ds.map BB))),(7,.imm (.int .i64 (Bv (ds.take i)).length)),(1,.ref 1 0),(6,.ref 7 0)])
  (fun i=>[(1,some (.immb 29 6 (dCse ⟨ds,.mk c1 c2 c3 c4,rows⟩))),(4,some (.map (SY (B4 0 (ds.take i))))),(5,some (.map (SY (C4 0 (ds.take i))))),(6,some (.cells 137 9 (JZ ⟨ds,.mk c1 c2 c3 c4,rows⟩ (.mapr 4) (.mapr 5) .nils))),(7,some (.cells 95 1 [.ref 6 0]))]) [8,9,10,11,12] (fun i=>ds.length - i)
  (fun i=>i ≤ ds.length) 0 (Nat.zero_le _) ⟨rfl,As (by simp),rfl,rfl,rfl,rfl,trivial⟩ ⟨rfl,rfl,rfl,rfl,rfl,trivial⟩ rfl fun i hi ih=>?_
 refine bd [] rfl (by simp) ?_
 refine Aa rfl (fun h=>?_) (fun h=>?_)
 ·simp at h
  obtain ⟨d,hd⟩:=Ai h
  have hdm:=hl2 d (List.mem_of_getElem? hd)
  have hcl:=Pl (ds:=ds.take i) fun x hx=>(hl2 x (List.mem_of_mem_take hx)).1
  rw [List.length_take] at hcl
  have ec:=N6 hd
  have ed:=Si hd
  have es:=TN hd
  refine bd [] rfl (by simp) ?_
  refine bi rfl (c:=BB d) (fun _=>⟨by simp,by simpa using AG hd,by simp⟩) (by simp) ?_
  obtain ⟨dn,dc⟩:=d
  simp only at hdm ec ed es
  refine bg [] rfl (by simp) ?_
  refine T4 An rfl rfl rfl (Rn _) ?_
  refine bg [] rfl (by simp [Af];rfl) ?_
  refine Ah (fun k : Nat=>[(51,.imm (.int .i64 k)),(50,.imm (.int .i64 dc.length)),(49,.imm (.sl (dc.map CA))),(8,.imm (.int .i64 i)),(36,.imm (.int .i64 i)),(35,.imm (.int .i64 ds.length)),(34,.imm (.sl (ds.map BB))),(7,.imm (.int .i64 ((Bv (ds.take i)).length + k : Nat))),(1,.ref 1 0),(6,.ref 7 0)])
   (fun k=>[(1,some (.immb 29 6 (dCse ⟨ds,.mk c1 c2 c3 c4,rows⟩))),(4,some (.map (SY (B4 0 (ds.take (i + 1)))))),(5,some (.map (SY (C4 0 (ds.take i) ++ C3 i 0 (dc.take k))))),(6,some (.cells 137 9 (JZ ⟨ds,.mk c1 c2 c3 c4,rows⟩ (.mapr 4) (.mapr 5) .nils))),(7,some (.cells 95 1 [.ref 6 0]))]) [8,9,10,11,12] (fun k=>dc.length - k)
   (fun k=>k ≤ dc.length) 0 (Nat.zero_le _) ⟨rfl,As (by simp),rfl,rfl,rfl,rfl,rfl,rfl,rfl,rfl,trivial⟩ ⟨rfl,by rw [ed,Rm];rfl,by rw [List.take_zero,show C3 i 0 [] = [] from rfl,List.append_nil];rfl,rfl,rfl,trivial⟩ rfl fun k hk jh=>?_
  refine bd [] rfl (by simp) ?_
  refine Aa rfl (fun h=>?_) (fun h=>?_)
  ·simp at h
   obtain ⟨k',hk'⟩:=Ai h
   have ek:=Sk (i:=i) hk'
   refine bd [] rfl (by simp) ?_
   refine bi rfl (c:=CA k') (fun _=>⟨by simp,by simpa using AG hk',by simp⟩) (by simp) ?_
   obtain ⟨kn,ka⟩:=k'
   simp only at ek
   refine bg [] rfl (by simp) ?_
   refine T4 An rfl rfl rfl (Rn _) ?_
   refine bg [] rfl (by simp [Af];rfl) ?_
   exact Ad (jh (k + 1) (by omega) (by omega)) ⟨As (Bw (by omega) (by omega)),rfl,rfl,rfl,rfl,rfl,rfl,As (by rw [Bw (by omega) (by omega)];omega),rfl,rfl,trivial⟩ ⟨rfl,rfl,by rw [ek,← List.append_assoc,Rm];rfl,rfl,rfl,trivial⟩ rfl
  ·simp at h
   have hke : dc.take k = dc:=List.take_of_length_le h
   have hkl : k = dc.length:=by omega
   refine Av rfl ?_
   refine bd [] rfl (by simp) ?_
   exact Ad (ih (i + 1) (by omega) (by omega)) ⟨As (Bw (by omega) (by omega)),rfl,rfl,As (by rw [ec];simp [hkl]),rfl,rfl,trivial⟩ ⟨rfl,rfl,by rw [es,hke];rfl,rfl,rfl,trivial⟩ rfl
 ·simp at h
  refine Av rfl ?_
  rw [List.take_of_length_le h]
  refine bd [] rfl (by simp [Af];rfl) ?_
  have m1:=(U6 (B4 0 ds)).2
  have m2:=(U6 (C4 0 ds)).2
  rw [Eu] at m1
  rw [Fz] at m2
  have l1 : (B4 0 ds).length = ds.length:=by have:=congrArg List.length (Eu 0 ds);simpa [B9] using this
  have l2 : (C4 0 ds).length = (Bv ds).length:=by have:=congrArg List.length (Fz 0 ds);simpa using this
  rw [l1] at m1
  rw [l2] at m2
  by_cases hdf : AJ (B9 ds) = true ∧ AJ (Bv ds) = true
  case neg =>
   refine Aa rfl (fun h=>?_) (fun h=>?_)
   ·refine bd [] rfl (by simp) ?_
    have : (AJ (B9 ds) && AJ (Bv ds)) = false:=by cases h1 : AJ (B9 ds) <;> cases h2 : AJ (Bv ds) <;> simp_all
    rw [show EG ds = false by simp only [EG,this];simp]
    exact Ab ⟨_,rfl,tV rfl,trivial⟩
   ·exfalso
    apply hdf
    simp at h m1 m2
    constructor
    ·cases h1 : AJ (B9 ds) with
     | true=>rfl
     | false=>rw [h1] at m1;simp at m1;omega
    ·cases h1 : AJ (Bv ds) with
     | true=>rfl
     | false=>rw [h1] at m2;simp at m2;omega
  obtain ⟨hdn,hdc⟩:=hdf
  rw [hdn] at m1
  rw [hdc] at m2
  refine Aa rfl (fun h'=>by exfalso;simp at h' m1 m2;omega) (fun h=>?_)
  clear h m1 m2
  rw [show EG ds = Bm ds ds by simp [EG,hmb,hdn,hdc],MS _ (by rw [Eu];exact hdn),MS _ (by rw [Fz];exact hdc)]
  refine bd [] rfl (by simp) ?_
  refine Ah (fun i : Nat=>[(90,.imm (.int .i64 i)),(89,.imm (.int .i64 ds.length)),(88,.imm (.sl (ds.map BB))),(6,.ref 7 0)])
   (fun _=>[(4,some (.map (De (B4 0 ds)))),(5,some (.map (De (C4 0 ds)))),(6,some (.cells 137 9 (JZ ⟨ds,.mk c1 c2 c3 c4,rows⟩ (.mapr 4) (.mapr 5) .nils))),(7,some (.cells 95 1 [.ref 6 0]))]) [8,9,10,11,12] (fun i=>ds.length - i)
   (fun i=>i ≤ ds.length ∧ Bm ds ds = Bm ds (ds.drop i)) 0 ⟨Nat.zero_le _,rfl⟩ ⟨rfl,As (by simp),rfl,rfl,trivial⟩ ⟨rfl,rfl,rfl,rfl,trivial⟩ rfl fun i hi ih=>?_
  obtain ⟨hi1,hi2⟩:=hi
  refine bd [] rfl (by simp) ?_
  refine Aa rfl (fun h=>?_) (fun h=>?_)
  ·simp at h
   obtain ⟨d,hd⟩:=Ai h
   have hdm:=hl2 d (List.mem_of_getElem? hd)
   rw [show Bm ds (ds.drop i) = (d.cons.all (fun c=>AF ds c.args) && Bm ds (ds.drop (i + 1))) from CG hd] at hi2
   refine bd [] rfl (by simp) ?_
   refine bi rfl (c:=BB d) (fun _=>⟨by simp,by simpa using AG hd,by simp⟩) (by simp) ?_
   obtain ⟨dn,dc⟩:=d
   simp only at hdm hi2
   refine bg [] rfl (by simp) ?_
   refine Ah (fun k : Nat=>[(97,.imm (.int .i64 k)),(96,.imm (.int .i64 dc.length)),(95,.imm (.sl (dc.map CA))),(90,.imm (.int .i64 i)),(89,.imm (.int .i64 ds.length)),(88,.imm (.sl (ds.map BB))),(6,.ref 7 0)])
    (fun _=>[(4,some (.map (De (B4 0 ds)))),(5,some (.map (De (C4 0 ds)))),(6,some (.cells 137 9 (JZ ⟨ds,.mk c1 c2 c3 c4,rows⟩ (.mapr 4) (.mapr 5) .nils))),(7,some (.cells 95 1 [.ref 6 0]))]) [8,9,10,11,12] (fun k=>dc.length - k)
    (fun k=>k ≤ dc.length ∧ dc.all (fun c=>AF ds c.args) = (dc.drop k).all (fun c=>AF ds c.args)) 0 ⟨Nat.zero_le _,rfl⟩ ⟨rfl,As (by simp),rfl,rfl,rfl,rfl,rfl,trivial⟩ ⟨rfl,rfl,rfl,rfl,trivial⟩ rfl fun k hk jh=>?_
   obtain ⟨hk1,hk2⟩:=hk
   refine bd [] rfl (by simp) ?_
   refine Aa rfl (fun h=>?_) (fun h=>?_)
   ·simp at h
    obtain ⟨k',hk'⟩:=Ai h
    have hkm:=hdm.2 k' (List.mem_of_getElem? hk')
    rw [CG hk'] at hk2
    refine bd [] rfl (by simp) ?_
    refine bi rfl (c:=CA k') (fun _=>⟨by simp,by simpa using AG hk',by simp⟩) (by simp) ?_
    obtain ⟨kn,ka⟩:=k'
    simp only at hkm hk2
    refine bg [] rfl (by simp) ?_
    refine HN rfl (v:=.bool (!AF ds ka)) (fun _=>Q0 ⟨ds,.mk c1 c2 c3 c4,rows⟩ [] ka (by omega)) rfl (by simp) ?_
    refine bg [] rfl (by simp) ?_
    refine Aa rfl (fun h=>?_) (fun h=>?_)
    ·have h : AF ds ka = true:=by simpa using h
     refine Av rfl ?_
     refine bd [] rfl (by simp) ?_
     exact Ad (jh (k + 1) (by omega) ⟨by omega,by rw [hk2];simp [h]⟩) ⟨As (Bw (by omega) (by omega)),rfl,rfl,rfl,rfl,rfl,rfl,trivial⟩ ⟨rfl,rfl,rfl,rfl,trivial⟩ rfl
    ·have h : AF ds ka = false:=by simpa using h
     refine bd [] rfl (by simp) ?_
     rw [hi2,hk2,h]
     exact Ab ⟨_,rfl,tV rfl,trivial⟩
   ·simp at h
    refine Av rfl ?_
    refine bd [] rfl (by simp) ?_
    rw [List.drop_eq_nil_of_le (by omega)] at hk2
    exact Ad (ih (i + 1) (by omega) ⟨by omega,by rw [hi2,hk2];simp⟩) ⟨As (Bw (by omega) (by omega)),rfl,rfl,rfl,trivial⟩ ⟨rfl,rfl,rfl,rfl,trivial⟩ rfl
  ·simp at h
   refine Av rfl ?_
   rw [hi2,List.drop_eq_nil_of_le (by omega)]
   refine L2 4 rfl ?_
   refine L2 5 rfl ?_
   refine bd [] rfl (by simp) ?_
   exact Ab ⟨_,rfl,rfl,⟨rfl,trivial⟩⟩
end Go.Hk
namespace Go.Hk
section
variable {P : Program} {n : Nat} {F : List Nat} {Q : DQ} {todo : List DI} {env : Env} {st : St} {ids' : List Nat}
end
end Go.Hk
namespace Go.Hk
structure PMs where
 e : TypeId
 z : V
 bytes : Nat
 m : Int
 m2 : Int
 id' : Nat
 ids' : List Nat
 dst : Option Nat
 todo : List DI
def bP (tt : TT) (n : Nat) (env : Env) (ids : List Nat) (todo : List DI) : Option PMs :=
 match PN todo,ids with
 | some o,id' :: ids'=>match o.guard,o.op with
  | none,.makeSlice t l c=>match lk tt t,EV env l,EV env c with
   | some { sh:=.sl e,.. },some (.imm (.int _ m)),some (.imm (.int _ m2))=>match lk tt e,Cj n o.dst,AW todo ([],[id']) with
    | some ⟨_,_,1,bytes,[.imm z]⟩,true,some (_,_,todo')=>some ⟨e,z,bytes,m,m2,id',ids',o.dst,todo'⟩
    | _,_,_=>none
   | _,_,_=>none
  | _,_=>none
 | _,_=>none
section
variable {P : Program} {n : Nat} {F : List Nat} {Q : DQ} {tt : TT} {env env' : Env} {st st' : St} {ids ids' : List Nat} {k todo todo' : List DI} {I : Imm} {μ : Mu} {w : World} {a : Act} {Pn : V → Prop} {d : D} {cx : Prop} {ob : List Prop}
theorem X2 (z : Array Value) (n : Nat) (c : Value) (h : z.toList = [c]) : madeCells z n = Array.replicate n c:=by
 obtain ⟨z⟩:=z
 simp at h;subst h
 apply Array.ext
 ·simp [madeCells]
 ·intro i h1 h2
  simp [madeCells,Nat.mod_one]
theorem VU (htt : TTok P tt) {c : PMs} (h : bP tt n env ids todo = some c) (hm : c.m2 = c.m) (h0 : 0 ≤ c.m) (h1 : (c.bytes : Int) * c.m ≤ 281474976710656) (h2 : c.m ≤ maxLen) (hz : V.one c.z = true)
  (hk : G P n F Q c.todo (B0 c.dst (.own c.id' (List.replicate c.m.toNat [c.z]).length) env) ((c.id',some (.row c.e 1 (List.replicate c.m.toNat [c.z]))) :: st) c.ids') : G P n F Q todo env st ids:=by
 unfold bP at h
 split at h
 ·rename_i o id' ids' ho
  split at h
  ·rename_i t l cc hg hop
   split at h
   ·rename_i e _ _ _ _ k1 m k2 m2 ht hl hc
    split at h
    ·rename_i sh ag bytes z all o' todo' hi hd hn1
     cases h
     have ho' : o' = o:=CR ho hn1
     subst ho'
     simp only at hm h0 h1 h2 hz hk
     have hm:=hm.symm
     subst hm
     refine BH (fr:=[id']) (wr:=[(id',some (.row e 1 (List.replicate m.toNat [z])))]) (rd:=[]) hn1 ?_ hd (fun c hc=>by rw [hop] at hc;cases hc) hk
     intro I μ st1 ids1 a w hag hst hon
     refine ⟨fun _=>?_,fun hw=>by rw [wanted_none hg] at hw;cases hw⟩
     have hops:=Bj hon
     rw [hop] at hops
     have rl:=hops l (by simp [Op.operands]) _ hl
     have rc:=hops cc (by simp [Op.operands]) _ hc
     obtain ⟨inf,zv,i1,i2,i3,i4,i5,i6⟩:=(htt e _ hi).info
     have hz1:=i5 I μ
     have hzl : ∃ c0,zv.cells.toList = [c0] ∧ RepV I c0 z:=by
      have hl:=hz1.1
      match hcs : zv.cells.toList,hl with
      | [c0],_=>exact ⟨c0,rfl,(hz1.2 0 c0 _ (by rw [hcs];rfl) rfl).immInv⟩
     obtain ⟨c0,hc0,hr0⟩:=hzl
     have hsz : inf.size = 1:=i2
     have hby : inf.bytes = bytes:=i3
     have hrun : (execOp a.eval o').run P w = .ok (.value (.slice (some ⟨w.heap.size,0,none⟩) m.toNat m.toNat)) (w.alloc (.cells (Array.replicate m.toNat c0) e)):=by
      have hs:=(htt t _ ht).sh
      have hx:=run_make (P:=P) w t e inf zv hs i1 i4 k1 k2 m m h0 (Int.le_refl _) (by rw [hby];exact h1) (by simpa [maxLen] using h2)
      rw [X2 _ _ c0 hc0,hsz,Nat.mul_one] at hx
      simp only [execOp,hop]
      generalize a.eval l = vl at rl
      generalize a.eval cc = vc at rc
      cases rl with
      | imm _ _ rl =>
      cases rc with
      | imm _ _ rc =>
      cases rl
      cases rc
      simp only [Sem.run_bind,hx,Result.andThen_ok,Sem.run_pure]
     rw [hrun]
     have hlen : (List.replicate m.toNat [z]).length = m.toNat:=by simp
     have hone0 : c0.oneCell' = true:=i6 c0 (by rw [hc0];simp)
     obtain ⟨μ',q1,q2,q3,q4⟩:=hst.allocO (.cells (Array.replicate m.toNat c0) e) (.slice (some ⟨w.heap.size,0,none⟩) m.toNat m.toNat) (fun _ h=>Eq.symm h) (.row e 1 (List.replicate m.toNat [z])) (fun μ' _ =>
      ⟨(List.replicate m.toNat c0),⟨by simp [hlen],.inr ⟨w.heap.size,m.toNat,Array.replicate m.toNat c0,by rw [hlen],Nat.zero_le _,Ep w _,by rw [hlen];exact Nat.le_refl _,by simp [maxLen] at h2 ⊢;omega,by simp,by rw [hlen];simp⟩⟩,⟨by simp,fun i v x hv hx=>by
       have e1 : (List.replicate m.toNat [z]).flatten = List.replicate m.toNat z:=by
        generalize m.toNat = q
        induction q with
        | zero=>rfl
        | succ q ih=>simp only [List.replicate_succ,List.flatten_cons,ih];rfl
       rw [e1] at hx
       rw [List.getElem?_replicate] at hv hx
       split at hv
       ·rename_i hq
        rw [if_pos hq] at hx
        cases hv;cases hx;exact hr0
       ·cases hv⟩,fun c hc=>by rw [List.eq_of_mem_replicate hc];rfl,fun c hc y hy=>by
       rw [List.eq_of_mem_replicate hc] at hy
       simp at hy;subst hy;exact hz,Nat.one_pos⟩)
     rw [hlen] at *
     exact ⟨I,μ',q3,.own _ _ _ _ q1,q2,q4⟩
    ·cases h
   ·cases h
  ·cases h
 ·cases h
end
end Go.Hk
namespace Go.Hk
open Go.Proofs
def NR (ds : List Dt) (s : List Int) : Ty → Int
 | .mk so _ x _=>if so = 8 then s.getD (Ob ds x).toNat 0 else 1
def Ct (ds : List Dt) (s : List Int) : Int → List Ty → Int
 | n,[]=>n
 | n,t :: r=>if NR ds s t = 0 then 0 else Ct ds s (n + NR ds s t) r
def FI (s : List Int) : List (List V):=s.map fun n=>[.int .i64 n]
@[simp] theorem rowI_length (s : List Int) : (FI s).length = s.length:=by simp [FI]
theorem Jb {s : List Int} {i : Nat} (h : i < s.length) : (FI s)[i]? = some [.int .i64 (s.getD i 0)]:=by simp [FI,h,List.getD]
def Mr (ds : List Dt) (i : Nat) (p : List Int × Bool) (args : List Ty) : List Int × Bool :=
 if 0 < Ct ds p.1 1 args ∧ (p.1.getD i 0 = 0 ∨ Ct ds p.1 1 args < p.1.getD i 0) then (p.1.set i (Ct ds p.1 1 args),true) else p
def Wl (ds : List Dt) (i : Nat) : List Int × Bool → List Cd → List Int × Bool
 | p,[]=>p
 | p,c :: r=>Wl ds i (Mr ds i p c.args) r
def GU (ds : List Dt) : List Int × Bool → Nat → List Dt → List Int × Bool
 | p,_,[]=>p
 | p,i,d :: r=>GU ds (Wl ds i p d.cons) (i + 1) r
def UD (ds : List Dt) : Nat → List Int → List Int
 | 0,s=>s
 | f + 1,s=>bif (GU ds (s,false) 0 ds).2 then UD ds f (GU ds (s,false) 0 ds).1 else (GU ds (s,false) 0 ds).1
def ZT (ds : List Dt) : List Int:=UD ds 2000 (List.replicate ds.length 0)
def OA : List Int → Nat
 | []=>0
 | x :: r=>(if x = 0 then 0 else 1) + OA r
def OK : List Int → Nat
 | []=>0
 | x :: r=>(if x = 0 then 257 else x.toNat) + OK r
theorem PO : ∀ s : List Int,OA s ≤ s.length
 | []=>Nat.le_refl _
 | x :: r=>by have:=PO r;simp only [OA,List.length_cons];split <;> omega
theorem Uy : ∀ (s : List Int) (i : Nat) (n : Int),i < s.length → n ≠ 0 → OA (s.set i n) = OA s + (if s.getD i 0 = 0 then 1 else 0)
 | [],i,n,h,_=>by simp at h
 | x :: r,0,n,_,hn=>by simp only [List.set_cons_zero,OA,hn,if_false,List.getD_cons_zero];split <;> omega
 | x :: r,i + 1,n,h,hn=>by
  have:=Uy r i n (by simpa using h) hn
  simp only [List.set_cons_succ,OA,List.getD_cons_succ,this];omega
theorem U4 : ∀ (s : List Int) (i : Nat) (n : Int),i < s.length → 0 < n → n ≤ 256 → (s.getD i 0 = 0 ∨ n < s.getD i 0) → OK (s.set i n) < OK s
 | [],i,n,h,_,_,_=>by simp at h
 | x :: r,0,n,_,hn,hb,hc=>by
  simp only [List.set_cons_zero,OK,List.getD_cons_zero] at hc ⊢
  rw [if_neg (by omega)]
  split <;> omega
 | x :: r,i + 1,n,h,hn,hb,hc=>by
  have:=U4 r i n (by simpa using h) hn hb (by simpa using hc)
  simp only [List.set_cons_succ,OK];omega
theorem Xw : ∀ s : List Int,(∀ x ∈ s,x ≤ 256) → OK s ≤ 257 * s.length
 | [],_=>Nat.le_refl _
 | x :: r,h=>by
  have h1:=h x (by simp)
  have h2:=Xw r fun y hy=>h y (by simp [hy])
  simp only [OK,List.length_cons]
  split <;> omega
structure Q2 (ds : List Dt) (s : List Int) : Prop where
 len : s.length = ds.length
 le : ∀ x ∈ s,0 ≤ x ∧ x ≤ ((4 ^ OA s : Nat) : Int)
theorem RB {s : List Int} {i : Nat} : s.getD i 0 ∈ s ∨ s.getD i 0 = 0:=by
 by_cases h : i < s.length
 ·left;simp [List.getD,List.getElem?_eq_getElem h]
 ·right;simp [List.getD,List.getElem?_eq_none (Nat.le_of_not_lt h)]
theorem bO {n : Nat} (h : n ≤ 4) : 4 ^ n ≤ 256:=by
 have : n = 0 ∨ n = 1 ∨ n = 2 ∨ n = 3 ∨ n = 4:=by omega
 rcases this with rfl | rfl | rfl | rfl | rfl <;> decide
theorem MJ {ds : List Dt} {s : List Int} (h : Q2 ds s) (t : Ty) : 0 ≤ NR ds s t ∧ NR ds s t ≤ ((4 ^ OA s : Nat) : Int):=by
 obtain ⟨so,n,x,ps⟩:=t
 have h1 : 1 ≤ 4 ^ OA s:=Nat.one_le_pow _ _ (by decide)
 simp only [NR]
 split
 ·rcases RB (s:=s) (i:=(Ob ds x).toNat) with hm | hm
  ·exact h.le _ hm
  ·rw [hm];omega
 ·omega
theorem Gf {ds : List Dt} {s : List Int} (h : Q2 ds s) : ∀ (l : List Ty) (n : Int),0 ≤ n → 0 ≤ Ct ds s n l ∧ Ct ds s n l ≤ n + (l.length : Int) * ((4 ^ OA s : Nat) : Int)
 | [],n,hn=>by simp [Ct,hn]
 | t :: r,n,hn=>by
  have hb:=MJ h t
  have ih:=Gf h r (n + NR ds s t) (by omega)
  simp only [Ct,List.length_cons]
  generalize ((4 ^ OA s : Nat) : Int) = M at *
  have : ((r.length + 1 : Nat) : Int) * M = (r.length : Int) * M + M:=by rw [Int.natCast_add,Int.add_mul];omega
  rw [this]
  have hm : 0 ≤ (r.length : Int) * M:=Int.mul_nonneg (by omega) (by omega)
  split <;> omega
theorem WK {ds : List Dt} (h4 : ds.length ≤ 4) {i : Nat} (hi : i < ds.length) {p : List Int × Bool} {args : List Ty} (ha : args.length ≤ 3) (h : Q2 ds p.1) :
  Q2 ds (Mr ds i p args).1 ∧ OK (Mr ds i p args).1 ≤ OK p.1 ∧ ((Mr ds i p args).2 = true → p.2 = true ∨ OK (Mr ds i p args).1 < OK p.1):=by
 have hs:=Gf h args 1 (by omega)
 simp only [Mr]
 generalize Ct ds p.1 1 args = n at *
 split
 ·rename_i hc
  have hlt : i < p.1.length:=by rw [h.len];exact hi
  have hset:=Uy p.1 i n hlt (by omega)
  have hnz:=PO p.1
  have hz1 : 4 ^ OA p.1 ≥ 1:=Nat.one_le_pow _ _ (by decide)
  have key : ∀ M : Nat,1 ≤ M → n ≤ 1 + (args.length : Int) * (M : Int) → n ≤ ((M * 4 : Nat) : Int):=fun M h1 h2=>by
   have : (args.length : Int) * (M : Int) ≤ 3 * (M : Int):=Int.mul_le_mul_of_nonneg_right (by omega) (by omega)
   omega
  have hn4 : n ≤ ((4 ^ OA (p.1.set i n) : Nat) : Int):=by
   rw [hset]
   by_cases h0 : p.1.getD i 0 = 0
   ·rw [if_pos h0,Nat.pow_succ]
    exact key _ hz1 hs.2
   ·rw [if_neg h0,Nat.add_zero]
    rcases RB (s:=p.1) (i:=i) with hm | hm
    ·have:=(h.le _ hm).2;omega
    ·exact absurd hm h0
  have hle : OA (p.1.set i n) ≤ 4:=by have:=PO (p.1.set i n);rw [List.length_set,h.len] at this;omega
  have h256:=bO hle
  have hmu:=U4 p.1 i n hlt hc.1 (by omega) hc.2
  refine ⟨⟨by simp [h.len],fun x hx=>?_⟩,Nat.le_of_lt hmu,fun _=>.inr hmu⟩
  have hmono : 4 ^ OA p.1 ≤ 4 ^ OA (p.1.set i n):=Nat.pow_le_pow_right (by decide) (by rw [hset];omega)
  show 0 ≤ x ∧ x ≤ ((4 ^ OA (p.1.set i n) : Nat) : Int)
  rcases List.mem_or_eq_of_mem_set hx with hx | rfl
  ·have:=h.le x hx;omega
  ·omega
 ·exact ⟨h,Nat.le_refl _,fun h=>.inl h⟩
theorem YC (c : Cse) (s : List Int) (hs : Q2 c.datas s) (h4 : c.datas.length ≤ 4) (args : List Ty) (hn : AF c.datas args = true) (ha : args.length ≤ 3) :
  PureC Tryz.prog 125 [Ck c (FI s),.sl (A9 args)] (.int .i64 (Ct c.datas s 1 args)):=by
 obtain ⟨ds,⟨c1,c2,c3,c4⟩,rows⟩:=c
 simp only at hs h4 hn ⊢
 have hpw : ((4 ^ OA s : Nat) : Int) ≤ 256:=by have:=bO (n:=OA s) (by have:=PO s;rw [hs.len] at this;omega);omega
 refine Ae An Tryz.func125 (by decide +kernel) rfl [2,3,4,5,6] rfl rfl ?_
 refine bg [] rfl (by simp) ?_
 refine Ah (fun y : Nat × Int=>[(11,.imm (.int .i64 y.1)),(10,.imm (.int .i64 args.length)),(9,.imm (.sl (A9 args))),(5,.imm (.int .i64 y.2)),(0,.imm (Ck ⟨ds,.mk c1 c2 c3 c4,rows⟩ (FI s)))]) (fun _=>[]) [2,3,4,5,6] (fun y=>args.length - y.1)
  (fun y=>y.1 ≤ args.length ∧ Ct ds s 1 args = Ct ds s y.2 (args.drop y.1) ∧ 0 ≤ y.2 ∧ y.2 ≤ 1 + 256 * y.1) (0,1) ⟨Nat.zero_le _,rfl,by simp only;omega,by simp only;omega⟩ ⟨rfl,As (by simp),rfl,rfl,rfl,trivial⟩ trivial rfl fun y hi ih=>?_
 obtain ⟨i,m⟩:=y
 obtain ⟨hi1,hi2,hi3,hi4⟩:=hi
 simp only at hi1 hi2 hi3 hi4
 refine bd [] rfl (by simp) ?_
 refine Aa rfl (fun h=>?_) (fun h=>?_)
 ·simp at h
  obtain ⟨t,ht⟩:=Ai h
  have hnt:=DT hn ht
  have hb:=MJ hs t
  rw [Al ht] at hi2
  simp only [Ct] at hi2
  refine bd [] rfl (by simp) ?_
  refine bi rfl (c:=dTyc t) (fun _=>⟨by simp,by simpa using Ao ht,by simp⟩) (by simp) ?_
  obtain ⟨so,n,x,ps⟩:=t
  refine bg [] rfl (by simp) ?_
  by_cases h8 : so = 8
  ·subst h8
   have hp:=(HG hnt 8 n x ps rfl rfl).1
   have hd : Ob ds x = AK x 0 ds:=by simp [Ob,hp]
   obtain ⟨k,d,k1,k2,k3⟩:=Gl x ds 0 hp
   have hk : k < s.length:=by rw [hs.len];exact (List.getElem?_eq_some_iff.1 k2).1
   have ho : NR ds s (.mk 8 n x ps) = s.getD k 0:=by simp [NR,hd,k1]
   rw [ho] at hi2 hb
   refine Aa rfl (fun h=>?_) (fun h=>by simp at h)
   refine bd [] rfl (by simp) ?_
   refine Hs An rfl rfl rfl (FE _) (by simp [Af]) (z:=.int .i64 0) rfl (fun _=>.int _ _) (Hi ds x) ?_
   refine bg [] rfl (by simp) ?_
   refine bi rfl (c:=[.int .i64 (s.getD k 0)]) (fun _=>⟨by rw [hd];exact hp,by rw [hd,k1];simpa using Jb hk,rfl⟩) (by simp) ?_
   refine bg [] rfl (by simp;rfl) ?_
   refine Aa rfl (fun h=>?_) (fun h=>?_)
   ·refine bd [] rfl (by simp) ?_
    rw [if_pos (by simpa using h)] at hi2
    rw [hi2]
    exact Ab ⟨_,rfl,tV rfl,trivial⟩
   ·refine bd [] rfl (by simp) ?_
    rw [if_neg (by simpa using h)] at hi2
    exact Ad (ih (i + 1,m + s.getD k 0) (by simp only;omega) ⟨by simp only;omega,hi2,by simp only;omega,by simp only;omega⟩) ⟨As (Bw (by simp only;omega) (by simp only;omega)),rfl,rfl,As (Bw (by omega) (by omega)),rfl,trivial⟩ trivial rfl
  ·have ho : NR ds s (.mk so n x ps) = 1:=by simp [NR,h8]
   rw [ho] at hi2
   refine Aa rfl (fun h=>absurd (by simpa using h) h8) (fun h=>?_)
   refine bd [] rfl (by simp) ?_
   refine Aa rfl (fun h=>by simp at h) (fun h=>?_)
   refine bd [] rfl (by simp) ?_
   rw [if_neg (by omega)] at hi2
   exact Ad (ih (i + 1,m + 1) (by simp only;omega) ⟨by simp only;omega,hi2,by simp only;omega,by simp only;omega⟩) ⟨As (Bw (by simp only;omega) (by simp only;omega)),rfl,rfl,As (Bw (by omega) (by omega)),rfl,trivial⟩ trivial rfl
 ·simp at h
  refine Av rfl ?_
  refine bd [] rfl (by simp) ?_
  rw [hi2,List.drop_eq_nil_of_le (by omega)]
  exact Ab ⟨_,rfl,tV rfl,trivial⟩
theorem WT (s : List Int) (i : Nat) (n : Int) : (FI s).set i [.int .i64 n] = FI (s.set i n):=by simp [FI,List.map_set]
theorem Vs (n : Nat) : List.replicate n [V.int .i64 0] = FI (List.replicate n 0):=by simp [FI]
theorem Vh (ds : List Dt) : Q2 ds (List.replicate ds.length 0):=⟨by simp,fun x hx=>by rw [List.eq_of_mem_replicate hx];exact ⟨Int.le_refl _,Int.natCast_nonneg _⟩⟩
def P2 (c : Cse) (sz : D) : Blk:=.cells 137 9 (JZ c (.imm (.mapv (De (B4 0 c.datas)))) (.imm (.mapv (De (C4 0 c.datas)))) sz)
set_option maxHeartbeats 2000000 in
theorem W3 (c : Cse) (h4 : c.datas.length ≤ 4) (hl2 : ∀ d ∈ c.datas,d.cons.length ≤ 5 ∧ ∀ c ∈ d.cons,c.args.length ≤ 3) (hN : Bm c.datas c.datas = true) :
  AU Tryz.prog 95 [.ref 1 0] [(1,some (Mg c))] (.ret FC [(1,some (P2 c (.own 2 c.datas.length))),(2,some (.row 3 1 (FI (ZT c.datas))))]):=by
 obtain ⟨ds,⟨c1,c2,c3,c4⟩,rows⟩:=c
 simp only at h4 hl2 hN ⊢
 have hl3 : ∀ d ∈ ds,∀ c ∈ d.cons,c.args.length ≤ 3:=fun d hd=>(hl2 d hd).2
 have hnm : ∀ d ∈ ds,∀ c ∈ d.cons,AF ds c.args = true:=by simpa [Bm] using hN
 generalize hC : (⟨ds,.mk c1 c2 c3 c4,rows⟩ : Cse) = C at *
 have hCd : C.datas = ds:=by rw [← hC]
 unfold Mg
 rw [hCd]
 subst hC
 refine Ae An Tryz.func95 (by decide +kernel) rfl [2,3,4,5,6] rfl rfl ?_
 refine bg [] rfl (by simp) ?_
 refine VU An rfl rfl (by simp) (by simp;omega) (by simp [maxLen];omega) rfl ?_
 have er : (List.replicate ((ds.map BB).length : Int).toNat [V.int .i64 0]) = FI (List.replicate ds.length 0):=by rw [← Vs];simp
 simp only [B0]
 rw [er,rowI_length,List.length_replicate]
 refine bg [] rfl (by simp) ?_
 refine Ah (fun y : Nat × List Int × Bool=>[(2,.imm (.bool y.2.2)),(0,.ref 1 0)])
  (fun y=>[(1,some (P2 ⟨ds,.mk c1 c2 c3 c4,rows⟩ (.own 2 ds.length))),(2,some (.row 3 1 (FI y.2.1)))]) [3,4,5,6] (fun y=>if y.2.2 then y.1 + 1 else 0)
  (fun y=>Q2 ds y.2.1 ∧ if y.2.2 then ZT ds = UD ds y.1 y.2.1 ∧ OK y.2.1 < y.1 else ZT ds = y.2.1) (2000,List.replicate ds.length 0,true)
  ⟨Vh ds,by simp only [if_true];exact ⟨rfl,by have:=Xw (List.replicate ds.length 0) (fun x hx=>by rw [List.eq_of_mem_replicate hx];omega);simp at this;omega⟩⟩ ⟨rfl,rfl,trivial⟩ ⟨rfl,rfl,trivial⟩ rfl fun y hi ih=>?_
 obtain ⟨f,s,ch⟩:=y
 obtain ⟨hs,hi⟩:=hi
 simp only at hs hi
 refine bd [] rfl (by simp) ?_
 cases ch with
 | false =>
  simp only [Bool.false_eq_true,if_false] at hi
  refine Aa rfl (fun h=>by simp at h) (fun h=>?_)
  refine Av rfl ?_
  refine bd [] rfl (by simp) ?_
  rw [hi]
  exact B3 ⟨_,rfl,tV rfl,⟨rfl,rfl,trivial⟩⟩
 | true =>
 simp only [if_true] at hi
 refine Aa rfl (fun h=>?_) (fun h=>by simp at h)
 clear h
 obtain ⟨hi1,hi2⟩:=hi
 obtain ⟨f,rfl⟩ : ∃ g,f = g + 1:=⟨f - 1,by omega⟩
 refine bd [] rfl (by simp) ?_
 refine Ah (fun y : Nat × List Int × Bool=>[(25,.imm (.int .i64 y.1)),(24,.imm (.int .i64 ds.length)),(23,.imm (.sl (ds.map BB))),(2,.imm (.bool y.2.2)),(0,.ref 1 0)])
  (fun y=>[(1,some (P2 ⟨ds,.mk c1 c2 c3 c4,rows⟩ (.own 2 ds.length))),(2,some (.row 3 1 (FI y.2.1)))]) [3,4,5,6] (fun y=>ds.length - y.1)
  (fun y=>y.1 ≤ ds.length ∧ GU ds (s,false) 0 ds = GU ds y.2 y.1 (ds.drop y.1) ∧ Q2 ds y.2.1 ∧ OK y.2.1 ≤ OK s ∧ (y.2.2 = true → OK y.2.1 < OK s)) (0,s,false)
  ⟨Nat.zero_le _,rfl,hs,Nat.le_refl _,fun h=>by cases h⟩ ⟨rfl,As (by simp),rfl,rfl,rfl,trivial⟩ ⟨rfl,rfl,trivial⟩ rfl fun y hy jh=>?_
 obtain ⟨i,p⟩:=y
 obtain ⟨hy1,hy2,hy3,hy4,hy5⟩:=hy
 simp only at hy1 hy2 hy3 hy4 hy5
 refine bd [] rfl (by simp) ?_
 refine Aa rfl (fun h=>?_) (fun h=>?_)
 ·simp at h
  have hil:=h
  obtain ⟨d,hd⟩:=Ai h
  have hdm:=List.mem_of_getElem? hd
  rw [Al hd] at hy2
  simp only [GU] at hy2
  refine bd [] rfl (by simp) ?_
  refine bi rfl (c:=BB d) (fun _=>⟨by simp,by simpa using AG hd,by simp⟩) (by simp) ?_
  obtain ⟨dn,dc⟩:=d
  simp only at hy2
  have hd5:=(hl2 _ hdm).1
  have hd3:=hl3 _ hdm
  have hdn:=hnm _ hdm
  simp only at hd5 hd3 hdn
  refine bg [] rfl (by simp) ?_
  refine Ah (fun y : Nat × List Int × Bool=>[(33,.imm (.int .i64 y.1)),(32,.imm (.int .i64 dc.length)),(31,.imm (.sl (dc.map CA))),(3,.imm (.int .i64 i)),(25,.imm (.int .i64 i)),(24,.imm (.int .i64 ds.length)),(23,.imm (.sl (ds.map BB))),(2,.imm (.bool y.2.2)),(0,.ref 1 0)])
   (fun y=>[(1,some (P2 ⟨ds,.mk c1 c2 c3 c4,rows⟩ (.own 2 ds.length))),(2,some (.row 3 1 (FI y.2.1)))]) [3,4,5,6] (fun y=>dc.length - y.1)
   (fun y=>y.1 ≤ dc.length ∧ Wl ds i p dc = Wl ds i y.2 (dc.drop y.1) ∧ Q2 ds y.2.1 ∧ OK y.2.1 ≤ OK s ∧ (y.2.2 = true → OK y.2.1 < OK s)) (0,p)
   ⟨Nat.zero_le _,rfl,hy3,hy4,hy5⟩ ⟨rfl,As (by simp),rfl,rfl,rfl,rfl,rfl,rfl,rfl,trivial⟩ ⟨rfl,rfl,trivial⟩ rfl fun y hk kh=>?_
  obtain ⟨k,q⟩:=y
  obtain ⟨hk1,hk2,hk3,hk4,hk5⟩:=hk
  simp only at hk1 hk2 hk3 hk4 hk5
  refine bd [] rfl (by simp) ?_
  refine Aa rfl (fun h=>?_) (fun h=>?_)
  ·simp at h
   obtain ⟨c,hc⟩:=Ai h
   have hcm:=List.mem_of_getElem? hc
   rw [Al hc] at hk2
   simp only [Wl] at hk2
   refine bd [] rfl (by simp) ?_
   refine bi rfl (c:=CA c) (fun _=>⟨by simp,by simpa using AG hc,by simp⟩) (by simp) ?_
   obtain ⟨cn,ca⟩:=c
   have hca3:=hd3 _ hcm
   have hcan:=hdn _ hcm
   simp only at hca3 hcan hk2
   have hstep:=WK (p:=q) h4 hil hca3 hk3
   have hlen : q.1.length = ds.length:=hk3.len
   obtain ⟨qs,qb⟩:=q
   simp only at hk3 hk4 hk5 hlen hstep
   refine bg [] rfl (by simp) ?_
   refine HN rfl (v:=.int .i64 (Ct ds qs 1 ca)) (fun _=>YC ⟨ds,.mk c1 c2 c3 c4,rows⟩ qs hk3 h4 ca hcan hca3) rfl (by simp) ?_
   have hst : Mr ds i (qs,qb) ca = if 0 < Ct ds qs 1 ca ∧ (qs.getD i 0 = 0 ∨ Ct ds qs 1 ca < qs.getD i 0) then (qs.set i (Ct ds qs 1 ca),true) else (qs,qb):=rfl
   have hzb:=Gf hk3 ca 1 (by omega)
   generalize Ct ds qs 1 ca = z at *
   refine bg [] rfl (by simp) ?_
   refine Hr An rfl (fun _=>⟨by simp,by simp;omega⟩) (by simp [Af]) ?_
   refine bg [] rfl (by simp [Af]) ?_
   refine Qd (e:=[.int .i64 (qs.getD i 0)]) An rfl (fun _=>by simpa using Jb (s:=qs) (i:=i) (by omega)) rfl (by simp [Af]) ?_
   refine bg [] rfl (by simp [Af];try exact fun a b=>⟨a,b⟩) ?_
   refine Hr An rfl (fun _=>⟨by simp,by simp;omega⟩) (by simp [Af]) ?_
   refine bg [] rfl (by simp [Af]) ?_
   refine Qd (e:=[.int .i64 (qs.getD i 0)]) An rfl (fun _=>by simpa using Jb (s:=qs) (i:=i) (by omega)) rfl (by simp [Af]) ?_
   refine bg [] rfl (by simp [Af];try exact fun a b=>⟨a,b⟩) ?_
   by_cases hz : 0 < z ∧ (qs.getD i 0 = 0 ∨ z < qs.getD i 0)
   ·rw [if_pos hz] at hst
    rw [hst] at hk2 hstep
    have hstep3:=hstep.2.2 rfl
    refine Aa rfl (fun h=>?_) (fun h=>by exfalso;simp at h;grind)
    refine bd [] rfl (by simp) ?_
    refine Hr An rfl (fun _=>⟨by simp,by simp;omega⟩) (by simp) ?_
    refine bg [] rfl (by simp) ?_
    refine RE An (e:=[.int .i64 (qs.getD i 0)]) (e':=[.int .i64 z]) rfl (by simpa using Jb (s:=qs) (i:=i) (by omega)) (by show 0 + 1 ≤ 1;decide) (by simp) (by simp) ?_
    refine bg [] rfl (by simp) ?_
    refine Ad (kh (k + 1,qs.set i z,true) (by simp only;omega) ⟨by simp only;omega,hk2,hstep.1,by have:=hstep.2.1;simp only at this ⊢;omega,fun _=>?_⟩) ⟨As (Bw (by omega) (by omega)),rfl,rfl,rfl,rfl,rfl,rfl,rfl,rfl,trivial⟩ ⟨rfl,by rw [← WT];rfl,trivial⟩ rfl
    rcases hstep3 with h | h
    ·have:=hk5 h;have:=hstep.2.1;simp only at this ⊢;omega
    ·simp only at h ⊢;omega
   ·rw [if_neg hz] at hst
    rw [hst] at hk2
    refine Aa rfl (fun h=>by exfalso;simp at h;grind) (fun h=>?_)
    refine bd [] rfl (by simp) ?_
    exact Ad (kh (k + 1,qs,qb) (by simp only;omega) ⟨by simp only;omega,hk2,hk3,hk4,hk5⟩) ⟨As (Bw (by omega) (by omega)),rfl,rfl,rfl,rfl,rfl,rfl,rfl,rfl,trivial⟩ ⟨rfl,rfl,trivial⟩ rfl
  ·simp at h
   refine Av rfl ?_
   refine bd [] rfl (by simp) ?_
   rw [List.drop_eq_nil_of_le (by omega)] at hk2
   simp only [Wl] at hk2
   rw [hk2] at hy2
   exact Ad (jh (i + 1,q) (by simp only;omega) ⟨by simp only;omega,hy2,hk3,hk4,hk5⟩) ⟨As (Bw (by omega) (by omega)),rfl,rfl,rfl,rfl,trivial⟩ ⟨rfl,rfl,trivial⟩ rfl
 ·simp at h
  refine Av rfl ?_
  refine bd [] rfl (by simp) ?_
  rw [List.drop_eq_nil_of_le (by omega)] at hy2
  simp only [GU] at hy2
  simp only [UD,hy2] at hi1
  obtain ⟨ps,pb⟩:=p
  cases pb with
  | true =>
   have:=hy5 rfl
   exact Ad (ih (f,ps,true) (by simp) ⟨hy3,by simp only [if_true];exact ⟨by simpa using hi1,by simp only at this;omega⟩⟩) ⟨rfl,rfl,trivial⟩ ⟨rfl,rfl,trivial⟩ rfl
  | false =>
   exact Ad (ih (f,ps,false) (by simp) ⟨hy3,by simpa using hi1⟩) ⟨rfl,rfl,trivial⟩ ⟨rfl,rfl,trivial⟩ rfl
end Go.Hk
namespace Go.Hk
mutual
theorem Mj : ∀ (t : Ty) (l : Int),(Ak t : Int) ≤ l → 0 ≤ A6 t l
 | .mk _ _ _ ps,l,h=>by
  simp only [Ak] at h
  simp only [A6]
  rw [if_neg (by omega)]
  exact KU ps (l - 1) (by omega)
theorem KU : ∀ (ts : List Ty) (l : Int),(Ag ts : Int) ≤ l → 0 ≤ AY ts l
 | [],l,h=>by simpa [AY,Ag] using h
 | t :: r,l,h=>by
  simp only [Ag] at h
  simp only [AY]
  rw [if_pos (by omega)]
  have h1:=Mj t l (by omega)
  have h2:=CB t l h1
  exact KU r _ (by omega)
end
theorem H9 (t : Ty) (l : Nat) : decide (0 ≤ A6 t l) = decide (Ak t ≤ l):=by
 by_cases h : Ak t ≤ l
 ·rw [decide_eq_true h,decide_eq_true (Mj t l (by omega))]
 ·rw [decide_eq_false h]
  refine decide_eq_false fun h1=>h ?_
  have:=CB t l h1
  omega
theorem J6 (t : Ty) : Bk false t = Dz t:=by
 simp only [Bk,Dz];rw [← H9 t 12];rfl
theorem Wn (t : Ty) : AP t = Cu t:=by
 simp only [AP,Cu];rw [← H9 t 12,Bool.and_assoc];rfl
theorem Zt (c : Cd) : JK c = KD c:=by
 simp only [JK,KD]
 rw [show Bk false = Dz from funext J6]
theorem Yf (d : Dt) : Ef d = FU d:=by
 simp only [Ef,FU,Eo]
 rw [show JK = KD from funext Zt]
 simp only [Bool.and_assoc]
end Go.Hk
namespace Go.Hk
open Go.Proofs
def Im : Ty → Bool
 | .mk s _ _ _=>!(s == 9)
def O3 (c : Cse) (p : Ty) : Bool:=AP p && BR c.datas c.type p
def KF (c : Cse) : Bool:=EG c.datas && decide (c.rows.length ≤ 5) && Bk true c.type && Bp c.datas c.type
def GC (c : Cse) : Bool:=KF c && (CM Im c.type && (c.rows.all (O3 c) && decide (Ag c.rows ≤ 30)))
def W1 (c : Cse) : Bool → V
 | true=>.tup [Ck c (FI (ZT c.datas)),.int .i64 0]
 | false=>.tup [.nilp,.int .i64 2]
theorem M6 {ds : List Dt} (h : EG ds = true) : GG ⟨[109],ds,[Fv]⟩ = true ∧ AJ (B9 ds) = true ∧ AJ (Bv ds) = true ∧ Bm ds ds = true:=by
 simp only [EG,Bool.and_eq_true] at h
 exact ⟨h.1.1,h.1.2.1,h.1.2.2,h.2⟩
theorem OkD.of2 {ds : List Dt} (h : EG ds = true) : OkD ds:=by
 obtain ⟨h1,_,_,h4⟩:=M6 h
 exact ⟨h4,fun d hd=>by have:=((Gv h1).2 d hd).1;omega⟩
set_option maxHeartbeats 2000000 in
theorem SD (c : Cse) : PureC Tryz.prog 63 [.agg (dCse c)] (W1 c (GC c)):=by
 have hread:=YI c
 have hT:=fun q=>Mn 91 q
 have hCT:=Q4 c.type
 obtain ⟨ds,t,rows⟩:=c
 simp only at hread hCT ⊢
 have hTy:=Mn 91 Im (fun t=>by have:=Q8 t;obtain ⟨s,n,x,ps⟩:=t;exact this) t
 have hNm:=Oj ⟨ds,t,rows⟩ [] t
 have hW:=fun h4 hl2 hN=>W3 ⟨ds,t,rows⟩ h4 hl2 hN
 have hF:=fun ho hd hn p=>UM ⟨ds,t,rows⟩ [] ho hd p t hn
 have hc2 : GC ⟨ds,t,rows⟩ = (KF ⟨ds,t,rows⟩ && (CM Im t && (rows.all (O3 ⟨ds,t,rows⟩) && decide (Ag rows ≤ 30)))):=rfl
 have hc1 : KF ⟨ds,t,rows⟩ = (EG ds && decide (rows.length ≤ 5) && Bk true t && Bp ds t):=rfl
 generalize GC ⟨ds,t,rows⟩ = cb at *
 generalize KF ⟨ds,t,rows⟩ = cb1 at *
 generalize hnb : Bp ds t = nb at *
 generalize hfb : Bk true t = fb at *
 generalize CM Im t = tb at *
 obtain ⟨so,n0,x0,ps0⟩:=t
 refine Ae An Tryz.func63 (by decide +kernel) rfl [1,2,3,4,5,6,7,8] rfl rfl ?_
 refine bg [] rfl (by simp) ?_
 cases hr : EG ds with
 | false =>
  rw [hr] at hread hc1
  refine Ac rfl (fun _=>hread) (by simp) ?_
  refine bg [] rfl (by simp [Af]) ?_
  refine Ac rfl (fun _=>hCT) (by simp [Af]) ?_
  refine bg [] rfl (by simp [Af,Hw]) ?_
  refine HN (v:=.bool true) rfl (fun h=>by simp [Af] at h) rfl (by simp [Af]) ?_
  refine bg [] rfl (by simp [Af]) ?_
  refine Aa rfl (fun h=>?_) (fun h=>by simp at h)
  refine bd [] rfl (by simp) ?_
  rw [hc2,hc1]
  exact Ab ⟨_,rfl,tV rfl,trivial⟩
 | true =>
 rw [hr] at hread hc1
 obtain ⟨hm,hdn,hdc,han⟩:=M6 hr
 obtain ⟨hl1,hl2⟩:=Gv hm
 have ho:=OkD.of2 hr
 have hread : AU Tryz.prog 87 [.imm (.agg (dCse ⟨ds,.mk so n0 x0 ps0,rows⟩))] [] (.ret (.tup [.ref 6 0,.imm (.bool true)]) [(6,some (Mg ⟨ds,.mk so n0 x0 ps0,rows⟩))]):=hread
 refine Az (fr:=[2]) [] [(6,2)] rfl (by simp) hread trivial rfl rfl rfl rfl ?_
 refine bg [] rfl (by simp [Af]) ?_
 refine Ac rfl (fun _=>hCT) (by simp [Af]) ?_
 refine bg [] rfl (by simp [Af,Hw]) ?_
 refine HN rfl (fun _=>hNm) rfl (by simp [Af]) ?_
 refine bg [] rfl (by simp [Af]) ?_
 by_cases h1 : cb1 = true
 case neg =>
  refine Aa rfl (fun h=>?_) (fun h=>?_)
  ·refine bd [] rfl (by simp) ?_
   rw [hc2,show cb1 = false by simpa using h1]
   exact Ab ⟨_,rfl,tV rfl,trivial⟩
  ·exfalso
   apply h1
   rw [hc1]
   simp [Hw] at h ⊢
   cases fb <;> grind
 have hc1' : decide (rows.length ≤ 5) = true ∧ fb = true ∧ nb = true:=by rw [h1] at hc1;simp at hc1 ⊢;grind
 obtain ⟨hr5,rfl,rfl⟩:=hc1'
 have hr5 : rows.length ≤ 5:=of_decide_eq_true hr5
 rw [h1,Bool.true_and] at hc2
 refine Aa rfl (fun h=>by exfalso;simp [Hw] at h;omega) (fun h=>?_)
 clear h
 refine bd [] rfl (by simp) ?_
 refine Ac rfl (fun _=>hTy) (by simp) ?_
 refine bg [] rfl (by simp) ?_
 cases tb with
 | false =>
  refine Aa rfl (fun h=>?_) (fun h=>by simp at h)
  refine bd [] rfl (by simp) ?_
  rw [hc2]
  exact Ab ⟨_,rfl,tV rfl,trivial⟩
 | true =>
 refine Aa rfl (fun h=>by simp at h) (fun h=>?_)
 clear h
 rw [Bool.true_and] at hc2
 have hF:=fun p=>hF ho hdc rfl p
 generalize hR : O3 ⟨ds,.mk so n0 x0 ps0,rows⟩ = R at *
 have hR : ∀ p,R p = (AP p && BR ds (.mk so n0 x0 ps0) p):=fun p=>by rw [← hR];rfl
 refine bd [] rfl (by simp) ?_
 refine Ah (fun i : Nat=>[(42,.imm (.int .i64 i)),(41,.imm (.int .i64 rows.length)),(40,.imm (.sl (A9 rows))),(6,.imm (.int .i64 ((Ag (rows.take i) : Nat) : Int))),(1,.ref 1 0),(4,.ref 2 0)])
  (fun _=>[(1,some (.immb 29 6 (dCse ⟨ds,.mk so n0 x0 ps0,rows⟩))),(2,some (Mg ⟨ds,.mk so n0 x0 ps0,rows⟩))]) [3,4,5,6] (fun i=>rows.length - i)
  (fun i=>i ≤ rows.length ∧ rows.all R = (rows.drop i).all R ∧ Ag (rows.take i) ≤ 12 * i) 0 ⟨Nat.zero_le _,rfl,by simp [Ag]⟩ ⟨rfl,As (by simp),rfl,rfl,rfl,rfl,trivial⟩ ⟨rfl,rfl,trivial⟩ rfl fun i hi ih=>?_
 obtain ⟨hi1,hi2,hi3⟩:=hi
 refine bd [] rfl (by simp) ?_
 refine Aa rfl (fun h=>?_) (fun h=>?_)
 ·simp at h
  obtain ⟨p,hp⟩:=Ai h
  rw [CG hp,hR] at hi2
  have hFp:=hF p
  have en : Ag (rows.take (i + 1)) = Ag (rows.take i) + Ak p:=by rw [AI hp,Bc];simp [Ag]
  have hpn : AP p = true → Ak p ≤ 12:=fun h=>by simp only [AP,Bool.and_eq_true,decide_eq_true_eq] at h;exact h.1
  have hCP:=H7 p
  have hND:=OD p
  refine bd [] rfl (by simp) ?_
  refine bi rfl (c:=dTyc p) (fun _=>⟨by simp,by simpa using Ao hp,by simp⟩) (by simp) ?_
  generalize AP p = b1 at *
  generalize BR ds (.mk so n0 x0 ps0) p = b2 at *
  obtain ⟨q1,q2,q3,q4⟩:=p
  refine bg [] rfl (by simp) ?_
  refine Ac rfl (fun _=>hCP) (by simp) ?_
  refine bg [] rfl (by simp [Hw]) ?_
  refine HN rfl (fun _=>hFp) rfl (by simp [Af]) ?_
  refine bg [] rfl (by simp [Af]) ?_
  by_cases hb : (b1 && b2) = true
  case neg =>
   refine Aa rfl (fun h=>?_) (fun h=>?_)
   ·refine bd [] rfl (by simp) ?_
    rw [hc2,hi2,show (b1 && b2) = false by simpa using hb]
    exact Ab ⟨_,rfl,tV rfl,trivial⟩
   ·exfalso
    apply hb
    simp [Hw] at h ⊢
    cases b1 <;> simp_all
  rw [hb,Bool.true_and] at hi2
  have hb1 : b1 = true:=by cases b1;simp at hb;rfl
  have hb2 : b2 = true:=by cases b2;simp at hb;rfl
  have hp12:=hpn hb1
  refine Aa rfl (fun h=>by exfalso;simp [Hw,hb1,hb2] at h) (fun h=>?_)
  clear h
  refine bd [] rfl (by simp) ?_
  refine Ac rfl (fun _=>hND (by omega)) (by simp) ?_
  refine bg [] rfl (by simp) ?_
  exact Ad (ih (i + 1) (by omega) ⟨by omega,hi2,by omega⟩) ⟨As (Bw (by omega) (by omega)),rfl,rfl,As (by rw [en,Bw (by omega) (by omega)];omega),rfl,rfl,trivial⟩ ⟨rfl,rfl,trivial⟩ rfl
 ·simp at h
  refine Av rfl ?_
  refine bd [] rfl (by simp) ?_
  rw [List.take_of_length_le h]
  rw [hi2,List.drop_eq_nil_of_le h,List.all_nil,Bool.true_and] at hc2
  by_cases h30 : Ag rows ≤ 30
  case neg =>
   refine Aa rfl (fun h=>?_) (fun h=>by exfalso;simp at h;omega)
   refine bd [] rfl (by simp) ?_
   rw [hc2,show decide (Ag rows ≤ 30) = false by simpa using h30]
   exact Ab ⟨_,rfl,tV rfl,trivial⟩
  rw [hc2,show decide (Ag rows ≤ 30) = true by simpa using h30]
  refine Aa rfl (fun h=>by exfalso;simp at h;omega) (fun h=>?_)
  clear h
  refine bd [] rfl (by simp) ?_
  refine Az (fr:=[3]) [(2,1)] [(2,3)] rfl (by simp) (hW hl1 hl2 han) ⟨⟨rfl,rfl,rfl⟩,trivial⟩ rfl rfl rfl rfl ?_
  refine bg [] rfl (by simp) ?_
  refine Bu 3 rfl ?_
  refine Hy 2 (id:=2) (off:=0) (ty:=137) (sz:=9) (xs:=W2 ⟨ds,.mk so n0 x0 ps0,rows⟩ (FI (ZT ds))) rfl rfl ?_
  exact Ab ⟨_,rfl,tV rfl,trivial⟩
end Go.Hk
namespace Go.Hk
def H8 (P : Program) (n : Nat) (c : Code) (env : Env) (st : St) (ids : List Nat) (env' : Env) (st' : St) (ids' : List Nat) : Prop :=
 ∀ (b : Frame) (cs : List Frame) (Q : Exit → Act → World → Prop) (I : Imm) (μ : Mu) (a : Act) (w : World) (tail : List Item),Conc n I μ env st ids a w →
  (∀ I' μ' a' w',Conc n I' μ' env' st' ids' a' w' → μ.le μ' → Ext I μ st w I' μ' st' w' → Reach P b cs Q tail a' w') → Reach P b cs Q (.code c :: tail) a w
def KP (P : Program) (n : Nat) (all rest : List Oper) (env : Env) (st : St) (ids : List Nat) (env' : Env) (st' : St) (ids' : List Nat) : Prop :=
 ∀ (b : Frame) (cs : List Frame) (Q : Exit → Act → World → Prop) (I : Imm) (μ : Mu) (a : Act) (w : World) (tail : List Item) (j : Nat),rest = all.drop j → Conc n I μ env st ids a w →
  (∀ I' μ' a' w',Conc n I' μ' env' st' ids' a' w' → μ.le μ' → Ext I μ st w I' μ' st' w' → Reach P b cs Q tail a' w') → Reach P b cs Q (.inRegion all.toArray (List.range' j rest.length) :: tail) a w
section
variable {P : Program} {n : Nat} {tt : TT} {env env' env2 E : Env} {st st' st2 stx : St} {ids ids' ids2 : List Nat} {c c' : Code} {all rest : List Oper} {o : Oper} {ob : List Prop} {I : Imm} {μ : Mu} {w : World} {d : D}
theorem UT (h : H8 P n c env st ids env' st' ids') (h' : H8 P n c' env' st' ids' env2 st2 ids2) : H8 P n (.seq c c') env st ids env2 st2 ids2:=fun b cs Q I μ a w tail hc k =>
 reach_seq (h b cs Q I μ a w _ hc fun I' μ' a' w' hc' hm he=>h' b cs Q I' μ' a' w' _ hc' fun I2 μ2 a2 w2 hc2 hm2 he2=>k I2 μ2 a2 w2 hc2 (fun i v hv=>hm2 i v (hm i v hv)) (he.trans he2))
theorem Mu.le_trans' {a b c : Mu} (h : a.le b) (k : b.le c) : a.le c:=fun i v hv=>k i v (h i v hv)
theorem TU {rid : Nat} (h : KP P n all all env st ids env' st' ids') : H8 P n (.region rid ⟨all⟩ false) env st ids env' st' ids':=fun b cs Q I μ a w tail hc k=>by
 refine C6 ?_
 have:=h b cs Q I μ a w tail 0 rfl hc k
 simpa [List.range_eq_range'] using this
theorem YM : KP P n all [] env st ids env st ids:=fun b cs Q I μ a w tail j hj hc k=>Ba (k I μ a w hc (Mu.le_refl μ) (Ext.refl _ _ _ _))
theorem aC {rd fr : List Nat} {wr : St} (hl : LD P (fun _=>False) all o env st rd fr wr d) (hg : o.guard = none) (hnd : ∀ c,o.op ≠ .defer c) (hn : ∀ t,o.dst = some t → t < n)
  (h : KP P n all rest (B0 o.dst d env) (wr ++ st) ids' env' st' ids2) : KP P n all (o :: rest) env st (fr ++ ids') env' st' ids2:=by
 intro b cs Q I μ a w tail j hr hc k
 obtain ⟨hj,hr'⟩:=B6 hr
 have hon : Iw (o.looksAt all.toArray) I μ env a:=fun t _ d hl=>hc.env t d hl
 have hlen : (o :: rest).length = rest.length + 1:=rfl
 rw [hlen,List.range'_succ]
 have hw : Region.wanted o (yielded all.toArray a.tmps) = true:=wanted_none hg
 obtain ⟨h1,_⟩:=hl I μ st ids' a w (fun _ _=>rfl) hc.toStRep hon
 refine BK hj hw hnd (valX.upon ((h1 hw).mono ?_ ?_))
 ·rintro v w2 ⟨I',μ',q1,q2,q4,q3⟩
  obtain ⟨p1,p2,p3⟩:=Gk (n:=n) (w:=w2) (dst:=o.dst) (fun t d hl=>(hc.env t d hl).mono q3.imm q4) hc.size hn q2
  exact h b cs Q I' μ' (a.put o.dst v) w2 tail (j + 1) hr'
   {q1 with size:=p2,env:=by cases hdst : o.dst <;> simpa [B0,hdst] using p1,defers:=by rw [p3];exact hc.defers.ext q3 }
   fun I2 μ2 a2 w3 hc2 hm2 he2=>k I2 μ2 a2 w3 hc2 (Mu.le_trans' q4 hm2) (q3.trans he2)
 ·rintro chain w2 ⟨v,x,I2,q1,q2,q3,q4,q5⟩
  exact q2.elim
theorem ZD (htt : TTok P tt) {i : Nat} {x : Option Blk} {st1 : St} {env1 : Env} {ids1 : List Nat} (h : Df tt n all o env st ids = .e env1 ((i,x) :: st1) ids1 ob) (hob : A1 ob) (hg : o.guard = none) (hr : KP P n all rest env1 ((i,x) :: st) ids1 env' st' ids2) :
  KP P n all (o :: rest) env st ids env' st' ids2:=by
 obtain ⟨d,fr,e1,e2,e3,e4,e5,_,e7⟩:=OQ (P:=P) (Pn:=fun _=>False) htt h hob
 subst e2
 rw [e3] at hr
 exact aC (wr:=[(i,x)]) e7 hg e5 e4 hr
theorem Ma (htt : TTok P tt) {rid : Nat} {o1 o2 : Oper} {i : Nat} {x y : Option Blk} {st1 st2' : St} {env1 env2 : Env} {ids1 ids2 : List Nat} {ob1 ob2 : List Prop} (h1 : Df tt n [o1,o2] o1 env st ids = .e env1 ((i,x) :: st1) ids1 ob1) (g1 : o1.guard = none)
  (h2 : Df tt n [o1,o2] o2 env1 ((i,x) :: st) ids1 = .e env2 ((i,y) :: st2') ids2 ob2) (g2 : o2.guard = none) (hob1 : A1 ob1) (hob2 : A1 ob2) : H8 P n (.region rid ⟨[o1,o2]⟩ false) env st ids env2 ((i,y) :: (i,x) :: st) ids2 :=
 TU (ZD htt h1 hob1 g1 (ZD htt h2 hob2 g2 YM))
theorem Nx {L : Iv} {p q : Nat} {fc : Func} {d d2 : D} {stB : St} {pend : Option Code} (hf : P.funcs[L.fn]? = some fc) (hps : L.ps = #[p,q]) (hsz : L.tmps.size = n)
  (hd : HE d = []) (hd2 : HE d2 = []) (hp : p < n) (hq : q < n) (hfree : Nr ids L.E stx L.F) (hasg : H8 P n L.asg ((q,d2) :: (p,d) :: L.E) stx ids env st ids')
  (h : DGo P n (WU :: (L.F ++ Rf L.E)) (cK pend stB) [.code L.body] env st ids') : LL P [d,d2] (BC L stx none) pend.isNone (BC L stB pend):=by
 intro I μ w b xs hμ hst hx
 have hl0 : Ap (Q6 1 (BC L stx none)) 0 .pin:=AB.2 (.inl ⟨rfl,rfl⟩)
 have hl1 : Ap (Q6 1 (BC L stx none)) 1 (.bun 0 (BC L stx none)):=AB.2 (.inr ⟨by simp,AB.2 (.inl ⟨rfl,rfl⟩)⟩)
 obtain ⟨g1,hg1,b',bs,hb1,rfl,hP⟩:=hst.blk 1 _ hl1
 rw [hμ] at hb1
 cases hb1
 have hbs : ∀ k ∈ bs,I k = none ∧ k < w.heap.size:=fun k hk=>hst.apart 1 _ _ k hl1 hg1 (Ca.2 hk)
 have hP0:=hP
 obtain ⟨r,ν,bs0,e1,hr1,⟨hr2,hr3⟩,⟨hr4,hr5,hr6,hr7,hr8⟩,hE1,hS,hown,hnb,hF⟩:=Sr hP hfree hst.imm hbs
 subst e1
 obtain ⟨x,x2,rfl⟩ : ∃ x x2,xs = #[x,x2]:=by
  obtain ⟨l⟩:=xs
  have:=hx.1
  match l,this with
  | [x,x2],_=>exact ⟨x,x2,rfl⟩
 have hxd1 : RepD I ν x d:=(hx.2 0 x d rfl rfl).sub fun j hj=>by rw [hd] at hj;cases hj
 have hxd2 : RepD I ν x2 d2:=(hx.2 1 x2 d2 rfl rfl).sub fun j hj=>by rw [hd2] at hj;cases hj
 have hszp : (#[x,x2] : Array Value).size = r.params.size:=by rw [hr5,hps];rfl
 unfold cJ
 rw [run_yield hr1 hszp]
 refine roundIn_of_reach (fc:=fc) (by rw [hr4];exact hf) fun fb cs hbf hbr=>?_
 rw [hr5,hps,hr6,hr7,hr8]
 have hfold : ((#[p,q] : Array Nat).zip #[x,x2]).foldl (fun tmps (t,a)=>tmps.setIfInBounds t a) L.tmps = (L.tmps.setIfInBounds p x).setIfInBounds q x2:=by simp
 rw [hfold]
 obtain ⟨hIb,hblt⟩:=hbs b (by simp)
 have hnob0 : ¬ AL ν stx b:=fun h=>hnb ((hown b).2 h)
 have hput : ∀ (w : World) (o : Obj),(w.putObj b o).heap = w.heap.setIfInBounds b o:=fun w o=>by
  unfold World.putObj
  by_cases hi : b < w.heap.size <;> simp [hi]
 have hoth : ∀ (w : World) (o : Obj) k,k ≠ b → (w.putObj b o).heap[k]? = w.heap[k]?:=fun w o k hk=>by rw [hput,Array.getElem?_setIfInBounds_ne (Ne.symm hk)]
 obtain ⟨c1,c2,c3⟩:=Gk (n:=n) (w:=w) (a:={ tmps:=L.tmps,defers:=[] }) (dst:=some p) hE1 hsz (fun t ht=>by cases ht;exact hp) hxd1
 obtain ⟨f1,f2,f3⟩:=Gk (n:=n) (w:=w) (dst:=some q) c1 c2 (fun t ht=>by cases ht;exact hq) hxd2
 have hc0 : Conc n I ν ((q,d2) :: (p,d) :: L.E) stx ids ((Act.put { tmps:=L.tmps,defers:=[] } (some p) x).put (some q) x2) w:={ hS with size:=f2,env:=f1,defers:=by rw [f3,c3];exact MarksOk.nil _ _ _ _ }
 refine hasg fb cs _ I ν _ w _ hc0 fun IA νA aA wA hcA hmA heA=>?_
 have hnob : ¬ AL νA st b:=fun h=>hnob0 (heA.fresh b hblt h)
 have hrA1 : wA.heap[b]? = some (.loop r):=by rw [heA.block b hblt hnob0];exact hr1
 have hIbA : IA b = none:=by rw [heA.old b hblt hnob0];exact hIb
 have hbltA : b < wA.heap.size:=(Array.getElem?_eq_some_iff.1 hrA1).1
 obtain ⟨w1,hw1⟩ : ∃ w1 : World,w1 = wA.putObj b (.loop { r with state:=.busy }):=⟨_,rfl⟩
 have hbeg:=run_beginRound (P:=P) hrA1 hr2
 refine Reach.step (stepR_beginRound hbr hbeg) ?_
 rw [← hw1]
 have hmarks : MarksOk IA νA st w1 aA.defers:=by
  obtain ⟨rs,m1,m2,m3⟩:=hcA.defers
  refine ⟨rs,m1,m2,fun k hk=>⟨?_,(m3 k hk).2⟩⟩
  have h0:=(m3 k hk).1
  rw [hw1,hoth _ _ k (fun e=>by rw [e,hrA1] at h0;cases h0)]
  exact h0
 have hc : Conc n IA νA env st ids' aA w1 :=
  {hcA.toStRep.other (by rw [hw1,hput];simp) (fun k o hk=>by rw [hw1];exact hoth _ _ k (fun e=>by rw [e,hIbA] at hk;cases hk)) (fun k hk=>by rw [hw1];exact hoth _ _ k (fun e=>hnob (e ▸ hk))) with
   size:=hcA.size
   env:=hcA.env
   defers:=hmarks }
 have hgo:=h ⟨fb,.inl (by simp)⟩ cs IA νA _ w1 [.code L.body] ⟨rfl,trivial⟩ hc
 refine Reach.mono (fun e a' w' hpost=>?_) hgo
 obtain ⟨x',env',st',ids2,I',μ',p1,p2,p3,p4,p5,p6⟩:=hpost
 have hb1 : w1.heap[b]? = some (.loop { r with state:=.busy }):=by rw [hw1,hput];simp [hbltA]
 have hsz1 : w1.heap.size = wA.heap.size:=by rw [hw1,hput];simp
 have hszA : w.heap.size ≤ wA.heap.size:=heA.size
 have hno2 : ∀ k,k < w.heap.size → ¬ AL ν stx k → ¬ AL νA st k:=fun k hk ho hq=>ho (heA.fresh k hk hq)
 have hfr2 : ∀ k,k < w.heap.size → AL μ' st' k → AL ν stx k:=fun k hk ho=>heA.fresh k hk (p5.fresh k (by omega) ho)
 have hold2 : ∀ k,k < w.heap.size → ¬ AL ν stx k → I' k = I k:=fun k hk ho=>(p5.old k (by omega) (hno2 k hk ho)).trans (heA.old k hk ho)
 have himm2 : I.le I':=Imm.le_trans heA.imm p5.imm
 have hb' : w'.heap[b]? = some (.loop { r with state:=.busy }):=by rw [p5.block b (by omega) hnob];exact hb1
 have hno' : ¬ AL μ' st' b:=fun ho=>hnob (p5.fresh b (by omega) ho)
 have hI' : I' b = none:=by rw [p5.old b (by omega) hnob];exact hIbA
 have hblt' : b < w'.heap.size:=(Array.getElem?_eq_some_iff.1 hb').1
 have fin : E9 st' stB → ∃ v w'',(Instr.endRound b pend).run P w' = .ok v w'' ∧ (∃ I2 μ2,RepD I2 μ2 v (.imm (.bool pend.isNone)) ∧ StRep I2 μ2 (Q6 2 (BC L stB pend)) [] w'' ∧
   Pin (Dk (Q6 1 (BC L stx none))) μ μ2 ∧ Ext I μ (Q6 1 (BC L stx none)) w I2 μ2 (Q6 2 (BC L stB pend)) w''):=by
  intro hsub
  have hSB : StRep I' μ' stB [] w':=p3.toStRep.less (CN hsub) .nil (fun _ h=>by simp at h)
  have hownB' : ∀ k,AL μ' stB k → AL μ' st' k:=fun k ⟨i,bi,g,q1,q2⟩=>⟨i,bi,g,CN hsub i bi q1,q2⟩
  have hnoB : ¬ AL μ' stB b:=fun h=>hno' (hownB' b h)
  obtain ⟨w2,hw2⟩ : ∃ w2 : World,w2 = w'.putObj b (.loop { r with state:=if pend.isNone then .ready else .done,pending:=pend }):=⟨_,rfl⟩
  have hend : (Instr.endRound b pend).run P w' = .ok (.bool pend.isNone) w2:=by
   have:=run_endRound (P:=P) pend hb'
   rw [hw2];exact this
  have hw2s : w2.heap.size = w'.heap.size:=by rw [hw2,hput];simp
  have hw2o : ∀ k,k ≠ b → w2.heap[k]? = w'.heap[k]?:=fun k hk=>by rw [hw2];exact hoth _ _ k hk
  have hSB2 : StRep I' μ' stB [] w2:=hSB.other (by omega) (fun k o hk=>hw2o k (fun e=>by rw [e,hI'] at hk;cases hk)) (fun k hk=>hw2o k (fun e=>hnoB (e ▸ hk)))
  obtain ⟨bsN,hbsN⟩:=MI μ' stB
  have hPN : (BC L stB pend).P I' w2 b (b :: bsN):=by
   refine ⟨{ r with state:=if pend.isNone then .ready else .done,pending:=pend },μ',bsN,rfl,by rw [hw2,hput];simp [hblt'],⟨by cases pend <;> rfl,rfl⟩,⟨hr4,hr5,hr6,hr7,hr8⟩,fun t d hl=>?_,hSB2.blk,hSB2.inj,hbsN,fun hm=>hnoB ((hbsN b).1 hm),fun i hi=>?_⟩
   ·exact ((hE1 t d hl).mono himm2 (Mu.le_refl ν)).sub fun j hj g hg=>p4 j (by simp [SU hl j hj]) g (hmA j g hg)
   ·exact fun g hg0=>p4 i (by simp [hi]) g (hmA i g (hF i hi g hg0))
  obtain ⟨μ2,hμ2⟩ : ∃ μ2 : Mu,μ2 = fun i=>if i = 2 then some (.agg (QN (b :: bsN))) else μ i:=⟨_,rfl⟩
  have hm0 : μ2 0 = some (.func (.yield b) #[] #[]):=by rw [hμ2];simpa using hμ
  have hm2 : μ2 2 = some (.agg (QN (b :: bsN))):=by rw [hμ2];simp
  have hold : ∀ k,k ∈ b :: bsN → k < w.heap.size → k ∈ b :: bs0:=fun k hk hlt=>by
   rcases List.mem_cons.1 hk with rfl | hk
   ·simp
   ·exact List.mem_cons_of_mem _ ((hown k).2 (hfr2 k hlt (hownB' k ((hbsN k).1 hk))))
  have hnew : ∀ k ∈ b :: bsN,I' k = none ∧ k < w2.heap.size:=fun k hk=>by
   rcases List.mem_cons.1 hk with rfl | hk
   ·exact ⟨hI',by omega⟩
   ·obtain ⟨i,bi,g,q1,q2,q3⟩:=(hbsN k).1 hk
    exact hSB2.apart i bi g k q1 q2 q3
  have hownO : ∀ k,AL μ (Q6 1 (BC L stx none)) k ↔ k ∈ b :: bs0:=fun k=>by
   constructor
   ·rintro ⟨i,bi,g,q1,q2,q3⟩
    rcases GP (by simp) q1 with ⟨rfl,rfl⟩ | ⟨rfl,rfl⟩
    ·rw [hμ] at q2;cases q2;exact q3.elim
    ·rw [hg1] at q2;cases q2;exact Ca.1 q3
   ·intro hk;exact ⟨1,_,_,hl1,hg1,Ca.2 hk⟩
  have hownN : ∀ k,AL μ2 (Q6 2 (BC L stB pend)) k → k ∈ b :: bsN:=fun k=>by
   rintro ⟨i,bi,g,q1,q2,q3⟩
   rcases GP (by simp) q1 with ⟨rfl,rfl⟩ | ⟨rfl,rfl⟩
   ·rw [hm0] at q2;cases q2;exact q3.elim
   ·rw [hm2] at q2;cases q2;exact Ca.1 q3
  refine ⟨_,w2,hend,I',μ2,.imm _ _ (.bool _),?_,?_,?_⟩
  ·refine { imm:=hSB2.imm,blk:=fun i bi hl=>?_,apart:=fun i bi g k hl hgi hk=>hnew k (hownN k ⟨i,bi,g,hl,hgi,hk⟩),inj:=fun i j bi bj gi gj k hi hj hgi hgj hki hkj=>?_,nodup:=.nil,idsFree:=fun _ h=>by simp at h }
   ·rcases GP (by simp) hl with ⟨rfl,rfl⟩ | ⟨rfl,rfl⟩
    ·exact ⟨_,hm0,b,rfl⟩
    ·exact ⟨_,hm2,b,_,hm0,rfl,hPN⟩
   ·rcases GP (by simp) hi with ⟨rfl,rfl⟩ | ⟨rfl,rfl⟩ <;> rcases GP (by simp) hj with ⟨rfl,rfl⟩ | ⟨rfl,rfl⟩
    ·rfl
    ·rw [hm0] at hgi;cases hgi;exact hki.elim
    ·rw [hm0] at hgj;cases hgj;exact hkj.elim
    ·rfl
  ·intro i hi g hg
   simp only [Q6,Dk,List.map_cons,List.map_nil,List.mem_cons,List.not_mem_nil,or_false] at hi
   have : i ≠ 2:=by omega
   rw [hμ2];simp only [if_neg this];exact hg
  ·refine { imm:=himm2,os:=?_,tape:=?_,output:=?_,size:=?_,block:=fun k hk hno=>?_,fresh:=fun k hk ho=>(hownO k).2 (hold k (hownN k ho) hk),old:=fun k hk hno=>hold2 k hk (fun h=>hno ((hownO k).2 (List.mem_cons_of_mem _ ((hown k).2 h)))) }
   ·have:=p5.os;rw [hw1] at this;rw [hw2,← heA.os];unfold World.putObj at this ⊢;exact this
   ·have:=p5.tape;rw [hw1] at this;rw [hw2,← heA.tape];unfold World.putObj at this ⊢;exact this
   ·have:=p5.output;rw [hw1] at this;rw [hw2,← heA.output];unfold World.putObj at this ⊢;exact this
   ·have:=p5.size;omega
   ·have hkb : k ≠ b:=fun e=>hno ((hownO k).2 (by simp [e]))
    have hno3 : ¬ AL ν stx k:=fun h=>hno ((hownO k).2 (List.mem_cons_of_mem _ ((hown k).2 h)))
    rw [hw2o k hkb,p5.block k (by omega) (hno2 k hk hno3),hw1,hoth _ _ k hkb,heA.block k hk hno3]
 cases e with
 | normal =>
  cases x' <;> simp only [KL] at p1
  cases pend with
  | none=>exact fin p2
  | some c=>exact p2.elim
 | ret =>
  cases x' <;> simp only [KL] at p1
  cases pend with
  | none=>exact p2.elim
  | some c=>cases c <;> first | exact p2.elim | exact fin p2
 | exit j =>
  cases x' <;> simp only [KL] at p1
  cases pend with
  | none=>exact p2.elim
  | some c =>
   cases c <;> first | exact p2.elim | skip
   obtain ⟨q1,q2⟩:=p2
   subst q1;subst p1
   exact fin q2
 | goto l =>
  cases x' <;> simp only [KL] at p1
  cases pend <;> exact p2.elim
 | panic chain =>
  cases x' <;> simp only [KL] at p1
  cases pend <;> exact p2.elim
 | outgrown=>cases x' <;> simp only [KL] at p1
theorem DC {id : Nat} : ∀ {ds : List DI} {is : List Item},Dp id ds = none → P0 ds is → exitTo id is = none
 | [],is,_,hd=>by
  cases is with
  | nil=>rfl
  | cons=>exact hd.elim
 | d :: ds,is,h,hd=>by
  obtain ⟨i,is,rfl,h1,h2⟩:=DY hd
  cases d with
  | inBlock id1 =>
   cases i with
   | inBlock id2 =>
    have h1 : id2 = id1:=h1
    subst h1
    simp only [Dp] at h
    split at h
    ·cases h
    ·rename_i hb
     have hne : id2 ≠ id:=fun e=>by subst e;simp at hb
     simp [exitTo,hne,DC h h2]
   | _=>exact h1.elim
  | code c =>
   simp only [Dp] at h
   cases i <;> simp only [Hz] at h1
   simp [exitTo,DC h h2]
  | inLoop c =>
   simp only [Dp] at h
   cases i <;> simp only [Hz] at h1
   simp [exitTo,DC h h2]
  | inScope c =>
   simp only [Dp] at h
   cases i <;> simp only [Hz] at h1
   simp [exitTo,DC h h2]
  | ops all rest =>
   simp only [Dp] at h
   cases i <;> simp only [Hz] at h1
   simp [exitTo,DC h h2]
  | dops all rest fs=>cases i <;> simp only [Hz] at h1
theorem Sd {F : List Nat} {Q : DQ} {id : Nat} {k : List DI} (he : Dp id k = none) (h : Q (.exit id) env st ids) : DGo P n F Q (.code (.exit id) :: k) env st ids:=by
 intro b cs I μ a w items hd hc
 obtain ⟨is,rfl,hk⟩:=EY hd
 exact DL (DC he hk) ⟨.exit id,env,st,ids,I,μ,rfl,h,hc,.refl _ _,.refl _ _ _ _,.refl _ _⟩
end
end Go.Hk
namespace Go.Hk
open Go.Proofs
def J7 (v : Ty) : Bool:=decide (0 ≤ AN v 20000 100) && allV v
def Cv (c : Cse) (v : Ty) : Bool:=GC c && J7 v && Rb c.datas c.type v
theorem FX {c : Cse} (h : GC c = true) : OkD c.datas ∧ AJ (Bv c.datas) = true ∧ Bp c.datas c.type = true ∧ c.rows.length ≤ 5 ∧ ∀ p ∈ c.rows,AP p = true ∧ BR c.datas c.type p = true:=by
 simp only [GC,KF,Bool.and_eq_true,List.all_eq_true,O3,decide_eq_true_eq] at h
 obtain ⟨⟨⟨⟨h1,h2⟩,h3⟩,h4⟩,h5,h6,h7⟩:=h
 exact ⟨OkD.of2 h1,(M6 h1).2.2.1,h4,h2,h6⟩
theorem Su (c : Cse) (v : Ty) : PureC Tryz.prog 48 [.agg (dCse c),.agg (dTyc v)] (W1 c (Cv c v)):=by
 have hW:=SD c
 have hF:=T6 v
 have hI:=fun h=>ZH c (FI (ZT c.datas)) (FX (c:=c) h).1 (FX h).2.1 v c.type (FX h).2.2.1
 obtain ⟨ds,⟨c1,c2,c3,c4⟩,rows⟩:=c
 obtain ⟨g,m,z,vs⟩:=v
 have hF : PureC Tryz.prog 64 [.agg (dTyc (.mk g m z vs))] (.bool (J7 (.mk g m z vs))):=hF
 simp only [Cv] at hI ⊢
 generalize hb : GC ⟨ds,.mk c1 c2 c3 c4,rows⟩ = b at *
 generalize J7 (.mk g m z vs) = b2 at *
 generalize Rb ds (.mk c1 c2 c3 c4) (.mk g m z vs) = b3 at *
 refine Ae An Tryz.func48 (by decide +kernel) rfl [3,4,5] rfl rfl ?_
 refine bg [] rfl (by simp) ?_
 cases b with
 | false =>
  refine Ac rfl (fun _=>hW) (by simp) ?_
  refine bg [] rfl (by simp) ?_
  refine Ac rfl (fun _=>hF) (by simp [Af]) ?_
  refine bg [] rfl (by simp [Af]) ?_
  refine Ac (v:=.bool true) rfl (fun h=>by simp [Af] at h) (by simp [Af]) ?_
  refine bg [] rfl (by simp [Af]) ?_
  refine Aa rfl (fun h=>?_) (fun h=>by simp at h)
  refine bd [] rfl (by simp) ?_
  exact Ab ⟨_,rfl,tV rfl,trivial⟩
 | true =>
  refine Ac rfl (fun _=>hW) (by simp) ?_
  refine bg [] rfl (by simp) ?_
  refine Ac rfl (fun _=>hF) (by simp [Af]) ?_
  refine bg [] rfl (by simp [Af]) ?_
  refine Ac rfl (fun _=>hI rfl) (by simp [Af]) ?_
  refine bg [] rfl (by simp [Af]) ?_
  by_cases hh : (b2 && b3) = true
  case neg =>
   refine Aa rfl (fun h=>?_) (fun h=>by exfalso;apply hh;simp at h ⊢;grind)
   refine bd [] rfl (by simp) ?_
   rw [show (true && b2 && b3) = false by simpa using hh]
   exact Ab ⟨_,rfl,tV rfl,trivial⟩
  refine Aa rfl (fun h=>by exfalso;simp at h hh;grind) (fun h=>?_)
  refine bd [] rfl (by simp) ?_
  rw [show (true && b2 && b3) = true by simpa using hh]
  exact Ab ⟨_,rfl,tV rfl,trivial⟩
section
variable {n : Nat} {F : List Nat} {Q : DQ} {env env' : Env} {st st' : St} {ids ids' : List Nat} {k todo : List DI} {ob : List Prop}
end
def Z4 : Ty → Str
 | .mk _ _ x _=>x
def WY : Code → Option (Code × Code)
 | .rangeFunc _ _ a b=>some (a,b)
 | .seq x y=>match WY x with
  | some r=>some r
  | none=>WY y
 | .block _ c=>WY c
 | _=>none
def Z8 (f : Func) : Code:=match WY (Fh f 0) with
 | some (a,_)=>a
 | none=>.skip
def WW (f : Func) : Code:=match WY (Fh f 0) with
 | some (_,b)=>b
 | none=>.skip
end Go.Hk
namespace Go.Hk
open Go.Proofs
theorem Qa : Ue Tryz.prog 131 = true:=by kernel_rfl
mutual
def Co : Ty → Ty → List (Ty × Ty)
 | .mk f n x ps,v=>(.mk f n x ps,v) :: (bif decide (f = 6) && Bs (Bi (.mk f n x ps)) v then C9 ps (BF v) else [])
def C9 : List Ty → List Ty → List (Ty × Ty)
 | [],_=>[]
 | _ :: _,[]=>[]
 | p :: r,q :: s=>Co p q ++ C9 r s
end
inductive Yields2 (P : Program) : List (Ty × Ty) → Bun → Bool → Bun → Prop where
 | nil (S : Bun) : Yields2 P [] S true S
 | cons {d : Ty × Ty} {l : List (Ty × Ty)} {S S1 S2 : Bun} {r : Bool} (h : LL P [.imm (.agg (dTyc d.1)),.imm (.agg (dTyc d.2))] S true S1) (h1 : Yields2 P l S1 r S2) : Yields2 P (d :: l) S r S2
 | stop {d : Ty × Ty} {l : List (Ty × Ty)} {S S1 : Bun} (h : LL P [.imm (.agg (dTyc d.1)),.imm (.agg (dTyc d.2))] S false S1) : Yields2 P (d :: l) S false S1
theorem Yields2.split {P : Program} {l m : List (Ty × Ty)} {S S2 : Bun} {r : Bool} (h : Yields2 P (l ++ m) S r S2) : (∃ S1,Yields2 P l S true S1 ∧ Yields2 P m S1 r S2) ∨ (r = false ∧ Yields2 P l S false S2):=by
 induction l generalizing S with
 | nil=>exact .inl ⟨S,.nil S,h⟩
 | cons d l ih =>
  cases h with
  | cons h h1 =>
   rcases ih h1 with ⟨S1,q1,q2⟩ | ⟨q1,q2⟩
   ·exact .inl ⟨S1,.cons h q1,q2⟩
   ·exact .inr ⟨q1,.cons h q2⟩
  | stop h=>exact .inr ⟨rfl,.stop h⟩
theorem Yields2.nilInv {P : Program} {S S2 : Bun} {r : Bool} (h : Yields2 P [] S r S2) : r = true ∧ S2 = S:=by
 cases h;exact ⟨rfl,rfl⟩
def aP (r : St) : St:=(1,some (.cells 179 1 [.yld 3])) :: (2,some (.cells 179 1 [.fn (.func 109) [] [.ref 1 0,.ref 2 0]])) :: r
def goC (p v : Ty) (b : Bool) (S S' : Bun) : Prop:=AU Tryz.prog 109 [.imm (.agg (dTyc p)),.imm (.agg (dTyc v)),.ref 1 0,.ref 2 0]
 (aP [(3,some .pin),(4,some (.bun 3 S))]) (.ret (.imm (.bool b)) (aP [(3,some .pin),(5,some (.bun 3 S'))]))
theorem Nm (a b : Ty) : Bs a b = (match a,b with | .mk s n x _,.mk s' n' x' _=>(s == s') && ((n == n') && (x == x'))):=by
 obtain ⟨s,n,x,ps⟩:=a
 obtain ⟨s',n',x',ps'⟩:=b
 simp [Bs,Bool.and_assoc]
set_option maxHeartbeats 1000000 in
theorem XD : ∀ (p v : Ty) {b : Bool} {S S' : Bun},Ie p v = true → Yields2 Tryz.prog (Co p v) S b S' → goC p v b S S'
 | .mk f n x ps,.mk g m z vs,b,S,S',hok,hY=>by
  have hW:=Mk (.mk f n x ps)
  have hO:=Uw (.mk g m z vs)
  simp only [Co,BF] at hY
  simp only [Ie,BF] at hok
  have hE:=Nm (Bi (.mk f n x ps)) (.mk g m z vs)
  generalize Bs (Bi (.mk f n x ps)) (.mk g m z vs) = he at *
  generalize Bi (.mk f n x ps) = hd at *
  obtain ⟨hs,hn,hx,hps⟩:=hd
  simp only at hE
  refine Ae An Tryz.func109 (by decide +kernel) rfl [8,9,6,10,7,5] rfl rfl ?_
  refine bg [] rfl (by simp [Af]) ?_
  cases hY with
  | stop h =>
   refine UJ (j:=4) (j2:=6) rfl (by simp [Af]) trivial h rfl rfl rfl rfl rfl ?_
   refine bg [] rfl (by simp [Af]) ?_
   refine Aa rfl (fun h=>?_) (fun h=>by simp at h)
   refine bd [] rfl (by simp) ?_
   refine FT (ids':=[]) 6 5 rfl rfl ?_
   exact Ab ⟨_,rfl,tV rfl,rfl,rfl,rfl,rfl,trivial⟩
  | @cons _ _ _ S1 _ _ h hY =>
   refine UJ (j:=4) (j2:=6) rfl (by simp [Af]) trivial h rfl rfl rfl rfl rfl ?_
   refine bg [] rfl (by simp [Af]) ?_
   refine Aa rfl (fun h=>by simp at h) (fun h=>?_)
   refine bd [] rfl (by simp) ?_
   refine Ac rfl (fun _=>hW) (by simp [Af]) ?_
   refine bg [] rfl (by simp [Af]) ?_
   refine Ac rfl (fun _=>hO) (by simp [Af]) ?_
   refine bg [] rfl (by simp [Af]) ?_
   refine XJ An rfl Qa (by simp [Af]) ?_
   refine bg [] rfl (by simp [Af];rfl) ?_
   by_cases hg : f = 6 ∧ he = true
   case neg =>
    rw [show (bif decide (f = 6) && he then C9 ps vs else []) = [] by
     have : (decide (f = 6) && he) = false:=by simp;grind
     rw [this];rfl] at hY
    obtain ⟨rfl,rfl⟩:=hY.nilInv
    refine Aa rfl (fun h=>?_) (fun h=>by exfalso;apply hg;rw [hE];simp at h ⊢;grind)
    refine bd [] rfl (by simp) ?_
    refine FT (ids':=[]) 6 5 rfl rfl ?_
    exact Ab ⟨_,rfl,tV rfl,rfl,rfl,rfl,rfl,trivial⟩
   obtain ⟨rfl,rfl⟩:=hg
   have hE1 : (hs == g && (hn == m && hx == z)) = true:=hE.symm
   refine Aa rfl (fun h=>by exfalso;simp at h hE1;grind) (fun h=>?_)
   clear h
   rw [show (bif decide ((6 : Int) = 6) && true then C9 ps vs else []) = C9 ps vs from rfl] at hY
   simp only [show decide ((6 : Int) = 1) = false from rfl,show decide ((6 : Int) = 2) = false from rfl,Bool.not_true,Bool.false_or,Bool.and_eq_true] at hok
   obtain ⟨hlen,hok⟩:=hok
   have hlen : ps.length ≤ vs.length:=of_decide_eq_true hlen
   refine bd [] rfl (by simp) ?_
   refine Sc (t:=25) rfl fun hv=>?_
   have hpl : ps.length ≤ 9223372036854775807:=by simp [Dd,maxLen] at hv;omega
   refine Ah (fun y : Nat × Bun=>[(27,.imm (.int .i64 y.1)),(26,.imm (.int .i64 ps.length)),(25,.imm (.sl (A9 ps))),(3,.ref 2 0),(5,.ref 9 0)])
    (fun y=>aP [(3,some .pin),(6,some (.bun 3 y.2)),(9,some (.immb 33 4 (dTyc (.mk g m z vs))))]) [10,7,5] (fun y=>ps.length - y.1)
    (fun y=>y.1 ≤ ps.length ∧ Hd (ps.drop y.1) (vs.drop y.1) = true ∧ Yields2 Tryz.prog (C9 (ps.drop y.1) (vs.drop y.1)) y.2 b S') (0,S1) ⟨Nat.zero_le _,hok,hY⟩ ⟨rfl,As (by simp),rfl,rfl,rfl,trivial⟩ ⟨rfl,rfl,rfl,rfl,rfl,trivial⟩ rfl fun y hi ih=>?_
   obtain ⟨i,S0⟩:=y
   obtain ⟨hi1,hi2,hi3⟩:=hi
   simp only at hi1 hi2 hi3
   refine bd [] rfl (by simp [Af]) ?_
   refine Aa rfl (fun h=>?_) (fun h=>?_)
   ·simp at h
    obtain ⟨t,ht⟩:=Ai h
    obtain ⟨u,hu⟩:=Ai (l:=vs) (i:=i) (by omega)
    rw [Al ht,Al hu] at hi2 hi3
    simp only [Hd,Bool.and_eq_true] at hi2
    simp only [C9] at hi3
    refine bd [] rfl (by simp [Af]) ?_
    refine bi rfl (c:=dTyc t) (fun _=>⟨by simp,by simpa using Ao ht,by simp⟩) (by simp) ?_
    refine bg [] rfl (by simp [Af]) ?_
    refine bi rfl (c:=dTyc u) (fun _=>⟨by simp,by simpa using Ao hu,by simp⟩) (by simp) ?_
    refine bg [] rfl (by simp [Af]) ?_
    rcases Yields2.split hi3 with ⟨S2,q1,q2⟩ | ⟨q1,q2⟩
    ·refine Az (fr:=[7]) [(1,1),(2,2),(3,3),(6,4)] [(5,7)] rfl (by simp) (XD t u hi2.1 q1) ⟨⟨rfl,rfl,rfl⟩,⟨rfl,rfl,rfl⟩,⟨rfl,rfl,rfl⟩,⟨rfl,rfl,rfl⟩,trivial⟩ rfl rfl rfl rfl ?_
     refine bg [] rfl (by simp [Af];rfl) ?_
     refine Aa rfl (fun h=>by simp at h) (fun h=>?_)
     refine bd [] rfl (by simp) ?_
     refine AT 6 7 rfl ?_
     exact Ad (ih (i + 1,S2) (by simp only;omega) ⟨by simp only;omega,hi2.2,q2⟩) ⟨As (Bw (by simp only;omega) (by simp only;omega)),rfl,rfl,rfl,rfl,trivial⟩ ⟨rfl,rfl,rfl,rfl,rfl,trivial⟩ rfl
    ·subst q1
     refine Az (fr:=[7]) [(1,1),(2,2),(3,3),(6,4)] [(5,7)] rfl (by simp) (XD t u hi2.1 q2) ⟨⟨rfl,rfl,rfl⟩,⟨rfl,rfl,rfl⟩,⟨rfl,rfl,rfl⟩,⟨rfl,rfl,rfl⟩,trivial⟩ rfl rfl rfl rfl ?_
     refine bg [] rfl (by simp [Af];rfl) ?_
     refine Aa rfl (fun h=>?_) (fun h=>by simp at h)
     refine bd [] rfl (by simp) ?_
     refine FT (ids':=[]) 7 5 rfl rfl ?_
     exact Ab ⟨_,rfl,tV rfl,rfl,rfl,rfl,rfl,trivial⟩
   ·simp at h
    rw [(List.drop_eq_nil_of_le (by omega) : ps.drop i = [])] at hi3
    obtain ⟨rfl,rfl⟩:=hi3.nilInv
    refine Av rfl ?_
    refine bd [] rfl (by simp) ?_
    refine FT (ids':=[]) 6 5 rfl rfl ?_
    exact Ab ⟨_,rfl,tV rfl,rfl,rfl,rfl,rfl,trivial⟩
termination_by p=>SizeOf.sizeOf p
decreasing_by
 all_goals
  have:=List.sizeOf_lt_of_mem (List.mem_of_getElem? ht)
  simp_wf
  omega
def Dy (p v : Ty) : St:=[(6,some (.immb 50 4 (dTyc p))),(7,some (.immb 33 4 (dTyc v)))]
theorem Kv (p v : Ty) (hok : Ie p v = true) {b : Bool} {S S' : Bun} (hY : Yields2 Tryz.prog (Co p v) S b S') :
  AU Tryz.prog 108 [.yld 3,.ref 6 0,.ref 7 0] ((3,some .pin) :: (4,some (.bun 3 S)) :: Dy p v) (.ret (.tup []) ((3,some .pin) :: (5,some (.bun 3 S')) :: Dy p v)):=by
 refine Ae An Tryz.func108 (by decide +kernel) rfl [1,2,8,5] rfl rfl ?_
 obtain ⟨q1,q2,q3,q4⟩:=p
 obtain ⟨u1,u2,u3,u4⟩:=v
 refine bg [] rfl (by simp [Af]) ?_
 refine Az (fr:=[8]) [(1,1),(2,2),(3,3),(4,4)] [(5,8)] rfl (by simp) (XD _ _ hok hY) ⟨⟨rfl,rfl,rfl⟩,⟨rfl,rfl,rfl⟩,⟨rfl,rfl,rfl⟩,⟨rfl,rfl,rfl⟩,trivial⟩ rfl rfl rfl rfl ?_
 refine bg [] rfl (by simp [Af]) ?_
 refine FT (ids':=[]) 8 5 rfl rfl ?_
 exact B3 ⟨[],rfl,rfl,rfl,rfl,rfl,rfl,trivial⟩
theorem ME (p v : Ty) : AU Tryz.prog 78 [.imm (.agg (dTyc p)),.imm (.agg (dTyc v))] [] (.ret (.fn (.func 108) [] [.ref 6 0,.ref 7 0]) (Dy p v)):=by
 refine Ae An Tryz.func78 (by decide +kernel) rfl [6,7] rfl rfl ?_
 obtain ⟨q1,q2,q3,q4⟩:=p
 obtain ⟨u1,u2,u3,u4⟩:=v
 refine bg [] rfl (by simp [Af]) ?_
 exact Ab ⟨_,rfl,rfl,rfl,rfl,trivial⟩
def Lt : Ty → Int
 | .mk s _ _ _=>s
def EB (l : List (Str × Ty)) (d : Ty × Ty) : Option (List (Str × Ty)) :=
 if Lt d.1 = 2 then some (l ++ [(Z4 d.1,d.2)]) else if Lt d.1 ≠ 1 ∧ Bs (Bi d.1) d.2 = false then none else some l
def Dq : List (Str × Ty) → List (Ty × Ty) → List (Str × Ty) × Bool
 | l,[]=>(l,true)
 | l,d :: r=>match EB l d with
  | some l'=>Dq l' r
  | none=>(l,false)
theorem QC (l : List (Str × Ty)) (f n : Int) (t : Str) (ps : List Ty) (u : Ty) : (f = 2 → EB l (.mk f n t ps,u) = some (l ++ [(t,u)])) ∧
  (f ≠ 2 → f ≠ 1 ∧ Bs (Bi (.mk f n t ps)) u = false → EB l (.mk f n t ps,u) = none) ∧ (f ≠ 2 → ¬ (f ≠ 1 ∧ Bs (Bi (.mk f n t ps)) u = false) → EB l (.mk f n t ps,u) = some l):=by
 have h0 : Lt (.mk f n t ps) = f:=rfl
 have h1 : Z4 (.mk f n t ps) = t:=rfl
 refine ⟨fun h=>?_,fun h h'=>?_,fun h h'=>?_⟩
 ·simp only [EB,h0,h1];rw [if_pos h]
 ·simp only [EB,h0,h1];rw [if_neg h,if_pos h']
 ·simp only [EB,h0,h1];rw [if_neg h,if_neg h']
def LQ : List (Str × Ty) → St
 | []=>[(3,some (.cells 37 1 [.nils])),(4,some (.immb 4 1 [.bool false])),(5,some (.cells 37 1 [.nils]))]
 | b :: r=>[(3,some (.cells 37 1 [.nils])),(4,some (.immb 4 1 [.bool false])),(5,some (.cells 37 1 [.own 8 (A7 (b :: r)).length])),(8,some (.row 60 5 (A7 (b :: r))))]
set_option maxHeartbeats 1000000 in
theorem Z3 (l : List (Str × Ty)) (x u : Ty) (hlen : l.length ≤ 1000000) {L : Iv} (h1 : Tryz.prog.funcs[L.fn]?.isSome) (h2 : L.tmps.size = Tryz.f50.ntmps) (h3 : L.ps = #[12,13]) (h4 : L.asg = Z8 Tryz.f50)
  (h5 : L.body = WW Tryz.f50) (h6 : L.E = [(4,.ref 3 0),(5,.ref 4 0),(6,.ref 5 0)]) (h7 : L.F = []) :
  (∀ l',EB l (x,u) = some l' → LL Tryz.prog [.imm (.agg (dTyc x)),.imm (.agg (dTyc u))] (BC L (LQ l) none) true (BC L (LQ l') none)) ∧
  (EB l (x,u) = none → LL Tryz.prog [.imm (.agg (dTyc x)),.imm (.agg (dTyc u))] (BC L (LQ l) none) false (BC L (LQ l) (some .ret))):=by
 obtain ⟨fc,hf⟩:=Option.isSome_iff_exists.1 h1
 have hW:=Mk x
 have hO:=Uw u
 have hE:=Nm (Bi x) u
 obtain ⟨f,n,t,ps⟩:=x
 have hst:=QC l f n t ps u
 generalize Bs (Bi (.mk f n t ps)) u = he at *
 generalize Bi (.mk f n t ps) = hd at *
 obtain ⟨hs,hn,hx,hps⟩:=hd
 obtain ⟨g,m,z,vs⟩:=u
 simp only at hE
 obtain ⟨hst1,hst2,hst3⟩:=hst
 have hfree : Nr [9,10,11,12,13] L.E (LQ l) L.F:=by
  rw [h6,h7]
  cases l <;> refine ⟨by decide,?_⟩ <;> simp [LQ,Rf,HE,D5,PQ,GN]
 have hasg : ∀ stx,H8 Tryz.prog Tryz.f50.ntmps L.asg ((13,.imm (.agg (dTyc (.mk g m z vs)))) :: (12,.imm (.agg (dTyc (.mk f n t ps)))) :: L.E) stx [9,10,11,12,13] _ _ _:=fun stx=>by
  rw [h4]
  exact UT (Ma An rfl rfl rfl rfl (by simp) (by simp)) (Ma An rfl rfl rfl rfl (by simp) (by simp))
 by_cases h22 : f = 2
 ·subst h22
  refine ⟨fun l' hl'=>?_,fun h=>by rw [hst1 rfl] at h;cases h⟩
  rw [hst1 rfl] at hl';cases hl'
  refine Nx (pend:=none) hf h3 h2 rfl rfl (by decide) (by decide) hfree (hasg _) ?_
  rw [h5,h6,h7]
  cases l with
  | nil =>
   refine bd [] rfl (by simp [Af]) ?_
   refine Aa rfl (fun h=>?_) (fun h=>by simp at h)
   refine bd [] rfl (by simp [Af]) ?_
   refine AZ An rfl ⟨by simp,by simp [maxLen],by simp,trivial⟩ ?_
   refine bg [] rfl (by simp [Af]) ?_
   refine AT 8 11 rfl ?_
   exact B3 (⟨rfl,rfl,rfl,rfl,trivial⟩ : E9 _ (LQ ([] ++ [(t,.mk g m z vs)])))
  | cons b r =>
   refine bd [] rfl (by simp [Af]) ?_
   refine Aa rfl (fun h=>?_) (fun h=>by simp at h)
   refine bd [] rfl (by simp [Af]) ?_
   refine AZ An rfl ⟨by simp,by simp [maxLen] at hlen ⊢;omega,by simp at hlen ⊢;omega,trivial⟩ ?_
   refine bg [] rfl (by simp [Af]) ?_
   refine AT 8 11 rfl ?_
   refine B3 (?_ : E9 _ (LQ (b :: r ++ [(t,.mk g m z vs)])))
   have e : A7 (b :: (r ++ [(t,.mk g m z vs)])) = A7 (b :: r) ++ [CH (t,.mk g m z vs)]:=by simp [A7]
   simp only [LQ,List.cons_append,e]
   exact ⟨rfl,rfl,by simp only [List.length_append];rfl,rfl,trivial⟩
 have hst2:=hst2 h22
 have hst3:=hst3 h22
 have key : ∀ (pend : Option Code) (hh : (f ≠ 1 ∧ he = false) ↔ pend.isSome = true) (hp : pend = none ∨ pend = some .ret),
   LL Tryz.prog [.imm (.agg (dTyc (.mk f n t ps))),.imm (.agg (dTyc (.mk g m z vs)))] (BC L (LQ l) none) pend.isNone (BC L (LQ l) pend):=by
  intro pend hh hp
  refine Nx (pend:=pend) hf h3 h2 rfl rfl (by decide) (by decide) hfree (hasg _) ?_
  rw [h5,h6,h7]
  refine bd [] rfl (by simp [Af]) ?_
  refine Aa rfl (fun h=>absurd (by simpa using h) h22) (fun h=>?_)
  clear h
  refine bd [] rfl (by simp [Af]) ?_
  refine Ac rfl (fun _=>hW) (by simp [Af]) ?_
  refine bg [] rfl (by simp [Af]) ?_
  refine Ac rfl (fun _=>hO) (by simp [Af]) ?_
  refine bg [] rfl (by simp [Af]) ?_
  refine XJ An rfl Qa (by simp [Af]) ?_
  refine bg [] rfl (by simp [Af];rfl) ?_
  rcases hp with rfl | rfl
  ·refine Aa rfl (fun h=>?_) (fun h=>?_)
   ·exfalso
    have : ¬ (f ≠ 1 ∧ he = false):=fun q=>by have:=hh.1 q;cases this
    apply this
    simp at h
    refine ⟨h.1,?_⟩
    rw [hE]
    simp
    grind
   ·refine bd [] rfl (by simp [Af]) ?_
    refine B3 (?_ : E9 _ (LQ l))
    cases l <;> exact ⟨rfl,rfl,rfl,by first | trivial | exact ⟨rfl,trivial⟩⟩
  ·have hq:=hh.2 rfl
   refine Aa rfl (fun h=>?_) (fun h=>?_)
   ·cases l with
    | nil =>
     refine bd [] rfl (by simp [Af]) ?_
     exact Ab (⟨rfl,rfl,rfl,trivial⟩ : E9 _ (LQ []))
    | cons b r =>
     refine bd [] rfl (by simp [Af]) ?_
     exact Ab (⟨rfl,rfl,rfl,rfl,trivial⟩ : E9 _ (LQ (b :: r)))
   ·exfalso
    obtain ⟨q1,q2⟩:=hq
    rw [q2] at hE
    simp at h hE
    grind
 refine ⟨fun l' hl'=>?_,fun h=>?_⟩
 ·have hn : ¬ (f ≠ 1 ∧ he = false):=fun hq=>by rw [hst2 hq] at hl';cases hl'
  rw [hst3 hn] at hl';cases hl'
  exact key none ⟨fun h=>absurd h hn,fun h=>by cases h⟩ (.inl rfl)
 ·have hn : f ≠ 1 ∧ he = false:=by
   by_cases hq : f ≠ 1 ∧ he = false
   ·exact hq
   ·rw [hst3 hq] at h;cases h
  exact key (some .ret) ⟨fun _=>rfl,fun _=>hn⟩ (.inr rfl)
theorem Vk {l l' : List (Str × Ty)} {d : Ty × Ty} (h : EB l d = some l') : l'.length ≤ l.length + 1:=by
 unfold EB at h
 split at h
 ·cases h;simp
 ·split at h
  ·cases h
  ·cases h;omega
theorem NL {L : Iv} (h1 : Tryz.prog.funcs[L.fn]?.isSome) (h2 : L.tmps.size = Tryz.f50.ntmps) (h3 : L.ps = #[12,13]) (h4 : L.asg = Z8 Tryz.f50)
  (h5 : L.body = WW Tryz.f50) (h6 : L.E = [(4,.ref 3 0),(5,.ref 4 0),(6,.ref 5 0)]) (h7 : L.F = []) : ∀ (items : List (Ty × Ty)) (l : List (Str × Ty)),l.length + items.length ≤ 1000000 →
  Yields2 Tryz.prog items (BC L (LQ l) none) (Dq l items).2 (BC L (LQ (Dq l items).1) (bif (Dq l items).2 then none else some .ret))
 | [],l,_=>.nil _
 | d :: r,l,hl=>by
  simp only [List.length_cons] at hl
  obtain ⟨q1,q2⟩:=Z3 l d.1 d.2 (by omega) h1 h2 h3 h4 h5 h6 h7
  cases hs : EB l d with
  | none =>
   rw [show Dq l (d :: r) = (l,false) by simp only [Dq,hs]]
   exact .stop (q2 hs)
  | some l' =>
   rw [show Dq l (d :: r) = Dq l' r by simp only [Dq,hs]]
   have:=Vk hs
   exact .cons (q1 l' hs) (NL h1 h2 h3 h4 h5 h6 h7 r l' (by omega))
set_option maxHeartbeats 1000000 in
theorem X1 (p v : Ty) (hok : Ie p v = true) (hN : (Co p v).length ≤ 1000000) : PureC Tryz.prog 50 [.agg (dTyc p),.agg (dTyc v)] (.tup [.sl (A7 (bif (Dq [] (Co p v)).2 then (Dq [] (Co p v)).1 else [])),.bool (Dq [] (Co p v)).2]):=by
 have hP:=ME p v
 have hP1:=fun b S S' h=>Kv p v hok (b:=b) (S:=S) (S':=S') h
 have hY:=fun L h1 h2 h3 h4 h5 h6 h7=>NL (L:=L) h1 h2 h3 h4 h5 h6 h7 (Co p v) [] (by simpa using hN)
 obtain ⟨q1,q2,q3,q4⟩:=p
 obtain ⟨u1,u2,u3,u4⟩:=v
 generalize Dq [] (Co (.mk q1 q2 q3 q4) (.mk u1 u2 u3 u4)) = r at *
 obtain ⟨l,b⟩:=r
 simp only at hY ⊢
 refine Ae An Tryz.func50 (by decide +kernel) rfl [1,2,3,4,5,6,7,8,9,10,11,12,13] rfl rfl ?_
 refine bg [] rfl (by simp) ?_
 refine Az (st0:=[]) (fr:=[6,7]) [] [(6,6),(7,7)] rfl (by simp) hP trivial rfl rfl rfl rfl ?_
 refine bd [] rfl (by simp) ?_
 refine KA (y:=3) (j:=4) (j2:=5) (stc:=Dy (.mk q1 q2 q3 q4) (.mk u1 u2 u3 u4)) (stc':=Dy (.mk q1 q2 q3 q4) (.mk u1 u2 u3 u4)) (stx:=LQ []) (stB:=LQ l) (pend:=bif b then none else some .ret) (E:=[(4,.ref 3 0),(5,.ref 4 0),(6,.ref 5 0)]) (ids':=[9,10,11,12,13]) (d:=.tup []) rfl Tryz.func108 (by decide +kernel) rfl (by decide) ⟨rfl,rfl,rfl,trivial⟩
   (CN ⟨rfl,rfl,rfl,rfl,rfl,trivial⟩) (fun L h1 h2 h3 h4 h5 h6 h7=>?_) ?_ ?_ ?_ ?_ ?_
 ·exact hP1 b _ _ (hY L h1 h2 h3 h4 h5 h6 h7)
 ·simp [Dy,LQ,Dk]
 ·simp [Dy,Dk]
 ·intro i hi
  have e : GN (Em (CZ (A8 [] ++ [(6,6),(7,7)])) [] ++ Em (CZ (A8 [] ++ [(6,6),(7,7)])) [.ref 6 0,.ref 7 0]) = [6,7]:=rfl
  rw [e] at hi
  simpa [Dy,Dk,D5,PQ,GN,HE] using hi
 ·cases l <;> refine ⟨by decide,?_⟩ <;> simp [LQ,Rf,HE,D5,PQ,GN,Dk]
 ·cases b with
  | false =>
   cases l <;> exact Ab ⟨_,rfl,tV rfl,trivial⟩
  | true =>
   cases l with
   | nil =>
    refine bd [] rfl (by simp [Af]) ?_
    exact Ab ⟨_,rfl,tV rfl,trivial⟩
   | cons x r =>
    refine Bu 8 rfl ?_
    refine bd [] rfl (by simp [Af]) ?_
    exact Ab ⟨_,rfl,tV rfl,trivial⟩
theorem N4 : ∀ v : Ty,Ak v ≤ 1000000 → PureC Tryz.prog 51 [.agg (dTyc v)] (.agg (dTyc v))
 | .mk s n x ps,hN=>by
  refine A2 fun hv=>?_
  simp [Bt,Dd,dTyc,maxLen] at hv
  simp only [Ak] at hN
  have hpl : ps.length ≤ 1000000:=by
   have : ∀ l : List Ty,l.length ≤ Ag l:=fun l=>by
    induction l with
    | nil=>simp
    | cons t r ih=>obtain ⟨a,b,c,d⟩:=t;simp only [Ag,Ak,List.length_cons];omega
   have:=this ps;omega
  refine Ae An Tryz.func51 (by decide +kernel) rfl [1,2,3,4,5,6] rfl rfl ?_
  refine bg [] rfl (by simp) ?_
  refine Hx (e:=33) (sz:=4) 3 3 (by decide) rfl ?_
  refine Ah (fun i : Nat=>[(9,.imm (.int .i64 i)),(8,.imm (.int .i64 ps.length)),(7,.imm (.sl (A9 ps))),(3,.own 3 (A9 (ps.take i)).length),(1,.ref 1 0),(2,.ref 2 0)])
   (fun i=>[(3,some (.row 33 4 (A9 (ps.take i)))),(1,some (.immb 33 4 (dTyc (.mk s n x ps)))),(2,some (.cells 33 4 [.imm (.int .i64 0),.imm (.int .i64 0),.imm (.str []),.nils]))]) [4,5,6] (fun i=>ps.length - i)
   (fun i=>i ≤ ps.length) 0 (Nat.zero_le _) ⟨rfl,As (by simp),rfl,rfl,rfl,rfl,trivial⟩ ⟨rfl,rfl,rfl,trivial⟩ rfl fun i hi ih=>?_
  refine bd [] rfl (by simp) ?_
  refine Aa rfl (fun h=>?_) (fun h=>?_)
  ·simp at h
   obtain ⟨t,ht⟩:=Ai h
   have hb:=Bb ht
   refine bd [] rfl (by simp) ?_
   refine bi rfl (c:=dTyc t) (fun _=>⟨by simp,by simpa using Ao ht,by simp⟩) (by simp) ?_
   refine bg [] rfl (by simp) ?_
   refine Ac rfl (fun _=>N4 t (by omega)) (by simp) ?_
   refine bg [] rfl (by simp) ?_
   refine AZ An rfl ⟨by simp,by simp [maxLen];omega,by simp;omega,trivial⟩ ?_
   refine bg [] rfl (by simp) ?_
   refine AT 3 5 rfl ?_
   have et : A9 (ps.take (i + 1)) = A9 (ps.take i) ++ [dTyc t]:=by rw [AI ht,DZ];simp [A9]
   exact Ad (ih (i + 1) (by omega) (by omega)) ⟨As (Bw (by omega) (by omega)),rfl,rfl,by rw [et];rfl,rfl,rfl,trivial⟩ ⟨by rw [et];rfl,rfl,rfl,trivial⟩ rfl
  ·simp at h
   refine Av rfl ?_
   rw [List.take_of_length_le h]
   refine Bu 3 rfl ?_
   refine bd [] rfl (by simp) ?_
   exact Ab ⟨_,rfl,tV rfl,trivial⟩
termination_by v=>SizeOf.sizeOf v
decreasing_by
 have:=List.sizeOf_lt_of_mem (List.mem_of_getElem? ht)
 simp_wf
 omega
def FF (d : Ty × Ty) : Bool:=decide (Lt d.1 ≠ 1) && decide (Lt d.1 ≠ 2) && !Bs (Bi d.1) d.2
theorem SE (l : List (Str × Ty)) (d : Ty × Ty) : (EB l d).isSome = !FF d:=by
 unfold EB FF
 by_cases h2 : Lt d.1 = 2
 ·rw [if_pos h2];simp [h2]
 ·rw [if_neg h2]
  by_cases h1 : Lt d.1 ≠ 1 ∧ Bs (Bi d.1) d.2 = false
  ·rw [if_pos h1];simp [h1,h2]
  ·rw [if_neg h1]
   simp only [Option.isSome_some]
   by_cases h3 : Lt d.1 = 1
   ·simp [h3]
   ·have : Bs (Bi d.1) d.2 = true:=by cases hh : Bs (Bi d.1) d.2;exact absurd ⟨h3,hh⟩ h1;rfl
    simp [this]
theorem QK : ∀ (items : List (Ty × Ty)) (l : List (Str × Ty)),(Dq l items).2 = items.all fun d=>!FF d
 | [],l=>rfl
 | d :: r,l=>by
  have:=SE l d
  simp only [Dq,List.all_cons]
  cases hs : EB l d with
  | none=>rw [hs] at this;simp at this;simp [this]
  | some l'=>rw [hs] at this;simp at this;simp [this,QK r l']
def M4 : Code → Option (Code × Code)
 | .rangeFunc _ _ a b=>some (a,b)
 | .seq x y=>match M4 x with
  | some r=>some r
  | none=>M4 y
 | .block _ c=>M4 c
 | .scope c=>M4 c
 | .loop c=>M4 c
 | _=>none
def WX (f : Func) : Code:=match M4 (Fh f 0) with
 | some (a,_)=>a
 | none=>.skip
def Uj (f : Func) : Code:=match M4 (Fh f 0) with
 | some (_,b)=>b
 | none=>.skip
def Vl (v : Ty) : St:=[(1,some (.immb 33 4 (dTyc v)))]
def eR (c : Cse) (sz : List (List V)) (i : Nat) : Env:=[(5,.imm (.int .i64 i)),(15,.imm (.int .i64 i)),(14,.imm (.int .i64 c.rows.length)),(13,.imm (.sl (A9 c.rows))),(0,.imm (Ck c sz)),(3,.ref 1 0)]
set_option maxHeartbeats 1000000 in
theorem UX (c : Cse) (sz : List (List V)) (i : Nat) (v x u : Ty) {L : Iv} (h1 : Tryz.prog.funcs[L.fn]?.isSome) (h2 : L.tmps.size = Tryz.f52.ntmps) (h3 : L.ps = #[23,24]) (h4 : L.asg = WX Tryz.f52)
  (h5 : L.body = Uj Tryz.f52) (h6 : L.E = eR c sz i) (h7 : L.F = []) (pend : Option Code) (hp : pend = none ∨ pend = some (.exit 1)) (hh : FF (x,u) = pend.isSome) :
  LL Tryz.prog [.imm (.agg (dTyc x)),.imm (.agg (dTyc u))] (BC L (Vl v) none) pend.isNone (BC L (Vl v) pend):=by
 obtain ⟨fc,hf⟩:=Option.isSome_iff_exists.1 h1
 have hW:=Mk x
 have hO:=Uw u
 have hE:=Nm (Bi x) u
 obtain ⟨f,n,t,ps⟩:=x
 have hs : FF (.mk f n t ps,u) = (decide (f ≠ 1) && decide (f ≠ 2) && !Bs (Bi (.mk f n t ps)) u):=rfl
 rw [hs] at hh
 clear hs
 generalize Bs (Bi (.mk f n t ps)) u = he at *
 generalize Bi (.mk f n t ps) = hd at *
 obtain ⟨hs,hn,hx,hps⟩:=hd
 obtain ⟨g,m,z,vs⟩:=u
 simp only at hE
 have hfree : Nr [9,10,11,12,13] L.E (Vl v) L.F:=by
  rw [h6,h7]
  refine ⟨by decide,?_⟩
  simp [Vl,eR,Rf,HE,D5,PQ,GN]
 have hasg : ∀ stx,H8 Tryz.prog Tryz.f52.ntmps L.asg ((24,.imm (.agg (dTyc (.mk g m z vs)))) :: (23,.imm (.agg (dTyc (.mk f n t ps)))) :: L.E) stx [9,10,11,12,13] _ _ _:=fun stx=>by
  rw [h4]
  exact UT (Ma An rfl rfl rfl rfl (by simp) (by simp)) (Ma An rfl rfl rfl rfl (by simp) (by simp))
 refine Nx (pend:=pend) hf h3 h2 rfl rfl (by decide) (by decide) hfree (hasg _) ?_
 rw [h5,h6,h7]
 refine bd [] rfl (by simp [Af]) ?_
 refine Ac rfl (fun _=>hW) (by simp [Af]) ?_
 refine bg [] rfl (by simp [Af]) ?_
 refine Ac rfl (fun _=>hO) (by simp [Af]) ?_
 refine bg [] rfl (by simp [Af]) ?_
 refine XJ An rfl Qa (by simp [Af]) ?_
 refine bg [] rfl (by simp [Af];rfl) ?_
 rcases hp with rfl | rfl
 ·refine Aa rfl (fun h=>?_) (fun h=>?_)
  ·exfalso
   rw [hE] at hh
   simp at h hh
   grind
  ·refine bd [] rfl (by simp [Af]) ?_
   exact B3 (⟨rfl,trivial⟩ : E9 _ (Vl v))
 ·refine Aa rfl (fun h=>?_) (fun h=>?_)
  ·refine bd [] rfl (by simp [Af]) ?_
   exact Sd rfl (⟨rfl,rfl,trivial⟩ : (1 : Nat) = 1 ∧ E9 _ (Vl v))
  ·exfalso
   rw [hE] at hh
   simp at h hh
   grind
theorem SB (c : Cse) (sz : List (List V)) (i : Nat) (v : Ty) {L : Iv} (h1 : Tryz.prog.funcs[L.fn]?.isSome) (h2 : L.tmps.size = Tryz.f52.ntmps) (h3 : L.ps = #[23,24]) (h4 : L.asg = WX Tryz.f52)
  (h5 : L.body = Uj Tryz.f52) (h6 : L.E = eR c sz i) (h7 : L.F = []) : ∀ (items : List (Ty × Ty)),
  Yields2 Tryz.prog items (BC L (Vl v) none) (items.all fun d=>!FF d) (BC L (Vl v) (bif items.all fun d=>!FF d then none else some (.exit 1)))
 | []=>.nil _
 | d :: r=>by
  cases hs : FF d with
  | true =>
   rw [show ((d :: r).all fun d=>!FF d) = false by simp [hs]]
   exact .stop (UX c sz i v d.1 d.2 h1 h2 h3 h4 h5 h6 h7 (some (.exit 1)) (.inr rfl) hs)
  | false =>
   rw [show ((d :: r).all fun d=>!FF d) = r.all fun d=>!FF d by simp [hs]]
   exact .cons (UX c sz i v d.1 d.2 h1 h2 h3 h4 h5 h6 h7 none (.inl rfl) hs) (SB c sz i v h1 h2 h3 h4 h5 h6 h7 r)
def Uh (v p : Ty) : Bool:=(Co p v).all fun d=>!FF d
def F8 (v : Ty) : Nat → List Ty → Int
 | _,[]=>-1
 | i,p :: r=>bif Uh v p then (i : Int) else F8 v (i + 1) r
set_option maxHeartbeats 1000000 in
theorem ZY (c : Cse) (sz : List (List V)) (v : Ty) (hok : ∀ p ∈ c.rows,Ie p v = true) : PureC Tryz.prog 52 [Ck c sz,.agg (dTyc v)] (.int .i64 (F8 v 0 c.rows)):=by
 have hP:=fun p=>ME p v
 have hP1:=fun p hok b S S' h=>Kv p v hok (b:=b) (S:=S) (S':=S') h
 have hY:=fun i L h1 h2 h3 h4 h5 h6 h7 items=>SB c sz i v (L:=L) h1 h2 h3 h4 h5 h6 h7 items
 have hrl : PureC Tryz.prog 52 [Ck c sz,.agg (dTyc v)] (.int .i64 (F8 v 0 c.rows)) ↔ PureC Tryz.prog 52 [Ck c sz,.agg (dTyc v)] (.int .i64 (F8 v 0 c.rows)):=Iff.rfl
 clear hrl
 obtain ⟨ds,⟨c1,c2,c3,c4⟩,rows⟩:=c
 obtain ⟨g,m,z,vs⟩:=v
 simp only at hok ⊢
 refine Ae An Tryz.func52 (by decide +kernel) rfl [1,2,6,7,9,10,11,12,13] rfl rfl ?_
 refine bg [] rfl (by simp) ?_
 refine Sc (t:=13) rfl fun hv=>?_
 have hlen : rows.length ≤ 9223372036854775807:=by simp [Dd,maxLen] at hv;omega
 refine Ah (fun i : Nat=>[(15,.imm (.int .i64 i)),(14,.imm (.int .i64 rows.length)),(13,.imm (.sl (A9 rows))),(0,.imm (Ck ⟨ds,.mk c1 c2 c3 c4,rows⟩ sz)),(3,.ref 1 0)]) (fun _=>Vl (.mk g m z vs)) [2,6,7,9,10,11,12,13] (fun i=>rows.length - i)
  (fun i=>i ≤ rows.length ∧ F8 (.mk g m z vs) 0 rows = F8 (.mk g m z vs) i (rows.drop i)) 0 ⟨Nat.zero_le _,rfl⟩ ⟨rfl,As (by simp),rfl,rfl,rfl,trivial⟩ ⟨rfl,trivial⟩ rfl fun i hi ih=>?_
 obtain ⟨hi1,hi2⟩:=hi
 refine bd [] rfl (by simp) ?_
 refine Aa rfl (fun h=>?_) (fun h=>?_)
 ·simp at h
  obtain ⟨p,hp⟩:=Ai h
  rw [Al hp] at hi2
  simp only [F8] at hi2
  have hokp:=hok p (List.mem_of_getElem? hp)
  refine bd [] rfl (by simp) ?_
  refine bi rfl (c:=dTyc p) (fun _=>⟨by simp,by simpa using Ao hp,by simp⟩) (by simp) ?_
  refine bg [] rfl (by simp) ?_
  refine Az (st0:=[]) (fr:=[6,7]) [] [(6,6),(7,7)] rfl (by simp) (hP p) trivial rfl rfl rfl rfl ?_
  refine bd [] rfl (by simp) ?_
  have hro : ((Co p (.mk g m z vs)).all fun d=>!FF d) = Uh (.mk g m z vs) p:=rfl
  generalize Uh (.mk g m z vs) p = b at *
  refine KA (y:=3) (j:=4) (j2:=5) (stc:=Dy p (.mk g m z vs)) (stc':=Dy p (.mk g m z vs)) (stx:=Vl (.mk g m z vs)) (stB:=Vl (.mk g m z vs)) (pend:=bif b then none else some (.exit 1)) (E:=eR ⟨ds,.mk c1 c2 c3 c4,rows⟩ sz i) (ids':=[2,6,7,9,10,11,12,13]) (d:=.tup []) rfl Tryz.func108 (by decide +kernel) rfl (by decide) ⟨rfl,rfl,rfl,rfl,rfl,rfl,trivial⟩
   (CN ⟨rfl,rfl,rfl,trivial⟩) (fun L h1 h2 h3 h4 h5 h6 h7=>?_) ?_ ?_ ?_ ?_ ?_
  ·have:=hY i L h1 h2 h3 h4 h5 h6 h7 (Co p (.mk g m z vs))
   rw [hro] at this
   exact hP1 p hokp b _ _ this
  ·simp [Dy,Vl,Dk]
  ·simp [Dy,Dk]
  ·intro k hk
   have e : GN (Em (CZ (A8 [] ++ [(6,6),(7,7)])) [] ++ Em (CZ (A8 [] ++ [(6,6),(7,7)])) [.ref 6 0,.ref 7 0]) = [6,7]:=rfl
   rw [e] at hk
   simpa [Dy,Dk,D5,PQ,GN,HE] using hk
  ·refine ⟨by decide,?_⟩
   simp [Vl,eR,Rf,HE,D5,PQ,GN,Dk]
  ·cases b with
   | true =>
    rw [hi2]
    refine bd [] rfl (by simp [Af]) ?_
    exact Ab ⟨_,rfl,tV rfl,trivial⟩
   | false =>
    refine Av rfl ?_
    refine bd [] rfl (by simp [Af]) ?_
    exact Ad (ih (i + 1) (by omega) ⟨by omega,hi2⟩) ⟨As (Bw (by omega) (by omega)),rfl,rfl,rfl,rfl,trivial⟩ ⟨rfl,trivial⟩ rfl
 ·simp at h
  refine Av rfl ?_
  refine bd [] rfl (by simp) ?_
  rw [hi2,List.drop_eq_nil_of_le (by omega)]
  exact Ab ⟨_,rfl,tV rfl,trivial⟩
theorem EK {s n : Int} {x : Str} {k : Nat} (h : Cz s n x k = true) : (s = 1 ∨ s = 2 ∨ s = 3 ∨ s = 4 ∨ s = 5 ∨ s = 6) ∧ (s ≠ 6 → k = 0):=by
 unfold Cz at h
 split at h
 ·simp at h;grind
 ·split at h
  ·simp at h;grind
  ·split at h
   ·simp at h;grind
   ·split at h
    ·simp at h;grind
    ·split at h
     ·simp at h;grind
     ·cases h
mutual
theorem LT (ds : List Dt) : ∀ p t v : Ty,AH p = true → BR ds t p = true → Rb ds t v = true → Ie p v = true
 | .mk f n x ps,.mk so m x0 qs,.mk g k z vs,hw,hp,hv=>by
  simp only [AH,Bool.and_eq_true] at hw
  obtain ⟨hk1,hk2⟩:=EK hw.1
  simp only [Ie,BF]
  by_cases h1 : f = 1
  ·simp [h1]
  by_cases h2 : f = 2
  ·simp [h2]
  simp only [h1,h2,decide_false,Bool.false_or]
  cases he : Bs (Bi (.mk f n x ps)) (.mk g k z vs) with
  | false=>rfl
  | true =>
   simp only [Bool.not_true,Bool.false_or,Bool.and_eq_true]
   by_cases h6 : f = 6
   ·subst h6
    simp only [Bi,Bs] at he
    simp at he
    obtain ⟨⟨e1,e2⟩,e3⟩:=he
    subst e3
    rw [Kt] at hp
    rw [ST] at hv
    simp only [HC,V2,← e1] at hp hv
    simp at hp hv
    obtain ⟨p1,p2,p3⟩:=hp
    have h8 : so = 8:=by
     unfold Ce at p2
     cases hc : decide (0 ≤ (Cg ds (.mk so m x0 qs) x).2) with
     | false=>rw [hc] at p2;simp at p2
     | true =>
      simp only [Cg] at hc
      by_cases h8 : so = 8
      ·exact h8
      ·simp [h8] at hc
    subst h8
    simp at hv
    exact ⟨decide_eq_true (by omega),QZ ds ps _ vs p1 hw.2 p3 hv.2.2⟩
   ·have:=hk2 h6
    have hps : ps = []:=List.eq_nil_of_length_eq_zero this
    subst hps
    simp [Hd]
theorem QZ (ds : List Dt) : ∀ ps ts vs : List Ty,ts.length = ps.length → AE ps = true → BV ds ts ps = true → GM ds ts vs = true → Hd ps vs = true
 | [],_,_,_,_,_,_=>rfl
 | _ :: _,_,[],_,_,_,_=>rfl
 | p :: r,[],v :: s,hl,_,_,_=>by simp at hl
 | p :: r,a :: ts,v :: s,hl,hw,hp,hv=>by
  simp only [AE,BV,GM,Hd,Bool.and_eq_true] at hw hp hv ⊢
  exact ⟨LT ds p a v hw.1 hp.1 hv.1,QZ ds r ts s (by simpa using hl) hw.2 hp.2 hv.2⟩
end
mutual
theorem O8 : ∀ p v : Ty,(Co p v).length ≤ Ak p
 | .mk f n x ps,v=>by
  have:=MF ps (BF v)
  simp only [Co,Ak,List.length_cons]
  cases decide (f = 6) && Bs (Bi (.mk f n x ps)) v
  ·simp
  ·simp;omega
theorem MF : ∀ ps vs : List Ty,(C9 ps vs).length ≤ Ag ps
 | [],_=>by simp [C9]
 | _ :: _,[]=>by simp [C9]
 | p :: r,q :: s=>by
  have h1:=O8 p q
  have h2:=MF r s
  simp only [C9,Ag,List.length_append];omega
end
mutual
theorem O2 : ∀ (p v : Ty),AH p = true → Ie p v = true → ∀ (l : List (Str × Ty)) (rest : List (Ty × Ty)),
  ((Aj p v).2 = true → Dq l (Co p v ++ rest) = Dq (l ++ (Aj p v).1) rest) ∧ ((Aj p v).2 = false → (Dq l (Co p v ++ rest)).2 = false)
 | .mk f n x ps,v,hw,hok,l,rest=>by
  simp only [AH,Bool.and_eq_true] at hw
  obtain ⟨hk1,hk2⟩:=EK hw.1
  obtain ⟨s1,s2,s3⟩:=QC l f n x ps v
  simp only [Ie] at hok
  simp only [Co,Aj,List.cons_append,Dq]
  by_cases h1 : f = 1
  ·subst h1
   rw [s3 (by decide) (by simp)]
   simp
  by_cases h2 : f = 2
  ·subst h2
   rw [s1 rfl]
   simp
  simp only [h1,h2,if_false,decide_false,Bool.false_or] at hok ⊢
  cases he : Bs (Bi (.mk f n x ps)) v with
  | false =>
   rw [s2 h2 ⟨h1,he⟩]
   simp
  | true =>
   rw [s3 h2 (by rw [he];simp)]
   rw [he] at hok
   simp only [Bool.not_true,Bool.false_or,Bool.and_eq_true] at hok
   by_cases h6 : f = 6
   ·subst h6
    have:=M1 ps (BF v) hw.2 hok.2 (of_decide_eq_true hok.1) l rest
    simpa using this
   ·have hps : ps = []:=List.eq_nil_of_length_eq_zero (hk2 h6)
    subst hps
    simp [h6,Aw]
theorem M1 : ∀ (ps vs : List Ty),AE ps = true → Hd ps vs = true → ps.length ≤ vs.length → ∀ (l : List (Str × Ty)) (rest : List (Ty × Ty)),
  ((Aw ps vs).2 = true → Dq l (C9 ps vs ++ rest) = Dq (l ++ (Aw ps vs).1) rest) ∧ ((Aw ps vs).2 = false → (Dq l (C9 ps vs ++ rest)).2 = false)
 | [],_,_,_,_,l,rest=>by simp [Aw,C9]
 | _ :: _,[],_,_,hl,l,rest=>by simp at hl
 | p :: r,q :: s,hw,hok,hl,l,rest=>by
  simp only [AE,Hd,Bool.and_eq_true] at hw hok
  simp only [Aw,C9,List.append_assoc]
  obtain ⟨a1,a2⟩:=O2 p q hw.1 hok.1 l (C9 r s ++ rest)
  obtain ⟨b1,b2⟩:=M1 r s hw.2 hok.2 (by simpa using hl) (l ++ (Aj p q).1) rest
  cases hp : (Aj p q).2 with
  | false=>simp [a2 hp]
  | true =>
   rw [a1 hp]
   cases hr : (Aw r s).2 with
   | false=>simp [b2 hr]
   | true=>simp [b1 hr]
end
theorem M2 (p v : Ty) (hw : AH p = true) (hok : Ie p v = true) : (Dq [] (Co p v)).2 = (Aj p v).2 ∧ (bif (Dq [] (Co p v)).2 then (Dq [] (Co p v)).1 else []) = (Aj p v).1:=by
 obtain ⟨h1,h2⟩:=O2 p v hw hok [] []
 rw [List.append_nil] at h1 h2
 cases h : (Aj p v).2 with
 | true=>rw [h1 h];simp [Dq]
 | false=>rw [h2 h];simp [PU p v h]
theorem Pd (v : Ty) : ∀ (rows : List Ty) (i : Nat),(∀ p ∈ rows,AH p = true ∧ Ie p v = true) → F8 v i rows = Cm v i rows
 | [],i,_=>rfl
 | p :: r,i,h=>by
  have:=(M2 p v (h p (by simp)).1 (h p (by simp)).2).1
  rw [QK] at this
  simp only [F8,Cm]
  rw [show Uh v p = (Aj p v).2 from this,Pd v r (i + 1) fun q hq=>h q (by simp [hq])]
set_option maxHeartbeats 1000000 in
theorem V9 (p v : Ty) (hok : Ie p v = true) (hN : (Co p v).length ≤ 1000000) {b : Str × Ty} {r : List (Str × Ty)} (hr : Dq [] (Co p v) = (b :: r,true)) :
  AU Tryz.prog 50 [.imm (.agg (dTyc p)),.imm (.agg (dTyc v))] [] (.ret (.tup [.own 8 (A7 (b :: r)).length,.imm (.bool true)]) [(8,some (.row 60 5 (A7 (b :: r))))]):=by
 have hP:=ME p v
 have hP1:=fun b S S' h=>Kv p v hok (b:=b) (S:=S) (S':=S') h
 have hY:=fun L h1 h2 h3 h4 h5 h6 h7=>NL (L:=L) h1 h2 h3 h4 h5 h6 h7 (Co p v) [] (by simpa using hN)
 rw [hr] at hY
 obtain ⟨q1,q2,q3,q4⟩:=p
 obtain ⟨u1,u2,u3,u4⟩:=v
 simp only at hY ⊢
 refine Ae An Tryz.func50 (by decide +kernel) rfl [1,2,3,4,5,6,7,8,9,10,11,12,13] rfl rfl ?_
 refine bg [] rfl (by simp) ?_
 refine Az (st0:=[]) (fr:=[6,7]) [] [(6,6),(7,7)] rfl (by simp) hP trivial rfl rfl rfl rfl ?_
 refine bd [] rfl (by simp) ?_
 refine KA (y:=3) (j:=4) (j2:=5) (stc:=Dy (.mk q1 q2 q3 q4) (.mk u1 u2 u3 u4)) (stc':=Dy (.mk q1 q2 q3 q4) (.mk u1 u2 u3 u4)) (stx:=LQ []) (stB:=LQ (b :: r)) (pend:=none) (E:=[(4,.ref 3 0),(5,.ref 4 0),(6,.ref 5 0)]) (ids':=[9,10,11,12,13]) (d:=.tup []) rfl Tryz.func108 (by decide +kernel) rfl (by decide) ⟨rfl,rfl,rfl,trivial⟩
   (CN ⟨rfl,rfl,rfl,rfl,rfl,trivial⟩) (fun L h1 h2 h3 h4 h5 h6 h7=>?_) ?_ ?_ ?_ ?_ ?_
 ·exact hP1 true _ _ (hY L h1 h2 h3 h4 h5 h6 h7)
 ·simp [Dy,LQ,Dk]
 ·simp [Dy,Dk]
 ·intro i hi
  have e : GN (Em (CZ (A8 [] ++ [(6,6),(7,7)])) [] ++ Em (CZ (A8 [] ++ [(6,6),(7,7)])) [.ref 6 0,.ref 7 0]) = [6,7]:=rfl
  rw [e] at hi
  simpa [Dy,Dk,D5,PQ,GN,HE] using hi
 ·refine ⟨by decide,?_⟩
  simp [LQ,Rf,HE,D5,PQ,GN,Dk]
 ·refine bd [] rfl (by simp [Af]) ?_
  exact Ab ⟨_,rfl,rfl,rfl,trivial⟩
theorem DE {c : Cse} {v : Ty} (h : Cv c v = true) : ∀ p ∈ c.rows,AH p = true ∧ Ie p v = true ∧ Ak p ≤ 12:=by
 simp only [Cv,Bool.and_eq_true] at h
 obtain ⟨⟨h1,_⟩,h2⟩:=h
 obtain ⟨_,_,_,_,hr⟩:=FX h1
 intro p hp
 obtain ⟨h3,h4⟩:=hr p hp
 simp only [AP,Bool.and_eq_true,decide_eq_true_eq] at h3
 exact ⟨h3.2.1,LT c.datas p c.type v h3.2.1 h4 h2,h3.1⟩
theorem Ww (c : Cse) (v : Ty) : PureC Tryz.prog 10 [.agg (dCse c),.agg (dTyc v)] (bif Cv c v then (bif decide (Cm v 0 c.rows < 0) then .tup [.int .i64 0,.int .i64 5] else .tup [.int .i64 (Cm v 0 c.rows),.int .i64 0]) else .tup [.int .i64 0,.int .i64 2]):=by
 have hA:=Su c v
 have hR:=fun h=>ZY c (FI (ZT c.datas)) v (fun p hp=>(DE (c:=c) (v:=v) h p hp).2.1)
 have hE:=fun h=>Pd v c.rows 0 (fun p hp=>⟨(DE (c:=c) (v:=v) h p hp).1,(DE (c:=c) (v:=v) h p hp).2.1⟩)
 obtain ⟨ds,⟨c1,c2,c3,c4⟩,rows⟩:=c
 obtain ⟨g,m,z,vs⟩:=v
 generalize Cv ⟨ds,.mk c1 c2 c3 c4,rows⟩ (.mk g m z vs) = b at *
 simp only at hE ⊢
 refine Ae An Tryz.func10 (by decide +kernel) rfl [3,4,5] rfl rfl ?_
 refine bg [] rfl (by simp) ?_
 cases b with
 | false =>
  refine Ac rfl (fun _=>hA) (by simp) ?_
  refine bg [] rfl (by simp) ?_
  refine Aa rfl (fun h=>?_) (fun h=>by simp at h)
  refine bd [] rfl (by simp) ?_
  exact Ab ⟨_,rfl,tV rfl,trivial⟩
 | true =>
  refine Ac rfl (fun _=>hA) (by simp) ?_
  refine bg [] rfl (by simp) ?_
  refine Aa rfl (fun h=>by simp at h) (fun h=>?_)
  refine bd [] rfl (by simp) ?_
  refine Ac rfl (fun _=>hR rfl) (by simp) ?_
  refine bg [] rfl (by simp) ?_
  rw [← hE rfl]
  generalize F8 (.mk g m z vs) 0 rows = n
  refine Aa rfl (fun h=>?_) (fun h=>?_)
  ·refine bd [] rfl (by simp) ?_
   rw [show decide (n < 0) = true from h]
   exact Ab ⟨_,rfl,tV rfl,trivial⟩
  ·refine bd [] rfl (by simp) ?_
   rw [show decide (n < 0) = false from h]
   exact Ab ⟨_,rfl,tV rfl,trivial⟩
def Mq (c : Cse) (r : Int) : Bool:=decide (0 ≤ r) && decide (r < c.rows.length)
def MW (c : Cse) (r : Int) (v : Ty) : List (Str × Ty) × Int:=bif Cv c v && Mq c r then (match c.rows[r.toNat]? with
 | some p=>bif (Aj p v).2 then ((Aj p v).1,0) else ([],5)
 | none=>([],2)) else ([],2)
mutual
theorem Jo : ∀ (p v : Ty),∀ b ∈ (Aj p v).1,Ak b.2 ≤ Ak v
 | .mk f n x ps,v,b,hb=>by
  simp only [Aj] at hb
  split at hb
  ·simp at hb
  ·split at hb
   ·simp at hb;subst hb;exact Nat.le_refl _
   ·split at hb
    ·simp at hb
    ·have:=Il ps (BF v) b hb
     obtain ⟨g,m,z,vs⟩:=v
     simp only [BF] at this
     simp only [Ak];omega
theorem Il : ∀ (ps vs : List Ty),∀ b ∈ (Aw ps vs).1,Ak b.2 ≤ Ag vs
 | [],_,b,hb=>by simp [Aw] at hb
 | _ :: _,[],b,hb=>by simp [Aw] at hb
 | p :: r,q :: s,b,hb=>by
  simp only [Aw] at hb
  cases hc : (Aj p q).2 && (Aw r s).2
  ·rw [hc] at hb;simp at hb
  ·rw [hc] at hb
   simp only [cond_true,List.mem_append] at hb
   simp only [Ag]
   rcases hb with hb | hb
   ·have:=Jo p q b hb;omega
   ·have:=Il r s b hb;omega
end
set_option maxHeartbeats 1000000 in
theorem HZ (c : Cse) (r : Int) (v : Ty) (hv : Ak v ≤ 1000000) : PureC Tryz.prog 9 [.agg (dCse c),.int .i64 r,.agg (dTyc v)] (.tup [.sl (A7 (MW c r v).1),.int .i64 (MW c r v).2]):=by
 have hA:=Su c v
 have hT:=WH c r
 have hrows:=fun h=>DE (c:=c) (v:=v) h
 unfold MW
 have hth : Mq c r = (decide (0 ≤ r) && decide (r < c.rows.length)):=rfl
 rw [← hth] at hT
 obtain ⟨ds,⟨c1,c2,c3,c4⟩,rows⟩:=c
 have hmN:=fun p=>Jo p v
 have hM:=fun p hok hN=>X1 p v hok hN
 have hMo:=fun p hok hN b rr h=>V9 p v hok hN (b:=b) (r:=rr) h
 have hRM:=fun p hw hok=>M2 p v hw hok
 have hPL:=fun p=>O8 p v
 generalize hV : v = V at *
 obtain ⟨g,m,z,vs⟩:=V
 generalize Cv ⟨ds,.mk c1 c2 c3 c4,rows⟩ (.mk g m z vs) = b at *
 generalize Mq ⟨ds,.mk c1 c2 c3 c4,rows⟩ r = tb at *
 simp only at hth hrows ⊢
 refine Ae An Tryz.func9 (by decide +kernel) rfl [3,4,5,6,7] rfl rfl ?_
 refine bg [] rfl (by simp) ?_
 cases b with
 | false =>
  refine Ac rfl (fun _=>hA) (by simp) ?_
  refine bg [] rfl (by simp) ?_
  refine Ac rfl (fun _=>hT) (by simp [Af]) ?_
  refine bg [] rfl (by simp [Af]) ?_
  refine Aa rfl (fun h=>?_) (fun h=>by simp at h)
  refine bd [] rfl (by simp) ?_
  exact Ab ⟨_,rfl,tV rfl,trivial⟩
 | true =>
 refine Ac rfl (fun _=>hA) (by simp) ?_
 refine bg [] rfl (by simp) ?_
 refine Ac rfl (fun _=>hT) (by simp [Af]) ?_
 refine bg [] rfl (by simp [Af]) ?_
 cases tb with
 | false =>
  refine Aa rfl (fun h=>?_) (fun h=>by simp at h)
  refine bd [] rfl (by simp) ?_
  exact Ab ⟨_,rfl,tV rfl,trivial⟩
 | true =>
 refine Aa rfl (fun h=>by simp at h) (fun h=>?_)
 clear h
 have hth2 : 0 ≤ r ∧ r < rows.length:=by simpa using hth.symm
 obtain ⟨p,hp⟩:=Ai (l:=rows) (i:=r.toNat) (by omega)
 obtain ⟨hw,hok,h12⟩:=hrows rfl p (List.mem_of_getElem? hp)
 have hpl:=hPL p
 have hM:=hM p hok (by omega)
 have hMo:=hMo p hok (by omega)
 obtain ⟨e1,e2⟩:=hRM p hw hok
 have hmN:=hmN p
 rw [e2,e1] at hM
 simp only [Bool.and_self,cond_true,hp]
 refine bd [] rfl (by simp) ?_
 refine bi rfl (c:=dTyc p) (fun _=>⟨hth2.1,by simpa using Ao hp,by simp⟩) (by simp) ?_
 refine bg [] rfl (by simp) ?_
 cases hmb : (Aj p (.mk g m z vs)).2 with
 | false =>
  rw [hmb] at hM
  refine Ac rfl (fun _=>hM) (by simp) ?_
  refine bg [] rfl (by simp;rfl) ?_
  refine Aa rfl (fun h=>?_) (fun h=>by simp at h)
  refine bd [] rfl (by simp) ?_
  exact Ab ⟨_,rfl,tV rfl,trivial⟩
 | true =>
 rw [hmb] at hM e1
 rw [e1] at e2
 simp only [cond_true] at e2 ⊢
 cases hml : (Aj p (.mk g m z vs)).1 with
 | nil =>
  rw [hml] at hM
  refine Ac rfl (fun _=>hM) (by simp) ?_
  refine bg [] rfl (by simp;rfl) ?_
  refine Aa rfl (fun h=>by simp at h) (fun h=>?_)
  refine bd [] rfl (by simp [A7]) ?_
  refine Iq (Nz ?_)
  refine bd [] rfl (by simp [A7]) ?_
  refine Aa rfl (fun h=>by simp [A7] at h) (fun h=>?_)
  refine Av rfl ?_
  refine bd [] rfl (by simp [A7]) ?_
  exact Ab ⟨_,rfl,tV rfl,trivial⟩
 | cons x rr =>
  rw [hml] at e2 hmN
  have hrun : Dq [] (Co p (.mk g m z vs)) = (x :: rr,true):=Prod.ext e2 e1
  have hlenL : (x :: rr).length ≤ 12:=by
   have:=MX p (.mk g m z vs)
   rw [hml] at this;omega
  refine Az (st0:=[]) (fr:=[5]) [] [(8,5)] rfl (by simp) (hMo x rr hrun) trivial rfl rfl rfl rfl ?_
  generalize x :: rr = l at *
  refine bg [] rfl (by simp;rfl) ?_
  refine Aa rfl (fun h=>by simp at h) (fun h=>?_)
  clear h
  refine bd [] rfl (by simp) ?_
  refine Ah (fun i : Nat=>[(41,.imm (.int .i64 i)),(40,.imm (.int .i64 (A7 l).length)),(10,.own 5 (A7 l).length)]) (fun _=>[(5,some (.row 60 5 (A7 l)))]) [3,4,6,7] (fun i=>(A7 l).length - i)
   (fun i=>i ≤ (A7 l).length) 0 (Nat.zero_le _) ⟨rfl,rfl,rfl,trivial⟩ ⟨rfl,trivial⟩ rfl fun i hi ih=>?_
  refine bd [] rfl (by simp) ?_
  refine Aa rfl (fun h=>?_) (fun h=>?_)
  ·simp at h
   obtain ⟨bb,hb⟩:=Ai h
   have hbn:=hmN bb (List.mem_of_getElem? hb)
   have hbd : (A7 l)[i]? = some (CH bb):=by simp [A7,hb]
   have hcp:=N4 bb.2 (by omega)
   obtain ⟨bs,b1,b2,b3,b4⟩:=bb
   refine bd [] rfl (by simp) ?_
   refine Hr An rfl (fun _=>⟨by simp,by simp;omega⟩) (by simp) ?_
   refine bg [] rfl (by simp) ?_
   refine Qd (e:=CH (bs,.mk b1 b2 b3 b4)) An rfl (fun _=>by simpa using hbd) rfl (by simp) ?_
   refine bg [] rfl (by simp) ?_
   refine Ac rfl (fun _=>hcp) (by simp) ?_
   refine bg [] rfl (by simp) ?_
   refine Hr An rfl (fun _=>⟨by simp,by simp;omega⟩) (by simp) ?_
   refine bg [] rfl (by simp) ?_
   refine RE An (e:=CH (bs,.mk b1 b2 b3 b4)) (e':=CH (bs,.mk b1 b2 b3 b4)) rfl (by simpa using hbd) (by show 1 + 4 ≤ 5;decide) rfl (by simp) ?_
   have hset : (A7 l).set (i : Int).toNat (CH (bs,.mk b1 b2 b3 b4)) = A7 l:=by
    refine List.ext_getElem? fun j=>?_
    rw [List.getElem?_set]
    split
    ·rename_i hj
     simp at hj;subst hj
     rw [hbd]
     have : i < (A7 l).length:=by simp;omega
     simp [h]
    ·rfl
   simp only
   rw [hset]
   refine bg [] rfl (by simp) ?_
   exact Ad (ih (i + 1) (by simp;omega) (by simp;omega)) ⟨As (Bw (by omega) (by simp at hi;omega)),rfl,rfl,trivial⟩ ⟨rfl,trivial⟩ rfl
  ·refine Av rfl ?_
   refine Bu 5 rfl ?_
   refine bd [] rfl (by simp) ?_
   exact Ab ⟨_,rfl,tV rfl,trivial⟩
def RH (l : List Ty) : Bool:=l.all (fun t=>decide (0 ≤ A6 t 20)) && decide (l.length ≤ 5)
def Kh (c : Cse) : Bool:=(decide (c.datas.length ≤ 6) && decide (c.rows.length ≤ 7) && decide (0 ≤ A6 c.type 20)) && (c.rows.all (fun p=>decide (0 ≤ A6 p 20)) && c.datas.all (fun d=>decide (d.cons.length ≤ 7) && d.cons.all fun k=>RH k.args))
def DP (v : Ty) : Bool:=decide (0 ≤ AN v 300 110)
theorem aS (l : List Ty) : PureC Tryz.prog 31 [.sl (A9 l)] (.bool (RH l)):=by
 refine Ae An Tryz.func31 (by decide +kernel) rfl [1,2] rfl rfl ?_
 refine bg [] rfl (by simp) ?_
 refine Ah (fun i : Nat=>[(3,.imm (.int .i64 i)),(0,.imm (.sl (A9 l)))]) (fun _=>[]) [1,2] (fun i=>l.length - i)
  (fun i=>i ≤ l.length ∧ i ≤ 6 ∧ l.all (fun t=>decide (0 ≤ A6 t 20)) = (l.drop i).all (fun t=>decide (0 ≤ A6 t 20))) 0 ⟨Nat.zero_le _,by simp,rfl⟩ ⟨rfl,rfl,trivial⟩ trivial rfl fun i hi ih=>?_
 obtain ⟨hi1,hi0,hi2⟩:=hi
 refine bd [] rfl (by simp [Af]) ?_
 by_cases hlt : i < l.length ∧ i < 6
 case neg =>
  refine Aa rfl (fun h=>by exfalso;simp at h;omega) (fun h=>?_)
  refine Av rfl ?_
  refine bd [] rfl (by simp) ?_
  refine Ab ⟨_,rfl,tV (congrArg _ ?_),trivial⟩
  simp only [RH,dTys_length]
  by_cases h5 : l.length ≤ 5
  ·rw [hi2,List.drop_eq_nil_of_le (by omega)];simp [h5];omega
  ·simp [h5];omega
 refine Aa rfl (fun h=>?_) (fun h=>by exfalso;simp at h;omega)
 obtain ⟨t,ht⟩:=Ai hlt.1
 rw [CG ht] at hi2
 refine bd [] rfl (by simp) ?_
 refine bi rfl (c:=dTyc t) (fun _=>⟨by simp,by simpa using Ao ht,by simp⟩) (by simp) ?_
 refine bg [] rfl (by simp) ?_
 refine Ac rfl (fun _=>Ev t 20 (by decide) (by decide)) (by simp) ?_
 refine bg [] rfl (by simp) ?_
 refine Aa rfl (fun h=>?_) (fun h=>?_)
 ·refine bd [] rfl (by simp) ?_
  refine Ab ⟨_,rfl,tV (congrArg _ ?_),trivial⟩
  simp at h
  rw [RH,hi2,show decide (0 ≤ A6 t 20) = false by simp;omega];simp
 ·refine bd [] rfl (by simp) ?_
  simp at h
  exact Ad (ih (i + 1) (by omega) ⟨by omega,by omega,by rw [hi2,show decide (0 ≤ A6 t 20) = true by simpa using h];simp⟩) ⟨As (Bw (by omega) (by omega)),rfl,trivial⟩ trivial rfl
set_option maxHeartbeats 1000000 in
theorem Vm (c : Cse) : PureC Tryz.prog 6 [.agg (dCse c)] (.bool (Kh c)):=by
 have hWT:=Ev c.type 20 (by decide) (by decide)
 obtain ⟨ds,t,rows⟩:=c
 simp only [Kh] at hWT ⊢
 generalize A6 t 20 = wt at *
 obtain ⟨c1,c2,c3,c4⟩:=t
 refine Ae An Tryz.func6 (by decide +kernel) rfl [1,2] rfl rfl ?_
 refine bg [] rfl (by simp [Af]) ?_
 refine Ac rfl (fun _=>hWT) (by simp [Af]) ?_
 refine bg [] rfl (by simp [Af]) ?_
 by_cases hg : ds.length ≤ 6 ∧ rows.length ≤ 7 ∧ 0 ≤ wt
 case neg =>
  refine Aa rfl (fun h=>?_) (fun h=>by exfalso;apply hg;simp at h;omega)
  refine bd [] rfl (by simp) ?_
  refine Ab ⟨_,rfl,tV (congrArg _ ?_),trivial⟩
  rw [show (decide (ds.length ≤ 6) && decide (rows.length ≤ 7) && decide (0 ≤ wt)) = false by simp;omega];simp
 obtain ⟨g1,g2,g3⟩:=hg
 rw [show (decide (ds.length ≤ 6) && decide (rows.length ≤ 7) && decide (0 ≤ wt)) = true by simp;omega,Bool.true_and]
 refine Aa rfl (fun h=>by exfalso;simp at h;omega) (fun h=>?_)
 clear h
 refine bd [] rfl (by simp) ?_
 refine Ah (fun i : Nat=>[(3,.imm (.int .i64 i)),(1,.ref 1 0)]) (fun _=>[(1,some (.immb 29 6 (dCse ⟨ds,.mk c1 c2 c3 c4,rows⟩)))]) [2] (fun i=>rows.length - i)
  (fun i=>i ≤ rows.length ∧ rows.all (fun p=>decide (0 ≤ A6 p 20)) = (rows.drop i).all (fun p=>decide (0 ≤ A6 p 20))) 0 ⟨Nat.zero_le _,rfl⟩ ⟨rfl,rfl,trivial⟩ ⟨rfl,trivial⟩ rfl fun i hi ih=>?_
 obtain ⟨hi1,hi2⟩:=hi
 refine bd [] rfl (by simp) ?_
 refine Aa rfl (fun h=>?_) (fun h=>?_)
 ·simp at h
  obtain ⟨p,hp⟩:=Ai h
  rw [CG hp] at hi2
  refine bd [] rfl (by simp) ?_
  refine bi rfl (c:=dTyc p) (fun _=>⟨by simp,by simpa using Ao hp,by simp⟩) (by simp) ?_
  refine bg [] rfl (by simp) ?_
  refine Ac rfl (fun _=>H6 p 20 (by decide) (by decide)) (by simp) ?_
  refine bg [] rfl (by simp) ?_
  refine Aa rfl (fun h=>?_) (fun h=>?_)
  ·refine bd [] rfl (by simp) ?_
   refine Ab ⟨_,rfl,tV (congrArg _ ?_),trivial⟩
   simp at h
   rw [hi2,show decide (0 ≤ A6 p 20) = false by simp;omega];simp
  ·refine bd [] rfl (by simp) ?_
   simp at h
   exact Ad (ih (i + 1) (by omega) ⟨by omega,by rw [hi2,show decide (0 ≤ A6 p 20) = true by simpa using h];simp⟩) ⟨As (Bw (by omega) (by omega)),rfl,trivial⟩ ⟨rfl,trivial⟩ rfl
 simp at h
 refine Av rfl ?_
 refine bd [] rfl (by simp) ?_
 rw [hi2,List.drop_eq_nil_of_le h,List.all_nil,Bool.true_and]
 refine Ah (fun i : Nat=>[(4,.imm (.int .i64 i)),(1,.ref 1 0)]) (fun _=>[(1,some (.immb 29 6 (dCse ⟨ds,.mk c1 c2 c3 c4,rows⟩)))]) [2] (fun i=>ds.length - i)
  (fun i=>i ≤ ds.length ∧ ds.all (fun d=>decide (d.cons.length ≤ 7) && d.cons.all fun k=>RH k.args) = (ds.drop i).all (fun d=>decide (d.cons.length ≤ 7) && d.cons.all fun k=>RH k.args)) 0 ⟨Nat.zero_le _,rfl⟩ ⟨rfl,rfl,trivial⟩ ⟨rfl,trivial⟩ rfl fun i hi ih=>?_
 obtain ⟨hi1,hi2⟩:=hi
 refine bd [] rfl (by simp) ?_
 refine Aa rfl (fun h=>?_) (fun h=>?_)
 ·simp at h
  obtain ⟨d,hd⟩:=Ai h
  rw [CG hd] at hi2
  refine bd [] rfl (by simp) ?_
  refine bi rfl (c:=BB d) (fun _=>⟨by simp,by simpa using AG hd,by simp⟩) (by simp) ?_
  obtain ⟨dn,dc⟩:=d
  simp only at hi2
  refine bg [] rfl (by simp) ?_
  by_cases h7 : dc.length ≤ 7
  case neg =>
   refine Aa rfl (fun h=>?_) (fun h=>by exfalso;simp at h;omega)
   refine bd [] rfl (by simp) ?_
   rw [hi2,show decide (dc.length ≤ 7) = false by simpa using h7]
   exact Ab ⟨_,rfl,tV (congrArg _ (by simp)),trivial⟩
  rw [show decide (dc.length ≤ 7) = true by simpa using h7,Bool.true_and] at hi2
  refine Aa rfl (fun h=>by exfalso;simp at h;omega) (fun h=>?_)
  clear h
  refine bd [] rfl (by simp) ?_
  refine Ah (fun k : Nat=>[(5,.imm (.int .i64 k)),(4,.imm (.int .i64 i)),(1,.ref 1 0)]) (fun _=>[(1,some (.immb 29 6 (dCse ⟨ds,.mk c1 c2 c3 c4,rows⟩)))]) [2] (fun k=>dc.length - k)
   (fun k=>k ≤ dc.length ∧ dc.all (fun k=>RH k.args) = (dc.drop k).all (fun k=>RH k.args)) 0 ⟨Nat.zero_le _,rfl⟩ ⟨rfl,rfl,rfl,trivial⟩ ⟨rfl,trivial⟩ rfl fun k hk jh=>?_
  obtain ⟨hk1,hk2⟩:=hk
  refine bd [] rfl (by simp) ?_
  refine bi rfl (c:=BB ⟨dn,dc⟩) (fun _=>⟨by simp,by simpa using AG hd,by simp⟩) (by simp) ?_
  refine bg [] rfl (by simp) ?_
  refine Aa rfl (fun h=>?_) (fun h=>?_)
  ·simp at h
   obtain ⟨c,hc⟩:=Ai h
   rw [CG hc] at hk2
   refine bd [] rfl (by simp) ?_
   refine bi rfl (c:=BB ⟨dn,dc⟩) (fun _=>⟨by simp,by simpa using AG hd,by simp⟩) (by simp) ?_
   refine bg [] rfl (by simp) ?_
   refine bi rfl (c:=CA c) (fun _=>⟨by simp,by simpa using AG hc,by simp⟩) (by simp) ?_
   obtain ⟨cn,ca⟩:=c
   simp only at hk2
   refine bg [] rfl (by simp) ?_
   refine Ac rfl (fun _=>aS ca) (by simp) ?_
   refine bg [] rfl (by simp) ?_
   refine Aa rfl (fun h=>?_) (fun h=>?_)
   ·refine bd [] rfl (by simp) ?_
    refine Ab ⟨_,rfl,tV (congrArg _ ?_),trivial⟩
    simp at h
    rw [hi2,hk2,h];simp
   ·refine bd [] rfl (by simp) ?_
    simp at h
    exact Ad (jh (k + 1) (by omega) ⟨by omega,by rw [hk2,h];simp⟩) ⟨As (Bw (by omega) (by omega)),rfl,rfl,trivial⟩ ⟨rfl,trivial⟩ rfl
  ·simp at h
   refine Av rfl ?_
   refine bd [] rfl (by simp) ?_
   rw [List.drop_eq_nil_of_le (by omega)] at hk2
   exact Ad (ih (i + 1) (by omega) ⟨by omega,by rw [hi2,hk2];simp⟩) ⟨As (Bw (by omega) (by omega)),rfl,trivial⟩ ⟨rfl,trivial⟩ rfl
 ·simp at h
  refine Av rfl ?_
  refine bd [] rfl (by simp) ?_
  rw [hi2,List.drop_eq_nil_of_le (by omega)]
  exact Ab ⟨_,rfl,tV rfl,trivial⟩
theorem OP (v : Ty) : PureC Tryz.prog 7 [.agg (dTyc v)] (.bool (DP v)):=by
 have hW:=KM v 300 110 (by decide) (by decide) (by decide) (by decide)
 unfold DP
 generalize AN v 300 110 = w at *
 obtain ⟨s,n,x,ps⟩:=v
 refine Ae An Tryz.func7 (by decide +kernel) rfl [1,2] rfl rfl ?_
 refine bg [] rfl (by simp) ?_
 refine Ac rfl (fun _=>hW) (by simp) ?_
 refine bg [] rfl (by simp) ?_
 refine Ab ⟨_,rfl,tV (congrArg _ ?_),trivial⟩
 simp
def GJ (c : Cse) (v : Ty) : Bool:=Ea c && Ml v && Rb c.datas c.type v
theorem Sp {c : Cse} (h : Ea c = true) : OkD c.datas ∧ Bp c.datas c.type = true:=by
 simp only [Ea,Bool.and_eq_true] at h
 exact ⟨OkD.of h.1.1.1.1,h.1.1.2⟩
theorem Zj (c : Cse) (v : Ty) : PureC Tryz.prog 11 [.agg (dCse c),.agg (dTyc v)] (.bool (GJ c v)):=by
 have hC:=Vb c
 have hV:=Yx v
 have hO:=fun h=>ZN c.type c.rows c.datas (Sp (c:=c) h).1 v c.type (Sp h).2
 unfold GJ
 generalize Ea c = b1 at *
 generalize Ml v = b2 at *
 generalize Rb c.datas c.type v = b3 at *
 obtain ⟨ds,⟨c1,c2,c3,c4⟩,rows⟩:=c
 obtain ⟨s,n,x,ps⟩:=v
 refine Ae An Tryz.func11 (by decide +kernel) rfl [1,2,3] rfl rfl ?_
 refine bg [] rfl (by simp) ?_
 refine Ac rfl (fun _=>hC) (by simp) ?_
 refine bg [] rfl (by simp) ?_
 refine Ac rfl (fun _=>hV) (by simp [Af]) ?_
 refine bg [] rfl (by simp [Af]) ?_
 refine Ac rfl (fun h=>hO (by simp [Af] at h;exact h.1)) (by simp [Af]) ?_
 refine bg [] rfl (by simp [Af]) ?_
 refine Ab ⟨_,rfl,tV (congrArg _ ?_),trivial⟩
 simp
def BT : List (Str × Ty) → List (Str × Ty) → Bool
 | [],[]=>true
 | a :: r,b :: q=>(a.1 == b.1) && (CQ a.2 b.2 && BT r q)
 | _,_=>false
theorem O1 : ∀ (a b : List (Str × Ty)),BT a b = true → a.length = b.length
 | [],[],_=>rfl
 | a :: r,b :: q,h=>by
  simp only [BT,Bool.and_eq_true] at h
  simp [O1 r q h.2.2]
 | [],_ :: _,h=>by simp [BT] at h
 | _ :: _,[],h=>by simp [BT] at h
theorem Ja (a b : List (Str × Ty)) : PureC Tryz.prog 15 [.sl (A7 a),.sl (A7 b)] (.bool (BT a b)):=by
 refine A2 fun hv=>?_
 have hv : a.length ≤ 9223372036854775807:=by simp [Bt,Dd,maxLen] at hv;omega
 refine Ae An Tryz.func15 (by decide +kernel) rfl [1,2,3] rfl rfl ?_
 refine bg [] rfl (by simp) ?_
 by_cases hlen : a.length = b.length
 case neg =>
  refine Aa rfl (fun h=>?_) (fun h=>by exfalso;simp at h;omega)
  refine bd [] rfl (by simp) ?_
  refine Ab ⟨_,rfl,tV (congrArg _ ?_),trivial⟩
  cases hs : BT a b with
  | false=>rfl
  | true=>exact absurd (O1 a b hs) hlen
 refine Aa rfl (fun h=>by exfalso;simp at h;omega) (fun h=>?_)
 clear h
 refine bd [] rfl (by simp) ?_
 refine Ah (fun i : Nat=>[(5,.imm (.int .i64 i)),(0,.imm (.sl (A7 a))),(1,.imm (.sl (A7 b)))]) (fun _=>[]) [1,2,3] (fun i=>a.length - i)
  (fun i=>i ≤ a.length ∧ BT a b = BT (a.drop i) (b.drop i)) 0 ⟨Nat.zero_le _,rfl⟩ ⟨rfl,rfl,rfl,trivial⟩ trivial rfl fun i hi ih=>?_
 obtain ⟨hi1,hi2⟩:=hi
 refine bd [] rfl (by simp) ?_
 refine Aa rfl (fun h=>?_) (fun h=>?_)
 ·simp at h
  obtain ⟨x,hx⟩:=Ai h
  obtain ⟨y,hy⟩:=Ai (l:=b) (i:=i) (by omega)
  rw [Al hx,Al hy] at hi2
  simp only [BT] at hi2
  have hxd : (A7 a)[(i : Int).toNat]? = some (CH x):=by simp [A7,hx]
  have hyd : (A7 b)[(i : Int).toNat]? = some (CH y):=by simp [A7,hy]
  have hS:=S9 x.2 y.2
  obtain ⟨xs,xv⟩:=x
  obtain ⟨ys,yv⟩:=y
  simp only at hS hi2
  generalize CQ xv yv = sv at *
  obtain ⟨x1,x2,x3,x4⟩:=xv
  obtain ⟨y1,y2,y3,y4⟩:=yv
  refine bd [] rfl (by simp) ?_
  refine bi rfl (c:=CH (xs,.mk x1 x2 x3 x4)) (fun _=>⟨by simp,hxd,by simp⟩) (by simp) ?_
  refine bg [] rfl (by simp) ?_
  refine bi rfl (c:=CH (ys,.mk y1 y2 y3 y4)) (fun _=>⟨by simp,hyd,by simp⟩) (by simp) ?_
  refine bg [] rfl (by simp) ?_
  refine bi rfl (c:=CH (xs,.mk x1 x2 x3 x4)) (fun _=>⟨by simp,hxd,by simp⟩) (by simp [Af]) ?_
  refine bg [] rfl (by simp [Af]) ?_
  refine bi rfl (c:=CH (ys,.mk y1 y2 y3 y4)) (fun _=>⟨by simp,hyd,by simp⟩) (by simp [Af]) ?_
  refine bg [] rfl (by simp [Af]) ?_
  refine Ac rfl (fun _=>hS) (by simp [Af]) ?_
  refine bg [] rfl (by simp [Af];rfl) ?_
  refine Aa rfl (fun h=>?_) (fun h=>?_)
  ·refine bd [] rfl (by simp) ?_
   refine Ab ⟨_,rfl,tV (congrArg _ ?_),trivial⟩
   rw [hi2]
   simp at h
   grind
  ·refine bd [] rfl (by simp) ?_
   simp at h
   exact Ad (ih (i + 1) (by omega) ⟨by omega,by rw [hi2];simp [h]⟩) ⟨As (Bw (by omega) (by omega)),rfl,rfl,trivial⟩ trivial rfl
 ·simp at h
  refine Av rfl ?_
  refine bd [] rfl (by simp) ?_
  refine Ab ⟨_,rfl,tV (congrArg _ ?_),trivial⟩
  rw [hi2,List.drop_eq_nil_of_le (by omega),List.drop_eq_nil_of_le (by omega)];rfl
mutual
theorem Lc : ∀ t : Ty,(BJ true t && CM Im t) = BJ false t
 | .mk s n x ps=>by
  have ih:=IY ps
  simp only [BJ,CM,Im]
  by_cases h9 : s = 9
  ·subst h9;simp [Bh]
  ·have : Bh true s n x ps.length = Bh false s n x ps.length:=by simp [Bh,h9]
   have h : (s == 9) = false:=by simpa using h9
   rw [this,h,← ih]
   cases Bh false s n x ps.length <;> simp
theorem IY : ∀ l : List Ty,(BI true l && CI Im l) = BI false l
 | []=>rfl
 | t :: r=>by
  simp only [BI,CI,← Lc t,← IY r]
  cases BJ true t <;> cases CM Im t <;> cases BI true r <;> simp
end
theorem Xb (ds : List Dt) : EG ds = EZ ds:=by
 have hm : GG ⟨[109],ds,[Fv]⟩ = CK ⟨[109],ds,[Fv]⟩:=by
  simp only [GG,CK]
  have e1 : ds.all Ef = ds.all FU:=by congr 1;exact funext Yf
  have e2 : [Fv].all J3 = [Fv].all RF:=by decide +kernel
  rw [e1,e2]
  simp [Eo]
 simp only [EG,EZ,hm]
 cases CK ⟨[109],ds,[Fv]⟩ <;> cases Bm ds ds <;> simp
theorem Wp (c : Cse) : GC c = Ea c:=by
 have hT : (Bk true c.type && CM Im c.type) = Dz c.type:=by
  rw [← J6]
  simp only [Bk]
  rw [Bool.and_assoc,Lc]
 have hR : c.rows.all (O3 c) = c.rows.all (SM c):=by
  congr 1;funext p;simp only [O3,SM,Wn]
 simp only [GC,KF,Ea,hR,Xb,← hT]
 cases EZ c.datas <;> cases decide (c.rows.length ≤ 5) <;> cases Bk true c.type <;> cases Bp c.datas c.type <;> cases CM Im c.type <;> simp
theorem QO (s n : Int) (x : Str) (k : Nat) : HB s n x k = EN s n x k:=by
 simp only [HB,EN,Eo]
 split
 ·rfl
 ·split
  ·congr 2
   by_cases h0 : n = 0
   ·simp [h0]
   ·by_cases h1 : n = 1
    ·simp [h1]
    ·have : (n == 0 || n == 1) = false:=by simp [h0,h1]
     rw [this];symm;simp;omega
  ·rfl
mutual
theorem Py : ∀ v : Ty,allV v = C0 v
 | .mk s n x ps=>by simp only [allV,C0,QO,NJ ps];exact Bool.and_comm _ _
theorem NJ : ∀ l : List Ty,Pz l = BM l
 | []=>rfl
 | t :: r=>by simp only [Pz,BM,Py t,NJ r]
end
theorem T5 (v : Ty) : J7 v = Ml v:=by simp only [J7,Ml,Py]
theorem FY (c : Cse) (v : Ty) : Cv c v = GJ c v:=by simp only [Cv,GJ,Wp,T5]
mutual
theorem My : ∀ v : Ty,CQ v v = true
 | .mk s n x ps=>by simp [CQ,Bs,Lg ps]
theorem Lg : ∀ l : List Ty,Bz l l = true
 | []=>rfl
 | t :: r=>by simp [Bz,My t,Lg r]
end
theorem Mz : ∀ l : List (Str × Ty),BT l l = true
 | []=>rfl
 | a :: r=>by simp [BT,My,Mz r]
mutual
theorem IR : ∀ (t : Ty) (l d : Int),0 ≤ AN t l d → AN t l d + Ak t ≤ l
 | .mk _ _ _ ps,l,d,h=>by
  simp only [AN] at h ⊢
  by_cases h0 : l < 1 ∨ d < 1
  ·rw [if_pos h0] at h;omega
  ·rw [if_neg h0] at h ⊢
   have:=Ih ps (l - 1) (d - 1) h
   simp only [Ak];omega
theorem Ih : ∀ (ts : List Ty) (l d : Int),0 ≤ AV ts l d → AV ts l d + Ag ts ≤ l
 | [],l,d,h=>by simp [AV,Ag]
 | t :: r,l,d,h=>by
  simp only [AV] at h ⊢
  by_cases h0 : 0 ≤ l
  ·rw [if_pos h0] at h ⊢
   have h1:=Ih r (AN t l d) d h
   have h2:=(Ix r (AN t l d) d (FB t l d).1)
   have h3:=IR t l d (by omega)
   simp only [Ag];omega
  ·rw [if_neg h0] at h;omega
end
theorem Gy {v : Ty} (h : DP v = true) : Ak v ≤ 300:=by
 have h:=of_decide_eq_true h
 have:=IR v 300 110 h
 omega
theorem Pe (v : Ty) : ∀ (l : List Ty) (i : Nat),-1 ≤ Cm v i l ∧ Cm v i l < (i : Int) + l.length ∨ (l = [] ∧ Cm v i l = -1)
 | [],i=>.inr ⟨rfl,rfl⟩
 | p :: r,i=>by
  have:=Pe v r (i + 1)
  left
  simp only [Cm,List.length_cons]
  cases (Aj p v).2
  ·simp only [cond_false]
   rcases this with h | ⟨h1,h2⟩
   ·omega
   ·rw [h2];omega
  ·simp only [cond_true];omega
theorem VW (v : Ty) (l : List Ty) : -1 ≤ Cm v 0 l ∧ (Cm v 0 l < l.length):=by
 rcases Pe v l 0 with h | ⟨h1,h2⟩
 ·omega
 ·rw [h2,h1];simp
theorem Ui (c : Cse) (v : Ty) : PureC Tryz.prog 19 [.agg (dCse c),.agg (dTyc v)] (.tup [.int .i64 (bif Cv c v then Cm v 0 c.rows else 0),.bool (Cv c v)]):=by
 have hF:=Ww c v
 have hb:=VW v c.rows
 generalize Cv c v = b at *
 obtain ⟨ds,⟨c1,c2,c3,c4⟩,rows⟩:=c
 obtain ⟨g,m,z,vs⟩:=v
 simp only at hb hF ⊢
 generalize Cm (.mk g m z vs) 0 rows = n at *
 refine Ae An Tryz.func19 (by decide +kernel) rfl [3,4,5] rfl rfl ?_
 refine bg [] rfl (by simp) ?_
 cases b with
 | false =>
  refine Ac rfl (fun _=>hF) (by simp) ?_
  refine bg [] rfl (by simp) ?_
  refine Aa rfl (fun h=>by simp at h) (fun h=>?_)
  refine bd [] rfl (by simp [Af];rfl) ?_
  exact Ab ⟨_,rfl,tV rfl,trivial⟩
 | true =>
  by_cases hn : n < 0
  ·have : n = -1:=by omega
   subst this
   refine Ac rfl (fun _=>hF) (by simp) ?_
   refine bg [] rfl (by simp) ?_
   refine Aa rfl (fun h=>?_) (fun h=>by simp at h)
   refine bd [] rfl (by simp [Af]) ?_
   exact Ab ⟨_,rfl,tV rfl,trivial⟩
  ·rw [show decide (n < 0) = false by simpa using hn] at hF
   refine Ac rfl (fun _=>hF) (by simp) ?_
   refine bg [] rfl (by simp) ?_
   refine Aa rfl (fun h=>by simp at h) (fun h=>?_)
   refine bd [] rfl (by simp [Af];rfl) ?_
   refine Ab ⟨_,rfl,tV ?_,trivial⟩
   have h1 : decide (0 ≤ n) = true:=by simpa using (show 0 ≤ n by omega)
   have h2 : decide (n < rows.length) = true:=by simpa using hb.2
   simp [h1,h2]
def Zh (k j : Nat) (t e : TypeId) (n sz : Nat) (cs : List D) : Nat → List (List V) → St
 | 0,_=>[(k,some (.cells t n (cs ++ [.nils])))]
 | _ + 1,l=>[(k,some (.cells t n (cs ++ [.own j l.length]))),(j,some (.row e sz l))]
mutual
def Cb : Ty → Ty
 | .mk f n x ps=>if f = 1 then .mk 3 n [] [] else if f = 2 then .mk 4 n [] [] else if f = 3 then .mk 5 0 [] [] else if f = 4 then .mk 6 0 x (Et ps) else .mk 1 0 [] []
def Et : List Ty → List Ty
 | []=>[]
 | t :: r=>Cb t :: Et r
end
theorem IE : ∀ l : List Ty,Et l = l.map Cb
 | []=>rfl
 | t :: r=>by simp [Et,IE r]
set_option maxHeartbeats 1000000 in
theorem RI : ∀ v : Ty,Ak v ≤ 1000000 → PureC Tryz.prog 23 [.agg (dTyc v)] (.agg (dTyc (Cb v)))
 | .mk f n x ps,hN=>by
  simp only [Ak] at hN
  have hpl : ps.length ≤ 1000000:=by
   have : ∀ l : List Ty,l.length ≤ Ag l:=fun l=>by
    induction l with
    | nil=>simp
    | cons t r ih=>obtain ⟨a,b,c,d⟩:=t;simp only [Ag,Ak,List.length_cons];omega
   have:=this ps;omega
  refine Ae An Tryz.func23 (by decide +kernel) rfl [1,2,3,4,6,7] rfl rfl ?_
  simp only [Cb]
  refine bg [] rfl (by simp) ?_
  by_cases h1 : f = 1
  ·subst h1
   refine Aa rfl (fun h=>?_) (fun h=>by simp at h)
   refine bd [] rfl (by simp) ?_
   exact Ab ⟨_,rfl,tV rfl,trivial⟩
  rw [if_neg h1]
  refine Aa rfl (fun h=>absurd (by simpa using h) h1) (fun h=>?_)
  clear h
  refine bd [] rfl (by simp) ?_
  by_cases h2 : f = 2
  ·subst h2
   refine Aa rfl (fun h=>?_) (fun h=>by simp at h)
   refine bd [] rfl (by simp) ?_
   exact Ab ⟨_,rfl,tV rfl,trivial⟩
  rw [if_neg h2]
  refine Aa rfl (fun h=>absurd (by simpa using h) h2) (fun h=>?_)
  clear h
  refine bd [] rfl (by simp) ?_
  by_cases h3 : f = 3
  ·subst h3
   refine Aa rfl (fun h=>?_) (fun h=>by simp at h)
   refine bd [] rfl (by simp) ?_
   exact Ab ⟨_,rfl,tV rfl,trivial⟩
  rw [if_neg h3]
  refine Aa rfl (fun h=>absurd (by simpa using h) h3) (fun h=>?_)
  clear h
  refine bd [] rfl (by simp) ?_
  by_cases h4 : f = 4
  case neg =>
   rw [if_neg h4]
   refine Aa rfl (fun h=>absurd (by simpa using h) h4) (fun h=>?_)
   refine bd [] rfl (by simp) ?_
   exact Ab ⟨_,rfl,tV rfl,trivial⟩
  rw [if_pos h4]
  refine Aa rfl (fun h=>?_) (fun h=>by simp [h4] at h)
  clear h
  have hrl : (Et ps).length = ps.length:=by rw [IE];simp
  have hget : ∀ (i : Nat) (p : Ty),ps[i]? = some p → (Et ps)[i]? = some (Cb p):=fun i p hp=>by rw [IE,List.getElem?_map,hp];rfl
  generalize Et ps = R at *
  refine bd [] rfl (by simp) ?_
  refine Ah (fun i : Nat=>[(29,.imm (.int .i64 i)),(28,.imm (.int .i64 ps.length)),(27,.imm (.sl (A9 ps))),(3,.ref 3 0),(2,.ref 2 0)])
   (fun i=>(2,some (.cells 50 4 [.imm (.int .i64 0),.imm (.int .i64 0),.imm (.str []),.nils])) :: Zh 3 4 50 50 4 4 [.imm (.int .i64 6),.imm (.int .i64 0),.imm (.str x)] i (A9 (R.take i))) [6,7] (fun i=>ps.length - i)
   (fun i=>i ≤ ps.length) 0 (Nat.zero_le _) ⟨rfl,As (by simp),rfl,rfl,rfl,trivial⟩ ⟨rfl,rfl,trivial⟩ rfl fun i hi ih=>?_
  refine bd [] rfl (by simp) ?_
  refine Aa rfl (fun h=>?_) (fun h=>?_)
  ·simp at h
   obtain ⟨t,ht⟩:=Ai h
   have hb:=Bb ht
   have hE:=RI t (by omega)
   have et : A9 (R.take (i + 1)) = A9 (R.take i) ++ [dTyc (Cb t)]:=by rw [AI (hget i t ht),DZ];simp [A9]
   have hlen : (A9 (R.take i)).length ≤ 1000000:=by simp;omega
   have hih:=ih (i + 1) (by omega) (by omega)
   rw [et] at hih
   cases i with
   | zero =>
    rw [show A9 (R.take 0) ++ _ = [] ++ _ from rfl] at hih
    refine bd [] rfl (by simp) ?_
    refine bi rfl (c:=dTyc t) (fun _=>⟨by omega,by simpa using Ao ht,by simp⟩) (by simp) ?_
    refine bg [] rfl (by simp) ?_
    refine Ac rfl (fun _=>hE) (by simp) ?_
    refine bg [] rfl (by simp) ?_
    refine AZ An rfl ⟨by simp,by simp [maxLen],by simp,trivial⟩ ?_
    refine bg [] rfl (by simp;rfl) ?_
    refine AT 4 7 rfl ?_
    exact Ad hih ⟨As (Bw (by omega) (by omega)),rfl,rfl,rfl,rfl,trivial⟩ ⟨rfl,rfl,rfl,trivial⟩ rfl
   | succ i =>
    generalize A9 (R.take (i + 1)) = l at *
    refine bd [] rfl (by simp) ?_
    refine bi rfl (c:=dTyc t) (fun _=>⟨by omega,by simpa using Ao ht,by simp⟩) (by simp) ?_
    refine bg [] rfl (by simp) ?_
    refine Ac rfl (fun _=>hE) (by simp) ?_
    refine bg [] rfl (by simp) ?_
    refine AZ An rfl ⟨by simp,by simp [maxLen] at hlen ⊢;omega,by simp at hlen ⊢;omega,trivial⟩ ?_
    refine bg [] rfl (by simp;rfl) ?_
    refine AT 4 7 rfl ?_
    exact Ad hih ⟨As (Bw (by omega) (by omega)),rfl,rfl,rfl,rfl,trivial⟩ ⟨rfl,by simp only [List.length_append];rfl,rfl,trivial⟩ rfl
  ·simp at h
   have hi2 : i = ps.length:=by omega
   refine Av rfl ?_
   rw [List.take_of_length_le (by omega)]
   cases i with
   | zero =>
    have hR : R = []:=List.eq_nil_of_length_eq_zero (by omega)
    subst hR
    refine bd [] rfl (by simp) ?_
    exact Ab ⟨_,rfl,tV rfl,trivial⟩
   | succ i =>
    refine Bu 4 rfl ?_
    refine bd [] rfl (by simp) ?_
    exact Ab ⟨_,rfl,tV rfl,trivial⟩
termination_by v=>SizeOf.sizeOf v
decreasing_by
 have:=List.sizeOf_lt_of_mem (List.mem_of_getElem? ht)
 simp_wf
 omega
mutual
def AR (q : Str → Ty) : Ty → Ty
 | .mk f n x ps=>if f = 2 then q x else .mk f n x (Bo q ps)
def Bo (q : Str → Ty) : List Ty → List Ty
 | []=>[]
 | t :: r=>AR q t :: Bo q r
end
theorem D3 (q : Str → Ty) : ∀ l : List Ty,Bo q l = l.map (AR q)
 | []=>rfl
 | t :: r=>by simp [Bo,D3 q r]
theorem Jm {ps : List Ty} {t : Ty} {s : Str} (ht : t ∈ ps) (hs : s ∈ Am t) : s ∈ Au ps:=by
 induction ps with
 | nil=>cases ht
 | cons a r ih =>
  simp only [Au,List.mem_append]
  rcases List.mem_cons.1 ht with rfl | ht
  ·exact .inl hs
  ·exact .inr (ih ht)
set_option maxHeartbeats 1000000 in
theorem Um (g : FuncId) (a b : List V) (q : Str → Ty) : ∀ p : Ty,Ak p ≤ 1000000 → (∀ s ∈ Am p,PureC Tryz.prog g (a ++ [.str s] ++ b) (.agg (dTyc (q s)))) → PureC Tryz.prog 17 [.agg (dTyc p),.clo (.func g) a b] (.agg (dTyc (AR q p)))
 | .mk f n x ps,hN,hq=>by
  simp only [Ak] at hN
  have hpl : ps.length ≤ 1000000:=by
   have : ∀ l : List Ty,l.length ≤ Ag l:=fun l=>by
    induction l with
    | nil=>simp
    | cons t r ih=>obtain ⟨a,b,c,d⟩:=t;simp only [Ag,Ak,List.length_cons];omega
   have:=this ps;omega
  refine Ae An Tryz.func17 (by decide +kernel) rfl [1,2,3,4,6,7] rfl rfl ?_
  simp only [AR]
  refine bg [] rfl (by simp) ?_
  by_cases h2 : f = 2
  ·subst h2
   have hq:=hq x (by simp [Am])
   rw [if_pos rfl]
   generalize q x = u at *
   obtain ⟨u1,u2,u3,u4⟩:=u
   refine Aa rfl (fun h=>?_) (fun h=>by simp at h)
   refine bd [] rfl (by simp) ?_
   refine Qe rfl (fun _=>hq) (by simp) ?_
   refine bg [] rfl (by simp) ?_
   exact Ab ⟨_,rfl,tV rfl,trivial⟩
  rw [if_neg h2]
  have hq : ∀ t ∈ ps,∀ s ∈ Am t,PureC Tryz.prog g (a ++ [.str s] ++ b) (.agg (dTyc (q s))):=fun t ht s hs=>hq s (by simp only [Am];rw [if_neg h2];exact Jm ht hs)
  refine Aa rfl (fun h=>absurd (by simpa using h) h2) (fun h=>?_)
  clear h
  have hrl : (Bo q ps).length = ps.length:=by rw [D3];simp
  have hget : ∀ (i : Nat) (p : Ty),ps[i]? = some p → (Bo q ps)[i]? = some (AR q p):=fun i p hp=>by rw [D3,List.getElem?_map,hp];rfl
  generalize Bo q ps = R at *
  refine bd [] rfl (by simp) ?_
  refine Ah (fun i : Nat=>[(20,.imm (.int .i64 i)),(19,.imm (.int .i64 ps.length)),(18,.imm (.sl (A9 ps))),(1,.imm (.clo (.func g) a b)),(5,.ref 3 0),(4,.ref 2 0)])
   (fun i=>(2,some (.cells 50 4 [.imm (.int .i64 0),.imm (.int .i64 0),.imm (.str []),.nils])) :: Zh 3 4 50 50 4 4 [.imm (.int .i64 f),.imm (.int .i64 n),.imm (.str x)] i (A9 (R.take i))) [6,7] (fun i=>ps.length - i)
   (fun i=>i ≤ ps.length) 0 (Nat.zero_le _) ⟨rfl,As (by simp),rfl,rfl,rfl,rfl,trivial⟩ ⟨rfl,rfl,trivial⟩ rfl fun i hi ih=>?_
  refine bd [] rfl (by simp) ?_
  refine Aa rfl (fun h=>?_) (fun h=>?_)
  ·simp at h
   obtain ⟨t,ht⟩:=Ai h
   have hb:=Bb ht
   have hE:=Um g a b q t (by omega) (hq t (List.mem_of_getElem? ht))
   have et : A9 (R.take (i + 1)) = A9 (R.take i) ++ [dTyc (AR q t)]:=by rw [AI (hget i t ht),DZ];simp [A9]
   have hlen : (A9 (R.take i)).length ≤ 1000000:=by simp;omega
   have hih:=ih (i + 1) (by omega) (by omega)
   rw [et] at hih
   cases i with
   | zero =>
    rw [show A9 (R.take 0) ++ _ = [] ++ _ from rfl] at hih
    refine bd [] rfl (by simp) ?_
    refine bi rfl (c:=dTyc t) (fun _=>⟨by omega,by simpa using Ao ht,by simp⟩) (by simp) ?_
    refine bg [] rfl (by simp) ?_
    refine Ac rfl (fun _=>hE) (by simp) ?_
    refine bg [] rfl (by simp) ?_
    refine AZ An rfl ⟨by simp,by simp [maxLen],by simp,trivial⟩ ?_
    refine bg [] rfl (by simp;rfl) ?_
    refine AT 4 7 rfl ?_
    exact Ad hih ⟨As (Bw (by omega) (by omega)),rfl,rfl,rfl,rfl,rfl,trivial⟩ ⟨rfl,rfl,rfl,trivial⟩ rfl
   | succ i =>
    generalize A9 (R.take (i + 1)) = l at *
    refine bd [] rfl (by simp) ?_
    refine bi rfl (c:=dTyc t) (fun _=>⟨by omega,by simpa using Ao ht,by simp⟩) (by simp) ?_
    refine bg [] rfl (by simp) ?_
    refine Ac rfl (fun _=>hE) (by simp) ?_
    refine bg [] rfl (by simp) ?_
    refine AZ An rfl ⟨by simp,by simp [maxLen] at hlen ⊢;omega,by simp at hlen ⊢;omega,trivial⟩ ?_
    refine bg [] rfl (by simp;rfl) ?_
    refine AT 4 7 rfl ?_
    exact Ad hih ⟨As (Bw (by omega) (by omega)),rfl,rfl,rfl,rfl,rfl,trivial⟩ ⟨rfl,by simp only [List.length_append];rfl,rfl,trivial⟩ rfl
  ·simp at h
   have hi2 : i = ps.length:=by omega
   refine Av rfl ?_
   rw [List.take_of_length_le (by omega)]
   cases i with
   | zero =>
    have hR : R = []:=List.eq_nil_of_length_eq_zero (by omega)
    subst hR
    refine bd [] rfl (by simp) ?_
    exact Ab ⟨_,rfl,tV rfl,trivial⟩
   | succ i =>
    refine Bu 4 rfl ?_
    refine bd [] rfl (by simp) ?_
    exact Ab ⟨_,rfl,tV rfl,trivial⟩
termination_by p=>SizeOf.sizeOf p
decreasing_by
 have:=List.sizeOf_lt_of_mem (List.mem_of_getElem? ht)
 simp_wf
 omega
set_option maxHeartbeats 1000000 in
theorem Xd (g : FuncId) (q : Str → Ty) : ∀ p : Ty,Ak p ≤ 1000000 → (∀ s ∈ Am p,PureC Tryz.prog g [.str s] (.agg (dTyc (q s)))) → PureC Tryz.prog 17 [.agg (dTyc p),.fn (.func g)] (.agg (dTyc (AR q p)))
 | .mk f n x ps,hN,hq=>by
  simp only [Ak] at hN
  have hpl : ps.length ≤ 1000000:=by
   have : ∀ l : List Ty,l.length ≤ Ag l:=fun l=>by
    induction l with
    | nil=>simp
    | cons t r ih=>obtain ⟨a,b,c,d⟩:=t;simp only [Ag,Ak,List.length_cons];omega
   have:=this ps;omega
  refine Ae An Tryz.func17 (by decide +kernel) rfl [1,2,3,4,6,7] rfl rfl ?_
  simp only [AR]
  refine bg [] rfl (by simp) ?_
  by_cases h2 : f = 2
  ·subst h2
   have hq:=hq x (by simp [Am])
   rw [if_pos rfl]
   generalize q x = u at *
   obtain ⟨u1,u2,u3,u4⟩:=u
   refine Aa rfl (fun h=>?_) (fun h=>by simp at h)
   refine bd [] rfl (by simp) ?_
   refine Ac rfl (fun _=>hq) (by simp) ?_
   refine bg [] rfl (by simp) ?_
   exact Ab ⟨_,rfl,tV rfl,trivial⟩
  rw [if_neg h2]
  have hq : ∀ t ∈ ps,∀ s ∈ Am t,PureC Tryz.prog g [.str s] (.agg (dTyc (q s))):=fun t ht s hs=>hq s (by simp only [Am];rw [if_neg h2];exact Jm ht hs)
  refine Aa rfl (fun h=>absurd (by simpa using h) h2) (fun h=>?_)
  clear h
  have hrl : (Bo q ps).length = ps.length:=by rw [D3];simp
  have hget : ∀ (i : Nat) (p : Ty),ps[i]? = some p → (Bo q ps)[i]? = some (AR q p):=fun i p hp=>by rw [D3,List.getElem?_map,hp];rfl
  generalize Bo q ps = R at *
  refine bd [] rfl (by simp) ?_
  refine Ah (fun i : Nat=>[(20,.imm (.int .i64 i)),(19,.imm (.int .i64 ps.length)),(18,.imm (.sl (A9 ps))),(1,.imm (.fn (.func g))),(5,.ref 3 0),(4,.ref 2 0)])
   (fun i=>(2,some (.cells 50 4 [.imm (.int .i64 0),.imm (.int .i64 0),.imm (.str []),.nils])) :: Zh 3 4 50 50 4 4 [.imm (.int .i64 f),.imm (.int .i64 n),.imm (.str x)] i (A9 (R.take i))) [6,7] (fun i=>ps.length - i)
   (fun i=>i ≤ ps.length) 0 (Nat.zero_le _) ⟨rfl,As (by simp),rfl,rfl,rfl,rfl,trivial⟩ ⟨rfl,rfl,trivial⟩ rfl fun i hi ih=>?_
  refine bd [] rfl (by simp) ?_
  refine Aa rfl (fun h=>?_) (fun h=>?_)
  ·simp at h
   obtain ⟨t,ht⟩:=Ai h
   have hb:=Bb ht
   have hE:=Xd g q t (by omega) (hq t (List.mem_of_getElem? ht))
   have et : A9 (R.take (i + 1)) = A9 (R.take i) ++ [dTyc (AR q t)]:=by rw [AI (hget i t ht),DZ];simp [A9]
   have hlen : (A9 (R.take i)).length ≤ 1000000:=by simp;omega
   have hih:=ih (i + 1) (by omega) (by omega)
   rw [et] at hih
   cases i with
   | zero =>
    rw [show A9 (R.take 0) ++ _ = [] ++ _ from rfl] at hih
    refine bd [] rfl (by simp) ?_
    refine bi rfl (c:=dTyc t) (fun _=>⟨by omega,by simpa using Ao ht,by simp⟩) (by simp) ?_
    refine bg [] rfl (by simp) ?_
    refine Ac rfl (fun _=>hE) (by simp) ?_
    refine bg [] rfl (by simp) ?_
    refine AZ An rfl ⟨by simp,by simp [maxLen],by simp,trivial⟩ ?_
    refine bg [] rfl (by simp;rfl) ?_
    refine AT 4 7 rfl ?_
    exact Ad hih ⟨As (Bw (by omega) (by omega)),rfl,rfl,rfl,rfl,rfl,trivial⟩ ⟨rfl,rfl,rfl,trivial⟩ rfl
   | succ i =>
    generalize A9 (R.take (i + 1)) = l at *
    refine bd [] rfl (by simp) ?_
    refine bi rfl (c:=dTyc t) (fun _=>⟨by omega,by simpa using Ao ht,by simp⟩) (by simp) ?_
    refine bg [] rfl (by simp) ?_
    refine Ac rfl (fun _=>hE) (by simp) ?_
    refine bg [] rfl (by simp) ?_
    refine AZ An rfl ⟨by simp,by simp [maxLen] at hlen ⊢;omega,by simp at hlen ⊢;omega,trivial⟩ ?_
    refine bg [] rfl (by simp;rfl) ?_
    refine AT 4 7 rfl ?_
    exact Ad hih ⟨As (Bw (by omega) (by omega)),rfl,rfl,rfl,rfl,rfl,trivial⟩ ⟨rfl,by simp only [List.length_append];rfl,rfl,trivial⟩ rfl
  ·simp at h
   have hi2 : i = ps.length:=by omega
   refine Av rfl ?_
   rw [List.take_of_length_le (by omega)]
   cases i with
   | zero =>
    have hR : R = []:=List.eq_nil_of_length_eq_zero (by omega)
    subst hR
    refine bd [] rfl (by simp) ?_
    exact Ab ⟨_,rfl,tV rfl,trivial⟩
   | succ i =>
    refine Bu 4 rfl ?_
    refine bd [] rfl (by simp) ?_
    exact Ab ⟨_,rfl,tV rfl,trivial⟩
termination_by p=>SizeOf.sizeOf p
decreasing_by
 have:=List.sizeOf_lt_of_mem (List.mem_of_getElem? ht)
 simp_wf
 omega
def Wt : Ty:=.mk 1 0 [] []
theorem aX (s : Str) : PureC Tryz.prog 18 [.str s] (.agg (dTyc Wt)):=by
 refine Ae An Tryz.func18 (by decide +kernel) rfl [1,2] rfl rfl ?_
 refine bg [] rfl (by simp) ?_
 exact Ab ⟨_,rfl,tV rfl,trivial⟩
def NX (s : Str) : Nat → List Str → Int
 | _,[]=>-1
 | i,x :: r=>if s = x then (i : Int) else NX s (i + 1) r
theorem VR (l : List Str) (s : Str) : PureC Tryz.prog 24 [.sl (BU l),.str s] (.int .i64 (NX s 0 l)):=by
 refine A2 fun hv=>?_
 simp [Bt,Dd,maxLen] at hv
 refine Ae An Tryz.func24 (by decide +kernel) rfl [1,2] rfl rfl ?_
 refine bg [] rfl (by simp) ?_
 refine Ah (fun i : Nat=>[(8,.imm (.int .i64 i)),(7,.imm (.int .i64 l.length)),(0,.imm (.sl (BU l))),(1,.imm (.str s))]) (fun _=>[]) [1,2] (fun i=>l.length - i)
  (fun i=>i ≤ l.length ∧ NX s 0 l = NX s i (l.drop i)) 0 ⟨Nat.zero_le _,rfl⟩ ⟨rfl,As (by simp),rfl,rfl,trivial⟩ trivial rfl fun i hi ih=>?_
 obtain ⟨hi1,hi2⟩:=hi
 refine bd [] rfl (by simp) ?_
 refine Aa rfl (fun h=>?_) (fun h=>?_)
 ·simp at h
  obtain ⟨t,ht⟩:=Ai h
  rw [Al ht] at hi2
  simp only [NX] at hi2
  refine bd [] rfl (by simp) ?_
  refine bi rfl (c:=[.str t]) (fun _=>⟨by simp,by simpa using JF ht,rfl⟩) (by simp) ?_
  refine bg [] rfl (by simp) ?_
  by_cases hs : s = t
  ·rw [if_pos hs] at hi2
   refine Aa rfl (fun h=>?_) (fun h=>absurd hs (by simpa using h))
   refine bd [] rfl (by simp) ?_
   rw [hi2]
   exact Ab ⟨_,rfl,tV rfl,trivial⟩
  ·rw [if_neg hs] at hi2
   refine Aa rfl (fun h=>absurd (by simpa using h) hs) (fun h=>?_)
   refine bd [] rfl (by simp) ?_
   exact Ad (ih (i + 1) (by omega) ⟨by omega,hi2⟩) ⟨As (Bw (by omega) (by omega)),rfl,rfl,rfl,trivial⟩ trivial rfl
 ·simp at h
  refine Av rfl ?_
  refine bd [] rfl (by simp) ?_
  rw [hi2,List.drop_eq_nil_of_le (by omega)]
  exact Ab ⟨_,rfl,tV rfl,trivial⟩
theorem Rw (s : Str) : ∀ (l : List Str) (i : Nat),s ∈ l → ∃ k,NX s i l = ((i + k : Nat) : Int) ∧ l[k]? = some s
 | [],i,h=>by cases h
 | x :: r,i,h=>by
  simp only [NX]
  by_cases hs : s = x
  ·subst hs;rw [if_pos rfl];exact ⟨0,by simp,rfl⟩
  ·rw [if_neg hs]
   obtain ⟨k,h1,h2⟩:=Rw s r (i + 1) (by rcases List.mem_cons.1 h with h | h;exact absurd h hs;exact h)
   exact ⟨k + 1,by rw [h1];omega,by simpa using h2⟩
def Of (l : List (Str × Ty)) (ns : List Str) (s : Str) : Ty:=match l[(NX s 0 ns).toNat]? with
 | some b=>Cb b.2
 | none=>Wt
theorem aW (l : List (Str × Ty)) (ns : List Str) (s : Str) (hs : s ∈ ns) (hl : l.length = ns.length) (hN : ∀ b ∈ l,Ak b.2 ≤ 1000000) :
  PureC Tryz.prog 22 [.str s,.ip 37 [.sl (A7 l)] 0,.ip 57 [.sl (BU ns)] 0] (.agg (dTyc (Of l ns s))):=by
 obtain ⟨k,h1,h2⟩:=Rw s ns 0 hs
 have hk : k < l.length:=by rw [hl];exact (List.getElem?_eq_some_iff.1 h2).1
 obtain ⟨b,hb⟩:=Ai hk
 have hbN:=hN b (List.mem_of_getElem? hb)
 have hat : Of l ns s = Cb b.2:=by simp [Of,h1,hb]
 rw [hat]
 have hE:=RI b.2 hbN
 have hI:=VR ns s
 rw [h1] at hI
 obtain ⟨bs,bv⟩:=b
 simp only at hE
 have hbd : (A7 l)[((0 + k : Nat) : Int).toNat]? = some (CH (bs,bv)):=by simp [A7,hb]
 generalize Cb bv = u at *
 obtain ⟨b1,b2,b3,b4⟩:=bv
 obtain ⟨u1,u2,u3,u4⟩:=u
 refine PL ?_
 refine Ae An Tryz.func22 (by decide +kernel) rfl [1,2,3] rfl rfl ?_
 refine bg [] rfl (by simp) ?_
 refine Ac rfl (fun _=>hI) (by simp) ?_
 refine bg [] rfl (by simp) ?_
 refine bi rfl (c:=CH (bs,.mk b1 b2 b3 b4)) (fun _=>⟨by omega,hbd,by simp⟩) (by simp) ?_
 refine bg [] rfl (by simp) ?_
 refine Ac rfl (fun _=>hE) (by simp) ?_
 refine bg [] rfl (by simp;rfl) ?_
 exact Ab ⟨_,rfl,tV rfl,trivial⟩
def Dr : Str → Ty:=fun _=>Wt
theorem Xm {n : Int} {x : Str} {ps : List Ty} (h : AH (.mk 2 n x ps) = true) : ps = []:=by
 simp only [AH,Bool.and_eq_true] at h
 exact List.eq_nil_of_length_eq_zero ((EK h.1).2 (by decide))
theorem Xn {n : Int} {x : Str} {ps : List Ty} (h : AH (.mk 1 n x ps) = true) : ps = []:=by
 simp only [AH,Bool.and_eq_true] at h
 exact List.eq_nil_of_length_eq_zero ((EK h.1).2 (by decide))
mutual
theorem KI : ∀ p : Ty,AH p = true → Ak (AR Dr p) = Ak p
 | .mk f n x ps,h=>by
  simp only [AR]
  by_cases h2 : f = 2
  ·subst h2
   rw [Xm h,if_pos rfl];rfl
  ·rw [if_neg h2]
   simp only [AH,Bool.and_eq_true] at h
   simp only [Ak,NG ps h.2]
theorem NG : ∀ l : List Ty,AE l = true → Ag (Bo Dr l) = Ag l
 | [],_=>rfl
 | t :: r,h=>by
  simp only [AE,Bool.and_eq_true] at h
  simp only [Bo,Ag,KI t h.1,NG r h.2]
end
mutual
theorem S3 : ∀ p : Ty,AH p = true → AH (AR Dr p) = true
 | .mk f n x ps,h=>by
  simp only [AR]
  by_cases h2 : f = 2
  ·rw [if_pos h2];simp [Dr,Wt,AH,AE,Cz]
  ·rw [if_neg h2]
   simp only [AH,Bool.and_eq_true] at h ⊢
   have hl : (Bo Dr ps).length = ps.length:=by rw [D3];simp
   rw [hl]
   exact ⟨h.1,Pu ps h.2⟩
theorem Pu : ∀ l : List Ty,AE l = true → AE (Bo Dr l) = true
 | [],_=>rfl
 | t :: r,h=>by
  simp only [AE,Bo,Bool.and_eq_true] at h ⊢
  exact ⟨S3 t h.1,Pu r h.2⟩
end
mutual
theorem Pv : ∀ p : Ty,Am (AR Dr p) = []
 | .mk f n x ps=>by
  simp only [AR]
  by_cases h2 : f = 2
  ·rw [if_pos h2];rfl
  ·rw [if_neg h2]
   simp only [Am]
   rw [if_neg h2,NH ps]
theorem NH : ∀ l : List Ty,Au (Bo Dr l) = []
 | []=>rfl
 | t :: r=>by simp only [Bo,Au,Pv t,NH r,List.append_nil]
end
mutual
theorem Ys (ds : List Dt) : ∀ p t : Ty,BR ds t (AR Dr p) = BR ds t p
 | .mk f n x ps,.mk so m x0 qs=>by
  simp only [AR]
  by_cases h2 : f = 2
  ·subst h2
   rw [if_pos rfl]
   simp [Dr,Wt,BR]
  ·rw [if_neg h2]
   have hl : (Bo Dr ps).length = ps.length:=by rw [D3];simp
   simp only [BR,hl,UV ds ps]
theorem UV (ds : List Dt) : ∀ l ts : List Ty,BV ds ts (Bo Dr l) = BV ds ts l
 | [],ts=>by cases ts <;> rfl
 | p :: r,[]=>rfl
 | p :: r,t :: ts=>by simp only [Bo,BV,Ys ds p t,UV ds r ts]
end
mutual
theorem Pw : ∀ p v : Ty,(Aj (AR Dr p) v).2 = (Aj p v).2
 | .mk f n x ps,v=>by
  simp only [AR]
  by_cases h2 : f = 2
  ·subst h2
   rw [if_pos rfl]
   obtain ⟨g,m,z,vs⟩:=v
   simp [Dr,Wt,Aj]
  ·rw [if_neg h2]
   have hh : Bi (.mk f n x (Bo Dr ps)) = Bi (.mk f n x ps):=rfl
   simp only [Aj,hh]
   by_cases h1 : f = 1
   ·simp [h1]
   ·rw [if_neg h1,if_neg h2,if_neg h1,if_neg h2]
    split
    ·rfl
    ·exact NI ps (BF v)
theorem NI : ∀ l vs : List Ty,(Aw (Bo Dr l) vs).2 = (Aw l vs).2
 | [],vs=>by cases vs <;> rfl
 | p :: r,[]=>rfl
 | p :: r,v :: s=>by
  have h1:=Pw p v
  have h2:=NI r s
  simp only [Bo,Aw,h1,h2]
  cases (Aj p v).2 && (Aw r s).2 <;> rfl
end
theorem Px (v : Ty) : ∀ (l : List Ty) (i : Nat),Cm v i (l.map (AR Dr)) = Cm v i l
 | [],_=>rfl
 | p :: r,i=>by simp only [List.map_cons,Cm,Pw,Px v r (i + 1)]
theorem FK : ∀ l : List Ty,(∀ p ∈ l,AH p = true) → Ag (l.map (AR Dr)) = Ag l
 | [],_=>rfl
 | p :: r,h=>by
  simp only [List.map_cons,Ag]
  rw [KI p (h p (by simp)),FK r fun q hq=>h q (by simp [hq])]
def Ha (c : Cse) : Cse:=⟨c.datas,c.type,c.rows.map (AR Dr)⟩
theorem SQ {c : Cse} (h : Ea c = true) : Ea (Ha c) = true:=by
 simp only [Ea,Bool.and_eq_true,List.all_eq_true,SM,decide_eq_true_eq] at h ⊢
 obtain ⟨⟨⟨⟨h1,h2⟩,h3⟩,h4⟩,h5,h6⟩:=h
 have hp : ∀ p ∈ c.rows,AH p = true:=fun p hp=>by
  have:=(h5 p hp).1
  simp only [Cu,Bool.and_eq_true] at this
  exact this.1.2
 refine ⟨⟨⟨⟨h1,h2⟩,h3⟩,by simpa [Ha] using h4⟩,fun q hq=>?_,by simp only [Ha];rw [FK _ hp];exact h6⟩
 obtain ⟨p,hp',rfl⟩:=List.mem_map.1 hq
 obtain ⟨q1,q2⟩:=h5 p hp'
 refine ⟨?_,by simp only [Ha];rw [Ys];exact q2⟩
 simp only [Cu,Bool.and_eq_true,Pv] at q1 ⊢
 have e:=H9 (AR Dr p) 12
 have e':=H9 p 12
 rw [KI p (hp p hp'),← e'] at e
 exact ⟨⟨by rw [show ((12 : Nat) : Int) = 12 from rfl] at e;rw [e];exact q1.1.1,S3 p (hp p hp')⟩,rfl⟩
mutual
theorem Kl : ∀ a b : Ty,CQ a b = true ↔ a = b
 | .mk s n x ps,.mk s' n' x' qs=>by
  simp only [CQ,Bs,Bool.and_eq_true,beq_iff_eq,Mx ps qs,Ty.mk.injEq]
  exact ⟨fun ⟨⟨⟨a,b⟩,c⟩,d⟩=>⟨a,b,c,d⟩,fun ⟨a,b,c,d⟩=>⟨⟨⟨a,b⟩,c⟩,d⟩⟩
theorem Mx : ∀ a b : List Ty,Bz a b = true ↔ a = b
 | [],[]=>by simp [Bz]
 | a :: r,b :: q=>by simp only [Bz,Bool.and_eq_true,Kl a b,Mx r q,List.cons.injEq]
 | [],_ :: _=>by simp [Bz]
 | _ :: _,[]=>by simp [Bz]
end
theorem SK (a b : Ty) : CQ a b = CQ b a:=by
 rw [Bool.eq_iff_iff,Kl,Kl];exact eq_comm
theorem IZ : ∀ (a b c d : List (Str × Ty)),a.length = c.length → BT (a ++ b) (c ++ d) = (BT a c && BT b d)
 | [],b,[],d,_=>rfl
 | x :: a,b,y :: c,d,h=>by
  simp only [List.cons_append,BT,IZ a b c d (by simpa using h)]
  cases x.1 == y.1 <;> cases CQ x.2 y.2 <;> simp
 | [],_,_ :: _,_,h=>by simp at h
 | _ :: _,_,[],_,h=>by simp at h
mutual
def IG : Ty → Nat
 | .mk _ _ _ ps=>1 + Fy ps
def Fy : List Ty → Nat
 | []=>0
 | t :: r=>max (IG t) (Fy r)
end
mutual
theorem E4 : ∀ (t : Ty) (l d : Int),(0 ≤ AN t l d ↔ (Ak t : Int) ≤ l ∧ (IG t : Int) ≤ d) ∧ (0 ≤ AN t l d → AN t l d = l - Ak t)
 | .mk s n x ps,l,d=>by
  obtain ⟨h1,h2⟩:=KT ps (l - 1) (d - 1)
  simp only [AN,Ak,IG]
  by_cases h0 : l < 1 ∨ d < 1
  ·rw [if_pos h0]
   exact ⟨⟨fun h=>by omega,fun h=>by omega⟩,fun h=>by omega⟩
  ·rw [if_neg h0]
   by_cases hl : 0 ≤ l - 1
   ·refine ⟨⟨fun h=>?_,fun h=>(h1 hl).2 ⟨by omega,.inr (by omega)⟩⟩,fun h=>by have:=h2 hl h;omega⟩
    obtain ⟨q1,q2⟩:=(h1 hl).1 h
    rcases q2 with rfl | q2
    ·simp only [Fy,Ag] at q1 ⊢;omega
    ·omega
   ·omega
theorem KT : ∀ (ts : List Ty) (l d : Int),(0 ≤ l → (0 ≤ AV ts l d ↔ (Ag ts : Int) ≤ l ∧ (ts = [] ∨ (Fy ts : Int) ≤ d))) ∧ (0 ≤ l → 0 ≤ AV ts l d → AV ts l d = l - Ag ts)
 | [],l,d=>by simp [AV,Ag]
 | t :: r,l,d=>by
  obtain ⟨a1,a2⟩:=E4 t l d
  obtain ⟨b1,b2⟩:=KT r (AN t l d) d
  simp only [AV,Ag,Fy]
  refine ⟨fun hl=>?_,fun hl=>?_⟩
  ·rw [if_pos hl]
   by_cases hw : 0 ≤ AN t l d
   ·have e:=a2 hw
    obtain ⟨q1,q2⟩:=a1.1 hw
    rw [b1 hw,e]
    constructor
    ·rintro ⟨h,h'⟩
     refine ⟨by omega,.inr ?_⟩
     rcases h' with rfl | h'
     ·simp [Fy];omega
     ·omega
    ·rintro ⟨h,h'⟩
     refine ⟨by omega,?_⟩
     rcases h' with h' | h'
     ·cases h'
     ·exact .inr (by omega)
   ·have hle:=FB t l d
    have : AV r (AN t l d) d = AN t l d:=by
     cases r with
     | nil=>rfl
     | cons a b=>simp only [AV];rw [if_neg hw]
    rw [this]
    refine ⟨fun h=>absurd h hw,fun ⟨h,h'⟩=>?_⟩
    rcases h' with h' | h'
    ·cases h'
    ·exact absurd (a1.2 ⟨by omega,by omega⟩) hw
  ·rw [if_pos hl]
   intro h
   have hw : 0 ≤ AN t l d:=by
    by_cases hw : 0 ≤ AN t l d
    ·exact hw
    ·exfalso
     cases r with
     | nil=>exact hw h
     | cons a b=>simp only [AV] at h;rw [if_neg hw] at h;exact hw h
   have:=b2 hw h
   have:=a2 hw
   omega
end
mutual
theorem Pr : ∀ (p v : Ty),∀ b ∈ (Aj p v).1,Ak b.2 ≤ Ak v ∧ IG b.2 ≤ IG v ∧ (C0 v = true → C0 b.2 = true)
 | .mk f n x ps,v,b,hb=>by
  simp only [Aj] at hb
  split at hb
  ·simp at hb
  ·split at hb
   ·simp at hb;subst hb;exact ⟨Nat.le_refl _,Nat.le_refl _,id⟩
   ·split at hb
    ·simp at hb
    ·have:=NE ps (BF v) b hb
     obtain ⟨g,m,z,vs⟩:=v
     simp only [BF] at this
     simp only [Ak,IG,C0,Bool.and_eq_true]
     exact ⟨by omega,by omega,fun h=>this.2.2 h.1⟩
theorem NE : ∀ (ps vs : List Ty),∀ b ∈ (Aw ps vs).1,Ak b.2 ≤ Ag vs ∧ IG b.2 ≤ Fy vs ∧ (BM vs = true → C0 b.2 = true)
 | [],_,b,hb=>by simp [Aw] at hb
 | _ :: _,[],b,hb=>by simp [Aw] at hb
 | p :: r,q :: s,b,hb=>by
  simp only [Aw] at hb
  cases hc : (Aj p q).2 && (Aw r s).2
  ·rw [hc] at hb;simp at hb
  ·rw [hc] at hb
   simp only [cond_true,List.mem_append] at hb
   simp only [Ag,Fy,BM,Bool.and_eq_true]
   rcases hb with hb | hb
   ·have:=Pr p q b hb;exact ⟨by omega,by omega,fun h=>this.2.2 h.1⟩
   ·have:=NE r s b hb;exact ⟨by omega,by omega,fun h=>this.2.2 h.2⟩
end
theorem Ss {p v : Ty} {b : Str × Ty} (hb : b ∈ (Aj p v).1) (hl : DP v = true) (hv : Ml v = true) : DP b.2 = true ∧ Ml b.2 = true:=by
 obtain ⟨h1,h2,h3⟩:=Pr p v b hb
 simp only [Ml,Bool.and_eq_true] at hv ⊢
 have hl:=(E4 v 300 110).1.1 (of_decide_eq_true hl)
 have hv1:=(E4 v 20000 100).1.1 (of_decide_eq_true hv.1)
 exact ⟨decide_eq_true ((E4 b.2 300 110).1.2 (by omega)),decide_eq_true ((E4 b.2 20000 100).1.2 (by omega)),h3 hv.2⟩
theorem OX {n0 m : Int} {x z : Str} {qs ps vs : List Ty} {g : Int} (h : Bs (Bi (.mk 6 n0 x qs)) (.mk g m z vs) = true) : g = 4 ∧ m = 0 ∧ z = x:=by
 simp only [Bi,Bs] at h
 simp at h
 obtain ⟨⟨h1,h2⟩,h3⟩:=h
 exact ⟨h1.symm,h2.symm,h3.symm⟩
theorem Jj {ds : List Dt} {so n0 : Int} {x0 : Str} {qs : List Ty} {f n : Int} {x : Str} {ps : List Ty} (h : Rb ds (.mk so n0 x0 qs) (.mk f n x ps) = true) :
  (so = 1 ∧ f = 1) ∨ (so = 2 ∧ f = 2) ∨ (so = 3 ∧ f = 3) ∨ (so = 8 ∧ f = 4 ∧ (Ce ds (.mk so n0 x0 qs) x).1.length = ps.length ∧ (Ce ds (.mk so n0 x0 qs) x).2 = true ∧ GM ds (Ce ds (.mk so n0 x0 qs) x).1 ps = true) ∨ ((so ≠ 1 ∧ so ≠ 2 ∧ so ≠ 3 ∧ so ≠ 8) ∧ f = 5):=by
 rw [ST] at h
 simp only [V2] at h
 by_cases h1 : so = 1
 ·rw [if_pos h1] at h;exact .inl ⟨h1,by simpa using h⟩
 rw [if_neg h1] at h
 by_cases h2 : so = 2
 ·rw [if_pos h2] at h;exact .inr (.inl ⟨h2,by simpa using h⟩)
 rw [if_neg h2] at h
 by_cases h3 : so = 3
 ·rw [if_pos h3] at h;exact .inr (.inr (.inl ⟨h3,by simpa using h⟩))
 rw [if_neg h3] at h
 by_cases h8 : so = 8
 ·rw [if_pos h8] at h
  simp only [Bool.and_eq_true,decide_eq_true_eq] at h
  exact .inr (.inr (.inr (.inl ⟨h8,h.1,h.2.1,h.2.2.1,h.2.2.2⟩)))
 ·rw [if_neg h8] at h
  exact .inr (.inr (.inr (.inr ⟨⟨h1,h2,h3,h8⟩,by simpa using h⟩)))
theorem OE {n : Int} {x : Str} {k : Nat} (h : EN 1 n x k = true) : x = [] ∧ k = 0:=by
 simp [EN] at h;exact ⟨h.1.2,by omega⟩
theorem MO {n : Int} {x : Str} {k : Nat} (h : EN 2 n x k = true) : x = [] ∧ k = 0:=by
 simp [EN] at h;exact ⟨h.1.2,by omega⟩
theorem MM {n : Int} {x : Str} {k : Nat} (h : EN 3 n x k = true) : n = 0 ∧ x = [] ∧ k = 0:=by
 simp [EN] at h;exact ⟨h.1.1,h.1.2,by omega⟩
theorem MN {n : Int} {x : Str} {k : Nat} (h : EN 5 n x k = true) : n = 0 ∧ x = [] ∧ k = 0:=by
 simp [EN] at h;exact ⟨h.1.1,h.1.2,by omega⟩
theorem OF {n : Int} {x : Str} {k : Nat} (h : EN 4 n x k = true) : n = 0:=by
 simp [EN] at h;exact h.1.1
mutual
theorem Lw (ds : List Dt) : ∀ u w t : Ty,Rb ds t u = true → Rb ds t w = true → C0 u = true → C0 w = true → (Aj (Cb u) w).2 = CQ u w
 | .mk f n x ps,.mk g m z vs,.mk so n0 x0 qs,hu,hw,nu,nw=>by
  simp only [C0,Bool.and_eq_true] at nu nw
  rcases Jj hu with ⟨s1,rfl⟩ | ⟨s1,rfl⟩ | ⟨s1,rfl⟩ | ⟨s1,rfl,l1,k1,o1⟩ | ⟨s1,rfl⟩ <;> rcases Jj hw with ⟨s2,rfl⟩ | ⟨s2,rfl⟩ | ⟨s2,rfl⟩ | ⟨s2,rfl,l2,k2,o2⟩ | ⟨s2,rfl⟩ <;> first | (exfalso;omega) | skip
  ·obtain ⟨rfl,e1⟩:=OE nu.2
   obtain ⟨rfl,e2⟩:=OE nw.2
   rw [List.eq_nil_of_length_eq_zero e1,List.eq_nil_of_length_eq_zero e2]
   simp [Cb,Aj,Bi,Bs,CQ,Bz,BF,Aw]
   by_cases h : n = m <;> simp [h]
  ·obtain ⟨rfl,e1⟩:=MO nu.2
   obtain ⟨rfl,e2⟩:=MO nw.2
   rw [List.eq_nil_of_length_eq_zero e1,List.eq_nil_of_length_eq_zero e2]
   simp [Cb,Aj,Bi,Bs,CQ,Bz,BF,Aw]
   by_cases h : n = m <;> simp [h]
  ·obtain ⟨rfl,rfl,e1⟩:=MM nu.2
   obtain ⟨rfl,rfl,e2⟩:=MM nw.2
   rw [List.eq_nil_of_length_eq_zero e1,List.eq_nil_of_length_eq_zero e2]
   simp [Cb,Aj,Bi,Bs,CQ,Bz,BF,Aw]
  ·have hn:=OF nu.2
   have hm:=OF nw.2
   subst hn;subst hm
   by_cases hx : x = z
   ·subst hx
    have:=JB ds ps vs (Ce ds (.mk so n0 x0 qs) x).1 l1 l2 o1 o2 nu.1 nw.1
    simp [Cb,Aj,Bi,Bs,CQ,BF,this]
   ·simp [Cb,Aj,Bi,Bs,CQ,BF,hx]
  ·obtain ⟨rfl,rfl,e1⟩:=MN nu.2
   obtain ⟨rfl,rfl,e2⟩:=MN nw.2
   rw [List.eq_nil_of_length_eq_zero e1,List.eq_nil_of_length_eq_zero e2]
   simp [Cb,Aj,CQ,Bz,Bs]
theorem JB (ds : List Dt) : ∀ us ws ts : List Ty,ts.length = us.length → ts.length = ws.length → GM ds ts us = true → GM ds ts ws = true → BM us = true → BM ws = true → (Aw (Et us) ws).2 = Bz us ws
 | [],[],_,_,_,_,_,_,_=>rfl
 | [],w :: ws,ts,h1,h2,_,_,_,_=>by have:=h1.symm.trans h2;simp at this
 | u :: us,[],ts,h1,h2,_,_,_,_=>by have:=h1.symm.trans h2;simp at this
 | u :: us,w :: ws,[],h1,_,_,_,_,_=>by simp at h1
 | u :: us,w :: ws,t :: ts,h1,h2,o1,o2,n1,n2=>by
  simp only [GM,BM,Bool.and_eq_true] at o1 o2 n1 n2
  have a:=Lw ds u w t o1.1 o2.1 n1.1 n2.1
  have b:=JB ds us ws ts (by simpa using h1) (by simpa using h2) o1.2 o2.2 n1.2 n2.2
  simp only [Et,Aw,Bz,a,b]
  cases CQ u w && Bz us ws <;> rfl
end
mutual
theorem GF : ∀ p v : Ty,AH p = true → Ie p v = true → (Aj p v).2 = true → (Aj p v).1.map (·.1) = Am p
 | .mk f n x ps,v,hw,hok,hm=>by
  by_cases h1 : f = 1
  ·subst h1
   have:=Xn hw
   subst this
   simp [Aj,Am,Au]
  by_cases h2 : f = 2
  ·subst h2;simp [Aj,Am]
  simp only [Ie] at hok
  simp only [Aj,Am,h1,h2,if_false,decide_false,Bool.false_or] at hm hok ⊢
  cases he : Bs (Bi (.mk f n x ps)) v with
  | false=>simp [he] at hm
  | true =>
   simp only [he,Bool.not_true,Bool.false_or,Bool.and_eq_true] at hok
   simp only [he,Bool.true_eq_false,if_false] at hm ⊢
   simp only [AH,Bool.and_eq_true] at hw
   exact LC ps (BF v) hw.2 hok.2 (of_decide_eq_true hok.1) hm
theorem LC : ∀ ps vs : List Ty,AE ps = true → Hd ps vs = true → ps.length ≤ vs.length → (Aw ps vs).2 = true → (Aw ps vs).1.map (·.1) = Au ps
 | [],_,_,_,_,_=>by simp [Aw,Au]
 | _ :: _,[],_,_,hl,_=>by simp at hl
 | p :: r,q :: s,hw,hok,hl,hm=>by
  simp only [AE,Hd,Bool.and_eq_true] at hw hok
  simp only [Aw] at hm ⊢
  cases hc : (Aj p q).2 && (Aw r s).2 with
  | false=>rw [hc] at hm;simp at hm
  | true =>
   simp only [Bool.and_eq_true] at hc
   simp only [cond_true,List.map_append,Au]
   rw [GF p q hw.1 hok.1 hc.1,LC r s hw.2 hok.2 (by simpa using hl) hc.2]
end
mutual
theorem Kn (ds : List Dt) (q : Str → Ty) : ∀ p v w t : Ty,AH p = true → BR ds t p = true → Rb ds t v = true → Rb ds t w = true → C0 v = true → C0 w = true → (Aj p v).2 = true → (∀ b ∈ (Aj p v).1,q b.1 = Cb b.2) →
  (Aj (AR q p) w).2 = ((Aj p w).2 && BT (Aj p w).1 (Aj p v).1)
 | .mk f n x ps,.mk g m z vs,.mk g' m' z' ws,.mk so n0 x0 qs,hp,ho,hv,hw,nv,nw,hm,hq=>by
  by_cases h2 : f = 2
  ·subst h2
   have:=hq (x,.mk g m z vs) (by simp [Aj])
   simp only at this
   simp only [AR,this,if_true]
   rw [Lw ds _ _ _ hv hw nv nw,SK]
   simp [Aj,BT]
  have hpw:=hp
  simp only [AH,Bool.and_eq_true] at hp
  simp only [AR,if_neg h2]
  have hh : Bi (.mk f n x (Bo q ps)) = Bi (.mk f n x ps):=rfl
  by_cases h1 : f = 1
  ·subst h1
   simp [Aj,BT]
  simp only [Aj,hh,h1,h2,if_false,BF] at hm hq ⊢
  cases he : Bs (Bi (.mk f n x ps)) (.mk g m z vs) with
  | false=>simp [he] at hm
  | true =>
   simp only [he,Bool.true_eq_false,if_false] at hm hq
   cases he' : Bs (Bi (.mk f n x ps)) (.mk g' m' z' ws) with
   | false=>simp
   | true =>
    simp only [he,Bool.true_eq_false,if_false]
    by_cases h6 : f = 6
    ·subst h6
     obtain ⟨rfl,rfl,rfl⟩:=OX (ps:=ps) he
     obtain ⟨rfl,rfl,rfl⟩:=OX (ps:=ps) he'
     rcases Jj hv with ⟨_,h⟩ | ⟨_,h⟩ | ⟨_,h⟩ | ⟨s1,_,l1,k1,o1⟩ | ⟨_,h⟩
     ·cases h
     ·cases h
     ·cases h
     ·rcases Jj hw with ⟨_,h⟩ | ⟨_,h⟩ | ⟨_,h⟩ | ⟨s2,_,l2,k2,o2⟩ | ⟨_,h⟩
      ·cases h
      ·cases h
      ·cases h
      ·rw [Kt] at ho
       simp [HC] at ho
       simp only [C0,Bool.and_eq_true] at nv nw
       exact M8 ds q ps vs ws _ ho.1 l1 l2 hp.2 ho.2.2 o1 o2 nv.1 nw.1 hm hq
      ·cases h
     ·cases h
    ·have hps : ps = []:=List.eq_nil_of_length_eq_zero ((EK hp.1).2 h6)
     subst hps
     simp [Bo,Aw,BT]
theorem M8 (ds : List Dt) (q : Str → Ty) : ∀ ps vs ws ts : List Ty,ts.length = ps.length → ts.length = vs.length → ts.length = ws.length → AE ps = true → BV ds ts ps = true → GM ds ts vs = true → GM ds ts ws = true → BM vs = true → BM ws = true →
  (Aw ps vs).2 = true → (∀ b ∈ (Aw ps vs).1,q b.1 = Cb b.2) → (Aw (Bo q ps) ws).2 = ((Aw ps ws).2 && BT (Aw ps ws).1 (Aw ps vs).1)
 | [],_,_,_,_,_,_,_,_,_,_,_,_,_,_=>by simp [Aw,Bo,BT]
 | p :: r,[],_,ts,l1,l2,_,_,_,_,_,_,_,_,_=>by have:=l1.symm.trans l2;simp at this
 | p :: r,v :: vs,[],ts,l1,_,l3,_,_,_,_,_,_,_,_=>by have:=l1.symm.trans l3;simp at this
 | p :: r,v :: vs,w :: ws,[],l1,_,_,_,_,_,_,_,_,_,_=>by simp at l1
 | p :: r,v :: vs,w :: ws,t :: ts,l1,l2,l3,hp,ho,hv,hw,nv,nw,hm,hq=>by
  simp only [AE,BV,GM,BM,Bool.and_eq_true] at hp ho hv hw nv nw
  simp only [Aw] at hm hq
  cases hc : (Aj p v).2 && (Aw r vs).2 with
  | false=>rw [hc] at hm;simp at hm
  | true =>
   rw [hc] at hq
   simp only [Bool.and_eq_true] at hc
   simp only [cond_true,List.mem_append] at hq
   have a:=Kn ds q p v w t hp.1 ho.1 hv.1 hw.1 nv.1 nw.1 hc.1 fun b hb=>hq b (.inl hb)
   have b:=M8 ds q r vs ws ts (by simpa using l1) (by simpa using l2) (by simpa using l3) hp.2 ho.2 hv.2 hw.2 nv.2 nw.2 hc.2 fun b hb=>hq b (.inr hb)
   simp only [Bo,Aw,a,b,hc.1,hc.2,Bool.and_self,cond_true]
   cases e1 : (Aj p w).2 with
   | false=>simp
   | true =>
    cases e2 : (Aw r ws).2 with
    | false=>simp
    | true =>
     have n1:=GF p v hp.1 (LT ds p t v hp.1 ho.1 hv.1) hc.1
     have n2:=GF p w hp.1 (LT ds p t w hp.1 ho.1 hw.1) e1
     have hl : (Aj p w).1.length = (Aj p v).1.length:=by
      have:=congrArg List.length (n2.trans n1.symm);simpa using this
     simp only [Bool.true_and,Bool.and_self,cond_true]
     rw [IZ _ _ _ _ hl]
     cases BT (Aj p w).1 (Aj p v).1 && BT (Aw r ws).1 (Aw r vs).1 <;> rfl
end
theorem Ni {s : Str} : ∀ {l : List Str} {i k : Nat},l.Nodup → l[k]? = some s → NX s i l = ((i + k : Nat) : Int)
 | [],i,k,_,h=>by simp at h
 | x :: r,i,k,hn,h=>by
  simp only [NX]
  cases k with
  | zero=>simp at h;subst h;simp
  | succ k =>
   have hk : r[k]? = some s:=by simpa using h
   have hne : ¬ s = x:=fun e=>(List.nodup_cons.1 hn).1 (e ▸ List.mem_of_getElem? hk)
   rw [if_neg hne,Ni (List.nodup_cons.1 hn).2 hk]
   congr 1;omega
theorem Zx {l : List (Str × Ty)} (hn : (l.map (·.1)).Nodup) : ∀ b ∈ l,Of l (l.map (·.1)) b.1 = Cb b.2:=by
 intro b hb
 obtain ⟨k,hk⟩:=List.getElem?_of_mem hb
 have:=Ni (i:=0) hn (show (l.map (·.1))[k]? = some b.1 by simp [hk])
 simp [Of,this,hk]
theorem RA (c : Cse) (v : Ty) : PureC Tryz.prog 16 [.agg (dCse c),.agg (dTyc v)] (.bool (Kh c && DP v && GJ c v)):=by
 have h1:=Vm c
 have h2:=OP v
 have h3:=Zj c v
 generalize Kh c = b1 at *
 generalize DP v = b2 at *
 generalize GJ c v = b3 at *
 obtain ⟨ds,⟨c1,c2,c3,c4⟩,rows⟩:=c
 obtain ⟨s,n,x,ps⟩:=v
 refine Ae An Tryz.func16 (by decide +kernel) rfl [1,2,3] rfl rfl ?_
 refine bg [] rfl (by simp) ?_
 refine Ac rfl (fun _=>h1) (by simp) ?_
 refine bg [] rfl (by simp) ?_
 refine Ac rfl (fun _=>h2) (by simp [Af]) ?_
 refine bg [] rfl (by simp [Af]) ?_
 refine Ac rfl (fun _=>h3) (by simp [Af]) ?_
 refine bg [] rfl (by simp [Af]) ?_
 refine Ab ⟨_,rfl,tV (congrArg _ ?_),trivial⟩
 simp
theorem HI {c : Cse} {r : Int} {v : Ty} {p : Ty} (ha : Cv c v = true) (hr0 : 0 ≤ r) (hr : r < c.rows.length) (hp : c.rows[r.toNat]? = some p) : MW c r v = bif (Aj p v).2 then ((Aj p v).1,0) else ([],5):=by
 have : Mq c r = true:=by simp [Mq,hr0,hr]
 simp [MW,ha,this,hp]
def FJ (c : Cse) (q : Ty) : Cse:=⟨c.datas,c.type,[q]⟩
set_option maxHeartbeats 2000000 in
theorem CoverNames_of (hk : PureC Tryz.prog 8 [] (.bool true)) (c : Cse) (r : Int) (v w : Ty) : PureC Tryz.prog 4 [.agg (dCse c),.int .i64 r,.agg (dTyc v),.agg (dTyc w)] (.bool true):=by
 have hg1:=RA c v
 have hg2:=RA c w
 generalize hG1 : (Kh c && DP v && GJ c v) = G1 at *
 generalize hG2 : (Kh c && DP w && GJ c w) = G2 at *
 by_cases hcond : G1 = true ∧ G2 = true ∧ 0 ≤ r ∧ r < c.rows.length
 case neg =>
  obtain ⟨ds,⟨c1,c2,c3,c4⟩,rows⟩:=c
  obtain ⟨v1,v2,v3,v4⟩:=v
  obtain ⟨w1,w2,w3,w4⟩:=w
  refine Ae An Tryz.func4 (by decide +kernel) rfl [1,2,3] rfl rfl ?_
  refine bg [] rfl (by simp) ?_
  refine Ac rfl (fun _=>hg1) (by simp) ?_
  refine bg [] rfl (by simp) ?_
  refine Ac rfl (fun _=>hg2) (by simp [Af]) ?_
  refine bg [] rfl (by simp [Af]) ?_
  refine Aa rfl (fun h=>?_) (fun h=>by exfalso;apply hcond;simp at h ⊢;grind)
  refine bd [] rfl (by simp) ?_
  refine Ac rfl (fun _=>hk) (by simp) ?_
  refine bg [] rfl (by simp) ?_
  exact Ab ⟨_,rfl,tV rfl,trivial⟩
 obtain ⟨rfl,rfl,hr0,hr1⟩:=hcond
 simp only [Bool.and_eq_true] at hG1 hG2
 obtain ⟨⟨hsm,hlv⟩,hfv⟩:=hG1
 obtain ⟨⟨_,hlw⟩,hfw⟩:=hG2
 have hav : Cv c v = true:=by rw [FY];exact hfv
 have haw : Cv c w = true:=by rw [FY];exact hfw
 simp only [GJ,Bool.and_eq_true] at hfv hfw
 have hpc:=SQ hfv.1.1
 have hap : Cv (Ha c) v = true:=by
  rw [FY];simp only [GJ,Bool.and_eq_true];exact ⟨⟨hpc,hfv.1.2⟩,hfv.2⟩
 have hrow1:=Ui c v
 have hrow2:=Ui (Ha c) v
 rw [hav] at hrow1
 rw [hap] at hrow2
 simp only [cond_true] at hrow1 hrow2
 rw [show Cm v 0 (Ha c).rows = Cm v 0 c.rows from Px v c.rows 0] at hrow2
 obtain ⟨p,hp⟩:=Ai (l:=c.rows) (i:=r.toNat) (by omega)
 have hpm:=List.mem_of_getElem? hp
 obtain ⟨hpw,hpok,hp12⟩:=DE hav p hpm
 have hnv:=Gy hlv
 have hnw:=Gy hlw
 have hrb : Cu p = true ∧ BR c.datas c.type p = true:=by
  have:=hfv.1.1
  simp only [Ea,Bool.and_eq_true,List.all_eq_true,SM] at this
  exact this.2.1 p hpm
 have hnd : (Am p).Nodup:=by
  have:=hrb.1
  simp only [Cu,Bool.and_eq_true] at this
  exact L1.1 this.2
 have hvv:=hfv.1.2
 have hwv:=hfw.1.2
 simp only [Ml,Bool.and_eq_true] at hvv hwv
 have hMv:=HZ c r v (by omega)
 have hMw:=HZ c r w (by omega)
 rw [HI hav hr0 hr1 hp] at hMv
 rw [HI haw hr0 hr1 hp] at hMw
 have hrl:=(FX (c:=c) (by simp only [Cv,Bool.and_eq_true] at hav;exact hav.1.1)).2.2.2.1
 have hput1 : ∀ q ∈ c.rows,PureC Tryz.prog 17 [.agg (dTyc q),.fn (.func 18)] (.agg (dTyc (AR Dr q))):=fun q hq =>
  Xd 18 Dr q (by have:=(DE hav q hq).2.2;omega) fun s _=>aX s
 have hPN:=F2 p (by omega)
 have hnl : (Am p).length ≤ 12:=by have:=Gu p;omega
 have hR : ∀ (i : Nat) (q : Ty),c.rows[i]? = some q → (c.rows.map (AR Dr))[i]? = some (AR Dr q):=fun i q hq=>by simp [hq]
 have hRl : (c.rows.map (AR Dr)).length = c.rows.length:=by simp
 have hlb : ∀ b ∈ (Aj p v).1,DP b.2 = true ∧ Ml b.2 = true:=fun b hb=>Ss hb hlv hfv.1.2
 have hmn : (Aj p v).2 = true → (Aj p v).1.map (·.1) = Am p:=GF p v hpw hpok
 have hsame:=Ja (Aj p w).1 (Aj p v).1
 have hput2 : (Aj p v).2 = true → PureC Tryz.prog 17 [.agg (dTyc p),.clo (.func 22) [] [.ip 37 [.sl (A7 (Aj p v).1)] 0,.ip 57 [.sl (BU (Am p))] 0]] (.agg (dTyc (AR (Of (Aj p v).1 (Am p)) p))):=fun hm =>
  Um 22 [] _ (Of (Aj p v).1 (Am p)) p (by omega) fun s hs=>aW (Aj p v).1 (Am p) s hs (by rw [← hmn hm];simp) fun b hb=>by have:=Gy (hlb b hb).1;omega
 have hat : (Aj p v).2 = true → ∀ b ∈ (Aj p v).1,Of (Aj p v).1 (Am p) b.1 = Cb b.2:=fun hm=>by
  have:=Zx (l:=(Aj p v).1) (by rw [hmn hm];exact hnd)
  rwa [hmn hm] at this
 have hw2 : (Aj p v).2 = true → (Aj (AR (Of (Aj p v).1 (Am p)) p) w).2 = ((Aj p w).2 && BT (Aj p w).1 (Aj p v).1):=fun hm =>
  Kn c.datas _ p v w c.type hpw hrb.2 hfv.2 hfw.2 hvv.2 hwv.2 hm (hat hm)
 have hv2 : (Aj p v).2 = true → (Aj (AR (Of (Aj p v).1 (Am p)) p) v).2 = true:=fun hm=>by
  rw [Kn c.datas _ p v v c.type hpw hrb.2 hfv.2 hfv.2 hvv.2 hvv.2 hm (hat hm),hm,Mz];rfl
 have hC:=Vb (FJ c (AR (Of (Aj p v).1 (Am p)) p))
 have hM1:=HZ (FJ c (AR (Of (Aj p v).1 (Am p)) p)) 0 v (by omega)
 have hM2:=HZ (FJ c (AR (Of (Aj p v).1 (Am p)) p)) 0 w (by omega)
 have hM1 : (Aj p v).2 = true → Ea (FJ c (AR (Of (Aj p v).1 (Am p)) p)) = true → ∃ l,PureC Tryz.prog 9 [.agg (dCse (FJ c (AR (Of (Aj p v).1 (Am p)) p))),.int .i64 0,.agg (dTyc v)] (.tup [.sl (A7 l),.int .i64 0]):=fun hm hcb=>by
  rw [HI (p:=AR (Of (Aj p v).1 (Am p)) p) (by rw [FY];simp only [GJ,Bool.and_eq_true];exact ⟨⟨hcb,hfv.1.2⟩,hfv.2⟩) (by omega) (by simp [FJ]) (by simp [FJ]),hv2 hm] at hM1
  exact ⟨_,hM1⟩
 have hM2 : (Aj p v).2 = true → Ea (FJ c (AR (Of (Aj p v).1 (Am p)) p)) = true → ∃ l,PureC Tryz.prog 9 [.agg (dCse (FJ c (AR (Of (Aj p v).1 (Am p)) p))),.int .i64 0,.agg (dTyc w)] (.tup [.sl (A7 l),.int .i64 (bif (Aj p w).2 && BT (Aj p w).1 (Aj p v).1 then 0 else 5)]):=fun hm hcb=>by
  rw [HI (p:=AR (Of (Aj p v).1 (Am p)) p) (by rw [FY];simp only [GJ,Bool.and_eq_true];exact ⟨⟨hcb,hfw.1.2⟩,hfw.2⟩) (by omega) (by simp [FJ]) (by simp [FJ]),hw2 hm] at hM2
  cases hc : (Aj p w).2 && BT (Aj p w).1 (Aj p v).1 <;> rw [hc] at hM2 <;> exact ⟨_,hM2⟩
 clear hw2 hv2 hat hvv hwv hfv hfw hap hav haw
 generalize Ea (FJ c (AR (Of (Aj p v).1 (Am p)) p)) = cb at *
 simp only [FJ] at hC hM1 hM2
 generalize AR (Of (Aj p v).1 (Am p)) p = P' at *
 generalize Am p = ns at *
 have hpl : Ha c = ⟨c.datas,c.type,c.rows.map (AR Dr)⟩:=rfl
 rw [hpl] at hrow2
 generalize c.rows.map (AR Dr) = R at *
 generalize Cm v 0 c.rows = fn at *
 generalize BT (Aj p w).1 (Aj p v).1 = sb at *
 generalize (Aj p v).1 = l at *
 generalize (Aj p v).2 = mv at *
 generalize (Aj p w).1 = kw at *
 generalize (Aj p w).2 = mw at *
 obtain ⟨ds,⟨c1,c2,c3,c4⟩,rows⟩:=c
 simp only at hr1 hp hrl hput1 hR hRl hrow1 hrow2 hC hM1 hM2
 obtain ⟨v1,v2,v3,v4⟩:=v
 obtain ⟨w1,w2,w3,w4⟩:=w
 refine Ae An Tryz.func4 (by decide +kernel) rfl [1,2,3,4,5,6,7,8,9,10,11] rfl rfl ?_
 refine bg [] rfl (by simp) ?_
 refine Ac rfl (fun _=>hg1) (by simp) ?_
 refine bg [] rfl (by simp) ?_
 refine Ac rfl (fun _=>hg2) (by simp [Af]) ?_
 refine bg [] rfl (by simp [Af]) ?_
 refine Aa rfl (fun h=>by exfalso;simp at h;omega) (fun h=>?_)
 clear h
 refine bd [] rfl (by simp) ?_
 refine Ah (fun i : Nat=>[(56,.imm (.int .i64 i)),(55,.imm (.int .i64 rows.length)),(54,.imm (.sl (A9 rows))),(9,.ref 4 0),(7,.ref 3 0),(6,.ref 2 0),(4,.ref 1 0),(1,.imm (.int .i64 r))])
  (fun i=>(1,some (.immb 29 6 (dCse ⟨ds,.mk c1 c2 c3 c4,rows⟩))) :: (2,some (.immb 33 4 (dTyc (.mk v1 v2 v3 v4)))) :: (3,some (.immb 33 4 (dTyc (.mk w1 w2 w3 w4)))) :: Zh 4 5 29 50 6 4 [.imm (.sl (ds.map BB)),.imm (.int .i64 c1),.imm (.int .i64 c2),.imm (.str c3),.imm (.sl (A9 c4))] i (A9 (R.take i))) [6,7,8,9,10,11] (fun i=>rows.length - i)
  (fun i=>i ≤ rows.length) 0 (Nat.zero_le _) ⟨rfl,As (by simp),rfl,rfl,rfl,rfl,rfl,rfl,trivial⟩ ⟨rfl,rfl,rfl,rfl,trivial⟩ rfl fun i hi ih=>?_
 refine bd [] rfl (by simp) ?_
 refine Aa rfl (fun h=>?_) (fun h=>?_)
 ·simp at h
  obtain ⟨t,ht⟩:=Ai h
  have hE:=hput1 t (List.mem_of_getElem? ht)
  have et : A9 (R.take (i + 1)) = A9 (R.take i) ++ [dTyc (AR Dr t)]:=by rw [AI (hR i t ht),DZ];simp [A9]
  have hlen : (A9 (R.take i)).length ≤ 5:=by simp;omega
  have hih:=ih (i + 1) (by omega) (by omega)
  rw [et] at hih
  obtain ⟨t1,t2,t3,t4⟩:=t
  cases i with
  | zero =>
   rw [show A9 (R.take 0) ++ _ = [] ++ _ from rfl] at hih
   refine bd [] rfl (by simp) ?_
   refine bi rfl (c:=dTyc (.mk t1 t2 t3 t4)) (fun _=>⟨by omega,by simpa using Ao ht,by simp⟩) (by simp) ?_
   refine bg [] rfl (by simp) ?_
   refine Ac rfl (fun _=>hE) (by simp) ?_
   refine bg [] rfl (by simp) ?_
   refine AZ An rfl ⟨by simp,by simp [maxLen],by simp,trivial⟩ ?_
   refine bg [] rfl (by simp;rfl) ?_
   refine AT 5 7 rfl ?_
   exact Ad hih ⟨As (Bw (by omega) (by omega)),rfl,rfl,rfl,rfl,rfl,rfl,rfl,trivial⟩ ⟨rfl,rfl,rfl,rfl,rfl,trivial⟩ rfl
  | succ i =>
   generalize A9 (R.take (i + 1)) = lr at *
   refine bd [] rfl (by simp) ?_
   refine bi rfl (c:=dTyc (.mk t1 t2 t3 t4)) (fun _=>⟨by omega,by simpa using Ao ht,by simp⟩) (by simp) ?_
   refine bg [] rfl (by simp) ?_
   refine Ac rfl (fun _=>hE) (by simp) ?_
   refine bg [] rfl (by simp) ?_
   refine AZ An rfl ⟨by simp,by simp [maxLen] at hlen ⊢;omega,by simp at hlen ⊢;omega,trivial⟩ ?_
   refine bg [] rfl (by simp;rfl) ?_
   refine AT 5 7 rfl ?_
   exact Ad hih ⟨As (Bw (by omega) (by omega)),rfl,rfl,rfl,rfl,rfl,rfl,rfl,trivial⟩ ⟨rfl,rfl,rfl,rfl,by simp only [List.length_append];rfl,trivial⟩ rfl
 simp at h
 have hi2 : i = rows.length:=by omega
 refine Av rfl ?_
 rw [List.take_of_length_le (by omega)]
 cases i with
 | zero=>omega
 | succ i =>
 refine Bu 5 rfl ?_
 clear ih hi2 hi h
 refine bd [] rfl (by simp) ?_
 refine Ac rfl (fun _=>hrow1) (by simp) ?_
 refine bg [] rfl (by simp) ?_
 refine Ac rfl (fun _=>hrow2) (by simp) ?_
 refine bg [] rfl (by simp [Af]) ?_
 refine Aa rfl (fun h=>by simp at h) (fun h=>?_)
 clear h
 refine bd [] rfl (by simp) ?_
 cases mv with
 | false =>
  refine Ac rfl (fun _=>hMv) (by simp) ?_
  refine bg [] rfl (by simp) ?_
  refine Aa rfl (fun h=>?_) (fun h=>by simp at h)
  refine bd [] rfl (by simp [Af]) ?_
  refine Ac rfl (fun _=>hk) (by simp [Af]) ?_
  refine bg [] rfl (by simp [Af]) ?_
  exact Ab ⟨_,rfl,tV rfl,trivial⟩
 | true =>
  simp only [cond_true] at hMv
  have hmn:=hmn rfl
  have hput2:=hput2 rfl
  have hll : l.length = ns.length:=by rw [← hmn];simp
  refine Ac rfl (fun _=>hMv) (by simp) ?_
  refine bg [] rfl (by simp) ?_
  refine Aa rfl (fun h=>by simp at h) (fun h=>?_)
  clear h
  refine bd [] rfl (by simp) ?_
  refine bi rfl (c:=dTyc p) (fun _=>⟨hr0,by simpa using Ao hp,by simp⟩) (by simp) ?_
  refine bg [] rfl (by simp) ?_
  refine Ac rfl (fun _=>hPN) (by simp) ?_
  refine bg [] rfl (by simp) ?_
  refine Aa rfl (fun h=>by exfalso;simp at h;omega) (fun h=>?_)
  clear h
  refine bd [] rfl (by simp) ?_
  refine Ah (fun i : Nat=>[(118,.imm (.int .i64 i)),(117,.imm (.int .i64 ns.length)),(18,.ref 7 0),(16,.ref 6 0),(9,.ref 4 0),(7,.ref 3 0),(6,.ref 2 0),(4,.ref 1 0),(1,.imm (.int .i64 r))])
   (fun _=>[(1,some (.immb 29 6 (dCse ⟨ds,.mk c1 c2 c3 c4,rows⟩))),(2,some (.immb 33 4 (dTyc (.mk v1 v2 v3 v4)))),(3,some (.immb 33 4 (dTyc (.mk w1 w2 w3 w4)))),(4,some (.immb 29 6 (dCse ⟨ds,.mk c1 c2 c3 c4,R⟩))),(6,some (.immb 37 1 [.sl (A7 l)])),(7,some (.immb 57 1 [.sl (BU ns)]))]) [8,9,10,11] (fun i=>ns.length - i)
   (fun i=>i ≤ ns.length) 0 (Nat.zero_le _) ⟨rfl,As (by simp),rfl,rfl,rfl,rfl,rfl,rfl,rfl,trivial⟩ ⟨rfl,rfl,rfl,rfl,rfl,rfl,trivial⟩ rfl fun i hi ih=>?_
  refine bd [] rfl (by simp) ?_
  refine Aa rfl (fun h=>?_) (fun h=>?_)
  ·simp at h
   obtain ⟨⟨bs,bv⟩,hb⟩:=Ai (l:=l) (i:=i) (by omega)
   have hbd : (A7 l)[(i : Int).toNat]? = some (CH (bs,bv)):=by simp [A7,hb]
   have hns : (BU ns)[(i : Int).toNat]? = some [.str bs]:=by simpa using JF (l:=ns) (i:=i) (t:=bs) (by rw [← hmn];simp [hb])
   have hli:=OP bv
   have hva:=Yx bv
   have hbb:=hlb _ (List.mem_of_getElem? hb)
   simp only at hbb
   rw [hbb.1] at hli
   rw [hbb.2] at hva
   obtain ⟨b1,b2,b3,b4⟩:=bv
   refine bd [] rfl (by simp) ?_
   refine bi rfl (c:=CH (bs,.mk b1 b2 b3 b4)) (fun _=>⟨by simp,hbd,by simp⟩) (by simp) ?_
   refine bg [] rfl (by simp) ?_
   refine bi rfl (c:=[.str bs]) (fun _=>⟨by simp,hns,rfl⟩) (by simp) ?_
   refine bg [] rfl (by simp) ?_
   refine bi rfl (c:=CH (bs,.mk b1 b2 b3 b4)) (fun _=>⟨by simp,hbd,by simp⟩) (by simp [Af]) ?_
   refine bg [] rfl (by simp [Af]) ?_
   refine Ac rfl (fun _=>hli) (by simp [Af]) ?_
   refine bg [] rfl (by simp [Af]) ?_
   refine bi rfl (c:=CH (bs,.mk b1 b2 b3 b4)) (fun _=>⟨by simp,hbd,by simp⟩) (by simp [Af]) ?_
   refine bg [] rfl (by simp [Af]) ?_
   refine Ac rfl (fun _=>hva) (by simp [Af]) ?_
   refine bg [] rfl (by simp [Af];rfl) ?_
   refine Aa rfl (fun h=>by simp at h) (fun h=>?_)
   refine bd [] rfl (by simp) ?_
   exact Ad (ih (i + 1) (by omega) (by omega)) ⟨As (Bw (by omega) (by omega)),rfl,rfl,rfl,rfl,rfl,rfl,rfl,rfl,trivial⟩ ⟨rfl,rfl,rfl,rfl,rfl,rfl,trivial⟩ rfl
  clear h ih hi
  refine Av rfl ?_
  refine Hy 16 rfl rfl ?_
  refine Hy 18 rfl rfl ?_
  refine bd [] rfl (by simp) ?_
  refine bi rfl (c:=dTyc p) (fun _=>⟨hr0,by simpa using Ao hp,by simp⟩) (by simp) ?_
  refine bg [] rfl (by simp) ?_
  refine Ac rfl (fun _=>hput2) (by simp) ?_
  refine bg [] rfl (by simp) ?_
  refine Ac rfl (fun _=>hC) (by simp) ?_
  refine bg [] rfl (by simp) ?_
  cases cb with
  | false =>
   refine Aa rfl (fun h=>?_) (fun h=>by simp at h)
   refine bd [] rfl (by simp) ?_
   refine Ac rfl (fun _=>hk) (by simp) ?_
   refine bg [] rfl (by simp) ?_
   exact Ab ⟨_,rfl,tV rfl,trivial⟩
  | true =>
   obtain ⟨l1,hM1⟩:=hM1 rfl rfl
   obtain ⟨l2,hM2⟩:=hM2 rfl rfl
   refine Aa rfl (fun h=>by simp at h) (fun h=>?_)
   clear h
   refine bd [] rfl (by simp) ?_
   refine Ac rfl (fun _=>hM1) (by simp) ?_
   refine bg [] rfl (by simp) ?_
   cases mw with
   | false =>
    simp only [Bool.false_and,cond_false] at hM2 hMw
    refine Ac rfl (fun _=>hM2) (by simp) ?_
    refine bg [] rfl (by simp) ?_
    refine Ac rfl (fun _=>hMw) (by simp) ?_
    refine bg [] rfl (by simp [Af]) ?_
    refine Ac rfl (fun _=>Ja [] l) (by simp [Af]) ?_
    refine bg [] rfl (by simp [Af]) ?_
    refine Ac rfl (fun _=>hk) (by simp [Af]) ?_
    refine bg [] rfl (by simp [Af]) ?_
    exact Ab ⟨_,rfl,tV rfl,trivial⟩
   | true =>
    simp only [Bool.true_and,cond_true] at hM2 hMw
    cases sb with
    | false =>
     refine Ac rfl (fun _=>hM2) (by simp) ?_
     refine bg [] rfl (by simp) ?_
     refine Ac rfl (fun _=>hMw) (by simp) ?_
     refine bg [] rfl (by simp [Af]) ?_
     refine Ac rfl (fun _=>hsame) (by simp [Af]) ?_
     refine bg [] rfl (by simp [Af]) ?_
     refine Ac rfl (fun _=>hk) (by simp [Af]) ?_
     refine bg [] rfl (by simp [Af]) ?_
     exact Ab ⟨_,rfl,tV rfl,trivial⟩
    | true =>
     refine Ac rfl (fun _=>hM2) (by simp) ?_
     refine bg [] rfl (by simp) ?_
     refine Ac rfl (fun _=>hMw) (by simp) ?_
     refine bg [] rfl (by simp [Af]) ?_
     refine Ac rfl (fun _=>hsame) (by simp [Af]) ?_
     refine bg [] rfl (by simp [Af]) ?_
     refine Ac rfl (fun _=>hk) (by simp [Af]) ?_
     refine bg [] rfl (by simp [Af]) ?_
     exact Ab ⟨_,rfl,tV rfl,trivial⟩
end Go.Hk
namespace Go.Gx
inductive G where
 | undef
 | bool (b : Bool)
 | int (k : IntKind) (n : Int)
 | str (len n : Nat)
 | nilp
 | ptr (b o : Nat)
 | nils
 | sl (b o len cap : Nat) (ex : Option Nat)
 | nilm
 | map (b : Nat)
 | nili
 | if_ (t : TypeId) (g : G)
 | nilf
 | fn (f : FuncId) (fi ca : List G)
 | yield (b : Nat)
 | agg (l : List G)
 | tup (l : List G)
def pk : List UInt8 → Nat
 | []=>0
 | b :: r=>b.toNat + 256 * pk r
theorem ZB : ∀ l : List UInt8,pk l < 256 ^ l.length
 | []=>by simp [pk]
 | b :: r=>by
  have:=ZB r
  have hb:=b.toNat_lt
  simp only [pk,List.length_cons,Nat.pow_succ]
  omega
theorem SR : ∀ {a b : List UInt8},a.length = b.length → pk a = pk b → a = b
 | [],[],_,_=>rfl
 | x :: a,y :: b,hl,h=>by
  have hx:=x.toNat_lt
  have hy:=y.toNat_lt
  simp only [pk] at h
  have h1 : x.toNat = y.toNat:=by omega
  have h2 : pk a = pk b:=by omega
  rw [UInt8.toNat_inj.1 h1,SR (by simpa using hl) h2]
 | [],_ :: _,hl,_=>by simp at hl
 | _ :: _,[],hl,_=>by simp at hl
theorem Kr : ∀ (a b : List UInt8),pk (a ++ b) = pk a + 256 ^ a.length * pk b
 | [],b=>by simp [pk]
 | x :: a,b=>by
  simp only [List.cons_append,pk,Kr a b,List.length_cons,Nat.pow_succ]
  rw [Nat.mul_add,Nat.mul_comm (256 ^ a.length) 256,Nat.mul_assoc]
  omega
theorem Gm (l : List UInt8) (k : Nat) (h : k ≤ l.length) : pk (l.take k) = pk l % 256 ^ k ∧ pk (l.drop k) = pk l / 256 ^ k:=by
 have e:=Kr (l.take k) (l.drop k)
 rw [List.take_append_drop,List.length_take,Nat.min_eq_left h] at e
 have hlt:=ZB (l.take k)
 rw [List.length_take,Nat.min_eq_left h] at hlt
 rw [e]
 constructor
 ·rw [Nat.add_mul_mod_self_left,Nat.mod_eq_of_lt hlt]
 ·rw [Nat.add_mul_div_left _ _ (Nat.pow_pos (by omega)),Nat.div_eq_of_lt hlt,Nat.zero_add]
theorem Un (k : Nat) : 256 ^ k = 2 ^ (8 * k):=by
 rw [Nat.pow_mul]
def IN (n i : Nat) : Nat:=Nat.mod (Nat.shiftRight n (Nat.mul 8 i)) 256
theorem Pq (l : List UInt8) (i : Nat) (h : i < l.length) : IN (pk l) i = (l[i]).toNat:=by
 unfold IN
 have h1:=(Gm l i (by omega)).2
 have e : Nat.shiftRight (pk l) (Nat.mul 8 i) = pk l / 256 ^ i:=by
  rw [Un]
  exact Nat.shiftRight_eq_div_pow _ _
 rw [e,← h1,List.drop_eq_getElem_cons h]
 have:=l[i].toNat_lt
 show (_ + 256 * _) % 256 = _
 omega
abbrev S:=Nat → G
def BG (t : Nat) (s : S) : G:=s t
noncomputable def Ib (t : Nat) (s : S) (v : G) : S:=fun u=>Bool.rec (motive:=fun _=>G) (s u) v (Nat.beq u t)
def S0 : S:=fun _=>.undef
theorem CW (t u : Nat) (s : S) (v : G) : BG t (Ib u s v) = if t = u then v else BG t s:=by
 by_cases h : t = u
 ·subst h
  rw [if_pos rfl]
  show Bool.rec (motive:=fun _=>G) (s t) v (Nat.beq t t) = v
  rw [Nat.beq_refl]
 ·rw [if_neg h]
  have : Nat.beq t u = false:=by
   cases hb : Nat.beq t u with
   | false=>rfl
   | true=>exact absurd (Nat.eq_of_beq_eq_true hb) h
  show Bool.rec (motive:=fun _=>G) (s t) v (Nat.beq t u) = s t
  rw [this]
theorem Zf (t : Nat) : BG t S0 = .undef:=rfl
inductive GB where
 | dead
 | cells (l : List G)
 | map (ver : Nat) (kv : List (G × G))
 | siter (len n pos : Nat)
 | miter (m ver : Nat) (cur : Option (G × G)) (rem : List (G × G))
 | minone
 | loop (st : LoopState) (pend : Option Code) (fn : FuncId) (s : S) (n : Nat) (ps : Array Tmp) (asg body : Code) (db : Nat)
 | defd
inductive T where
 | e
 | n (v : GB) (l r : T)
noncomputable def T.get (t : T) : Nat → GB :=
 T.rec (motive:=fun _=>Nat → GB) (fun _=>.dead)
  (fun v _ _ ihl ihr k=>Nat.rec (motive:=fun _=>GB) v (fun m _=>Nat.rec (motive:=fun _=>GB) (ihl (Nat.div m 2)) (fun _ _=>ihr (Nat.div m 2)) (Nat.mod m 2)) k) t
noncomputable def T.setK {β : Type} (t : T) : Nat → GB → (T → β) → β → β :=
 T.rec (motive:=fun _=>Nat → GB → (T → β) → β → β)
  (fun k x c f=>Nat.rec (motive:=fun _=>β) (c (.n x .e .e)) (fun _ _=>f) k)
  (fun v l r ihl ihr k x c f=>Nat.rec (motive:=fun _=>β) (c (.n x l r))
   (fun m _=>Nat.rec (motive:=fun _=>β) (ihl (Nat.div m 2) x (fun l'=>c (.n v l' r)) f) (fun _ _=>ihr (Nat.div m 2) x (fun r'=>c (.n v l r')) f) (Nat.mod m 2)) k) t
noncomputable def T.set? (t : T) (k : Nat) (x : GB) : Option T:=t.setK k x some none
theorem T.setK_eq {β : Type} : ∀ (t : T) (k : Nat) (x : GB) (c : T → β) (f : β),t.setK k x c f = match t.set? k x with | some t'=>c t' | none=>f
 | .e,0,x,c,f=>rfl
 | .e,k + 1,x,c,f=>rfl
 | .n v l r,0,x,c,f=>rfl
 | .n v l r,k + 1,x,c,f=>by
  have hl:=fun c f=>T.setK_eq (β:=β) l (k / 2) x c f
  have hr:=fun c f=>T.setK_eq (β:=β) r (k / 2) x c f
  have hl':=fun c f=>T.setK_eq (β:=Option T) l (k / 2) x c f
  have hr':=fun c f=>T.setK_eq (β:=Option T) r (k / 2) x c f
  have e1 : (T.n v l r).setK (k + 1) x c f = Nat.rec (motive:=fun _=>β) (l.setK (k / 2) x (fun l'=>c (.n v l' r)) f) (fun _ _=>r.setK (k / 2) x (fun r'=>c (.n v l r')) f) (k % 2):=rfl
  have e2 : (T.n v l r).set? (k + 1) x = Nat.rec (motive:=fun _=>Option T) (l.setK (k / 2) x (fun l'=>some (.n v l' r)) none) (fun _ _=>r.setK (k / 2) x (fun r'=>some (.n v l r')) none) (k % 2):=rfl
  rw [e1,e2]
  cases k % 2 with
  | zero =>
   show l.setK (k / 2) x (fun l'=>c (.n v l' r)) f = match l.setK (k / 2) x (fun l'=>some (T.n v l' r)) none with | some t'=>c t' | none=>f
   rw [hl,hl']
   cases l.set? (k / 2) x <;> rfl
  | succ n =>
   show r.setK (k / 2) x (fun r'=>c (.n v l r')) f = match r.setK (k / 2) x (fun r'=>some (T.n v l r')) none with | some t'=>c t' | none=>f
   rw [hr,hr']
   cases r.set? (k / 2) x <;> rfl
theorem T.get_set : ∀ {t t' : T} {k : Nat} {x : GB},t.set? k x = some t' → ∀ j,t'.get j = if j = k then x else t.get j
 | .e,t',0,x,h,j=>by
  cases h
  cases j with
  | zero=>rfl
  | succ j =>
   rw [if_neg (by simp)]
   show Nat.rec (motive:=fun _=>GB) (T.e.get (j / 2)) (fun _ _=>T.e.get (j / 2)) (j % 2) = .dead
   cases j % 2 <;> rfl
 | .e,t',k + 1,x,h,j=>by cases h
 | .n v l r,t',0,x,h,j=>by
  cases h
  cases j with
  | zero=>rfl
  | succ j=>rw [if_neg (by simp)];rfl
 | .n v l r,t',k + 1,x,h,j=>by
  have e2 : (T.n v l r).set? (k + 1) x = Nat.rec (motive:=fun _=>Option T) (l.setK (k / 2) x (fun l'=>some (.n v l' r)) none) (fun _ _=>r.setK (k / 2) x (fun r'=>some (.n v l r')) none) (k % 2):=rfl
  rw [e2] at h
  have hj : ∀ (a b : T) (j : Nat),(T.n v a b).get (j + 1) = Nat.rec (motive:=fun _=>GB) (a.get (j / 2)) (fun _ _=>b.get (j / 2)) (j % 2):=fun _ _ _=>rfl
  have hk2 : k % 2 = 0 ∨ k % 2 = 1:=by omega
  rcases hk2 with hk2 | hk2
  ·rw [hk2] at h
   have h : l.setK (k / 2) x (fun l'=>some (T.n v l' r)) none = some t':=h
   rw [T.setK_eq] at h
   cases hs : l.set? (k / 2) x with
   | none=>rw [hs] at h;cases h
   | some l' =>
    rw [hs] at h
    cases h
    cases j with
    | zero=>simp;rfl
    | succ j =>
     rw [hj,hj]
     have hj2 : j % 2 = 0 ∨ j % 2 = 1:=by omega
     rcases hj2 with hj2 | hj2
     ·rw [hj2]
      show l'.get (j / 2) = if j + 1 = k + 1 then x else l.get (j / 2)
      rw [T.get_set hs]
      have : j / 2 = k / 2 ↔ j + 1 = k + 1:=by omega
      simp only [this]
     ·rw [hj2]
      have : j + 1 ≠ k + 1:=by omega
      simp only [this,if_false]
      rfl
  ·rw [hk2] at h
   have h : r.setK (k / 2) x (fun r'=>some (T.n v l r')) none = some t':=h
   rw [T.setK_eq] at h
   cases hs : r.set? (k / 2) x with
   | none=>rw [hs] at h;cases h
   | some r' =>
    rw [hs] at h
    cases h
    cases j with
    | zero=>simp;rfl
    | succ j =>
     rw [hj,hj]
     have hj2 : j % 2 = 0 ∨ j % 2 = 1:=by omega
     rcases hj2 with hj2 | hj2
     ·rw [hj2]
      have : j + 1 ≠ k + 1:=by omega
      simp only [this,if_false]
      rfl
     ·rw [hj2]
      show r'.get (j / 2) = if j + 1 = k + 1 then x else r.get (j / 2)
      rw [T.get_set hs]
      have : j / 2 = k / 2 ↔ j + 1 = k + 1:=by omega
      simp only [this]
structure GH where
 size : Nat
 t : T
noncomputable def GH.get (h : GH) (b : Nat) : GB:=h.t.get b
abbrev Rho:=Nat → Option (Nat × Nat)
def Rho.le (ρ ρ' : Rho) : Prop:=∀ b x,ρ b = some x → ρ' b = some x
theorem Rho.le_refl (ρ : Rho) : ρ.le ρ:=fun _ _ h=>h
theorem Rho.le_trans {a b c : Rho} (h : a.le b) (k : b.le c) : a.le c:=fun i x hx=>k i x (h i x hx)
inductive RepG (ρ : Rho) : Value → G → Prop where
 | undef (v : Value) : RepG ρ v .undef
 | bool (b : Bool) : RepG ρ (.bool b) (.bool b)
 | int (k : IntKind) (n : Int) : RepG ρ (.int k n) (.int k n)
 | str (s : ByteArray) (len n : Nat) (hl : s.size = len) (hn : pk s.data.toList = n) : RepG ρ (.string s) (.str len n)
 | nilp : RepG ρ (.pointer none) .nilp
 | ptr (b r z o : Nat) (h : ρ b = some (r,z)) : RepG ρ (.pointer (some ⟨r,o,none⟩)) (.ptr b o)
 | nils : RepG ρ (.slice none 0 0) .nils
 | sl (b r z o len cap cap' : Nat) (ex : Option Nat) (h : ρ b = some (r,z)) (hl : len ≤ cap) (hc : cap ≤ cap') (hm : cap' ≤ maxLen)
   (hx : match ex with | none=>cap' = cap | some sz=>o + cap' * sz = z) : RepG ρ (.slice (some ⟨r,o,none⟩) len cap') (.sl b o len cap ex)
 | sl0 (a : Addr) (b o : Nat) (ex : Option Nat) : RepG ρ (.slice (some a) 0 0) (.sl b o 0 0 ex)
 | nilm : RepG ρ (.map none) .nilm
 | map (b r z : Nat) (h : ρ b = some (r,z)) : RepG ρ (.map (some r)) (.map b)
 | nili : RepG ρ .nilIface .nili
 | if_ (t : TypeId) (v : Value) (g : G) (h : RepG ρ v g) : RepG ρ (.iface t v) (.if_ t g)
 | nilf : RepG ρ .nilFunc .nilf
 | fn (f : FuncId) (first cap : Array Value) (fi ca : List G) (hf : first.size = fi.length) (hc : cap.size = ca.length)
   (h1 : ∀ (i : Nat) (v : Value) (g : G),first[i]? = some v → fi[i]? = some g → RepG ρ v g) (h2 : ∀ (i : Nat) (v : Value) (g : G),cap[i]? = some v → ca[i]? = some g → RepG ρ v g) :
   RepG ρ (.func (.func f) first cap) (.fn f fi ca)
 | yield (b l z : Nat) (h : ρ b = some (l,z)) : RepG ρ (.func (.yield l) #[] #[]) (.yield b)
 | agg (cs : Array Value) (l : List G) (hl : cs.size = l.length) (h1 : ∀ c ∈ cs.toList,c.oneCell' = true) (h : ∀ (i : Nat) (v : Value) (g : G),cs[i]? = some v → l[i]? = some g → RepG ρ v g) : RepG ρ (.agg cs) (.agg l)
 | tup (cs : Array Value) (l : List G) (hl : cs.size = l.length) (h : ∀ (i : Nat) (v : Value) (g : G),cs[i]? = some v → l[i]? = some g → RepG ρ v g) : RepG ρ (.tuple cs) (.tup l)
theorem RepG.mapρ {ρ : Rho} {v : Value} {b : Nat} (h : RepG ρ v (.map b)) : ∃ r z,ρ b = some (r,z):=by cases h with | map _ r z h=>exact ⟨r,z,h⟩
theorem RepG.mono {ρ ρ' : Rho} (hρ : ρ.le ρ') {v : Value} {g : G} (h : RepG ρ v g) : RepG ρ' v g:=by
 induction h with
 | undef v=>exact .undef v
 | bool b=>exact .bool b
 | int k n=>exact .int k n
 | str s len n hl hn=>exact .str s len n hl hn
 | nilp=>exact .nilp
 | ptr b r z o h=>exact .ptr b r z o (hρ _ _ h)
 | nils=>exact .nils
 | sl b r z o len cap cap' ex h hl hc hm hx=>exact .sl b r z o len cap cap' ex (hρ _ _ h) hl hc hm hx
 | sl0 a b o ex=>exact .sl0 a b o ex
 | nilm=>exact .nilm
 | map b r z h=>exact .map b r z (hρ _ _ h)
 | nili=>exact .nili
 | if_ t v g _ ih=>exact .if_ t v g ih
 | nilf=>exact .nilf
 | fn f first cap fi ca hf hc _ _ ih1 ih2=>exact .fn f first cap fi ca hf hc ih1 ih2
 | yield b l z h=>exact .yield b l z (hρ _ _ h)
 | agg cs l hl h1 _ ih=>exact .agg cs l hl h1 ih
 | tup cs l hl _ ih=>exact .tup cs l hl ih
def G.one : G → Bool
 | .agg _ | .tup _ | .undef=>false
 | _=>true
theorem RepG.one {ρ : Rho} {v : Value} {g : G} (h : RepG ρ v g) (hx : g.one = true) : v.oneCell' = true:=by
 cases h <;> first | rfl | (simp [G.one] at hx)
def RepGs (ρ : Rho) (vs : List Value) (gs : List G) : Prop:=vs.length = gs.length ∧ ∀ (i : Nat) (v : Value) (g : G),vs[i]? = some v → gs[i]? = some g → RepG ρ v g
theorem RepGs.mono {ρ ρ' : Rho} (hρ : ρ.le ρ') {vs : List Value} {gs : List G} (h : RepGs ρ vs gs) : RepGs ρ' vs gs:=⟨h.1,fun i v g a b=>(h.2 i v g a b).mono hρ⟩
theorem RepGs.nil {ρ : Rho} : RepGs ρ [] []:=⟨rfl,fun i v g h=>by simp at h⟩
theorem RepGs.mk {ρ : Rho} {v : Value} {vs : List Value} {g : G} {gs : List G} (h : RepG ρ v g) (hs : RepGs ρ vs gs) : RepGs ρ (v :: vs) (g :: gs) :=
 ⟨by simp [hs.1],fun i u y h1 h2=>by
  cases i with
  | zero=>simp at h1 h2;subst h1;subst h2;exact h
  | succ i=>exact hs.2 i u y (by simpa using h1) (by simpa using h2)⟩
theorem RepGs.cons {ρ : Rho} {v : Value} {vs : List Value} {g : G} {gs : List G} (h : RepGs ρ (v :: vs) (g :: gs)) : RepG ρ v g ∧ RepGs ρ vs gs :=
 ⟨h.2 0 v g rfl rfl,by simpa using h.1,fun i v g h1 h2=>h.2 (i + 1) v g (by simpa using h1) (by simpa using h2)⟩
theorem RepGs.append {ρ : Rho} : ∀ {vs us : List Value} {gs ys : List G},RepGs ρ vs gs → RepGs ρ us ys → RepGs ρ (vs ++ us) (gs ++ ys)
 | [],_,[],_,_,k=>k
 | [],_,_ :: _,_,h,_=>by simp [RepGs] at h
 | _ :: _,_,[],_,h,_=>by simp [RepGs] at h
 | v :: vs,us,g :: gs,ys,h,k=>.mk h.cons.1 (RepGs.append h.cons.2 k)
theorem RepGs.take {ρ : Rho} {vs : List Value} {gs : List G} (h : RepGs ρ vs gs) (n : Nat) : RepGs ρ (vs.take n) (gs.take n) :=
 ⟨by simp [h.1],fun i v g a b=>by
  rw [List.getElem?_take] at a b
  split at a
  ·rw [if_pos (by assumption)] at b;exact h.2 i v g a b
  ·cases a⟩
theorem RepGs.drop {ρ : Rho} {vs : List Value} {gs : List G} (h : RepGs ρ vs gs) (n : Nat) : RepGs ρ (vs.drop n) (gs.drop n) :=
 ⟨by simp [h.1],fun i v g a b=>by
  rw [List.getElem?_drop] at a b;exact h.2 _ v g a b⟩
def SRep (ρ : Rho) (s : S) (tmps : Array Value) : Prop:=tmps.size ≤ 256 ∧ ∀ t,RepG ρ (tmps.getD t Go.undef) (BG t s)
theorem SRep.mono {ρ ρ' : Rho} (hρ : ρ.le ρ') {s : S} {tmps : Array Value} (h : SRep ρ s tmps) : SRep ρ' s tmps:=⟨h.1,fun t=>(h.2 t).mono hρ⟩
def X3 (r : Go.Loop) (st : LoopState) (pend : Option Code) (fn : FuncId) (ps : Array Tmp) (asg body : Code) : Prop :=
 r.state = st ∧ r.pending = pend ∧ r.fn = fn ∧ r.params = ps ∧ r.assign = asg ∧ r.body = body
def KvRep (ρ : Rho) (es : List MapEntry) (kv : List (G × G)) : Prop :=
 ∃ l : List MapEntry,l.Perm es ∧ l.length = kv.length ∧ ∀ (i : Nat) (e : MapEntry) (p : G × G),l[i]? = some e → kv[i]? = some p → RepG ρ e.key p.1 ∧ RepG ρ e.val p.2
def CurRep (ρ : Rho) (es : List MapEntry) (seen : Array Nat) : Option (G × G) → Prop
 | none=>True
 | some p=>∃ (e : MapEntry) (s0 : Array Nat),e ∈ es ∧ seen = s0.push e.born ∧ RepG ρ e.key p.1 ∧ RepG ρ e.val p.2
def GB.isDead : GB → Bool
 | .dead=>true
 | _=>false
def BRep (ρ : Rho) (h : GH) (w : World) (r z : Nat) : GB → Prop
 | .dead=>True
 | .cells l=>∃ vs t,w.heap[r]? = some (.cells vs t (0,0)) ∧ vs.size = z ∧ l.length ≤ z ∧ RepGs ρ (vs.toList.take l.length) l ∧ ∀ v ∈ vs.toList.take l.length,v.oneCell' = true
 | .map _ kv=>∃ es clock,w.heap[r]? = some (.map es clock) ∧ KvRep ρ es.toList kv ∧ (kv.map (·.1)).Nodup ∧ kv.length ≤ maxLen ∧ (∀ e ∈ es.toList,e.born < clock) ∧ (es.toList.map (·.born)).Nodup
 | .siter len n pos=>∃ s : ByteArray,w.heap[r]? = some (.stringIter s pos) ∧ s.size = len ∧ pk s.data.toList = n
 | .miter m ver cur rem=>∃ rm zm since seen stepped,ρ m = some (rm,zm) ∧ w.heap[r]? = some (.mapIter (some rm) since seen stepped) ∧
   (∀ v kv,h.get m = .map v kv → ver ≤ v ∧ (v = ver → ∀ es clock,w.heap[rm]? = some (.map es clock) → since = clock ∧ stepped = clock ∧ KvRep ρ (es.toList.filter fun e=>!seen.contains e.born) rem ∧ CurRep ρ es.toList seen cur))
 | .minone=>∃ a b c,w.heap[r]? = some (.mapIter none a b c)
 | .loop st pend fn s n ps asg body db=>∃ rl rd zd,w.heap[r]? = some (.loop rl) ∧ X3 rl st pend fn ps asg body ∧ SRep ρ s rl.tmps ∧ rl.tmps.size = n ∧ ρ db = some (rd,zd) ∧ rl.defers = rd
 | .defd=>w.heap[r]? = some (.deferred (some []))
structure Bl where
 r : Nat → Prop
 p : Nat → Prop
instance : CoeFun Bl (fun _=>Nat → Prop):=⟨Bl.r⟩
structure HRep (B : Bl) (ρ : Rho) (h : GH) (w : World) : Prop where
 blk : ∀ b r z,(h.get b).isDead = false → ρ b = some (r,z) → BRep ρ h w r z (h.get b)
 inj : ∀ b b' r z z',(h.get b).isDead = false → (h.get b').isDead = false → ρ b = some (r,z) → ρ b' = some (r,z') → b = b'
 lo : ∀ b r z,ρ b = some (r,z) → ¬ B r ∧ r < w.heap.size
 dom : ∀ b x,ρ b = some x → b < h.size
 top : ∀ r,B r → r < w.heap.size
 pl : ∀ b x,ρ b = some x → ¬ B.p b
 pt : ∀ b,B.p b → b < h.size
structure Kept (B : Bl) (w w' : World) : Prop where
 os : w'.os = w.os
 tape : w'.tape = w.tape
 output : w'.output = w.output
 size : w.heap.size ≤ w'.heap.size
 block : ∀ b,B b → w'.heap[b]? = w.heap[b]?
theorem Kept.refl (B : Bl) (w : World) : Kept B w w:=⟨rfl,rfl,rfl,Nat.le_refl _,fun _ _=>rfl⟩
theorem Kept.trans {B : Bl} {w x y : World} (h : Kept B w x) (k : Kept B x y) : Kept B w y :=
 ⟨k.os.trans h.os,k.tape.trans h.tape,k.output.trans h.output,Nat.le_trans h.size k.size,fun b hb=>(k.block b hb).trans (h.block b hb)⟩
theorem Kept.drew (B : Bl) (w : World) : Kept B w { w with drawn:=w.drawn + 1 }:=⟨rfl,rfl,rfl,Nat.le_refl _,fun _ _=>rfl⟩
end Go.Gx
namespace Go.Gx
open Go.Hk (TT TTok TyI Sh lk TyOk Cf)
noncomputable def T2 (l : List G) : Nat → Option G :=
 List.rec (motive:=fun _=>Nat → Option G) (fun _=>none) (fun x _ ih n=>Nat.rec (motive:=fun _=>Option G) (some x) (fun m _=>ih m) n) l
theorem LW : ∀ (l : List G) (n : Nat),T2 l n = l[n]?
 | [],n=>by simp [T2]
 | x :: l,0=>by
  show some x = _
  simp
 | x :: l,n + 1=>by
  show T2 l n = _
  rw [LW l n];simp
noncomputable def UI (l : List G) : Nat → Option (List G) :=
 List.rec (motive:=fun _=>Nat → Option (List G)) (fun o=>Nat.rec (motive:=fun _=>Option (List G)) (some []) (fun _ _=>none) o)
  (fun x r ih o=>Nat.rec (motive:=fun _=>Option (List G)) (some (x :: r)) (fun m _=>ih m) o) l
theorem RD : ∀ (l : List G) (o : Nat),UI l o = if o ≤ l.length then some (l.drop o) else none
 | [],0=>rfl
 | [],o + 1=>by simp [UI]
 | x :: l,0=>rfl
 | x :: l,o + 1=>by
  show UI l o = _
  rw [RD l o];simp
noncomputable def R6 (n : Nat) : List G → Option (List G) :=
 Nat.rec (motive:=fun _=>List G → Option (List G)) (fun _=>some [])
  (fun _ ih l=>List.rec (motive:=fun _=>Option (List G)) none (fun x r _=>Option.rec (motive:=fun _=>Option (List G)) none (fun t=>some (x :: t)) (ih r)) l) n
theorem R5 : ∀ (n : Nat) (l : List G),R6 n l = if n ≤ l.length then some (l.take n) else none
 | 0,l=>by
  show some [] = _
  simp
 | n + 1,[]=>by simp [R6]
 | n + 1,x :: l=>by
  show Option.rec (motive:=fun _=>Option (List G)) none (fun t=>some (x :: t)) (R6 n l) = _
  rw [R5 n l]
  by_cases h : n ≤ l.length <;> simp [h]
noncomputable def R7 (l : List G) (o n : Nat) : Option (List G):=Option.rec (motive:=fun _=>Option (List G)) none (R6 n) (UI l o)
theorem LV {l r : List G} {o n : Nat} (h : R7 l o n = some r) : r = (l.drop o).take n ∧ o + n ≤ l.length:=by
 unfold R7 at h
 rw [RD] at h
 by_cases ho : o ≤ l.length
 ·rw [if_pos ho] at h
  have h : R6 n (l.drop o) = some r:=h
  rw [R5] at h
  split at h
  ·rename_i hn
   cases h
   simp at hn
   exact ⟨rfl,by omega⟩
  ·cases h
 ·rw [if_neg ho] at h;cases h
noncomputable def Ls (ys : List G) : List G → Option (List G) :=
 List.rec (motive:=fun _=>List G → Option (List G)) (fun l=>some l)
  (fun y _ ih l=>List.rec (motive:=fun _=>Option (List G)) none (fun _ r _=>Option.rec (motive:=fun _=>Option (List G)) none (fun t=>some (y :: t)) (ih r)) l) ys
noncomputable def Er (l : List G) : Nat → List G → Option (List G) :=
 List.rec (motive:=fun _=>Nat → List G → Option (List G)) (fun o ys=>Nat.rec (motive:=fun _=>Option (List G)) (Ls ys []) (fun _ _=>none) o)
  (fun x r ih o ys=>Nat.rec (motive:=fun _=>Option (List G)) (Ls ys (x :: r)) (fun m _=>Option.rec (motive:=fun _=>Option (List G)) none (fun t=>some (x :: t)) (ih m ys)) o) l
theorem Nn : ∀ (ys l : List G),Ls ys l = if ys.length ≤ l.length then some (ys ++ l.drop ys.length) else none
 | [],l=>by simp [Ls]
 | y :: ys,[]=>by simp [Ls]
 | y :: ys,x :: l=>by
  show Option.rec (motive:=fun _=>Option (List G)) none (fun t=>some (y :: t)) (Ls ys l) = _
  rw [Nn ys l]
  by_cases h : ys.length ≤ l.length <;> simp [h]
theorem I9 : ∀ {l : List G} {o : Nat} {ys r : List G},Er l o ys = some r → r = l.take o ++ ys ++ l.drop (o + ys.length) ∧ o + ys.length ≤ l.length
 | [],0,ys,r,h=>by
  have h : Ls ys [] = some r:=h
  rw [Nn] at h
  split at h
  ·rename_i hl;cases h;simp at hl;subst hl;simp
  ·cases h
 | [],o + 1,ys,r,h=>by cases h
 | x :: l,0,ys,r,h=>by
  have h : Ls ys (x :: l) = some r:=h
  rw [Nn] at h
  split at h
  ·rename_i hl;cases h;simp;simpa using hl
  ·cases h
 | x :: l,o + 1,ys,r,h=>by
  have h : Option.rec (motive:=fun _=>Option (List G)) none (fun t=>some (x :: t)) (Er l o ys) = some r:=h
  cases hs : Er l o ys with
  | none=>rw [hs] at h;cases h
  | some t =>
   rw [hs] at h;cases h
   obtain ⟨h1,h2⟩:=I9 hs
   refine ⟨?_,by simp;omega⟩
   rw [h1,show o + 1 + ys.length = (o + ys.length) + 1 by omega]
   simp
def ofValue : Value → Option G
 | .bool b=>some (.bool b)
 | .int k n=>some (.int k n)
 | .string s=>some (.str s.size (pk s.data.toList))
 | .pointer none=>some .nilp
 | .slice none 0 0=>some .nils
 | .map none=>some .nilm
 | .nilFunc=>some .nilf
 | .nilIface=>some .nili
 | _=>none
def AS (x : Operand) (s : S) : G:=match x with
 | .tmp t=>BG t s
 | .const v=>match ofValue v with
  | some g=>g
  | none=>.undef
 | .func f=>.fn f [] []
 | .global _=>.undef
theorem Ra {ρ : Rho} {v : Value} {g : G} (h : ofValue v = some g) : RepG ρ v g:=by
 unfold ofValue at h
 split at h <;> first
  | (cases h;exact .bool _)
  | (cases h;exact .int _ _)
  | (cases h;exact .str _ _ _ rfl rfl)
  | (cases h;exact .nilp)
  | (cases h;exact .nils)
  | (cases h;exact .nilm)
  | (cases h;exact .nilf)
  | (cases h;exact .nili)
  | cases h
theorem Ay {ρ : Rho} {s : S} {a : Act} (h : SRep ρ s a.tmps) (x : Operand) : RepG ρ (a.eval x) (AS x s):=by
 cases x with
 | tmp t =>
  exact h.2 t
 | const v =>
  show RepG ρ v (match ofValue v with | some g=>g | none=>.undef)
  cases hv : ofValue v with
  | none=>exact .undef _
  | some g=>exact Ra hv
 | func f=>exact .fn f #[] #[] [] [] rfl rfl (fun i v g h=>by simp at h) (fun i v g h=>by simp at h)
 | global g=>exact .undef _
theorem XE {tmps : Array Value} {d t : Nat} {v : Value} : (tmps.setIfInBounds d v).getD t Go.undef = if d = t ∧ d < tmps.size then v else tmps.getD t Go.undef:=by
 simp only [Array.getD_eq_getD_getElem?]
 by_cases h : d = t
 ·subst h
  by_cases hd : d < tmps.size
  ·simp [hd]
  ·simp [hd]
 ·rw [Array.getElem?_setIfInBounds_ne h,if_neg (fun hh=>h hh.1)]
theorem SRep.set {ρ : Rho} {s : S} {tmps : Array Value} (h : SRep ρ s tmps) {d : Nat} {v : Value} {g : G} (hd : d < tmps.size) (hv : RepG ρ v g) : SRep ρ (Ib d s g) (tmps.setIfInBounds d v):=by
 refine ⟨by simpa using h.1,fun t=>?_⟩
 rw [XE,CW t d s g]
 by_cases hdt : d = t
 ·subst hdt;simpa [hd] using hv
 ·rw [if_neg (fun hh=>hdt hh.1),if_neg (fun hh=>hdt hh.symm)]
  exact h.2 t
theorem SRep.put {ρ : Rho} {s : S} {a : Act} (h : SRep ρ s a.tmps) {d : Nat} {v : Value} {g : G} (hd : d < a.tmps.size) (hv : RepG ρ v g) : SRep ρ (Ib d s g) (a.put (some d) v).tmps:=h.set hd hv
theorem KvRep.mono {ρ ρ' : Rho} (hρ : ρ.le ρ') {es : List MapEntry} {kv : List (G × G)} (h : KvRep ρ es kv) : KvRep ρ' es kv:=by
 obtain ⟨l,h1,h2,h3⟩:=h
 exact ⟨l,h1,h2,fun i e p a b=>⟨(h3 i e p a b).1.mono hρ,(h3 i e p a b).2.mono hρ⟩⟩
theorem CurRep.mono {ρ ρ' : Rho} (hρ : ρ.le ρ') {es : List MapEntry} {seen : Array Nat} {cur : Option (G × G)} (h : CurRep ρ es seen cur) : CurRep ρ' es seen cur:=by
 cases cur with
 | none=>trivial
 | some p =>
  obtain ⟨e,s0,h1,h2,h3,h4⟩:=h
  exact ⟨e,s0,h1,h2,h3.mono hρ,h4.mono hρ⟩
theorem BRep.frame {ρ ρ' : Rho} {h h' : GH} {w w' : World} {r z : Nat} {g : GB} (hr : BRep ρ h w r z g) (hρ : ρ.le ρ') (hw : w'.heap[r]? = w.heap[r]?)
  (hm : ∀ m ver cur rem v kv rm zm,g = .miter m ver cur rem → ρ m = some (rm,zm) → h'.get m = .map v kv → (∃ kv0,h.get m = .map v kv0 ∧ w'.heap[rm]? = w.heap[rm]?) ∨ (∃ v0 kv0,h.get m = .map v0 kv0 ∧ v0 < v)) : BRep ρ' h' w' r z g:=by
 cases g with
 | dead=>trivial
 | cells l=>obtain ⟨vs,t,h1,h2,h3,h4,h5⟩:=hr;exact ⟨vs,t,hw.trans h1,h2,h3,h4.mono hρ,h5⟩
 | map ver kv=>obtain ⟨es,clock,h1,h2,h3⟩:=hr;exact ⟨es,clock,hw.trans h1,h2.mono hρ,h3⟩
 | siter len n pos=>obtain ⟨s,h1,h2⟩:=hr;exact ⟨s,hw.trans h1,h2⟩
 | miter m ver cur rem =>
  obtain ⟨rm,zm,since,seen,stepped,h1,h2,h3⟩:=hr
  refine ⟨rm,zm,since,seen,stepped,hρ _ _ h1,hw.trans h2,fun v kv hk=>?_⟩
  rcases hm m ver cur rem v kv rm zm rfl h1 hk with ⟨kv0,q1,q2⟩ | ⟨v0,kv0,q1,q2⟩
  ·obtain ⟨q3,q4⟩:=h3 v kv0 q1
   refine ⟨q3,fun e es clock he=>?_⟩
   obtain ⟨q5,q6,q7,q8⟩:=q4 e es clock (by rw [← q2];exact he)
   exact ⟨q5,q6,q7.mono hρ,q8.mono hρ⟩
  ·obtain ⟨q3,_⟩:=h3 v0 kv0 q1
   exact ⟨by omega,fun e=>by omega⟩
 | minone=>obtain ⟨a,b,c,h1⟩:=hr;exact ⟨a,b,c,hw.trans h1⟩
 | loop st pend fn s n ps asg body db =>
  obtain ⟨rl,rd,zd,h1,h2,h3,h4,h5,h6⟩:=hr
  exact ⟨rl,rd,zd,hw.trans h1,h2,h3.mono hρ,h4,hρ _ _ h5,h6⟩
 | defd=>exact hw.trans hr
section
variable {B : Bl} {ρ : Rho} {h h' : GH} {w : World}
theorem HRep.atρ (hr : HRep B ρ h w) {b r z : Nat} {g : GB} (hg : h.get b = g) (hd : g.isDead = false) (hρ : ρ b = some (r,z)) : BRep ρ h w r z g:=by
 subst hg;exact hr.blk b r z hd hρ
noncomputable def GH.set? (h : GH) (b : Nat) (x : GB) : Option GH:=match h.t.set? b x with
 | some t=>some ⟨h.size,t⟩
 | none=>none
theorem GH.get_set {x : GB} {b : Nat} (hs : h.set? b x = some h') : h'.size = h.size ∧ ∀ j,h'.get j = if j = b then x else h.get j:=by
 unfold GH.set? at hs
 split at hs
 ·rename_i t ht
  cases hs
  exact ⟨rfl,T.get_set ht⟩
 ·cases hs
theorem HRep.write (hr : HRep B ρ h w) {b r z : Nat} {x : GB} {o : Obj} (hs : h.set? b x = some h') (hlive : (h.get b).isDead = false) (hρ : ρ b = some (r,z))
  (hx : BRep ρ h' { w with heap:=w.heap.setIfInBounds r o } r z x) (hver : ∀ v kv,x = .map v kv → ∃ v0 kv0,h.get b = .map v0 kv0 ∧ v0 < v) :
  HRep B ρ h' { w with heap:=w.heap.setIfInBounds r o }:=by
 obtain ⟨hsz,hget⟩:=GH.get_set hs
 have hrlt:=(hr.lo b r z hρ).2
 refine { blk:=fun j rj zj hj hρj=>?_,inj:=fun i j ri zi zj hi hj hρi hρj=>?_,lo:=fun j r' z' hj=>by simpa using hr.lo j r' z' hj,dom:=fun j x hj=>by rw [hsz];exact hr.dom j x hj,top:=fun r hb=>by simpa using hr.top r hb,pl:=hr.pl,pt:=fun b hb=>by rw [hsz];exact hr.pt b hb }
 ·rw [hget] at hj ⊢
  by_cases hjb : j = b
  ·subst hjb
   rw [if_pos rfl]
   rw [hρ] at hρj;cases hρj
   exact hx
  ·rw [if_neg hjb] at hj ⊢
   have h2:=hr.blk j rj zj hj hρj
   have hne : rj ≠ r:=fun e=>by subst e;exact hjb (hr.inj j b rj zj z hj hlive hρj hρ)
   refine h2.frame (Rho.le_refl ρ) (by simp [Array.getElem?_setIfInBounds_ne (Ne.symm hne)]) ?_
   intro m ver cur rem v kv rm zm hg hm hk
   rw [hget] at hk
   by_cases hmb : m = b
   ·subst hmb
    rw [if_pos rfl] at hk
    exact .inr (hver v kv hk)
   ·rw [if_neg hmb] at hk
    have hmlive : (h.get m).isDead = false:=by rw [hk];rfl
    have hne2 : rm ≠ r:=fun e=>by subst e;exact hmb (hr.inj m b rm zm z hmlive hlive hm hρ)
    exact .inl ⟨kv,hk,by simp [Array.getElem?_setIfInBounds_ne (Ne.symm hne2)]⟩
 ·rw [hget] at hi hj
  have hi' : (h.get i).isDead = false:=by
   by_cases e : i = b
   ·rw [e];exact hlive
   ·rwa [if_neg e] at hi
  have hj' : (h.get j).isDead = false:=by
   by_cases e : j = b
   ·rw [e];exact hlive
   ·rwa [if_neg e] at hj
  exact hr.inj i j ri zi zj hi' hj' hρi hρj
theorem HRep.write1 (hr : HRep B ρ h w) {b r z : Nat} {x : GB} {o : Obj} (hs : h.set? b x = some h') (hlive : (h.get b).isDead = false) (hρ : ρ b = some (r,z))
  (hx : BRep ρ h' { w with heap:=w.heap.setIfInBounds r o } r z x) (hn : ∀ ver kv,x ≠ .map ver kv) : HRep B ρ h' { w with heap:=w.heap.setIfInBounds r o } :=
 hr.write hs hlive hρ hx (fun v kv hx=>absurd hx (hn v kv))
theorem Kept.write {r : Nat} {o : Obj} (hr : ¬ B r) : Kept B w { w with heap:=w.heap.setIfInBounds r o } :=
 ⟨rfl,rfl,rfl,by simp,fun b hb=>by simp [Array.getElem?_setIfInBounds_ne (show r ≠ b from fun e=>hr (e ▸ hb))]⟩
noncomputable def GH.push? (h : GH) (x : GB) : Option GH:=match h.t.set? h.size x with
 | some t=>some ⟨h.size + 1,t⟩
 | none=>none
theorem GH.get_push {x : GB} (hs : h.push? x = some h') : h'.size = h.size + 1 ∧ ∀ j,h'.get j = if j = h.size then x else h.get j:=by
 unfold GH.push? at hs
 split at hs
 ·rename_i t ht
  cases hs
  exact ⟨rfl,T.get_set ht⟩
 ·cases hs
def Rho.add (ρ : Rho) (b : Nat) (x : Nat × Nat) : Rho:=fun i=>if i = b then some x else ρ i
theorem HRep.fresh (hr : HRep B ρ h w) : ρ h.size = none:=by
 cases hx : ρ h.size with
 | none=>rfl
 | some x=>have:=hr.dom _ _ hx;omega
theorem HRep.le_add (hr : HRep B ρ h w) (x : Nat × Nat) : ρ.le (ρ.add h.size x):=by
 intro i y hy
 unfold Rho.add
 rw [if_neg (fun e=>by rw [e,hr.fresh] at hy;cases hy)]
 exact hy
theorem HRep.push (hr : HRep B ρ h w) {x : GB} {o : Obj} {z : Nat} (hs : h.push? x = some h')
  (hx : BRep (ρ.add h.size (w.heap.size,z)) h' { w with heap:=w.heap.push o } w.heap.size z x) :
  HRep B (ρ.add h.size (w.heap.size,z)) h' { w with heap:=w.heap.push o }:=by
 obtain ⟨hsz,hget⟩:=GH.get_push hs
 have hle:=hr.le_add (w.heap.size,z)
 have hold : ∀ j r' z',j ≠ h.size → ρ.add h.size (w.heap.size,z) j = some (r',z') → ρ j = some (r',z'):=fun j r' z' hj hh=>by
  unfold Rho.add at hh;rwa [if_neg hj] at hh
 refine { blk:=fun j rj zj hj hρj=>?_,inj:=fun i j ri zi zj hi hj hρi hρj=>?_,lo:=fun j r' z' hj=>?_,dom:=fun j x hj=>?_,top:=fun r hb=>by have:=hr.top r hb;simp;omega,pl:=fun j x hj=>?_,pt:=fun b hb=>by have:=hr.pt b hb;omega }
 ·rw [hget] at hj ⊢
  by_cases hjb : j = h.size
  ·subst hjb
   rw [if_pos rfl]
   unfold Rho.add at hρj;rw [if_pos rfl] at hρj;cases hρj
   exact hx
  ·rw [if_neg hjb] at hj ⊢
   have h1:=hold _ _ _ hjb hρj
   have h2:=hr.blk j rj zj hj h1
   have hlt:=(hr.lo _ _ _ h1).2
   refine h2.frame hle (by simp [Array.getElem?_push,Nat.ne_of_lt hlt]) ?_
   intro m ver cur rem v kv rm zm hg hm hk
   rw [hget] at hk
   have hmne : m ≠ h.size:=fun e=>by rw [e,hr.fresh] at hm;cases hm
   rw [if_neg hmne] at hk
   have hlt2:=(hr.lo _ _ _ hm).2
   exact .inl ⟨kv,hk,by simp [Array.getElem?_push,Nat.ne_of_lt hlt2]⟩
 ·rw [hget] at hi hj
  by_cases hie : i = h.size
  ·by_cases hje : j = h.size
   ·rw [hie,hje]
   ·have:=(hr.lo _ _ _ (hold _ _ _ hje hρj)).2
    unfold Rho.add at hρi;rw [if_pos hie] at hρi;cases hρi;omega
  ·by_cases hje : j = h.size
   ·have:=(hr.lo _ _ _ (hold _ _ _ hie hρi)).2
    unfold Rho.add at hρj;rw [if_pos hje] at hρj;cases hρj;omega
   ·rw [if_neg hie] at hi;rw [if_neg hje] at hj
    exact hr.inj i j ri zi zj hi hj (hold _ _ _ hie hρi) (hold _ _ _ hje hρj)
 ·by_cases hje : j = h.size
  ·unfold Rho.add at hj;rw [if_pos hje] at hj;cases hj
   exact ⟨fun hb=>absurd (hr.top _ hb) (Nat.lt_irrefl _),by simp⟩
  ·have:=hr.lo _ _ _ (hold _ _ _ hje hj)
   exact ⟨this.1,by simp;omega⟩
 ·by_cases hje : j = h.size
  ·omega
  ·cases hx : x with
   | mk r' z'=>rw [hx] at hj;have:=hr.dom _ _ (hold _ _ _ hje hj);omega
 ·by_cases hje : j = h.size
  ·exact fun hb=>absurd (hr.pt _ hb) (by omega)
  ·cases hx : x with
   | mk r' z'=>rw [hx] at hj;exact hr.pl _ _ (hold _ _ _ hje hj)
theorem Kept.push {o : Obj} (hB : ∀ r,B r → r < w.heap.size) : Kept B w { w with heap:=w.heap.push o } :=
 ⟨rfl,rfl,rfl,by simp,fun b hb=>by
  have : b ≠ w.heap.size:=Nat.ne_of_lt (hB b hb)
  simp [Array.getElem?_push,this]⟩
theorem HRep.drew (hr : HRep B ρ h w) : HRep B ρ h { w with drawn:=w.drawn + 1 } :=
 {blk:=fun b r z hb h1=>(hr.blk b r z hb h1).frame (Rho.le_refl ρ) rfl fun _ _ _ _ _ kv _ _ _ _ hk=>.inl ⟨kv,hk,rfl⟩,
  inj:=hr.inj,lo:=hr.lo,dom:=hr.dom,top:=hr.top,pl:=hr.pl,pt:=hr.pt }
end
end Go.Gx
namespace Go.Gx
open Go.Hk (TT TTok TyI Sh lk TyOk Cf CE AA)
def KS (k : IntKind) (n : Int) : Int:=match k,n with
 | .i64,.ofNat m=>match Nat.ble m 9223372036854775807 with
  | true=>.ofNat m
  | false=>IntKind.wrap .i64 (.ofNat m)
 | .i64,.negSucc m=>match Nat.ble m 9223372036854775807 with
  | true=>.negSucc m
  | false=>IntKind.wrap .i64 (.negSucc m)
 | k,n=>k.wrap n
theorem JY (n : Int) (h1 : -9223372036854775808 ≤ n) (h2 : n ≤ 9223372036854775807) : IntKind.wrap .i64 n = n:=by
 simp only [IntKind.wrap,IntKind.bits,IntKind.signed]
 simp
 omega
theorem IQ (k : IntKind) (n : Int) : KS k n = k.wrap n:=by
 unfold KS
 split
 ·rename_i m
  split
  ·rename_i h
   rw [Nat.ble_eq] at h
   exact (JY _ (by have : Int.ofNat m = (m : Int):=rfl;omega) (by have : Int.ofNat m = (m : Int):=rfl;omega)).symm
  ·rfl
 ·rename_i m
  split
  ·rename_i h
   rw [Nat.ble_eq] at h
   exact (JY _ (by omega) (by omega)).symm
  ·rfl
 ·rfl
def Jx (a b : Int) : Bool:=match a,b with
 | .ofNat x,.ofNat y=>Nat.beq x y
 | .negSucc x,.negSucc y=>Nat.beq x y
 | _,_=>false
theorem CF (a b : Int) : Jx a b = (a == b):=by
 rw [Bool.eq_iff_iff]
 cases a <;> cases b <;> simp [Jx]
 all_goals omega
def Jw (a b : Int) : Bool:=match a,b with
 | .ofNat x,.ofNat y=>Nat.ble x y
 | .negSucc x,.negSucc y=>Nat.ble y x
 | .negSucc _,.ofNat _=>true
 | .ofNat _,.negSucc _=>false
theorem Nh (a b : Int) : Jw a b = decide (a ≤ b):=by
 rw [Bool.eq_iff_iff]
 cases a <;> cases b <;> simp [Jw] <;> omega
def Wx (a b : IntKind) : Bool:=decide (a = b)
def aM (op : BinOp) (k : IntKind) (a b : Int) : Option G:=match op with
 | .add=>some (.int k (KS k (a + b)))
 | .sub=>some (.int k (KS k (a - b)))
 | .mul=>some (.int k (KS k (a * b)))
 | .quo=>match Jx b 0 with
  | true=>none
  | false=>some (.int k (KS k (a.tdiv b)))
 | .rem=>match Jx b 0 with
  | true=>none
  | false=>some (.int k (a.tmod b))
 | .eql=>some (.bool (Jx a b))
 | .neq=>some (.bool (!Jx a b))
 | .lss=>some (.bool (!Jw b a))
 | .leq=>some (.bool (Jw a b))
 | .gtr=>some (.bool (!Jw a b))
 | .geq=>some (.bool (Jw b a))
 | _=>none
def ZX (op : BinOp) (la a lb b : Nat) : Option G:=match op with
 | .add=>match Nat.ble (Nat.add la lb) 9223372036854775807 with
  | true=>some (.str (Nat.add la lb) (Nat.add a (Nat.mul (Nat.pow 256 la) b)))
  | false=>none
 | .eql=>some (.bool (Nat.beq la lb && Nat.beq a b))
 | .neq=>some (.bool (!(Nat.beq la lb && Nat.beq a b)))
 | _=>none
def U2 (x y : G) : Option Bool:=match x,y with
 | .ptr ..,.nilp=>some false
 | .nilp,.ptr ..=>some false
 | .nilp,.nilp=>some true
 | .if_ ..,.nili=>some false
 | .nili,.if_ ..=>some false
 | .sl ..,.nils=>some false
 | .nils,.nils=>some true
 | _,_=>none
def U1 (x : G) (sh : Sh) : Bool:=match x,sh with
 | .ptr ..,.ptr _=>true
 | .nilp,.ptr _=>true
 | .if_ ..,.iface=>true
 | .nili,.iface=>true
 | .sl ..,.sl _=>true
 | .nils,.sl _=>true
 | _,_=>false
def UN (tt : TT) (op : BinOp) (t : TypeId) (x y : G) : Option G:=match U2 x y with
 | some b=>match lk tt t with
  | some ti=>match U1 x ti.sh with
   | true=>match op with
    | .eql=>some (.bool b)
    | .neq=>some (.bool (!b))
    | _=>none
   | false=>none
  | none=>none
 | none=>none
def XV (tt : TT) (op : BinOp) (t : TypeId) (yo : Operand) (x y : G) : Option G:=match x with
 | .int k a=>match y with
  | .int k' b=>match Wx k k' with
   | true=>aM op k a b
   | false=>none
  | _=>none
 | .str la a=>match y with
  | .str lb b=>ZX op la a lb b
  | _=>none
 | .bool a=>match y with
  | .bool b=>match lk tt t with
   | some { sh:=.bool,.. }=>match op with
    | .eql=>some (.bool (a == b))
    | .neq=>some (.bool (!(a == b)))
    | _=>none
   | _=>none
  | _=>none
 | .nili=>match y with
  | .nili=>match lk tt t,yo with
   | some { sh:=.iface,.. },.const _=>match op with
    | .eql=>some (.bool true)
    | .neq=>some (.bool false)
    | _=>none
   | _,_=>none
  | y=>UN tt op t .nili y
 | x=>UN tt op t x y
section
variable {P : Program} {w : World} {tt : TT} {ρ : Rho}
theorem RepG.intInv {v : Value} {k : IntKind} {n : Int} (h : RepG ρ v (.int k n)) : v = .int k n:=by cases h;rfl
theorem RepG.boolInv {v : Value} {b : Bool} (h : RepG ρ v (.bool b)) : v = .bool b:=by cases h;rfl
theorem RepG.strInv {v : Value} {l n : Nat} (h : RepG ρ v (.str l n)) : ∃ s : ByteArray,v = .string s ∧ s.size = l ∧ pk s.data.toList = n:=by
 cases h with | str s _ _ h1 h2=>exact ⟨s,rfl,h1,h2⟩
theorem Bf (s : ByteArray) : s.data.toList.length = s.size:=by simp
theorem P7 {s s' : ByteArray} : (Nat.beq s.size s'.size && Nat.beq (pk s.data.toList) (pk s'.data.toList)) = (s.data.toList == s'.data.toList):=by
 rw [Bool.eq_iff_iff]
 simp only [Bool.and_eq_true,Nat.beq_eq,beq_iff_eq]
 constructor
 ·rintro ⟨h1,h2⟩
  exact SR (by rw [Bf,Bf,h1]) h2
 ·intro h
  exact ⟨by rw [← Bf,← Bf,h],by rw [h]⟩
theorem HW {op : BinOp} {t : TypeId} {xo yo : Operand} {x y r : Value} (h1 : ∀ cs,x ≠ .agg cs) (h2 : x ≠ .nilIface) (h : (binOp op t x y).run P w = .ok r w) :
  (do eqGuard op t xo yo x y;binOp op t x y : Sem Value).run P w = .ok r w:=by
 simp only [Sem.run_bind,Hk.eqGuard_ok op t xo yo x y h1 h2,Result.andThen_ok,h]
theorem Zc {op : BinOp} {k : IntKind} {a b : Int} {g : G} (t : TypeId) (xo yo : Operand) (h : aM op k a b = some g) :
  ∃ v,(do eqGuard op t xo yo (.int k a) (.int k b);binOp op t (.int k a) (.int k b) : Sem Value).run P w = .ok v w ∧ RepG ρ v g:=by
 have hle : ∀ x y : Int,(!decide (x ≤ y)) = decide (y < x):=fun x y=>by rw [Bool.eq_iff_iff];simp
 have fin : ∀ (v : Value),(binOp op t (.int k a) (.int k b)).run P w = .ok v w → RepG ρ v g →
   ∃ v,(do eqGuard op t xo yo (.int k a) (.int k b);binOp op t (.int k a) (.int k b) : Sem Value).run P w = .ok v w ∧ RepG ρ v g :=
  fun v h1 h2=>⟨v,HW (by simp) (by simp) h1,h2⟩
 cases op <;> simp only [aM,Option.some.injEq,reduceCtorEq] at h
 case quo =>
  split at h <;> simp only [Option.some.injEq,reduceCtorEq] at h
  rename_i hz
  rw [CF] at hz
  have hb : b ≠ 0:=by simpa using hz
  subst h
  exact fin (.int k (k.wrap (a.tdiv b))) (by simp [binOp,Op.intDiv,hb]) (by rw [IQ];exact .int _ _)
 case rem =>
  split at h <;> simp only [Option.some.injEq,reduceCtorEq] at h
  rename_i hz
  rw [CF] at hz
  have hb : b ≠ 0:=by simpa using hz
  subst h
  exact fin (.int k (a.tmod b)) (by simp [binOp,Op.intDiv,hb]) (.int _ _)
 all_goals
  subst h
  simp only [CF,Nh,IQ,hle] at fin ⊢
 case add=>exact fin _ (by simp [binOp,Op.intArith]) (.int _ _)
 case sub=>exact fin _ (by simp [binOp,Op.intArith]) (.int _ _)
 case mul=>exact fin _ (by simp [binOp,Op.intArith]) (.int _ _)
 case eql=>exact fin (.bool (a == b)) (by simp [binOp,Op.intCmp]) (.bool _)
 case neq=>exact fin (.bool (!(a == b))) (by simp [binOp,Op.intCmp,bne]) (.bool _)
 case lss=>exact fin (.bool (decide (a < b))) (by simp [binOp,Op.intCmp]) (.bool _)
 case leq=>exact fin (.bool (decide (a ≤ b))) (by simp [binOp,Op.intCmp]) (.bool _)
 case gtr=>exact fin (.bool (decide (b < a))) (by simp [binOp,Op.intCmp]) (.bool _)
 case geq=>exact fin (.bool (decide (b ≤ a))) (by simp [binOp,Op.intCmp]) (.bool _)
theorem YG {op : BinOp} {s s' : ByteArray} {g : G} (t : TypeId) (xo yo : Operand) (h : ZX op s.size (pk s.data.toList) s'.size (pk s'.data.toList) = some g) :
  ∃ v,(do eqGuard op t xo yo (.string s) (.string s');binOp op t (.string s) (.string s') : Sem Value).run P w = .ok v w ∧ RepG ρ v g:=by
 have fin : ∀ (v : Value),(binOp op t (.string s) (.string s')).run P w = .ok v w → RepG ρ v g →
   ∃ v,(do eqGuard op t xo yo (.string s) (.string s');binOp op t (.string s) (.string s') : Sem Value).run P w = .ok v w ∧ RepG ρ v g :=
  fun v h1 h2=>⟨v,HW (by simp) (by simp) h1,h2⟩
 cases op <;> simp only [ZX,Option.some.injEq,reduceCtorEq] at h
 case add =>
  split at h <;> simp only [Option.some.injEq,reduceCtorEq] at h
  rename_i hl
  rw [Nat.ble_eq] at hl
  subst h
  have hl : s.size + s'.size ≤ 9223372036854775807:=hl
  refine fin (.string (s ++ s')) ?_ ?_
  ·have : ¬ ((s.size + s'.size : Nat) : Int) > IntKind.i64.max:=by
    simp only [IntKind.max]
    simp [IntKind.signed,IntKind.bits]
    omega
   simp only [binOp,Op.stringOp,this,if_false,Sem.run_pure]
  ·refine .str _ _ _ (by simp) ?_
   have : (s ++ s').data.toList = s.data.toList ++ s'.data.toList:=by simp [ByteArray.data_append]
   rw [this,Kr,Bf]
   rfl
 case eql =>
  subst h
  refine fin (.bool (s.data.toList == s'.data.toList)) ?_ ?_
  ·simp only [binOp,Op.stringOp,ByteArray.toList_eq,Sem.run_pure]
  ·rw [P7];exact .bool _
 case neq =>
  subst h
  refine fin (.bool (!(s.data.toList == s'.data.toList))) ?_ ?_
  ·simp only [binOp,Op.stringOp,ByteArray.toList_eq,Sem.run_pure]
  ·rw [P7];exact .bool _
theorem Ql (n : Nat) {t e : TypeId} (hu : P.underlying t = some (.pointer e)) (a : Addr) : (Op.equalIn (n + 1) t (.pointer (some a)) (.pointer none)).run P w = .ok false w:=by simp [Op.equalIn,run_underlying hu]
theorem Qm (n : Nat) {t e : TypeId} (hu : P.underlying t = some (.pointer e)) (a : Addr) : (Op.equalIn (n + 1) t (.pointer none) (.pointer (some a))).run P w = .ok false w:=by simp [Op.equalIn,run_underlying hu]
theorem Qn (n : Nat) {t e : TypeId} (hu : P.underlying t = some (.pointer e)) : (Op.equalIn (n + 1) t (.pointer none) (.pointer none)).run P w = .ok true w:=by simp [Op.equalIn,run_underlying hu]
theorem RT (n : Nat) {t : TypeId} {ms : Array (String × TypeId)} (hu : P.underlying t = some (.interface ms)) (u : TypeId) (v : Value) : (Op.equalIn (n + 1) t (.iface u v) .nilIface).run P w = .ok false w:=by simp [Op.equalIn,run_underlying hu]
theorem RS (n : Nat) {t : TypeId} {ms : Array (String × TypeId)} (hu : P.underlying t = some (.interface ms)) (u : TypeId) (v : Value) : (Op.equalIn (n + 1) t .nilIface (.iface u v)).run P w = .ok false w:=by simp [Op.equalIn,run_underlying hu]
theorem TF (n : Nat) {t : TypeId} {ms : Array (String × TypeId)} (hu : P.underlying t = some (.interface ms)) : (Op.equalIn (n + 1) t .nilIface .nilIface).run P w = .ok true w:=by simp [Op.equalIn,run_underlying hu]
theorem Lx (n : Nat) {t e : TypeId} (hu : P.underlying t = some (.slice e)) (a : Addr) (l c : Nat) : (Op.equalIn (n + 1) t (.slice (some a) l c) (.slice none 0 0)).run P w = .ok false w:=by simp [Op.equalIn,run_underlying hu]
theorem RR (n : Nat) {t e : TypeId} (hu : P.underlying t = some (.slice e)) : (Op.equalIn (n + 1) t (.slice none 0 0) (.slice none 0 0)).run P w = .ok true w:=by simp [Op.equalIn,run_underlying hu]
theorem Xv {x y : G} {b : Bool} {t : TypeId} {ti : TyI} {vx vy : Value} (xo yo : Operand) (hx : RepG ρ vx x) (hy : RepG ρ vy y) (h : U2 x y = some b) (hs : U1 x ti.sh = true) (ht : Cf P t ti.sh) :
  (do eqGuard .eql t xo yo vx vy;binOp .eql t vx vy : Sem Value).run P w = .ok (.bool b) w ∧ (do eqGuard .neq t xo yo vx vy;binOp .neq t vx vy : Sem Value).run P w = .ok (.bool !b) w:=by
 have fin : ∀ (hne1 : ∀ cs,vx ≠ .agg cs) (hne2 : vx ≠ .nilIface ∨ ∃ t v,vy = .iface t v),(binOp .eql t vx vy = do pure (.bool (← Op.equal t vx vy))) → (binOp .neq t vx vy = do pure (.bool (!(← Op.equal t vx vy)))) →
   (Op.equal t vx vy).run P w = .ok b w →
   (do eqGuard .eql t xo yo vx vy;binOp .eql t vx vy : Sem Value).run P w = .ok (.bool b) w ∧ (do eqGuard .neq t xo yo vx vy;binOp .neq t vx vy : Sem Value).run P w = .ok (.bool !b) w:=by
  intro h1 h2 h4 h5 h3
  have hg : ∀ op,(eqGuard op t xo yo vx vy).run P w = .ok () w:=by
   intro op
   rcases h2 with h2 | ⟨t',v,rfl⟩
   ·exact Hk.eqGuard_ok op t xo yo vx vy h1 h2
   ·by_cases hn : vx = .nilIface
    ·subst hn
     unfold eqGuard
     cases op <;> simp
    ·exact Hk.eqGuard_ok op t xo yo vx _ h1 hn
  simp only [Sem.run_bind,hg,Result.andThen_ok,h4,h5,h3,Sem.run_pure,and_self]
 unfold U2 at h
 split at h <;> simp only [Option.some.injEq,reduceCtorEq] at h <;> subst h
 all_goals
  cases hx <;> cases hy <;> cases hsh : ti.sh <;> rw [hsh] at hs ht <;> simp only [U1,reduceCtorEq] at hs
 all_goals
  refine fin (by simp) (by simp) rfl rfl ?_
 ·exact Ql 9999 ht _
 ·exact Qm 9999 ht _
 ·exact Qn 9999 ht
 ·obtain ⟨ms,hu⟩:=ht;exact RT 9999 hu _ _
 ·obtain ⟨ms,hu⟩:=ht;exact RS 9999 hu _ _
 ·exact Lx 9999 ht _ _ _
 ·exact Lx 9999 ht _ _ _
 ·exact RR 9999 ht
theorem RN (htt : TTok P tt) {op : BinOp} {t : TypeId} {xo yo : Operand} {x y g : G} {vx vy : Value} (hx : RepG ρ vx x) (hy : RepG ρ vy y) (h : UN tt op t x y = some g) :
  ∃ v,(do eqGuard op t xo yo vx vy;binOp op t vx vy : Sem Value).run P w = .ok v w ∧ RepG ρ v g:=by
 unfold UN at h
 cases hn : U2 x y with
 | none=>rw [hn] at h;cases h
 | some b =>
  rw [hn] at h
  cases hl : lk tt t with
  | none=>rw [hl] at h;cases h
  | some ti =>
   rw [hl] at h
   simp only at h
   cases hs : U1 x ti.sh with
   | false=>rw [hs] at h;cases h
   | true =>
    rw [hs] at h
    have:=Xv (P:=P) (w:=w) xo yo hx hy hn hs (htt t _ hl).sh
    cases op <;> simp only [Option.some.injEq,reduceCtorEq] at h <;> subst h
    ·exact ⟨_,this.1,.bool _⟩
    ·exact ⟨_,this.2,.bool _⟩
theorem XU (htt : TTok P tt) {op : BinOp} {t : TypeId} {xo yo : Operand} {x y g : G} {vx vy : Value} (hx : RepG ρ vx x) (hy : RepG ρ vy y) (h : XV tt op t yo x y = some g) :
  ∃ v,(do eqGuard op t xo yo vx vy;binOp op t vx vy : Sem Value).run P w = .ok v w ∧ RepG ρ v g:=by
 unfold XV at h
 split at h
 ·split at h
  ·split at h
   ·rename_i hk
    have : _ = _:=of_decide_eq_true hk
    subst this
    obtain rfl:=hx.intInv
    obtain rfl:=hy.intInv
    exact Zc t xo yo h
   ·cases h
  ·cases h
 ·split at h
  ·obtain ⟨s,rfl,rfl,rfl⟩:=hx.strInv
   obtain ⟨s',rfl,rfl,rfl⟩:=hy.strInv
   exact YG t xo yo h
  ·cases h
 ·split at h
  ·rename_i p _ q
   obtain rfl:=hx.boolInv
   obtain rfl:=hy.boolInv
   split at h
   ·rename_i hl
    have hs : P.underlying t = some .bool:=(htt t _ hl).sh
    cases op <;> simp only [Option.some.injEq,reduceCtorEq] at h <;> subst h
    ·exact ⟨_,HW (by simp) (by simp) (run_eql_bool w t p q hs),.bool _⟩
    ·exact ⟨_,HW (by simp) (by simp) (run_neq_bool w t p q hs),.bool _⟩
   ·cases h
  ·cases h
 ·split at h
  ·cases hx
   cases hy
   split at h
   ·rename_i hl
    obtain ⟨ms,hu⟩ : ∃ ms,P.underlying t = some (.interface ms):=(htt t _ hl).sh
    have he : (Op.equal t .nilIface .nilIface).run P w = .ok true w:=TF 9999 hu
    cases op <;> simp only [Option.some.injEq,reduceCtorEq] at h <;> subst h
    ·refine ⟨.bool true,?_,.bool _⟩
     simp [eqGuard,binOp,he]
    ·refine ⟨.bool false,?_,.bool _⟩
     simp [eqGuard,binOp,he]
   ·cases h
  ·exact RN htt hx hy h
 ·exact RN htt hx hy h
end
end Go.Gx
