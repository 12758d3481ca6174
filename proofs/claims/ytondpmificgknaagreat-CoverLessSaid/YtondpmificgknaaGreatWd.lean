/- Appending to a slice that is known by address; stores of what the block itself tells; such a slice compared with nil. (And what it stands on.) -/
import Derived.Test.YtondpmificgknaaGreatWc
import Derived.Laws.MakeOwn
import Derived.Test.YtondpmificgknaaGreatWb
set_option linter.unusedSimpArgs false
set_option linter.unusedVariables false

set_option maxRecDepth 100000
namespace Go.Hk
open Go.Proofs
def Vz (op n:Int) (x:Str) (k p:Nat):Bool:=let h:=B8 op k p
 h.is&&((k:Int) == h.kids)&&(h.n||n == 0)&&(h.text||x == [])&&(h.pats||(p:Int) == 0)
def IJ (op:Int) (x:Str) (k p:Nat):Bool:=!((B8 op k p).text&&op != 14)||Ep x
theorem CS (op n:Int) (x:Str) (ks:List Tm) (ps:List Ty) (hl:IJ op x ks.length ps.length=true):DGo Tryz.prog Tryz.f227.ntmps (DP []) (Nm lX Tryz.f227.results.toList (.ret Hd []))
  [.code (F9 Tryz.f227 4)] [(1,.ref 1 0),(2,.ref 2 0)] [(2,some (.immb 291 4 (Dx (B8 op ks.length ps.length)))),(1,some (.immb 186 5 (C6 (.mk op n x ks ps))))] [3,4]:=by
 refine sd [] rfl (by simp [Ag]) ?_;refine Aa rfl (λh=>?_) (λh=>?_)
 ·refine sd [] rfl (by simp) ?_;refine Ac rfl (λ_=>Gv x) (by simp [Ag]) ?_;refine sg [] rfl (by simp) ?_;have hx:Ep x=true:=by simp [IJ] at hl h;grind
  refine Ac rfl (λ_=>Bx _ hx) (by simp) ?_;refine sg [] rfl (by simp) ?_;exact Cp ⟨_,rfl,rfl,trivial⟩
 ·refine sd [] rfl (by simp) ?_;exact Cp ⟨_,rfl,rfl,trivial⟩
theorem Do (op n:Int) (x:Str) (ks:List Tm) (ps:List Ty) (hl:IJ op x ks.length ps.length=false):DGo Tryz.prog Tryz.f227.ntmps (DP []) (Nm lX Tryz.f227.results.toList (.pan EU))
  [.code (F9 Tryz.f227 4)] [(1,.ref 1 0),(2,.ref 2 0)] [(2,some (.immb 291 4 (Dx (B8 op ks.length ps.length)))),(1,some (.immb 186 5 (C6 (.mk op n x ks ps))))] [3,4]:=by
 refine sd [] rfl (by simp [Ag]) ?_;refine Aa rfl (λh=>?_) (λh=>?_)
 ·refine sd [] rfl (by simp) ?_;refine Ac rfl (λ_=>Gv x) (by simp [Ag]) ?_;refine sg [] rfl (by simp) ?_;have hx:Ep x=false:=by simp [IJ] at hl h;grind
  exact Az [] rfl (by simp) (BP _ hx) trivial rfl rfl
 ·exfalso;simp [IJ] at hl h;grind
def CN (op n:Int) (x:Str) (ps:List Ty):Bool :=
 if op=1 then Cz n
 else if op=2 then n == 0||n == 1
 else if op=24 then decide (0<=n)&&decide (n<4)
 else if op=14 then CM x
 else if op=15 then decide (1<=(ps.length:Int))&&decide ((ps.length:Int)<=5)&&ps.all B2
 else true
def Sn (op n:Int) (x:Str) (k:Nat) (ps:List Ty):Bool:=Vz op n x k ps.length&&CN op n x ps&&IJ op x k ps.length
theorem RJ (op n:Int) (x:Str) (ks:List Tm) (ps:List Ty) (hy:Sn op n x ks.length ps=true):AV Tryz.prog 227 [.imm (.agg (C6 (.mk op n x ks ps)))] [] (.ret Hd []):=by
 simp only [Sn] at hy;refine Ae Gt Tryz.func227 (by decide +kernel) rfl [1,2,3,4] rfl rfl ?_;refine sg [] rfl (by simp) ?_;refine Ac rfl (λ_=>Ux op n x ks ps) (by simp [Ag]) ?_;refine sg [] rfl (by simp [Ag,Dx] <;> grind) ?_;simp only [Bool.and_eq_true] at hy;obtain ⟨⟨hh,he⟩,hl⟩:=hy;refine Ac rfl (λ_=>Bx _ (by simp [Vz] at hh ⊢;grind)) (by simp) ?_;by_cases h1:op=1
 ·subst h1;refine sg [.a] rfl (by simp [Ag]) ?_;refine Ac rfl (λ_=>I4 n) (by simp) ?_;refine sg [] rfl (by simp) ?_;simp [CN] at he;refine Ac rfl (λ_=>Bx _ (by first | exact he | (simp at he ⊢;grind) | (simp;grind) | grind)) (by simp) ?_;refine sg [.s] rfl (by simp) ?_;exact Ad (CS _ n x ks ps hl) ⟨rfl,rfl,trivial⟩ ⟨rfl,rfl,trivial⟩ rfl
 by_cases h2:op=2
 ·subst h2;refine sg [.a,.a] rfl (by simp [Ag]) ?_;simp [CN] at he;refine Ac rfl (λ_=>Bx _ (by first | exact he | (simp at he ⊢;grind) | (simp;grind) | grind)) (by simp) ?_;refine sg [.s] rfl (by simp) ?_;exact Ad (CS _ n x ks ps hl) ⟨rfl,rfl,trivial⟩ ⟨rfl,rfl,trivial⟩ rfl
 by_cases h24:op=24
 ·subst h24;refine sg [.a,.a,.a] rfl (by simp [Ag]) ?_;simp [CN] at he;refine Ac rfl (λ_=>Bx _ (by first | exact he | (simp at he ⊢;grind) | (simp;grind) | grind)) (by simp) ?_;refine sg [.s] rfl (by simp) ?_;exact Ad (CS _ n x ks ps hl) ⟨rfl,rfl,trivial⟩ ⟨rfl,rfl,trivial⟩ rfl
 by_cases h14:op=14
 ·subst h14;refine sg [.a,.a,.a,.a] rfl (by simp [Ag]) ?_;refine Ac rfl (λ_=>Dp x) (by simp) ?_;refine sg [] rfl (by simp) ?_;simp [CN] at he;refine Ac rfl (λ_=>Bx _ (by first | exact he | (simp at he ⊢;grind) | (simp;grind) | grind)) (by simp) ?_;refine sg [.s] rfl (by simp) ?_;exact Ad (CS _ n x ks ps hl) ⟨rfl,rfl,trivial⟩ ⟨rfl,rfl,trivial⟩ rfl
 by_cases h15:op=15
 ·subst h15;refine sg [.a,.a,.a,.a,.a] rfl (by simp [Ag]) ?_;simp [CN] at he;refine Ac rfl (λ_=>Bx _ (by simp;grind)) (by simp) ?_;refine sg [] rfl (by simp) ?_;refine Aj (λi:Nat=>[(101,.imm (.int .i64 i)),(100,.imm (.int .i64 ps.length)),(99,.imm (.sl (AT ps))),(1,.ref 1 0),(2,.ref 2 0)]) (λ_=>[(2,some (.immb 291 4 (Dx (B8 15 ks.length ps.length)))),(1,some (.immb 186 5 (C6 (.mk 15 n x ks ps))))]) [3,4] (λi=>ps.length-i)
   (λi=>i<=ps.length/\(ps.drop i).all B2=true) 0 ⟨Nat.zero_le _,by simpa using he.2⟩ ⟨rfl,As (by simp),rfl,rfl,rfl,trivial⟩ ⟨rfl,rfl,trivial⟩ rfl λi hi ih=>?_
  refine sd [] rfl (by simp) ?_;have hi2:=hi.2;refine Aa rfl (λh=>?_) (λh=>?_)
  ·simp at h;obtain ⟨t,ht⟩:=Am h;rw [Ao ht,List.all_cons] at hi2;refine sd [] rfl (by simp) ?_;refine si rfl (c:=dTyc t) (λ_=>⟨by simp,by simpa using Ax ht,by simp⟩) (by simp) ?_;refine sg [] rfl (by simp) ?_;refine Ac rfl (λ_=>JA t) (by simp) ?_;refine sg [] rfl (by simp) ?_;simp only [Bool.and_eq_true] at hi2;have hz:=hi2.1;refine Ac rfl (λ_=>Bx _ (by first | rfl | (rw [hz];rfl))) (by simp) ?_;refine sg [] rfl (by simp) ?_;exact Ad (ih (i+1) (by omega) ⟨by omega,hi2.2⟩) ⟨As (B9 (by omega) (by omega)),rfl,rfl,rfl,rfl,trivial⟩ ⟨rfl,rfl,trivial⟩ rfl
  ·simp at h;rw [List.drop_eq_nil_of_le (by omega)] at hi2;refine sd [.s] rfl (by simp) ?_;exact Ad (CS _ n x ks ps hl) ⟨rfl,rfl,trivial⟩ ⟨rfl,rfl,trivial⟩ rfl
 refine sg [.f,.f,.f,.f,.f,.s] rfl (by simp [h1,h2,h24,h14,h15]) ?_;exact Ad (CS _ n x ks ps hl) ⟨rfl,rfl,trivial⟩ ⟨rfl,rfl,trivial⟩ rfl
theorem cN (op n:Int) (x:Str) (ks:List Tm) (ps:List Ty) (hy:Sn op n x ks.length ps=false):AV Tryz.prog 227 [.imm (.agg (C6 (.mk op n x ks ps)))] [] (.pan EU):=by
 simp only [Sn] at hy;refine Ae Gt Tryz.func227 (by decide +kernel) rfl [1,2,3,4] rfl rfl ?_;refine sg [] rfl (by simp) ?_;refine Ac rfl (λ_=>Ux op n x ks ps) (by simp [Ag]) ?_;refine sg [] rfl (by simp [Ag,Dx] <;> grind) ?_;by_cases hh:Vz op n x ks.length ps.length=true
 rotate_left
 ·exact Az [] rfl (by simp) (BP _ (by simp [Vz] at hh ⊢;grind)) trivial rfl rfl
 rw [hh] at hy;refine Ac rfl (λ_=>Bx _ (by simp [Vz] at hh ⊢;grind)) (by simp) ?_;by_cases h1:op=1
 ·subst h1;refine sg [.a] rfl (by simp [Ag]) ?_;refine Ac rfl (λ_=>I4 n) (by simp) ?_;refine sg [] rfl (by simp) ?_;by_cases he:CN 1 n x ps=true
  ·have hl:IJ 1 x ks.length ps.length=false:=by simpa [he] using hy
   simp [CN] at he;refine Ac rfl (λ_=>Bx _ (by first | exact he | (simp at he ⊢;grind) | (simp;grind) | grind)) (by simp) ?_;refine sg [.s] rfl (by simp) ?_;exact Ad (Do _ n x ks ps hl) ⟨rfl,rfl,trivial⟩ ⟨rfl,rfl,trivial⟩ rfl
  ·simp [CN] at he;exact Az [] rfl (by simp) (BP _ (by first | exact he | (simp at he ⊢;grind) | (simp;grind) | grind)) trivial rfl rfl
 by_cases h2:op=2
 ·subst h2;refine sg [.a,.a] rfl (by simp [Ag]) ?_;by_cases he:CN 2 n x ps=true
  ·have hl:IJ 2 x ks.length ps.length=false:=by simpa [he] using hy
   simp [CN] at he;refine Ac rfl (λ_=>Bx _ (by first | exact he | (simp at he ⊢;grind) | (simp;grind) | grind)) (by simp) ?_;refine sg [.s] rfl (by simp) ?_;exact Ad (Do _ n x ks ps hl) ⟨rfl,rfl,trivial⟩ ⟨rfl,rfl,trivial⟩ rfl
  ·simp [CN] at he;exact Az [] rfl (by simp) (BP _ (by first | exact he | (simp at he ⊢;grind) | (simp;grind) | grind)) trivial rfl rfl
 by_cases h24:op=24
 ·subst h24;refine sg [.a,.a,.a] rfl (by simp [Ag]) ?_;by_cases he:CN 24 n x ps=true
  ·have hl:IJ 24 x ks.length ps.length=false:=by simpa [he] using hy
   simp [CN] at he;refine Ac rfl (λ_=>Bx _ (by first | exact he | (simp at he ⊢;grind) | (simp;grind) | grind)) (by simp) ?_;refine sg [.s] rfl (by simp) ?_;exact Ad (Do _ n x ks ps hl) ⟨rfl,rfl,trivial⟩ ⟨rfl,rfl,trivial⟩ rfl
  ·simp [CN] at he;exact Az [] rfl (by simp) (BP _ (by first | exact he | (simp at he ⊢;grind) | (simp;grind) | grind)) trivial rfl rfl
 by_cases h14:op=14
 ·subst h14;refine sg [.a,.a,.a,.a] rfl (by simp [Ag]) ?_;refine Ac rfl (λ_=>Dp x) (by simp) ?_;refine sg [] rfl (by simp) ?_;by_cases he:CN 14 n x ps=true
  ·have hl:IJ 14 x ks.length ps.length=false:=by simpa [he] using hy
   simp [CN] at he;refine Ac rfl (λ_=>Bx _ (by first | exact he | (simp at he ⊢;grind) | (simp;grind) | grind)) (by simp) ?_;refine sg [.s] rfl (by simp) ?_;exact Ad (Do _ n x ks ps hl) ⟨rfl,rfl,trivial⟩ ⟨rfl,rfl,trivial⟩ rfl
  ·simp [CN] at he;exact Az [] rfl (by simp) (BP _ (by first | exact he | (simp at he ⊢;grind) | (simp;grind) | grind)) trivial rfl rfl
 by_cases h15:op=15
 ·subst h15;refine sg [.a,.a,.a,.a,.a] rfl (by simp [Ag]) ?_;by_cases he:(decide (1<=(ps.length:Int))&&decide ((ps.length:Int)<=5))=true
  rotate_left
  ·exact Az [] rfl (by simp) (BP _ (by simp at he ⊢;grind)) trivial rfl rfl
  have he5:ps.length<=5:=by simp at he;omega
  have hy:ps.all B2=false\/IJ 15 x ks.length ps.length=false:=by
   have e:CN 15 n x ps=((decide (1<=(ps.length:Int))&&decide ((ps.length:Int)<=5))&&ps.all B2):=by simp only [CN];rfl
   rw [e,he] at hy;simpa only [Bool.true_and,Bool.and_eq_false_iff] using hy
  refine Ac rfl (λ_=>Bx _ (by simp at he ⊢;grind)) (by simp) ?_;refine sg [] rfl (by simp) ?_;refine Aj (λi:Nat=>[(101,.imm (.int .i64 i)),(100,.imm (.int .i64 ps.length)),(99,.imm (.sl (AT ps))),(1,.ref 1 0),(2,.ref 2 0)]) (λ_=>[(2,some (.immb 291 4 (Dx (B8 15 ks.length ps.length)))),(1,some (.immb 186 5 (C6 (.mk 15 n x ks ps))))]) [3,4] (λi=>ps.length-i)
   (λi=>i<=ps.length/\((ps.drop i).all B2=false\/IJ 15 x ks.length ps.length=false)) 0 ⟨Nat.zero_le _,hy⟩ ⟨rfl,As (by simp),rfl,rfl,rfl,trivial⟩ ⟨rfl,rfl,trivial⟩ rfl λi hi ih=>?_
  refine sd [] rfl (by simp) ?_;have hi2:=hi.2;refine Aa rfl (λh=>?_) (λh=>?_)
  ·simp at h;obtain ⟨t,ht⟩:=Am h;rw [Ao ht,List.all_cons] at hi2;refine sd [] rfl (by simp) ?_;refine si rfl (c:=dTyc t) (λ_=>⟨by simp,by simpa using Ax ht,by simp⟩) (by simp) ?_;refine sg [] rfl (by simp) ?_;refine Ac rfl (λ_=>JA t) (by simp) ?_;refine sg [] rfl (by simp) ?_;cases hz:B2 t with
   | true =>
    rw [hz,Bool.true_and] at hi2;refine Ac rfl (λ_=>Bx _ (by first | rfl | (rw [hz];rfl))) (by simp) ?_;refine sg [] rfl (by simp) ?_;exact Ad (ih (i+1) (by omega) ⟨by omega,hi2⟩) ⟨As (B9 (by omega) (by omega)),rfl,rfl,rfl,rfl,trivial⟩ ⟨rfl,rfl,trivial⟩ rfl
   | false=>exact Az [] rfl (by simp) (BP _ (by first | rfl | (rw [hz];rfl))) trivial rfl rfl
  ·simp at h;rw [List.drop_eq_nil_of_le (by omega)] at hi2;refine sd [.s] rfl (by simp) ?_;exact Ad (Do _ n x ks ps (by simpa using hi2)) ⟨rfl,rfl,trivial⟩ ⟨rfl,rfl,trivial⟩ rfl
 refine sg [.f,.f,.f,.f,.f,.s] rfl (by simp [h1,h2,h24,h14,h15]) ?_;exact Ad (Do _ n x ks ps (by simpa [CN,h1,h2,h24,h14,h15] using hy)) ⟨rfl,rfl,trivial⟩ ⟨rfl,rfl,trivial⟩ rfl
mutual
def It:Tm->Bool
 | .mk op n x ks ps=>Sn op n x ks.length ps&&G9 ks
def G9:List Tm->Bool
 | []=>true
 | t::r=>It t&&G9 r
end
theorem K4:∀(t:Tm),It t=true->AV Tryz.prog 224 [.imm (.agg (C6 t))] [] (.ret Hd [])
 | .mk op n x ks ps,hy=>by
  refine Eb 0 rfl λhok=>?_;have hv:ks.length<=9223372036854775807:=by
   simp [Cf,Ey,C6,maxLen] at hok;have:=hok.1;omega
  simp only [It,Bool.and_eq_true_iff] at hy;refine Ae Gt Tryz.func224 (by decide +kernel) rfl [1,2,3] rfl rfl ?_;refine sg [] rfl (by simp) ?_;refine Ay (fr:=[]) [] [] rfl (by simp) (RJ op n x ks ps hy.1) trivial rfl rfl rfl rfl ?_;refine sg [] rfl (by simp) ?_;refine Aj (λi:Nat=>[(9,.imm (.int .i64 i)),(8,.imm (.int .i64 ks.length)),(7,.imm (.sl (KQ ks))),(1,.ref 1 0)]) (λ_=>[(1,some (.immb 186 5 (C6 (.mk op n x ks ps))))]) [2,3] (λi=>ks.length-i)
   (λi=>i<=ks.length/\G9 (ks.drop i)=true) 0 ⟨Nat.zero_le _,hy.2⟩ ⟨rfl,As (by simp),rfl,rfl,trivial⟩ ⟨rfl,trivial⟩ rfl λi hi ih=>?_
  refine sd [] rfl (by simp) ?_;have hi2:=hi.2;refine Aa rfl (λh=>?_) (λh=>?_)
  ·simp at h;obtain ⟨t,ht⟩:=Am h;rw [Ao ht] at hi2;simp only [G9,Bool.and_eq_true_iff] at hi2;refine sd [] rfl (by simp) ?_;refine si rfl (c:=C6 t) (λ_=>⟨by simp,by simpa using Ic ht,by simp⟩) (by simp) ?_;refine sg [] rfl (by simp) ?_
   ·refine Ay (fr:=[]) [] [] rfl (by simp) (K4 t hi2.1) trivial rfl rfl rfl rfl ?_;refine sg [] rfl (by simp) ?_;exact Ad (ih (i+1) (by omega) ⟨by omega,hi2.2⟩) ⟨As (B9 (by omega) (by omega)),rfl,rfl,rfl,trivial⟩ ⟨rfl,trivial⟩ rfl
  ·refine sd [] rfl (by simp) ?_;exact Cp ⟨_,rfl,rfl,trivial⟩
termination_by t=>SizeOf.sizeOf t
decreasing_by
 all_goals
  have:=List.sizeOf_lt_of_mem (List.mem_of_getElem? ht);simp_wf;omega
theorem RI:∀(t:Tm),It t=false->AV Tryz.prog 224 [.imm (.agg (C6 t))] [] (.pan EU)
 | .mk op n x ks ps,hy=>by
  refine Eb 0 rfl λhok=>?_;have hv:ks.length<=9223372036854775807:=by
   simp [Cf,Ey,C6,maxLen] at hok;have:=hok.1;omega
  simp only [It,Bool.and_eq_false_iff] at hy;refine Ae Gt Tryz.func224 (by decide +kernel) rfl [1,2,3] rfl rfl ?_;refine sg [] rfl (by simp) ?_;by_cases hn:Sn op n x ks.length ps=true
  rotate_left
  ·exact Az [] rfl (by simp) (cN op n x ks ps (by simpa using hn)) trivial rfl rfl
  rw [hn] at hy;simp only [Bool.true_eq_false,false_or] at hy;refine Ay (fr:=[]) [] [] rfl (by simp) (RJ op n x ks ps hn) trivial rfl rfl rfl rfl ?_;refine sg [] rfl (by simp) ?_;refine Aj (λi:Nat=>[(9,.imm (.int .i64 i)),(8,.imm (.int .i64 ks.length)),(7,.imm (.sl (KQ ks))),(1,.ref 1 0)]) (λ_=>[(1,some (.immb 186 5 (C6 (.mk op n x ks ps))))]) [2,3] (λi=>ks.length-i)
   (λi=>i<=ks.length/\G9 (ks.drop i)=false) 0 ⟨Nat.zero_le _,hy⟩ ⟨rfl,As (by simp),rfl,rfl,trivial⟩ ⟨rfl,trivial⟩ rfl λi hi ih=>?_
  refine sd [] rfl (by simp) ?_;have hi2:=hi.2;refine Aa rfl (λh=>?_) (λh=>?_)
  ·simp at h;obtain ⟨t,ht⟩:=Am h;rw [Ao ht] at hi2;simp only [G9,Bool.and_eq_false_iff] at hi2;refine sd [] rfl (by simp) ?_;refine si rfl (c:=C6 t) (λ_=>⟨by simp,by simpa using Ic ht,by simp⟩) (by simp) ?_;refine sg [] rfl (by simp) ?_;by_cases hz:It t=true
   ·refine Ay (fr:=[]) [] [] rfl (by simp) (K4 t hz) trivial rfl rfl rfl rfl ?_;refine sg [] rfl (by simp) ?_;exact Ad (ih (i+1) (by omega) ⟨by omega,by rw [hz] at hi2;simpa using hi2⟩) ⟨As (B9 (by omega) (by omega)),rfl,rfl,rfl,trivial⟩ ⟨rfl,trivial⟩ rfl
   ·exact Az [] rfl (by simp) (RI t (by simpa using hz)) trivial rfl rfl
  ·exfalso;simp at h;rw [List.drop_eq_nil_of_le (by omega)] at hi2;simp [G9] at hi2
termination_by t=>SizeOf.sizeOf t
decreasing_by
 all_goals
  have:=List.sizeOf_lt_of_mem (List.mem_of_getElem? ht);simp_wf;omega
def KT (t:Tm):Bool:=decide (0<=B3 t 60 14)&&It t
theorem XL (t:Tm) (h:KT t=true):AV Tryz.prog 222 [.ref 1 0] [(1,some (.immb 186 5 (C6 t)))] (.ret Hd [(1,some (.immb 186 5 (C6 t)))]):=by
 simp only [KT,Bool.and_eq_true,decide_eq_true_eq] at h;refine Ae Gt Tryz.func222 (by decide +kernel) rfl [2,3,4] rfl rfl ?_;refine sg [] rfl (by simp) ?_;refine Ay (fr:=[]) [(2,1)] [] rfl (by simp) (JQ t 60 14 1 (by decide) (by decide) (by decide) (by decide) (by decide) (by decide) h.1) ⟨⟨rfl,rfl,rfl⟩,trivial⟩ rfl rfl rfl rfl ?_;refine sg [] rfl (by simp) ?_;refine Ay (fr:=[]) [] [] rfl (by simp) (K4 t h.2) trivial rfl rfl rfl rfl ?_;refine sg [] rfl (by simp) ?_;exact Cp ⟨_,rfl,rfl,⟨rfl,trivial⟩⟩
theorem bD (t:Tm) (h:KT t=false):AV Tryz.prog 222 [.ref 1 0] [(1,some (.immb 186 5 (C6 t)))] (.pan EU):=by
 refine Ae Gt Tryz.func222 (by decide +kernel) rfl [2,3,4] rfl rfl ?_;refine sg [] rfl (by simp) ?_;by_cases h1:0<=B3 t 60 14
 ·refine Ay (fr:=[]) [(2,1)] [] rfl (by simp) (JQ t 60 14 1 (by decide) (by decide) (by decide) (by decide) (by decide) (by decide) h1) ⟨⟨rfl,rfl,rfl⟩,trivial⟩ rfl rfl rfl rfl ?_;refine sg [] rfl (by simp) ?_;exact Az [] rfl (by simp) (RI t (by simpa [KT,h1] using h)) trivial rfl rfl
 ·exact Az [(2,1)] rfl (by simp) (V2 t 60 14 1 (by decide) (by decide) (by decide) (by decide) (by decide) (by decide) (by show B3 t 60 14<0;omega)) ⟨⟨rfl,rfl,rfl⟩,trivial⟩ rfl rfl
theorem iG (t:Tm):Al Tryz.prog 213 [.agg (C6 t)] (Jv (KT t)):=by
 refine Ae Gt Tryz.func213 (by decide +kernel) rfl [1,2,3] rfl rfl ?_;refine sg [] rfl (by simp) ?_;cases h:KT t with
 | true =>
  refine Ay (fr:=[]) [(1,1)] [] rfl (by simp) (LY Tryz.func222 (by decide +kernel) rfl (XL t h)) ⟨⟨rfl,rfl,rfl⟩,trivial⟩ rfl rfl rfl rfl ?_;refine sg [] rfl (by simp) ?_;exact Ab ⟨_,rfl,tV rfl,trivial⟩
 | false =>
  refine Ay (fr:=[]) [(1,1)] [] rfl (by simp) (Oi Tryz.func222 (by decide +kernel) rfl (bD t h)) ⟨⟨rfl,rfl,rfl⟩,trivial⟩ rfl rfl rfl rfl ?_;refine sg [] rfl (by simp) ?_;exact Ab ⟨_,rfl,tV rfl,trivial⟩
def nK:TT:=lX++[
 (262,⟨.iface,false,1,16,[.imm .niliface]⟩),
 (255,⟨.sl 262,false,1,24,[.nils]⟩),
 (257,⟨.struct [(0,87)],true,2,40,[.imm (.str []),.nils]⟩),
 (259,⟨.struct [(0,188)],true,15,224,[.imm (.str []),.imm (.str []),.imm (.int .i64 0),.imm (.int .i64 0),.imm (.str []),.nils,.imm (.int .i64 0),.imm (.int .i64 0),.imm (.str []),.nils,.imm (.int .i64 0),.imm (.int .i64 0),.imm (.str []),.nils,.nils]⟩),
 (114,⟨.func,false,1,8,[.imm .nilfn]⟩),
 (278,⟨.func,false,1,8,[.imm .nilfn]⟩),
 (263,⟨.func,false,1,8,[.imm .nilfn]⟩)]
theorem Ca:TTok Tryz.prog nK:=.of_eq (l:=[4,3,9,186,26,62,183,27,5,24,23,193,184,60,188,192,90,22,190,87,85,36,281,227,1,230,291,262,255,257,259,114,278,263]) (by kernel_rfl)
section
variable {n:Nat} {F:List Nat} {Q:DQ} {env env':Env} {st st':St} {ids ids':List Nat} {k todo:List DI} {ob:List Prop}
theorem ad (path:List Pt) (h:run nK n 300 path todo env st ids [] = .at k env' st' ids' ob) (hob:A9 ob) (hd:G Tryz.prog n F Q k env' st' ids'):DGo Tryz.prog n F Q todo env st ids:=J2 Ca DJ 300 path h hob hd
theorem ag (path:List Pt) (h:run nK n 300 path todo env st ids [] = .at k env' st' ids' ob) (hob:A9 ob) (hd:G Tryz.prog n F Q k env' st' ids'):G Tryz.prog n F Q todo env st ids:=IK Ca DJ 300 path h hob hd
theorem ai {es:List (List V)} {m:Int} {sz:Nat} {e:TypeId} {g:Option (Bool×Bool)} {ob:List Prop} {t:Nat} {todo':List DI} {c:List V} (h:M7 nK n env todo=some ⟨es,m,sz,e,g,ob,some t,todo'⟩)
  (hc:Ag g->0<=m/\es[m.toNat]?=some c/\c.length=sz) (hob:A9 ob) (hk:G Tryz.prog n F Q todo' ((t,gD g (.ip e c 0))::env) st ids):G Tryz.prog n F Q todo env st ids:=EG Ca h hc hob hk
end
def Ex {α:Type} (q:α->Bool):List α->Nat->Int
 | [],_=>-1
 | e::r,i=>if q e then (i:Int) else Ex q r (i+1)
theorem HY {α:Type} (q:α->Bool):∀(es:List α) (i:Nat),0<=Ex q es i↔es.any q=true
 | [],i=>by simp [Ex]
 | e::r,i=>by
  have ih:=HY q r (i+1);by_cases h:q e=true
  ·simp [Ex,h]
  ·simp only [Ex,h,List.any_cons];simpa using ih
theorem mS (g:FuncId) (tf:TypeId) (fv:V) (q:List V->Bool) (es:List (List V)) (hes:∀e∈es,e.length=4) (hlen:es.length<=9223372036854775806)
  (hq:∀e∈es,AV Tryz.prog g [.imm (.agg e),.ref 1 0] [(1,some (.immb tf 1 [fv]))] (.ret (.imm (.bool (q e))) [(1,some (.immb tf 1 [fv]))])) :
  AV Tryz.prog 185 [.imm (.sl es),.fn (.func g) [] [.ref 1 0]] [(1,some (.immb tf 1 [fv]))] (.ret (.imm (.int .i64 (Ex q es 0))) [(1,some (.immb tf 1 [fv]))]):=by
 refine Ae Ca Tryz.func185 (by decide +kernel) rfl [2,3,4] rfl rfl ?_;refine ag [] rfl (by simp) ?_;refine Aj (λi:Nat=>[(8,.imm (.int .i64 i)),(7,.imm (.int .i64 es.length)),(0,.imm (.sl es)),(1,.fn (.func g) [] [.ref 1 0])]) (λ_=>[(1,some (.immb tf 1 [fv]))]) [2,3,4] (λi=>es.length-i)
  (λi=>i<=es.length/\Ex q es 0=Ex q (es.drop i) i) 0 ⟨Nat.zero_le _,rfl⟩ ⟨rfl,As (by simp),rfl,rfl,trivial⟩ ⟨rfl,trivial⟩ rfl λi hi ih=>?_
 refine ad [] rfl (by simp) ?_;have hi2:=hi.2;refine Aa rfl (λh=>?_) (λh=>?_)
 ·simp at h;obtain ⟨e,he⟩:=Am h;have hm:=List.mem_of_getElem? he;rw [Ao he] at hi2;refine ad [] rfl (by simp) ?_;refine ai rfl (c:=e) (λ_=>⟨by simp,by simpa using he,hes e hm⟩) (by simp) ?_;refine ag [] rfl (by simp [hes e hm]) ?_;refine Ay (fr:=[]) [(1,1)] [] rfl (by simp) (hq e hm) ⟨⟨rfl,rfl,rfl⟩,trivial⟩ rfl rfl rfl rfl ?_;refine ag [] rfl (by simp) ?_;refine Aa rfl (λh=>?_) (λh=>?_)
  ·refine ad [] rfl (by simp) ?_;exact Ab ⟨_,rfl,tV (congrArg _ (by rw [hi2];simp [Ex,h])),⟨rfl,trivial⟩⟩
  ·refine ad [] rfl (by simp) ?_;exact Ad (ih (i+1) (by omega) ⟨by omega,by rw [hi2];simp [Ex,h]⟩) ⟨As (B9 (by omega) (by omega)),rfl,rfl,rfl,trivial⟩ ⟨rfl,trivial⟩ rfl
 ·refine ad [] rfl (by simp) ?_;simp at h;refine Ab ⟨_,rfl,tV (congrArg _ ?_),⟨rfl,trivial⟩⟩;rw [hi2,List.drop_eq_nil_of_le (by omega)];rfl
theorem aX (g:FuncId) (tf:TypeId) (fv:V) (q:List V->Bool) (es:List (List V)) (hes:∀e∈es,e.length=4) (hlen:es.length<=9223372036854775806)
  (hq:∀e∈es,AV Tryz.prog g [.imm (.agg e),.ref 1 0] [(1,some (.immb tf 1 [fv]))] (.ret (.imm (.bool (q e))) [(1,some (.immb tf 1 [fv]))])) :
  AV Tryz.prog 142 [.imm (.sl es),.fn (.func g) [] [.ref 1 0]] [(1,some (.immb tf 1 [fv]))] (.ret (.imm (.bool (es.any q))) [(1,some (.immb tf 1 [fv]))]):=by
 refine Ae Ca Tryz.func142 (by decide +kernel) rfl [2,3,4] rfl rfl ?_;refine ag [] rfl (by simp) ?_;refine Ay (fr:=[]) [(1,1)] [] rfl (by simp) (mS g tf fv q es hes hlen hq) ⟨⟨rfl,rfl,rfl⟩,trivial⟩ rfl rfl rfl rfl ?_;refine ag [] rfl (by simp) ?_;refine Ab ⟨_,rfl,tV (congrArg _ ?_),⟨rfl,trivial⟩⟩;rw [Bool.eq_iff_iff,<- HY q es 0];simp
theorem oN (g:FuncId) (e:List V) (hel:e.length=4) (b:Bool) (hq:Al Tryz.prog g [.agg e] (.bool b)) :
  AV Tryz.prog 221 [.imm (.agg e),.ref 1 0] [(1,some (.immb 114 1 [.fn (.func g)]))] (.ret (.imm (.bool (!b))) [(1,some (.immb 114 1 [.fn (.func g)]))]):=by
 refine Ae Ca Tryz.func221 (by decide +kernel) rfl [2,3,4] rfl rfl ?_;refine ag [] rfl (by simp [hel]) ?_;refine Ay (fr:=[]) [] [] rfl (by simp) hq trivial rfl rfl rfl rfl ?_;refine ag [] rfl (by simp) ?_;exact Ab ⟨_,rfl,tV rfl,⟨rfl,trivial⟩⟩
theorem allT (g:FuncId) (q:List V->Bool) (es:List (List V)) (hes:∀e∈es,e.length=4) (hlen:es.length<=9223372036854775806) (hq:∀e∈es,Al Tryz.prog g [.agg e] (.bool (q e))) :
  Al Tryz.prog 211 [.sl es,.fn (.func g)] (.bool (es.all q)):=by
 refine Ae Ca Tryz.func211 (by decide +kernel) rfl [1,2,3] rfl rfl ?_;refine ag [] rfl (by simp) ?_;refine Ay (fr:=[]) [(1,1)] [] rfl (by simp) (aX 221 114 (.fn (.func g)) (λe=>!q e) es hes hlen (λe he=>oN g e (hes e he) (q e) (hq e he))) ⟨⟨rfl,rfl,rfl⟩,trivial⟩ rfl rfl rfl rfl ?_;refine ag [] rfl (by simp) ?_;refine Ab ⟨_,rfl,tV (congrArg _ ?_),trivial⟩;rw [List.any_eq_not_all_not];simp
theorem mU (g:FuncId) (tf:TypeId) (fv:V) (q:List V->Bool) (es:List (List V)) (hes:∀e∈es,e.length=2) (hlen:es.length<=9223372036854775806)
  (hq:∀e∈es,AV Tryz.prog g [.imm (.agg e),.ref 1 0] [(1,some (.immb tf 1 [fv]))] (.ret (.imm (.bool (q e))) [(1,some (.immb tf 1 [fv]))])) :
  AV Tryz.prog 226 [.imm (.sl es),.fn (.func g) [] [.ref 1 0]] [(1,some (.immb tf 1 [fv]))] (.ret (.imm (.int .i64 (Ex q es 0))) [(1,some (.immb tf 1 [fv]))]):=by
 refine Ae Ca Tryz.func226 (by decide +kernel) rfl [2,3,4] rfl rfl ?_;refine ag [] rfl (by simp) ?_;refine Aj (λi:Nat=>[(8,.imm (.int .i64 i)),(7,.imm (.int .i64 es.length)),(0,.imm (.sl es)),(1,.fn (.func g) [] [.ref 1 0])]) (λ_=>[(1,some (.immb tf 1 [fv]))]) [2,3,4] (λi=>es.length-i)
  (λi=>i<=es.length/\Ex q es 0=Ex q (es.drop i) i) 0 ⟨Nat.zero_le _,rfl⟩ ⟨rfl,As (by simp),rfl,rfl,trivial⟩ ⟨rfl,trivial⟩ rfl λi hi ih=>?_
 refine ad [] rfl (by simp) ?_;have hi2:=hi.2;refine Aa rfl (λh=>?_) (λh=>?_)
 ·simp at h;obtain ⟨e,he⟩:=Am h;have hm:=List.mem_of_getElem? he;rw [Ao he] at hi2;refine ad [] rfl (by simp) ?_;refine ai rfl (c:=e) (λ_=>⟨by simp,by simpa using he,hes e hm⟩) (by simp) ?_;refine ag [] rfl (by simp [hes e hm]) ?_;refine Ay (fr:=[]) [(1,1)] [] rfl (by simp) (hq e hm) ⟨⟨rfl,rfl,rfl⟩,trivial⟩ rfl rfl rfl rfl ?_;refine ag [] rfl (by simp) ?_;refine Aa rfl (λh=>?_) (λh=>?_)
  ·refine ad [] rfl (by simp) ?_;exact Ab ⟨_,rfl,tV (congrArg _ (by rw [hi2];simp [Ex,h])),⟨rfl,trivial⟩⟩
  ·refine ad [] rfl (by simp) ?_;exact Ad (ih (i+1) (by omega) ⟨by omega,by rw [hi2];simp [Ex,h]⟩) ⟨As (B9 (by omega) (by omega)),rfl,rfl,rfl,trivial⟩ ⟨rfl,trivial⟩ rfl
 ·refine ad [] rfl (by simp) ?_;simp at h;refine Ab ⟨_,rfl,tV (congrArg _ ?_),⟨rfl,trivial⟩⟩;rw [hi2,List.drop_eq_nil_of_le (by omega)];rfl
theorem aZ (g:FuncId) (tf:TypeId) (fv:V) (q:List V->Bool) (es:List (List V)) (hes:∀e∈es,e.length=2) (hlen:es.length<=9223372036854775806)
  (hq:∀e∈es,AV Tryz.prog g [.imm (.agg e),.ref 1 0] [(1,some (.immb tf 1 [fv]))] (.ret (.imm (.bool (q e))) [(1,some (.immb tf 1 [fv]))])) :
  AV Tryz.prog 219 [.imm (.sl es),.fn (.func g) [] [.ref 1 0]] [(1,some (.immb tf 1 [fv]))] (.ret (.imm (.bool (es.any q))) [(1,some (.immb tf 1 [fv]))]):=by
 refine Ae Ca Tryz.func219 (by decide +kernel) rfl [2,3,4] rfl rfl ?_;refine ag [] rfl (by simp) ?_;refine Ay (fr:=[]) [(1,1)] [] rfl (by simp) (mU g tf fv q es hes hlen hq) ⟨⟨rfl,rfl,rfl⟩,trivial⟩ rfl rfl rfl rfl ?_;refine ag [] rfl (by simp) ?_;refine Ab ⟨_,rfl,tV (congrArg _ ?_),⟨rfl,trivial⟩⟩;rw [Bool.eq_iff_iff,<- HY q es 0];simp
theorem oP (g:FuncId) (e:List V) (hel:e.length=2) (b:Bool) (hq:Al Tryz.prog g [.agg e] (.bool b)) :
  AV Tryz.prog 220 [.imm (.agg e),.ref 1 0] [(1,some (.immb 278 1 [.fn (.func g)]))] (.ret (.imm (.bool (!b))) [(1,some (.immb 278 1 [.fn (.func g)]))]):=by
 refine Ae Ca Tryz.func220 (by decide +kernel) rfl [2,3,4] rfl rfl ?_;refine ag [] rfl (by simp [hel]) ?_;refine Ay (fr:=[]) [] [] rfl (by simp) hq trivial rfl rfl rfl rfl ?_;refine ag [] rfl (by simp) ?_;exact Ab ⟨_,rfl,tV rfl,⟨rfl,trivial⟩⟩
theorem allC (g:FuncId) (q:List V->Bool) (es:List (List V)) (hes:∀e∈es,e.length=2) (hlen:es.length<=9223372036854775806) (hq:∀e∈es,Al Tryz.prog g [.agg e] (.bool (q e))) :
  Al Tryz.prog 209 [.sl es,.fn (.func g)] (.bool (es.all q)):=by
 refine Ae Ca Tryz.func209 (by decide +kernel) rfl [1,2,3] rfl rfl ?_;refine ag [] rfl (by simp) ?_;refine Ay (fr:=[]) [(1,1)] [] rfl (by simp) (aZ 220 278 (.fn (.func g)) (λe=>!q e) es hes hlen (λe he=>oP g e (hes e he) (q e) (hq e he))) ⟨⟨rfl,rfl,rfl⟩,trivial⟩ rfl rfl rfl rfl ?_;refine ag [] rfl (by simp) ?_;refine Ab ⟨_,rfl,tV (congrArg _ ?_),trivial⟩;rw [List.any_eq_not_all_not];simp
theorem mT (g:FuncId) (tf:TypeId) (fv:V) (q:V->Bool) (es:List V) (hlen:es.length<=9223372036854775806)
  (hq:∀e∈es,AV Tryz.prog g [.imm e,.ref 1 0] [(1,some (.immb tf 1 [fv]))] (.ret (.imm (.bool (q e))) [(1,some (.immb tf 1 [fv]))])) :
  AV Tryz.prog 218 [.imm (.sl (es.map λx=>[x])),.fn (.func g) [] [.ref 1 0]] [(1,some (.immb tf 1 [fv]))] (.ret (.imm (.int .i64 (Ex q es 0))) [(1,some (.immb tf 1 [fv]))]):=by
 refine Ae Ca Tryz.func218 (by decide +kernel) rfl [2,3,4] rfl rfl ?_;refine ag [] rfl (by simp) ?_;refine Aj (λi:Nat=>[(8,.imm (.int .i64 i)),(7,.imm (.int .i64 es.length)),(0,.imm (.sl (es.map λx=>[x]))),(1,.fn (.func g) [] [.ref 1 0])]) (λ_=>[(1,some (.immb tf 1 [fv]))]) [2,3,4] (λi=>es.length-i)
  (λi=>i<=es.length/\Ex q es 0=Ex q (es.drop i) i) 0 ⟨Nat.zero_le _,rfl⟩ ⟨rfl,As (by simp),rfl,rfl,trivial⟩ ⟨rfl,trivial⟩ rfl λi hi ih=>?_
 refine ad [] rfl (by simp) ?_;have hi2:=hi.2;refine Aa rfl (λh=>?_) (λh=>?_)
 ·simp at h;obtain ⟨e,he⟩:=Am h;have hm:=List.mem_of_getElem? he;rw [Ao he] at hi2;refine ad [] rfl (by simp) ?_;refine ai rfl (c:=[e]) (λ_=>⟨by simp,by simp [he],rfl⟩) (by simp) ?_;refine ag [] rfl (by simp) ?_;refine Ay (fr:=[]) [(1,1)] [] rfl (by simp) (hq e hm) ⟨⟨rfl,rfl,rfl⟩,trivial⟩ rfl rfl rfl rfl ?_;refine ag [] rfl (by simp) ?_;refine Aa rfl (λh=>?_) (λh=>?_)
  ·refine ad [] rfl (by simp) ?_;exact Ab ⟨_,rfl,tV (congrArg _ (by rw [hi2];simp [Ex,h])),⟨rfl,trivial⟩⟩
  ·refine ad [] rfl (by simp) ?_;exact Ad (ih (i+1) (by omega) ⟨by omega,by rw [hi2];simp [Ex,h]⟩) ⟨As (B9 (by omega) (by omega)),rfl,rfl,rfl,trivial⟩ ⟨rfl,trivial⟩ rfl
 ·refine ad [] rfl (by simp) ?_;simp at h;refine Ab ⟨_,rfl,tV (congrArg _ ?_),⟨rfl,trivial⟩⟩;rw [hi2,List.drop_eq_nil_of_le (by omega)];rfl
theorem aY (g:FuncId) (tf:TypeId) (fv:V) (q:V->Bool) (es:List V) (hlen:es.length<=9223372036854775806)
  (hq:∀e∈es,AV Tryz.prog g [.imm e,.ref 1 0] [(1,some (.immb tf 1 [fv]))] (.ret (.imm (.bool (q e))) [(1,some (.immb tf 1 [fv]))])) :
  AV Tryz.prog 207 [.imm (.sl (es.map λx=>[x])),.fn (.func g) [] [.ref 1 0]] [(1,some (.immb tf 1 [fv]))] (.ret (.imm (.bool (es.any q))) [(1,some (.immb tf 1 [fv]))]):=by
 refine Ae Ca Tryz.func207 (by decide +kernel) rfl [2,3,4] rfl rfl ?_;refine ag [] rfl (by simp) ?_;refine Ay (fr:=[]) [(1,1)] [] rfl (by simp) (mT g tf fv q es hlen hq) ⟨⟨rfl,rfl,rfl⟩,trivial⟩ rfl rfl rfl rfl ?_;refine ag [] rfl (by simp) ?_;refine Ab ⟨_,rfl,tV (congrArg _ ?_),⟨rfl,trivial⟩⟩;rw [Bool.eq_iff_iff,<- HY q es 0];simp
theorem oO (g:FuncId) (e:V) (b:Bool) (hq:Al Tryz.prog g [e] (.bool b)) :
  AV Tryz.prog 208 [.imm e,.ref 1 0] [(1,some (.immb 263 1 [.fn (.func g)]))] (.ret (.imm (.bool (!b))) [(1,some (.immb 263 1 [.fn (.func g)]))]):=by
 refine Ae Ca Tryz.func208 (by decide +kernel) rfl [2,3,4] rfl rfl ?_;refine ag [] rfl (by simp) ?_;refine Ay (fr:=[]) [] [] rfl (by simp) hq trivial rfl rfl rfl rfl ?_;refine ag [] rfl (by simp) ?_;exact Ab ⟨_,rfl,tV rfl,⟨rfl,trivial⟩⟩
theorem allI (g:FuncId) (q:V->Bool) (es:List V) (hlen:es.length<=9223372036854775806) (hq:∀e∈es,Al Tryz.prog g [e] (.bool (q e))) :
  Al Tryz.prog 183 [.sl (es.map λx=>[x]),.fn (.func g)] (.bool (es.all q)):=by
 refine Ae Ca Tryz.func183 (by decide +kernel) rfl [1,2,3] rfl rfl ?_;refine ag [] rfl (by simp) ?_;refine Ay (fr:=[]) [(1,1)] [] rfl (by simp) (aY 208 263 (.fn (.func g)) (λe=>!q e) es hlen (λe he=>oO g e (q e) (hq e he))) ⟨⟨rfl,rfl,rfl⟩,trivial⟩ rfl rfl rfl rfl ?_;refine ag [] rfl (by simp) ?_;refine Ab ⟨_,rfl,tV (congrArg _ ?_),trivial⟩;rw [List.any_eq_not_all_not];simp
end Go.Hk
namespace Go.Hk
def QK:Sh->Bool
 | .iface | .other=>false
 | _=>true
structure PTa where
 t:TypeId
 v:V
 to_:TypeId
 dst:Option Nat
 todo:List DI
def pta (tt:TT) (n:Nat) (env:Env) (todo:List DI):Option PTa :=
 match T1 todo with
 | some o=>match o.guard,o.op with
  | none,.typeAssert x _ to_ true=>match CQ env x,lk tt to_,B1 n o.dst,AS todo ([],[]) with
   | some (.imm (.iface t v)),some i,true,some (_,_,todo')=>match QK i.sh with
    | true=>some ⟨t,v,to_,o.dst,todo'⟩
    | false=>none
   | _,_,_,_=>none
  | _,_=>none
 | none=>none
section
variable {P:Program} {n:Nat} {F:List Nat} {Q:DQ} {tt:TT} {env env':Env} {st st':St} {ids ids':List Nat} {k todo todo':List DI} {I:Imm} {μ:Mu} {w:World} {a:Act} {Pn:V->Prop} {d:D} {cx:Prop} {ob:List Prop}
theorem N2 {t to_ from_:TypeId} {i:TyI} {v:Value} (hi:TyOk P to_ i) (hc:QK i.sh=true) {r:Value} (h:(t=to_/\r = .tuple #[v,.bool true])\/(t≠to_/\∃z,(P.info? to_).bind (·.zero)=some z/\r = .tuple #[z,.bool false])) :
  (Instr.typeAssert (.iface t v) from_ to_ true).run P w = .ok r w:=by
 have hu:∃dd,P.underlying to_=some dd/\∀ms,dd ≠ .interface ms:=by
  have:=hi.sh;generalize i.sh=sh at this hc;cases sh <;> simp only [QK,Bool.false_eq_true] at hc <;> simp only [O3] at this
  case struct fs=>obtain ⟨f,h1,_⟩:=this;exact ⟨_,h1,λ_ h=>by cases h⟩
  case func=>obtain ⟨a,b,c,h1⟩:=this;exact ⟨_,h1,λ_ h=>by cases h⟩
  all_goals exact ⟨_,this,λ_ h=>by cases h⟩
 obtain ⟨dd,hd,hne⟩:=hu;rcases h with ⟨rfl,rfl⟩ | ⟨hn,z,hz,rfl⟩
 ·cases dd <;> first | exact absurd rfl (hne _) | simp [Instr.typeAssert,run_underlying hd]
 ·have hz:=Fc (w:=w) hz;cases dd <;> first | exact absurd rfl (hne _) | simp [Instr.typeAssert,run_underlying hd,hn,hz]
theorem HZ (htt:TTok P tt) {t0 to_:TypeId} {v0:V} {d0:Option Nat} {todo0:List DI} (h:pta tt n env todo=some ⟨t0,v0,to_,d0,todo0⟩) {r:List V}
  (hr:(t0=to_/\r=[v0,.bool true])\/(t0≠to_/\∃z zd,(P.info? to_).bind (·.zero)=some z/\(∀I,RepV I z zd)/\r=[zd,.bool false]))
  (hk:G P n F Q todo0 (Bz d0 (.imm (.tup r)) env) st ids):G P n F Q todo env st ids:=by
 unfold pta at h
 split at h
 ·rename_i o ho
  split at h
  ·rename_i x from_ to' hg hop
   split at h
   ·rename_i t v i all o' todo' hx hi hd h1
    split at h
    ·rename_i hc;cases h;have ho':o'=o:=Em ho h1;subst ho';refine Bq (fr:=[]) (wr:=[]) (rd:=[]) h1 ?_ hd (λc hc=>by rw [hop] at hc;cases hc) hk;intro I μ st1 ids1 a w hag hst hon;refine ⟨λ_=>?_,λhw=>by rw [A0 hg] at hw;cases hw⟩;have hops:=AJ hon;rw [hop] at hops;have rx:=(hops x (by simp [Op.operands]) _ hx).immInv;generalize hv:a.eval x=v at rx;cases rx with
     | iface _ u _ hu =>
      have fin:∀(z:Value) (b:Bool) (zd:V),(Instr.typeAssert (.iface t0 u) from_ to_ true).run P w = .ok (.tuple #[z,.bool b]) w->RepV I z zd->r=[zd,.bool b] ->
        valX P ((execOp a.eval o').run P w) (λv w'=>∃I' μ',StRep I' μ' ([]++st1) ids1 w'/\RepD I' μ' v (.imm (.tup r))/\μ.le μ'/\Ext I μ st1 w I' μ' ([]++st1) w') (Kg (Lu Q) I μ st1 w):=by
       intro z b zd h1 h2 h3;have hrun:(execOp a.eval o').run P w = .ok (.value (.tuple #[z,.bool b])) w:=by
        simp only [execOp,hop,hv];exact At h1
       rw [hrun,h3];refine ⟨I,μ,hst,.imm _ _ (.tup _ _ rfl λi c x hc hx=>?_),Mu.le_refl μ,Ext.refl _ _ _ _⟩
       match i,hc,hx with
       | 0,hc,hx=>cases hc;cases hx;exact h2
       | 1,hc,hx=>cases hc;cases hx;exact .bool _
       | i+2,hc,hx=>simp at hx
      rcases hr with ⟨e1,e2⟩ | ⟨e1,z,zd,e2,e3,e4⟩
      ·exact fin u true v0 (N2 (htt _ _ hi) hc (.inl ⟨e1,rfl⟩)) hu e2
      ·exact fin z false zd (N2 (htt _ _ hi) hc (.inr ⟨e1,z,e2,rfl⟩)) (e3 I) e4
    ·cases h
   ·cases h
  ·cases h
 ·cases h
end
end Go.Hk
namespace Go.Hk
open Go.Proofs
mutual
theorem GR:∀{a b:Ty},dTyc a=dTyc b->a=b
 | .mk s n x ps,.mk s' n' x' ps',h=>by
  simp only [dTyc,List.cons.injEq,V.int.injEq,V.str.injEq,V.sl.injEq,and_true,true_and] at h;obtain ⟨h1,h2,h3,h4⟩:=h;subst h1;subst h2;subst h3;rw [GQ h4]
theorem GQ:∀{a b:List Ty},AT a=AT b->a=b
 | [],[],_=>rfl
 | [],_::_,h=>by simp [AT] at h
 | _::_,[],h=>by simp [AT] at h
 | x::r,y::t,h=>by
  simp only [AT,List.cons.injEq] at h;rw [GR h.1,GQ h.2]
end
theorem QD {a b:Cd} (h:Dy a=Dy b):a=b:=by
 obtain ⟨a1,a2⟩:=a;obtain ⟨b1,b2⟩:=b;simp only [Dy,List.cons.injEq,V.str.injEq,V.sl.injEq,and_true] at h;rw [h.1,GQ h.2]
open Classical in
noncomputable def qOf {α β:Type} (d:α->β) (f:α->Bool) (e:β):Bool:=decide (∃t,d t=e/\f t=true)
open Classical in
theorem IZ {α β:Type} {d:α->β} (hd:∀{a b},d a=d b->a=b) (f:α->Bool) (t:α):qOf d f (d t)=f t:=by
 unfold qOf;by_cases h:f t=true
 ·rw [h];exact decide_eq_true ⟨t,rfl,h⟩
 ·simp only [Bool.not_eq_true] at h;rw [h];refine decide_eq_false λ⟨u,h1,h2⟩=>?_;rw [hd h1,h] at h2;cases h2
theorem Tv {α β:Type} {d:α->β} (hd:∀{a b},d a=d b->a=b) (f:α->Bool) (l:List α):(l.map d).all (qOf d f)=l.all f:=by
 rw [List.all_map];congr 1;funext t;exact IZ hd f t
def J4 (c:Cd):Bool:=CM c.name&&decide ((c.args.length:Int)<=3)&&c.args.all (BM false)
def EK (d:Dt):Bool:=CM d.name&&decide ((1:Int)<=d.cons.length)&&decide ((d.cons.length:Int)<=5)&&d.cons.all J4
def LK (f:Fd):Bool:=Ep f.name&&Ep f.param&&BM false f.from_&&BM false f.to_&&KT f.body
theorem gX (ts:List Ty) (h:ts.length<=9223372036854775806):Al Tryz.prog 211 [.sl (AT ts),.fn (.func 212)] (.bool (ts.all (BM false))):=by
 have:=allT 212 (qOf dTyc (BM false)) (AT ts) (λe he=>by rw [Cl] at he;obtain ⟨t,_,rfl⟩:=List.mem_map.1 he;simp) (by simpa using h) (λe he=>by
  rw [Cl] at he;obtain ⟨t,_,rfl⟩:=List.mem_map.1 he;rw [IZ GR];exact Pa t)
 rw [Cl,Tv GR] at this;rw [Cl];exact this
theorem Z1 (c:Cd):Al Tryz.prog 210 [.agg (Dy c)] (.bool (J4 c)):=by
 obtain ⟨nm,ts⟩:=c;refine AI λhv=>?_;simp [Cf,Ey,Dy,maxLen] at hv;refine Ae Ca Tryz.func210 (by decide +kernel) rfl [1,2,3] rfl rfl ?_;refine ag [] rfl (by simp [Ag]) ?_;refine Ac rfl (λ_=>Dp nm) (by simp [Ag]) ?_;refine ag [] rfl (by simp [Ag]) ?_;refine Ac rfl (λhg=>gX ts (by simp [Ag] at hg;omega)) (by simp [Ag]) ?_;refine ag [] rfl (by simp [Ag] <;> grind) ?_;refine Ab ⟨_,rfl,tV (congrArg _ ?_),trivial⟩;simp [J4] <;> grind
theorem kH (cs:List Cd) (h:cs.length<=9223372036854775806):Al Tryz.prog 209 [.sl (cs.map Dy),.fn (.func 210)] (.bool (cs.all J4)):=by
 have:=allC 210 (qOf Dy J4) (cs.map Dy) (λe he=>by obtain ⟨t,_,rfl⟩:=List.mem_map.1 he;rfl) (by simpa using h) (λe he=>by
  obtain ⟨t,_,rfl⟩:=List.mem_map.1 he;rw [IZ QD];exact Z1 t)
 rw [Tv QD] at this;exact this
def Lt (d:Dt):V:=.iface 257 (.agg (C7 d))
def Jb (f:Fd):V:=.iface 259 (.agg (O1 f))
theorem Td:∃z,(Tryz.prog.info? 257).bind (·.zero)=some z/\∀I,RepV I z (.agg [.str [],.sl []]):=by
 refine ⟨.agg #[.string ⟨#[]⟩,.slice none 0 0],by kernel_rfl,λI=>.agg _ _ rfl (by decide) λi c x hc hx=>?_⟩
 match i,hc,hx with
 | 0,hc,hx=>cases hc;cases hx;exact .str _ _ rfl
 | 1,hc,hx=>cases hc;cases hx;exact .slnil
 | i+2,hc,hx=>simp at hx
theorem WC (d:Dt):Al Tryz.prog 184 [Lt d] (.bool (EK d)):=by
 obtain ⟨nm,cs⟩:=d;refine AI λhv=>?_;simp [Cf,Ey,Lt,C7,maxLen] at hv;refine Ae Ca Tryz.func184 (by decide +kernel) rfl [1,2,3,4] rfl rfl ?_;refine ag [] rfl (by simp [Ag]) ?_;refine HZ Ca rfl (.inl ⟨rfl,rfl⟩) ?_;refine ag [.a] rfl (by simp [Ag]) ?_;refine Ac rfl (λ_=>Dp nm) (by simp [Ag]) ?_;refine ag [] rfl (by simp [Ag]) ?_;refine Ac rfl (λhg=>kH cs (by simp [Ag] at hg;omega)) (by simp [Ag]) ?_;refine ag [] rfl (by simp [Ag] <;> grind) ?_;refine Ab ⟨_,rfl,tV (congrArg _ ?_),trivial⟩;simp [EK] <;> grind
theorem Z0 (f:Fd):Al Tryz.prog 184 [Jb f] (.bool (LK f)):=by
 obtain ⟨nm,pm,⟨s1,n1,x1,p1⟩,⟨s2,n2,x2,p2⟩,⟨o3,n3,x3,k3,p3⟩⟩:=f;obtain ⟨z,hz,hzr⟩:=Td;refine AI λhv=>?_;refine Ae Ca Tryz.func184 (by decide +kernel) rfl [1,2,3,4] rfl rfl ?_;refine ag [] rfl (by simp [Ag]) ?_;refine HZ Ca rfl (.inr ⟨by decide,z,_,hz,hzr,rfl⟩) ?_;refine ag [.a] rfl (by simp [Ag]) ?_;refine HZ Ca rfl (.inl ⟨rfl,rfl⟩) ?_;refine ag [.a] rfl (by simp [Ag]) ?_;refine Ac rfl (λ_=>Gv nm) (by simp [Ag]) ?_;refine ag [] rfl (by simp [Ag]) ?_;refine Ac rfl (λ_=>Gv pm) (by simp [Ag]) ?_;refine ag [] rfl (by simp [Ag]) ?_;refine Ac rfl (λ_=>Pa (.mk s1 n1 x1 p1)) (by simp [Ag]) ?_;refine ag [] rfl (by simp [Ag]) ?_;refine Ac rfl (λ_=>Pa (.mk s2 n2 x2 p2)) (by simp [Ag]) ?_
 refine ag [] rfl (by simp [Ag]) ?_;refine Ac rfl (λ_=>iG (.mk o3 n3 x3 k3 p3)) (by simp [Ag]) ?_;refine ag [] rfl (by simp [Ag] <;> grind) ?_;refine Ab ⟨_,rfl,tV (congrArg _ ?_),trivial⟩;simp [LK,Jv] <;> grind
inductive Pt2 where
 | d (x:Dt)
 | f (x:Fd)
def gM:Pt2->V
 | .d x=>Lt x
 | .f x=>Jb x
def UK:Pt2->Bool
 | .d x=>EK x
 | .f x=>LK x
theorem dL (p:Pt2):Al Tryz.prog 184 [gM p] (.bool (UK p)):=by
 cases p with
 | d x=>exact WC x
 | f x=>exact Z0 x
mutual
theorem gK:∀{a b:Tm},C6 a=C6 b->a=b
 | .mk s n x ks ps,.mk s' n' x' ks' ps',h=>by
  simp only [C6,List.cons.injEq,V.int.injEq,V.str.injEq,V.sl.injEq,and_true,true_and] at h;obtain ⟨h1,h2,h3,h4,h5⟩:=h;subst h1;subst h2;subst h3;rw [QB h4,GQ h5]
theorem QB:∀{a b:List Tm},KQ a=KQ b->a=b
 | [],[],_=>rfl
 | [],_::_,h=>by simp [KQ] at h
 | _::_,[],h=>by simp [KQ] at h
 | x::r,y::t,h=>by
  simp only [KQ,List.cons.injEq] at h;rw [gK h.1,QB h.2]
end
theorem L3:∀{a b:List Cd},a.map Dy=b.map Dy->a=b
 | [],[],_=>rfl
 | [],_::_,h=>by simp at h
 | _::_,[],h=>by simp at h
 | x::r,y::t,h=>by
  simp only [List.map_cons,List.cons.injEq] at h;rw [QD h.1,L3 h.2]
theorem YJ {a b:Pt2} (h:gM a=gM b):a=b:=by
 cases a with
 | d x=>cases b with
  | d y =>
   obtain ⟨x1,x2⟩:=x;obtain ⟨y1,y2⟩:=y;simp only [gM,Lt,C7,V.iface.injEq,V.agg.injEq,List.cons.injEq,V.str.injEq,V.sl.injEq,true_and,and_true] at h;rw [h.1,L3 h.2]
  | f y=>simp [gM,Lt,Jb] at h
 | f x=>cases b with
  | d y=>simp [gM,Lt,Jb] at h
  | f y =>
   obtain ⟨nm,pm,⟨s1,n1,x1,p1⟩,⟨s2,n2,x2,p2⟩,⟨o3,n3,x3,k3,p3⟩⟩:=x;obtain ⟨nm',pm',⟨s1',n1',x1',p1'⟩,⟨s2',n2',x2',p2'⟩,⟨o3',n3',x3',k3',p3'⟩⟩:=y;simp only [gM,Jb,O1,dTyc,C6,V.iface.injEq,V.agg.injEq,List.cons_append,List.nil_append,List.cons.injEq,V.str.injEq,V.int.injEq,V.sl.injEq,true_and,and_true] at h;obtain ⟨h1,h2,h3,h4,h5,h6,h7,h8,h9,h10,h11,h12,h13,h14,h15⟩:=h;rw [h1,h2,h3,h4,h5,GQ h6,h7,h8,h9,GQ h10,h11,h12,h13,QB h14,GQ h15]
theorem Ws (ps:List Pt2) (h:ps.length<=9223372036854775806):Al Tryz.prog 183 [.sl (ps.map λp=>[gM p]),.fn (.func 184)] (.bool (ps.all UK)):=by
 have:=allI 184 (qOf gM UK) (ps.map gM) (by simpa using h) (λe he=>by
  obtain ⟨t,_,rfl⟩:=List.mem_map.1 he;rw [IZ YJ];exact dL t)
 rw [Tv YJ,List.map_map] at this;exact this
def Hn (m:Md):Bool:=Ep m.name&&decide ((m.datas.length:Int)<=4)&&decide ((1:Int)<=m.funs.length)&&decide ((m.funs.length:Int)<=5)&&m.datas.all EK&&m.funs.all LK
def Kf (l:List Pt2):List (List V):=l.map λp=>[gM p]
@[simp] theorem rowP_length (l:List Pt2):(Kf l).length=l.length:=by simp [Kf]
def jY (b:Bool) (k:Nat):D:=match b with
 | false=>.nils
 | true=>.own 2 k
def oZ (b:Bool) (m:Md) (es:List (List V)):St:=match b with
 | false=>[(1,some (.immb 192 3 (TK m)))]
 | true=>[(2,some (.row 262 1 es)),(1,some (.immb 192 3 (TK m)))]
theorem P4 (a b:List Pt2):Kf (a++b)=Kf a++Kf b:=by simp [Kf]
theorem YQ (m:Md) (b:Bool) (es0:List (List V)) (hb:b=false->es0=[]) (he0:es0=Kf (m.datas.map .d)) (hd:(m.datas.length:Int)<=4) (hf1:(1:Int)<=m.funs.length) (hf:(m.funs.length:Int)<=5) :
  DGo Tryz.prog Tryz.f141.ntmps (DP []) (Nm nK Tryz.f141.results.toList (.ret (.imm (Jv (m.datas.all EK&&m.funs.all LK))) []))
   [.code (F9 Tryz.f141 4)] [(3,jY b es0.length),(1,.ref 1 0)] (oZ b m es0) [3,4]:=by
 cases b with
 | false =>
  have:=hb rfl;subst this;refine ad [] rfl (by simp) ?_;refine Aj (λy:Nat×Bool×List (List V)=>[(47,.imm (.int .i64 y.1)),(46,.imm (.int .i64 m.funs.length)),(45,.imm (.sl (m.funs.map O1))),(3,jY y.2.1 y.2.2.length),(1,.ref 1 0)])
   (λy=>oZ y.2.1 m y.2.2) [3,4] (λy=>m.funs.length-y.1)
   (λy=>y.1<=m.funs.length/\y.2.2=Kf (m.datas.map .d++(m.funs.take y.1).map .f)/\(y.2.1=false->y.2.2=[])) (0,false,[]) ⟨Nat.zero_le _,by simpa using he0,λ_=>rfl⟩ ⟨rfl,As (by simp),rfl,rfl,rfl,trivial⟩ ⟨rfl,trivial⟩ rfl λy hi ih=>?_
  obtain ⟨i,b,es⟩:=y;obtain ⟨hi1,hi2,hi3⟩:=hi;simp only at hi1 hi2 hi3;have hlen:es.length<=9:=by
   have:=congrArg List.length hi2;simp at this;omega
  have hnext:∀f,m.funs[i]?=some f->es++[[Jb f]]=Kf (m.datas.map .d++(m.funs.take (i+1)).map .f):=λf hf=>by
   rw [Be hf,List.map_append,<- List.append_assoc,P4,<- hi2];rfl
  have hend:¬i<m.funs.length->es=Kf (m.datas.map .d++m.funs.map .f):=λh=>by
   rw [hi2,List.take_of_length_le (by omega)]
  cases b with
  | false =>
   have hi3:=hi3 rfl;subst hi3;refine ad [] rfl (by simp) ?_;refine Aa rfl (λh=>?_) (λh=>?_)
   ·simp at h;obtain ⟨f,hf⟩:=Am h;refine ad [] rfl (by simp) ?_;refine ai rfl (c:=O1 f) (λ_=>⟨by simp,by simpa using Bp hf,by simp⟩) (by simp) ?_;refine ag [] rfl (by simp) ?_;refine BC Ca rfl ⟨by simp,by simp [maxLen],by simp,trivial⟩ ?_;refine ag [] rfl (by simp) ?_;refine A4 2 4 rfl ?_;exact Ad (ih (i+1,true,[]++[[Jb f]]) (by simp only;omega) ⟨by simp only;omega,hnext f hf,λh=>by cases h⟩) ⟨As (B9 (by simp only;omega) (by simp only;omega)),rfl,rfl,rfl,rfl,trivial⟩ ⟨rfl,rfl,trivial⟩ rfl
   ·simp at h;have:=congrArg List.length (hend (by omega));simp at this;omega
  | true =>
   refine ad [] rfl (by simp) ?_;refine Aa rfl (λh=>?_) (λh=>?_)
   ·simp at h;obtain ⟨f,hf⟩:=Am h;refine ad [] rfl (by simp) ?_;refine ai rfl (c:=O1 f) (λ_=>⟨by simp,by simpa using Bp hf,by simp⟩) (by simp) ?_;refine ag [] rfl (by simp) ?_;refine BC Ca rfl ⟨by simp,by simp [maxLen];omega,by simp;omega,trivial⟩ ?_;refine ag [] rfl (by simp) ?_;refine A4 2 4 rfl ?_;exact Ad (ih (i+1,true,es++[[Jb f]]) (by simp only;omega) ⟨by simp only;omega,hnext f hf,λh=>by cases h⟩) ⟨As (B9 (by simp only;omega) (by simp only;omega)),rfl,rfl,rfl,rfl,trivial⟩ ⟨rfl,rfl,trivial⟩ rfl
   ·simp at h;refine Ar rfl ?_;refine BD 2 rfl ?_;refine ad [] rfl (by simp) ?_;refine Ac rfl (λ_=>by rw [hend (by omega)];exact Ws _ (by simp;omega)) (by simp) ?_;refine ag [] rfl (by simp) ?_;have hall:(m.datas.map Pt2.d++m.funs.map Pt2.f).all UK=(m.datas.all EK&&m.funs.all LK):=by
     rw [List.all_append,List.all_map,List.all_map];rfl
    rw [hall];refine Aa rfl (λh=>?_) (λh=>?_)
    ·refine ad [] rfl (by simp) ?_;refine Ab ⟨_,rfl,tV ?_,trivial⟩;simp only [Bool.not_eq_true'] at h;rw [h];rfl
    ·refine ad [] rfl (by simp) ?_;refine Ab ⟨_,rfl,tV ?_,trivial⟩;simp only [Bool.not_eq_false'] at h;rw [h];rfl
 | true =>
  refine ad [] rfl (by simp) ?_;refine Aj (λy:Nat×Bool×List (List V)=>[(47,.imm (.int .i64 y.1)),(46,.imm (.int .i64 m.funs.length)),(45,.imm (.sl (m.funs.map O1))),(3,jY y.2.1 y.2.2.length),(1,.ref 1 0)])
   (λy=>oZ y.2.1 m y.2.2) [3,4] (λy=>m.funs.length-y.1)
   (λy=>y.1<=m.funs.length/\y.2.2=Kf (m.datas.map .d++(m.funs.take y.1).map .f)/\(y.2.1=false->y.2.2=[])) (0,true,es0) ⟨Nat.zero_le _,by simpa using he0,λh=>by cases h⟩ ⟨rfl,As (by simp),rfl,rfl,rfl,trivial⟩ ⟨rfl,rfl,trivial⟩ rfl λy hi ih=>?_
  obtain ⟨i,b,es⟩:=y;obtain ⟨hi1,hi2,hi3⟩:=hi;simp only at hi1 hi2 hi3;have hlen:es.length<=9:=by
   have:=congrArg List.length hi2;simp at this;omega
  have hnext:∀f,m.funs[i]?=some f->es++[[Jb f]]=Kf (m.datas.map .d++(m.funs.take (i+1)).map .f):=λf hf=>by
   rw [Be hf,List.map_append,<- List.append_assoc,P4,<- hi2];rfl
  have hend:¬i<m.funs.length->es=Kf (m.datas.map .d++m.funs.map .f):=λh=>by
   rw [hi2,List.take_of_length_le (by omega)]
  cases b with
  | false =>
   have hi3:=hi3 rfl;subst hi3;refine ad [] rfl (by simp) ?_;refine Aa rfl (λh=>?_) (λh=>?_)
   ·simp at h;obtain ⟨f,hf⟩:=Am h;refine ad [] rfl (by simp) ?_;refine ai rfl (c:=O1 f) (λ_=>⟨by simp,by simpa using Bp hf,by simp⟩) (by simp) ?_;refine ag [] rfl (by simp) ?_;refine BC Ca rfl ⟨by simp,by simp [maxLen],by simp,trivial⟩ ?_;refine ag [] rfl (by simp) ?_;refine A4 2 4 rfl ?_;exact Ad (ih (i+1,true,[]++[[Jb f]]) (by simp only;omega) ⟨by simp only;omega,hnext f hf,λh=>by cases h⟩) ⟨As (B9 (by simp only;omega) (by simp only;omega)),rfl,rfl,rfl,rfl,trivial⟩ ⟨rfl,rfl,trivial⟩ rfl
   ·simp at h;have:=congrArg List.length (hend (by omega));simp at this;omega
  | true =>
   refine ad [] rfl (by simp) ?_;refine Aa rfl (λh=>?_) (λh=>?_)
   ·simp at h;obtain ⟨f,hf⟩:=Am h;refine ad [] rfl (by simp) ?_;refine ai rfl (c:=O1 f) (λ_=>⟨by simp,by simpa using Bp hf,by simp⟩) (by simp) ?_;refine ag [] rfl (by simp) ?_;refine BC Ca rfl ⟨by simp,by simp [maxLen];omega,by simp;omega,trivial⟩ ?_;refine ag [] rfl (by simp) ?_;refine A4 2 4 rfl ?_;exact Ad (ih (i+1,true,es++[[Jb f]]) (by simp only;omega) ⟨by simp only;omega,hnext f hf,λh=>by cases h⟩) ⟨As (B9 (by simp only;omega) (by simp only;omega)),rfl,rfl,rfl,rfl,trivial⟩ ⟨rfl,rfl,trivial⟩ rfl
   ·simp at h;refine Ar rfl ?_;refine BD 2 rfl ?_;refine ad [] rfl (by simp) ?_;refine Ac rfl (λ_=>by rw [hend (by omega)];exact Ws _ (by simp;omega)) (by simp) ?_;refine ag [] rfl (by simp) ?_;have hall:(m.datas.map Pt2.d++m.funs.map Pt2.f).all UK=(m.datas.all EK&&m.funs.all LK):=by
     rw [List.all_append,List.all_map,List.all_map];rfl
    rw [hall];refine Aa rfl (λh=>?_) (λh=>?_)
    ·refine ad [] rfl (by simp) ?_;refine Ab ⟨_,rfl,tV ?_,trivial⟩;simp only [Bool.not_eq_true'] at h;rw [h];rfl
    ·refine ad [] rfl (by simp) ?_;refine Ab ⟨_,rfl,tV ?_,trivial⟩;simp only [Bool.not_eq_false'] at h;rw [h];rfl
theorem Re (m:Md):Al Tryz.prog 141 [.agg (TK m)] (Jv (Hn m)):=by
 refine AI λhv=>?_;have hv1:m.datas.length<=9223372036854775807/\m.funs.length<=9223372036854775807:=by
  simp [Cf,Ey,TK,maxLen] at hv;omega
 refine Ae Ca Tryz.func141 (by decide +kernel) rfl [1,2,3,4] rfl rfl ?_;refine ag [] rfl (by simp [Ag]) ?_;refine Ac rfl (λ_=>Gv m.name) (by simp [Ag]) ?_;refine ag [] rfl (by simp [Ag] <;> grind) ?_;refine Aa rfl (λh=>?_) (λh=>?_)
 ·refine ad [] rfl (by simp) ?_;refine Ab ⟨_,rfl,tV (congrArg _ ?_),trivial⟩;have:Hn m=false:=by
   simp at h;simp [Hn];grind
  rw [this];rfl
 have hx:Ep m.name=true/\(m.datas.length:Int)<=4/\(1:Int)<=m.funs.length/\(m.funs.length:Int)<=5:=by
  simp at h;refine ⟨?_,?_,?_,?_⟩ <;> grind
 clear h;have hres:Hn m=(m.datas.all EK&&m.funs.all LK):=by simp [Hn,hx.1,hx.2.1,hx.2.2.1,hx.2.2.2]
 rw [hres];refine ad [] rfl (by simp) ?_;refine Aj (λy:Nat×Bool×List (List V)=>[(33,.imm (.int .i64 y.1)),(32,.imm (.int .i64 m.datas.length)),(31,.imm (.sl (m.datas.map C7))),(3,jY y.2.1 y.2.2.length),(1,.ref 1 0)])
  (λy=>oZ y.2.1 m y.2.2) [3,4] (λy=>m.datas.length-y.1)
  (λy=>y.1<=m.datas.length/\y.2.2=Kf ((m.datas.take y.1).map .d)/\(y.2.1=false->y.2.2=[])) (0,false,[]) ⟨Nat.zero_le _,rfl,λ_=>rfl⟩ ⟨rfl,As (by simp),rfl,rfl,rfl,trivial⟩ ⟨rfl,trivial⟩ rfl λy hi ih=>?_
 obtain ⟨i,b,es⟩:=y;obtain ⟨hi1,hi2,hi3⟩:=hi;simp only at hi1 hi2 hi3;have hlen:es.length<=4:=by
  have:=congrArg List.length hi2;simp at this;omega
 have hend:¬i<m.datas.length->es=Kf (m.datas.map .d):=λh=>by
  rw [hi2,List.take_of_length_le (by omega)]
 have hnext:∀d,m.datas[i]?=some d->es++[[Lt d]]=Kf ((m.datas.take (i+1)).map .d):=λd hd=>by
  rw [Be hd,List.map_append,P4,<- hi2];rfl
 cases b with
 | false =>
  have hi3:=hi3 rfl;subst hi3;refine ad [] rfl (by simp) ?_;refine Aa rfl (λh=>?_) (λh=>?_)
  ·simp at h;obtain ⟨d,hd⟩:=Am h;refine ad [] rfl (by simp) ?_;refine ai rfl (c:=C7 d) (λ_=>⟨by simp,by simpa using Bp hd,by simp⟩) (by simp) ?_;refine ag [] rfl (by simp) ?_;refine BC Ca rfl ⟨by simp,by simp [maxLen],by simp,trivial⟩ ?_;refine ag [] rfl (by simp) ?_;refine A4 2 4 rfl ?_;exact Ad (ih (i+1,true,[]++[[Lt d]]) (by simp only;omega) ⟨by simp only;omega,hnext d hd,λh=>by cases h⟩) ⟨As (B9 (by simp only;omega) (by simp only;omega)),rfl,rfl,rfl,rfl,trivial⟩ ⟨rfl,rfl,trivial⟩ rfl
  ·simp at h;refine Ar rfl ?_;exact Ad (YQ m false [] (λ_=>rfl) (hend (by omega)) hx.2.1 hx.2.2.1 hx.2.2.2) ⟨rfl,rfl,trivial⟩ ⟨rfl,trivial⟩ rfl
 | true =>
  refine ad [] rfl (by simp) ?_;refine Aa rfl (λh=>?_) (λh=>?_)
  ·simp at h;obtain ⟨d,hd⟩:=Am h;refine ad [] rfl (by simp) ?_;refine ai rfl (c:=C7 d) (λ_=>⟨by simp,by simpa using Bp hd,by simp⟩) (by simp) ?_;refine ag [] rfl (by simp) ?_;refine BC Ca rfl ⟨by simp,by simp [maxLen];omega,by simp;omega,trivial⟩ ?_;refine ag [] rfl (by simp) ?_;refine A4 2 4 rfl ?_;exact Ad (ih (i+1,true,es++[[Lt d]]) (by simp only;omega) ⟨by simp only;omega,hnext d hd,λh=>by cases h⟩) ⟨As (B9 (by simp only;omega) (by simp only;omega)),rfl,rfl,rfl,rfl,trivial⟩ ⟨rfl,rfl,trivial⟩ rfl
  ·simp at h;refine Ar rfl ?_;exact Ad (YQ m true es (λh=>by cases h) (hend (by omega)) hx.2.1 hx.2.2.1 hx.2.2.2) ⟨rfl,rfl,trivial⟩ ⟨rfl,rfl,trivial⟩ rfl
def JF (s n:Int) (x:Str) (k:Int):Bool :=
 if s=1 then decide (-1000000000<=n)&&decide (n<=1000000000)&&(x == [])&&(k == 0)
 else if s=2 then (n == 0||n == 1)&&(x == [])&&(k == 0)
 else if s=3\/s=5 then n == 0&&x == []&&k == 0
 else if s=4 then n == 0&&CM x&&decide (k<=3)
 else false
theorem ZB (v:Ty) (k:Int):Al Tryz.prog 179 [.agg (Bh v),.int .i64 k] (.bool (match v with | .mk s n x _=>JF s n x k)):=by
 obtain ⟨s,n,x,ps⟩:=v;refine Ae A5 Tryz.func179 (by decide +kernel) rfl [1,2,3] rfl rfl ?_;simp only [JF,Bh];refine bg [] rfl (by simp) ?_;by_cases h1:s=1
 ·subst h1;refine Aa rfl (λh=>?_) (λh=>by simp at h);refine bd [] rfl (by simp [Ag]) ?_;refine Ab ⟨_,rfl,tV (congrArg _ ?_),trivial⟩;simp [Bool.and_assoc]
 rw [if_neg h1];refine Aa rfl (λh=>absurd (by simpa using h) h1) (λh=>?_);clear h;refine bd [] rfl (by simp) ?_;by_cases h2:s=2
 ·subst h2;refine Aa rfl (λh=>?_) (λh=>by simp at h);refine bd [] rfl (by simp [Ag]) ?_;refine Ab ⟨_,rfl,tV (congrArg _ ?_),trivial⟩;simp [Bool.and_assoc]
 rw [if_neg h2];refine Aa rfl (λh=>absurd (by simpa using h) h2) (λh=>?_);clear h;refine bd [] rfl (by simp) ?_;by_cases h3:s=3
 ·subst h3;refine Aa rfl (λh=>?_) (λh=>by simp at h);refine bd [] rfl (by simp) ?_;refine Aa rfl (λh=>?_) (λh=>by simp at h);refine bd [] rfl (by simp [Ag]) ?_;refine Ab ⟨_,rfl,tV (congrArg _ ?_),trivial⟩;simp [Bool.and_assoc]
 refine Aa rfl (λh=>absurd (by simpa using h) h3) (λh=>?_);clear h;refine bd [] rfl (by simp) ?_;by_cases h5:s=5
 ·subst h5;refine Aa rfl (λh=>?_) (λh=>by simp at h);refine bd [] rfl (by simp [Ag]) ?_;refine Ab ⟨_,rfl,tV (congrArg _ ?_),trivial⟩;simp [Bool.and_assoc]
 rw [if_neg (by simp [h3,h5])];refine Aa rfl (λh=>absurd (by simpa using h) h5) (λh=>?_);clear h;refine bd [] rfl (by simp) ?_;by_cases h4:s=4
 ·subst h4;refine Aa rfl (λh=>?_) (λh=>by simp at h);refine bd [] rfl (by simp) ?_;refine Ac rfl (λ_=>Dp x) (by simp [Ag]) ?_;refine bg [] rfl (by simp [Ag]) ?_;refine Ab ⟨_,rfl,tV (congrArg _ ?_),trivial⟩;simp [Bool.and_assoc]
 rw [if_neg h4];refine Aa rfl (λh=>absurd (by simpa using h) h4) (λh=>?_);clear h;refine bd [] rfl (by simp) ?_;exact Ab ⟨_,rfl,tV rfl,trivial⟩
theorem mR (g:FuncId) (q:List V->Bool) (es:List (List V)) (hes:∀e∈es,e.length=4) (hlen:es.length<=9223372036854775807)
  (hq:∀e∈es,Al Tryz.prog g [.agg e] (.bool (q e))) :
  Al Tryz.prog 90 [.sl es,.fn (.func g)] (.int .i64 (Ex q es 0)):=by
 refine Ae A5 Tryz.func90 (by decide +kernel) rfl [2,3,4] rfl rfl ?_;refine bg [] rfl (by simp) ?_;refine Aj (λi:Nat=>[(8,.imm (.int .i64 i)),(7,.imm (.int .i64 es.length)),(0,.imm (.sl es)),(1,.imm (.fn (.func g)))]) (λ_=>[]) [2,3,4] (λi=>es.length-i)
  (λi=>i<=es.length/\Ex q es 0=Ex q (es.drop i) i) 0 ⟨Nat.zero_le _,rfl⟩ ⟨rfl,As (by simp),rfl,rfl,trivial⟩ trivial rfl λi hi ih=>?_
 refine bd [] rfl (by simp) ?_;have hi2:=hi.2;refine Aa rfl (λh=>?_) (λh=>?_)
 ·simp at h;obtain ⟨e,he⟩:=Am h;have hm:=List.mem_of_getElem? he;rw [Ao he] at hi2;refine bd [] rfl (by simp) ?_;refine bi rfl (c:=e) (λ_=>⟨by simp,by simpa using he,hes e hm⟩) (by simp) ?_;refine bg [] rfl (by simp [hes e hm]) ?_;refine Ac rfl (λ_=>hq e hm) (by simp) ?_;refine bg [] rfl (by simp) ?_;refine Aa rfl (λh=>?_) (λh=>?_)
  ·refine bd [] rfl (by simp) ?_;exact Ab ⟨_,rfl,tV (congrArg _ (by rw [hi2];simp [Ex,h])),trivial⟩
  ·refine bd [] rfl (by simp) ?_;exact Ad (ih (i+1) (by omega) ⟨by omega,by rw [hi2];simp [Ex,h]⟩) ⟨As (B9 (by omega) (by omega)),rfl,rfl,rfl,trivial⟩ trivial rfl
 ·refine bd [] rfl (by simp) ?_;simp at h;refine Ab ⟨_,rfl,tV (congrArg _ ?_),trivial⟩;rw [hi2,List.drop_eq_nil_of_le (by omega)];rfl
theorem aW (g:FuncId) (q:List V->Bool) (es:List (List V)) (hes:∀e∈es,e.length=4) (hlen:es.length<=9223372036854775807)
  (hq:∀e∈es,Al Tryz.prog g [.agg e] (.bool (q e))) :
  Al Tryz.prog 180 [.sl es,.fn (.func g)] (.bool (es.any q)):=by
 refine Ae A5 Tryz.func180 (by decide +kernel) rfl [2,3,4] rfl rfl ?_;refine bg [] rfl (by simp) ?_;refine Ac rfl (λ_=>mR g q es hes hlen hq) (by simp) ?_;refine bg [] rfl (by simp) ?_;refine Ab ⟨_,rfl,tV (congrArg _ ?_),trivial⟩;rw [Bool.eq_iff_iff,<- HY q es 0];simp
mutual
def Mf:Ty->Bool
 | .mk s n x ps=>JF s n x ps.length&&SZ ps
def SZ:List Ty->Bool
 | []=>true
 | t::r=>Mf t&&SZ r
end
theorem Wr:∀l:List Ty,SZ l=l.all Mf
 | []=>rfl
 | t::r=>by simp [SZ,Wr r]
theorem gW (v:Ty) (h:Al Tryz.prog 137 [.agg (dTyc v)] (.bool (Mf v))):Al Tryz.prog 181 [.agg (dTyc v)] (.bool (!Mf v)):=by
 obtain ⟨s,n,x,ps⟩:=v;generalize Mf (.mk s n x ps)=b at *;refine Ae A5 Tryz.func181 (by decide +kernel) rfl [1,2,3] rfl rfl ?_;refine bg [] rfl (by simp) ?_;refine Ac rfl (λ_=>h) (by simp) ?_;refine bg [] rfl (by simp) ?_;exact Ab ⟨_,rfl,tV rfl,trivial⟩
theorem YV:∀v:Ty,Al Tryz.prog 137 [.agg (dTyc v)] (.bool (Mf v))
 | .mk s n x ps=>by
  have hP:=ZB (.mk s n x ps) ps.length;simp only at hP;have hO:=Yx (.mk s n x ps);refine AI λhv=>?_;simp [Cf,Ey,dTyc,maxLen] at hv;have hC:=aW 181 (qOf dTyc (λv=>!Mf v)) (AT ps) (λe he=>by rw [Cl] at he;obtain ⟨t,_,rfl⟩:=List.mem_map.1 he;simp) (by simpa using hv.1)
   (λe he=>by
    rw [Cl] at he;obtain ⟨t,ht,rfl⟩:=List.mem_map.1 he;rw [IZ GR];exact gW t (YV t))
  refine Ae A5 Tryz.func137 (by decide +kernel) rfl [1,2,3] rfl rfl ?_;refine bg [] rfl (by simp) ?_;refine Ac rfl (λ_=>hO) (by simp) ?_;refine bg [] rfl (by simp) ?_;refine Ac rfl (v:=.bool (JF s n x ps.length)) (λ_=>by simpa using hP) (by simp) ?_;refine bg [] rfl (by simp) ?_;refine Ac rfl (λ_=>hC) (by simp [Ag]) ?_;refine bg [] rfl (by simp [Ag];rfl) ?_;refine Ab ⟨_,rfl,tV (congrArg _ ?_),trivial⟩;rw [Cl,List.any_map,show (qOf dTyc (λv=>!Mf v) ∘ dTyc)=(λv=>!Mf v) from funext λv=>IZ GR _ v];simp [Mf,Wr,List.all_eq_not_any_not]
termination_by v=>SizeOf.sizeOf v
decreasing_by
 have:=List.sizeOf_lt_of_mem ht;simp_wf;omega
theorem X6 (v:Ty):Al Tryz.prog 88 [.agg (dTyc v)] (.bool (decide (0<=BF v 20000 100)&&Mf v)):=by
 have hW:=Pb v 20000 100 (by decide) (by decide) (by decide) (by decide);have hA:=YV v;obtain ⟨s,n,x,ps⟩:=v;refine Ae A5 Tryz.func88 (by decide +kernel) rfl [1,2,3] rfl rfl ?_;refine bg [] rfl (by simp) ?_;refine Ac rfl (λ_=>hW) (by simp) ?_;refine bg [] rfl (by simp) ?_;refine Ac rfl (λ_=>hA) (by simp [Ag]) ?_;refine bg [] rfl (by simp [Ag]) ?_;refine Ab ⟨_,rfl,tV (congrArg _ ?_),trivial⟩;simp
theorem Js {l:List Str} {s:Str}:FN l s=true↔s∈l:=by
 induction l with
 | nil=>simp [FN]
 | cons x r ih=>simp only [FN,Bool.or_eq_true,beq_iff_eq,ih,List.mem_cons];exact ⟨λh=>h.imp Eq.symm id,λh=>h.imp Eq.symm id⟩
theorem TG {l:List Str}:∀{pre:List Str},AP pre l=true↔l.Nodup/\∀s∈l,s∉pre:=by
 induction l with
 | nil=>intro pre;simp [AP]
 | cons x r ih =>
  intro pre;simp only [AP,Bool.and_eq_true,Bool.not_eq_true',ih,List.nodup_cons,List.mem_cons,List.mem_append,List.not_mem_nil,or_false];have:FN pre x=false↔x∉pre:=by rw [<- Bool.not_eq_true,Js]
  rw [this];constructor
  ·rintro ⟨h1,h2,h3⟩;exact ⟨⟨λhx=>h3 x hx (.inr rfl),h2⟩,λs hs=>hs.elim (λe=>e ▸ h1) λh hp=>h3 s h (.inl hp)⟩
  ·rintro ⟨⟨h1,h2⟩,h3⟩;exact ⟨h3 x (.inl rfl),h2,λs hs hp=>hp.elim (h3 s (.inr hs)) λe=>h1 (e ▸ hs)⟩
theorem Od {l:List Str}:Bm l=true↔l.Nodup:=by
 unfold Bm;rw [TG];simp
def Ev (l:List (Str×V)):List (V×V):=l.map λp=>(.str p.1,p.2)
def Kl (m:List (V×V)) (p:Str×V):List (V×V):=Ew m (.str p.1) p.2
def WY (l:List (Str×V)):List (V×V):=l.foldl Kl []
def Fy (m:List (V×V)):Prop:=∀p∈m,I3 .str p.1=true
theorem Ej (l:List (Str×V)):Fy (Ev l):=by
 intro p hp;obtain ⟨q,_,rfl⟩:=List.mem_map.1 hp;rfl
theorem RQ {m:List (V×V)} (h:Fy m) (s:Str) (v:V):Fy (Ew m (.str s) v):=by
 induction m with
 | nil=>intro p hp;simp only [Ew,List.mem_singleton] at hp;subst hp;rfl
 | cons a r ih =>
  obtain ⟨k,e⟩:=a;have h1:Fy r:=λp hp=>h p (by simp [hp]);simp only [Ew]
  split
  ·intro p hp;rcases List.mem_cons.1 hp with rfl | hp
   ·rfl
   ·exact h1 p hp
  ·intro p hp;rcases List.mem_cons.1 hp with rfl | hp
   ·exact h _ (by simp)
   ·exact ih h1 p hp
theorem WX (l:List (Str×V)):∀m,Fy m->Fy (l.foldl Kl m):=by
 induction l with
 | nil=>intro m h;exact h
 | cons p r ih=>intro m h;exact ih _ (RQ h _ _)
theorem Vc (l:List (Str×V)):Fy (WY l):=WX l [] λp hp=>by cases hp
theorem dB {m:List (V×V)} (s:Str) (v:V):(Co m (.str s)=none->(Ew m (.str s) v).length=m.length+1)/\(Co m (.str s)≠none->(Ew m (.str s) v).length=m.length):=by
 induction m with
 | nil=>simp [Co,Ew]
 | cons a r ih =>
  obtain ⟨k,e⟩:=a;simp only [Co,Ew];cases h:VH (.str s) k
  ·simpa using ih
  ·simp
theorem Zs {m:List (V×V)} (s t:Str) (v:V) (hk:Fy m):(Co (Ew m (.str s) v) (.str t)=none)↔(Co m (.str t)=none/\s≠t):=by
 induction m with
 | nil =>
  simp only [Ew,Co,VH,beq_iff_eq];by_cases e:t=s
  ·subst e;simp
  ·have e':¬s=t:=λh=>e h.symm;simp [e,e']
 | cons a r ih =>
  obtain ⟨k,e⟩:=a;have h1:Fy r:=λp hp=>hk p (by simp [hp]);have h0:=hk (k,e) (by simp);cases k with
  | str x =>
   simp only [Ew,Co,VH];by_cases hx:s=x
   ·subst hx;simp only [beq_self_eq_true,if_true,Co,VH];by_cases ht:t=s
    ·simp [ht]
    ·simp only [beq_iff_eq,ht,if_false];exact ⟨λh=>⟨h,λe=>ht e.symm⟩,λh=>h.1⟩
   ·simp only [beq_iff_eq,hx,if_false,Co,VH];by_cases ht:t=x
    ·simp [ht]
    ·simp only [ht,if_false];exact ih h1
  | _=>simp [I3] at h0
theorem eU:∀(l:List (Str×V)) (pre:List Str) (m:List (V×V)),Fy m->(∀s,Co m (.str s)=none↔s∉pre)->m.length<=pre.length ->
  (l.foldl Kl m).length<=pre.length+l.length/\(AP pre (l.map (·.1))=false\/m.length<pre.length->(l.foldl Kl m).length<pre.length+l.length)/\(AP pre (l.map (·.1))=true->m.length=pre.length->(l.foldl Kl m).length=pre.length+l.length)
 | [],pre,m,hk,h,hl=>by
  simp only [List.foldl_nil,List.length_nil,List.map_nil,AP];exact ⟨by omega,λh=>by rcases h with h | h;exact absurd h (by simp);omega,λ_ h=>by omega⟩
 | p::r,pre,m,hk,h,hl=>by
  have hL:=dB (m:=m) p.1 p.2;have hm:(Kl m p).length<=(pre++[p.1]).length:=by
   simp only [Kl,List.length_append,List.length_singleton];by_cases hn:Co m (.str p.1)=none
   ·rw [hL.1 hn];omega
   ·rw [hL.2 hn];omega
  have hs:∀s,Co (Kl m p) (.str s)=none↔s∉pre++[p.1]:=λs=>by
   simp only [Kl,Zs _ _ _ hk,h s,List.mem_append,List.mem_singleton,not_or];exact ⟨λ⟨a,b⟩=>⟨a,λe=>b e.symm⟩,λ⟨a,b⟩=>⟨a,λe=>b e.symm⟩⟩
  have ih:=eU r (pre++[p.1]) (Kl m p) (RQ hk _ _) hs hm;simp only [List.length_append,List.length_singleton] at ih;simp only [List.foldl_cons,List.length_cons,List.map_cons,AP];obtain ⟨i1,i2,i3⟩:=ih;refine ⟨by omega,λhc=>?_,λhd he=>?_⟩
  ·by_cases hp:FN pre p.1=true
   ·have hn:Co m (.str p.1)≠none:=λhn=>(h p.1).1 hn (Js.1 hp);have:(Kl m p).length=m.length:=hL.2 hn;have:=i2 (.inr (by omega));omega
   ·have hp:FN pre p.1=false:=by simpa using hp
    rcases hc with hc | hc
    ·rw [hp] at hc;have:=i2 (.inl (by simpa using hc));omega
    ·have hn:Co m (.str p.1)=none:=(h p.1).2 λhm=>by rw [Js.2 hm] at hp;cases hp
     have:(Kl m p).length=m.length+1:=hL.1 hn;have:=i2 (.inr (by omega));omega
  ·simp only [Bool.and_eq_true,Bool.not_eq_true'] at hd;have hn:Co m (.str p.1)=none:=(h p.1).2 λhm=>by rw [Js.2 hm] at hd;exact absurd hd.1 (by simp)
   have:(Kl m p).length=m.length+1:=hL.1 hn;have:=i3 hd.2 (by omega);omega
theorem Y3 (l:List (Str×V)):(WY l).length<=l.length/\(decide ((WY l).length<l.length) = !Bm (l.map (·.1))):=by
 obtain ⟨h1,h2,h3⟩:=eU l [] [] (λp hp=>by cases hp) (λs=>by simp [Co]) (Nat.le_refl _);have h0:([]:List Str).length=0:=rfl;refine ⟨by unfold WY;omega,?_⟩;unfold Bm;cases hd:AP [] (l.map (·.1)) with
 | true=>have:=h3 hd rfl;unfold WY;simp;omega
 | false=>have:=h2 (.inl hd);unfold WY;simp;omega
theorem dA (l:List (Str×V)) (s:Str) (v:V) (h:s∉l.map (·.1)):Ew (Ev l) (.str s) v=Ev (l++[(s,v)]):=by
 induction l with
 | nil=>rfl
 | cons a r ih =>
  simp only [List.map_cons,List.mem_cons,not_or] at h;simp only [Ev,List.map_cons,Ew,VH,List.cons_append,beq_iff_eq,h.1,if_false] at ih ⊢;rw [ih h.2]
theorem L0:∀(l pre:List (Str×V)),AP (pre.map (·.1)) (l.map (·.1))=true->l.foldl Kl (Ev pre)=Ev (pre++l)
 | [],pre,_=>by simp
 | p::r,pre,h=>by
  simp only [List.map_cons,AP,Bool.and_eq_true,Bool.not_eq_true'] at h;have hn:p.1∉pre.map (·.1):=λhm=>by rw [Js.2 hm] at h;exact absurd h.1 (by simp)
  have:=L0 r (pre++[p]) (by simpa using h.2);simp only [List.foldl_cons,Kl,dA pre p.1 p.2 hn] at this ⊢;rw [this];simp
theorem PX (l:List (Str×V)) (h:Bm (l.map (·.1))=true):WY l=Ev l:=by
 have:=L0 l [] h;simpa [WY,Ev] using this
def C1:Nat->List Dt->List (Str×V)
 | _,[]=>[]
 | i,d::r=>(d.name,.int .i64 i)::C1 (i+1) r
def D6 (i:Nat):Nat->List Cd->List (Str×V)
 | _,[]=>[]
 | k,c::r=>(c.name,.agg [.int .i64 i,.int .i64 k])::D6 i (k+1) r
def Du:Nat->List Dt->List (Str×V)
 | _,[]=>[]
 | i,d::r=>D6 i 0 d.cons++Du (i+1) r
theorem Gh:∀(i:Nat) (ds:List Dt),(C1 i ds).map (·.1)=C0 ds
 | _,[]=>rfl
 | i,d::r=>by simp [C1,C0];exact Gh (i+1) r
theorem LW (i:Nat):∀(k:Nat) (cs:List Cd),(D6 i k cs).map (·.1)=cs.map Cd.name
 | _,[]=>rfl
 | k,c::r=>by simp [D6];exact LW i (k+1) r
theorem Hy:∀(i:Nat) (ds:List Dt),(Du i ds).map (·.1)=BT ds
 | _,[]=>rfl
 | i,d::r=>by simp only [Du,List.map_append,LW,Hy (i+1) r];simp [BT]
theorem Kx:∀(i:Nat) (a b:List Dt),C1 i (a++b)=C1 i a++C1 (i+a.length) b
 | _,[],_=>rfl
 | i,d::r,b=>by simp only [List.cons_append,C1,List.length_cons,Kx (i+1) r b];rw [Nat.add_assoc,Nat.add_comm 1]
theorem Ky (i:Nat):∀(k:Nat) (a b:List Cd),D6 i k (a++b)=D6 i k a++D6 i (k+a.length) b
 | _,[],_=>rfl
 | k,d::r,b=>by simp only [List.cons_append,D6,List.length_cons,Ky i (k+1) r b];rw [Nat.add_assoc,Nat.add_comm 1]
theorem LV:∀(i:Nat) (a b:List Dt),Du i (a++b)=Du i a++Du (i+a.length) b
 | _,[],_=>rfl
 | i,d::r,b=>by simp only [List.cons_append,Du,List.length_cons,LV (i+1) r b,List.append_assoc];rw [Nat.add_assoc,Nat.add_comm 1]
theorem KP (s:Str):∀(ds:List Dt) (i:Nat),Co (Ev (C1 i ds)) (.str s)=if 0<=AR s i ds then some (.int .i64 (AR s i ds)) else none
 | [],i=>by simp [C1,Ev,Co,AR]
 | d::r,i=>by
  simp only [C1,Ev,List.map_cons,Co,VH,beq_iff_eq];by_cases h:s=d.name
  ·have:AR s i (d::r)=i:=by simp [AR,h]
   rw [this,if_pos h];simp
  ·have:AR s i (d::r)=AR s (i+1) r:=by simp only [AR];rw [if_neg (λe=>h e.symm)]
   rw [if_neg h,this];exact KP s r (i+1)
def FH (s:Str):Nat->List Dt->Option (Nat×Int)
 | _,[]=>none
 | i,d::r=>if 0<=(CP s 0 d.cons).2 then some (i,(CP s 0 d.cons).2) else FH s (i+1) r
theorem QI (s:Str) (i:Nat) (rest:List (Str×V)):∀(cs:List Cd) (k:Nat),Co (Ev (D6 i k cs++rest)) (.str s)=if 0<=(CP s k cs).2 then some (.agg [.int .i64 i,.int .i64 (CP s k cs).2]) else Co (Ev rest) (.str s)
 | [],k=>by simp [D6,CP]
 | c::r,k=>by
  simp only [D6,Ev,List.cons_append,List.map_cons,Co,VH,beq_iff_eq];by_cases h:s=c.name
  ·have:(CP s k (c::r)).2=k:=by simp [CP,h]
   rw [this,if_pos h];simp
  ·have:CP s k (c::r)=CP s (k+1) r:=by simp only [CP];rw [if_neg (λe=>h e.symm)]
   rw [if_neg h,this];exact QI s i rest r (k+1)
theorem MZ (s:Str):∀(ds:List Dt) (i:Nat),Co (Ev (Du i ds)) (.str s)=(match FH s i ds with | some (a,b)=>some (.agg [.int .i64 a,.int .i64 b]) | none=>none)
 | [],i=>by simp [Du,Ev,Co,FH]
 | d::r,i=>by
  simp only [Du,FH,QI]
  split
  ·rfl
  ·exact MZ s r (i+1)
theorem Wa {s:Str}:∀{l:List Cd} {i:Nat},0<=(CP s i l).2->∃k,(CP s i l).2=((i+k:Nat):Int)/\l[k]?=some (CP s i l).1
 | [],i,h=>by simp [CP] at h
 | c::r,i,h=>by
  simp only [CP] at h ⊢;by_cases e:c.name=s
  ·rw [if_pos e];exact ⟨0,by simp,by simp⟩
  ·rw [if_neg e] at h ⊢;obtain ⟨k,h1,h2⟩:=Wa (l:=r) h;exact ⟨k+1,by rw [h1];omega,by simpa using h2⟩
theorem KK {s:Str}:∀{ds:List Dt} {i a:Nat} {b:Int},FH s i ds=some (a,b)->∃k d,a=i+k/\ds[k]?=some d/\(CP s 0 d.cons).2=b/\0<=b
 | [],i,a,b,h=>by simp [FH] at h
 | d::r,i,a,b,h=>by
  simp only [FH] at h
  split at h
  ·rename_i h0;cases h;exact ⟨0,d,rfl,rfl,rfl,h0⟩
  ·obtain ⟨k,e,h1,h2,h3⟩:=KK h;exact ⟨k+1,e,by omega,by simpa using h2,h3⟩
theorem Q5 {s:Str}:∀{ds:List Dt} {i:Nat},FH s i ds=none->∀d∈ds,¬0<=(CP s 0 d.cons).2
 | [],i,_,d,hd=>by cases hd
 | e::r,i,h,d,hd=>by
  simp only [FH] at h
  split at h
  ·cases h
  ·rename_i h0;rcases List.mem_cons.1 hd with rfl | hd
   ·exact h0
   ·exact Q5 h d hd
theorem SU {ds:List Dt} {d:Dt} {c:Cd} (hd:d∈ds) (hc:c∈d.cons):c.name∈BT ds:=by
 simp only [BT,List.mem_flatMap];exact ⟨d,hd,List.mem_map.2 ⟨c,hc,rfl⟩⟩
theorem QG:∀{ds:List Dt} {i j:Nat} {d e:Dt} {c c':Cd},(BT ds).Nodup->ds[i]?=some d->ds[j]?=some e->c∈d.cons->c'∈e.cons->c.name=c'.name->i=j
 | [],i,j,d,e,c,c',_,h,_,_,_,_=>by simp at h
 | x::r,i,j,d,e,c,c',hn,hi,hj,hc,hc',hs=>by
  have hn':(x.cons.map Cd.name++BT r).Nodup:=by simpa [BT] using hn
  obtain ⟨n1,n2,n3⟩:=List.nodup_append.1 hn';cases i with
  | zero =>
   simp at hi;subst hi;cases j with
   | zero=>rfl
   | succ j=>exact absurd hs (n3 _ (List.mem_map.2 ⟨c,hc,rfl⟩) _ (SU (List.mem_of_getElem? (by simpa using hj)) hc'))
  | succ i =>
   cases j with
   | zero =>
    simp at hj;subst hj;exact absurd hs.symm (n3 _ (List.mem_map.2 ⟨c',hc',rfl⟩) _ (SU (List.mem_of_getElem? (by simpa using hi)) hc))
   | succ j=>exact congrArg (· + 1) (QG n2 (by simpa using hi) (by simpa using hj) hc hc' hs)
theorem VA {ds:List Dt} (hn:Bm (BT ds)=true) {n:Int} {x s:Str} {ps:List Ty} (hp:0<=AR x 0 ds) :
  (match FH s 0 ds with | some (a,b)=>(decide ((a:Int)=AR x 0 ds)=decide (0<=(B4 ds (.mk 8 n x ps) s).2))/\((a:Int)=AR x 0 ds->∃d,ds[a]?=some d/\0<=b/\d.cons[b.toNat]?=some (B4 ds (.mk 8 n x ps) s).1)/\a<ds.length | none=>(B4 ds (.mk 8 n x ps) s).2<0):=by
 have hn:=Od.1 hn;obtain ⟨k,d,h1,h2,h3⟩:=Im x ds 0 hp;have hcD:B4 ds (.mk 8 n x ps) s=CP s 0 d.cons:=by simp [B4,h1,h2]
 rw [hcD];cases hf:FH s 0 ds with
 | none =>
  have:=Q5 hf d (List.mem_of_getElem? h2);simp only;omega
 | some p =>
  obtain ⟨a,b⟩:=p;obtain ⟨k',e,q1,q2,q3,q4⟩:=KK hf;simp only [Nat.zero_add] at q1;subst q1;have hget:=Wa (s:=s) (l:=e.cons) (i:=0) (by omega);obtain ⟨j,j1,j2⟩:=hget;have hlt:a<ds.length:=(List.getElem?_eq_some_iff.1 q2).1;refine ⟨?_,λha=>?_,hlt⟩
  ·rw [h1];by_cases hc:0<=(CP s 0 d.cons).2
   ·have m1:=GS (s:=s) (l:=d.cons) (i:=0) hc;have m2:=GS (s:=s) (l:=e.cons) (i:=0) (by omega);have:=QG hn q2 h2 m2.1 m1.1 (m2.2.trans m1.2.symm);subst this;simp [hc]
   ·have:a≠k:=λhe=>by
     subst he;rw [h2] at q2;cases q2;exact hc (by omega)
    simp [hc];omega
  ·have hak:a=k:=by omega
   subst hak;rw [h2] at q2;cases q2;refine ⟨d,h2,q4,?_⟩;rw [<- q3,j1];simpa using j2
def bP (c:Cse) (sz:List (List V)):List V:=dCse c++[.mapv (Ev (C1 0 c.datas)),.mapv (Ev (Du 0 c.datas)),.sl sz]
def AM (c:Cse) (sz:List (List V)):V:=.ip 181 (bP c sz) 0
mutual
def DM (q:Ty->Bool):Ty->Bool
 | .mk s n x ps=>q (.mk s n x ps)&&DY q ps
def DY (q:Ty->Bool):List Ty->Bool
 | []=>true
 | t::r=>DM q t&&DY q r
end
theorem RF (f:FuncId) (a b:List V) (q:Ty->Bool) (hq:∀t,Al Tryz.prog f (a++[.agg (dTyc t)]++b) (.bool (q t))):∀t:Ty,Al Tryz.prog 103 [.agg (dTyc t),.clo (.func f) a b] (.bool (DM q t))
 | .mk s n x ps=>by
  refine AI λhv=>?_;simp [Cf,Ey,dTyc,maxLen] at hv;simp only [DM];have hq0:=hq (.mk s n x ps);generalize q (.mk s n x ps)=c at *;refine Ae A5 Tryz.func103 (by decide +kernel) rfl [2,3,4,5] rfl rfl ?_;refine bg [] rfl (by simp) ?_;refine OP rfl (λ_=>hq0) (by simp) ?_;refine bg [] rfl (by simp) ?_;cases c with
  | false =>
   refine Aa rfl (λh=>?_) (λh=>by simp at h);refine bd [] rfl (by simp) ?_;exact Ab ⟨_,rfl,tV rfl,trivial⟩
  | true =>
  refine Aa rfl (λh=>by simp at h) (λh=>?_);clear h;refine bd [] rfl (by simp) ?_;rw [Bool.true_and];refine Aj (λi:Nat=>[(14,.imm (.int .i64 i)),(13,.imm (.int .i64 ps.length)),(12,.imm (.sl (AT ps))),(1,.imm (.clo (.func f) a b))]) (λ_=>[]) [2,3,4,5] (λi=>ps.length-i)
   (λi=>i<=ps.length/\DY q ps=DY q (ps.drop i)) 0 ⟨Nat.zero_le _,rfl⟩ ⟨rfl,As (by simp),rfl,rfl,trivial⟩ trivial rfl λi hi ih=>?_
  obtain ⟨hi1,hi2⟩:=hi;refine bd [] rfl (by simp) ?_;refine Aa rfl (λh=>?_) (λh=>?_)
  ·simp at h;obtain ⟨t,ht⟩:=Am h;rw [Ao ht] at hi2;simp only [DY] at hi2;refine bd [] rfl (by simp) ?_;refine bi rfl (c:=dTyc t) (λ_=>⟨by simp,by simpa using Ax ht,by simp⟩) (by simp) ?_;refine bg [] rfl (by simp) ?_;refine Ac rfl (λ_=>RF f a b q hq t) (by simp) ?_;refine bg [] rfl (by simp) ?_;refine Aa rfl (λh=>?_) (λh=>?_)
   ·refine bd [] rfl (by simp) ?_;refine Ab ⟨_,rfl,tV (congrArg _ ?_),trivial⟩;simp at h;simp [hi2,h]
   ·refine bd [] rfl (by simp) ?_;simp at h;exact Ad (ih (i+1) (by omega) ⟨by omega,by rw [hi2];simp [h]⟩) ⟨As (B9 (by omega) (by omega)),rfl,rfl,rfl,trivial⟩ trivial rfl
  ·simp at h;refine Ar rfl ?_;refine bd [] rfl (by simp) ?_;rw [hi2,List.drop_eq_nil_of_le (by omega)];exact Ab ⟨_,rfl,tV rfl,trivial⟩
termination_by t=>SizeOf.sizeOf t
decreasing_by
 have:=List.sizeOf_lt_of_mem (List.mem_of_getElem? ht);simp_wf;omega
theorem Ph (f:FuncId) (q:Ty->Bool) (hq:∀t,Al Tryz.prog f [.agg (dTyc t)] (.bool (q t))):∀t:Ty,Al Tryz.prog 103 [.agg (dTyc t),.fn (.func f)] (.bool (DM q t))
 | .mk s n x ps=>by
  refine AI λhv=>?_;simp [Cf,Ey,dTyc,maxLen] at hv;simp only [DM];have hq0:=hq (.mk s n x ps);generalize q (.mk s n x ps)=c at *;refine Ae A5 Tryz.func103 (by decide +kernel) rfl [2,3,4,5] rfl rfl ?_;refine bg [] rfl (by simp) ?_;refine Ac rfl (λ_=>hq0) (by simp) ?_;refine bg [] rfl (by simp) ?_;cases c with
  | false =>
   refine Aa rfl (λh=>?_) (λh=>by simp at h);refine bd [] rfl (by simp) ?_;exact Ab ⟨_,rfl,tV rfl,trivial⟩
  | true =>
  refine Aa rfl (λh=>by simp at h) (λh=>?_);clear h;refine bd [] rfl (by simp) ?_;rw [Bool.true_and];refine Aj (λi:Nat=>[(14,.imm (.int .i64 i)),(13,.imm (.int .i64 ps.length)),(12,.imm (.sl (AT ps))),(1,.imm (.fn (.func f)))]) (λ_=>[]) [2,3,4,5] (λi=>ps.length-i)
   (λi=>i<=ps.length/\DY q ps=DY q (ps.drop i)) 0 ⟨Nat.zero_le _,rfl⟩ ⟨rfl,As (by simp),rfl,rfl,trivial⟩ trivial rfl λi hi ih=>?_
  obtain ⟨hi1,hi2⟩:=hi;refine bd [] rfl (by simp) ?_;refine Aa rfl (λh=>?_) (λh=>?_)
  ·simp at h;obtain ⟨t,ht⟩:=Am h;rw [Ao ht] at hi2;simp only [DY] at hi2;refine bd [] rfl (by simp) ?_;refine bi rfl (c:=dTyc t) (λ_=>⟨by simp,by simpa using Ax ht,by simp⟩) (by simp) ?_;refine bg [] rfl (by simp) ?_;refine Ac rfl (λ_=>Ph f q hq t) (by simp) ?_;refine bg [] rfl (by simp) ?_;refine Aa rfl (λh=>?_) (λh=>?_)
   ·refine bd [] rfl (by simp) ?_;refine Ab ⟨_,rfl,tV (congrArg _ ?_),trivial⟩;simp at h;simp [hi2,h]
   ·refine bd [] rfl (by simp) ?_;simp at h;exact Ad (ih (i+1) (by omega) ⟨by omega,by rw [hi2];simp [h]⟩) ⟨As (B9 (by omega) (by omega)),rfl,rfl,rfl,trivial⟩ trivial rfl
  ·simp at h;refine Ar rfl ?_;refine bd [] rfl (by simp) ?_;rw [hi2,List.drop_eq_nil_of_le (by omega)];exact Ab ⟨_,rfl,tV rfl,trivial⟩
termination_by t=>SizeOf.sizeOf t
decreasing_by
 have:=List.sizeOf_lt_of_mem (List.mem_of_getElem? ht);simp_wf;omega
def Kk (ds:List Dt) (x:Str):Int:=if 0<=AR x 0 ds then AR x 0 ds else 0
theorem Xb (ds:List Dt) (x:Str):DK true (Ev (C1 0 ds)) (.str x) (.int .i64 0) = .imm (.tup [.int .i64 (Kk ds x),.bool (decide (0<=AR x 0 ds))]):=by
 simp only [DK,KP,Kk];by_cases h:0<=AR x 0 ds <;> simp [h]
theorem Hr (ds:List Dt) (x:Str):DK false (Ev (C1 0 ds)) (.str x) (.int .i64 0) = .imm (.int .i64 (Kk ds x)):=by
 simp only [DK,KP,Kk];by_cases h:0<=AR x 0 ds <;> simp [h]
def Cx (ds:List Dt) (s:Str):Nat×Int:=match FH s 0 ds with
 | some p=>p
 | none=>(0,0)
theorem ZJ (ds:List Dt) (s:Str):DK true (Ev (Du 0 ds)) (.str s) (.agg [.int .i64 0,.int .i64 0]) = .imm (.tup [.agg [.int .i64 (Cx ds s).1,.int .i64 (Cx ds s).2],.bool (FH s 0 ds).isSome]):=by
 simp only [DK,MZ,Cx];cases h:FH s 0 ds with
 | none=>simp
 | some p=>obtain ⟨a,b⟩:=p;simp
def MF (ds:List Dt):Ty->Bool
 | .mk s _ x _=>decide (0<=AR x 0 ds) || !(s == 8)
theorem ZF (c:Cse) (sz:List (List V)) (t:Ty):Al Tryz.prog 145 [.agg (dTyc t),.ip 102 [AM c sz] 0] (.bool (MF c.datas t)):=by
 obtain ⟨ds,⟨c1,c2,c3,c4⟩,rows⟩:=c;obtain ⟨s,n,x,ps⟩:=t;refine OC ?_;refine Ae A5 Tryz.func145 (by decide +kernel) rfl [2,3,4,5] rfl rfl ?_;refine bg [] rfl (by simp) ?_;refine FF A5 rfl rfl rfl (Ej _) (by simp [Ag]) (z:=.int .i64 0) rfl (λ_=>.int _ _) (Xb ds x) ?_;refine bg [] rfl (by simp [Ag];rfl) ?_;refine Ab ⟨_,rfl,tV (congrArg _ ?_),trivial⟩;simp [MF,bne]
mutual
theorem Ld (ds:List Dt):∀t:Ty,DM (MF ds) t=AB ds t
 | .mk s n x ps=>by
  simp only [DM,AB,Kn ds ps,MF];congr 1;by_cases h:0<=AR x 0 ds
  ·simp [h]
  ·simp [h]
theorem Kn (ds:List Dt):∀l:List Ty,DY (MF ds) l=Bd ds l
 | []=>rfl
 | t::r=>by simp only [DY,Bd,Ld ds t,Kn ds r]
end
theorem R5 (c:Cse) (sz:List (List V)) (t:Ty):Al Tryz.prog 102 [AM c sz,.agg (dTyc t)] (.bool (AB c.datas t)):=by
 rw [<- Ld];obtain ⟨s,n,x,ps⟩:=t;refine Ae A5 Tryz.func102 (by decide +kernel) rfl [2,3,4,5] rfl rfl ?_;refine bg [] rfl (by simp) ?_;refine Hv rfl (λ_=>RF 145 [] [.ip 102 [AM c sz] 0] (MF c.datas) (λt=>ZF c sz t) (.mk s n x ps)) rfl (by simp) ?_;refine bg [] rfl (by simp) ?_;exact Ab ⟨_,rfl,tV rfl,trivial⟩
theorem TZ (t:Ty):Al Tryz.prog 104 [.agg (dTyc t)] (.bool (match t with | .mk s _ _ _=>!(s == 9))):=by
 obtain ⟨s,n,x,ps⟩:=t;refine Ae A5 Tryz.func104 (by decide +kernel) rfl [2,3,4,5] rfl rfl ?_;refine bg [] rfl (by simp) ?_;refine Ab ⟨_,rfl,tV (congrArg _ ?_),trivial⟩;simp [bne]
def AK (ds:List Dt) (t:Ty) (s:Str):List Ty×Bool:=bif decide (0<=(B4 ds t s).2) then ((B4 ds t s).1.args,true) else ([],false)
set_option maxHeartbeats 1000000 in
theorem OW (c:Cse) (sz:List (List V)) (t:Ty) (s:Str) (hn:Bm (BT c.datas)=true) (ht:AB c.datas t=true) :
  Al Tryz.prog 138 [AM c sz,.agg (dTyc t),.str s] (.tup [.sl (AT (AK c.datas t s).1),.bool (AK c.datas t s).2]):=by
 obtain ⟨ds,⟨c1,c2,c3,c4⟩,rows⟩:=c;obtain ⟨so,n,x,ps⟩:=t;simp only at hn ht;refine Ae A5 Tryz.func138 (by decide +kernel) rfl [2,3,4,5] rfl rfl ?_;refine bg [] rfl (by simp) ?_;refine FF A5 rfl rfl rfl (Ej _) (by simp [Ag]) (z:=.agg #[.int .i64 0,.int .i64 0]) rfl (λ_=>.agg _ _ rfl (by decide) (λi c x h1 h2=>by match i,h1,h2 with | 0,h1,h2=>cases h1;cases h2;exact .int _ _ | 1,h1,h2=>cases h1;cases h2;exact .int _ _ | i+2,h1,h2=>simp at h2)) (ZJ ds s) ?_;refine bg [] rfl (by simp) ?_;by_cases h8:so=8
 case neg =>
  refine FF A5 rfl rfl rfl (Ej _) (by simp [Ag]) (z:=.int .i64 0) rfl (λ_=>.int _ _) (Hr ds x) ?_;refine bg [] rfl (by simp [Ag];rfl) ?_;refine Aa rfl (λh=>?_) (λh=>by simp [h8] at h);refine bd [] rfl (by simp) ?_;rw [show AK ds (.mk so n x ps) s=([],false) by simp [AK,B4,h8]];exact Ab ⟨_,rfl,tV rfl,trivial⟩
 subst h8;have hp:=(C5 ht 8 n x ps rfl rfl).1;have hf:=VA hn (n:=n) (s:=s) (ps:=ps) hp;refine FF A5 rfl rfl rfl (Ej _) (by simp [Ag]) (z:=.int .i64 0) rfl (λ_=>.int _ _) (Hr ds x) ?_;refine bg [] rfl (by simp [Ag];rfl) ?_;rw [show Kk ds x=AR x 0 ds by simp [Kk,hp]];unfold Cx;cases hfs:FH s 0 ds with
 | none =>
  rw [hfs] at hf;refine Aa rfl (λh=>?_) (λh=>by simp at h);refine bd [] rfl (by simp) ?_;have hf:¬0<=(B4 ds (.mk 8 n x ps) s).2:=by have:(B4 ds (.mk 8 n x ps) s).2<0:=hf;omega
  rw [show AK ds (.mk 8 n x ps) s=([],false) by simp [AK,hf]];exact Ab ⟨_,rfl,tV rfl,trivial⟩
 | some p =>
  obtain ⟨a,b⟩:=p;rw [hfs] at hf;obtain ⟨hf1,hf2,hf3⟩:=hf;refine Aa rfl (λh=>?_) (λh=>?_)
  ·refine bd [] rfl (by simp) ?_;have:¬0<=(B4 ds (.mk 8 n x ps) s).2:=by
    have:¬((a:Int)=AR x 0 ds):=by simp at h;exact λe=>h e.symm
    simpa [this] using hf1
   rw [show AK ds (.mk 8 n x ps) s=([],false) by simp [AK,this]];exact Ab ⟨_,rfl,tV rfl,trivial⟩
  ·have ha:(a:Int)=AR x 0 ds:=by simp at h;exact h.symm
   obtain ⟨d,hd,hb,hc⟩:=hf2 ha;have hc0:0<=(B4 ds (.mk 8 n x ps) s).2:=by simpa [ha] using hf1
   rw [show AK ds (.mk 8 n x ps) s=((B4 ds (.mk 8 n x ps) s).1.args,true) by simp [AK,hc0]];generalize (B4 ds (.mk 8 n x ps) s).1=k at *;refine bd [] rfl (by simp) ?_;refine bi rfl (c:=C7 d) (λ_=>⟨by simp,by simpa using Bp hd,by simp⟩) (by simp) ?_;obtain ⟨dn,dc⟩:=d;refine bg [] rfl (by simp) ?_;refine bi rfl (c:=Dy k) (λ_=>⟨hb,by simpa using Bp hc,by simp⟩) (by simp) ?_;obtain ⟨kn,ka⟩:=k;refine bg [] rfl (by simp;rfl) ?_;exact Ab ⟨_,rfl,tV rfl,trivial⟩
theorem BK {ds:List Dt} (ho:OkD ds) {t:Ty} {s:Str}:Bd ds (AK ds t s).1=true:=by
 unfold AK;by_cases h:0<=(B4 ds t s).2
 ·simpa [h] using IF ho h
 ·simp [h,Bd]
def JH (ds:List Dt):Ty->Ty->Bool
 | .mk so m x0 qs,.mk f _ x ps=>if f=3 then so == 1 else if f=4 then so == 2 else if f=5 then so == 3 else if f=6 then decide ((AK ds (.mk so m x0 qs) x).1.length=ps.length)&&((AK ds (.mk so m x0 qs) x).2&&Ck ds (AK ds (.mk so m x0 qs) x).1 ps) else true
theorem M8 (ds:List Dt):∀t p:Ty,Cr ds t p=JH ds t p
 | .mk so m x0 qs,.mk f k x ps=>by
  simp only [Cr,JH,AK];rw [JZ ds so 0 m x0 x [] qs];by_cases h:0<=(B4 ds (.mk so m x0 qs) x).2
  ·simp [h]
  ·simp [h]
def Kh (ds:List Dt):Ty->Ty->Bool
 | .mk so m x0 qs,.mk f _ x ps=>if so=1 then f == 1 else if so=2 then f == 2 else if so=3 then f == 3 else if so=8 then decide (f=4)&&(decide ((AK ds (.mk so m x0 qs) x).1.length=ps.length)&&((AK ds (.mk so m x0 qs) x).2&&GW ds (AK ds (.mk so m x0 qs) x).1 ps)) else f == 5
theorem H7 (ds:List Dt):∀t p:Ty,Ki ds t p=Kh ds t p
 | .mk so m x0 qs,.mk f k x ps=>by
  simp only [Ki,Kh,AK];rw [JZ ds so 0 m x0 x [] qs];by_cases h:0<=(B4 ds (.mk so m x0 qs) x).2
  ·simp [h]
  ·simp [h]
set_option maxHeartbeats 1000000 in
theorem YH (c:Cse) (sz:List (List V)) (ho:OkD c.datas) (hd:Bm (BT c.datas)=true):∀(p t:Ty),AB c.datas t=true->Al Tryz.prog 106 [AM c sz,.agg (dTyc t),.agg (dTyc p)] (.bool (Cr c.datas t p))
 | .mk f n x ps,t,hn=>by
  have hcon:=OW c sz t x hd hn;have hnm:=BK ho (t:=t) (s:=x);have hS:Cr c.datas t (.mk f n x ps)=JH c.datas t (.mk f n x ps):=M8 c.datas t (.mk f n x ps);rw [hS];obtain ⟨so,n0,x0,ps0⟩:=t;simp only [JH];generalize AK c.datas (.mk so n0 x0 ps0) x=r at *;obtain ⟨ka,kb⟩:=r;refine AI λhv=>?_;simp [Cf,Ey,dTyc,maxLen] at hv;refine Ae A5 Tryz.func106 (by decide +kernel) rfl [2,3,4,5,6,7] rfl rfl ?_;refine bg [] rfl (by simp) ?_;by_cases h3:f=3
  ·subst h3;refine Aa rfl (λh=>?_) (λh=>by simp at h);refine bd [] rfl (by simp) ?_;refine Ab ⟨_,rfl,tV (congrArg _ ?_),trivial⟩;simp
  rw [if_neg h3];refine Aa rfl (λh=>absurd (by simpa using h) h3) (λh=>?_);clear h;refine bd [] rfl (by simp) ?_;by_cases h4:f=4
  ·subst h4;refine Aa rfl (λh=>?_) (λh=>by simp at h);refine bd [] rfl (by simp) ?_;refine Ab ⟨_,rfl,tV (congrArg _ ?_),trivial⟩;simp
  rw [if_neg h4];refine Aa rfl (λh=>absurd (by simpa using h) h4) (λh=>?_);clear h;refine bd [] rfl (by simp) ?_;by_cases h5:f=5
  ·subst h5;refine Aa rfl (λh=>?_) (λh=>by simp at h);refine bd [] rfl (by simp) ?_;refine Ab ⟨_,rfl,tV (congrArg _ ?_),trivial⟩;simp
  rw [if_neg h5];refine Aa rfl (λh=>absurd (by simpa using h) h5) (λh=>?_);clear h;refine bd [] rfl (by simp) ?_;by_cases h6:f=6
  case neg =>
   rw [if_neg h6];refine Aa rfl (λh=>absurd (by simpa using h) h6) (λh=>?_);refine bd [] rfl (by simp) ?_;refine Ab ⟨_,rfl,tV (congrArg _ ?_),trivial⟩;simp
  rw [if_pos h6];refine Aa rfl (λh=>?_) (λh=>by simp [h6] at h);clear h;refine bd [] rfl (by simp) ?_;refine Ac rfl (λ_=>hcon) (by simp) ?_;refine bg [] rfl (by simp) ?_;by_cases hg:ka.length=ps.length/\kb=true
  case neg =>
   refine Aa rfl (λh=>?_) (λh=>?_)
   ·refine bd [] rfl (by simp) ?_;refine Ab ⟨_,rfl,tV (congrArg _ ?_),trivial⟩;simp;grind
   ·exfalso;simp at h;apply hg;grind
  obtain ⟨hlen,rfl⟩:=hg;refine Aa rfl (λh=>by exfalso;simp [hlen] at h) (λh=>?_);clear h;refine bd [] rfl (by simp) ?_;simp only [hlen,decide_true,Bool.true_and];refine Aj (λi:Nat=>[(51,.imm (.int .i64 i)),(50,.imm (.int .i64 ps.length)),(49,.imm (.sl (AT ps))),(0,.imm (AM c sz)),(7,.imm (.sl (AT ka)))]) (λ_=>[]) [4,5,6,7] (λi=>ps.length-i)
   (λi=>i<=ps.length/\Ck c.datas ka ps=Ck c.datas (ka.drop i) (ps.drop i)) 0 ⟨Nat.zero_le _,rfl⟩ ⟨rfl,As (by simp),rfl,rfl,rfl,trivial⟩ trivial rfl λi hi ih=>?_
  obtain ⟨hi1,hi2⟩:=hi;refine bd [] rfl (by simp) ?_;refine Aa rfl (λh=>?_) (λh=>?_)
  ·simp at h;obtain ⟨p,hp⟩:=Am h;obtain ⟨a,ha⟩:=Am (l:=ka) (i:=i) (by omega);rw [Ao hp,Ao ha] at hi2;simp only [Ck] at hi2;refine bd [] rfl (by simp) ?_;refine bi rfl (c:=dTyc p) (λ_=>⟨by simp,by simpa using Ax hp,by simp⟩) (by simp) ?_;refine bg [] rfl (by simp) ?_;refine bi rfl (c:=dTyc a) (λ_=>⟨by simp,by simpa using Ax ha,by simp⟩) (by simp) ?_;refine bg [] rfl (by simp) ?_;refine Ac rfl (λ_=>YH c sz ho hd p a (D2 hnm ha)) (by simp) ?_;refine bg [] rfl (by simp;rfl) ?_;refine Aa rfl (λh=>?_) (λh=>?_)
   ·refine bd [] rfl (by simp) ?_;refine Ab ⟨_,rfl,tV (congrArg _ ?_),trivial⟩;simp at h;simp [hi2,h]
   ·refine bd [] rfl (by simp) ?_;simp at h;exact Ad (ih (i+1) (by omega) ⟨by omega,by rw [hi2];simp [h]⟩) ⟨As (B9 (by omega) (by omega)),rfl,rfl,rfl,rfl,trivial⟩ trivial rfl
  ·simp at h;refine Ar rfl ?_;refine bd [] rfl (by simp) ?_;rw [hi2,List.drop_eq_nil_of_le (by omega),List.drop_eq_nil_of_le (by omega)];exact Ab ⟨_,rfl,tV rfl,trivial⟩
termination_by p=>SizeOf.sizeOf p
decreasing_by
 have:=List.sizeOf_lt_of_mem (List.mem_of_getElem? hp);simp_wf;omega
set_option maxHeartbeats 1000000 in
theorem lO (c:Cse) (sz:List (List V)) (ho:OkD c.datas) (hd:Bm (BT c.datas)=true):∀(p t:Ty),AB c.datas t=true->Al Tryz.prog 89 [AM c sz,.agg (dTyc t),.agg (dTyc p)] (.bool (Ki c.datas t p))
 | .mk f n x ps,t,hn=>by
  have hcon:=OW c sz t x hd hn;have hnm:=BK ho (t:=t) (s:=x);have hS:Ki c.datas t (.mk f n x ps)=Kh c.datas t (.mk f n x ps):=H7 c.datas t (.mk f n x ps);rw [hS];obtain ⟨so,n0,x0,ps0⟩:=t;simp only [Kh];generalize AK c.datas (.mk so n0 x0 ps0) x=r at *;obtain ⟨ka,kb⟩:=r;refine AI λhv=>?_;simp [Cf,Ey,dTyc,maxLen] at hv;refine Ae A5 Tryz.func89 (by decide +kernel) rfl [2,3,4,5,6,7] rfl rfl ?_;refine bg [] rfl (by simp) ?_;by_cases h1:so=1
  ·subst h1;refine Aa rfl (λh=>?_) (λh=>by simp at h);refine bd [] rfl (by simp) ?_;refine Ab ⟨_,rfl,tV (congrArg _ ?_),trivial⟩;simp
  rw [if_neg h1];refine Aa rfl (λh=>absurd (by simpa using h) h1) (λh=>?_);clear h;refine bd [] rfl (by simp) ?_;by_cases h2:so=2
  ·subst h2;refine Aa rfl (λh=>?_) (λh=>by simp at h);refine bd [] rfl (by simp) ?_;refine Ab ⟨_,rfl,tV (congrArg _ ?_),trivial⟩;simp
  rw [if_neg h2];refine Aa rfl (λh=>absurd (by simpa using h) h2) (λh=>?_);clear h;refine bd [] rfl (by simp) ?_;by_cases h3:so=3
  ·subst h3;refine Aa rfl (λh=>?_) (λh=>by simp at h);refine bd [] rfl (by simp) ?_;refine Ab ⟨_,rfl,tV (congrArg _ ?_),trivial⟩;simp
  rw [if_neg h3];refine Aa rfl (λh=>absurd (by simpa using h) h3) (λh=>?_);clear h;refine bd [] rfl (by simp) ?_;by_cases h8:so=8
  case neg =>
   rw [if_neg h8];refine Aa rfl (λh=>absurd (by simpa using h) h8) (λh=>?_);refine bd [] rfl (by simp) ?_;refine Ab ⟨_,rfl,tV (congrArg _ ?_),trivial⟩;simp
  rw [if_pos h8];refine Aa rfl (λh=>?_) (λh=>by simp [h8] at h);clear h;refine bd [] rfl (by simp) ?_;refine Ac rfl (λ_=>hcon) (by simp) ?_;refine bg [] rfl (by simp) ?_;by_cases hg:f=4/\ka.length=ps.length/\kb=true
  case neg =>
   refine Aa rfl (λh=>?_) (λh=>?_)
   ·refine bd [] rfl (by simp) ?_;refine Ab ⟨_,rfl,tV (congrArg _ ?_),trivial⟩;simp;grind
   ·exfalso;simp at h;apply hg;grind
  obtain ⟨rfl,hlen,rfl⟩:=hg;refine Aa rfl (λh=>by exfalso;simp [hlen] at h) (λh=>?_);clear h;refine bd [] rfl (by simp) ?_;simp only [hlen,decide_true,Bool.true_and];refine Aj (λi:Nat=>[(56,.imm (.int .i64 i)),(55,.imm (.int .i64 ps.length)),(54,.imm (.sl (AT ps))),(0,.imm (AM c sz)),(7,.imm (.sl (AT ka)))]) (λ_=>[]) [4,5,6,7] (λi=>ps.length-i)
   (λi=>i<=ps.length/\GW c.datas ka ps=GW c.datas (ka.drop i) (ps.drop i)) 0 ⟨Nat.zero_le _,rfl⟩ ⟨rfl,As (by simp),rfl,rfl,rfl,trivial⟩ trivial rfl λi hi ih=>?_
  obtain ⟨hi1,hi2⟩:=hi;refine bd [] rfl (by simp) ?_;refine Aa rfl (λh=>?_) (λh=>?_)
  ·simp at h;obtain ⟨p,hp⟩:=Am h;obtain ⟨a,ha⟩:=Am (l:=ka) (i:=i) (by omega);rw [Ao hp,Ao ha] at hi2;simp only [GW] at hi2;refine bd [] rfl (by simp) ?_;refine bi rfl (c:=dTyc p) (λ_=>⟨by simp,by simpa using Ax hp,by simp⟩) (by simp) ?_;refine bg [] rfl (by simp) ?_;refine bi rfl (c:=dTyc a) (λ_=>⟨by simp,by simpa using Ax ha,by simp⟩) (by simp) ?_;refine bg [] rfl (by simp) ?_;refine Ac rfl (λ_=>lO c sz ho hd p a (D2 hnm ha)) (by simp) ?_;refine bg [] rfl (by simp;rfl) ?_;refine Aa rfl (λh=>?_) (λh=>?_)
   ·refine bd [] rfl (by simp) ?_;refine Ab ⟨_,rfl,tV (congrArg _ ?_),trivial⟩;simp at h;simp [hi2,h]
   ·refine bd [] rfl (by simp) ?_;simp at h;exact Ad (ih (i+1) (by omega) ⟨by omega,by rw [hi2];simp [h]⟩) ⟨As (B9 (by omega) (by omega)),rfl,rfl,rfl,rfl,trivial⟩ trivial rfl
  ·simp at h;refine Ar rfl ?_;refine bd [] rfl (by simp) ?_;rw [hi2,List.drop_eq_nil_of_le (by omega),List.drop_eq_nil_of_le (by omega)];exact Ab ⟨_,rfl,tV rfl,trivial⟩
termination_by p=>SizeOf.sizeOf p
decreasing_by
 have:=List.sizeOf_lt_of_mem (List.mem_of_getElem? hp);simp_wf;omega
theorem Xz (g:FuncId) (a b:List V) (q:List V->Bool) (es:List (List V)) (hes:∀e∈es,e.length=4) (hlen:es.length<=9223372036854775807)
  (hq:∀e∈es,Al Tryz.prog g (a++[.agg e]++b) (.bool (q e))) :
  Al Tryz.prog 185 [.sl es,.clo (.func g) a b] (.int .i64 (Ex q es 0)):=by
 refine Ae A5 Tryz.func185 (by decide +kernel) rfl [2,3,4] rfl rfl ?_;refine bg [] rfl (by simp) ?_;refine Aj (λi:Nat=>[(8,.imm (.int .i64 i)),(7,.imm (.int .i64 es.length)),(0,.imm (.sl es)),(1,.imm (.clo (.func g) a b))]) (λ_=>[]) [2,3,4] (λi=>es.length-i)
  (λi=>i<=es.length/\Ex q es 0=Ex q (es.drop i) i) 0 ⟨Nat.zero_le _,rfl⟩ ⟨rfl,As (by simp),rfl,rfl,trivial⟩ trivial rfl λi hi ih=>?_
 refine bd [] rfl (by simp) ?_;have hi2:=hi.2;refine Aa rfl (λh=>?_) (λh=>?_)
 ·simp at h;obtain ⟨e,he⟩:=Am h;have hm:=List.mem_of_getElem? he;rw [Ao he] at hi2;refine bd [] rfl (by simp) ?_;refine bi rfl (c:=e) (λ_=>⟨by simp,by simpa using he,hes e hm⟩) (by simp) ?_;refine bg [] rfl (by simp [hes e hm]) ?_;refine OP rfl (λ_=>hq e hm) (by simp) ?_;refine bg [] rfl (by simp) ?_;refine Aa rfl (λh=>?_) (λh=>?_)
  ·refine bd [] rfl (by simp) ?_;exact Ab ⟨_,rfl,tV (congrArg _ (by rw [hi2];simp [Ex,h])),trivial⟩
  ·refine bd [] rfl (by simp) ?_;exact Ad (ih (i+1) (by omega) ⟨by omega,by rw [hi2];simp [Ex,h]⟩) ⟨As (B9 (by omega) (by omega)),rfl,rfl,rfl,trivial⟩ trivial rfl
 ·refine bd [] rfl (by simp) ?_;simp at h;refine Ab ⟨_,rfl,tV (congrArg _ ?_),trivial⟩;rw [hi2,List.drop_eq_nil_of_le (by omega)];rfl
theorem Rx (g:FuncId) (a b:List V) (q:List V->Bool) (es:List (List V)) (hes:∀e∈es,e.length=4) (hlen:es.length<=9223372036854775807)
  (hq:∀e∈es,Al Tryz.prog g (a++[.agg e]++b) (.bool (q e))) :
  Al Tryz.prog 142 [.sl es,.clo (.func g) a b] (.bool (es.any q)):=by
 refine Ae A5 Tryz.func142 (by decide +kernel) rfl [2,3,4] rfl rfl ?_;refine bg [] rfl (by simp) ?_;refine Ac rfl (λ_=>Xz g a b q es hes hlen hq) (by simp) ?_;refine bg [] rfl (by simp) ?_;refine Ab ⟨_,rfl,tV (congrArg _ ?_),trivial⟩;rw [Bool.eq_iff_iff,<- HY q es 0];simp
theorem dU (c:Cse) (sz:List (List V)) (t:Ty):Al Tryz.prog 143 [.agg (dTyc t),.ip 102 [AM c sz] 0] (.bool (!AB c.datas t)):=by
 have hN:=R5 c sz t;obtain ⟨s,n,x,ps⟩:=t;generalize AB c.datas (.mk s n x ps)=b at *;refine OC ?_;refine Ae A5 Tryz.func143 (by decide +kernel) rfl [2,3,4,5] rfl rfl ?_;refine bg [] rfl (by simp) ?_;refine Ac rfl (λ_=>hN) (by simp) ?_;refine bg [] rfl (by simp) ?_;exact Ab ⟨_,rfl,tV rfl,trivial⟩
theorem TR (c:Cse) (sz:List (List V)) (ts:List Ty) (h:ts.length<=9223372036854775807) :
  Al Tryz.prog 142 [.sl (AT ts),.clo (.func 143) [] [.ip 102 [AM c sz] 0]] (.bool (!Bd c.datas ts)):=by
 have:=Rx 143 [] [.ip 102 [AM c sz] 0] (qOf dTyc (λt=>!AB c.datas t)) (AT ts) (λe he=>by rw [Cl] at he;obtain ⟨t,_,rfl⟩:=List.mem_map.1 he;simp) (by simpa using h)
  (λe he=>by
   rw [Cl] at he;obtain ⟨t,ht,rfl⟩:=List.mem_map.1 he;rw [IZ GR];exact dU c sz t)
 rw [Cl,List.any_map,show (qOf dTyc (λt=>!AB c.datas t) ∘ dTyc)=(λt=>!AB c.datas t) from funext λv=>IZ GR _ v,<- Cl] at this;rw [C4,List.all_eq_not_any_not,Bool.not_not];exact this
def G5 (ds:List Dt):Bool:=Hn ⟨[109],ds,[Hq]⟩&&(Bm (C0 ds)&&Bm (BT ds))&&BX ds ds
def Mm (c:Cse) (a b:D) (sz:D):List D:=(dCse c).map .imm++[a,b,sz]
def OY (c:Cse):Blk:=.cells 181 9 (Mm c (.imm (.mapv (Ev (C1 0 c.datas)))) (.imm (.mapv (Ev (Du 0 c.datas)))) .nils)
def outR (c:Cse):Bool->Out
 | true=>.ret (.tup [.ref 6 0,.imm (.bool true)]) [(6,some (OY c))]
 | false=>.ret (.imm (.tup [.nilp,.bool false])) []
theorem E8 {ds:List Dt} (h:Hn ⟨[109],ds,[Hq]⟩=true):ds.length<=4/\∀d∈ds,d.cons.length<=5/\∀c∈d.cons,c.args.length<=3:=by
 simp only [Hn,Bool.and_eq_true,List.all_eq_true,decide_eq_true_eq] at h;refine ⟨by omega,λd hd=>?_⟩;have hd:=h.1.2 d hd;simp only [EK,Bool.and_eq_true,List.all_eq_true,decide_eq_true_eq] at hd;refine ⟨by omega,λc hc=>?_⟩;have hc:=hd.2 c hc;simp only [J4,Bool.and_eq_true,decide_eq_true_eq] at hc;omega
theorem Vb (l:List (Str×V)) (p:Str×V):WY (l++[p])=Ew (WY l) (.str p.1) p.2:=by simp [WY,Kl]
theorem VR {ds:List Dt} {i:Nat} {d:Dt} (h:ds[i]?=some d):C1 0 (ds.take (i+1))=C1 0 (ds.take i)++[(d.name,.int .i64 i)]:=by
 have hl:(ds.take i).length=i:=by rw [List.length_take];have:=(List.getElem?_eq_some_iff.1 h).1;omega
 rw [Be h,Kx,hl];simp [C1]
theorem XK {ds:List Dt} {i:Nat} {d:Dt} (h:ds[i]?=some d):Du 0 (ds.take (i+1))=Du 0 (ds.take i)++D6 i 0 d.cons:=by
 have hl:(ds.take i).length=i:=by rw [List.length_take];have:=(List.getElem?_eq_some_iff.1 h).1;omega
 rw [Be h,LV,hl];simp [Du]
theorem VX {cs:List Cd} {i k:Nat} {c:Cd} (h:cs[k]?=some c):D6 i 0 (cs.take (k+1))=D6 i 0 (cs.take k)++[(c.name,.agg [.int .i64 i,.int .i64 k])]:=by
 have hl:(cs.take k).length=k:=by rw [List.length_take];have:=(List.getElem?_eq_some_iff.1 h).1;omega
 rw [Be h,Ky,hl];simp [D6]
set_option maxHeartbeats 2000000 in
theorem iU (c:Cse):AV Tryz.prog 100 [.imm (.agg (dCse c))] [] (outR c (G5 c.datas)):=by
 obtain ⟨ds,⟨c1,c2,c3,c4⟩,rows⟩:=c;simp only;have hck:=Re ⟨[109],ds,[Hq]⟩;generalize hmb:Hn ⟨[109],ds,[Hq]⟩=mb at hck;refine Ae A5 Tryz.func100 (by decide +kernel) rfl [1,2,3,4,5,6,7,8,9,10,11,12] rfl rfl ?_;refine bg [] rfl (by simp) ?_;refine Ac rfl (λ_=>hck) (by simp) ?_;refine bg [] rfl (by simp [Jv]) ?_;cases mb with
 | false =>
  refine Aa rfl (λh=>?_) (λh=>by simp [Jv] at h);refine bd [] rfl (by simp) ?_;rw [show G5 ds=false by simp [G5,hmb]];exact Ab ⟨_,rfl,tV rfl,trivial⟩
 | true =>
 refine Aa rfl (λh=>by simp [Jv] at h) (λh=>?_);clear h;obtain ⟨hl1,hl2⟩:=E8 hmb;refine bd [] rfl (by simp) ?_;refine ON rfl ?_;refine bg [] rfl (by simp) ?_;refine ON rfl ?_;refine bg [] rfl (by simp) ?_;refine Aj (λi:Nat=>[(36,.imm (.int .i64 i)),(35,.imm (.int .i64 ds.length)),(34,.imm (.sl (ds.map C7))),(7,.imm (.int .i64 (BT (ds.take i)).length)),(1,.ref 1 0),(6,.ref 7 0)])
  (λi=>[(1,some (.immb 29 6 (dCse ⟨ds,.mk c1 c2 c3 c4,rows⟩))),(4,some (.map (WY (C1 0 (ds.take i))))),(5,some (.map (WY (Du 0 (ds.take i))))),(6,some (.cells 181 9 (Mm ⟨ds,.mk c1 c2 c3 c4,rows⟩ (.mapr 4) (.mapr 5) .nils))),(7,some (.cells 102 1 [.ref 6 0]))]) [8,9,10,11,12] (λi=>ds.length-i)
  (λi=>i<=ds.length) 0 (Nat.zero_le _) ⟨rfl,As (by simp),rfl,rfl,rfl,rfl,trivial⟩ ⟨rfl,rfl,rfl,rfl,rfl,trivial⟩ rfl λi hi ih=>?_
 refine bd [] rfl (by simp) ?_;refine Aa rfl (λh=>?_) (λh=>?_)
 ·simp at h;obtain ⟨d,hd⟩:=Am h;have hdm:=hl2 d (List.mem_of_getElem? hd);have hcl:=SV (ds:=ds.take i) λx hx=>(hl2 x (List.mem_of_mem_take hx)).1;rw [List.length_take] at hcl;have ec:=QH hd;have ed:=VR hd;have es:=XK hd;refine bd [] rfl (by simp) ?_;refine bi rfl (c:=C7 d) (λ_=>⟨by simp,by simpa using Bp hd,by simp⟩) (by simp) ?_;obtain ⟨dn,dc⟩:=d;simp only at hdm ec ed es;refine bg [] rfl (by simp) ?_;refine X4 A5 rfl rfl rfl (Vc _) ?_;refine bg [] rfl (by simp [Ag];rfl) ?_
  refine Aj (λk:Nat=>[(51,.imm (.int .i64 k)),(50,.imm (.int .i64 dc.length)),(49,.imm (.sl (dc.map Dy))),(8,.imm (.int .i64 i)),(36,.imm (.int .i64 i)),(35,.imm (.int .i64 ds.length)),(34,.imm (.sl (ds.map C7))),(7,.imm (.int .i64 ((BT (ds.take i)).length+k:Nat))),(1,.ref 1 0),(6,.ref 7 0)])
   (λk=>[(1,some (.immb 29 6 (dCse ⟨ds,.mk c1 c2 c3 c4,rows⟩))),(4,some (.map (WY (C1 0 (ds.take (i+1)))))),(5,some (.map (WY (Du 0 (ds.take i)++D6 i 0 (dc.take k))))),(6,some (.cells 181 9 (Mm ⟨ds,.mk c1 c2 c3 c4,rows⟩ (.mapr 4) (.mapr 5) .nils))),(7,some (.cells 102 1 [.ref 6 0]))]) [8,9,10,11,12] (λk=>dc.length-k)
   (λk=>k<=dc.length) 0 (Nat.zero_le _) ⟨rfl,As (by simp),rfl,rfl,rfl,rfl,rfl,rfl,rfl,rfl,trivial⟩ ⟨rfl,by rw [ed,Vb];rfl,by rw [List.take_zero,show D6 i 0 []=[] from rfl,List.append_nil];rfl,rfl,rfl,trivial⟩ rfl λk hk jh=>?_
  refine bd [] rfl (by simp) ?_;refine Aa rfl (λh=>?_) (λh=>?_)
  ·simp at h;obtain ⟨k',hk'⟩:=Am h;have ek:=VX (i:=i) hk';refine bd [] rfl (by simp) ?_;refine bi rfl (c:=Dy k') (λ_=>⟨by simp,by simpa using Bp hk',by simp⟩) (by simp) ?_;obtain ⟨kn,ka⟩:=k';simp only at ek;refine bg [] rfl (by simp) ?_;refine X4 A5 rfl rfl rfl (Vc _) ?_;refine bg [] rfl (by simp [Ag];rfl) ?_;exact Ad (jh (k+1) (by omega) (by omega)) ⟨As (B9 (by omega) (by omega)),rfl,rfl,rfl,rfl,rfl,rfl,As (by rw [B9 (by omega) (by omega)];omega),rfl,rfl,trivial⟩ ⟨rfl,rfl,by rw [ek,<- List.append_assoc,Vb];rfl,rfl,rfl,trivial⟩ rfl
  ·simp at h;have hke:dc.take k=dc:=List.take_of_length_le h;have hkl:k=dc.length:=by omega
   refine Ar rfl ?_;refine bd [] rfl (by simp) ?_;exact Ad (ih (i+1) (by omega) (by omega)) ⟨As (B9 (by omega) (by omega)),rfl,rfl,As (by rw [ec];simp [hkl]),rfl,rfl,trivial⟩ ⟨rfl,rfl,by rw [es,hke];rfl,rfl,rfl,trivial⟩ rfl
 ·simp at h;refine Ar rfl ?_;rw [List.take_of_length_le h];refine bd [] rfl (by simp [Ag];rfl) ?_;have m1:=(Y3 (C1 0 ds)).2;have m2:=(Y3 (Du 0 ds)).2;rw [Gh] at m1;rw [Hy] at m2;have l1:(C1 0 ds).length=ds.length:=by have:=congrArg List.length (Gh 0 ds);simpa [C0] using this
  have l2:(Du 0 ds).length=(BT ds).length:=by have:=congrArg List.length (Hy 0 ds);simpa using this
  rw [l1] at m1;rw [l2] at m2;by_cases hdf:Bm (C0 ds)=true/\Bm (BT ds)=true
  case neg =>
   refine Aa rfl (λh=>?_) (λh=>?_)
   ·refine bd [] rfl (by simp) ?_;have:(Bm (C0 ds)&&Bm (BT ds))=false:=by cases h1:Bm (C0 ds) <;> cases h2:Bm (BT ds) <;> simp_all
    rw [show G5 ds=false by simp only [G5,this];simp];exact Ab ⟨_,rfl,tV rfl,trivial⟩
   ·exfalso;apply hdf;simp at h m1 m2;constructor
    ·cases h1:Bm (C0 ds) with
     | true=>rfl
     | false=>rw [h1] at m1;simp at m1;omega
    ·cases h1:Bm (BT ds) with
     | true=>rfl
     | false=>rw [h1] at m2;simp at m2;omega
  obtain ⟨hdn,hdc⟩:=hdf;rw [hdn] at m1;rw [hdc] at m2;refine Aa rfl (λh'=>by exfalso;simp at h' m1 m2;omega) (λh=>?_);clear h m1 m2;rw [show G5 ds=BX ds ds by simp [G5,hmb,hdn,hdc],PX _ (by rw [Gh];exact hdn),PX _ (by rw [Hy];exact hdc)];refine bd [] rfl (by simp) ?_;refine Aj (λi:Nat=>[(90,.imm (.int .i64 i)),(89,.imm (.int .i64 ds.length)),(88,.imm (.sl (ds.map C7))),(6,.ref 7 0)])
   (λ_=>[(4,some (.map (Ev (C1 0 ds)))),(5,some (.map (Ev (Du 0 ds)))),(6,some (.cells 181 9 (Mm ⟨ds,.mk c1 c2 c3 c4,rows⟩ (.mapr 4) (.mapr 5) .nils))),(7,some (.cells 102 1 [.ref 6 0]))]) [8,9,10,11,12] (λi=>ds.length-i)
   (λi=>i<=ds.length/\BX ds ds=BX ds (ds.drop i)) 0 ⟨Nat.zero_le _,rfl⟩ ⟨rfl,As (by simp),rfl,rfl,trivial⟩ ⟨rfl,rfl,rfl,rfl,trivial⟩ rfl λi hi ih=>?_
  obtain ⟨hi1,hi2⟩:=hi;refine bd [] rfl (by simp) ?_;refine Aa rfl (λh=>?_) (λh=>?_)
  ·simp at h;obtain ⟨d,hd⟩:=Am h;have hdm:=hl2 d (List.mem_of_getElem? hd);rw [show BX ds (ds.drop i)=(d.cons.all (λc=>Bd ds c.args)&&BX ds (ds.drop (i+1))) from DW hd] at hi2;refine bd [] rfl (by simp) ?_;refine bi rfl (c:=C7 d) (λ_=>⟨by simp,by simpa using Bp hd,by simp⟩) (by simp) ?_;obtain ⟨dn,dc⟩:=d;simp only at hdm hi2;refine bg [] rfl (by simp) ?_;refine Aj (λk:Nat=>[(97,.imm (.int .i64 k)),(96,.imm (.int .i64 dc.length)),(95,.imm (.sl (dc.map Dy))),(90,.imm (.int .i64 i)),(89,.imm (.int .i64 ds.length)),(88,.imm (.sl (ds.map C7))),(6,.ref 7 0)])
    (λ_=>[(4,some (.map (Ev (C1 0 ds)))),(5,some (.map (Ev (Du 0 ds)))),(6,some (.cells 181 9 (Mm ⟨ds,.mk c1 c2 c3 c4,rows⟩ (.mapr 4) (.mapr 5) .nils))),(7,some (.cells 102 1 [.ref 6 0]))]) [8,9,10,11,12] (λk=>dc.length-k)
    (λk=>k<=dc.length/\dc.all (λc=>Bd ds c.args)=(dc.drop k).all (λc=>Bd ds c.args)) 0 ⟨Nat.zero_le _,rfl⟩ ⟨rfl,As (by simp),rfl,rfl,rfl,rfl,rfl,trivial⟩ ⟨rfl,rfl,rfl,rfl,trivial⟩ rfl λk hk jh=>?_
   obtain ⟨hk1,hk2⟩:=hk;refine bd [] rfl (by simp) ?_;refine Aa rfl (λh=>?_) (λh=>?_)
   ·simp at h;obtain ⟨k',hk'⟩:=Am h;have hkm:=hdm.2 k' (List.mem_of_getElem? hk');rw [DW hk'] at hk2;refine bd [] rfl (by simp) ?_;refine bi rfl (c:=Dy k') (λ_=>⟨by simp,by simpa using Bp hk',by simp⟩) (by simp) ?_;obtain ⟨kn,ka⟩:=k';simp only at hkm hk2;refine bg [] rfl (by simp) ?_;refine Hv rfl (v:=.bool (!Bd ds ka)) (λ_=>TR ⟨ds,.mk c1 c2 c3 c4,rows⟩ [] ka (by omega)) rfl (by simp) ?_;refine bg [] rfl (by simp) ?_;refine Aa rfl (λh=>?_) (λh=>?_)
    ·have h:Bd ds ka=true:=by simpa using h
     refine Ar rfl ?_;refine bd [] rfl (by simp) ?_;exact Ad (jh (k+1) (by omega) ⟨by omega,by rw [hk2];simp [h]⟩) ⟨As (B9 (by omega) (by omega)),rfl,rfl,rfl,rfl,rfl,rfl,trivial⟩ ⟨rfl,rfl,rfl,rfl,trivial⟩ rfl
    ·have h:Bd ds ka=false:=by simpa using h
     refine bd [] rfl (by simp) ?_;rw [hi2,hk2,h];exact Ab ⟨_,rfl,tV rfl,trivial⟩
   ·simp at h;refine Ar rfl ?_;refine bd [] rfl (by simp) ?_;rw [List.drop_eq_nil_of_le (by omega)] at hk2;exact Ad (ih (i+1) (by omega) ⟨by omega,by rw [hi2,hk2];simp⟩) ⟨As (B9 (by omega) (by omega)),rfl,rfl,rfl,trivial⟩ ⟨rfl,rfl,rfl,rfl,trivial⟩ rfl
  ·simp at h;refine Ar rfl ?_;rw [hi2,List.drop_eq_nil_of_le (by omega)];refine Oe 4 rfl ?_;refine Oe 5 rfl ?_;refine bd [] rfl (by simp) ?_;exact Ab ⟨_,rfl,rfl,⟨rfl,trivial⟩⟩
end Go.Hk
namespace Go.Hk
section
variable {P:Program} {n:Nat} {F:List Nat} {Q:DQ} {todo:List DI} {env:Env} {st:St} {ids':List Nat}
end
end Go.Hk
namespace Go.Hk
structure PMs where
 e:TypeId
 z:V
 bytes:Nat
 m:Int
 m2:Int
 id':Nat
 ids':List Nat
 dst:Option Nat
 todo:List DI
def nS (tt:TT) (n:Nat) (env:Env) (ids:List Nat) (todo:List DI):Option PMs :=
 match T1 todo,ids with
 | some o,id'::ids'=>match o.guard,o.op with
  | none,.makeSlice t l c=>match lk tt t,CQ env l,CQ env c with
   | some { sh:=.sl e,.. },some (.imm (.int _ m)),some (.imm (.int _ m2))=>match lk tt e,B1 n o.dst,AS todo ([],[id']) with
    | some ⟨_,_,1,bytes,[.imm z]⟩,true,some (_,_,todo')=>some ⟨e,z,bytes,m,m2,id',ids',o.dst,todo'⟩
    | _,_,_=>none
   | _,_,_=>none
  | _,_=>none
 | _,_=>none
section
variable {P:Program} {n:Nat} {F:List Nat} {Q:DQ} {tt:TT} {env env':Env} {st st':St} {ids ids':List Nat} {k todo todo':List DI} {I:Imm} {μ:Mu} {w:World} {a:Act} {Pn:V->Prop} {d:D} {cx:Prop} {ob:List Prop}
theorem eW (z:Array Value) (n:Nat) (c:Value) (h:z.toList=[c]):madeCells z n=Array.replicate n c:=by
 obtain ⟨z⟩:=z;simp at h;subst h;apply Array.ext
 ·simp [madeCells]
 ·intro i h1 h2;simp [madeCells,Nat.mod_one]
theorem aM (htt:TTok P tt) {c:PMs} (h:nS tt n env ids todo=some c) (hm:c.m2=c.m) (h0:0<=c.m) (h1:(c.bytes:Int)*c.m<=281474976710656) (h2:c.m<=maxLen) (hz:V.one c.z=true)
  (hk:G P n F Q c.todo (Bz c.dst (.own c.id' (List.replicate c.m.toNat [c.z]).length) env) ((c.id',some (.row c.e 1 (List.replicate c.m.toNat [c.z])))::st) c.ids'):G P n F Q todo env st ids:=by
 unfold nS at h
 split at h
 ·rename_i o id' ids' ho
  split at h
  ·rename_i t l cc hg hop
   split at h
   ·rename_i e _ _ _ _ k1 m k2 m2 ht hl hc
    split at h
    ·rename_i sh ag bytes z all o' todo' hi hd hn1;cases h;have ho':o'=o:=Em ho hn1;subst ho';simp only at hm h0 h1 h2 hz hk;have hm:=hm.symm;subst hm;refine Bq (fr:=[id']) (wr:=[(id',some (.row e 1 (List.replicate m.toNat [z])))]) (rd:=[]) hn1 ?_ hd (λc hc=>by rw [hop] at hc;cases hc) hk;intro I μ st1 ids1 a w hag hst hon;refine ⟨λ_=>?_,λhw=>by rw [A0 hg] at hw;cases hw⟩;have hops:=AJ hon;rw [hop] at hops;have rl:=hops l (by simp [Op.operands]) _ hl;have rc:=hops cc (by simp [Op.operands]) _ hc;obtain ⟨inf,zv,i1,i2,i3,i4,i5,i6⟩:=(htt e _ hi).info;have hz1:=i5 I μ;have hzl:∃c0,zv.cells.toList=[c0]/\RepV I c0 z:=by
      have hl:=hz1.1
      match hcs:zv.cells.toList,hl with
      | [c0],_=>exact ⟨c0,rfl,(hz1.2 0 c0 _ (by rw [hcs];rfl) rfl).immInv⟩
     obtain ⟨c0,hc0,hr0⟩:=hzl;have hsz:inf.size=1:=i2;have hby:inf.bytes=bytes:=i3;have hrun:(execOp a.eval o').run P w = .ok (.value (.slice (some ⟨w.heap.size,0,none⟩) m.toNat m.toNat)) (w.alloc (.cells (Array.replicate m.toNat c0) e)):=by
      have hs:=(htt t _ ht).sh;have hx:=run_make (P:=P) w t e inf zv hs i1 i4 k1 k2 m m h0 (Int.le_refl _) (by rw [hby];exact h1) (by simpa [maxLen] using h2);rw [eW _ _ c0 hc0,hsz,Nat.mul_one] at hx;simp only [execOp,hop];generalize a.eval l=vl at rl;generalize a.eval cc=vc at rc;cases rl with
      | imm _ _ rl =>
      cases rc with
      | imm _ _ rc =>
      cases rl;cases rc;simp only [Sem.run_bind,hx,Result.andThen_ok,Sem.run_pure]
     rw [hrun];have hlen:(List.replicate m.toNat [z]).length=m.toNat:=by simp
     have hone0:c0.oneCell'=true:=i6 c0 (by rw [hc0];simp);obtain ⟨μ',q1,q2,q3,q4⟩:=hst.allocO (.cells (Array.replicate m.toNat c0) e) (.slice (some ⟨w.heap.size,0,none⟩) m.toNat m.toNat) (λ_ h=>Eq.symm h) (.row e 1 (List.replicate m.toNat [z])) (λμ' _ =>
      ⟨(List.replicate m.toNat c0),⟨by simp [hlen],.inr ⟨w.heap.size,m.toNat,Array.replicate m.toNat c0,by rw [hlen],Nat.zero_le _,Dr w _,by rw [hlen];exact Nat.le_refl _,by simp [maxLen] at h2 ⊢;omega,by simp,by rw [hlen];simp⟩⟩,⟨by simp,λi v x hv hx=>by
       have e1:(List.replicate m.toNat [z]).flatten=List.replicate m.toNat z:=by
        generalize m.toNat=q
        induction q with
        | zero=>rfl
        | succ q ih=>simp only [List.replicate_succ,List.flatten_cons,ih];rfl
       rw [e1] at hx;rw [List.getElem?_replicate] at hv hx
       split at hv
       ·rename_i hq;rw [if_pos hq] at hx;cases hv;cases hx;exact hr0
       ·cases hv⟩,λc hc=>by rw [List.eq_of_mem_replicate hc];rfl,λc hc y hy=>by
       rw [List.eq_of_mem_replicate hc] at hy;simp at hy;subst hy;exact hz,Nat.one_pos⟩)
     rw [hlen] at *;exact ⟨I,μ',q3,.own _ _ _ _ q1,q2,q4⟩
    ·cases h
   ·cases h
  ·cases h
 ·cases h
end
end Go.Hk
namespace Go.Hk
open Go.Proofs
def EN (ds:List Dt) (s:List Int):Ty->Int
 | .mk so _ x _=>if so=8 then s.getD (Kk ds x).toNat 0 else 1
def AN (ds:List Dt) (s:List Int):Int->List Ty->Int
 | n,[]=>n
 | n,t::r=>if EN ds s t=0 then 0 else AN ds s (n+EN ds s t) r
def AX (s:List Int):List (List V):=s.map λn=>[.int .i64 n]
@[simp] theorem rowI_length (s:List Int):(AX s).length=s.length:=by simp [AX]
theorem G4 {s:List Int} {i:Nat} (h:i<s.length):(AX s)[i]?=some [.int .i64 (s.getD i 0)]:=by simp [AX,h,List.getD]
def HL (ds:List Dt) (i:Nat) (p:List Int×Bool) (args:List Ty):List Int×Bool :=
 if 0<AN ds p.1 1 args/\(p.1.getD i 0=0\/AN ds p.1 1 args<p.1.getD i 0) then (p.1.set i (AN ds p.1 1 args),true) else p
def J3 (ds:List Dt) (i:Nat):List Int×Bool->List Cd->List Int×Bool
 | p,[]=>p
 | p,c::r=>J3 ds i (HL ds i p c.args) r
def CT (ds:List Dt):List Int×Bool->Nat->List Dt->List Int×Bool
 | p,_,[]=>p
 | p,i,d::r=>CT ds (J3 ds i p d.cons) (i+1) r
def LB (ds:List Dt):Nat->List Int->List Int
 | 0,s=>s
 | f+1,s=>bif (CT ds (s,false) 0 ds).2 then LB ds f (CT ds (s,false) 0 ds).1 else (CT ds (s,false) 0 ds).1
def D7 (ds:List Dt):List Int:=LB ds 2000 (List.replicate ds.length 0)
def PN:List Int->Nat
 | []=>0
 | x::r=>(if x=0 then 0 else 1)+PN r
def Lz:List Int->Nat
 | []=>0
 | x::r=>(if x=0 then 257 else x.toNat)+Lz r
theorem MD:∀s:List Int,PN s<=s.length
 | []=>Nat.le_refl _
 | x::r=>by have:=MD r;simp only [PN,List.length_cons];split <;> omega
theorem Yz:∀(s:List Int) (i:Nat) (n:Int),i<s.length->n≠0->PN (s.set i n)=PN s+(if s.getD i 0=0 then 1 else 0)
 | [],i,n,h,_=>by simp at h
 | x::r,0,n,_,hn=>by simp only [List.set_cons_zero,PN,hn,if_false,List.getD_cons_zero];split <;> omega
 | x::r,i+1,n,h,hn=>by
  have:=Yz r i n (by simpa using h) hn;simp only [List.set_cons_succ,PN,List.getD_cons_succ,this];omega
theorem Y2:∀(s:List Int) (i:Nat) (n:Int),i<s.length->0<n->n<=256->(s.getD i 0=0\/n<s.getD i 0)->Lz (s.set i n)<Lz s
 | [],i,n,h,_,_,_=>by simp at h
 | x::r,0,n,_,hn,hb,hc=>by
  simp only [List.set_cons_zero,Lz,List.getD_cons_zero] at hc ⊢;rw [if_neg (by omega)]
  split <;> omega
 | x::r,i+1,n,h,hn,hb,hc=>by
  have:=Y2 r i n (by simpa using h) hn hb (by simpa using hc);simp only [List.set_cons_succ,Lz];omega
theorem WW:∀s:List Int,(∀x∈s,x<=256)->Lz s<=257*s.length
 | [],_=>Nat.le_refl _
 | x::r,h=>by
  have h1:=h x (by simp);have h2:=WW r λy hy=>h y (by simp [hy]);simp only [Lz,List.length_cons]
  split <;> omega
structure Id (ds:List Dt) (s:List Int):Prop where
 len:s.length=ds.length
 le:∀x∈s,0<=x/\x<=((4 ^ PN s:Nat):Int)
theorem LI {s:List Int} {i:Nat}:s.getD i 0∈s\/s.getD i 0=0:=by
 by_cases h:i<s.length
 ·left;simp [List.getD,List.getElem?_eq_getElem h]
 ·right;simp [List.getD,List.getElem?_eq_none (Nat.le_of_not_lt h)]
theorem iW {n:Nat} (h:n<=4):4 ^ n<=256:=by
 have:n=0\/n=1\/n=2\/n=3\/n=4:=by omega
 rcases this with rfl | rfl | rfl | rfl | rfl <;> decide
theorem Ip {ds:List Dt} {s:List Int} (h:Id ds s) (t:Ty):0<=EN ds s t/\EN ds s t<=((4 ^ PN s:Nat):Int):=by
 obtain ⟨so,n,x,ps⟩:=t;have h1:1<=4 ^ PN s:=Nat.one_le_pow _ _ (by decide);simp only [EN]
 split
 ·rcases LI (s:=s) (i:=(Kk ds x).toNat) with hm | hm
  ·exact h.le _ hm
  ·rw [hm];omega
 ·omega
theorem FX {ds:List Dt} {s:List Int} (h:Id ds s):∀(l:List Ty) (n:Int),0<=n->0<=AN ds s n l/\AN ds s n l<=n+(l.length:Int)*((4 ^ PN s:Nat):Int)
 | [],n,hn=>by simp [AN,hn]
 | t::r,n,hn=>by
  have hb:=Ip h t;have ih:=FX h r (n+EN ds s t) (by omega);simp only [AN,List.length_cons];generalize ((4 ^ PN s:Nat):Int)=M at *;have:((r.length+1:Nat):Int)*M=(r.length:Int)*M+M:=by rw [Int.natCast_add,Int.add_mul];omega
  rw [this];have hm:0<=(r.length:Int)*M:=Int.mul_nonneg (by omega) (by omega)
  split <;> omega
theorem Pr {ds:List Dt} (h4:ds.length<=4) {i:Nat} (hi:i<ds.length) {p:List Int×Bool} {args:List Ty} (ha:args.length<=3) (h:Id ds p.1) :
  Id ds (HL ds i p args).1/\Lz (HL ds i p args).1<=Lz p.1/\((HL ds i p args).2=true->p.2=true\/Lz (HL ds i p args).1<Lz p.1):=by
 have hs:=FX h args 1 (by omega);simp only [HL];generalize AN ds p.1 1 args=n at *
 split
 ·rename_i hc;have hlt:i<p.1.length:=by rw [h.len];exact hi
  have hset:=Yz p.1 i n hlt (by omega);have hnz:=MD p.1;have hz1:4 ^ PN p.1>=1:=Nat.one_le_pow _ _ (by decide);have key:∀M:Nat,1<=M->n<=1+(args.length:Int)*(M:Int)->n<=((M*4:Nat):Int):=λM h1 h2=>by
   have:(args.length:Int)*(M:Int)<=3*(M:Int):=Int.mul_le_mul_of_nonneg_right (by omega) (by omega);omega
  have hn4:n<=((4 ^ PN (p.1.set i n):Nat):Int):=by
   rw [hset];by_cases h0:p.1.getD i 0=0
   ·rw [if_pos h0,Nat.pow_succ];exact key _ hz1 hs.2
   ·rw [if_neg h0,Nat.add_zero];rcases LI (s:=p.1) (i:=i) with hm | hm
    ·have:=(h.le _ hm).2;omega
    ·exact absurd hm h0
  have hle:PN (p.1.set i n)<=4:=by have:=MD (p.1.set i n);rw [List.length_set,h.len] at this;omega
  have h256:=iW hle;have hmu:=Y2 p.1 i n hlt hc.1 (by omega) hc.2;refine ⟨⟨by simp [h.len],λx hx=>?_⟩,Nat.le_of_lt hmu,λ_=>.inr hmu⟩;have hmono:4 ^ PN p.1<=4 ^ PN (p.1.set i n):=Nat.pow_le_pow_right (by decide) (by rw [hset];omega);show 0<=x/\x<=((4 ^ PN (p.1.set i n):Nat):Int);rcases List.mem_or_eq_of_mem_set hx with hx | rfl
  ·have:=h.le x hx;omega
  ·omega
 ·exact ⟨h,Nat.le_refl _,λh=>.inl h⟩
theorem TM {ds:List Dt} (h4:ds.length<=4) {i:Nat} (hi:i<ds.length):∀{l:List Cd} {p:List Int×Bool},(∀c∈l,c.args.length<=3)->Id ds p.1 ->
  Id ds (J3 ds i p l).1/\Lz (J3 ds i p l).1<=Lz p.1/\((J3 ds i p l).2=true->p.2=true\/Lz (J3 ds i p l).1<Lz p.1)
 | [],p,_,h=>⟨h,Nat.le_refl _,λh=>.inl h⟩
 | c::r,p,ha,h=>by
  obtain ⟨a1,a2,a3⟩:=Pr (p:=p) h4 hi (ha c (by simp)) h;obtain ⟨b1,b2,b3⟩:=TM h4 hi (l:=r) (p:=HL ds i p c.args) (λx hx=>ha x (by simp [hx])) a1;simp only [J3];refine ⟨b1,by omega,λh=>?_⟩;rcases b3 h with h | h
  ·rcases a3 h with h | h
   ·exact .inl h
   ·exact .inr (by omega)
  ·exact .inr (by omega)
theorem Mt {ds:List Dt} (h4:ds.length<=4):∀{l:List Dt} {p:List Int×Bool} {i:Nat},i+l.length<=ds.length->(∀d∈l,∀c∈d.cons,c.args.length<=3)->Id ds p.1 ->
  Id ds (CT ds p i l).1/\Lz (CT ds p i l).1<=Lz p.1/\((CT ds p i l).2=true->p.2=true\/Lz (CT ds p i l).1<Lz p.1)
 | [],p,i,_,_,h=>⟨h,Nat.le_refl _,λh=>.inl h⟩
 | d::r,p,i,hi,ha,h=>by
  simp only [List.length_cons] at hi;obtain ⟨a1,a2,a3⟩:=TM (p:=p) h4 (i:=i) (by omega) (l:=d.cons) (ha d (by simp)) h;obtain ⟨b1,b2,b3⟩:=Mt h4 (l:=r) (p:=J3 ds i p d.cons) (i:=i+1) (by omega) (λx hx=>ha x (by simp [hx])) a1;simp only [CT];refine ⟨b1,by omega,λh=>?_⟩;rcases b3 h with h | h
  ·rcases a3 h with h | h
   ·exact .inl h
   ·exact .inr (by omega)
  ·exact .inr (by omega)
theorem Yb (c:Cse) (s:List Int) (hs:Id c.datas s) (h4:c.datas.length<=4) (args:List Ty) (hn:Bd c.datas args=true) (ha:args.length<=3) :
  Al Tryz.prog 150 [AM c (AX s),.sl (AT args)] (.int .i64 (AN c.datas s 1 args)):=by
 obtain ⟨ds,⟨c1,c2,c3,c4⟩,rows⟩:=c;simp only at hs h4 hn ⊢;have hpw:((4 ^ PN s:Nat):Int)<=256:=by have:=iW (n:=PN s) (by have:=MD s;rw [hs.len] at this;omega);omega
 refine Ae A5 Tryz.func150 (by decide +kernel) rfl [2,3,4,5,6] rfl rfl ?_;refine bg [] rfl (by simp) ?_;refine Aj (λy:Nat×Int=>[(11,.imm (.int .i64 y.1)),(10,.imm (.int .i64 args.length)),(9,.imm (.sl (AT args))),(5,.imm (.int .i64 y.2)),(0,.imm (AM ⟨ds,.mk c1 c2 c3 c4,rows⟩ (AX s)))]) (λ_=>[]) [2,3,4,5,6] (λy=>args.length-y.1)
  (λy=>y.1<=args.length/\AN ds s 1 args=AN ds s y.2 (args.drop y.1)/\0<=y.2/\y.2<=1+256*y.1) (0,1) ⟨Nat.zero_le _,rfl,by simp only;omega,by simp only;omega⟩ ⟨rfl,As (by simp),rfl,rfl,rfl,trivial⟩ trivial rfl λy hi ih=>?_
 obtain ⟨i,m⟩:=y;obtain ⟨hi1,hi2,hi3,hi4⟩:=hi;simp only at hi1 hi2 hi3 hi4;refine bd [] rfl (by simp) ?_;refine Aa rfl (λh=>?_) (λh=>?_)
 ·simp at h;obtain ⟨t,ht⟩:=Am h;have hnt:=D2 hn ht;have hb:=Ip hs t;rw [Ao ht] at hi2;simp only [AN] at hi2;refine bd [] rfl (by simp) ?_;refine bi rfl (c:=dTyc t) (λ_=>⟨by simp,by simpa using Ax ht,by simp⟩) (by simp) ?_;obtain ⟨so,n,x,ps⟩:=t;refine bg [] rfl (by simp) ?_;by_cases h8:so=8
  ·subst h8;have hp:=(C5 hnt 8 n x ps rfl rfl).1;have hd:Kk ds x=AR x 0 ds:=by simp [Kk,hp]
   obtain ⟨k,d,k1,k2,k3⟩:=Im x ds 0 hp;have hk:k<s.length:=by rw [hs.len];exact (List.getElem?_eq_some_iff.1 k2).1
   have ho:EN ds s (.mk 8 n x ps)=s.getD k 0:=by simp [EN,hd,k1]
   rw [ho] at hi2 hb;refine Aa rfl (λh=>?_) (λh=>by simp at h);refine bd [] rfl (by simp) ?_;refine FF A5 rfl rfl rfl (Ej _) (by simp [Ag]) (z:=.int .i64 0) rfl (λ_=>.int _ _) (Hr ds x) ?_;refine bg [] rfl (by simp) ?_;refine bi rfl (c:=[.int .i64 (s.getD k 0)]) (λ_=>⟨by rw [hd];exact hp,by rw [hd,k1];simpa using G4 hk,rfl⟩) (by simp) ?_;refine bg [] rfl (by simp;rfl) ?_;refine Aa rfl (λh=>?_) (λh=>?_)
   ·refine bd [] rfl (by simp) ?_;rw [if_pos (by simpa using h)] at hi2;rw [hi2];exact Ab ⟨_,rfl,tV rfl,trivial⟩
   ·refine bd [] rfl (by simp) ?_;rw [if_neg (by simpa using h)] at hi2;exact Ad (ih (i+1,m+s.getD k 0) (by simp only;omega) ⟨by simp only;omega,hi2,by simp only;omega,by simp only;omega⟩) ⟨As (B9 (by simp only;omega) (by simp only;omega)),rfl,rfl,As (B9 (by omega) (by omega)),rfl,trivial⟩ trivial rfl
  ·have ho:EN ds s (.mk so n x ps)=1:=by simp [EN,h8]
   rw [ho] at hi2;refine Aa rfl (λh=>absurd (by simpa using h) h8) (λh=>?_);refine bd [] rfl (by simp) ?_;refine Aa rfl (λh=>by simp at h) (λh=>?_);refine bd [] rfl (by simp) ?_;rw [if_neg (by omega)] at hi2;exact Ad (ih (i+1,m+1) (by simp only;omega) ⟨by simp only;omega,hi2,by simp only;omega,by simp only;omega⟩) ⟨As (B9 (by simp only;omega) (by simp only;omega)),rfl,rfl,As (B9 (by omega) (by omega)),rfl,trivial⟩ trivial rfl
 ·simp at h;refine Ar rfl ?_;refine bd [] rfl (by simp) ?_;rw [hi2,List.drop_eq_nil_of_le (by omega)];exact Ab ⟨_,rfl,tV rfl,trivial⟩
theorem dI (s:List Int) (i:Nat) (n:Int):(AX s).set i [.int .i64 n]=AX (s.set i n):=by simp [AX,List.map_set]
theorem Zz (n:Nat):List.replicate n [V.int .i64 0]=AX (List.replicate n 0):=by simp [AX]
theorem Mr (ds:List Dt):Id ds (List.replicate ds.length 0):=⟨by simp,λx hx=>by rw [List.eq_of_mem_replicate hx];exact ⟨Int.le_refl _,Int.natCast_nonneg _⟩⟩
def Te (c:Cse) (sz:D):Blk:=.cells 181 9 (Mm c (.imm (.mapv (Ev (C1 0 c.datas)))) (.imm (.mapv (Ev (Du 0 c.datas)))) sz)
set_option maxHeartbeats 2000000 in
theorem bT (c:Cse) (h4:c.datas.length<=4) (hl2:∀d∈c.datas,d.cons.length<=5/\∀c∈d.cons,c.args.length<=3) (hN:BX c.datas c.datas=true) :
  AV Tryz.prog 108 [.ref 1 0] [(1,some (OY c))] (.ret Hd [(1,some (Te c (.own 2 c.datas.length))),(2,some (.row 3 1 (AX (D7 c.datas))))]):=by
 obtain ⟨ds,⟨c1,c2,c3,c4⟩,rows⟩:=c;simp only at h4 hl2 hN ⊢;have hl3:∀d∈ds,∀c∈d.cons,c.args.length<=3:=λd hd=>(hl2 d hd).2;have hnm:∀d∈ds,∀c∈d.cons,Bd ds c.args=true:=by simpa [BX] using hN
 generalize hC:(⟨ds,.mk c1 c2 c3 c4,rows⟩:Cse)=C at *;have hCd:C.datas=ds:=by rw [<- hC]
 unfold OY;rw [hCd];subst hC;refine Ae A5 Tryz.func108 (by decide +kernel) rfl [2,3,4,5,6] rfl rfl ?_;refine bg [] rfl (by simp) ?_;refine aM A5 rfl rfl (by simp) (by simp;omega) (by simp [maxLen];omega) rfl ?_;have er:(List.replicate ((ds.map C7).length:Int).toNat [V.int .i64 0])=AX (List.replicate ds.length 0):=by rw [<- Zz];simp
 simp only [Bz];rw [er,rowI_length,List.length_replicate];refine bg [] rfl (by simp) ?_;refine Aj (λy:Nat×List Int×Bool=>[(2,.imm (.bool y.2.2)),(0,.ref 1 0)])
  (λy=>[(1,some (Te ⟨ds,.mk c1 c2 c3 c4,rows⟩ (.own 2 ds.length))),(2,some (.row 3 1 (AX y.2.1)))]) [3,4,5,6] (λy=>if y.2.2 then y.1+1 else 0)
  (λy=>Id ds y.2.1/\if y.2.2 then D7 ds=LB ds y.1 y.2.1/\Lz y.2.1<y.1 else D7 ds=y.2.1) (2000,List.replicate ds.length 0,true)
  ⟨Mr ds,by simp only [if_true];exact ⟨rfl,by have:=WW (List.replicate ds.length 0) (λx hx=>by rw [List.eq_of_mem_replicate hx];omega);simp at this;omega⟩⟩ ⟨rfl,rfl,trivial⟩ ⟨rfl,rfl,trivial⟩ rfl λy hi ih=>?_
 obtain ⟨f,s,ch⟩:=y;obtain ⟨hs,hi⟩:=hi;simp only at hs hi;refine bd [] rfl (by simp) ?_;cases ch with
 | false =>
  simp only [Bool.false_eq_true,if_false] at hi;refine Aa rfl (λh=>by simp at h) (λh=>?_);refine Ar rfl ?_;refine bd [] rfl (by simp) ?_;rw [hi];exact Cp ⟨_,rfl,tV rfl,⟨rfl,rfl,trivial⟩⟩
 | true =>
 simp only [if_true] at hi;refine Aa rfl (λh=>?_) (λh=>by simp at h);clear h;obtain ⟨hi1,hi2⟩:=hi;obtain ⟨f,rfl⟩:∃g,f=g+1:=⟨f-1,by omega⟩
 refine bd [] rfl (by simp) ?_;refine Aj (λy:Nat×List Int×Bool=>[(25,.imm (.int .i64 y.1)),(24,.imm (.int .i64 ds.length)),(23,.imm (.sl (ds.map C7))),(2,.imm (.bool y.2.2)),(0,.ref 1 0)])
  (λy=>[(1,some (Te ⟨ds,.mk c1 c2 c3 c4,rows⟩ (.own 2 ds.length))),(2,some (.row 3 1 (AX y.2.1)))]) [3,4,5,6] (λy=>ds.length-y.1)
  (λy=>y.1<=ds.length/\CT ds (s,false) 0 ds=CT ds y.2 y.1 (ds.drop y.1)/\Id ds y.2.1/\Lz y.2.1<=Lz s/\(y.2.2=true->Lz y.2.1<Lz s)) (0,s,false)
  ⟨Nat.zero_le _,rfl,hs,Nat.le_refl _,λh=>by cases h⟩ ⟨rfl,As (by simp),rfl,rfl,rfl,trivial⟩ ⟨rfl,rfl,trivial⟩ rfl λy hy jh=>?_
 obtain ⟨i,p⟩:=y;obtain ⟨hy1,hy2,hy3,hy4,hy5⟩:=hy;simp only at hy1 hy2 hy3 hy4 hy5;refine bd [] rfl (by simp) ?_;refine Aa rfl (λh=>?_) (λh=>?_)
 ·simp at h;have hil:=h;obtain ⟨d,hd⟩:=Am h;have hdm:=List.mem_of_getElem? hd;rw [Ao hd] at hy2;simp only [CT] at hy2;refine bd [] rfl (by simp) ?_;refine bi rfl (c:=C7 d) (λ_=>⟨by simp,by simpa using Bp hd,by simp⟩) (by simp) ?_;obtain ⟨dn,dc⟩:=d;simp only at hy2;have hd5:=(hl2 _ hdm).1;have hd3:=hl3 _ hdm;have hdn:=hnm _ hdm;simp only at hd5 hd3 hdn;refine bg [] rfl (by simp) ?_;refine Aj (λy:Nat×List Int×Bool=>[(33,.imm (.int .i64 y.1)),(32,.imm (.int .i64 dc.length)),(31,.imm (.sl (dc.map Dy))),(3,.imm (.int .i64 i)),(25,.imm (.int .i64 i)),(24,.imm (.int .i64 ds.length)),(23,.imm (.sl (ds.map C7))),(2,.imm (.bool y.2.2)),(0,.ref 1 0)])
   (λy=>[(1,some (Te ⟨ds,.mk c1 c2 c3 c4,rows⟩ (.own 2 ds.length))),(2,some (.row 3 1 (AX y.2.1)))]) [3,4,5,6] (λy=>dc.length-y.1)
   (λy=>y.1<=dc.length/\J3 ds i p dc=J3 ds i y.2 (dc.drop y.1)/\Id ds y.2.1/\Lz y.2.1<=Lz s/\(y.2.2=true->Lz y.2.1<Lz s)) (0,p)
   ⟨Nat.zero_le _,rfl,hy3,hy4,hy5⟩ ⟨rfl,As (by simp),rfl,rfl,rfl,rfl,rfl,rfl,rfl,trivial⟩ ⟨rfl,rfl,trivial⟩ rfl λy hk kh=>?_
  obtain ⟨k,q⟩:=y;obtain ⟨hk1,hk2,hk3,hk4,hk5⟩:=hk;simp only at hk1 hk2 hk3 hk4 hk5;refine bd [] rfl (by simp) ?_;refine Aa rfl (λh=>?_) (λh=>?_)
  ·simp at h;obtain ⟨c,hc⟩:=Am h;have hcm:=List.mem_of_getElem? hc;rw [Ao hc] at hk2;simp only [J3] at hk2;refine bd [] rfl (by simp) ?_;refine bi rfl (c:=Dy c) (λ_=>⟨by simp,by simpa using Bp hc,by simp⟩) (by simp) ?_;obtain ⟨cn,ca⟩:=c;have hca3:=hd3 _ hcm;have hcan:=hdn _ hcm;simp only at hca3 hcan hk2;have hstep:=Pr (p:=q) h4 hil hca3 hk3;have hlen:q.1.length=ds.length:=hk3.len;obtain ⟨qs,qb⟩:=q;simp only at hk3 hk4 hk5 hlen hstep;refine bg [] rfl (by simp) ?_;refine Hv rfl (v:=.int .i64 (AN ds qs 1 ca)) (λ_=>Yb ⟨ds,.mk c1 c2 c3 c4,rows⟩ qs hk3 h4 ca hcan hca3) rfl (by simp) ?_
   have hst:HL ds i (qs,qb) ca=if 0<AN ds qs 1 ca/\(qs.getD i 0=0\/AN ds qs 1 ca<qs.getD i 0) then (qs.set i (AN ds qs 1 ca),true) else (qs,qb):=rfl
   have hzb:=FX hk3 ca 1 (by omega);generalize AN ds qs 1 ca=z at *;refine bg [] rfl (by simp) ?_;refine GI A5 rfl (λ_=>⟨by simp,by simp;omega⟩) (by simp [Ag]) ?_;refine bg [] rfl (by simp [Ag]) ?_;refine OL (e:=[.int .i64 (qs.getD i 0)]) A5 rfl (λ_=>by simpa using G4 (s:=qs) (i:=i) (by omega)) rfl (by simp [Ag]) ?_;refine bg [] rfl (by simp [Ag];try exact λa b=>⟨a,b⟩) ?_;refine GI A5 rfl (λ_=>⟨by simp,by simp;omega⟩) (by simp [Ag]) ?_;refine bg [] rfl (by simp [Ag]) ?_;refine OL (e:=[.int .i64 (qs.getD i 0)]) A5 rfl (λ_=>by simpa using G4 (s:=qs) (i:=i) (by omega)) rfl (by simp [Ag]) ?_;refine bg [] rfl (by simp [Ag];try exact λa b=>⟨a,b⟩) ?_;by_cases hz:0<z/\(qs.getD i 0=0\/z<qs.getD i 0)
   ·rw [if_pos hz] at hst;rw [hst] at hk2 hstep;have hstep3:=hstep.2.2 rfl;refine Aa rfl (λh=>?_) (λh=>by exfalso;simp at h;grind);refine bd [] rfl (by simp) ?_;refine GI A5 rfl (λ_=>⟨by simp,by simp;omega⟩) (by simp) ?_;refine bg [] rfl (by simp) ?_;refine Qz A5 (e:=[.int .i64 (qs.getD i 0)]) (e':=[.int .i64 z]) rfl (by simpa using G4 (s:=qs) (i:=i) (by omega)) (by show 0+1<=1;decide) (by simp) (by simp) ?_;refine bg [] rfl (by simp) ?_;refine Ad (kh (k+1,qs.set i z,true) (by simp only;omega) ⟨by simp only;omega,hk2,hstep.1,by have:=hstep.2.1;simp only at this ⊢;omega,λ_=>?_⟩) ⟨As (B9 (by omega) (by omega)),rfl,rfl,rfl,rfl,rfl,rfl,rfl,rfl,trivial⟩ ⟨rfl,by rw [<- dI];rfl,trivial⟩ rfl
    rcases hstep3 with h | h
    ·have:=hk5 h;have:=hstep.2.1;simp only at this ⊢;omega
    ·simp only at h ⊢;omega
   ·rw [if_neg hz] at hst;rw [hst] at hk2;refine Aa rfl (λh=>by exfalso;simp at h;grind) (λh=>?_);refine bd [] rfl (by simp) ?_;exact Ad (kh (k+1,qs,qb) (by simp only;omega) ⟨by simp only;omega,hk2,hk3,hk4,hk5⟩) ⟨As (B9 (by omega) (by omega)),rfl,rfl,rfl,rfl,rfl,rfl,rfl,rfl,trivial⟩ ⟨rfl,rfl,trivial⟩ rfl
  ·simp at h;refine Ar rfl ?_;refine bd [] rfl (by simp) ?_;rw [List.drop_eq_nil_of_le (by omega)] at hk2;simp only [J3] at hk2;rw [hk2] at hy2;exact Ad (jh (i+1,q) (by simp only;omega) ⟨by simp only;omega,hy2,hk3,hk4,hk5⟩) ⟨As (B9 (by omega) (by omega)),rfl,rfl,rfl,rfl,trivial⟩ ⟨rfl,rfl,trivial⟩ rfl
 ·simp at h;refine Ar rfl ?_;refine bd [] rfl (by simp) ?_;rw [List.drop_eq_nil_of_le (by omega)] at hy2;simp only [CT] at hy2;simp only [LB,hy2] at hi1;obtain ⟨ps,pb⟩:=p;cases pb with
  | true =>
   have:=hy5 rfl;exact Ad (ih (f,ps,true) (by simp) ⟨hy3,by simp only [if_true];exact ⟨by simpa using hi1,by simp only at this;omega⟩⟩) ⟨rfl,rfl,trivial⟩ ⟨rfl,rfl,trivial⟩ rfl
  | false =>
   exact Ad (ih (f,ps,false) (by simp) ⟨hy3,by simpa using hi1⟩) ⟨rfl,rfl,trivial⟩ ⟨rfl,rfl,trivial⟩ rfl
end Go.Hk
namespace Go.Hk
mutual
theorem Pe:∀(t:Ty) (l:Int),(Ai t:Int)<=l->0<=Bj t l
 | .mk _ _ _ ps,l,h=>by
  simp only [Ai] at h;simp only [Bj];rw [if_neg (by omega)];exact Nv ps (l-1) (by omega)
theorem Nv:∀(ts:List Ty) (l:Int),(Ah ts:Int)<=l->0<=BL ts l
 | [],l,h=>by simpa [BL,Ah] using h
 | t::r,l,h=>by
  simp only [Ah] at h;simp only [BL];rw [if_pos (by omega)];have h1:=Pe t l (by omega);have h2:=DS t l h1;exact Nv r _ (by omega)
end
theorem R8 (t:Ty) (l:Nat):decide (0<=Bj t l)=decide (Ai t<=l):=by
 by_cases h:Ai t<=l
 ·rw [decide_eq_true h,decide_eq_true (Pe t l (by omega))]
 ·rw [decide_eq_false h];refine decide_eq_false λh1=>h ?_;have:=DS t l h1;omega
theorem LL (t:Ty):BM false t=EZ t:=by
 simp only [BM,EZ];rw [<- R8 t 12];rfl
theorem bC (t:Ty):B2 t=E4 t:=by
 simp only [B2,E4];rw [<- R8 t 12,Bool.and_assoc];rfl
theorem kD (c:Cd):J4 c=Nb c:=by
 simp only [J4,Nb];rw [show BM false=EZ from funext LL]
theorem gJ (d:Dt):EK d=Ib d:=by
 simp only [EK,Ib,Fp];rw [show J4=Nb from funext kD];simp only [Bool.and_assoc]
end Go.Hk
namespace Go.Hk
open Go.Proofs
def Jo:Ty->Bool
 | .mk s _ _ _=>!(s == 9)
def RX (c:Cse) (p:Ty):Bool:=B2 p&&Cr c.datas c.type p
def HC (c:Cse):Bool:=G5 c.datas&&decide (c.rows.length<=5)&&BM true c.type&&AB c.datas c.type
def Bl (c:Cse):Bool:=HC c&&(DM Jo c.type&&(c.rows.all (RX c)&&decide (Ah c.rows<=30)))
def bO (c:Cse):Bool->V
 | true=>.tup [AM c (AX (D7 c.datas)),.int .i64 0]
 | false=>.tup [.nilp,.int .i64 2]
theorem IY {ds:List Dt} (h:G5 ds=true):Hn ⟨[109],ds,[Hq]⟩=true/\Bm (C0 ds)=true/\Bm (BT ds)=true/\BX ds ds=true:=by
 simp only [G5,Bool.and_eq_true] at h;exact ⟨h.1.1,h.1.2.1,h.1.2.2,h.2⟩
theorem OkD.of2 {ds:List Dt} (h:G5 ds=true):OkD ds:=by
 obtain ⟨h1,_,_,h4⟩:=IY h;exact ⟨h4,λd hd=>by have:=((E8 h1).2 d hd).1;omega⟩
set_option maxHeartbeats 2000000 in
theorem EY (c:Cse):Al Tryz.prog 55 [.agg (dCse c)] (bO c (Bl c)):=by
 have hread:=iU c;have hT:=λq=>Ph 104 q;have hCT:=TW c.type;obtain ⟨ds,t,rows⟩:=c;simp only at hread hCT ⊢;have hTy:=Ph 104 Jo (λt=>by have:=TZ t;obtain ⟨s,n,x,ps⟩:=t;exact this) t;have hNm:=R5 ⟨ds,t,rows⟩ [] t;have hW:=λh4 hl2 hN=>bT ⟨ds,t,rows⟩ h4 hl2 hN;have hF:=λho hd hn p=>YH ⟨ds,t,rows⟩ [] ho hd p t hn;have hc2:Bl ⟨ds,t,rows⟩=(HC ⟨ds,t,rows⟩&&(DM Jo t&&(rows.all (RX ⟨ds,t,rows⟩)&&decide (Ah rows<=30)))):=rfl;have hc1:HC ⟨ds,t,rows⟩=(G5 ds&&decide (rows.length<=5)&&BM true t&&AB ds t):=rfl;generalize Bl ⟨ds,t,rows⟩=cb at *;generalize HC ⟨ds,t,rows⟩=cb1 at *;generalize hnb:AB ds t=nb at *;generalize hfb:BM true t=fb at *;generalize DM Jo t=tb at *;obtain ⟨so,n0,x0,ps0⟩:=t
 refine Ae A5 Tryz.func55 (by decide +kernel) rfl [1,2,3,4,5,6,7,8] rfl rfl ?_;refine bg [] rfl (by simp) ?_;cases hr:G5 ds with
 | false =>
  rw [hr] at hread hc1;refine Ac rfl (λ_=>hread) (by simp) ?_;refine bg [] rfl (by simp [Ag]) ?_;refine Ac rfl (λ_=>hCT) (by simp [Ag]) ?_;refine bg [] rfl (by simp [Ag,Jv]) ?_;refine Hv (v:=.bool true) rfl (λh=>by simp [Ag] at h) rfl (by simp [Ag]) ?_;refine bg [] rfl (by simp [Ag]) ?_;refine Aa rfl (λh=>?_) (λh=>by simp at h);refine bd [] rfl (by simp) ?_;rw [hc2,hc1];exact Ab ⟨_,rfl,tV rfl,trivial⟩
 | true =>
 rw [hr] at hread hc1;obtain ⟨hm,hdn,hdc,han⟩:=IY hr;obtain ⟨hl1,hl2⟩:=E8 hm;have ho:=OkD.of2 hr;have hread:AV Tryz.prog 100 [.imm (.agg (dCse ⟨ds,.mk so n0 x0 ps0,rows⟩))] [] (.ret (.tup [.ref 6 0,.imm (.bool true)]) [(6,some (OY ⟨ds,.mk so n0 x0 ps0,rows⟩))]):=hread;refine Ay (fr:=[2]) [] [(6,2)] rfl (by simp) hread trivial rfl rfl rfl rfl ?_;refine bg [] rfl (by simp [Ag]) ?_;refine Ac rfl (λ_=>hCT) (by simp [Ag]) ?_;refine bg [] rfl (by simp [Ag,Jv]) ?_;refine Hv rfl (λ_=>hNm) rfl (by simp [Ag]) ?_;refine bg [] rfl (by simp [Ag]) ?_;by_cases h1:cb1=true
 case neg =>
  refine Aa rfl (λh=>?_) (λh=>?_)
  ·refine bd [] rfl (by simp) ?_;rw [hc2,show cb1=false by simpa using h1];exact Ab ⟨_,rfl,tV rfl,trivial⟩
  ·exfalso;apply h1;rw [hc1];simp [Jv] at h ⊢;cases fb <;> grind
 have hc1':decide (rows.length<=5)=true/\fb=true/\nb=true:=by rw [h1] at hc1;simp at hc1 ⊢;grind
 obtain ⟨hr5,rfl,rfl⟩:=hc1';have hr5:rows.length<=5:=of_decide_eq_true hr5;rw [h1,Bool.true_and] at hc2;refine Aa rfl (λh=>by exfalso;simp [Jv] at h;omega) (λh=>?_);clear h;refine bd [] rfl (by simp) ?_;refine Ac rfl (λ_=>hTy) (by simp) ?_;refine bg [] rfl (by simp) ?_;cases tb with
 | false =>
  refine Aa rfl (λh=>?_) (λh=>by simp at h);refine bd [] rfl (by simp) ?_;rw [hc2];exact Ab ⟨_,rfl,tV rfl,trivial⟩
 | true =>
 refine Aa rfl (λh=>by simp at h) (λh=>?_);clear h;rw [Bool.true_and] at hc2;have hF:=λp=>hF ho hdc rfl p;generalize hR:RX ⟨ds,.mk so n0 x0 ps0,rows⟩=R at *;have hR:∀p,R p=(B2 p&&Cr ds (.mk so n0 x0 ps0) p):=λp=>by rw [<- hR];rfl
 refine bd [] rfl (by simp) ?_;refine Aj (λi:Nat=>[(42,.imm (.int .i64 i)),(41,.imm (.int .i64 rows.length)),(40,.imm (.sl (AT rows))),(6,.imm (.int .i64 ((Ah (rows.take i):Nat):Int))),(1,.ref 1 0),(4,.ref 2 0)])
  (λ_=>[(1,some (.immb 29 6 (dCse ⟨ds,.mk so n0 x0 ps0,rows⟩))),(2,some (OY ⟨ds,.mk so n0 x0 ps0,rows⟩))]) [3,4,5,6] (λi=>rows.length-i)
  (λi=>i<=rows.length/\rows.all R=(rows.drop i).all R/\Ah (rows.take i)<=12*i) 0 ⟨Nat.zero_le _,rfl,by simp [Ah]⟩ ⟨rfl,As (by simp),rfl,rfl,rfl,rfl,trivial⟩ ⟨rfl,rfl,trivial⟩ rfl λi hi ih=>?_
 obtain ⟨hi1,hi2,hi3⟩:=hi;refine bd [] rfl (by simp) ?_;refine Aa rfl (λh=>?_) (λh=>?_)
 ·simp at h;obtain ⟨p,hp⟩:=Am h;rw [DW hp,hR] at hi2;have hFp:=hF p;have en:Ah (rows.take (i+1))=Ah (rows.take i)+Ai p:=by rw [Be hp,Bo];simp [Ah]
  have hpn:B2 p=true->Ai p<=12:=λh=>by simp only [B2,Bool.and_eq_true,decide_eq_true_eq] at h;exact h.1
  have hCP:=JA p;have hND:=Sm p;refine bd [] rfl (by simp) ?_;refine bi rfl (c:=dTyc p) (λ_=>⟨by simp,by simpa using Ax hp,by simp⟩) (by simp) ?_;generalize B2 p=b1 at *;generalize Cr ds (.mk so n0 x0 ps0) p=b2 at *;obtain ⟨q1,q2,q3,q4⟩:=p;refine bg [] rfl (by simp) ?_;refine Ac rfl (λ_=>hCP) (by simp) ?_;refine bg [] rfl (by simp [Jv]) ?_;refine Hv rfl (λ_=>hFp) rfl (by simp [Ag]) ?_;refine bg [] rfl (by simp [Ag]) ?_;by_cases hb:(b1&&b2)=true
  case neg =>
   refine Aa rfl (λh=>?_) (λh=>?_)
   ·refine bd [] rfl (by simp) ?_;rw [hc2,hi2,show (b1&&b2)=false by simpa using hb];exact Ab ⟨_,rfl,tV rfl,trivial⟩
   ·exfalso;apply hb;simp [Jv] at h ⊢;cases b1 <;> simp_all
  rw [hb,Bool.true_and] at hi2;have hb1:b1=true:=by cases b1;simp at hb;rfl
  have hb2:b2=true:=by cases b2;simp at hb;rfl
  have hp12:=hpn hb1;refine Aa rfl (λh=>by exfalso;simp [Jv,hb1,hb2] at h) (λh=>?_);clear h;refine bd [] rfl (by simp) ?_;refine Ac rfl (λ_=>hND (by omega)) (by simp) ?_;refine bg [] rfl (by simp) ?_;exact Ad (ih (i+1) (by omega) ⟨by omega,hi2,by omega⟩) ⟨As (B9 (by omega) (by omega)),rfl,rfl,As (by rw [en,B9 (by omega) (by omega)];omega),rfl,rfl,trivial⟩ ⟨rfl,rfl,trivial⟩ rfl
 ·simp at h;refine Ar rfl ?_;refine bd [] rfl (by simp) ?_;rw [List.take_of_length_le h];rw [hi2,List.drop_eq_nil_of_le h,List.all_nil,Bool.true_and] at hc2;by_cases h30:Ah rows<=30
  case neg =>
   refine Aa rfl (λh=>?_) (λh=>by exfalso;simp at h;omega);refine bd [] rfl (by simp) ?_;rw [hc2,show decide (Ah rows<=30)=false by simpa using h30];exact Ab ⟨_,rfl,tV rfl,trivial⟩
  rw [hc2,show decide (Ah rows<=30)=true by simpa using h30];refine Aa rfl (λh=>by exfalso;simp at h;omega) (λh=>?_);clear h;refine bd [] rfl (by simp) ?_;refine Ay (fr:=[3]) [(2,1)] [(2,3)] rfl (by simp) (hW hl1 hl2 han) ⟨⟨rfl,rfl,rfl⟩,trivial⟩ rfl rfl rfl rfl ?_;refine bg [] rfl (by simp) ?_;refine BD 3 rfl ?_;refine Og 2 (id:=2) (off:=0) (ty:=181) (sz:=9) (xs:=bP ⟨ds,.mk so n0 x0 ps0,rows⟩ (AX (D7 ds))) rfl rfl ?_;exact Ab ⟨_,rfl,tV rfl,trivial⟩
end Go.Hk
namespace Go.Hk
def JB (P:Program) (n:Nat) (c:Code) (env:Env) (st:St) (ids:List Nat) (env':Env) (st':St) (ids':List Nat):Prop :=
 ∀(b:Frame) (cs:List Frame) (Q:Exit->Act->World->Prop) (I:Imm) (μ:Mu) (a:Act) (w:World) (tail:List Item),Conc n I μ env st ids a w ->
  (∀I' μ' a' w',Conc n I' μ' env' st' ids' a' w'->μ.le μ'->Ext I μ st w I' μ' st' w'->Reach P b cs Q tail a' w')->Reach P b cs Q (.code c::tail) a w
def Nq (P:Program) (n:Nat) (all rest:List Oper) (env:Env) (st:St) (ids:List Nat) (env':Env) (st':St) (ids':List Nat):Prop :=
 ∀(b:Frame) (cs:List Frame) (Q:Exit->Act->World->Prop) (I:Imm) (μ:Mu) (a:Act) (w:World) (tail:List Item) (j:Nat),rest=all.drop j->Conc n I μ env st ids a w ->
  (∀I' μ' a' w',Conc n I' μ' env' st' ids' a' w'->μ.le μ'->Ext I μ st w I' μ' st' w'->Reach P b cs Q tail a' w')->Reach P b cs Q (.inRegion all.toArray (List.range' j rest.length)::tail) a w
section
variable {P:Program} {n:Nat} {tt:TT} {env env' env2 E:Env} {st st' st2 stx:St} {ids ids' ids2:List Nat} {c c':Code} {all rest:List Oper} {o:Oper} {ob:List Prop} {I:Imm} {μ:Mu} {w:World} {d:D}
theorem YT (h:JB P n c env st ids env' st' ids') (h':JB P n c' env' st' ids' env2 st2 ids2):JB P n (.seq c c') env st ids env2 st2 ids2:=λb cs Q I μ a w tail hc k =>
 Sb (h b cs Q I μ a w _ hc λI' μ' a' w' hc' hm he=>h' b cs Q I' μ' a' w' _ hc' λI2 μ2 a2 w2 hc2 hm2 he2=>k I2 μ2 a2 w2 hc2 (λi v hv=>hm2 i v (hm i v hv)) (he.trans he2))
theorem Mu.le_trans' {a b c:Mu} (h:a.le b) (k:b.le c):a.le c:=λi v hv=>k i v (h i v hv)
theorem XP {rid:Nat} (h:Nq P n all all env st ids env' st' ids'):JB P n (.region rid ⟨all⟩ false) env st ids env' st' ids':=λb cs Q I μ a w tail hc k=>by
 refine Lq ?_;have:=h b cs Q I μ a w tail 0 rfl hc k;simpa [List.range_eq_range'] using this
theorem iY:Nq P n all [] env st ids env st ids:=λb cs Q I μ a w tail j hj hc k=>FM (k I μ a w hc (Mu.le_refl μ) (Ext.refl _ _ _ _))
theorem mI {rd fr:List Nat} {wr:St} (hl:LD P (λ_=>False) all o env st rd fr wr d) (hg:o.guard=none) (hnd:∀c,o.op ≠ .defer c) (hn:∀t,o.dst=some t->t<n)
  (h:Nq P n all rest (Bz o.dst d env) (wr++st) ids' env' st' ids2):Nq P n all (o::rest) env st (fr++ids') env' st' ids2:=by
 intro b cs Q I μ a w tail j hr hc k;obtain ⟨hj,hr'⟩:=D5 hr;have hon:J9 (o.looksAt all.toArray) I μ env a:=λt _ d hl=>hc.env t d hl;have hlen:(o::rest).length=rest.length+1:=rfl;rw [hlen,List.range'_succ];have hw:Region.wanted o (yielded all.toArray a.tmps)=true:=A0 hg;obtain ⟨h1,_⟩:=hl I μ st ids' a w (λ_ _=>rfl) hc.toStRep hon;refine FC hj hw hnd (valX.upon ((h1 hw).mono ?_ ?_))
 ·rintro v w2 ⟨I',μ',q1,q2,q4,q3⟩;obtain ⟨p1,p2,p3⟩:=Hh (n:=n) (w:=w2) (dst:=o.dst) (λt d hl=>(hc.env t d hl).mono q3.imm q4) hc.size hn q2;exact h b cs Q I' μ' (a.put o.dst v) w2 tail (j+1) hr'
   {q1 with size:=p2,env:=by cases hdst:o.dst <;> simpa [Bz,hdst] using p1,defers:=by rw [p3];exact hc.defers.ext q3 }
   λI2 μ2 a2 w3 hc2 hm2 he2=>k I2 μ2 a2 w3 hc2 (Mu.le_trans' q4 hm2) (q3.trans he2)
 ·rintro chain w2 ⟨v,x,I2,q1,q2,q3,q4,q5⟩;exact q2.elim
theorem lL (htt:TTok P tt) {i:Nat} {x:Option Blk} {st1:St} {env1:Env} {ids1:List Nat} (h:E1 tt n all o env st ids = .e env1 ((i,x)::st1) ids1 ob) (hob:A9 ob) (hg:o.guard=none) (hr:Nq P n all rest env1 ((i,x)::st) ids1 env' st' ids2) :
  Nq P n all (o::rest) env st ids env' st' ids2:=by
 obtain ⟨d,fr,e1,e2,e3,e4,e5,_,e7⟩:=Sy (P:=P) (Pn:=λ_=>False) htt h hob;subst e2;rw [e3] at hr;exact mI (wr:=[(i,x)]) e7 hg e5 e4 hr
theorem OV (htt:TTok P tt) {rid:Nat} {o1 o2:Oper} {i:Nat} {x y:Option Blk} {st1 st2':St} {env1 env2:Env} {ids1 ids2:List Nat} {ob1 ob2:List Prop} (h1:E1 tt n [o1,o2] o1 env st ids = .e env1 ((i,x)::st1) ids1 ob1) (g1:o1.guard=none)
  (h2:E1 tt n [o1,o2] o2 env1 ((i,x)::st) ids1 = .e env2 ((i,y)::st2') ids2 ob2) (g2:o2.guard=none) (hob1:A9 ob1) (hob2:A9 ob2):JB P n (.region rid ⟨[o1,o2]⟩ false) env st ids env2 ((i,y)::(i,x)::st) ids2 :=
 XP (lL htt h1 hob1 g1 (lL htt h2 hob2 g2 iY))
theorem Q8 {L:K0} {p q:Nat} {fc:Func} {d d2:D} {stB:St} {pend:Option Code} (hf:P.funcs[L.fn]?=some fc) (hps:L.ps = #[p,q]) (hsz:L.tmps.size=n)
  (hd:Iw d=[]) (hd2:Iw d2=[]) (hp:p<n) (hq:q<n) (hfree:Q1 ids L.E stx L.F) (hasg:JB P n L.asg ((q,d2)::(p,d)::L.E) stx ids env st ids')
  (h:DGo P n (dK::(L.F++UW L.E)) (oY pend stB) [.code L.body] env st ids'):O4 P [d,d2] (C9 L stx none) pend.isNone (C9 L stB pend):=by
 intro I μ w b xs hμ hst hx;have hl0:Aq (TX 1 (C9 L stx none)) 0 .pin:=Av.2 (.inl ⟨rfl,rfl⟩);have hl1:Aq (TX 1 (C9 L stx none)) 1 (.bun 0 (C9 L stx none)):=Av.2 (.inr ⟨by simp,Av.2 (.inl ⟨rfl,rfl⟩)⟩);obtain ⟨g1,hg1,b',bs,hb1,rfl,hP⟩:=hst.blk 1 _ hl1;rw [hμ] at hb1;cases hb1;have hbs:∀k∈bs,I k=none/\k<w.heap.size:=λk hk=>hst.apart 1 _ _ k hl1 hg1 (CX.2 hk);have hP0:=hP;obtain ⟨r,ν,bs0,e1,hr1,⟨hr2,hr3⟩,⟨hr4,hr5,hr6,hr7,hr8⟩,hE1,hS,hown,hnb,hF⟩:=Wi hP hfree hst.imm hbs;subst e1;obtain ⟨x,x2,rfl⟩:∃x x2,xs = #[x,x2]:=by
  obtain ⟨l⟩:=xs;have:=hx.1
  match l,this with
  | [x,x2],_=>exact ⟨x,x2,rfl⟩
 have hxd1:RepD I ν x d:=(hx.2 0 x d rfl rfl).sub λj hj=>by rw [hd] at hj;cases hj
 have hxd2:RepD I ν x2 d2:=(hx.2 1 x2 d2 rfl rfl).sub λj hj=>by rw [hd2] at hj;cases hj
 have hszp:(#[x,x2]:Array Value).size=r.params.size:=by rw [hr5,hps];rfl
 unfold oW;rw [run_yield hr1 hszp];refine M4 (fc:=fc) (by rw [hr4];exact hf) λfb cs hbf hbr=>?_;rw [hr5,hps,hr6,hr7,hr8];have hfold:((#[p,q]:Array Nat).zip #[x,x2]).foldl (λtmps (t,a)=>tmps.setIfInBounds t a) L.tmps=(L.tmps.setIfInBounds p x).setIfInBounds q x2:=by simp
 rw [hfold];obtain ⟨hIb,hblt⟩:=hbs b (by simp);have hnob0:¬Bv ν stx b:=λh=>hnb ((hown b).2 h);have hput:∀(w:World) (o:Obj),(w.putObj b o).heap=w.heap.setIfInBounds b o:=λw o=>by
  unfold World.putObj;by_cases hi:b<w.heap.size <;> simp [hi]
 have hoth:∀(w:World) (o:Obj) k,k≠b->(w.putObj b o).heap[k]?=w.heap[k]?:=λw o k hk=>by rw [hput,Array.getElem?_setIfInBounds_ne (Ne.symm hk)]
 obtain ⟨c1,c2,c3⟩:=Hh (n:=n) (w:=w) (a:={ tmps:=L.tmps,defers:=[] }) (dst:=some p) hE1 hsz (λt ht=>by cases ht;exact hp) hxd1;obtain ⟨f1,f2,f3⟩:=Hh (n:=n) (w:=w) (dst:=some q) c1 c2 (λt ht=>by cases ht;exact hq) hxd2;have hc0:Conc n I ν ((q,d2)::(p,d)::L.E) stx ids ((Act.put { tmps:=L.tmps,defers:=[] } (some p) x).put (some q) x2) w:={ hS with size:=f2,env:=f1,defers:=by rw [f3,c3];exact MarksOk.nil _ _ _ _ }
 refine hasg fb cs _ I ν _ w _ hc0 λIA νA aA wA hcA hmA heA=>?_;have hnob:¬Bv νA st b:=λh=>hnob0 (heA.fresh b hblt h);have hrA1:wA.heap[b]?=some (.loop r):=by rw [heA.block b hblt hnob0];exact hr1
 have hIbA:IA b=none:=by rw [heA.old b hblt hnob0];exact hIb
 have hbltA:b<wA.heap.size:=(Array.getElem?_eq_some_iff.1 hrA1).1;obtain ⟨w1,hw1⟩:∃w1:World,w1=wA.putObj b (.loop { r with state:=.busy }):=⟨_,rfl⟩
 have hbeg:=run_beginRound (P:=P) hrA1 hr2;refine Reach.step (stepR_beginRound hbr hbeg) ?_;rw [<- hw1];have hmarks:MarksOk IA νA st w1 aA.defers:=by
  obtain ⟨rs,m1,m2,m3⟩:=hcA.defers;refine ⟨rs,m1,m2,λk hk=>⟨?_,(m3 k hk).2⟩⟩;have h0:=(m3 k hk).1;rw [hw1,hoth _ _ k (λe=>by rw [e,hrA1] at h0;cases h0)];exact h0
 have hc:Conc n IA νA env st ids' aA w1 :=
  {hcA.toStRep.other (by rw [hw1,hput];simp) (λk o hk=>by rw [hw1];exact hoth _ _ k (λe=>by rw [e,hIbA] at hk;cases hk)) (λk hk=>by rw [hw1];exact hoth _ _ k (λe=>hnob (e ▸ hk))) with
   size:=hcA.size
   env:=hcA.env
   defers:=hmarks }
 have hgo:=h ⟨fb,.inl (by simp)⟩ cs IA νA _ w1 [.code L.body] ⟨rfl,trivial⟩ hc;refine Reach.mono (λe a' w' hpost=>?_) hgo;obtain ⟨x',env',st',ids2,I',μ',p1,p2,p3,p4,p5,p6⟩:=hpost;have hb1:w1.heap[b]?=some (.loop { r with state:=.busy }):=by rw [hw1,hput];simp [hbltA]
 have hsz1:w1.heap.size=wA.heap.size:=by rw [hw1,hput];simp
 have hszA:w.heap.size<=wA.heap.size:=heA.size;have hno2:∀k,k<w.heap.size->¬Bv ν stx k->¬Bv νA st k:=λk hk ho hq=>ho (heA.fresh k hk hq);have hfr2:∀k,k<w.heap.size->Bv μ' st' k->Bv ν stx k:=λk hk ho=>heA.fresh k hk (p5.fresh k (by omega) ho);have hold2:∀k,k<w.heap.size->¬Bv ν stx k->I' k=I k:=λk hk ho=>(p5.old k (by omega) (hno2 k hk ho)).trans (heA.old k hk ho);have himm2:I.le I':=Imm.le_trans heA.imm p5.imm;have hb':w'.heap[b]?=some (.loop { r with state:=.busy }):=by rw [p5.block b (by omega) hnob];exact hb1
 have hno':¬Bv μ' st' b:=λho=>hnob (p5.fresh b (by omega) ho);have hI':I' b=none:=by rw [p5.old b (by omega) hnob];exact hIbA
 have hblt':b<w'.heap.size:=(Array.getElem?_eq_some_iff.1 hb').1;have fin:Gw st' stB->∃v w'',(Instr.endRound b pend).run P w' = .ok v w''/\(∃I2 μ2,RepD I2 μ2 v (.imm (.bool pend.isNone))/\StRep I2 μ2 (TX 2 (C9 L stB pend)) [] w'' /\
   Pin (DP (TX 1 (C9 L stx none))) μ μ2/\Ext I μ (TX 1 (C9 L stx none)) w I2 μ2 (TX 2 (C9 L stB pend)) w''):=by
  intro hsub;have hSB:StRep I' μ' stB [] w':=p3.toStRep.less (Ee hsub) .nil (λ_ h=>by simp at h);have hownB':∀k,Bv μ' stB k->Bv μ' st' k:=λk ⟨i,bi,g,q1,q2⟩=>⟨i,bi,g,Ee hsub i bi q1,q2⟩
  have hnoB:¬Bv μ' stB b:=λh=>hno' (hownB' b h);obtain ⟨w2,hw2⟩:∃w2:World,w2=w'.putObj b (.loop { r with state:=if pend.isNone then .ready else .done,pending:=pend }):=⟨_,rfl⟩
  have hend:(Instr.endRound b pend).run P w' = .ok (.bool pend.isNone) w2:=by
   have:=run_endRound (P:=P) pend hb';rw [hw2];exact this
  have hw2s:w2.heap.size=w'.heap.size:=by rw [hw2,hput];simp
  have hw2o:∀k,k≠b->w2.heap[k]?=w'.heap[k]?:=λk hk=>by rw [hw2];exact hoth _ _ k hk
  have hSB2:StRep I' μ' stB [] w2:=hSB.other (by omega) (λk o hk=>hw2o k (λe=>by rw [e,hI'] at hk;cases hk)) (λk hk=>hw2o k (λe=>hnoB (e ▸ hk)));obtain ⟨bsN,hbsN⟩:=PE μ' stB;have hPN:(C9 L stB pend).P I' w2 b (b::bsN):=by
   refine ⟨{ r with state:=if pend.isNone then .ready else .done,pending:=pend },μ',bsN,rfl,by rw [hw2,hput];simp [hblt'],⟨by cases pend <;> rfl,rfl⟩,⟨hr4,hr5,hr6,hr7,hr8⟩,λt d hl=>?_,hSB2.blk,hSB2.inj,hbsN,λhm=>hnoB ((hbsN b).1 hm),λi hi=>?_⟩
   ·exact ((hE1 t d hl).mono himm2 (Mu.le_refl ν)).sub λj hj g hg=>p4 j (by simp [WT hl j hj]) g (hmA j g hg)
   ·exact λg hg0=>p4 i (by simp [hi]) g (hmA i g (hF i hi g hg0))
  obtain ⟨μ2,hμ2⟩:∃μ2:Mu,μ2=λi=>if i=2 then some (.agg (Tx (b::bsN))) else μ i:=⟨_,rfl⟩
  have hm0:μ2 0=some (.func (.yield b) #[] #[]):=by rw [hμ2];simpa using hμ
  have hm2:μ2 2=some (.agg (Tx (b::bsN))):=by rw [hμ2];simp
  have hold:∀k,k∈b::bsN->k<w.heap.size->k∈b::bs0:=λk hk hlt=>by
   rcases List.mem_cons.1 hk with rfl | hk
   ·simp
   ·exact List.mem_cons_of_mem _ ((hown k).2 (hfr2 k hlt (hownB' k ((hbsN k).1 hk))))
  have hnew:∀k∈b::bsN,I' k=none/\k<w2.heap.size:=λk hk=>by
   rcases List.mem_cons.1 hk with rfl | hk
   ·exact ⟨hI',by omega⟩
   ·obtain ⟨i,bi,g,q1,q2,q3⟩:=(hbsN k).1 hk;exact hSB2.apart i bi g k q1 q2 q3
  have hownO:∀k,Bv μ (TX 1 (C9 L stx none)) k↔k∈b::bs0:=λk=>by
   constructor
   ·rintro ⟨i,bi,g,q1,q2,q3⟩;rcases IL (by simp) q1 with ⟨rfl,rfl⟩ | ⟨rfl,rfl⟩
    ·rw [hμ] at q2;cases q2;exact q3.elim
    ·rw [hg1] at q2;cases q2;exact CX.1 q3
   ·intro hk;exact ⟨1,_,_,hl1,hg1,CX.2 hk⟩
  have hownN:∀k,Bv μ2 (TX 2 (C9 L stB pend)) k->k∈b::bsN:=λk=>by
   rintro ⟨i,bi,g,q1,q2,q3⟩;rcases IL (by simp) q1 with ⟨rfl,rfl⟩ | ⟨rfl,rfl⟩
   ·rw [hm0] at q2;cases q2;exact q3.elim
   ·rw [hm2] at q2;cases q2;exact CX.1 q3
  refine ⟨_,w2,hend,I',μ2,.imm _ _ (.bool _),?_,?_,?_⟩
  ·refine { imm:=hSB2.imm,blk:=λi bi hl=>?_,apart:=λi bi g k hl hgi hk=>hnew k (hownN k ⟨i,bi,g,hl,hgi,hk⟩),inj:=λi j bi bj gi gj k hi hj hgi hgj hki hkj=>?_,nodup:=.nil,idsFree:=λ_ h=>by simp at h }
   ·rcases IL (by simp) hl with ⟨rfl,rfl⟩ | ⟨rfl,rfl⟩
    ·exact ⟨_,hm0,b,rfl⟩
    ·exact ⟨_,hm2,b,_,hm0,rfl,hPN⟩
   ·rcases IL (by simp) hi with ⟨rfl,rfl⟩ | ⟨rfl,rfl⟩ <;> rcases IL (by simp) hj with ⟨rfl,rfl⟩ | ⟨rfl,rfl⟩
    ·rfl
    ·rw [hm0] at hgi;cases hgi;exact hki.elim
    ·rw [hm0] at hgj;cases hgj;exact hkj.elim
    ·rfl
  ·intro i hi g hg;simp only [TX,DP,List.map_cons,List.map_nil,List.mem_cons,List.not_mem_nil,or_false] at hi;have:i≠2:=by omega
   rw [hμ2];simp only [if_neg this];exact hg
  ·refine { imm:=himm2,os:=?_,tape:=?_,output:=?_,size:=?_,block:=λk hk hno=>?_,fresh:=λk hk ho=>(hownO k).2 (hold k (hownN k ho) hk),old:=λk hk hno=>hold2 k hk (λh=>hno ((hownO k).2 (List.mem_cons_of_mem _ ((hown k).2 h)))) }
   ·have:=p5.os;rw [hw1] at this;rw [hw2,<- heA.os];unfold World.putObj at this ⊢;exact this
   ·have:=p5.tape;rw [hw1] at this;rw [hw2,<- heA.tape];unfold World.putObj at this ⊢;exact this
   ·have:=p5.output;rw [hw1] at this;rw [hw2,<- heA.output];unfold World.putObj at this ⊢;exact this
   ·have:=p5.size;omega
   ·have hkb:k≠b:=λe=>hno ((hownO k).2 (by simp [e]));have hno3:¬Bv ν stx k:=λh=>hno ((hownO k).2 (List.mem_cons_of_mem _ ((hown k).2 h)));rw [hw2o k hkb,p5.block k (by omega) (hno2 k hk hno3),hw1,hoth _ _ k hkb,heA.block k hk hno3]
 cases e with
 | normal =>
  cases x' <;> simp only [Nj] at p1;cases pend with
  | none=>exact fin p2
  | some c=>exact p2.elim
 | ret =>
  cases x' <;> simp only [Nj] at p1;cases pend with
  | none=>exact p2.elim
  | some c=>cases c <;> first | exact p2.elim | exact fin p2
 | exit j =>
  cases x' <;> simp only [Nj] at p1;cases pend with
  | none=>exact p2.elim
  | some c =>
   cases c <;> first | exact p2.elim | skip
   obtain ⟨q1,q2⟩:=p2;subst q1;subst p1;exact fin q2
 | goto l =>
  cases x' <;> simp only [Nj] at p1;cases pend <;> exact p2.elim
 | panic chain =>
  cases x' <;> simp only [Nj] at p1;cases pend <;> exact p2.elim
 | outgrown=>cases x' <;> simp only [Nj] at p1
theorem Fr {id:Nat}:∀{ds:List DI} {is:List Item},EV id ds=none->Tc ds is->exitTo id is=none
 | [],is,_,hd=>by
  cases is with
  | nil=>rfl
  | cons=>exact hd.elim
 | d::ds,is,h,hd=>by
  obtain ⟨i,is,rfl,h1,h2⟩:=FJ hd;cases d with
  | inBlock id1 =>
   cases i with
   | inBlock id2 =>
    have h1:id2=id1:=h1;subst h1;simp only [EV] at h
    split at h
    ·cases h
    ·rename_i hb;have hne:id2≠id:=λe=>by subst e;simp at hb
     simp [exitTo,hne,Fr h h2]
   | _=>exact h1.elim
  | code c =>
   simp only [EV] at h;cases i <;> simp only [J0] at h1;simp [exitTo,Fr h h2]
  | inLoop c =>
   simp only [EV] at h;cases i <;> simp only [J0] at h1;simp [exitTo,Fr h h2]
  | inScope c =>
   simp only [EV] at h;cases i <;> simp only [J0] at h1;simp [exitTo,Fr h h2]
  | ops all rest =>
   simp only [EV] at h;cases i <;> simp only [J0] at h1;simp [exitTo,Fr h h2]
  | dops all rest fs=>cases i <;> simp only [J0] at h1
theorem VN {F:List Nat} {Q:DQ} {id:Nat} {k:List DI} (he:EV id k=none) (h:Q (.exit id) env st ids):DGo P n F Q (.code (.exit id)::k) env st ids:=by
 intro b cs I μ a w items hd hc;obtain ⟨is,rfl,hk⟩:=GN hd;exact Rn (Fr he hk) ⟨.exit id,env,st,ids,I,μ,rfl,h,hc,.refl _ _,.refl _ _ _ _,.refl _ _⟩
end
end Go.Hk
namespace Go.Hk
open Go.Proofs
def LM (v:Ty):Bool:=decide (0<=BF v 20000 100)&&Mf v
def DR (c:Cse) (v:Ty):Bool:=Bl c&&LM v&&Ki c.datas c.type v
theorem Dc {c:Cse} (h:Bl c=true):OkD c.datas/\Bm (BT c.datas)=true/\AB c.datas c.type=true/\c.rows.length<=5/\∀p∈c.rows,B2 p=true/\Cr c.datas c.type p=true:=by
 simp only [Bl,HC,Bool.and_eq_true,List.all_eq_true,RX,decide_eq_true_eq] at h;obtain ⟨⟨⟨⟨h1,h2⟩,h3⟩,h4⟩,h5,h6,h7⟩:=h;exact ⟨OkD.of2 h1,(IY h1).2.2.1,h4,h2,h6⟩
theorem Wo (c:Cse) (v:Ty):Al Tryz.prog 72 [.agg (dCse c),.agg (dTyc v)] (bO c (DR c v)):=by
 have hW:=EY c;have hF:=X6 v;have hI:=λh=>lO c (AX (D7 c.datas)) (Dc (c:=c) h).1 (Dc h).2.1 v c.type (Dc h).2.2.1;obtain ⟨ds,⟨c1,c2,c3,c4⟩,rows⟩:=c;obtain ⟨g,m,z,vs⟩:=v;have hF:Al Tryz.prog 88 [.agg (dTyc (.mk g m z vs))] (.bool (LM (.mk g m z vs))):=hF;simp only [DR] at hI ⊢;generalize hb:Bl ⟨ds,.mk c1 c2 c3 c4,rows⟩=b at *;generalize LM (.mk g m z vs)=b2 at *;generalize Ki ds (.mk c1 c2 c3 c4) (.mk g m z vs)=b3 at *;refine Ae A5 Tryz.func72 (by decide +kernel) rfl [3,4,5] rfl rfl ?_;refine bg [] rfl (by simp) ?_;cases b with
 | false =>
  refine Ac rfl (λ_=>hW) (by simp) ?_;refine bg [] rfl (by simp) ?_;refine Ac rfl (λ_=>hF) (by simp [Ag]) ?_;refine bg [] rfl (by simp [Ag]) ?_;refine Ac (v:=.bool true) rfl (λh=>by simp [Ag] at h) (by simp [Ag]) ?_;refine bg [] rfl (by simp [Ag]) ?_;refine Aa rfl (λh=>?_) (λh=>by simp at h);refine bd [] rfl (by simp) ?_;exact Ab ⟨_,rfl,tV rfl,trivial⟩
 | true =>
  refine Ac rfl (λ_=>hW) (by simp) ?_;refine bg [] rfl (by simp) ?_;refine Ac rfl (λ_=>hF) (by simp [Ag]) ?_;refine bg [] rfl (by simp [Ag]) ?_;refine Ac rfl (λ_=>hI rfl) (by simp [Ag]) ?_;refine bg [] rfl (by simp [Ag]) ?_;by_cases hh:(b2&&b3)=true
  case neg =>
   refine Aa rfl (λh=>?_) (λh=>by exfalso;apply hh;simp at h ⊢;grind);refine bd [] rfl (by simp) ?_;rw [show (true&&b2&&b3)=false by simpa using hh];exact Ab ⟨_,rfl,tV rfl,trivial⟩
  refine Aa rfl (λh=>by exfalso;simp at h hh;grind) (λh=>?_);refine bd [] rfl (by simp) ?_;rw [show (true&&b2&&b3)=true by simpa using hh];exact Ab ⟨_,rfl,tV rfl,trivial⟩
def ttN:TT:=nK++[]
theorem lZ:TTok Tryz.prog ttN:=.of_eq (l:=[4,3,9,186,26,62,183,27,5,24,23,193,184,60,188,192,90,22,190,87,85,36,281,227,1,230,291,262,255,257,259,114,278,263]) (by kernel_rfl)
section
variable {n:Nat} {F:List Nat} {Q:DQ} {env env':Env} {st st':St} {ids ids':List Nat} {k todo:List DI} {ob:List Prop}
theorem ni {es:List (List V)} {m:Int} {sz:Nat} {e:TypeId} {g:Option (Bool×Bool)} {ob:List Prop} {t:Nat} {todo':List DI} {c:List V} (h:M7 ttN n env todo=some ⟨es,m,sz,e,g,ob,some t,todo'⟩)
  (hc:Ag g->0<=m/\es[m.toNat]?=some c/\c.length=sz) (hob:A9 ob) (hk:G Tryz.prog n F Q todo' ((t,gD g (.ip e c 0))::env) st ids):G Tryz.prog n F Q todo env st ids:=EG lZ h hc hob hk
end
def kQ:Ty->Str
 | .mk _ _ x _=>x
def dO:Code->Option (Code×Code)
 | .rangeFunc _ _ a b=>some (a,b)
 | .seq x y=>match dO x with
  | some r=>some r
  | none=>dO y
 | .block _ c=>dO c
 | _=>none
def kV (f:Func):Code:=match dO (F9 f 0) with
 | some (a,_)=>a
 | none=>.skip
def dM (f:Func):Code:=match dO (F9 f 0) with
 | some (_,b)=>b
 | none=>.skip
end Go.Hk
namespace Go.Hk
open Go.Proofs
theorem LG:Yc Tryz.prog 150=true:=by kernel_rfl
mutual
def Dn:Ty->Ty->List (Ty×Ty)
 | .mk f n x ps,v=>(.mk f n x ps,v)::(bif decide (f=6)&&A6 (AO (.mk f n x ps)) v then DO ps (Bn v) else [])
def DO:List Ty->List Ty->List (Ty×Ty)
 | [],_=>[]
 | _::_,[]=>[]
 | p::r,q::s=>Dn p q++DO r s
end
inductive Yields2 (P:Program):List (Ty×Ty)->Bun->Bool->Bun->Prop where
 | nil (S:Bun):Yields2 P [] S true S
 | cons {d:Ty×Ty} {l:List (Ty×Ty)} {S S1 S2:Bun} {r:Bool} (h:O4 P [.imm (.agg (dTyc d.1)),.imm (.agg (dTyc d.2))] S true S1) (h1:Yields2 P l S1 r S2):Yields2 P (d::l) S r S2
 | stop {d:Ty×Ty} {l:List (Ty×Ty)} {S S1:Bun} (h:O4 P [.imm (.agg (dTyc d.1)),.imm (.agg (dTyc d.2))] S false S1):Yields2 P (d::l) S false S1
theorem Yields2.split {P:Program} {l m:List (Ty×Ty)} {S S2:Bun} {r:Bool} (h:Yields2 P (l++m) S r S2):(∃S1,Yields2 P l S true S1/\Yields2 P m S1 r S2)\/(r=false/\Yields2 P l S false S2):=by
 induction l generalizing S with
 | nil=>exact .inl ⟨S,.nil S,h⟩
 | cons d l ih =>
  cases h with
  | cons h h1 =>
   rcases ih h1 with ⟨S1,q1,q2⟩ | ⟨q1,q2⟩
   ·exact .inl ⟨S1,.cons h q1,q2⟩
   ·exact .inr ⟨q1,.cons h q2⟩
  | stop h=>exact .inr ⟨rfl,.stop h⟩
theorem Yields2.nilInv {P:Program} {S S2:Bun} {r:Bool} (h:Yields2 P [] S r S2):r=true/\S2=S:=by
 cases h;exact ⟨rfl,rfl⟩
def mV (r:St):St:=(1,some (.cells 250 1 [.yld 3]))::(2,some (.cells 250 1 [.fn (.func 175) [] [.ref 1 0,.ref 2 0]]))::r
def goC (p v:Ty) (b:Bool) (S S':Bun):Prop:=AV Tryz.prog 175 [.imm (.agg (dTyc p)),.imm (.agg (dTyc v)),.ref 1 0,.ref 2 0]
 (mV [(3,some .pin),(4,some (.bun 3 S))]) (.ret (.imm (.bool b)) (mV [(3,some .pin),(5,some (.bun 3 S'))]))
theorem Qx (a b:Ty):A6 a b=(match a,b with | .mk s n x _,.mk s' n' x' _=>(s == s')&&((n == n')&&(x == x'))):=by
 obtain ⟨s,n,x,ps⟩:=a;obtain ⟨s',n',x',ps'⟩:=b;simp [A6,Bool.and_assoc]
set_option maxHeartbeats 1000000 in
theorem fM:∀(p v:Ty) {b:Bool} {S S':Bun},Lw p v=true->Yields2 Tryz.prog (Dn p v) S b S'->goC p v b S S'
 | .mk f n x ps,.mk g m z vs,b,S,S',hok,hY=>by
  have hW:=La (.mk f n x ps);have hO:=Yx (.mk g m z vs);simp only [Dn,Bn] at hY;simp only [Lw,Bn] at hok;have hE:=Qx (AO (.mk f n x ps)) (.mk g m z vs);generalize A6 (AO (.mk f n x ps)) (.mk g m z vs)=he at *;generalize AO (.mk f n x ps)=hd at *;obtain ⟨hs,hn,hx,hps⟩:=hd;simp only at hE;refine Ae A5 Tryz.func175 (by decide +kernel) rfl [8,9,6,10,7,5] rfl rfl ?_;refine bg [] rfl (by simp [Ag]) ?_;cases hY with
  | stop h =>
   refine YC (j:=4) (j2:=6) rfl (by simp [Ag]) trivial h rfl rfl rfl rfl rfl ?_;refine bg [] rfl (by simp [Ag]) ?_;refine Aa rfl (λh=>?_) (λh=>by simp at h);refine bd [] rfl (by simp) ?_;refine Ia (ids':=[]) 6 5 rfl rfl ?_;exact Ab ⟨_,rfl,tV rfl,rfl,rfl,rfl,rfl,trivial⟩
  | @cons _ _ _ S1 _ _ h hY =>
   refine YC (j:=4) (j2:=6) rfl (by simp [Ag]) trivial h rfl rfl rfl rfl rfl ?_;refine bg [] rfl (by simp [Ag]) ?_;refine Aa rfl (λh=>by simp at h) (λh=>?_);refine bd [] rfl (by simp) ?_;refine Ac rfl (λ_=>hW) (by simp [Ag]) ?_;refine bg [] rfl (by simp [Ag]) ?_;refine Ac rfl (λ_=>hO) (by simp [Ag]) ?_;refine bg [] rfl (by simp [Ag]) ?_;refine V5 A5 rfl LG (by simp [Ag]) ?_;refine bg [] rfl (by simp [Ag];rfl) ?_;by_cases hg:f=6/\he=true
   case neg =>
    rw [show (bif decide (f=6)&&he then DO ps vs else [])=[] by
     have:(decide (f=6)&&he)=false:=by simp;grind
     rw [this];rfl] at hY
    obtain ⟨rfl,rfl⟩:=hY.nilInv;refine Aa rfl (λh=>?_) (λh=>by exfalso;apply hg;rw [hE];simp at h ⊢;grind);refine bd [] rfl (by simp) ?_;refine Ia (ids':=[]) 6 5 rfl rfl ?_;exact Ab ⟨_,rfl,tV rfl,rfl,rfl,rfl,rfl,trivial⟩
   obtain ⟨rfl,rfl⟩:=hg;have hE1:(hs == g&&(hn == m&&hx == z))=true:=hE.symm;refine Aa rfl (λh=>by exfalso;simp at h hE1;grind) (λh=>?_);clear h;rw [show (bif decide ((6:Int)=6)&&true then DO ps vs else [])=DO ps vs from rfl] at hY;simp only [show decide ((6:Int)=1)=false from rfl,show decide ((6:Int)=2)=false from rfl,Bool.not_true,Bool.false_or,Bool.and_eq_true] at hok;obtain ⟨hlen,hok⟩:=hok;have hlen:ps.length<=vs.length:=of_decide_eq_true hlen;refine bd [] rfl (by simp) ?_;refine VM (t:=25) rfl λhv=>?_;have hpl:ps.length<=9223372036854775807:=by simp [Ey,maxLen] at hv;omega
   refine Aj (λy:Nat×Bun=>[(27,.imm (.int .i64 y.1)),(26,.imm (.int .i64 ps.length)),(25,.imm (.sl (AT ps))),(3,.ref 2 0),(5,.ref 9 0)])
    (λy=>mV [(3,some .pin),(6,some (.bun 3 y.2)),(9,some (.immb 35 4 (dTyc (.mk g m z vs))))]) [10,7,5] (λy=>ps.length-y.1)
    (λy=>y.1<=ps.length/\Lv (ps.drop y.1) (vs.drop y.1)=true/\Yields2 Tryz.prog (DO (ps.drop y.1) (vs.drop y.1)) y.2 b S') (0,S1) ⟨Nat.zero_le _,hok,hY⟩ ⟨rfl,As (by simp),rfl,rfl,rfl,trivial⟩ ⟨rfl,rfl,rfl,rfl,rfl,trivial⟩ rfl λy hi ih=>?_
   obtain ⟨i,S0⟩:=y;obtain ⟨hi1,hi2,hi3⟩:=hi;simp only at hi1 hi2 hi3;refine bd [] rfl (by simp [Ag]) ?_;refine Aa rfl (λh=>?_) (λh=>?_)
   ·simp at h;obtain ⟨t,ht⟩:=Am h;obtain ⟨u,hu⟩:=Am (l:=vs) (i:=i) (by omega);rw [Ao ht,Ao hu] at hi2 hi3;simp only [Lv,Bool.and_eq_true] at hi2;simp only [DO] at hi3;refine bd [] rfl (by simp [Ag]) ?_;refine bi rfl (c:=dTyc t) (λ_=>⟨by simp,by simpa using Ax ht,by simp⟩) (by simp) ?_;refine bg [] rfl (by simp [Ag]) ?_;refine bi rfl (c:=dTyc u) (λ_=>⟨by simp,by simpa using Ax hu,by simp⟩) (by simp) ?_;refine bg [] rfl (by simp [Ag]) ?_;rcases Yields2.split hi3 with ⟨S2,q1,q2⟩ | ⟨q1,q2⟩
    ·refine Ay (fr:=[7]) [(1,1),(2,2),(3,3),(6,4)] [(5,7)] rfl (by simp) (fM t u hi2.1 q1) ⟨⟨rfl,rfl,rfl⟩,⟨rfl,rfl,rfl⟩,⟨rfl,rfl,rfl⟩,⟨rfl,rfl,rfl⟩,trivial⟩ rfl rfl rfl rfl ?_;refine bg [] rfl (by simp [Ag];rfl) ?_;refine Aa rfl (λh=>by simp at h) (λh=>?_);refine bd [] rfl (by simp) ?_;refine A4 6 7 rfl ?_;exact Ad (ih (i+1,S2) (by simp only;omega) ⟨by simp only;omega,hi2.2,q2⟩) ⟨As (B9 (by simp only;omega) (by simp only;omega)),rfl,rfl,rfl,rfl,trivial⟩ ⟨rfl,rfl,rfl,rfl,rfl,trivial⟩ rfl
    ·subst q1;refine Ay (fr:=[7]) [(1,1),(2,2),(3,3),(6,4)] [(5,7)] rfl (by simp) (fM t u hi2.1 q2) ⟨⟨rfl,rfl,rfl⟩,⟨rfl,rfl,rfl⟩,⟨rfl,rfl,rfl⟩,⟨rfl,rfl,rfl⟩,trivial⟩ rfl rfl rfl rfl ?_;refine bg [] rfl (by simp [Ag];rfl) ?_;refine Aa rfl (λh=>?_) (λh=>by simp at h);refine bd [] rfl (by simp) ?_;refine Ia (ids':=[]) 7 5 rfl rfl ?_;exact Ab ⟨_,rfl,tV rfl,rfl,rfl,rfl,rfl,trivial⟩
   ·simp at h;rw [(List.drop_eq_nil_of_le (by omega):ps.drop i=[])] at hi3;obtain ⟨rfl,rfl⟩:=hi3.nilInv;refine Ar rfl ?_;refine bd [] rfl (by simp) ?_;refine Ia (ids':=[]) 6 5 rfl rfl ?_;exact Ab ⟨_,rfl,tV rfl,rfl,rfl,rfl,rfl,trivial⟩
termination_by p=>SizeOf.sizeOf p
decreasing_by
 all_goals
  have:=List.sizeOf_lt_of_mem (List.mem_of_getElem? ht);simp_wf;omega
def EX (p v:Ty):St:=[(6,some (.immb 62 4 (dTyc p))),(7,some (.immb 35 4 (dTyc v)))]
theorem M9 (p v:Ty) (hok:Lw p v=true) {b:Bool} {S S':Bun} (hY:Yields2 Tryz.prog (Dn p v) S b S') :
  AV Tryz.prog 174 [.yld 3,.ref 6 0,.ref 7 0] ((3,some .pin)::(4,some (.bun 3 S))::EX p v) (.ret (.tup []) ((3,some .pin)::(5,some (.bun 3 S'))::EX p v)):=by
 refine Ae A5 Tryz.func174 (by decide +kernel) rfl [1,2,8,5] rfl rfl ?_;obtain ⟨q1,q2,q3,q4⟩:=p;obtain ⟨u1,u2,u3,u4⟩:=v;refine bg [] rfl (by simp [Ag]) ?_;refine Ay (fr:=[8]) [(1,1),(2,2),(3,3),(4,4)] [(5,8)] rfl (by simp) (fM _ _ hok hY) ⟨⟨rfl,rfl,rfl⟩,⟨rfl,rfl,rfl⟩,⟨rfl,rfl,rfl⟩,⟨rfl,rfl,rfl⟩,trivial⟩ rfl rfl rfl rfl ?_;refine bg [] rfl (by simp [Ag]) ?_;refine Ia (ids':=[]) 8 5 rfl rfl ?_;exact Cp ⟨[],rfl,rfl,rfl,rfl,rfl,rfl,trivial⟩
theorem PC (p v:Ty):AV Tryz.prog 127 [.imm (.agg (dTyc p)),.imm (.agg (dTyc v))] [] (.ret (.fn (.func 174) [] [.ref 6 0,.ref 7 0]) (EX p v)):=by
 refine Ae A5 Tryz.func127 (by decide +kernel) rfl [6,7] rfl rfl ?_;obtain ⟨q1,q2,q3,q4⟩:=p;obtain ⟨u1,u2,u3,u4⟩:=v;refine bg [] rfl (by simp [Ag]) ?_;exact Ab ⟨_,rfl,rfl,rfl,rfl,trivial⟩
def NY:Ty->Int
 | .mk s _ _ _=>s
def Gz (l:List (Str×Ty)) (d:Ty×Ty):Option (List (Str×Ty)) :=
 if NY d.1=2 then some (l++[(kQ d.1,d.2)]) else if NY d.1≠1/\A6 (AO d.1) d.2=false then none else some l
def EM:List (Str×Ty)->List (Ty×Ty)->List (Str×Ty)×Bool
 | l,[]=>(l,true)
 | l,d::r=>match Gz l d with
  | some l'=>EM l' r
  | none=>(l,false)
theorem Uq (l:List (Str×Ty)) (f n:Int) (t:Str) (ps:List Ty) (u:Ty):(f=2->Gz l (.mk f n t ps,u)=some (l++[(t,u)])) /\
  (f≠2->f≠1/\A6 (AO (.mk f n t ps)) u=false->Gz l (.mk f n t ps,u)=none)/\(f≠2->¬(f≠1/\A6 (AO (.mk f n t ps)) u=false)->Gz l (.mk f n t ps,u)=some l):=by
 have h0:NY (.mk f n t ps)=f:=rfl;have h1:kQ (.mk f n t ps)=t:=rfl;refine ⟨λh=>?_,λh h'=>?_,λh h'=>?_⟩
 ·simp only [Gz,h0,h1];rw [if_pos h]
 ·simp only [Gz,h0,h1];rw [if_neg h,if_pos h']
 ·simp only [Gz,h0,h1];rw [if_neg h,if_neg h']
def O9:List (Str×Ty)->St
 | []=>[(3,some (.cells 55 1 [.nils])),(4,some (.immb 4 1 [.bool false])),(5,some (.cells 55 1 [.nils]))]
 | b::r=>[(3,some (.cells 55 1 [.nils])),(4,some (.immb 4 1 [.bool false])),(5,some (.cells 55 1 [.own 8 (BW (b::r)).length])),(8,some (.row 101 5 (BW (b::r))))]
set_option maxHeartbeats 1000000 in
theorem kK (l:List (Str×Ty)) (x u:Ty) (hlen:l.length<=1000000) {L:K0} (h1:Tryz.prog.funcs[L.fn]?.isSome) (h2:L.tmps.size=Tryz.f73.ntmps) (h3:L.ps = #[12,13]) (h4:L.asg=kV Tryz.f73)
  (h5:L.body=dM Tryz.f73) (h6:L.E=[(4,.ref 3 0),(5,.ref 4 0),(6,.ref 5 0)]) (h7:L.F=[]) :
  (∀l',Gz l (x,u)=some l'->O4 Tryz.prog [.imm (.agg (dTyc x)),.imm (.agg (dTyc u))] (C9 L (O9 l) none) true (C9 L (O9 l') none)) /\
  (Gz l (x,u)=none->O4 Tryz.prog [.imm (.agg (dTyc x)),.imm (.agg (dTyc u))] (C9 L (O9 l) none) false (C9 L (O9 l) (some .ret))):=by
 obtain ⟨fc,hf⟩:=Option.isSome_iff_exists.1 h1;have hW:=La x;have hO:=Yx u;have hE:=Qx (AO x) u;obtain ⟨f,n,t,ps⟩:=x;have hst:=Uq l f n t ps u;generalize A6 (AO (.mk f n t ps)) u=he at *;generalize AO (.mk f n t ps)=hd at *;obtain ⟨hs,hn,hx,hps⟩:=hd;obtain ⟨g,m,z,vs⟩:=u;simp only at hE;obtain ⟨hst1,hst2,hst3⟩:=hst;have hfree:Q1 [9,10,11,12,13] L.E (O9 l) L.F:=by
  rw [h6,h7];cases l <;> refine ⟨by decide,?_⟩ <;> simp [O9,UW,Iw,Fj,T3,Iv]
 have hasg:∀stx,JB Tryz.prog Tryz.f73.ntmps L.asg ((13,.imm (.agg (dTyc (.mk g m z vs))))::(12,.imm (.agg (dTyc (.mk f n t ps))))::L.E) stx [9,10,11,12,13] _ _ _:=λstx=>by
  rw [h4];exact YT (OV A5 rfl rfl rfl rfl (by simp) (by simp)) (OV A5 rfl rfl rfl rfl (by simp) (by simp))
 by_cases h22:f=2
 ·subst h22;refine ⟨λl' hl'=>?_,λh=>by rw [hst1 rfl] at h;cases h⟩;rw [hst1 rfl] at hl';cases hl';refine Q8 (pend:=none) hf h3 h2 rfl rfl (by decide) (by decide) hfree (hasg _) ?_;rw [h5,h6,h7];cases l with
  | nil =>
   refine bd [] rfl (by simp [Ag]) ?_;refine Aa rfl (λh=>?_) (λh=>by simp at h);refine bd [] rfl (by simp [Ag]) ?_;refine BC A5 rfl ⟨by simp,by simp [maxLen],by simp,trivial⟩ ?_;refine bg [] rfl (by simp [Ag]) ?_;refine A4 8 11 rfl ?_;exact Cp (⟨rfl,rfl,rfl,rfl,trivial⟩:Gw _ (O9 ([]++[(t,.mk g m z vs)])))
  | cons b r =>
   refine bd [] rfl (by simp [Ag]) ?_;refine Aa rfl (λh=>?_) (λh=>by simp at h);refine bd [] rfl (by simp [Ag]) ?_;refine BC A5 rfl ⟨by simp,by simp [maxLen] at hlen ⊢;omega,by simp at hlen ⊢;omega,trivial⟩ ?_;refine bg [] rfl (by simp [Ag]) ?_;refine A4 8 11 rfl ?_;refine Cp (?_:Gw _ (O9 (b::r++[(t,.mk g m z vs)])));have e:BW (b::(r++[(t,.mk g m z vs)]))=BW (b::r)++[LS (t,.mk g m z vs)]:=by simp [BW]
   simp only [O9,List.cons_append,e];exact ⟨rfl,rfl,by simp only [List.length_append];rfl,rfl,trivial⟩
 have hst2:=hst2 h22;have hst3:=hst3 h22;have key:∀(pend:Option Code) (hh:(f≠1/\he=false)↔pend.isSome=true) (hp:pend=none\/pend=some .ret),
   O4 Tryz.prog [.imm (.agg (dTyc (.mk f n t ps))),.imm (.agg (dTyc (.mk g m z vs)))] (C9 L (O9 l) none) pend.isNone (C9 L (O9 l) pend):=by
  intro pend hh hp;refine Q8 (pend:=pend) hf h3 h2 rfl rfl (by decide) (by decide) hfree (hasg _) ?_;rw [h5,h6,h7];refine bd [] rfl (by simp [Ag]) ?_;refine Aa rfl (λh=>absurd (by simpa using h) h22) (λh=>?_);clear h;refine bd [] rfl (by simp [Ag]) ?_;refine Ac rfl (λ_=>hW) (by simp [Ag]) ?_;refine bg [] rfl (by simp [Ag]) ?_;refine Ac rfl (λ_=>hO) (by simp [Ag]) ?_;refine bg [] rfl (by simp [Ag]) ?_;refine V5 A5 rfl LG (by simp [Ag]) ?_;refine bg [] rfl (by simp [Ag];rfl) ?_;rcases hp with rfl | rfl
  ·refine Aa rfl (λh=>?_) (λh=>?_)
   ·exfalso;have:¬(f≠1/\he=false):=λq=>by have:=hh.1 q;cases this
    apply this;simp at h;refine ⟨h.1,?_⟩;rw [hE];simp;grind
   ·refine bd [] rfl (by simp [Ag]) ?_;refine Cp (?_:Gw _ (O9 l));cases l <;> exact ⟨rfl,rfl,rfl,by first | trivial | exact ⟨rfl,trivial⟩⟩
  ·have hq:=hh.2 rfl;refine Aa rfl (λh=>?_) (λh=>?_)
   ·cases l with
    | nil =>
     refine bd [] rfl (by simp [Ag]) ?_;exact Ab (⟨rfl,rfl,rfl,trivial⟩:Gw _ (O9 []))
    | cons b r =>
     refine bd [] rfl (by simp [Ag]) ?_;exact Ab (⟨rfl,rfl,rfl,rfl,trivial⟩:Gw _ (O9 (b::r)))
   ·exfalso;obtain ⟨q1,q2⟩:=hq;rw [q2] at hE;simp at h hE;grind
 refine ⟨λl' hl'=>?_,λh=>?_⟩
 ·have hn:¬(f≠1/\he=false):=λhq=>by rw [hst2 hq] at hl';cases hl'
  rw [hst3 hn] at hl';cases hl';exact key none ⟨λh=>absurd h hn,λh=>by cases h⟩ (.inl rfl)
 ·have hn:f≠1/\he=false:=by
   by_cases hq:f≠1/\he=false
   ·exact hq
   ·rw [hst3 hq] at h;cases h
  exact key (some .ret) ⟨λ_=>rfl,λ_=>hn⟩ (.inr rfl)
theorem Zo {l l':List (Str×Ty)} {d:Ty×Ty} (h:Gz l d=some l'):l'.length<=l.length+1:=by
 unfold Gz at h
 split at h
 ·cases h;simp
 ·split at h
  ·cases h
  ·cases h;omega
theorem Rb {L:K0} (h1:Tryz.prog.funcs[L.fn]?.isSome) (h2:L.tmps.size=Tryz.f73.ntmps) (h3:L.ps = #[12,13]) (h4:L.asg=kV Tryz.f73)
  (h5:L.body=dM Tryz.f73) (h6:L.E=[(4,.ref 3 0),(5,.ref 4 0),(6,.ref 5 0)]) (h7:L.F=[]):∀(items:List (Ty×Ty)) (l:List (Str×Ty)),l.length+items.length<=1000000 ->
  Yields2 Tryz.prog items (C9 L (O9 l) none) (EM l items).2 (C9 L (O9 (EM l items).1) (bif (EM l items).2 then none else some .ret))
 | [],l,_=>.nil _
 | d::r,l,hl=>by
  simp only [List.length_cons] at hl;obtain ⟨q1,q2⟩:=kK l d.1 d.2 (by omega) h1 h2 h3 h4 h5 h6 h7;cases hs:Gz l d with
  | none =>
   rw [show EM l (d::r)=(l,false) by simp only [EM,hs]];exact .stop (q2 hs)
  | some l' =>
   rw [show EM l (d::r)=EM l' r by simp only [EM,hs]];have:=Zo hs;exact .cons (q1 l' hs) (Rb h1 h2 h3 h4 h5 h6 h7 r l' (by omega))
set_option maxHeartbeats 1000000 in
theorem eV (p v:Ty) (hok:Lw p v=true) (hN:(Dn p v).length<=1000000):Al Tryz.prog 73 [.agg (dTyc p),.agg (dTyc v)] (.tup [.sl (BW (bif (EM [] (Dn p v)).2 then (EM [] (Dn p v)).1 else [])),.bool (EM [] (Dn p v)).2]):=by
 have hP:=PC p v;have hP1:=λb S S' h=>M9 p v hok (b:=b) (S:=S) (S':=S') h;have hY:=λL h1 h2 h3 h4 h5 h6 h7=>Rb (L:=L) h1 h2 h3 h4 h5 h6 h7 (Dn p v) [] (by simpa using hN);obtain ⟨q1,q2,q3,q4⟩:=p;obtain ⟨u1,u2,u3,u4⟩:=v;generalize EM [] (Dn (.mk q1 q2 q3 q4) (.mk u1 u2 u3 u4))=r at *;obtain ⟨l,b⟩:=r;simp only at hY ⊢;refine Ae A5 Tryz.func73 (by decide +kernel) rfl [1,2,3,4,5,6,7,8,9,10,11,12,13] rfl rfl ?_;refine bg [] rfl (by simp) ?_;refine Ay (st0:=[]) (fr:=[6,7]) [] [(6,6),(7,7)] rfl (by simp) hP trivial rfl rfl rfl rfl ?_;refine bd [] rfl (by simp) ?_
 refine MV (y:=3) (j:=4) (j2:=5) (stc:=EX (.mk q1 q2 q3 q4) (.mk u1 u2 u3 u4)) (stc':=EX (.mk q1 q2 q3 q4) (.mk u1 u2 u3 u4)) (stx:=O9 []) (stB:=O9 l) (pend:=bif b then none else some .ret) (E:=[(4,.ref 3 0),(5,.ref 4 0),(6,.ref 5 0)]) (ids':=[9,10,11,12,13]) (d:=.tup []) rfl Tryz.func174 (by decide +kernel) rfl (by decide) ⟨rfl,rfl,rfl,trivial⟩
   (Ee ⟨rfl,rfl,rfl,rfl,rfl,trivial⟩) (λL h1 h2 h3 h4 h5 h6 h7=>?_) ?_ ?_ ?_ ?_ ?_
 ·exact hP1 b _ _ (hY L h1 h2 h3 h4 h5 h6 h7)
 ·simp [EX,O9,DP]
 ·simp [EX,DP]
 ·intro i hi;have e:Iv (FB (DB (AU []++[(6,6),(7,7)])) []++FB (DB (AU []++[(6,6),(7,7)])) [.ref 6 0,.ref 7 0])=[6,7]:=rfl;rw [e] at hi;simpa [EX,DP,Fj,T3,Iv,Iw] using hi
 ·cases l <;> refine ⟨by decide,?_⟩ <;> simp [O9,UW,Iw,Fj,T3,Iv,DP]
 ·cases b with
  | false =>
   cases l <;> exact Ab ⟨_,rfl,tV rfl,trivial⟩
  | true =>
   cases l with
   | nil =>
    refine bd [] rfl (by simp [Ag]) ?_;exact Ab ⟨_,rfl,tV rfl,trivial⟩
   | cons x r =>
    refine BD 8 rfl ?_;refine bd [] rfl (by simp [Ag]) ?_;exact Ab ⟨_,rfl,tV rfl,trivial⟩
theorem IE:∀v:Ty,Ai v<=1000000000000->Al Tryz.prog 74 [.agg (dTyc v)] (.agg (dTyc v))
 | .mk s n x ps,hN=>by
  refine AI λhv=>?_;simp [Cf,Ey,dTyc,maxLen] at hv;simp only [Ai] at hN;have hpl:ps.length<=1000000000000:=by
   have:∀l:List Ty,l.length<=Ah l:=λl=>by
    induction l with
    | nil=>simp
    | cons t r ih=>obtain ⟨a,b,c,d⟩:=t;simp only [Ah,Ai,List.length_cons];omega
   have:=this ps;omega
  refine Ae A5 Tryz.func74 (by decide +kernel) rfl [1,2,3,4,5,6] rfl rfl ?_;refine bg [] rfl (by simp) ?_;refine CI (e:=35) (sz:=4) 3 3 (by decide) rfl ?_;refine Aj (λi:Nat=>[(9,.imm (.int .i64 i)),(8,.imm (.int .i64 ps.length)),(7,.imm (.sl (AT ps))),(3,.own 3 (AT (ps.take i)).length),(1,.ref 1 0),(2,.ref 2 0)])
   (λi=>[(3,some (.row 35 4 (AT (ps.take i)))),(1,some (.immb 35 4 (dTyc (.mk s n x ps)))),(2,some (.cells 35 4 [.imm (.int .i64 0),.imm (.int .i64 0),.imm (.str []),.nils]))]) [4,5,6] (λi=>ps.length-i)
   (λi=>i<=ps.length) 0 (Nat.zero_le _) ⟨rfl,As (by simp),rfl,rfl,rfl,rfl,trivial⟩ ⟨rfl,rfl,rfl,trivial⟩ rfl λi hi ih=>?_
  refine bd [] rfl (by simp) ?_;refine Aa rfl (λh=>?_) (λh=>?_)
  ·simp at h;obtain ⟨t,ht⟩:=Am h;have hb:=BU ht;refine bd [] rfl (by simp) ?_;refine bi rfl (c:=dTyc t) (λ_=>⟨by simp,by simpa using Ax ht,by simp⟩) (by simp) ?_;refine bg [] rfl (by simp) ?_;refine Ac rfl (λ_=>IE t (by omega)) (by simp) ?_;refine bg [] rfl (by simp) ?_;refine BC A5 rfl ⟨by simp,by simp [maxLen];omega,by simp;omega,trivial⟩ ?_;refine bg [] rfl (by simp) ?_;refine A4 3 5 rfl ?_;have et:AT (ps.take (i+1))=AT (ps.take i)++[dTyc t]:=by rw [Be ht,Oh];simp [AT]
   exact Ad (ih (i+1) (by omega) (by omega)) ⟨As (B9 (by omega) (by omega)),rfl,rfl,by rw [et];rfl,rfl,rfl,trivial⟩ ⟨by rw [et];rfl,rfl,rfl,trivial⟩ rfl
  ·simp at h;refine Ar rfl ?_;rw [List.take_of_length_le h];refine BD 3 rfl ?_;refine bd [] rfl (by simp) ?_;exact Ab ⟨_,rfl,tV rfl,trivial⟩
termination_by v=>SizeOf.sizeOf v
decreasing_by
 have:=List.sizeOf_lt_of_mem (List.mem_of_getElem? ht);simp_wf;omega
def HK (d:Ty×Ty):Bool:=decide (NY d.1≠1)&&decide (NY d.1≠2) && !A6 (AO d.1) d.2
theorem W6 (l:List (Str×Ty)) (d:Ty×Ty):(Gz l d).isSome = !HK d:=by
 unfold Gz HK;by_cases h2:NY d.1=2
 ·rw [if_pos h2];simp [h2]
 ·rw [if_neg h2];by_cases h1:NY d.1≠1/\A6 (AO d.1) d.2=false
  ·rw [if_pos h1];simp [h1,h2]
  ·rw [if_neg h1];simp only [Option.isSome_some];by_cases h3:NY d.1=1
   ·simp [h3]
   ·have:A6 (AO d.1) d.2=true:=by cases hh:A6 (AO d.1) d.2;exact absurd ⟨h3,hh⟩ h1;rfl
    simp [this]
theorem U3:∀(items:List (Ty×Ty)) (l:List (Str×Ty)),(EM l items).2=items.all λd=>!HK d
 | [],l=>rfl
 | d::r,l=>by
  have:=W6 l d;simp only [EM,List.all_cons];cases hs:Gz l d with
  | none=>rw [hs] at this;simp at this;simp [this]
  | some l'=>rw [hs] at this;simp at this;simp [this,U3 r l']
def P5:Code->Option (Code×Code)
 | .rangeFunc _ _ a b=>some (a,b)
 | .seq x y=>match P5 x with
  | some r=>some r
  | none=>P5 y
 | .block _ c=>P5 c
 | .scope c=>P5 c
 | .loop c=>P5 c
 | _=>none
def dN (f:Func):Code:=match P5 (F9 f 0) with
 | some (a,_)=>a
 | none=>.skip
def Yh (f:Func):Code:=match P5 (F9 f 0) with
 | some (_,b)=>b
 | none=>.skip
def Zp (v:Ty):St:=[(1,some (.immb 35 4 (dTyc v)))]
def eR (c:Cse) (sz:List (List V)) (i:Nat):Env:=[(5,.imm (.int .i64 i)),(15,.imm (.int .i64 i)),(14,.imm (.int .i64 c.rows.length)),(13,.imm (.sl (AT c.rows))),(0,.imm (AM c sz)),(3,.ref 1 0)]
set_option maxHeartbeats 1000000 in
theorem YW (c:Cse) (sz:List (List V)) (i:Nat) (v x u:Ty) {L:K0} (h1:Tryz.prog.funcs[L.fn]?.isSome) (h2:L.tmps.size=Tryz.f98.ntmps) (h3:L.ps = #[23,24]) (h4:L.asg=dN Tryz.f98)
  (h5:L.body=Yh Tryz.f98) (h6:L.E=eR c sz i) (h7:L.F=[]) (pend:Option Code) (hp:pend=none\/pend=some (.exit 1)) (hh:HK (x,u)=pend.isSome) :
  O4 Tryz.prog [.imm (.agg (dTyc x)),.imm (.agg (dTyc u))] (C9 L (Zp v) none) pend.isNone (C9 L (Zp v) pend):=by
 obtain ⟨fc,hf⟩:=Option.isSome_iff_exists.1 h1;have hW:=La x;have hO:=Yx u;have hE:=Qx (AO x) u;obtain ⟨f,n,t,ps⟩:=x;have hs:HK (.mk f n t ps,u)=(decide (f≠1)&&decide (f≠2) && !A6 (AO (.mk f n t ps)) u):=rfl;rw [hs] at hh;clear hs;generalize A6 (AO (.mk f n t ps)) u=he at *;generalize AO (.mk f n t ps)=hd at *;obtain ⟨hs,hn,hx,hps⟩:=hd;obtain ⟨g,m,z,vs⟩:=u;simp only at hE;have hfree:Q1 [9,10,11,12,13] L.E (Zp v) L.F:=by
  rw [h6,h7];refine ⟨by decide,?_⟩;simp [Zp,eR,UW,Iw,Fj,T3,Iv]
 have hasg:∀stx,JB Tryz.prog Tryz.f98.ntmps L.asg ((24,.imm (.agg (dTyc (.mk g m z vs))))::(23,.imm (.agg (dTyc (.mk f n t ps))))::L.E) stx [9,10,11,12,13] _ _ _:=λstx=>by
  rw [h4];exact YT (OV A5 rfl rfl rfl rfl (by simp) (by simp)) (OV A5 rfl rfl rfl rfl (by simp) (by simp))
 refine Q8 (pend:=pend) hf h3 h2 rfl rfl (by decide) (by decide) hfree (hasg _) ?_;rw [h5,h6,h7];refine bd [] rfl (by simp [Ag]) ?_;refine Ac rfl (λ_=>hW) (by simp [Ag]) ?_;refine bg [] rfl (by simp [Ag]) ?_;refine Ac rfl (λ_=>hO) (by simp [Ag]) ?_;refine bg [] rfl (by simp [Ag]) ?_;refine V5 A5 rfl LG (by simp [Ag]) ?_;refine bg [] rfl (by simp [Ag];rfl) ?_;rcases hp with rfl | rfl
 ·refine Aa rfl (λh=>?_) (λh=>?_)
  ·exfalso;rw [hE] at hh;simp at h hh;grind
  ·refine bd [] rfl (by simp [Ag]) ?_;exact Cp (⟨rfl,trivial⟩:Gw _ (Zp v))
 ·refine Aa rfl (λh=>?_) (λh=>?_)
  ·refine bd [] rfl (by simp [Ag]) ?_;exact VN rfl (⟨rfl,rfl,trivial⟩:(1:Nat)=1/\Gw _ (Zp v))
  ·exfalso;rw [hE] at hh;simp at h hh;grind
theorem Wx (c:Cse) (sz:List (List V)) (i:Nat) (v:Ty) {L:K0} (h1:Tryz.prog.funcs[L.fn]?.isSome) (h2:L.tmps.size=Tryz.f98.ntmps) (h3:L.ps = #[23,24]) (h4:L.asg=dN Tryz.f98)
  (h5:L.body=Yh Tryz.f98) (h6:L.E=eR c sz i) (h7:L.F=[]):∀(items:List (Ty×Ty)),
  Yields2 Tryz.prog items (C9 L (Zp v) none) (items.all λd=>!HK d) (C9 L (Zp v) (bif items.all λd=>!HK d then none else some (.exit 1)))
 | []=>.nil _
 | d::r=>by
  cases hs:HK d with
  | true =>
   rw [show ((d::r).all λd=>!HK d)=false by simp [hs]];exact .stop (YW c sz i v d.1 d.2 h1 h2 h3 h4 h5 h6 h7 (some (.exit 1)) (.inr rfl) hs)
  | false =>
   rw [show ((d::r).all λd=>!HK d)=r.all λd=>!HK d by simp [hs]];exact .cons (YW c sz i v d.1 d.2 h1 h2 h3 h4 h5 h6 h7 none (.inl rfl) hs) (Wx c sz i v h1 h2 h3 h4 h5 h6 h7 r)
def Yf (v p:Ty):Bool:=(Dn p v).all λd=>!HK d
def HA (v:Ty):Nat->List Ty->Int
 | _,[]=>-1
 | i,p::r=>bif Yf v p then (i:Int) else HA v (i+1) r
set_option maxHeartbeats 1000000 in
theorem mF (c:Cse) (sz:List (List V)) (v:Ty) (hok:∀p∈c.rows,Lw p v=true):Al Tryz.prog 98 [AM c sz,.agg (dTyc v)] (.int .i64 (HA v 0 c.rows)):=by
 have hP:=λp=>PC p v;have hP1:=λp hok b S S' h=>M9 p v hok (b:=b) (S:=S) (S':=S') h;have hY:=λi L h1 h2 h3 h4 h5 h6 h7 items=>Wx c sz i v (L:=L) h1 h2 h3 h4 h5 h6 h7 items;have hrl:Al Tryz.prog 98 [AM c sz,.agg (dTyc v)] (.int .i64 (HA v 0 c.rows))↔Al Tryz.prog 98 [AM c sz,.agg (dTyc v)] (.int .i64 (HA v 0 c.rows)):=Iff.rfl;clear hrl;obtain ⟨ds,⟨c1,c2,c3,c4⟩,rows⟩:=c;obtain ⟨g,m,z,vs⟩:=v;simp only at hok ⊢;refine Ae A5 Tryz.func98 (by decide +kernel) rfl [1,2,6,7,9,10,11,12,13] rfl rfl ?_;refine bg [] rfl (by simp) ?_;refine VM (t:=13) rfl λhv=>?_;have hlen:rows.length<=9223372036854775807:=by simp [Ey,maxLen] at hv;omega
 refine Aj (λi:Nat=>[(15,.imm (.int .i64 i)),(14,.imm (.int .i64 rows.length)),(13,.imm (.sl (AT rows))),(0,.imm (AM ⟨ds,.mk c1 c2 c3 c4,rows⟩ sz)),(3,.ref 1 0)]) (λ_=>Zp (.mk g m z vs)) [2,6,7,9,10,11,12,13] (λi=>rows.length-i)
  (λi=>i<=rows.length/\HA (.mk g m z vs) 0 rows=HA (.mk g m z vs) i (rows.drop i)) 0 ⟨Nat.zero_le _,rfl⟩ ⟨rfl,As (by simp),rfl,rfl,rfl,trivial⟩ ⟨rfl,trivial⟩ rfl λi hi ih=>?_
 obtain ⟨hi1,hi2⟩:=hi;refine bd [] rfl (by simp) ?_;refine Aa rfl (λh=>?_) (λh=>?_)
 ·simp at h;obtain ⟨p,hp⟩:=Am h;rw [Ao hp] at hi2;simp only [HA] at hi2;have hokp:=hok p (List.mem_of_getElem? hp);refine bd [] rfl (by simp) ?_;refine bi rfl (c:=dTyc p) (λ_=>⟨by simp,by simpa using Ax hp,by simp⟩) (by simp) ?_;refine bg [] rfl (by simp) ?_;refine Ay (st0:=[]) (fr:=[6,7]) [] [(6,6),(7,7)] rfl (by simp) (hP p) trivial rfl rfl rfl rfl ?_;refine bd [] rfl (by simp) ?_;have hro:((Dn p (.mk g m z vs)).all λd=>!HK d)=Yf (.mk g m z vs) p:=rfl;generalize Yf (.mk g m z vs) p=b at *
  refine MV (y:=3) (j:=4) (j2:=5) (stc:=EX p (.mk g m z vs)) (stc':=EX p (.mk g m z vs)) (stx:=Zp (.mk g m z vs)) (stB:=Zp (.mk g m z vs)) (pend:=bif b then none else some (.exit 1)) (E:=eR ⟨ds,.mk c1 c2 c3 c4,rows⟩ sz i) (ids':=[2,6,7,9,10,11,12,13]) (d:=.tup []) rfl Tryz.func174 (by decide +kernel) rfl (by decide) ⟨rfl,rfl,rfl,rfl,rfl,rfl,trivial⟩
   (Ee ⟨rfl,rfl,rfl,trivial⟩) (λL h1 h2 h3 h4 h5 h6 h7=>?_) ?_ ?_ ?_ ?_ ?_
  ·have:=hY i L h1 h2 h3 h4 h5 h6 h7 (Dn p (.mk g m z vs));rw [hro] at this;exact hP1 p hokp b _ _ this
  ·simp [EX,Zp,DP]
  ·simp [EX,DP]
  ·intro k hk;have e:Iv (FB (DB (AU []++[(6,6),(7,7)])) []++FB (DB (AU []++[(6,6),(7,7)])) [.ref 6 0,.ref 7 0])=[6,7]:=rfl;rw [e] at hk;simpa [EX,DP,Fj,T3,Iv,Iw] using hk
  ·refine ⟨by decide,?_⟩;simp [Zp,eR,UW,Iw,Fj,T3,Iv,DP]
  ·cases b with
   | true =>
    rw [hi2];refine bd [] rfl (by simp [Ag]) ?_;exact Ab ⟨_,rfl,tV rfl,trivial⟩
   | false =>
    refine Ar rfl ?_;refine bd [] rfl (by simp [Ag]) ?_;exact Ad (ih (i+1) (by omega) ⟨by omega,hi2⟩) ⟨As (B9 (by omega) (by omega)),rfl,rfl,rfl,rfl,trivial⟩ ⟨rfl,trivial⟩ rfl
 ·simp at h;refine Ar rfl ?_;refine bd [] rfl (by simp) ?_;rw [hi2,List.drop_eq_nil_of_le (by omega)];exact Ab ⟨_,rfl,tV rfl,trivial⟩
theorem PB {s n:Int} {x:Str} {k:Nat} (h:D0 s n x k=true):(s=1\/s=2\/s=3\/s=4\/s=5\/s=6)/\(s≠6->k=0):=by
 unfold D0 at h
 split at h
 ·simp at h;grind
 ·split at h
  ·simp at h;grind
  ·split at h
   ·simp at h;grind
   ·split at h
    ·simp at h;grind
    ·split at h
     ·simp at h;grind
     ·cases h
mutual
theorem Yw (ds:List Dt):∀p t v:Ty,BB p=true->Cr ds t p=true->Ki ds t v=true->Lw p v=true
 | .mk f n x ps,.mk so m x0 qs,.mk g k z vs,hw,hp,hv=>by
  simp only [BB,Bool.and_eq_true] at hw;obtain ⟨hk1,hk2⟩:=PB hw.1;simp only [Lw,Bn];by_cases h1:f=1
  ·simp [h1]
  by_cases h2:f=2
  ·simp [h2]
  simp only [h1,h2,decide_false,Bool.false_or];cases he:A6 (AO (.mk f n x ps)) (.mk g k z vs) with
  | false=>rfl
  | true =>
   simp only [Bool.not_true,Bool.false_or,Bool.and_eq_true];by_cases h6:f=6
   ·subst h6;simp only [AO,A6] at he;simp at he;obtain ⟨⟨e1,e2⟩,e3⟩:=he;subst e3;rw [M8] at hp;rw [H7] at hv;simp only [JH,Kh,<- e1] at hp hv;simp at hp hv;obtain ⟨p1,p2,p3⟩:=hp;have h8:so=8:=by
     unfold AK at p2;cases hc:decide (0<=(B4 ds (.mk so m x0 qs) x).2) with
     | false=>rw [hc] at p2;simp at p2
     | true =>
      simp only [B4] at hc;by_cases h8:so=8
      ·exact h8
      ·simp [h8] at hc
    subst h8;simp at hv;exact ⟨decide_eq_true (by omega),UO ds ps _ vs p1 hw.2 p3 hv.2.2⟩
   ·have:=hk2 h6;have hps:ps=[]:=List.eq_nil_of_length_eq_zero this;subst hps;simp [Lv]
theorem UO (ds:List Dt):∀ps ts vs:List Ty,ts.length=ps.length->B7 ps=true->Ck ds ts ps=true->GW ds ts vs=true->Lv ps vs=true
 | [],_,_,_,_,_,_=>rfl
 | _::_,_,[],_,_,_,_=>rfl
 | p::r,[],v::s,hl,_,_,_=>by simp at hl
 | p::r,a::ts,v::s,hl,hw,hp,hv=>by
  simp only [B7,Ck,GW,Lv,Bool.and_eq_true] at hw hp hv ⊢;exact ⟨Yw ds p a v hw.1 hp.1 hv.1,UO ds r ts s (by simpa using hl) hw.2 hp.2 hv.2⟩
end
mutual
theorem Se:∀p v:Ty,(Dn p v).length<=Ai p
 | .mk f n x ps,v=>by
  have:=PD ps (Bn v);simp only [Dn,Ai,List.length_cons];cases decide (f=6)&&A6 (AO (.mk f n x ps)) v
  ·simp
  ·simp;omega
theorem PD:∀ps vs:List Ty,(DO ps vs).length<=Ah ps
 | [],_=>by simp [DO]
 | _::_,[]=>by simp [DO]
 | p::r,q::s=>by
  have h1:=Se p q;have h2:=PD r s;simp only [DO,Ah,List.length_append];omega
end
mutual
theorem RW:∀(p v:Ty),BB p=true->Lw p v=true->∀(l:List (Str×Ty)) (rest:List (Ty×Ty)),
  ((Bf p v).2=true->EM l (Dn p v++rest)=EM (l++(Bf p v).1) rest)/\((Bf p v).2=false->(EM l (Dn p v++rest)).2=false)
 | .mk f n x ps,v,hw,hok,l,rest=>by
  simp only [BB,Bool.and_eq_true] at hw;obtain ⟨hk1,hk2⟩:=PB hw.1;obtain ⟨s1,s2,s3⟩:=Uq l f n x ps v;simp only [Lw] at hok;simp only [Dn,Bf,List.cons_append,EM];by_cases h1:f=1
  ·subst h1;rw [s3 (by decide) (by simp)];simp
  by_cases h2:f=2
  ·subst h2;rw [s1 rfl];simp
  simp only [h1,h2,if_false,decide_false,Bool.false_or] at hok ⊢;cases he:A6 (AO (.mk f n x ps)) v with
  | false =>
   rw [s2 h2 ⟨h1,he⟩];simp
  | true =>
   rw [s3 h2 (by rw [he];simp)];rw [he] at hok;simp only [Bool.not_true,Bool.false_or,Bool.and_eq_true] at hok;by_cases h6:f=6
   ·subst h6;have:=P2 ps (Bn v) hw.2 hok.2 (of_decide_eq_true hok.1) l rest;simpa using this
   ·have hps:ps=[]:=List.eq_nil_of_length_eq_zero (hk2 h6);subst hps;simp [h6,By]
theorem P2:∀(ps vs:List Ty),B7 ps=true->Lv ps vs=true->ps.length<=vs.length->∀(l:List (Str×Ty)) (rest:List (Ty×Ty)),
  ((By ps vs).2=true->EM l (DO ps vs++rest)=EM (l++(By ps vs).1) rest)/\((By ps vs).2=false->(EM l (DO ps vs++rest)).2=false)
 | [],_,_,_,_,l,rest=>by simp [By,DO]
 | _::_,[],_,_,hl,l,rest=>by simp at hl
 | p::r,q::s,hw,hok,hl,l,rest=>by
  simp only [B7,Lv,Bool.and_eq_true] at hw hok;simp only [By,DO,List.append_assoc];obtain ⟨a1,a2⟩:=RW p q hw.1 hok.1 l (DO r s++rest);obtain ⟨b1,b2⟩:=P2 r s hw.2 hok.2 (by simpa using hl) (l++(Bf p q).1) rest;cases hp:(Bf p q).2 with
  | false=>simp [a2 hp]
  | true =>
   rw [a1 hp];cases hr:(By r s).2 with
   | false=>simp [b2 hr]
   | true=>simp [b1 hr]
end
theorem P3 (p v:Ty) (hw:BB p=true) (hok:Lw p v=true):(EM [] (Dn p v)).2=(Bf p v).2/\(bif (EM [] (Dn p v)).2 then (EM [] (Dn p v)).1 else [])=(Bf p v).1:=by
 obtain ⟨h1,h2⟩:=RW p v hw hok [] [];rw [List.append_nil] at h1 h2;cases h:(Bf p v).2 with
 | true=>rw [h1 h];simp [EM]
 | false=>rw [h2 h];simp [T5 p v h]
theorem SH (v:Ty):∀(rows:List Ty) (i:Nat),(∀p∈rows,BB p=true/\Lw p v=true)->HA v i rows=Bk v i rows
 | [],i,_=>rfl
 | p::r,i,h=>by
  have:=(P3 p v (h p (by simp)).1 (h p (by simp)).2).1;rw [U3] at this;simp only [HA,Bk];rw [show Yf v p=(Bf p v).2 from this,SH v r (i+1) λq hq=>h q (by simp [hq])]
set_option maxHeartbeats 1000000 in
theorem ZI (p v:Ty) (hok:Lw p v=true) (hN:(Dn p v).length<=1000000) {b:Str×Ty} {r:List (Str×Ty)} (hr:EM [] (Dn p v)=(b::r,true)) :
  AV Tryz.prog 73 [.imm (.agg (dTyc p)),.imm (.agg (dTyc v))] [] (.ret (.tup [.own 8 (BW (b::r)).length,.imm (.bool true)]) [(8,some (.row 101 5 (BW (b::r))))]):=by
 have hP:=PC p v;have hP1:=λb S S' h=>M9 p v hok (b:=b) (S:=S) (S':=S') h;have hY:=λL h1 h2 h3 h4 h5 h6 h7=>Rb (L:=L) h1 h2 h3 h4 h5 h6 h7 (Dn p v) [] (by simpa using hN);rw [hr] at hY;obtain ⟨q1,q2,q3,q4⟩:=p;obtain ⟨u1,u2,u3,u4⟩:=v;simp only at hY ⊢;refine Ae A5 Tryz.func73 (by decide +kernel) rfl [1,2,3,4,5,6,7,8,9,10,11,12,13] rfl rfl ?_;refine bg [] rfl (by simp) ?_;refine Ay (st0:=[]) (fr:=[6,7]) [] [(6,6),(7,7)] rfl (by simp) hP trivial rfl rfl rfl rfl ?_;refine bd [] rfl (by simp) ?_
 refine MV (y:=3) (j:=4) (j2:=5) (stc:=EX (.mk q1 q2 q3 q4) (.mk u1 u2 u3 u4)) (stc':=EX (.mk q1 q2 q3 q4) (.mk u1 u2 u3 u4)) (stx:=O9 []) (stB:=O9 (b::r)) (pend:=none) (E:=[(4,.ref 3 0),(5,.ref 4 0),(6,.ref 5 0)]) (ids':=[9,10,11,12,13]) (d:=.tup []) rfl Tryz.func174 (by decide +kernel) rfl (by decide) ⟨rfl,rfl,rfl,trivial⟩
   (Ee ⟨rfl,rfl,rfl,rfl,rfl,trivial⟩) (λL h1 h2 h3 h4 h5 h6 h7=>?_) ?_ ?_ ?_ ?_ ?_
 ·exact hP1 true _ _ (hY L h1 h2 h3 h4 h5 h6 h7)
 ·simp [EX,O9,DP]
 ·simp [EX,DP]
 ·intro i hi;have e:Iv (FB (DB (AU []++[(6,6),(7,7)])) []++FB (DB (AU []++[(6,6),(7,7)])) [.ref 6 0,.ref 7 0])=[6,7]:=rfl;rw [e] at hi;simpa [EX,DP,Fj,T3,Iv,Iw] using hi
 ·refine ⟨by decide,?_⟩;simp [O9,UW,Iw,Fj,T3,Iv,DP]
 ·refine bd [] rfl (by simp [Ag]) ?_;exact Ab ⟨_,rfl,rfl,rfl,trivial⟩
theorem IG {c:Cse} {v:Ty} (h:DR c v=true):∀p∈c.rows,BB p=true/\Lw p v=true/\Ai p<=12:=by
 simp only [DR,Bool.and_eq_true] at h;obtain ⟨⟨h1,_⟩,h2⟩:=h;obtain ⟨_,_,_,_,hr⟩:=Dc h1;intro p hp;obtain ⟨h3,h4⟩:=hr p hp;simp only [B2,Bool.and_eq_true,decide_eq_true_eq] at h3;exact ⟨h3.2.1,Yw c.datas p c.type v h3.2.1 h4 h2,h3.1⟩
theorem Tb (c:Cse) (v:Ty):Al Tryz.prog 47 [.agg (dCse c),.agg (dTyc v)] (bif DR c v then (bif decide (Bk v 0 c.rows<0) then .tup [.int .i64 0,.int .i64 5] else .tup [.int .i64 (Bk v 0 c.rows),.int .i64 0]) else .tup [.int .i64 0,.int .i64 2]):=by
 have hA:=Wo c v;have hR:=λh=>mF c (AX (D7 c.datas)) v (λp hp=>(IG (c:=c) (v:=v) h p hp).2.1);have hE:=λh=>SH v c.rows 0 (λp hp=>⟨(IG (c:=c) (v:=v) h p hp).1,(IG (c:=c) (v:=v) h p hp).2.1⟩);obtain ⟨ds,⟨c1,c2,c3,c4⟩,rows⟩:=c;obtain ⟨g,m,z,vs⟩:=v;generalize DR ⟨ds,.mk c1 c2 c3 c4,rows⟩ (.mk g m z vs)=b at *;simp only at hE ⊢;refine Ae A5 Tryz.func47 (by decide +kernel) rfl [3,4,5] rfl rfl ?_;refine bg [] rfl (by simp) ?_;cases b with
 | false =>
  refine Ac rfl (λ_=>hA) (by simp) ?_;refine bg [] rfl (by simp) ?_;refine Aa rfl (λh=>?_) (λh=>by simp at h);refine bd [] rfl (by simp) ?_;exact Ab ⟨_,rfl,tV rfl,trivial⟩
 | true =>
  refine Ac rfl (λ_=>hA) (by simp) ?_;refine bg [] rfl (by simp) ?_;refine Aa rfl (λh=>by simp at h) (λh=>?_);refine bd [] rfl (by simp) ?_;refine Ac rfl (λ_=>hR rfl) (by simp) ?_;refine bg [] rfl (by simp) ?_;rw [<- hE rfl];generalize HA (.mk g m z vs) 0 rows=n;refine Aa rfl (λh=>?_) (λh=>?_)
  ·refine bd [] rfl (by simp) ?_;rw [show decide (n<0)=true from h];exact Ab ⟨_,rfl,tV rfl,trivial⟩
  ·refine bd [] rfl (by simp) ?_;rw [show decide (n<0)=false from h];exact Ab ⟨_,rfl,tV rfl,trivial⟩
def CJ (c:Cse) (r:Int):Bool:=decide (0<=r)&&decide (r<c.rows.length)
def T4 (c:Cse) (r:Int) (v:Ty):List (Str×Ty)×Int:=bif DR c v&&CJ c r then (match c.rows[r.toNat]? with
 | some p=>bif (Bf p v).2 then ((Bf p v).1,0) else ([],5)
 | none=>([],2)) else ([],2)
mutual
theorem L1:∀(p v:Ty),∀b∈(Bf p v).1,Ai b.2<=Ai v
 | .mk f n x ps,v,b,hb=>by
  simp only [Bf] at hb
  split at hb
  ·simp at hb
  ·split at hb
   ·simp at hb;subst hb;exact Nat.le_refl _
   ·split at hb
    ·simp at hb
    ·have:=Kq ps (Bn v) b hb;obtain ⟨g,m,z,vs⟩:=v;simp only [Bn] at this;simp only [Ai];omega
theorem Kq:∀(ps vs:List Ty),∀b∈(By ps vs).1,Ai b.2<=Ah vs
 | [],_,b,hb=>by simp [By] at hb
 | _::_,[],b,hb=>by simp [By] at hb
 | p::r,q::s,b,hb=>by
  simp only [By] at hb;cases hc:(Bf p q).2&&(By r s).2
  ·rw [hc] at hb;simp at hb
  ·rw [hc] at hb;simp only [cond_true,List.mem_append] at hb;simp only [Ah];rcases hb with hb | hb
   ·have:=L1 p q b hb;omega
   ·have:=Kq r s b hb;omega
end
set_option maxHeartbeats 1000000 in
theorem bH (c:Cse) (r:Int) (v:Ty) (hv:Ai v<=1000000):Al Tryz.prog 24 [.agg (dCse c),.int .i64 r,.agg (dTyc v)] (.tup [.sl (BW (T4 c r v).1),.int .i64 (T4 c r v).2]):=by
 have hA:=Wo c v;have hT:=Po c r;have hrows:=λh=>IG (c:=c) (v:=v) h;unfold T4;have hth:CJ c r=(decide (0<=r)&&decide (r<c.rows.length)):=rfl;rw [<- hth] at hT;obtain ⟨ds,⟨c1,c2,c3,c4⟩,rows⟩:=c;have hmN:=λp=>L1 p v;have hM:=λp hok hN=>eV p v hok hN;have hMo:=λp hok hN b rr h=>ZI p v hok hN (b:=b) (r:=rr) h;have hRM:=λp hw hok=>P3 p v hw hok;have hPL:=λp=>Se p v;generalize hV:v=V at *;obtain ⟨g,m,z,vs⟩:=V;generalize DR ⟨ds,.mk c1 c2 c3 c4,rows⟩ (.mk g m z vs)=b at *;generalize CJ ⟨ds,.mk c1 c2 c3 c4,rows⟩ r=tb at *;simp only at hth hrows ⊢;refine Ae A5 Tryz.func24 (by decide +kernel) rfl [3,4,5,6,7] rfl rfl ?_;refine bg [] rfl (by simp) ?_;cases b with
 | false =>
  refine Ac rfl (λ_=>hA) (by simp) ?_;refine bg [] rfl (by simp) ?_;refine Ac rfl (λ_=>hT) (by simp [Ag]) ?_;refine bg [] rfl (by simp [Ag]) ?_;refine Aa rfl (λh=>?_) (λh=>by simp at h);refine bd [] rfl (by simp) ?_;exact Ab ⟨_,rfl,tV rfl,trivial⟩
 | true =>
 refine Ac rfl (λ_=>hA) (by simp) ?_;refine bg [] rfl (by simp) ?_;refine Ac rfl (λ_=>hT) (by simp [Ag]) ?_;refine bg [] rfl (by simp [Ag]) ?_;cases tb with
 | false =>
  refine Aa rfl (λh=>?_) (λh=>by simp at h);refine bd [] rfl (by simp) ?_;exact Ab ⟨_,rfl,tV rfl,trivial⟩
 | true =>
 refine Aa rfl (λh=>by simp at h) (λh=>?_);clear h;have hth2:0<=r/\r<rows.length:=by simpa using hth.symm
 obtain ⟨p,hp⟩:=Am (l:=rows) (i:=r.toNat) (by omega);obtain ⟨hw,hok,h12⟩:=hrows rfl p (List.mem_of_getElem? hp);have hpl:=hPL p;have hM:=hM p hok (by omega);have hMo:=hMo p hok (by omega);obtain ⟨e1,e2⟩:=hRM p hw hok;have hmN:=hmN p;rw [e2,e1] at hM;simp only [Bool.and_self,cond_true,hp];refine bd [] rfl (by simp) ?_;refine bi rfl (c:=dTyc p) (λ_=>⟨hth2.1,by simpa using Ax hp,by simp⟩) (by simp) ?_;refine bg [] rfl (by simp) ?_;cases hmb:(Bf p (.mk g m z vs)).2 with
 | false =>
  rw [hmb] at hM;refine Ac rfl (λ_=>hM) (by simp) ?_;refine bg [] rfl (by simp;rfl) ?_;refine Aa rfl (λh=>?_) (λh=>by simp at h);refine bd [] rfl (by simp) ?_;exact Ab ⟨_,rfl,tV rfl,trivial⟩
 | true =>
 rw [hmb] at hM e1;rw [e1] at e2;simp only [cond_true] at e2 ⊢;cases hml:(Bf p (.mk g m z vs)).1 with
 | nil =>
  rw [hml] at hM;refine Ac rfl (λ_=>hM) (by simp) ?_;refine bg [] rfl (by simp;rfl) ?_;refine Aa rfl (λh=>by simp at h) (λh=>?_);refine bd [] rfl (by simp [BW]) ?_;refine Kw (QA ?_);refine bd [] rfl (by simp [BW]) ?_;refine Aa rfl (λh=>by simp [BW] at h) (λh=>?_);refine Ar rfl ?_;refine bd [] rfl (by simp [BW]) ?_;exact Ab ⟨_,rfl,tV rfl,trivial⟩
 | cons x rr =>
  rw [hml] at e2 hmN;have hrun:EM [] (Dn p (.mk g m z vs))=(x::rr,true):=Prod.ext e2 e1;have hlenL:(x::rr).length<=12:=by
   have:=PZ p (.mk g m z vs);rw [hml] at this;omega
  refine Ay (st0:=[]) (fr:=[5]) [] [(8,5)] rfl (by simp) (hMo x rr hrun) trivial rfl rfl rfl rfl ?_;generalize x::rr=l at *;refine bg [] rfl (by simp;rfl) ?_;refine Aa rfl (λh=>by simp at h) (λh=>?_);clear h;refine bd [] rfl (by simp) ?_;refine Aj (λi:Nat=>[(41,.imm (.int .i64 i)),(40,.imm (.int .i64 (BW l).length)),(10,.own 5 (BW l).length)]) (λ_=>[(5,some (.row 101 5 (BW l)))]) [3,4,6,7] (λi=>(BW l).length-i)
   (λi=>i<=(BW l).length) 0 (Nat.zero_le _) ⟨rfl,rfl,rfl,trivial⟩ ⟨rfl,trivial⟩ rfl λi hi ih=>?_
  refine bd [] rfl (by simp) ?_;refine Aa rfl (λh=>?_) (λh=>?_)
  ·simp at h;obtain ⟨bb,hb⟩:=Am h;have hbn:=hmN bb (List.mem_of_getElem? hb);have hbd:(BW l)[i]?=some (LS bb):=by simp [BW,hb]
   have hcp:=IE bb.2 (by omega);obtain ⟨bs,b1,b2,b3,b4⟩:=bb;refine bd [] rfl (by simp) ?_;refine GI A5 rfl (λ_=>⟨by simp,by simp;omega⟩) (by simp) ?_;refine bg [] rfl (by simp) ?_;refine OL (e:=LS (bs,.mk b1 b2 b3 b4)) A5 rfl (λ_=>by simpa using hbd) rfl (by simp) ?_;refine bg [] rfl (by simp) ?_;refine Ac rfl (λ_=>hcp) (by simp) ?_;refine bg [] rfl (by simp) ?_;refine GI A5 rfl (λ_=>⟨by simp,by simp;omega⟩) (by simp) ?_;refine bg [] rfl (by simp) ?_;refine Qz A5 (e:=LS (bs,.mk b1 b2 b3 b4)) (e':=LS (bs,.mk b1 b2 b3 b4)) rfl (by simpa using hbd) (by show 1+4<=5;decide) rfl (by simp) ?_;have hset:(BW l).set (i:Int).toNat (LS (bs,.mk b1 b2 b3 b4))=BW l:=by
    refine List.ext_getElem? λj=>?_;rw [List.getElem?_set]
    split
    ·rename_i hj;simp at hj;subst hj;rw [hbd];have:i<(BW l).length:=by simp;omega
     simp [h]
    ·rfl
   simp only;rw [hset];refine bg [] rfl (by simp) ?_;exact Ad (ih (i+1) (by simp;omega) (by simp;omega)) ⟨As (B9 (by omega) (by simp at hi;omega)),rfl,rfl,trivial⟩ ⟨rfl,trivial⟩ rfl
  ·refine Ar rfl ?_;refine BD 5 rfl ?_;refine bd [] rfl (by simp) ?_;exact Ab ⟨_,rfl,tV rfl,trivial⟩
def VB (l:List Ty):Bool:=l.all (λt=>decide (0<=Bj t 20))&&decide (l.length<=5)
def My (c:Cse):Bool:=(decide (c.datas.length<=6)&&decide (c.rows.length<=7)&&decide (0<=Bj c.type 20))&&(c.rows.all (λp=>decide (0<=Bj p 20))&&c.datas.all (λd=>decide (d.cons.length<=7)&&d.cons.all λk=>VB k.args))
def JO (v:Ty):Bool:=decide (0<=BF v 300 110)
theorem nB (l:List Ty):Al Tryz.prog 43 [.sl (AT l)] (.bool (VB l)):=by
 refine Ae A5 Tryz.func43 (by decide +kernel) rfl [1,2] rfl rfl ?_;refine bg [] rfl (by simp) ?_;refine Aj (λi:Nat=>[(3,.imm (.int .i64 i)),(0,.imm (.sl (AT l)))]) (λ_=>[]) [1,2] (λi=>l.length-i)
  (λi=>i<=l.length/\i<=6/\l.all (λt=>decide (0<=Bj t 20))=(l.drop i).all (λt=>decide (0<=Bj t 20))) 0 ⟨Nat.zero_le _,by simp,rfl⟩ ⟨rfl,rfl,trivial⟩ trivial rfl λi hi ih=>?_
 obtain ⟨hi1,hi0,hi2⟩:=hi;refine bd [] rfl (by simp [Ag]) ?_;by_cases hlt:i<l.length/\i<6
 case neg =>
  refine Aa rfl (λh=>by exfalso;simp at h;omega) (λh=>?_);refine Ar rfl ?_;refine bd [] rfl (by simp) ?_;refine Ab ⟨_,rfl,tV (congrArg _ ?_),trivial⟩;simp only [VB,dTys_length];by_cases h5:l.length<=5
  ·rw [hi2,List.drop_eq_nil_of_le (by omega)];simp [h5];omega
  ·simp [h5];omega
 refine Aa rfl (λh=>?_) (λh=>by exfalso;simp at h;omega);obtain ⟨t,ht⟩:=Am hlt.1;rw [DW ht] at hi2;refine bd [] rfl (by simp) ?_;refine bi rfl (c:=dTyc t) (λ_=>⟨by simp,by simpa using Ax ht,by simp⟩) (by simp) ?_;refine bg [] rfl (by simp) ?_;refine Ac rfl (λ_=>Gj t 20 (by decide) (by decide)) (by simp) ?_;refine bg [] rfl (by simp) ?_;refine Aa rfl (λh=>?_) (λh=>?_)
 ·refine bd [] rfl (by simp) ?_;refine Ab ⟨_,rfl,tV (congrArg _ ?_),trivial⟩;simp at h;rw [VB,hi2,show decide (0<=Bj t 20)=false by simp;omega];simp
 ·refine bd [] rfl (by simp) ?_;simp at h;exact Ad (ih (i+1) (by omega) ⟨by omega,by omega,by rw [hi2,show decide (0<=Bj t 20)=true by simpa using h];simp⟩) ⟨As (B9 (by omega) (by omega)),rfl,trivial⟩ trivial rfl
set_option maxHeartbeats 1000000 in
theorem Zq (c:Cse):Al Tryz.prog 9 [.agg (dCse c)] (.bool (My c)):=by
 have hWT:=Gj c.type 20 (by decide) (by decide);obtain ⟨ds,t,rows⟩:=c;simp only [My] at hWT ⊢;generalize Bj t 20=wt at *;obtain ⟨c1,c2,c3,c4⟩:=t;refine Ae A5 Tryz.func9 (by decide +kernel) rfl [1,2] rfl rfl ?_;refine bg [] rfl (by simp [Ag]) ?_;refine Ac rfl (λ_=>hWT) (by simp [Ag]) ?_;refine bg [] rfl (by simp [Ag]) ?_;by_cases hg:ds.length<=6/\rows.length<=7/\0<=wt
 case neg =>
  refine Aa rfl (λh=>?_) (λh=>by exfalso;apply hg;simp at h;omega);refine bd [] rfl (by simp) ?_;refine Ab ⟨_,rfl,tV (congrArg _ ?_),trivial⟩;rw [show (decide (ds.length<=6)&&decide (rows.length<=7)&&decide (0<=wt))=false by simp;omega];simp
 obtain ⟨g1,g2,g3⟩:=hg;rw [show (decide (ds.length<=6)&&decide (rows.length<=7)&&decide (0<=wt))=true by simp;omega,Bool.true_and];refine Aa rfl (λh=>by exfalso;simp at h;omega) (λh=>?_);clear h;refine bd [] rfl (by simp) ?_;refine Aj (λi:Nat=>[(3,.imm (.int .i64 i)),(1,.ref 1 0)]) (λ_=>[(1,some (.immb 29 6 (dCse ⟨ds,.mk c1 c2 c3 c4,rows⟩)))]) [2] (λi=>rows.length-i)
  (λi=>i<=rows.length/\rows.all (λp=>decide (0<=Bj p 20))=(rows.drop i).all (λp=>decide (0<=Bj p 20))) 0 ⟨Nat.zero_le _,rfl⟩ ⟨rfl,rfl,trivial⟩ ⟨rfl,trivial⟩ rfl λi hi ih=>?_
 obtain ⟨hi1,hi2⟩:=hi;refine bd [] rfl (by simp) ?_;refine Aa rfl (λh=>?_) (λh=>?_)
 ·simp at h;obtain ⟨p,hp⟩:=Am h;rw [DW hp] at hi2;refine bd [] rfl (by simp) ?_;refine bi rfl (c:=dTyc p) (λ_=>⟨by simp,by simpa using Ax hp,by simp⟩) (by simp) ?_;refine bg [] rfl (by simp) ?_;refine Ac rfl (λ_=>J7 p 20 (by decide) (by decide)) (by simp) ?_;refine bg [] rfl (by simp) ?_;refine Aa rfl (λh=>?_) (λh=>?_)
  ·refine bd [] rfl (by simp) ?_;refine Ab ⟨_,rfl,tV (congrArg _ ?_),trivial⟩;simp at h;rw [hi2,show decide (0<=Bj p 20)=false by simp;omega];simp
  ·refine bd [] rfl (by simp) ?_;simp at h;exact Ad (ih (i+1) (by omega) ⟨by omega,by rw [hi2,show decide (0<=Bj p 20)=true by simpa using h];simp⟩) ⟨As (B9 (by omega) (by omega)),rfl,trivial⟩ ⟨rfl,trivial⟩ rfl
 simp at h;refine Ar rfl ?_;refine bd [] rfl (by simp) ?_;rw [hi2,List.drop_eq_nil_of_le h,List.all_nil,Bool.true_and];refine Aj (λi:Nat=>[(4,.imm (.int .i64 i)),(1,.ref 1 0)]) (λ_=>[(1,some (.immb 29 6 (dCse ⟨ds,.mk c1 c2 c3 c4,rows⟩)))]) [2] (λi=>ds.length-i)
  (λi=>i<=ds.length/\ds.all (λd=>decide (d.cons.length<=7)&&d.cons.all λk=>VB k.args)=(ds.drop i).all (λd=>decide (d.cons.length<=7)&&d.cons.all λk=>VB k.args)) 0 ⟨Nat.zero_le _,rfl⟩ ⟨rfl,rfl,trivial⟩ ⟨rfl,trivial⟩ rfl λi hi ih=>?_
 obtain ⟨hi1,hi2⟩:=hi;refine bd [] rfl (by simp) ?_;refine Aa rfl (λh=>?_) (λh=>?_)
 ·simp at h;obtain ⟨d,hd⟩:=Am h;rw [DW hd] at hi2;refine bd [] rfl (by simp) ?_;refine bi rfl (c:=C7 d) (λ_=>⟨by simp,by simpa using Bp hd,by simp⟩) (by simp) ?_;obtain ⟨dn,dc⟩:=d;simp only at hi2;refine bg [] rfl (by simp) ?_;by_cases h7:dc.length<=7
  case neg =>
   refine Aa rfl (λh=>?_) (λh=>by exfalso;simp at h;omega);refine bd [] rfl (by simp) ?_;rw [hi2,show decide (dc.length<=7)=false by simpa using h7];exact Ab ⟨_,rfl,tV (congrArg _ (by simp)),trivial⟩
  rw [show decide (dc.length<=7)=true by simpa using h7,Bool.true_and] at hi2;refine Aa rfl (λh=>by exfalso;simp at h;omega) (λh=>?_);clear h;refine bd [] rfl (by simp) ?_;refine Aj (λk:Nat=>[(5,.imm (.int .i64 k)),(4,.imm (.int .i64 i)),(1,.ref 1 0)]) (λ_=>[(1,some (.immb 29 6 (dCse ⟨ds,.mk c1 c2 c3 c4,rows⟩)))]) [2] (λk=>dc.length-k)
   (λk=>k<=dc.length/\dc.all (λk=>VB k.args)=(dc.drop k).all (λk=>VB k.args)) 0 ⟨Nat.zero_le _,rfl⟩ ⟨rfl,rfl,rfl,trivial⟩ ⟨rfl,trivial⟩ rfl λk hk jh=>?_
  obtain ⟨hk1,hk2⟩:=hk;refine bd [] rfl (by simp) ?_;refine bi rfl (c:=C7 ⟨dn,dc⟩) (λ_=>⟨by simp,by simpa using Bp hd,by simp⟩) (by simp) ?_;refine bg [] rfl (by simp) ?_;refine Aa rfl (λh=>?_) (λh=>?_)
  ·simp at h;obtain ⟨c,hc⟩:=Am h;rw [DW hc] at hk2;refine bd [] rfl (by simp) ?_;refine bi rfl (c:=C7 ⟨dn,dc⟩) (λ_=>⟨by simp,by simpa using Bp hd,by simp⟩) (by simp) ?_;refine bg [] rfl (by simp) ?_;refine bi rfl (c:=Dy c) (λ_=>⟨by simp,by simpa using Bp hc,by simp⟩) (by simp) ?_;obtain ⟨cn,ca⟩:=c;simp only at hk2;refine bg [] rfl (by simp) ?_;refine Ac rfl (λ_=>nB ca) (by simp) ?_;refine bg [] rfl (by simp) ?_;refine Aa rfl (λh=>?_) (λh=>?_)
   ·refine bd [] rfl (by simp) ?_;refine Ab ⟨_,rfl,tV (congrArg _ ?_),trivial⟩;simp at h;rw [hi2,hk2,h];simp
   ·refine bd [] rfl (by simp) ?_;simp at h;exact Ad (jh (k+1) (by omega) ⟨by omega,by rw [hk2,h];simp⟩) ⟨As (B9 (by omega) (by omega)),rfl,rfl,trivial⟩ ⟨rfl,trivial⟩ rfl
  ·simp at h;refine Ar rfl ?_;refine bd [] rfl (by simp) ?_;rw [List.drop_eq_nil_of_le (by omega)] at hk2;exact Ad (ih (i+1) (by omega) ⟨by omega,by rw [hi2,hk2];simp⟩) ⟨As (B9 (by omega) (by omega)),rfl,trivial⟩ ⟨rfl,trivial⟩ rfl
 ·simp at h;refine Ar rfl ?_;refine bd [] rfl (by simp) ?_;rw [hi2,List.drop_eq_nil_of_le (by omega)];exact Ab ⟨_,rfl,tV rfl,trivial⟩
theorem ZN (v:Ty):Al Tryz.prog 70 [.agg (dTyc v)] (.bool (JO v)):=by
 have hW:=Nk v 300 110 (by decide) (by decide) (by decide) (by decide);unfold JO;generalize BF v 300 110=w at *;obtain ⟨s,n,x,ps⟩:=v;refine Ae A5 Tryz.func70 (by decide +kernel) rfl [1,2] rfl rfl ?_;refine bg [] rfl (by simp) ?_;refine Ac rfl (λ_=>hW) (by simp) ?_;refine bg [] rfl (by simp) ?_;refine Ab ⟨_,rfl,tV (congrArg _ ?_),trivial⟩;simp
def Ju (c:Cse) (v:Ty):Bool:=Kz c&&Oo v&&Ki c.datas c.type v
theorem Wh {c:Cse} (h:Kz c=true):OkD c.datas/\AB c.datas c.type=true:=by
 simp only [Kz,Bool.and_eq_true] at h;exact ⟨OkD.of h.1.1.1.1,h.1.1.2⟩
theorem jS (c:Cse) (v:Ty):Al Tryz.prog 71 [.agg (dCse c),.agg (dTyc v)] (.bool (Ju c v)):=by
 have hC:=kL c;have hV:=nI v;have hO:=λh=>lT c.type c.rows c.datas (Wh (c:=c) h).1 v c.type (Wh h).2;unfold Ju;generalize Kz c=b1 at *;generalize Oo v=b2 at *;generalize Ki c.datas c.type v=b3 at *;obtain ⟨ds,⟨c1,c2,c3,c4⟩,rows⟩:=c;obtain ⟨s,n,x,ps⟩:=v;refine Ae A5 Tryz.func71 (by decide +kernel) rfl [1,2,3] rfl rfl ?_;refine bg [] rfl (by simp) ?_;refine Ac rfl (λ_=>hC) (by simp) ?_;refine bg [] rfl (by simp) ?_;refine Ac rfl (λ_=>hV) (by simp [Ag]) ?_;refine bg [] rfl (by simp [Ag]) ?_;refine Ac rfl (λh=>hO (by simp [Ag] at h;exact h.1)) (by simp [Ag]) ?_;refine bg [] rfl (by simp [Ag]) ?_;refine Ab ⟨_,rfl,tV (congrArg _ ?_),trivial⟩;simp
mutual
theorem N6:∀t:Ty,(CA true t&&DM Jo t)=CA false t
 | .mk s n x ps=>by
  have ih:=Lj ps;simp only [CA,DM,Jo];by_cases h9:s=9
  ·subst h9;simp [BQ]
  ·have:BQ true s n x ps.length=BQ false s n x ps.length:=by simp [BQ,h9]
   have h:(s == 9)=false:=by simpa using h9
   rw [this,h,<- ih];cases BQ false s n x ps.length <;> simp
theorem Lj:∀l:List Ty,(CE true l&&DY Jo l)=CE false l
 | []=>rfl
 | t::r=>by
  simp only [CE,DY,<- N6 t,<- Lj r];cases CA true t <;> cases DM Jo t <;> cases CE true r <;> simp
end
theorem dT (ds:List Dt):G5 ds=GO ds:=by
 have hm:Hn ⟨[109],ds,[Hq]⟩=Ea ⟨[109],ds,[Hq]⟩:=by
  simp only [Hn,Ea];have e1:ds.all EK=ds.all Ib:=by congr 1;exact funext gJ
  have e2:[Hq].all LK=[Hq].all V6:=by decide +kernel
  rw [e1,e2];simp [Fp]
 simp only [G5,GO,hm];cases Ea ⟨[109],ds,[Hq]⟩ <;> cases BX ds ds <;> simp
theorem Nd (c:Cse):Bl c=Kz c:=by
 have hT:(BM true c.type&&DM Jo c.type)=EZ c.type:=by
  rw [<- LL];simp only [BM];rw [Bool.and_assoc,N6]
 have hR:c.rows.all (RX c)=c.rows.all (dJ c):=by
  congr 1;funext p;simp only [RX,dJ,bC]
 simp only [Bl,HC,Kz,hR,dT,<- hT];cases GO c.datas <;> cases decide (c.rows.length<=5) <;> cases BM true c.type <;> cases AB c.datas c.type <;> cases DM Jo c.type <;> simp
theorem UB (s n:Int) (x:Str) (k:Nat):JF s n x k=FS s n x k:=by
 simp only [JF,FS,Fp]
 split
 ·rfl
 ·split
  ·congr 2;by_cases h0:n=0
   ·simp [h0]
   ·by_cases h1:n=1
    ·simp [h1]
    ·have:(n == 0||n == 1)=false:=by simp [h0,h1]
     rw [this];symm;simp;omega
  ·rfl
mutual
theorem SY:∀v:Ty,Mf v=CZ v
 | .mk s n x ps=>by simp only [Mf,CZ,UB,QW ps];exact Bool.and_comm _ _
theorem QW:∀l:List Ty,SZ l=CG l
 | []=>rfl
 | t::r=>by simp only [SZ,CG,SY t,QW r]
end
theorem X5 (v:Ty):LM v=Oo v:=by simp only [LM,Oo,SY]
theorem bF (c:Cse) (v:Ty):DR c v=Ju c v:=by simp only [DR,Ju,Nd,X5]
mutual
theorem Pz:∀v:Ty,RU v v=true
 | .mk s n x ps=>by simp [RU,A6,ND ps]
theorem ND:∀l:List Ty,Fb l l=true
 | []=>rfl
 | t::r=>by simp [Fb,Pz t,ND r]
end
end Go.Hk
namespace Go.Hk
def LQ (kp:List Nat):St->St
 | []=>[]
 | (i,b)::r=>bif EA kp i then LQ kp r else (i,b)::LQ kp r
theorem Vh {kp:List Nat} {s:St} {i:Nat}:∀{W:St},lk (LQ kp W++s) i=if i∈kp then lk s i else lk (W++s) i
 | []=>by simp [LQ]
 | (k,b)::r=>by
  have ih:=Vh (kp:=kp) (s:=s) (i:=i) (W:=r);simp only [LQ];cases hm:EA kp k with
  | true =>
   simp only [cond_true,List.cons_append];rw [ih];by_cases hi:i∈kp
   ·rw [if_pos hi,if_pos hi]
   ·rw [if_neg hi,if_neg hi,Au _ _ (λe:k=i=>hi (by rw [<- e];exact BE.1 hm))]
  | false =>
   simp only [cond_false,List.cons_append];by_cases hk:k=i
   ·subst hk;rw [Ap,if_neg (λh=>by rw [BE.2 h] at hm;cases hm),Ap]
   ·rw [Au _ _ hk,Au _ _ hk,ih]
def TB (W st:St) (l:List Nat):List Nat->Prop
 | []=>True
 | i::r=>(EA l i=true/\lk W i=lk st i)/\TB W st l r
theorem NS {W st:St} {l:List Nat}:∀{kp:List Nat},TB W st l kp->∀i∈kp,i∈l/\lk W i=lk st i
 | [],_,i,h=>by cases h
 | k::r,h,i,hi=>by
  rcases List.mem_cons.1 hi with rfl | hi
  ·exact ⟨BE.1 h.1.1,h.1.2⟩
  ·exact NS h.2 i hi
structure Zb where
 f:FuncId
 das:List D
 g:Option (Bool×Bool)
 ob:List Prop
 dst:Option Nat
 o:Oper
 all:List Oper
def YB (n:Nat) (env:Env) (todo:List DI):Option Zb :=
 match AS todo ([],[]) with
 | some (all,o,_)=>match BV all env o,o.op with
  | some g,.call { callee:=.value (.func f),args:=⟨args⟩,.. }=>match GZ (Ag g) env args,B1 n o.dst with
   | some (ds,ob),true=>some ⟨f,ds,g,ob,o.dst,o,all⟩
   | _,_=>none
  | some g,.call { callee:=.value (.tmp t),args:=⟨args⟩,.. }=>match lk env t,GZ (Ag g) env args,B1 n o.dst with
   | some (.imm (.fn (.func f))),some (ds,ob),true=>some ⟨f,ds,g,ob,o.dst,o,all⟩
   | some (.fn (.func f) df dc),some (ds,ob),true=>some ⟨f,df++ds++dc,g,ob,o.dst,o,all⟩
   | _,_,_=>none
  | _,_=>none
 | none=>none
section
variable {P:Program} {n:Nat} {F:List Nat} {Q:DQ} {tt:TT} {env env':Env} {st st' st0 st1:St} {ids ids' fr:List Nat} {k todo todo':List DI} {I J:Imm} {μ:Mu} {w:World} {a:Act} {Pn:V->Prop} {d:D} {cx:Prop} {ob:List Prop} {σ τ1:List (Nat×Nat)} {das:List D}
theorem V4 {c:Zb} (h:YB n env todo=some c) (hob:A9 c.ob):(∀f,∃todo',AS todo f=some (c.all,c.o,todo'))/\BV c.all env c.o=some c.g/\DG P c.o env c.f c.das (Ag c.g)/\B1 n c.dst=true/\(∀x,c.o.op ≠ .defer x)/\c.dst=c.o.dst:=by
 unfold YB at h;have hnext:∀{all:List Oper} {o:Oper} {t:List DI},AS todo ([],[])=some (all,o,t)->∀f,∃todo',AS todo f=some (all,o,todo'):=by
  intro all o t h f;rcases HQ h with ⟨r,k,rfl,_⟩ | ⟨r,fs,k,rfl,_⟩
  ·exact ⟨_,rfl⟩
  ·exact ⟨_,rfl⟩
 split at h
 ·rename_i all o t h1
  split at h
  ·rename_i g f args ts hg ho
   split at h
   ·rename_i ds ob ha hd;cases h;exact ⟨hnext h1,hg,EL ho ha hob,hd,(λx hx=>by rw [ho] at hx;cases hx),rfl⟩
   ·cases h
  ·rename_i g t' args ts hg ho
   split at h
   ·rename_i f ds ob ht ha hd;cases h;exact ⟨hnext h1,hg,Ec ho ht ha hob,hd,(λx hx=>by rw [ho] at hx;cases hx),rfl⟩
   ·rename_i f df dc ds ob ht ha hd;cases h;exact ⟨hnext h1,hg,HD ho ht ha hob,hd,(λx hx=>by rw [ho] at hx;cases hx),rfl⟩
   ·cases h
  ·cases h
 ·cases h
theorem fB {all:List Oper} {o:Oper} {f:FuncId} {g:Option (Bool×Bool)} (hg:BV all env o=some g) (hcx:Ag g) (hc:DG P o env f das (Ag g)) (hE:AV P f (FB (DB σ) das) st0 (.ret d st1)) (hb:Fu σ st st0)
  (hn:KE σ τ1 das st0 d st1 fr=true) (kp:List Nat) (hkp:TB (DH (AU σ++τ1) st1++BZ (FG σ)) st (FG σ) kp) :
  LD P Pn all o env st (FG σ) fr (LQ kp (DH (AU σ++τ1) st1++BZ (FG σ))) (gD g (IX (DB (AU σ++τ1)) d)):=by
 intro I μ st2 ids1 a w hag hst hon;have hwant:=Gd hg hon;refine ⟨λ_=>?_,λhw=>by rw [hwant.2 hcx] at hw;cases hw⟩;obtain ⟨xs,h1,h2⟩:=hc I μ a w (AJ hon) hcx;have hb':=Gi hag hb;have hN:=ME hn;obtain ⟨q1,q2,q3⟩:=GT hst hb' hN.args h1;rw [h2];refine (hE I _ w xs q1 q2).mono (λu w' hu=>?_) (λ_ _ h=>h.elim);obtain ⟨I',μ',r1,r2,r3,r4⟩:=hu;obtain ⟨ν,s1,s2,s3,s4⟩:=Kc hst hb' hN r1 r2 r3 r4 q3;rw [<- JS] at s1 s4;have hsame:∀i,lk (DH (AU σ++τ1) st1++BZ (FG σ)++st2) i=lk (LQ kp (DH (AU σ++τ1) st1++BZ (FG σ))++st2) i:=λi=>by
  rw [Vh];by_cases hi:i∈kp
  ·rw [if_pos hi];obtain ⟨k1,k2⟩:=NS hkp i hi;have hm:i∈(DH (AU σ++τ1) st1++BZ (FG σ)).map (·.1):=by
    rw [List.map_append,J1];exact List.mem_append.2 (.inr k1)
   rw [Fm hm,k2,hag i k1]
  ·rw [if_neg hi]
 refine ⟨I',ν,s1.congr hsame,?_,s3,s4.congr (λ_=>rfl) hsame⟩;cases g with
 | none=>exact s2
 | some p=>exact .guard _ _ _ _ (λ_=>s2) (λhn=>absurd hcx hn)
theorem Ce {c:Zb} (σ τ1:List (Nat×Nat)) (kp:List Nat) {fr:List Nat} {nm:List Nat} (h:YB n env todo=some c) (hcx:Ag c.g) (hob:A9 c.ob) (hE:AV P c.f (FB (DB σ) c.das) st0 (.ret d st1)) (hb:Fu σ st st0)
  (hn:KE σ τ1 c.das st0 d st1 fr=true) (hkp:TB (DH (AU σ++τ1) st1++BZ (FG σ)) st (FG σ) kp) (hnm:(LQ kp (DH (AU σ++τ1) st1++BZ (FG σ))).map (·.1)=nm)
  (h1:AS todo (FG σ,nm)=some (c.all,c.o,todo')) (hids:ids=fr++ids')
  (hk:G P n F Q todo' (Bz c.dst (gD c.g (IX (DB (AU σ++τ1)) d)) env) (LQ kp (DH (AU σ++τ1) st1++BZ (FG σ))++st) ids'):G P n F Q todo env st ids:=by
 obtain ⟨_,q2,q3,q4,q5,q6⟩:=V4 (P:=P) h hob;subst hids;rw [q6] at q4 hk;subst hnm;exact Bq h1 (fB q2 hcx q3 hE hb hn kp hkp) q4 q5 hk
def dE:V->Bool
 | .tup xs=>Di xs
 | .agg xs=>Di xs
 | x=>EQ x
theorem Zv {v:Value} {x:V} (h:dE x=true) (hr:RepV J v x):RepV I v x:=by
 have hm:∀{xs:List V} {i:Nat} {x:V},Di xs=true->xs[i]?=some x->EQ x=true:=by
  intro xs
  induction xs with
  | nil=>intro i x _ h;simp at h
  | cons y r ih =>
   intro i x hs h;simp only [Di,Bool.and_eq_true] at hs;cases i with
   | zero=>simp at h;subst h;exact hs.1
   | succ i=>exact ih hs.2 (by simpa using h)
 cases hr with
 | tup cs xs hl hh=>exact .tup cs xs hl λi c x hc hx=>D8 (hm h hx) (hh i c x hc hx)
 | agg cs xs hl h1 hh=>exact .agg cs xs hl h1 λi c x hc hx=>D8 (hm h hx) (hh i c x hc hx)
 | bool b=>exact .bool b
 | int k n=>exact .int k n
 | str s l hs=>exact .str s l hs
 | _=>simp [dE,EQ] at h
def bX (A:Asn):List D->List V->Prop
 | [],[]=>True
 | d::r,x::xs=>(mB d=some x\/∃v,d = .raw v/\∀us I w bs,A.P us I w bs->∀J,I.le J->(∀b∈bs,J b=w.heap[b]?)->RepV J v x)/\bX A r xs
 | _,_=>False
theorem RB {A:Asn} {us:List Value} {bs:List Nat} (hA:A.P us I w bs) (hle:I.le J) (hJ:∀b∈bs,J b=w.heap[b]?):∀{ds:List D} {xs:List V} {vs:List Value},bX A ds xs->RepL I μ vs ds->RepVL J vs xs
 | [],[],vs,_,hr=>by
  have:=hr.1;cases vs with
  | nil=>exact .nil
  | cons=>simp at this
 | d::r,x::xs,[],_,hr=>by have:=hr.1;simp at this
 | d::r,x::xs,v::vs,h,hr=>by
  obtain ⟨h1,h2⟩:=hr.cons;refine .mk ?_ (RB hA hle hJ h.2 h2);rcases h.1 with ht | ⟨u,rfl,hu⟩
  ·exact (O7 ht h1).mono hle
  ·have:=h1.rawInv;subst this;exact hu us I w bs hA J hle hJ
 | [],_::_,_,h,_=>h.elim
 | _::_,[],_,h,_=>h.elim
theorem OO {c:Zb} (id:Nat) {A:Asn} {vs:List V} {v:V} (h:YB n env todo=some c) (hl:lk st id=some (some (.hp A))) (hv:Ag c.g->bX A c.das vs) (hE:Ag c.g->Al P c.f vs v) (hs:dE v=true) (hob:A9 c.ob)
  (h1:AS todo ([id],[])=some (c.all,c.o,todo')) (hk:G P n F Q todo' (Bz c.dst (gD c.g (.imm v)) env) st ids):G P n F Q todo env st ids:=by
 obtain ⟨_,q2,q3,q4,q5,q6⟩:=V4 (P:=P) h hob;rw [q6] at q4 hk;refine Bq (fr:=[]) (wr:=[]) (rd:=[id]) h1 (C8 q2 λI μ st1 ids1 a w hag hst hops hcx=>?_) q4 q5 hk;obtain ⟨xs,h1,h2⟩:=q3 I μ a w hops hcx;rw [h2];have hl1:Aq st1 id (.hp A):=by unfold Aq;rw [hag id (by simp)];exact hl
 obtain ⟨gg,hgg,us,bs,rfl,hP⟩:=hst.blk id _ hl1;have hx:RepVL (QY w) xs.toList vs:=RB hP (λb o h=>hst.imm b o h) (λb _=>rfl) (hv hcx) h1;have hst0:StRep (QY w) μ [] [] w:={ imm:=λb o h=>h,blk:=λi b h=>by simp [Aq,lk] at h,apart:=λi b g k h=>by simp [Aq,lk] at h,inj:=λi j bi bj gi gj k h=>by simp [Aq,lk] at h,nodup:=.nil,idsFree:=λi h=>by cases h }
 have hno:∀b,¬Bv μ [] b:=λb ⟨i,bi,g,h,_⟩=>by simp [Aq,lk] at h
 refine (hE hcx (QY w) μ w xs hst0 hx.imm).mono (λu w' hu=>?_) (λ_ _ h=>h.elim);obtain ⟨I',μ',r1,r2,r3,r4⟩:=hu;have hlt:∀b o,I b=some o->b<w.heap.size:=λb o h=>by
  have:=hst.imm b o h;exact (Array.getElem?_eq_some_iff.1 this).1
 refine ⟨I,μ,hst.other r4.size (λb o h=>r4.block b (hlt b o h) (hno b)) (λb ho=>r4.block b (D1 hst ho) (hno b)),?_,Mu.le_refl μ,{ imm:=Imm.le_refl I,os:=r4.os,tape:=r4.tape,output:=r4.output,size:=r4.size,block:=λb hb _=>r4.block b hb (hno b),fresh:=λ_ _ h=>h,old:=λ_ _ _=>rfl }⟩;exact .imm _ _ (Zv hs r1.immInv)
end
end Go.Hk
namespace Go.Hk
def iB (e:TypeId) (C:Asn):Asn where
 P:=λvs I w bs=>∃c u us bs',vs=[.slice (some ⟨c,0,none⟩) 1 1]/\us[0]?=some u/\w.heap[c]?=some (.cells #[u] e (0,0))/\u.oneCell'=true/\C.P us I w bs'/\c∉bs'/\bs=c::bs'
 mono:=λh ⟨c,u,us,bs',h1,h2,h3,h4,h5,h6⟩=>⟨c,u,us,bs',h1,h2,h3,h4,C.mono h h5,h6⟩
 loc:=λh ⟨c,u,us,bs',h1,h2,h3,h4,h5,h6,h7⟩=>⟨c,u,us,bs',h1,h2,(h c (by simp [h7])).trans h3,h4,C.loc (λk hk=>h k (by simp [h7,hk])) h5,h6,h7⟩
structure PBh where
 e:TypeId
 dst:Option Nat
 todo:List DI
def lF (tt:TT) (n:Nat) (env:Env) (j q:Nat) (todo:List DI):Option PBh :=
 match AS todo ([j],[q,j]) with
 | some (_,o,todo')=>match o.guard,o.op with
  | none,.buildSlice t m ⟨[(k,x)]⟩=>match lk tt t,CQ env x,B1 n o.dst with
   | some { sh:=.sl e,.. },some (.hv i l),true=>match lk tt e with
    | some ti=>match Nat.beq m 1,Nat.beq k 0,Nat.beq i j,Nat.beq l 0,Nat.beq ti.size 1 with
     | true,true,true,true,true=>some ⟨e,o.dst,todo'⟩
     | _,_,_,_,_=>none
    | none=>none
   | _,_,_=>none
  | _,_=>none
 | none=>none
structure PBo where
 e:TypeId
 es:List (List V)
 sz:Nat
 ob:List Prop
 dst:Option Nat
 todo:List DI
def lE (tt:TT) (n:Nat) (env:Env) (q:Nat) (todo:List DI):Option PBo :=
 match AS todo ([],[q]) with
 | some (_,o,todo')=>match o.guard,o.op with
  | none,.buildSlice t m ⟨parts⟩=>match lk tt t,B1 n o.dst with
   | some { sh:=.sl e,.. },true=>match lk tt e with
    | some i=>match Hx True env i.size 0 parts,Nat.beq m parts.length,Nat.ble (m*i.size) 16777216,Nat.blt 0 i.size,Nat.blt 0 m with
     | some (es,o'),true,true,true,true=>some ⟨e,es,i.size,o',o.dst,todo'⟩
     | _,_,_,_,_=>none
    | none=>none
   | _,_=>none
  | _,_=>none
 | none=>none
section
variable {P:Program} {n:Nat} {F:List Nat} {Q:DQ} {tt:TT} {env env':Env} {st st' st0 st1:St} {ids ids' fr:List Nat} {k todo todo':List DI} {I J:Imm} {μ:Mu} {w:World} {a:Act} {Pn:V->Prop} {d:D} {cx:Prop} {ob:List Prop}
theorem QQ {t e:TypeId} {ti:TyI} (hu:P.underlying t=some (.slice e)) (hty:TyOk P e ti) (hsz:ti.size=1) (u:Value) (h1:u.oneCell'=true) :
  (Instr.buildSlice t 1 #[(0,u)]).run P w = .ok (.slice (some ⟨w.heap.size,0,none⟩) 1 1) (w.alloc (.cells #[u] e)):=by
 obtain ⟨inf,zv,hi1,hi2,_,hi4,hi5,hi6⟩:=hty.info;have hfill:∀A:Array Value,A.size=1->Instr.fill (λi=>some (i*1,1)) A [(0,u)]=some #[u]:=by
  intro A hA;obtain ⟨⟨x⟩,rfl⟩:∃l:List Value,A=⟨l⟩:=⟨A.toList,rfl⟩
  ·simp at hA
  ·rename_i y r;have hr:r=[]:=by cases r with | nil=>rfl | cons=>simp at hA
   subst hr;simp [Instr.fill,Ft h1]
 simp only [Instr.buildSlice,Sem.run_bind,run_underlying hu,hty.sizeOf w,Result.andThen_ok,hsz,Sem.run_pure,zeroValue,typeInfo,run_program,hi1,hi4];simp only [Nat.mul_one,show ¬((1:Nat) > 2 ^ 24) by decide,if_false,Nat.one_ne_zero,Sem.run_bind,run_program,Result.andThen_ok,hi1,hi4,Sem.run_pure];have:=hfill ((Array.range 1).map λk=>zv.cells[k % zv.cells.size]!) (by simp);simp only [Nat.mul_one] at this;rw [this];simp only [newRow,Sem.run_bind,run_newObj,Result.andThen_ok,Sem.run_pure];rfl
theorem fQ (htt:TTok P tt) (j q:Nat) {C:Asn} {c:PBh} (h:lF tt n env j q todo=some c) (hl:lk st j=some (some (.hp C)))
  (hk:G P n F Q c.todo (Bz c.dst (.hv q 0) env) ((q,some (.hp (iB c.e C)))::(j,none)::st) ids'):G P n F Q todo env st (q::ids'):=by
 unfold lF at h
 split at h
 ·rename_i all o todo' h1
  split at h
  ·rename_i t m k x hgd hop
   split at h
   ·rename_i e _ _ _ _ i l ht hx hd
    split at h
    ·rename_i ti hti
     split at h
     ·rename_i hm hk0 hi hl0 hsz;cases h;have hm:=Nat.eq_of_beq_eq_true hm;have hk0:=Nat.eq_of_beq_eq_true hk0;have hi:=Nat.eq_of_beq_eq_true hi;have hl0:=Nat.eq_of_beq_eq_true hl0;have hsz:=Nat.eq_of_beq_eq_true hsz;subst hm;subst hk0;subst hi;subst hl0;have hk:G P n F Q todo' (Bz o.dst (.hv q 0) env) ([(q,some (.hp (iB e C))),(i,none)]++st) ids':=hk;refine Bq (fr:=[q]) (wr:=[(q,some (.hp (iB e C))),(i,none)]) (rd:=[i]) h1 ?_ hd (λc hc=>by rw [hop] at hc;cases hc) hk;intro I μ st1 ids1 a w hag hst hon;refine ⟨λ_=>?_,λhw=>by rw [A0 hgd] at hw;cases hw⟩;have hops:=AJ hon;rw [hop] at hops;have hl1:Aq st1 i (.hp C):=by unfold Aq;rw [hag i (by simp)];exact hl
      obtain ⟨gg,hg',us,bs,rfl,hP⟩:=hst.blk i _ hl1;obtain ⟨hu0,hone⟩:us[0]?=some (a.eval x)/\(a.eval x).oneCell'=true:=by
       have:=hops x (by simp [Op.operands]) _ hx;generalize a.eval x=v at this;cases this with
       | hv _ _ _ us' bs' hm hi' h1 =>
        rw [hg'] at hm;have:us=us':=by
         simp only [MQ,Option.some.injEq,Value.tuple.injEq,Array.mk.injEq,List.cons.injEq,Value.agg.injEq,and_true] at hm;simpa using hm.1
        exact ⟨by rw [this];exact hi',h1⟩
      have hrun:(execOp a.eval o).run P w = .ok (.value (.slice (some ⟨w.heap.size,0,none⟩) 1 1)) (w.alloc (.cells #[a.eval x] e)):=by
       simp only [execOp,hop,Sem.run_bind,List.map_toArray,List.map_cons,List.map_nil,QQ (htt.sh ht) (htt e ti hti) hsz (a.eval x) hone,Result.andThen_ok,Sem.run_pure]
      rw [hrun];have hnb:w.heap.size∉bs:=λhb=>by
       have:=(hst.apart i _ _ _ hl1 hg' (AL.2 hb)).2;omega
      have hbs:∀b∈bs,b<w.heap.size:=λb hb=>(hst.apart i _ _ _ hl1 hg' (AL.2 hb)).2;have hgrow:w.grownBy (w.alloc (.cells #[a.eval x] e)) none:=World.grownBy_alloc w _ none;obtain ⟨μ',q1,q2,q3,q4⟩:=StRep.renew (id':=q) (ids:=ids1) (rd:=[i]) (v':=MQ [.slice (some ⟨w.heap.size,0,none⟩) 1 1] (w.heap.size::bs)) (blk':=.hp (iB e C)) hst hgrow (λb hb=>by cases hb) (λb hb=>by
       rcases List.mem_cons.1 (AL.1 hb) with rfl | hb
       ·exact ⟨by simp,.inl (Nat.le_refl _)⟩
       ·exact ⟨Nat.lt_of_lt_of_le (hbs b hb) hgrow.size,.inr ⟨i,_,_,by simp,hl1,hg',AL.2 hb⟩⟩)
       (λμ'=>⟨_,_,rfl,w.heap.size,a.eval x,us,bs,rfl,hu0,Dr w _,hone,C.loc (λk hk=>F5 w _ (hbs k hk)) hP,hnb,rfl⟩)
      exact ⟨I,μ',q3,.hv _ q 0 _ _ q1 rfl rfl,q2,q4⟩
     ·cases h
    ·cases h
   ·cases h
  ·cases h
 ·cases h
theorem nG (htt:TTok P tt) {o:Oper} {t e:TypeId} {i:TyI} {m:Nat} {parts:List (Nat×Operand)} (ho:o.op = .buildSlice t m ⟨parts⟩) (hu:P.underlying t=some (.slice e)) (hi:lk tt e=some i) {es:List (List V)} {o':List Prop}
  (hel:Hx True env i.size 0 parts=some (es,o')) (hob:A9 o') (hn':m=parts.length) (hbig':m*i.size<=16777216) (hsz:0<i.size) (hm0:0<m) (hop:Dg I μ env a o.op) :
  ∃R:List (List Value),(execOp a.eval o).run P w = .ok (.value (.slice (some ⟨w.heap.size,0,none⟩) m m)) (w.alloc (.cells R.flatten.toArray e))/\R.length=m/\es.length=m/\(∀c∈R,c.length=i.size)/\(∀c∈es,c.length=i.size) /\
   ∀(k:Nat) (c:List Value) (x:List V),R[k]?=some c->es[k]?=some x->RepVL I c x/\∀u∈c,u.oneCell'=true:=by
 have hty:=htt e i hi;rw [ho] at hop;obtain ⟨inf,zv,hi1,hi2,_,hi4,hi5,hi6⟩:=hty.info;obtain ⟨q1,q2,q3⟩:=Jw (a:=a) (I:=I) (μ:=μ) trivial parts 0 es o' hel hob (λp hp=>hop p.2 (by simp only [Op.operands];exact List.mem_map.2 ⟨p,hp,rfl⟩));have hz0:m*i.size≠0:=by have:=Nat.mul_pos hm0 hsz;omega
 obtain ⟨A,hA,hA1⟩:∃A:List Value,A.length=m*i.size/\(Array.range (m*i.size)).map (λk=>zv.cells[k % zv.cells.size]!)=A.toArray :=
  ⟨((Array.range (m*i.size)).map (λk=>zv.cells[k % zv.cells.size]!)).toList,by simp,rfl⟩
 obtain ⟨c1,c2,c3⟩:=KS i.size m A hA;have hq:∀p∈(parts.map λ(p:Nat×Operand)=>(p.1,a.eval p.2)),∃seg,(FK i.size m A)[p.1]?=some seg/\p.2.cells.size=seg.length:=by
  intro p hp;obtain ⟨q,hm,rfl⟩:=List.mem_map.1 hp;obtain ⟨k,hk⟩:=List.getElem?_of_mem hm;have h1:=q2 k q hk;have hlt:k<parts.length:=(List.getElem?_eq_some_iff.1 hk).1;have hlt2:k<es.length:=by rw [q1];exact hlt
  obtain ⟨_,r2,_,_⟩:=q3 k q es[k] hk (List.getElem?_eq_getElem hlt2);have hlt3:q.1<(FK i.size m A).length:=by rw [c2];omega
  exact ⟨_,List.getElem?_eq_getElem hlt3,by rw [r2,c3 _ (List.getElem_mem hlt3)]⟩
 have hplace:∀k seg,(FK i.size m A)[k]?=some seg->some (k*i.size,i.size)=some (((FK i.size m A).take k).flatten.length,seg.length):=by
  intro k seg hs;have hlt:k<m:=by rw [<- c2];exact (List.getElem?_eq_some_iff.1 hs).1
  rw [AF (sz:=i.size) (λc hc'=>c3 c (List.mem_of_mem_take hc')),c3 seg (List.mem_of_getElem? hs)];rw [List.length_take,c2,Nat.min_eq_left (by omega)]
 have hfill:=JT (λk=>some (k*i.size,i.size)) (parts.map λ(p:Nat×Operand)=>(p.1,a.eval p.2)) _ hplace hq;rw [c1] at hfill;obtain ⟨R,hR⟩:∃R,(parts.map λ(p:Nat×Operand)=>(p.1,a.eval p.2)).foldl (λs p=>s.set p.1 p.2.cells.toList) (FK i.size m A)=R:=⟨_,rfl⟩
 rw [hR] at hfill;have hRl:R.length=m:=by rw [<- hR,DC,c2]
 have hRk:∀(k:Nat) (c:List Value),R[k]?=some c->∃p,parts[k]?=some p/\c=(a.eval p.2).cells.toList:=by
  intro k c hk;have hlt:k<parts.length:=by rw [<- hn',<- hRl];exact (List.getElem?_eq_some_iff.1 hk).1
  have hp:parts[k]?=some parts[k]:=List.getElem?_eq_getElem hlt;have h1:(parts[k]).1=k:=by have:=q2 k _ hp;omega
  rw [<- hR] at hk;obtain ⟨r1,_⟩:=Hw _ _ k c hk;refine ⟨_,hp,r1 _ (List.mem_map.2 ⟨parts[k],List.getElem_mem hlt,by rw [h1]⟩) λu hu=>?_⟩;obtain ⟨q,hm,he⟩:=List.mem_map.1 hu;simp only [Prod.mk.injEq] at he;obtain ⟨k',hk'⟩:=List.getElem?_of_mem hm;have:=q2 k' q hk';have e:k'=k:=by omega
  subst e;rw [hp] at hk';have hk':=Option.some.inj hk';rw [hk',<- he.2]
 refine ⟨R,?_,hRl,by omega,λc hc'=>?_,λc hc'=>?_,λk c x hk hx=>?_⟩
 ·have hno:¬m*i.size > 2 ^ 24:=by omega
  simp only [execOp,ho,Instr.buildSlice,Sem.run_bind,run_underlying hu,hty.sizeOf w,Result.andThen_ok,hno,if_false,Sem.run_pure,if_neg hz0,zeroValue,typeInfo,run_program,hi1,hi4];rw [hA1,List.map_toArray,hfill];simp only [newRow,Sem.run_bind,run_newObj,Result.andThen_ok,Sem.run_pure];rfl
 ·obtain ⟨k,hk⟩:=List.getElem?_of_mem hc';obtain ⟨p,hp,rfl⟩:=hRk k c hk;have hlt2:k<es.length:=by rw [q1];exact (List.getElem?_eq_some_iff.1 hp).1
  obtain ⟨_,r2,_,_⟩:=q3 k p _ hp (List.getElem?_eq_getElem hlt2);simpa using r2
 ·obtain ⟨k,hk⟩:=List.getElem?_of_mem hc';have hlt2:k<parts.length:=by rw [<- q1];exact (List.getElem?_eq_some_iff.1 hk).1
  exact (q3 k _ c (List.getElem?_eq_getElem hlt2) hk).2.2.1
 ·obtain ⟨p,hp,rfl⟩:=hRk k c hk;obtain ⟨r1,_,_,r4⟩:=q3 k p x hp hx;exact ⟨r1,r4⟩
theorem fP (htt:TTok P tt) (q:Nat) {c:PBo} (h:lE tt n env q todo=some c) (hob:A9 c.ob)
  (hk:G P n F Q c.todo (Bz c.dst (.own q c.es.length) env) ((q,some (.row c.e c.sz c.es))::st) ids'):G P n F Q todo env st (q::ids'):=by
 unfold lE at h
 split at h
 ·rename_i all o todo' h1
  split at h
  ·rename_i t m parts hgd hop
   split at h
   ·rename_i e _ _ _ _ ht hd
    split at h
    ·rename_i i hi
     split at h
     ·rename_i es o' hel hm hbig hpos hm0;cases h;simp only at hob hk;have hk:G P n F Q todo' (Bz o.dst (.own q es.length) env) ([(q,some (.row e i.size es))]++st) ids':=hk;refine Bq (fr:=[q]) (wr:=[(q,some (.row e i.size es))]) (rd:=[]) h1 ?_ hd (λc hc=>by rw [hop] at hc;cases hc) hk;intro I μ st1 ids1 a w hag hst hon;refine ⟨λ_=>?_,λhw=>by rw [A0 hgd] at hw;cases hw⟩;have hpos:=show 0<i.size by simpa [Nat.blt_eq] using hpos
      obtain ⟨R,r1,r2,r3,r4,r5,r6⟩:=nG (w:=w) htt hop (htt.sh ht) hi hel hob (Nat.eq_of_beq_eq_true hm) (Nat.le_of_ble_eq_true hbig) hpos (by simpa [Nat.blt_eq] using hm0) (AJ hon);rw [r1];have hfl:RepVL I R.flatten es.flatten:=by
       refine ⟨by rw [AF r4,AF r5,r2,r3],λj u x hu hx=>?_⟩;have hlt:j<m*i.size:=by rw [<- r2,<- AF r4];exact (List.getElem?_eq_some_iff.1 hu).1
       have h1:j / i.size<m:=Nat.div_lt_of_lt_mul (by rw [Nat.mul_comm];exact hlt);have h2:j % i.size<i.size:=Nat.mod_lt _ hpos;have e1:R[j / i.size]?=some R[j / i.size]:=List.getElem?_eq_getElem (by omega);have e2:es[j / i.size]?=some es[j / i.size]:=List.getElem?_eq_getElem (by omega);obtain ⟨p1,p2⟩:=r6 _ _ _ e1 e2;have l1:=r4 _ (List.mem_of_getElem? e1);have l2:=r5 _ (List.mem_of_getElem? e2);have f1:=BY r4 _ _ (j % i.size) _ e1 (List.getElem?_eq_getElem (by omega));have f2:=BY r5 _ _ (j % i.size) _ e2 (List.getElem?_eq_getElem (by omega));have ej:j / i.size*i.size+j % i.size=j:=by rw [Nat.mul_comm,Nat.div_add_mod]
       rw [ej] at f1 f2;rw [f1] at hu;rw [f2] at hx;cases hu;cases hx;exact p1.2 _ _ _ (List.getElem?_eq_getElem (by omega)) (List.getElem?_eq_getElem (by omega))
      have hone:∀c∈es,∀x∈c,V.one x=true:=λc hc x hx=>by
       obtain ⟨k,hk⟩:=List.getElem?_of_mem hc;obtain ⟨l,hl⟩:=List.getElem?_of_mem hx;have hlt:k<R.length:=by rw [r2,<- r3];exact (List.getElem?_eq_some_iff.1 hk).1
       obtain ⟨p1,p2⟩:=r6 k _ c (List.getElem?_eq_getElem hlt) hk;have hl2:l<(R[k]).length:=by rw [p1.1];exact (List.getElem?_eq_some_iff.1 hl).1
       exact (p1.2 l _ x (List.getElem?_eq_getElem hl2) hl).oneV (p2 _ (List.getElem_mem hl2))
      have hcm:m<=maxLen:=by
       have hb:=Nat.le_of_ble_eq_true hbig;have:m*1<=m*i.size:=Nat.mul_le_mul_left m hpos;unfold maxLen;omega
      have hown:(w.alloc (.cells R.flatten.toArray e)).ownsRow 0 e i.size (.slice (some ⟨w.heap.size,0,none⟩) m m) es.length R.flatten:=by
       rw [r3];refine ⟨by rw [AF r4,r2],.inr ⟨w.heap.size,m,R.flatten.toArray,rfl,Nat.zero_le _,Dr w _,Nat.le_refl _,hcm,by simp [AF r4,r2],?_⟩⟩;have:R.flatten.toArray.toList=R.flatten:=rfl;rw [this,List.take_of_length_le (by rw [AF r4,r2];exact Nat.le_refl _)]
      obtain ⟨μ',q1,q2,q3,q4⟩:=StRep.renew (id':=q) (ids:=ids1) (rd:=[]) (v':=.slice (some ⟨w.heap.size,0,none⟩) m m) (blk':=.row e i.size es) hst (World.grownBy_alloc w _ none) (λb hb=>by cases hb) (λb hb=>by
       have:w.heap.size=b:=hb;subst this;exact ⟨by simp,.inl (Nat.le_refl _)⟩) (λμ'=>⟨R.flatten,hown,hfl,r5,hone,hpos⟩)
      refine ⟨I,μ',q3,?_,q2,q4⟩;rw [r3];exact .own q m _ m q1
     ·cases h
    ·cases h
   ·cases h
  ·cases h
 ·cases h
end
end Go.Hk
namespace Go.Hk
def TS (w:World) (e:TypeId) (sz:Nat) (base:Value) (len:Nat) (xs news:List Value) (v':Value) (w':World):Prop :=
 w'.ownsRow 0 e sz v' len (xs++news)/\w.grownBy w' base.ownBlock/\(∀b,v'.ownBlock=some b->base.ownBlock=some b\/w.heap.size<=b)
theorem QV {P:Program} {w:World} {t ty e:TypeId} {i:TyI} (hu:P.underlying t=some (.slice e)) (hi:TyOk P e i) (hz:(Nat.beq i.zero.length i.size&&Nat.blt 0 i.size)=true) {v:Value} {n m c:Nat} {xs news:List Value} (hown:w.ownsRow 0 e i.size v n xs)
  {ad:Addr} (hl:news.length=m*i.size) (hnews:∀j u,news[j]?=some u->w.cell? (ad.add j)=some u) (h1:∀u∈news,u.oneCell'=true) (h63:n+m<=maxLen) (hbytes:(n+m)*i.bytes<=140737488355328) :
  ∃v' w',(Builtin.append_ #[t,t] ty #[v,.slice (some ad) m c]).run P w = .ok v' w'/\TS w e i.size v (n+m) xs news v' w':=by
 obtain ⟨inf,z,z1,z2,z3,z4,z5,z6⟩:=hi.info;simp only [Bool.and_eq_true,Nat.blt_eq] at hz;have hzl:z.cells.size=i.size:=by
  have:=(z5 (λ_=>none) noMu).1;rw [Nat.eq_of_beq_eq_true hz.1] at this;simpa using this
 have hl2:(xs++news).length=(n+m)*i.size:=by rw [List.length_append,hown.1,hl,Nat.add_mul]
 rcases hown.2 with ⟨rfl,rfl⟩ | ⟨g,cap,cur,rfl,_,hheap,hle,hcm,hcs,htake⟩
 ·have hx:xs=[]:=List.eq_nil_of_length_eq_zero (by rw [hown.1];simp);subst hx;obtain ⟨v',w',q1,q2,q3,_⟩:=run_append_own (P:=P) w w.heap.size t ty e inf z i.size i.bytes hu z1 z4 z2 z3 hzl hz.2 (.slice none 0 0) 0 [] (World.ownsRow_nil w _ e i.size) ad m c news hl hnews h1 h63 hbytes (Nat.le_refl _);exact ⟨v',w',q1,⟨q2.1,q2.2.imp id λ⟨g,cap,cur,a1,_,a2⟩=>⟨g,cap,cur,a1,Nat.zero_le _,a2⟩⟩,q3,λb hb=>.inr (q2.lt b hb).1⟩
 ·by_cases hroom:n+m<=cap
  ·have hfit:n*i.size+news.length<=cur.size:=by rw [hl,hcs,<- Nat.add_mul];exact Nat.mul_le_mul_right _ hroom
   have hr:=run_append_room (P:=P) w t ty e inf hu z1 g n cap cur hheap ad m c news (by rw [z2];exact hl) hnews h1 hroom (by rw [z2];exact hfit);rw [z2] at hr;refine ⟨_,_,hr,⟨hl2,.inr ⟨g,cap,_,rfl,Nat.zero_le _,setRow_heap w g cur _ e _ hheap,hroom,hcm,?_,?_⟩⟩,⟨rfl,rfl,rfl,by simp,λk _ hk=>setRow_other w g k _ (λe=>hk (by simp [e,Value.ownBlock]))⟩,λb hb=>.inl hb⟩
   ·simp only [List.size_toArray,List.length_append,List.length_take,List.length_drop,Array.length_toList];omega
   ·rw [htake,<- hl2];exact List.take_left
  ·have hsmall:n+m<=9223372036854775807:=by simp only [maxLen] at h63;omega
   have hr':=run_append_grow (P:=P) w t ty e inf z hu z1 z4 ⟨g,0,none⟩ n cap xs (by rw [z2];exact hown.1) (hown.cells (g:=g) rfl) ad m c news (by rw [z2];exact hl) hnews (by omega) (by omega) (by rw [z3];exact growslice_fits (by omega) hbytes);have hge:=grownCap_ge w (n+m) cap e;have hcm':grownCap w (n+m) cap e<=maxLen:=grownCap_le_maxLen w _ cap e h63;refine ⟨_,_,hr',⟨hl2,.inr ⟨w.heap.size,_,_,rfl,Nat.zero_le _,Dr w.drew _,hge,hcm',?_,?_⟩⟩,⟨rfl,rfl,rfl,by simp,λk hk _=>F5 w.drew _ hk⟩,λb h=>by simp [Value.ownBlock] at h;exact .inr (by omega)⟩
   ·simp only [Array.size_append,List.size_toArray,size_zeroCells,hzl,hown.1,hl,<- Nat.add_mul];congr 1;omega
   ·simp only [Array.toList_append];rw [<- hl2];exact List.take_left
def iI (A B A':Asn) (e:TypeId) (sz bytes:Nat) (base:Value):Prop:=∀us vs I w b1 b2,A.P us I w b1->B.P vs I w b2->(∀b∈b1,b∉b2)->∃n m c xs news ad,
 w.ownsRow 0 e sz base n xs/\(∀k,base.ownBlock=some k->k∈b1)/\vs[0]?=some (.slice (some ad) m c)/\news.length=m*sz/\(∀j u,news[j]?=some u->w.cell? (ad.add j)=some u)/\(∀u∈news,u.oneCell'=true) /\
 (n+m<=maxLen/\(n+m)*bytes<=140737488355328) /\
 ∀v' w',TS w e sz base (n+m) xs news v' w'->∃bs,(∀b∈bs,(b∈b1\/b∈b2)\/(w.heap.size<=b/\b<w'.heap.size))/\A'.P [v'] I w' bs
def iH (A A':Asn) (e:TypeId) (sz bytes:Nat) (base:Value) (es2:List (List V)):Prop:=(∀c∈es2,c.length=sz)/\∀us I w b1,A.P us I w b1->∃n xs,
 w.ownsRow 0 e sz base n xs/\(∀k,base.ownBlock=some k->k∈b1)/\(n+es2.length<=maxLen/\(n+es2.length)*bytes<=140737488355328) /\
 ∀v' w' news,RepVL I news es2.flatten->(∀u∈news,u.oneCell'=true)->TS w e sz base (n+es2.length) xs news v' w'->∃bs,(∀b∈bs,b∈b1\/(w.heap.size<=b/\b<w'.heap.size))/\A'.P [v'] I w' bs
structure PAp where
 base:Value
 e:TypeId
 sz:Nat
 bytes:Nat
 es2:List (List V)
 dst:Option Nat
 todo:List DI
def lI (tt:TT) (n:Nat) (env:Env) (id q id':Nat) (todo:List DI):Option PAp :=
 match AS todo ([id,q],[id',id,q]) with
 | some (_,o,todo')=>match o.guard,o.op with
  | none,.call { callee:=.builtin .append,args:=⟨[x,y]⟩,argTypes:=⟨[t,t']⟩ }=>match Nat.beq t t',lk tt t,CQ env x,CQ env y with
   | true,some { sh:=.sl e,.. },some (.raw v),some (.hv i l)=>match lk tt e with
    | some ti=>match Nat.beq ti.zero.length ti.size&&Nat.blt 0 ti.size,Nat.beq i q,Nat.beq l 0,B1 n o.dst with
     | true,true,true,true=>some ⟨v,e,ti.size,ti.bytes,[],o.dst,todo'⟩
     | _,_,_,_=>none
    | none=>none
   | _,_,_,_=>none
  | _,_=>none
 | none=>none
def lH (tt:TT) (n:Nat) (env:Env) (id id':Nat) (todo:List DI):Option PAp :=
 match AS todo ([id],[id',id]) with
 | some (_,o,todo')=>match o.guard,o.op with
  | none,.call { callee:=.builtin .append,args:=⟨[x,y]⟩,argTypes:=⟨[t,t']⟩ }=>match Nat.beq t t',lk tt t,CQ env x,CQ env y with
   | true,some { sh:=.sl e,.. },some (.raw v),some (.imm (.sl (e1::es2)))=>match lk tt e with
    | some ti=>match Nat.beq ti.zero.length ti.size&&Nat.blt 0 ti.size,B1 n o.dst with
     | true,true=>some ⟨v,e,ti.size,ti.bytes,e1::es2,o.dst,todo'⟩
     | _,_=>none
    | none=>none
   | _,_,_,_=>none
  | _,_=>none
 | none=>none
structure oS where
 b:Nat
 off:Nat
 k:Nat
 todo:List DI
def UA (tt:TT) (env:Env) (id:Nat) (todo:List DI):Option oS :=
 match AS todo ([id],[id]) with
 | some (_,o,todo')=>match o.guard,o.dst,o.op with
  | none,none,.store t p x=>match lk tt t,CQ env p,CQ env x with
   | some i,some (.raw (.pointer (some ⟨b,off,none⟩))),some (.hv j k)=>match Nat.beq i.size 1,Nat.beq j id with
    | true,true=>some ⟨b,off,k,todo'⟩
    | _,_=>none
   | _,_,_=>none
  | _,_,_=>none
 | none=>none
def QZ (A A':Asn) (b off k:Nat):Prop:=∀us I w bs,A.P us I w bs->b∈bs/\∃cur t,w.heap[b]?=some (.cells cur t (0,0))/\off+1<=cur.size /\
 ∀u,us[k]?=some u->u.oneCell'=true->A'.P us I (w.setRow b (cur.toList.take off++[u]++cur.toList.drop (off+1)).toArray) bs
structure PRn where
 eq:Bool
 nil:Bool
 dst:Option Nat
 todo:List DI
def kY (tt:TT) (n:Nat) (env:Env) (todo:List DI):Option PRn :=
 match AS todo ([],[]) with
 | some (_,o,todo')=>match o.guard,o.op with
  | none,.binOp .eql t x y _=>match lk tt t,CQ env x,CQ env y,B1 n o.dst with
   | some { sh:=.sl _,.. },some (.raw (.slice ad _ _)),some .nils,true=>some ⟨true,ad.isNone,o.dst,todo'⟩
   | _,_,_,_=>none
  | none,.binOp .neq t x y _=>match lk tt t,CQ env x,CQ env y,B1 n o.dst with
   | some { sh:=.sl _,.. },some (.raw (.slice ad _ _)),some .nils,true=>some ⟨false,ad.isNone,o.dst,todo'⟩
   | _,_,_,_=>none
  | _,_=>none
 | none=>none
section
variable {P:Program} {n:Nat} {F:List Nat} {Q:DQ} {tt:TT} {env env':Env} {st st' st0 st1:St} {ids ids' fr:List Nat} {k todo todo':List DI} {I J:Imm} {μ:Mu} {w:World} {a:Act} {Pn:V->Prop} {d:D} {cx:Prop} {ob:List Prop}
theorem RepD.hvInv {v:Value} {j i:Nat} {us:List Value} {bs:List Nat} (hm:μ j=some (MQ us bs)) (h:RepD I μ v (.hv j i)):us[i]?=some v/\v.oneCell'=true:=by
 cases h with
 | hv _ _ _ us' bs' hm' hi' h1 =>
  rw [hm] at hm';have:us=us':=by
   simp only [MQ,Option.some.injEq,Value.tuple.injEq,Array.mk.injEq,List.cons.injEq,Value.agg.injEq,and_true] at hm';simpa using hm'.1
  exact ⟨by rw [this];exact hi',h1⟩
theorem Hj {w:World} {e:TypeId} {sz n:Nat} {v:Value} {xs:List Value} (h:w.ownsRow 0 e sz v n xs):v.oneCell'=true:=by
 rcases h.2 with ⟨rfl,_⟩ | ⟨g,cap,cur,rfl,_⟩ <;> rfl
theorem fR (htt:TTok P tt) (id q id':Nat) {A B:Asn} (A':Asn) {c:PAp} (h:lI tt n env id q id' todo=some c) (hl:lk st id=some (some (.hp A))) (hlq:lk st q=some (some (.hp B))) (hne:id≠q) (hA:iI A B A' c.e c.sz c.bytes c.base)
  (hk:G P n F Q c.todo (Bz c.dst (.hv id' 0) env) ((id',some (.hp A'))::(id,none)::(q,none)::st) ids'):G P n F Q todo env st (id'::ids'):=by
 unfold lI at h
 split at h
 ·rename_i all o todo' h1
  split at h
  ·rename_i x y t t' hgd hop
   split at h
   ·rename_i e _ _ _ _ v i l htt' ht hx hy;have:=Nat.eq_of_beq_eq_true htt';subst this
    split at h
    ·rename_i ti hti
     split at h
     ·rename_i hz hi hl0 hd;cases h;simp only at hA hk;have hi:=Nat.eq_of_beq_eq_true hi;have hl0:=Nat.eq_of_beq_eq_true hl0;subst hi;subst hl0;have hk:G P n F Q todo' (Bz o.dst (.hv id' 0) env) ([(id',some (.hp A')),(id,none),(i,none)]++st) ids':=hk;refine Bq (fr:=[id']) (wr:=[(id',some (.hp A')),(id,none),(i,none)]) (rd:=[id,i]) h1 ?_ hd (λc hc=>by rw [hop] at hc;cases hc) hk;intro I μ st1 ids1 a w hag hst hon;refine ⟨λ_=>?_,λhw=>by rw [A0 hgd] at hw;cases hw⟩;have hops:=AJ hon;rw [hop] at hops;have hl1:Aq st1 id (.hp A):=by unfold Aq;rw [hag id (by simp)];exact hl
      have hl2:Aq st1 i (.hp B):=by unfold Aq;rw [hag i (by simp)];exact hlq
      obtain ⟨g1,hg1,us,b1,rfl,hP1⟩:=hst.blk id _ hl1;obtain ⟨g2,hg2,vs,b2,rfl,hP2⟩:=hst.blk i _ hl2;have hv:a.eval x=v:=(hops x (by simp [Op.operands,Call.operands]) _ hx).rawInv;obtain ⟨hy0,_⟩:=(hops y (by simp [Op.operands,Call.operands]) _ hy).hvInv hg2;obtain ⟨nn,m,cc,xs,news,ad,k1,k2,k3,k4,k5,k6,⟨k7,k8⟩,k9⟩:=hA us vs I w b1 b2 hP1 hP2 λb h1 h2=>hne (hst.inj id i _ _ _ _ b hl1 hl2 hg1 hg2 (AL.2 h1) (AL.2 h2));have hyv:a.eval y = .slice (some ad) m cc:=by rw [hy0] at k3;exact Option.some.inj k3
      obtain ⟨v',w',r1,r2⟩:=QV (ty:=o.type) (c:=cc) (htt.sh ht) (htt e ti hti) hz k1 k4 k5 k6 k7 k8;have hrun:(execOp a.eval o).run P w = .ok (.value v') w':=by
       simp only [execOp,hop,resolve,invoke,builtin,Sem.run_bind,Sem.run_pure,Result.andThen_ok,List.map_toArray,List.map_cons,List.map_nil,hv,hyv,r1]
      rw [hrun];obtain ⟨bs,s1,s2⟩:=k9 v' w' r2;have hold:∀b,b∈b1\/b∈b2->∃id0 blk g,id0∈[id,i]/\Aq st1 id0 blk/\μ id0=some g/\CY g b:=λb hb=>by
       rcases hb with hb | hb
       ·exact ⟨id,_,_,by simp,hl1,hg1,AL.2 hb⟩
       ·exact ⟨i,_,_,by simp,hl2,hg2,AL.2 hb⟩
      have hlt:∀b,b∈b1\/b∈b2->b<w.heap.size:=λb hb=>by
       obtain ⟨id0,blk,g,_,q2,q3,q4⟩:=hold b hb;exact (hst.apart id0 blk g b q2 q3 q4).2
      obtain ⟨μ',q1,q2,q3,q4⟩:=StRep.renew (id':=id') (ids:=ids1) (rd:=[id,i]) (v':=MQ [v'] bs) (blk':=.hp A') hst r2.2.1 (λb hb=>hold b (.inl (k2 b hb))) (λb hb=>by
       rcases s1 b (AL.1 hb) with h | h
       ·exact ⟨Nat.lt_of_lt_of_le (hlt b h) r2.2.1.size,.inr (hold b h)⟩
       ·exact ⟨h.2,.inl h.1⟩) (λμ'=>⟨_,_,rfl,s2⟩)
      exact ⟨I,μ',q3,.hv _ id' 0 _ _ q1 rfl (Hj r2.1),q2,q4⟩
     ·cases h
    ·cases h
   ·cases h
  ·cases h
 ·cases h
theorem mZ (htt:TTok P tt) (id id':Nat) {A:Asn} (A':Asn) {c:PAp} (h:lH tt n env id id' todo=some c) (hl:lk st id=some (some (.hp A))) (hA:iH A A' c.e c.sz c.bytes c.base c.es2)
  (hk:G P n F Q c.todo (Bz c.dst (.hv id' 0) env) ((id',some (.hp A'))::(id,none)::st) ids'):G P n F Q todo env st (id'::ids'):=by
 unfold lH at h
 split at h
 ·rename_i all o todo' h1
  split at h
  ·rename_i x y t t' hgd hop
   split at h
   ·rename_i e _ _ _ _ v e1 es2 htt' ht hx hy;have:=Nat.eq_of_beq_eq_true htt';subst this
    split at h
    ·rename_i ti hti
     split at h
     ·rename_i hz hd;cases h;simp only at hA hk;have hk:G P n F Q todo' (Bz o.dst (.hv id' 0) env) ([(id',some (.hp A')),(id,none)]++st) ids':=hk;refine Bq (fr:=[id']) (wr:=[(id',some (.hp A')),(id,none)]) (rd:=[id]) h1 ?_ hd (λc hc=>by rw [hop] at hc;cases hc) hk;intro I μ st1 ids1 a w hag hst hon;refine ⟨λ_=>?_,λhw=>by rw [A0 hgd] at hw;cases hw⟩;have hops:=AJ hon;rw [hop] at hops;have hl1:Aq st1 id (.hp A):=by unfold Aq;rw [hag id (by simp)];exact hl
      obtain ⟨g1,hg1,us,b1,rfl,hP1⟩:=hst.blk id _ hl1;have hv:a.eval x=v:=(hops x (by simp [Op.operands,Call.operands]) _ hx).rawInv;have hpos:0<ti.size:=by
       simp only [Bool.and_eq_true,Nat.blt_eq] at hz;exact hz.2
      obtain ⟨hsz,hA⟩:=hA;obtain ⟨nn,xs,k1,k2,⟨k7,k8⟩,k9⟩:=hA us I w b1 hP1;rcases Ll hst.imm (hops y (by simp [Op.operands,Call.operands]) _ hy).immInv hsz hpos with ⟨_,e0⟩ | ⟨yb,yo,yc,news,ey,_,_,n1,n2,n3,n4,_⟩
      ·cases e0
      obtain ⟨v',w',r1,r2⟩:=QV (ty:=o.type) (c:=yc) (htt.sh ht) (htt e ti hti) hz k1 n1 n2 n3 k7 k8;have hrun:(execOp a.eval o).run P w = .ok (.value v') w':=by
       simp only [execOp,hop,resolve,invoke,builtin,Sem.run_bind,Sem.run_pure,Result.andThen_ok,List.map_toArray,List.map_cons,List.map_nil,hv,ey,r1]
      rw [hrun];obtain ⟨bs,s1,s2⟩:=k9 v' w' news n4 n3 r2;have hlt:∀b,b∈b1->b<w.heap.size:=λb hb=>(hst.apart id _ _ b hl1 hg1 (AL.2 hb)).2;obtain ⟨μ',q1,q2,q3,q4⟩:=StRep.renew (id':=id') (ids:=ids1) (rd:=[id]) (v':=MQ [v'] bs) (blk':=.hp A') hst r2.2.1 (λb hb=>⟨id,_,_,by simp,hl1,hg1,AL.2 (k2 b hb)⟩) (λb hb=>by
       rcases s1 b (AL.1 hb) with h | h
       ·exact ⟨Nat.lt_of_lt_of_le (hlt b h) r2.2.1.size,.inr ⟨id,_,_,by simp,hl1,hg1,AL.2 h⟩⟩
       ·exact ⟨h.2,.inl h.1⟩) (λμ'=>⟨_,_,rfl,s2⟩)
      exact ⟨I,μ',q3,.hv _ id' 0 _ _ q1 rfl (Hj r2.1),q2,q4⟩
     ·cases h
    ·cases h
   ·cases h
  ·cases h
 ·cases h
theorem MR (htt:TTok P tt) (id:Nat) {A:Asn} (A':Asn) {c:oS} (h:UA tt env id todo=some c) (hl:lk st id=some (some (.hp A))) (hA:QZ A A' c.b c.off c.k)
  (hk:G P n F Q c.todo env ((id,some (.hp A'))::st) ids):G P n F Q todo env st ids:=by
 unfold UA at h
 split at h
 ·rename_i all o todo' h1
  split at h
  ·rename_i t p x hgd hdst hop
   split at h
   ·rename_i i b off j k ht hp hx
    split at h
    ·rename_i hsz hj;cases h;simp only at hA hk;have hj:=Nat.eq_of_beq_eq_true hj;have hsz:=Nat.eq_of_beq_eq_true hsz;subst hj;have hk:G P n F Q todo' (Bz o.dst .undef env) ([(j,some (.hp A'))]++st) ids:=by rw [hdst];exact hk
     refine Bq (fr:=[]) (wr:=[(j,some (.hp A'))]) (rd:=[j]) h1 ?_ (by simp [B1,hdst]) (λc hc=>by rw [hop] at hc;cases hc) hk;intro I μ st1 ids1 a w hag hst hon;refine ⟨λ_=>?_,λhw=>by rw [A0 hgd] at hw;cases hw⟩;have hops:=AJ hon;rw [hop] at hops;have rp:=(hops p (by simp [Op.operands]) _ hp).rawInv;have hl1:Aq st1 j (.hp A):=by unfold Aq;rw [hag j (by simp)];exact hl
     obtain ⟨gg,hg',us,bs,e1,e2⟩:=hst.blk j _ hl1;subst e1;obtain ⟨hu,hone⟩:=(hops x (by simp [Op.operands]) _ hx).hvInv hg';obtain ⟨k1,vs,bt,k2,k3,k4⟩:=hA us I w bs e2;have hcell:=Ft hone;have hrun:(execOp a.eval o).run P w = .ok .skip (w.setRow b (vs.toList.take off++[a.eval x]++vs.toList.drop (off+1)).toArray):=by
      have:=Ii (v:=a.eval x) (off:=off) (htt t i ht) k2 (by rw [hcell,hsz];rfl) (by rw [hcell];intro u hu;simp at hu;rw [hu];exact hone) (by rw [hcell];exact k3);rw [hcell] at this;simp only [execOp,hop,rp,Sem.run_bind,this,Result.andThen_ok,Sem.run_pure];rfl
     rw [hrun];have hnew:BlkRep I μ (w.setRow b (vs.toList.take off++[a.eval x]++vs.toList.drop (off+1)).toArray) (MQ us bs) (.hp A'):=⟨us,bs,rfl,k4 _ hu hone⟩
     obtain ⟨q1,q2⟩:=hst.update (id:=j) (blk:=.hp A) (g:=MQ us bs) (b:=b) hl1 hg' (AL.2 k1) (w':=w.setRow b _) (setRow_size w b _) rfl rfl rfl (λk hk=>setRow_other w b k _ hk) hnew;exact ⟨I,μ,q1,.undef _,Mu.le_refl μ,q2⟩
    ·cases h
   ·cases h
  ·cases h
 ·cases h
theorem mW (htt:TTok P tt) {c:PRn} (h:kY tt n env todo=some c) (hk:G P n F Q c.todo (Bz c.dst (.imm (.bool (c.eq == c.nil))) env) st ids):G P n F Q todo env st ids:=by
 unfold kY at h
 split at h
 ·rename_i all o todo' h1
  split at h
  ·rename_i t x y t' hgd hop
   split at h
   ·rename_i e _ _ _ _ ad len cap ht hx hy hd;cases h;refine Bq (fr:=[]) (wr:=[]) (rd:=[]) h1 ?_ hd (λc hc=>by rw [hop] at hc;cases hc) hk;intro I μ st1 ids1 a w hag hst hon;refine ⟨λ_=>?_,λhw=>by rw [A0 hgd] at hw;cases hw⟩;have hops:=AJ hon;rw [hop] at hops;have e1:a.eval x = .slice ad len cap:=(hops x (by simp [Op.operands]) _ hx).rawInv;have e3:a.eval y = .slice none 0 0:=by
     have:=hops y (by simp [Op.operands]) _ hy;generalize a.eval y=v at this;cases this;rfl
    have hrun:(execOp a.eval o).run P w = .ok (.value (.bool ad.isNone)) w:=by
     simp only [execOp,hop,e1,e3];exact At (F7 (htt.sh ht) x y ad len cap).1
    rw [hrun];exact ⟨I,μ,hst,.imm _ _ (by cases ad.isNone <;> exact .bool _),Mu.le_refl μ,Ext.refl _ _ _ _⟩
   ·cases h
  ·rename_i t x y t' hgd hop
   split at h
   ·rename_i e _ _ _ _ ad len cap ht hx hy hd;cases h;refine Bq (fr:=[]) (wr:=[]) (rd:=[]) h1 ?_ hd (λc hc=>by rw [hop] at hc;cases hc) hk;intro I μ st1 ids1 a w hag hst hon;refine ⟨λ_=>?_,λhw=>by rw [A0 hgd] at hw;cases hw⟩;have hops:=AJ hon;rw [hop] at hops;have e1:a.eval x = .slice ad len cap:=(hops x (by simp [Op.operands]) _ hx).rawInv;have e3:a.eval y = .slice none 0 0:=by
     have:=hops y (by simp [Op.operands]) _ hy;generalize a.eval y=v at this;cases this;rfl
    have hrun:(execOp a.eval o).run P w = .ok (.value (.bool (!ad.isNone))) w:=by
     simp only [execOp,hop,e1,e3];exact At (F7 (htt.sh ht) x y ad len cap).2
    rw [hrun];exact ⟨I,μ,hst,.imm _ _ (by cases ad.isNone <;> exact .bool _),Mu.le_refl μ,Ext.refl _ _ _ _⟩
   ·cases h
  ·cases h
 ·cases h
end
end Go.Hk
