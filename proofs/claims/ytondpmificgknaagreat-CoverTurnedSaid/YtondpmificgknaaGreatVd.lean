/- Appending to a slice that is known by address; stores of what the block itself tells; such a slice compared with nil. (And what it stands on.) -/
import Derived.Test.YtondpmificgknaaGreatVc
import Derived.Laws.MakeOwn
import Derived.Test.YtondpmificgknaaGreatVb
set_option linter.unusedSimpArgs false
set_option linter.unusedVariables false

set_option maxRecDepth 100000
namespace Go.Hk
open Go.Proofs
def Vl (op n:Int) (x:Str) (k p:Nat):Bool:=let h:=B6 op k p
 h.is&&((k:Int) == h.kids)&&(h.n||n == 0)&&(h.text||x == [])&&(h.pats||(p:Int) == 0)
def IK (op:Int) (x:Str) (k p:Nat):Bool:=!((B6 op k p).text&&op != 14)||El x
theorem CQ (op n:Int) (x:Str) (ks:List Tm) (ps:List Ty) (hl:IK op x ks.length ps.length=true):DGo Tryz.prog Tryz.f227.ntmps (DN []) (Nt kX Tryz.f227.results.toList (.ret GW []))
  [.code (F4 Tryz.f227 4)] [(1,.ref 1 0),(2,.ref 2 0)] [(2,some (.immb 291 4 (Dx (B6 op ks.length ps.length)))),(1,some (.immb 186 5 (C6 (.mk op n x ks ps))))] [3,4]:=by
 refine sd [] rfl (by simp [Ah]) ?_;refine Aa rfl (λh=>?_) (λh=>?_)
 ·refine sd [] rfl (by simp) ?_;refine Ac rfl (λ_=>Gs x) (by simp [Ah]) ?_;refine sg [] rfl (by simp) ?_;have hx:El x=true:=by simp [IK] at hl h;grind
  refine Ac rfl (λ_=>Bt _ hx) (by simp) ?_;refine sg [] rfl (by simp) ?_;exact Cn ⟨_,rfl,rfl,trivial⟩
 ·refine sd [] rfl (by simp) ?_;exact Cn ⟨_,rfl,rfl,trivial⟩
theorem Dp (op n:Int) (x:Str) (ks:List Tm) (ps:List Ty) (hl:IK op x ks.length ps.length=false):DGo Tryz.prog Tryz.f227.ntmps (DN []) (Nt kX Tryz.f227.results.toList (.pan EO))
  [.code (F4 Tryz.f227 4)] [(1,.ref 1 0),(2,.ref 2 0)] [(2,some (.immb 291 4 (Dx (B6 op ks.length ps.length)))),(1,some (.immb 186 5 (C6 (.mk op n x ks ps))))] [3,4]:=by
 refine sd [] rfl (by simp [Ah]) ?_;refine Aa rfl (λh=>?_) (λh=>?_)
 ·refine sd [] rfl (by simp) ?_;refine Ac rfl (λ_=>Gs x) (by simp [Ah]) ?_;refine sg [] rfl (by simp) ?_;have hx:El x=false:=by simp [IK] at hl h;grind
  exact Ay [] rfl (by simp) (BO _ hx) trivial rfl rfl
 ·exfalso;simp [IK] at hl h;grind
def CM (op n:Int) (x:Str) (ps:List Ty):Bool :=
 if op=1 then Cv n
 else if op=2 then n == 0||n == 1
 else if op=24 then decide (0<=n)&&decide (n<4)
 else if op=14 then CL x
 else if op=15 then decide (1<=(ps.length:Int))&&decide ((ps.length:Int)<=5)&&ps.all Bz
 else true
def Sg (op n:Int) (x:Str) (k:Nat) (ps:List Ty):Bool:=Vl op n x k ps.length&&CM op n x ps&&IK op x k ps.length
theorem RF (op n:Int) (x:Str) (ks:List Tm) (ps:List Ty) (hy:Sg op n x ks.length ps=true):Bc Tryz.prog 227 [.imm (.agg (C6 (.mk op n x ks ps)))] [] (.ret GW []):=by
 simp only [Sg] at hy;refine Ad Gq Tryz.func227 (by decide +kernel) rfl [1,2,3,4] rfl rfl ?_;refine sg [] rfl (by simp) ?_;refine Ac rfl (λ_=>Ur op n x ks ps) (by simp [Ah]) ?_;refine sg [] rfl (by simp [Ah,Dx] <;> grind) ?_;simp only [Bool.and_eq_true] at hy;obtain ⟨⟨hh,he⟩,hl⟩:=hy;refine Ac rfl (λ_=>Bt _ (by simp [Vl] at hh ⊢;grind)) (by simp) ?_;by_cases h1:op=1
 ·subst h1;refine sg [.a] rfl (by simp [Ah]) ?_;refine Ac rfl (λ_=>I5 n) (by simp) ?_;refine sg [] rfl (by simp) ?_;simp [CM] at he;refine Ac rfl (λ_=>Bt _ (by first | exact he | (simp at he ⊢;grind) | (simp;grind) | grind)) (by simp) ?_;refine sg [.s] rfl (by simp) ?_;exact Ae (CQ _ n x ks ps hl) ⟨rfl,rfl,trivial⟩ ⟨rfl,rfl,trivial⟩ rfl
 by_cases h2:op=2
 ·subst h2;refine sg [.a,.a] rfl (by simp [Ah]) ?_;simp [CM] at he;refine Ac rfl (λ_=>Bt _ (by first | exact he | (simp at he ⊢;grind) | (simp;grind) | grind)) (by simp) ?_;refine sg [.s] rfl (by simp) ?_;exact Ae (CQ _ n x ks ps hl) ⟨rfl,rfl,trivial⟩ ⟨rfl,rfl,trivial⟩ rfl
 by_cases h24:op=24
 ·subst h24;refine sg [.a,.a,.a] rfl (by simp [Ah]) ?_;simp [CM] at he;refine Ac rfl (λ_=>Bt _ (by first | exact he | (simp at he ⊢;grind) | (simp;grind) | grind)) (by simp) ?_;refine sg [.s] rfl (by simp) ?_;exact Ae (CQ _ n x ks ps hl) ⟨rfl,rfl,trivial⟩ ⟨rfl,rfl,trivial⟩ rfl
 by_cases h14:op=14
 ·subst h14;refine sg [.a,.a,.a,.a] rfl (by simp [Ah]) ?_;refine Ac rfl (λ_=>Dq x) (by simp) ?_;refine sg [] rfl (by simp) ?_;simp [CM] at he;refine Ac rfl (λ_=>Bt _ (by first | exact he | (simp at he ⊢;grind) | (simp;grind) | grind)) (by simp) ?_;refine sg [.s] rfl (by simp) ?_;exact Ae (CQ _ n x ks ps hl) ⟨rfl,rfl,trivial⟩ ⟨rfl,rfl,trivial⟩ rfl
 by_cases h15:op=15
 ·subst h15;refine sg [.a,.a,.a,.a,.a] rfl (by simp [Ah]) ?_;simp [CM] at he;refine Ac rfl (λ_=>Bt _ (by simp;grind)) (by simp) ?_;refine sg [] rfl (by simp) ?_;refine Ak (λi:Nat=>[(101,.imm (.int .i64 i)),(100,.imm (.int .i64 ps.length)),(99,.imm (.sl (Bq ps))),(1,.ref 1 0),(2,.ref 2 0)]) (λ_=>[(2,some (.immb 291 4 (Dx (B6 15 ks.length ps.length)))),(1,some (.immb 186 5 (C6 (.mk 15 n x ks ps))))]) [3,4] (λi=>ps.length-i)
   (λi=>i<=ps.length/\(ps.drop i).all Bz=true) 0 ⟨Nat.zero_le _,by simpa using he.2⟩ ⟨rfl,As (by simp),rfl,rfl,rfl,trivial⟩ ⟨rfl,rfl,trivial⟩ rfl λi hi ih=>?_
  refine sd [] rfl (by simp) ?_;have hi2:=hi.2;refine Aa rfl (λh=>?_) (λh=>?_)
  ·simp at h;obtain ⟨t,ht⟩:=Am h;rw [An ht,List.all_cons] at hi2;refine sd [] rfl (by simp) ?_;refine si rfl (c:=dTyc t) (λ_=>⟨by simp,by simpa using At ht,by simp⟩) (by simp) ?_;refine sg [] rfl (by simp) ?_;refine Ac rfl (λ_=>JB t) (by simp) ?_;refine sg [] rfl (by simp) ?_;simp only [Bool.and_eq_true] at hi2;have hz:=hi2.1;refine Ac rfl (λ_=>Bt _ (by first | rfl | (rw [hz];rfl))) (by simp) ?_;refine sg [] rfl (by simp) ?_;exact Ae (ih (i+1) (by omega) ⟨by omega,hi2.2⟩) ⟨As (B9 (by omega) (by omega)),rfl,rfl,rfl,rfl,trivial⟩ ⟨rfl,rfl,trivial⟩ rfl
  ·simp at h;rw [List.drop_eq_nil_of_le (by omega)] at hi2;refine sd [.s] rfl (by simp) ?_;exact Ae (CQ _ n x ks ps hl) ⟨rfl,rfl,trivial⟩ ⟨rfl,rfl,trivial⟩ rfl
 refine sg [.f,.f,.f,.f,.f,.s] rfl (by simp [h1,h2,h24,h14,h15]) ?_;exact Ae (CQ _ n x ks ps hl) ⟨rfl,rfl,trivial⟩ ⟨rfl,rfl,trivial⟩ rfl
theorem bH (op n:Int) (x:Str) (ks:List Tm) (ps:List Ty) (hy:Sg op n x ks.length ps=false):Bc Tryz.prog 227 [.imm (.agg (C6 (.mk op n x ks ps)))] [] (.pan EO):=by
 simp only [Sg] at hy;refine Ad Gq Tryz.func227 (by decide +kernel) rfl [1,2,3,4] rfl rfl ?_;refine sg [] rfl (by simp) ?_;refine Ac rfl (λ_=>Ur op n x ks ps) (by simp [Ah]) ?_;refine sg [] rfl (by simp [Ah,Dx] <;> grind) ?_;by_cases hh:Vl op n x ks.length ps.length=true
 rotate_left
 ·exact Ay [] rfl (by simp) (BO _ (by simp [Vl] at hh ⊢;grind)) trivial rfl rfl
 rw [hh] at hy;refine Ac rfl (λ_=>Bt _ (by simp [Vl] at hh ⊢;grind)) (by simp) ?_;by_cases h1:op=1
 ·subst h1;refine sg [.a] rfl (by simp [Ah]) ?_;refine Ac rfl (λ_=>I5 n) (by simp) ?_;refine sg [] rfl (by simp) ?_;by_cases he:CM 1 n x ps=true
  ·have hl:IK 1 x ks.length ps.length=false:=by simpa [he] using hy
   simp [CM] at he;refine Ac rfl (λ_=>Bt _ (by first | exact he | (simp at he ⊢;grind) | (simp;grind) | grind)) (by simp) ?_;refine sg [.s] rfl (by simp) ?_;exact Ae (Dp _ n x ks ps hl) ⟨rfl,rfl,trivial⟩ ⟨rfl,rfl,trivial⟩ rfl
  ·simp [CM] at he;exact Ay [] rfl (by simp) (BO _ (by first | exact he | (simp at he ⊢;grind) | (simp;grind) | grind)) trivial rfl rfl
 by_cases h2:op=2
 ·subst h2;refine sg [.a,.a] rfl (by simp [Ah]) ?_;by_cases he:CM 2 n x ps=true
  ·have hl:IK 2 x ks.length ps.length=false:=by simpa [he] using hy
   simp [CM] at he;refine Ac rfl (λ_=>Bt _ (by first | exact he | (simp at he ⊢;grind) | (simp;grind) | grind)) (by simp) ?_;refine sg [.s] rfl (by simp) ?_;exact Ae (Dp _ n x ks ps hl) ⟨rfl,rfl,trivial⟩ ⟨rfl,rfl,trivial⟩ rfl
  ·simp [CM] at he;exact Ay [] rfl (by simp) (BO _ (by first | exact he | (simp at he ⊢;grind) | (simp;grind) | grind)) trivial rfl rfl
 by_cases h24:op=24
 ·subst h24;refine sg [.a,.a,.a] rfl (by simp [Ah]) ?_;by_cases he:CM 24 n x ps=true
  ·have hl:IK 24 x ks.length ps.length=false:=by simpa [he] using hy
   simp [CM] at he;refine Ac rfl (λ_=>Bt _ (by first | exact he | (simp at he ⊢;grind) | (simp;grind) | grind)) (by simp) ?_;refine sg [.s] rfl (by simp) ?_;exact Ae (Dp _ n x ks ps hl) ⟨rfl,rfl,trivial⟩ ⟨rfl,rfl,trivial⟩ rfl
  ·simp [CM] at he;exact Ay [] rfl (by simp) (BO _ (by first | exact he | (simp at he ⊢;grind) | (simp;grind) | grind)) trivial rfl rfl
 by_cases h14:op=14
 ·subst h14;refine sg [.a,.a,.a,.a] rfl (by simp [Ah]) ?_;refine Ac rfl (λ_=>Dq x) (by simp) ?_;refine sg [] rfl (by simp) ?_;by_cases he:CM 14 n x ps=true
  ·have hl:IK 14 x ks.length ps.length=false:=by simpa [he] using hy
   simp [CM] at he;refine Ac rfl (λ_=>Bt _ (by first | exact he | (simp at he ⊢;grind) | (simp;grind) | grind)) (by simp) ?_;refine sg [.s] rfl (by simp) ?_;exact Ae (Dp _ n x ks ps hl) ⟨rfl,rfl,trivial⟩ ⟨rfl,rfl,trivial⟩ rfl
  ·simp [CM] at he;exact Ay [] rfl (by simp) (BO _ (by first | exact he | (simp at he ⊢;grind) | (simp;grind) | grind)) trivial rfl rfl
 by_cases h15:op=15
 ·subst h15;refine sg [.a,.a,.a,.a,.a] rfl (by simp [Ah]) ?_;by_cases he:(decide (1<=(ps.length:Int))&&decide ((ps.length:Int)<=5))=true
  rotate_left
  ·exact Ay [] rfl (by simp) (BO _ (by simp at he ⊢;grind)) trivial rfl rfl
  have he5:ps.length<=5:=by simp at he;omega
  have hy:ps.all Bz=false\/IK 15 x ks.length ps.length=false:=by
   have e:CM 15 n x ps=((decide (1<=(ps.length:Int))&&decide ((ps.length:Int)<=5))&&ps.all Bz):=by simp only [CM];rfl
   rw [e,he] at hy;simpa only [Bool.true_and,Bool.and_eq_false_iff] using hy
  refine Ac rfl (λ_=>Bt _ (by simp at he ⊢;grind)) (by simp) ?_;refine sg [] rfl (by simp) ?_;refine Ak (λi:Nat=>[(101,.imm (.int .i64 i)),(100,.imm (.int .i64 ps.length)),(99,.imm (.sl (Bq ps))),(1,.ref 1 0),(2,.ref 2 0)]) (λ_=>[(2,some (.immb 291 4 (Dx (B6 15 ks.length ps.length)))),(1,some (.immb 186 5 (C6 (.mk 15 n x ks ps))))]) [3,4] (λi=>ps.length-i)
   (λi=>i<=ps.length/\((ps.drop i).all Bz=false\/IK 15 x ks.length ps.length=false)) 0 ⟨Nat.zero_le _,hy⟩ ⟨rfl,As (by simp),rfl,rfl,rfl,trivial⟩ ⟨rfl,rfl,trivial⟩ rfl λi hi ih=>?_
  refine sd [] rfl (by simp) ?_;have hi2:=hi.2;refine Aa rfl (λh=>?_) (λh=>?_)
  ·simp at h;obtain ⟨t,ht⟩:=Am h;rw [An ht,List.all_cons] at hi2;refine sd [] rfl (by simp) ?_;refine si rfl (c:=dTyc t) (λ_=>⟨by simp,by simpa using At ht,by simp⟩) (by simp) ?_;refine sg [] rfl (by simp) ?_;refine Ac rfl (λ_=>JB t) (by simp) ?_;refine sg [] rfl (by simp) ?_;cases hz:Bz t with
   | true =>
    rw [hz,Bool.true_and] at hi2;refine Ac rfl (λ_=>Bt _ (by first | rfl | (rw [hz];rfl))) (by simp) ?_;refine sg [] rfl (by simp) ?_;exact Ae (ih (i+1) (by omega) ⟨by omega,hi2⟩) ⟨As (B9 (by omega) (by omega)),rfl,rfl,rfl,rfl,trivial⟩ ⟨rfl,rfl,trivial⟩ rfl
   | false=>exact Ay [] rfl (by simp) (BO _ (by first | rfl | (rw [hz];rfl))) trivial rfl rfl
  ·simp at h;rw [List.drop_eq_nil_of_le (by omega)] at hi2;refine sd [.s] rfl (by simp) ?_;exact Ae (Dp _ n x ks ps (by simpa using hi2)) ⟨rfl,rfl,trivial⟩ ⟨rfl,rfl,trivial⟩ rfl
 refine sg [.f,.f,.f,.f,.f,.s] rfl (by simp [h1,h2,h24,h14,h15]) ?_;exact Ae (Dp _ n x ks ps (by simpa [CM,h1,h2,h24,h14,h15] using hy)) ⟨rfl,rfl,trivial⟩ ⟨rfl,rfl,trivial⟩ rfl
mutual
def Iq:Tm->Bool
 | .mk op n x ks ps=>Sg op n x ks.length ps&&G7 ks
def G7:List Tm->Bool
 | []=>true
 | t::r=>Iq t&&G7 r
end
theorem K5:∀(t:Tm),Iq t=true->Bc Tryz.prog 224 [.imm (.agg (C6 t))] [] (.ret GW [])
 | .mk op n x ks ps,hy=>by
  refine DW 0 rfl λhok=>?_;have hv:ks.length<=9223372036854775807:=by
   simp [Ca,Ee,C6,maxLen] at hok;have:=hok.1;omega
  simp only [Iq,Bool.and_eq_true_iff] at hy;refine Ad Gq Tryz.func224 (by decide +kernel) rfl [1,2,3] rfl rfl ?_;refine sg [] rfl (by simp) ?_;refine Az (fr:=[]) [] [] rfl (by simp) (RF op n x ks ps hy.1) trivial rfl rfl rfl rfl ?_;refine sg [] rfl (by simp) ?_;refine Ak (λi:Nat=>[(9,.imm (.int .i64 i)),(8,.imm (.int .i64 ks.length)),(7,.imm (.sl (KW ks))),(1,.ref 1 0)]) (λ_=>[(1,some (.immb 186 5 (C6 (.mk op n x ks ps))))]) [2,3] (λi=>ks.length-i)
   (λi=>i<=ks.length/\G7 (ks.drop i)=true) 0 ⟨Nat.zero_le _,hy.2⟩ ⟨rfl,As (by simp),rfl,rfl,trivial⟩ ⟨rfl,trivial⟩ rfl λi hi ih=>?_
  refine sd [] rfl (by simp) ?_;have hi2:=hi.2;refine Aa rfl (λh=>?_) (λh=>?_)
  ·simp at h;obtain ⟨t,ht⟩:=Am h;rw [An ht] at hi2;simp only [G7,Bool.and_eq_true_iff] at hi2;refine sd [] rfl (by simp) ?_;refine si rfl (c:=C6 t) (λ_=>⟨by simp,by simpa using HY ht,by simp⟩) (by simp) ?_;refine sg [] rfl (by simp) ?_
   ·refine Az (fr:=[]) [] [] rfl (by simp) (K5 t hi2.1) trivial rfl rfl rfl rfl ?_;refine sg [] rfl (by simp) ?_;exact Ae (ih (i+1) (by omega) ⟨by omega,hi2.2⟩) ⟨As (B9 (by omega) (by omega)),rfl,rfl,rfl,trivial⟩ ⟨rfl,trivial⟩ rfl
  ·refine sd [] rfl (by simp) ?_;exact Cn ⟨_,rfl,rfl,trivial⟩
termination_by t=>SizeOf.sizeOf t
decreasing_by
 all_goals
  have:=List.sizeOf_lt_of_mem (List.mem_of_getElem? ht);simp_wf;omega
theorem RE:∀(t:Tm),Iq t=false->Bc Tryz.prog 224 [.imm (.agg (C6 t))] [] (.pan EO)
 | .mk op n x ks ps,hy=>by
  refine DW 0 rfl λhok=>?_;have hv:ks.length<=9223372036854775807:=by
   simp [Ca,Ee,C6,maxLen] at hok;have:=hok.1;omega
  simp only [Iq,Bool.and_eq_false_iff] at hy;refine Ad Gq Tryz.func224 (by decide +kernel) rfl [1,2,3] rfl rfl ?_;refine sg [] rfl (by simp) ?_;by_cases hn:Sg op n x ks.length ps=true
  rotate_left
  ·exact Ay [] rfl (by simp) (bH op n x ks ps (by simpa using hn)) trivial rfl rfl
  rw [hn] at hy;simp only [Bool.true_eq_false,false_or] at hy;refine Az (fr:=[]) [] [] rfl (by simp) (RF op n x ks ps hn) trivial rfl rfl rfl rfl ?_;refine sg [] rfl (by simp) ?_;refine Ak (λi:Nat=>[(9,.imm (.int .i64 i)),(8,.imm (.int .i64 ks.length)),(7,.imm (.sl (KW ks))),(1,.ref 1 0)]) (λ_=>[(1,some (.immb 186 5 (C6 (.mk op n x ks ps))))]) [2,3] (λi=>ks.length-i)
   (λi=>i<=ks.length/\G7 (ks.drop i)=false) 0 ⟨Nat.zero_le _,hy⟩ ⟨rfl,As (by simp),rfl,rfl,trivial⟩ ⟨rfl,trivial⟩ rfl λi hi ih=>?_
  refine sd [] rfl (by simp) ?_;have hi2:=hi.2;refine Aa rfl (λh=>?_) (λh=>?_)
  ·simp at h;obtain ⟨t,ht⟩:=Am h;rw [An ht] at hi2;simp only [G7,Bool.and_eq_false_iff] at hi2;refine sd [] rfl (by simp) ?_;refine si rfl (c:=C6 t) (λ_=>⟨by simp,by simpa using HY ht,by simp⟩) (by simp) ?_;refine sg [] rfl (by simp) ?_;by_cases hz:Iq t=true
   ·refine Az (fr:=[]) [] [] rfl (by simp) (K5 t hz) trivial rfl rfl rfl rfl ?_;refine sg [] rfl (by simp) ?_;exact Ae (ih (i+1) (by omega) ⟨by omega,by rw [hz] at hi2;simpa using hi2⟩) ⟨As (B9 (by omega) (by omega)),rfl,rfl,rfl,trivial⟩ ⟨rfl,trivial⟩ rfl
   ·exact Ay [] rfl (by simp) (RE t (by simpa using hz)) trivial rfl rfl
  ·exfalso;simp at h;rw [List.drop_eq_nil_of_le (by omega)] at hi2;simp [G7] at hi2
termination_by t=>SizeOf.sizeOf t
decreasing_by
 all_goals
  have:=List.sizeOf_lt_of_mem (List.mem_of_getElem? ht);simp_wf;omega
def KZ (t:Tm):Bool:=decide (0<=B0 t 60 14)&&Iq t
theorem X2 (t:Tm) (h:KZ t=true):Bc Tryz.prog 222 [.ref 1 0] [(1,some (.immb 186 5 (C6 t)))] (.ret GW [(1,some (.immb 186 5 (C6 t)))]):=by
 simp only [KZ,Bool.and_eq_true,decide_eq_true_eq] at h;refine Ad Gq Tryz.func222 (by decide +kernel) rfl [2,3,4] rfl rfl ?_;refine sg [] rfl (by simp) ?_;refine Az (fr:=[]) [(2,1)] [] rfl (by simp) (JP t 60 14 1 (by decide) (by decide) (by decide) (by decide) (by decide) (by decide) h.1) ⟨⟨rfl,rfl,rfl⟩,trivial⟩ rfl rfl rfl rfl ?_;refine sg [] rfl (by simp) ?_;refine Az (fr:=[]) [] [] rfl (by simp) (K5 t h.2) trivial rfl rfl rfl rfl ?_;refine sg [] rfl (by simp) ?_;exact Cn ⟨_,rfl,rfl,⟨rfl,trivial⟩⟩
theorem aI (t:Tm) (h:KZ t=false):Bc Tryz.prog 222 [.ref 1 0] [(1,some (.immb 186 5 (C6 t)))] (.pan EO):=by
 refine Ad Gq Tryz.func222 (by decide +kernel) rfl [2,3,4] rfl rfl ?_;refine sg [] rfl (by simp) ?_;by_cases h1:0<=B0 t 60 14
 ·refine Az (fr:=[]) [(2,1)] [] rfl (by simp) (JP t 60 14 1 (by decide) (by decide) (by decide) (by decide) (by decide) (by decide) h1) ⟨⟨rfl,rfl,rfl⟩,trivial⟩ rfl rfl rfl rfl ?_;refine sg [] rfl (by simp) ?_;exact Ay [] rfl (by simp) (RE t (by simpa [KZ,h1] using h)) trivial rfl rfl
 ·exact Ay [(2,1)] rfl (by simp) (Vo t 60 14 1 (by decide) (by decide) (by decide) (by decide) (by decide) (by decide) (by show B0 t 60 14<0;omega)) ⟨⟨rfl,rfl,rfl⟩,trivial⟩ rfl rfl
theorem gH (t:Tm):Al Tryz.prog 213 [.agg (C6 t)] (Jy (KZ t)):=by
 refine Ad Gq Tryz.func213 (by decide +kernel) rfl [1,2,3] rfl rfl ?_;refine sg [] rfl (by simp) ?_;cases h:KZ t with
 | true =>
  refine Az (fr:=[]) [(1,1)] [] rfl (by simp) (Me Tryz.func222 (by decide +kernel) rfl (X2 t h)) ⟨⟨rfl,rfl,rfl⟩,trivial⟩ rfl rfl rfl rfl ?_;refine sg [] rfl (by simp) ?_;exact Ab ⟨_,rfl,tV rfl,trivial⟩
 | false =>
  refine Az (fr:=[]) [(1,1)] [] rfl (by simp) (Ot Tryz.func222 (by decide +kernel) rfl (aI t h)) ⟨⟨rfl,rfl,rfl⟩,trivial⟩ rfl rfl rfl rfl ?_;refine sg [] rfl (by simp) ?_;exact Ab ⟨_,rfl,tV rfl,trivial⟩
def mK:TT:=kX++[
 (262,⟨.iface,false,1,16,[.imm .niliface]⟩),
 (255,⟨.sl 262,false,1,24,[.nils]⟩),
 (257,⟨.struct [(0,87)],true,2,40,[.imm (.str []),.nils]⟩),
 (259,⟨.struct [(0,188)],true,15,224,[.imm (.str []),.imm (.str []),.imm (.int .i64 0),.imm (.int .i64 0),.imm (.str []),.nils,.imm (.int .i64 0),.imm (.int .i64 0),.imm (.str []),.nils,.imm (.int .i64 0),.imm (.int .i64 0),.imm (.str []),.nils,.nils]⟩),
 (114,⟨.func,false,1,8,[.imm .nilfn]⟩),
 (278,⟨.func,false,1,8,[.imm .nilfn]⟩),
 (263,⟨.func,false,1,8,[.imm .nilfn]⟩)]
theorem Cc:TTok Tryz.prog mK:=.of_eq (l:=[4,3,9,186,26,62,183,27,5,24,23,193,184,60,188,192,90,22,190,87,85,36,281,227,1,230,291,262,255,257,259,114,278,263]) (by kernel_rfl)
section
variable {n:Nat} {F:List Nat} {Q:DQ} {env env':Env} {st st':St} {ids ids':List Nat} {k todo:List DI} {ob:List Prop}
theorem ad (path:List Pt) (h:run mK n 300 path todo env st ids [] = .at k env' st' ids' ob) (hob:AA ob) (hd:G Tryz.prog n F Q k env' st' ids'):DGo Tryz.prog n F Q todo env st ids:=Kw Cc Em 300 path h hob hd
theorem ag (path:List Pt) (h:run mK n 300 path todo env st ids [] = .at k env' st' ids' ob) (hob:AA ob) (hd:G Tryz.prog n F Q k env' st' ids'):G Tryz.prog n F Q todo env st ids:=Jw Cc Em 300 path h hob hd
theorem ai {es:List (List V)} {m:Int} {sz:Nat} {e:TypeId} {g:Option (Bool×Bool)} {ob:List Prop} {t:Nat} {todo':List DI} {c:List V} (h:O4 mK n env todo=some ⟨es,m,sz,e,g,ob,some t,todo'⟩)
  (hc:Ah g->0<=m/\es[m.toNat]?=some c/\c.length=sz) (hob:AA ob) (hk:G Tryz.prog n F Q todo' ((t,gD g (.ip e c 0))::env) st ids):G Tryz.prog n F Q todo env st ids:=Fy Cc h hc hob hk
end
def Et {α:Type} (q:α->Bool):List α->Nat->Int
 | [],_=>-1
 | e::r,i=>if q e then (i:Int) else Et q r (i+1)
theorem HT {α:Type} (q:α->Bool):∀(es:List α) (i:Nat),0<=Et q es i↔es.any q=true
 | [],i=>by simp [Et]
 | e::r,i=>by
  have ih:=HT q r (i+1);by_cases h:q e=true
  ·simp [Et,h]
  ·simp only [Et,h,List.any_cons];simpa using ih
theorem lT (g:FuncId) (tf:TypeId) (fv:V) (q:List V->Bool) (es:List (List V)) (hes:∀e∈es,e.length=4) (hlen:es.length<=9223372036854775806)
  (hq:∀e∈es,Bc Tryz.prog g [.imm (.agg e),.ref 1 0] [(1,some (.immb tf 1 [fv]))] (.ret (.imm (.bool (q e))) [(1,some (.immb tf 1 [fv]))])) :
  Bc Tryz.prog 185 [.imm (.sl es),.fn (.func g) [] [.ref 1 0]] [(1,some (.immb tf 1 [fv]))] (.ret (.imm (.int .i64 (Et q es 0))) [(1,some (.immb tf 1 [fv]))]):=by
 refine Ad Cc Tryz.func185 (by decide +kernel) rfl [2,3,4] rfl rfl ?_;refine ag [] rfl (by simp) ?_;refine Ak (λi:Nat=>[(8,.imm (.int .i64 i)),(7,.imm (.int .i64 es.length)),(0,.imm (.sl es)),(1,.fn (.func g) [] [.ref 1 0])]) (λ_=>[(1,some (.immb tf 1 [fv]))]) [2,3,4] (λi=>es.length-i)
  (λi=>i<=es.length/\Et q es 0=Et q (es.drop i) i) 0 ⟨Nat.zero_le _,rfl⟩ ⟨rfl,As (by simp),rfl,rfl,trivial⟩ ⟨rfl,trivial⟩ rfl λi hi ih=>?_
 refine ad [] rfl (by simp) ?_;have hi2:=hi.2;refine Aa rfl (λh=>?_) (λh=>?_)
 ·simp at h;obtain ⟨e,he⟩:=Am h;have hm:=List.mem_of_getElem? he;rw [An he] at hi2;refine ad [] rfl (by simp) ?_;refine ai rfl (c:=e) (λ_=>⟨by simp,by simpa using he,hes e hm⟩) (by simp) ?_;refine ag [] rfl (by simp [hes e hm]) ?_;refine Az (fr:=[]) [(1,1)] [] rfl (by simp) (hq e hm) ⟨⟨rfl,rfl,rfl⟩,trivial⟩ rfl rfl rfl rfl ?_;refine ag [] rfl (by simp) ?_;refine Aa rfl (λh=>?_) (λh=>?_)
  ·refine ad [] rfl (by simp) ?_;exact Ab ⟨_,rfl,tV (congrArg _ (by rw [hi2];simp [Et,h])),⟨rfl,trivial⟩⟩
  ·refine ad [] rfl (by simp) ?_;exact Ae (ih (i+1) (by omega) ⟨by omega,by rw [hi2];simp [Et,h]⟩) ⟨As (B9 (by omega) (by omega)),rfl,rfl,rfl,trivial⟩ ⟨rfl,trivial⟩ rfl
 ·refine ad [] rfl (by simp) ?_;simp at h;refine Ab ⟨_,rfl,tV (congrArg _ ?_),⟨rfl,trivial⟩⟩;rw [hi2,List.drop_eq_nil_of_le (by omega)];rfl
theorem aC (g:FuncId) (tf:TypeId) (fv:V) (q:List V->Bool) (es:List (List V)) (hes:∀e∈es,e.length=4) (hlen:es.length<=9223372036854775806)
  (hq:∀e∈es,Bc Tryz.prog g [.imm (.agg e),.ref 1 0] [(1,some (.immb tf 1 [fv]))] (.ret (.imm (.bool (q e))) [(1,some (.immb tf 1 [fv]))])) :
  Bc Tryz.prog 142 [.imm (.sl es),.fn (.func g) [] [.ref 1 0]] [(1,some (.immb tf 1 [fv]))] (.ret (.imm (.bool (es.any q))) [(1,some (.immb tf 1 [fv]))]):=by
 refine Ad Cc Tryz.func142 (by decide +kernel) rfl [2,3,4] rfl rfl ?_;refine ag [] rfl (by simp) ?_;refine Az (fr:=[]) [(1,1)] [] rfl (by simp) (lT g tf fv q es hes hlen hq) ⟨⟨rfl,rfl,rfl⟩,trivial⟩ rfl rfl rfl rfl ?_;refine ag [] rfl (by simp) ?_;refine Ab ⟨_,rfl,tV (congrArg _ ?_),⟨rfl,trivial⟩⟩;rw [Bool.eq_iff_iff,<- HT q es 0];simp
theorem nL (g:FuncId) (e:List V) (hel:e.length=4) (b:Bool) (hq:Al Tryz.prog g [.agg e] (.bool b)) :
  Bc Tryz.prog 221 [.imm (.agg e),.ref 1 0] [(1,some (.immb 114 1 [.fn (.func g)]))] (.ret (.imm (.bool (!b))) [(1,some (.immb 114 1 [.fn (.func g)]))]):=by
 refine Ad Cc Tryz.func221 (by decide +kernel) rfl [2,3,4] rfl rfl ?_;refine ag [] rfl (by simp [hel]) ?_;refine Az (fr:=[]) [] [] rfl (by simp) hq trivial rfl rfl rfl rfl ?_;refine ag [] rfl (by simp) ?_;exact Ab ⟨_,rfl,tV rfl,⟨rfl,trivial⟩⟩
theorem allT (g:FuncId) (q:List V->Bool) (es:List (List V)) (hes:∀e∈es,e.length=4) (hlen:es.length<=9223372036854775806) (hq:∀e∈es,Al Tryz.prog g [.agg e] (.bool (q e))) :
  Al Tryz.prog 211 [.sl es,.fn (.func g)] (.bool (es.all q)):=by
 refine Ad Cc Tryz.func211 (by decide +kernel) rfl [1,2,3] rfl rfl ?_;refine ag [] rfl (by simp) ?_;refine Az (fr:=[]) [(1,1)] [] rfl (by simp) (aC 221 114 (.fn (.func g)) (λe=>!q e) es hes hlen (λe he=>nL g e (hes e he) (q e) (hq e he))) ⟨⟨rfl,rfl,rfl⟩,trivial⟩ rfl rfl rfl rfl ?_;refine ag [] rfl (by simp) ?_;refine Ab ⟨_,rfl,tV (congrArg _ ?_),trivial⟩;rw [List.any_eq_not_all_not];simp
theorem lV (g:FuncId) (tf:TypeId) (fv:V) (q:List V->Bool) (es:List (List V)) (hes:∀e∈es,e.length=2) (hlen:es.length<=9223372036854775806)
  (hq:∀e∈es,Bc Tryz.prog g [.imm (.agg e),.ref 1 0] [(1,some (.immb tf 1 [fv]))] (.ret (.imm (.bool (q e))) [(1,some (.immb tf 1 [fv]))])) :
  Bc Tryz.prog 226 [.imm (.sl es),.fn (.func g) [] [.ref 1 0]] [(1,some (.immb tf 1 [fv]))] (.ret (.imm (.int .i64 (Et q es 0))) [(1,some (.immb tf 1 [fv]))]):=by
 refine Ad Cc Tryz.func226 (by decide +kernel) rfl [2,3,4] rfl rfl ?_;refine ag [] rfl (by simp) ?_;refine Ak (λi:Nat=>[(8,.imm (.int .i64 i)),(7,.imm (.int .i64 es.length)),(0,.imm (.sl es)),(1,.fn (.func g) [] [.ref 1 0])]) (λ_=>[(1,some (.immb tf 1 [fv]))]) [2,3,4] (λi=>es.length-i)
  (λi=>i<=es.length/\Et q es 0=Et q (es.drop i) i) 0 ⟨Nat.zero_le _,rfl⟩ ⟨rfl,As (by simp),rfl,rfl,trivial⟩ ⟨rfl,trivial⟩ rfl λi hi ih=>?_
 refine ad [] rfl (by simp) ?_;have hi2:=hi.2;refine Aa rfl (λh=>?_) (λh=>?_)
 ·simp at h;obtain ⟨e,he⟩:=Am h;have hm:=List.mem_of_getElem? he;rw [An he] at hi2;refine ad [] rfl (by simp) ?_;refine ai rfl (c:=e) (λ_=>⟨by simp,by simpa using he,hes e hm⟩) (by simp) ?_;refine ag [] rfl (by simp [hes e hm]) ?_;refine Az (fr:=[]) [(1,1)] [] rfl (by simp) (hq e hm) ⟨⟨rfl,rfl,rfl⟩,trivial⟩ rfl rfl rfl rfl ?_;refine ag [] rfl (by simp) ?_;refine Aa rfl (λh=>?_) (λh=>?_)
  ·refine ad [] rfl (by simp) ?_;exact Ab ⟨_,rfl,tV (congrArg _ (by rw [hi2];simp [Et,h])),⟨rfl,trivial⟩⟩
  ·refine ad [] rfl (by simp) ?_;exact Ae (ih (i+1) (by omega) ⟨by omega,by rw [hi2];simp [Et,h]⟩) ⟨As (B9 (by omega) (by omega)),rfl,rfl,rfl,trivial⟩ ⟨rfl,trivial⟩ rfl
 ·refine ad [] rfl (by simp) ?_;simp at h;refine Ab ⟨_,rfl,tV (congrArg _ ?_),⟨rfl,trivial⟩⟩;rw [hi2,List.drop_eq_nil_of_le (by omega)];rfl
theorem aE (g:FuncId) (tf:TypeId) (fv:V) (q:List V->Bool) (es:List (List V)) (hes:∀e∈es,e.length=2) (hlen:es.length<=9223372036854775806)
  (hq:∀e∈es,Bc Tryz.prog g [.imm (.agg e),.ref 1 0] [(1,some (.immb tf 1 [fv]))] (.ret (.imm (.bool (q e))) [(1,some (.immb tf 1 [fv]))])) :
  Bc Tryz.prog 219 [.imm (.sl es),.fn (.func g) [] [.ref 1 0]] [(1,some (.immb tf 1 [fv]))] (.ret (.imm (.bool (es.any q))) [(1,some (.immb tf 1 [fv]))]):=by
 refine Ad Cc Tryz.func219 (by decide +kernel) rfl [2,3,4] rfl rfl ?_;refine ag [] rfl (by simp) ?_;refine Az (fr:=[]) [(1,1)] [] rfl (by simp) (lV g tf fv q es hes hlen hq) ⟨⟨rfl,rfl,rfl⟩,trivial⟩ rfl rfl rfl rfl ?_;refine ag [] rfl (by simp) ?_;refine Ab ⟨_,rfl,tV (congrArg _ ?_),⟨rfl,trivial⟩⟩;rw [Bool.eq_iff_iff,<- HT q es 0];simp
theorem nN (g:FuncId) (e:List V) (hel:e.length=2) (b:Bool) (hq:Al Tryz.prog g [.agg e] (.bool b)) :
  Bc Tryz.prog 220 [.imm (.agg e),.ref 1 0] [(1,some (.immb 278 1 [.fn (.func g)]))] (.ret (.imm (.bool (!b))) [(1,some (.immb 278 1 [.fn (.func g)]))]):=by
 refine Ad Cc Tryz.func220 (by decide +kernel) rfl [2,3,4] rfl rfl ?_;refine ag [] rfl (by simp [hel]) ?_;refine Az (fr:=[]) [] [] rfl (by simp) hq trivial rfl rfl rfl rfl ?_;refine ag [] rfl (by simp) ?_;exact Ab ⟨_,rfl,tV rfl,⟨rfl,trivial⟩⟩
theorem allC (g:FuncId) (q:List V->Bool) (es:List (List V)) (hes:∀e∈es,e.length=2) (hlen:es.length<=9223372036854775806) (hq:∀e∈es,Al Tryz.prog g [.agg e] (.bool (q e))) :
  Al Tryz.prog 209 [.sl es,.fn (.func g)] (.bool (es.all q)):=by
 refine Ad Cc Tryz.func209 (by decide +kernel) rfl [1,2,3] rfl rfl ?_;refine ag [] rfl (by simp) ?_;refine Az (fr:=[]) [(1,1)] [] rfl (by simp) (aE 220 278 (.fn (.func g)) (λe=>!q e) es hes hlen (λe he=>nN g e (hes e he) (q e) (hq e he))) ⟨⟨rfl,rfl,rfl⟩,trivial⟩ rfl rfl rfl rfl ?_;refine ag [] rfl (by simp) ?_;refine Ab ⟨_,rfl,tV (congrArg _ ?_),trivial⟩;rw [List.any_eq_not_all_not];simp
theorem lU (g:FuncId) (tf:TypeId) (fv:V) (q:V->Bool) (es:List V) (hlen:es.length<=9223372036854775806)
  (hq:∀e∈es,Bc Tryz.prog g [.imm e,.ref 1 0] [(1,some (.immb tf 1 [fv]))] (.ret (.imm (.bool (q e))) [(1,some (.immb tf 1 [fv]))])) :
  Bc Tryz.prog 218 [.imm (.sl (es.map λx=>[x])),.fn (.func g) [] [.ref 1 0]] [(1,some (.immb tf 1 [fv]))] (.ret (.imm (.int .i64 (Et q es 0))) [(1,some (.immb tf 1 [fv]))]):=by
 refine Ad Cc Tryz.func218 (by decide +kernel) rfl [2,3,4] rfl rfl ?_;refine ag [] rfl (by simp) ?_;refine Ak (λi:Nat=>[(8,.imm (.int .i64 i)),(7,.imm (.int .i64 es.length)),(0,.imm (.sl (es.map λx=>[x]))),(1,.fn (.func g) [] [.ref 1 0])]) (λ_=>[(1,some (.immb tf 1 [fv]))]) [2,3,4] (λi=>es.length-i)
  (λi=>i<=es.length/\Et q es 0=Et q (es.drop i) i) 0 ⟨Nat.zero_le _,rfl⟩ ⟨rfl,As (by simp),rfl,rfl,trivial⟩ ⟨rfl,trivial⟩ rfl λi hi ih=>?_
 refine ad [] rfl (by simp) ?_;have hi2:=hi.2;refine Aa rfl (λh=>?_) (λh=>?_)
 ·simp at h;obtain ⟨e,he⟩:=Am h;have hm:=List.mem_of_getElem? he;rw [An he] at hi2;refine ad [] rfl (by simp) ?_;refine ai rfl (c:=[e]) (λ_=>⟨by simp,by simp [he],rfl⟩) (by simp) ?_;refine ag [] rfl (by simp) ?_;refine Az (fr:=[]) [(1,1)] [] rfl (by simp) (hq e hm) ⟨⟨rfl,rfl,rfl⟩,trivial⟩ rfl rfl rfl rfl ?_;refine ag [] rfl (by simp) ?_;refine Aa rfl (λh=>?_) (λh=>?_)
  ·refine ad [] rfl (by simp) ?_;exact Ab ⟨_,rfl,tV (congrArg _ (by rw [hi2];simp [Et,h])),⟨rfl,trivial⟩⟩
  ·refine ad [] rfl (by simp) ?_;exact Ae (ih (i+1) (by omega) ⟨by omega,by rw [hi2];simp [Et,h]⟩) ⟨As (B9 (by omega) (by omega)),rfl,rfl,rfl,trivial⟩ ⟨rfl,trivial⟩ rfl
 ·refine ad [] rfl (by simp) ?_;simp at h;refine Ab ⟨_,rfl,tV (congrArg _ ?_),⟨rfl,trivial⟩⟩;rw [hi2,List.drop_eq_nil_of_le (by omega)];rfl
theorem aD (g:FuncId) (tf:TypeId) (fv:V) (q:V->Bool) (es:List V) (hlen:es.length<=9223372036854775806)
  (hq:∀e∈es,Bc Tryz.prog g [.imm e,.ref 1 0] [(1,some (.immb tf 1 [fv]))] (.ret (.imm (.bool (q e))) [(1,some (.immb tf 1 [fv]))])) :
  Bc Tryz.prog 207 [.imm (.sl (es.map λx=>[x])),.fn (.func g) [] [.ref 1 0]] [(1,some (.immb tf 1 [fv]))] (.ret (.imm (.bool (es.any q))) [(1,some (.immb tf 1 [fv]))]):=by
 refine Ad Cc Tryz.func207 (by decide +kernel) rfl [2,3,4] rfl rfl ?_;refine ag [] rfl (by simp) ?_;refine Az (fr:=[]) [(1,1)] [] rfl (by simp) (lU g tf fv q es hlen hq) ⟨⟨rfl,rfl,rfl⟩,trivial⟩ rfl rfl rfl rfl ?_;refine ag [] rfl (by simp) ?_;refine Ab ⟨_,rfl,tV (congrArg _ ?_),⟨rfl,trivial⟩⟩;rw [Bool.eq_iff_iff,<- HT q es 0];simp
theorem nM (g:FuncId) (e:V) (b:Bool) (hq:Al Tryz.prog g [e] (.bool b)) :
  Bc Tryz.prog 208 [.imm e,.ref 1 0] [(1,some (.immb 263 1 [.fn (.func g)]))] (.ret (.imm (.bool (!b))) [(1,some (.immb 263 1 [.fn (.func g)]))]):=by
 refine Ad Cc Tryz.func208 (by decide +kernel) rfl [2,3,4] rfl rfl ?_;refine ag [] rfl (by simp) ?_;refine Az (fr:=[]) [] [] rfl (by simp) hq trivial rfl rfl rfl rfl ?_;refine ag [] rfl (by simp) ?_;exact Ab ⟨_,rfl,tV rfl,⟨rfl,trivial⟩⟩
theorem allI (g:FuncId) (q:V->Bool) (es:List V) (hlen:es.length<=9223372036854775806) (hq:∀e∈es,Al Tryz.prog g [e] (.bool (q e))) :
  Al Tryz.prog 183 [.sl (es.map λx=>[x]),.fn (.func g)] (.bool (es.all q)):=by
 refine Ad Cc Tryz.func183 (by decide +kernel) rfl [1,2,3] rfl rfl ?_;refine ag [] rfl (by simp) ?_;refine Az (fr:=[]) [(1,1)] [] rfl (by simp) (aD 208 263 (.fn (.func g)) (λe=>!q e) es hlen (λe he=>nM g e (q e) (hq e he))) ⟨⟨rfl,rfl,rfl⟩,trivial⟩ rfl rfl rfl rfl ?_;refine ag [] rfl (by simp) ?_;refine Ab ⟨_,rfl,tV (congrArg _ ?_),trivial⟩;rw [List.any_eq_not_all_not];simp
end Go.Hk
namespace Go.Hk
def QG:Sh->Bool
 | .iface | .other=>false
 | _=>true
structure PTa where
 t:TypeId
 v:V
 to_:TypeId
 dst:Option Nat
 todo:List DI
def pta (tt:TT) (n:Nat) (env:Env) (todo:List DI):Option PTa :=
 match Tu todo with
 | some o=>match o.guard,o.op with
  | none,.typeAssert x _ to_ true=>match Di env x,lk tt to_,B3 n o.dst,AU todo ([],[]) with
   | some (.imm (.iface t v)),some i,true,some (_,_,todo')=>match QG i.sh with
    | true=>some ⟨t,v,to_,o.dst,todo'⟩
    | false=>none
   | _,_,_,_=>none
  | _,_=>none
 | none=>none
section
variable {P:Program} {n:Nat} {F:List Nat} {Q:DQ} {tt:TT} {env env':Env} {st st':St} {ids ids':List Nat} {k todo todo':List DI} {I:Imm} {μ:Mu} {w:World} {a:Act} {Pn:V->Prop} {d:D} {cx:Prop} {ob:List Prop}
theorem N8 {t to_ from_:TypeId} {i:TyI} {v:Value} (hi:TyOk P to_ i) (hc:QG i.sh=true) {r:Value} (h:(t=to_/\r = .tuple #[v,.bool true])\/(t≠to_/\∃z,(P.info? to_).bind (·.zero)=some z/\r = .tuple #[z,.bool false])) :
  (Instr.typeAssert (.iface t v) from_ to_ true).run P w = .ok r w:=by
 have hu:∃dd,P.underlying to_=some dd/\∀ms,dd ≠ .interface ms:=by
  have:=hi.sh;generalize i.sh=sh at this hc;cases sh <;> simp only [QG,Bool.false_eq_true] at hc <;> simp only [OB] at this
  case struct fs=>obtain ⟨f,h1,_⟩:=this;exact ⟨_,h1,λ_ h=>by cases h⟩
  case func=>obtain ⟨a,b,c,h1⟩:=this;exact ⟨_,h1,λ_ h=>by cases h⟩
  all_goals exact ⟨_,this,λ_ h=>by cases h⟩
 obtain ⟨dd,hd,hne⟩:=hu;rcases h with ⟨rfl,rfl⟩ | ⟨hn,z,hz,rfl⟩
 ·cases dd <;> first | exact absurd rfl (hne _) | simp [Instr.typeAssert,run_underlying hd]
 ·have hz:=EX (w:=w) hz;cases dd <;> first | exact absurd rfl (hne _) | simp [Instr.typeAssert,run_underlying hd,hn,hz]
theorem HU (htt:TTok P tt) {t0 to_:TypeId} {v0:V} {d0:Option Nat} {todo0:List DI} (h:pta tt n env todo=some ⟨t0,v0,to_,d0,todo0⟩) {r:List V}
  (hr:(t0=to_/\r=[v0,.bool true])\/(t0≠to_/\∃z zd,(P.info? to_).bind (·.zero)=some z/\(∀I,RepV I z zd)/\r=[zd,.bool false]))
  (hk:G P n F Q todo0 (B1 d0 (.imm (.tup r)) env) st ids):G P n F Q todo env st ids:=by
 unfold pta at h
 split at h
 ·rename_i o ho
  split at h
  ·rename_i x from_ to' hg hop
   split at h
   ·rename_i t v i all o' todo' hx hi hd h1
    split at h
    ·rename_i hc;cases h;have ho':o'=o:=Ei ho h1;subst ho';refine By (fr:=[]) (wr:=[]) (rd:=[]) h1 ?_ hd (λc hc=>by rw [hop] at hc;cases hc) hk;intro I μ st1 ids1 a w hag hst hon;refine ⟨λ_=>?_,λhw=>by rw [A3 hg] at hw;cases hw⟩;have hops:=AT hon;rw [hop] at hops;have rx:=(hops x (by simp [Op.operands]) _ hx).immInv;generalize hv:a.eval x=v at rx;cases rx with
     | iface _ u _ hu =>
      have fin:∀(z:Value) (b:Bool) (zd:V),(Instr.typeAssert (.iface t0 u) from_ to_ true).run P w = .ok (.tuple #[z,.bool b]) w->RepV I z zd->r=[zd,.bool b] ->
        valX P ((execOp a.eval o').run P w) (λv w'=>∃I' μ',StRep I' μ' ([]++st1) ids1 w'/\RepD I' μ' v (.imm (.tup r))/\μ.le μ'/\Ext I μ st1 w I' μ' ([]++st1) w') (Kf (L0 Q) I μ st1 w):=by
       intro z b zd h1 h2 h3;have hrun:(execOp a.eval o').run P w = .ok (.value (.tuple #[z,.bool b])) w:=by
        simp only [execOp,hop,hv];exact Au h1
       rw [hrun,h3];refine ⟨I,μ,hst,.imm _ _ (.tup _ _ rfl λi c x hc hx=>?_),Mu.le_refl μ,Ext.refl _ _ _ _⟩
       match i,hc,hx with
       | 0,hc,hx=>cases hc;cases hx;exact h2
       | 1,hc,hx=>cases hc;cases hx;exact .bool _
       | i+2,hc,hx=>simp at hx
      rcases hr with ⟨e1,e2⟩ | ⟨e1,z,zd,e2,e3,e4⟩
      ·exact fin u true v0 (N8 (htt _ _ hi) hc (.inl ⟨e1,rfl⟩)) hu e2
      ·exact fin z false zd (N8 (htt _ _ hi) hc (.inr ⟨e1,z,e2,rfl⟩)) (e3 I) e4
    ·cases h
   ·cases h
  ·cases h
 ·cases h
end
end Go.Hk
namespace Go.Hk
open Go.Proofs
mutual
theorem GL:∀{a b:Ty},dTyc a=dTyc b->a=b
 | .mk s n x ps,.mk s' n' x' ps',h=>by
  simp only [dTyc,List.cons.injEq,V.int.injEq,V.str.injEq,V.sl.injEq,and_true,true_and] at h;obtain ⟨h1,h2,h3,h4⟩:=h;subst h1;subst h2;subst h3;rw [GK h4]
theorem GK:∀{a b:List Ty},Bq a=Bq b->a=b
 | [],[],_=>rfl
 | [],_::_,h=>by simp [Bq] at h
 | _::_,[],h=>by simp [Bq] at h
 | x::r,y::t,h=>by
  simp only [Bq,List.cons.injEq] at h;rw [GL h.1,GK h.2]
end
theorem Q9 {a b:Cd} (h:Ds a=Ds b):a=b:=by
 obtain ⟨a1,a2⟩:=a;obtain ⟨b1,b2⟩:=b;simp only [Ds,List.cons.injEq,V.str.injEq,V.sl.injEq,and_true] at h;rw [h.1,GK h.2]
open Classical in
noncomputable def qOf {α β:Type} (d:α->β) (f:α->Bool) (e:β):Bool:=decide (∃t,d t=e/\f t=true)
open Classical in
theorem Jb {α β:Type} {d:α->β} (hd:∀{a b},d a=d b->a=b) (f:α->Bool) (t:α):qOf d f (d t)=f t:=by
 unfold qOf;by_cases h:f t=true
 ·rw [h];exact decide_eq_true ⟨t,rfl,h⟩
 ·simp only [Bool.not_eq_true] at h;rw [h];refine decide_eq_false λ⟨u,h1,h2⟩=>?_;rw [hd h1,h] at h2;cases h2
theorem To {α β:Type} {d:α->β} (hd:∀{a b},d a=d b->a=b) (f:α->Bool) (l:List α):(l.map d).all (qOf d f)=l.all f:=by
 rw [List.all_map];congr 1;funext t;exact Jb hd f t
def J5 (c:Cd):Bool:=CL c.name&&decide ((c.args.length:Int)<=3)&&c.args.all (BK false)
def EC (d:Dt):Bool:=CL d.name&&decide ((1:Int)<=d.cons.length)&&decide ((d.cons.length:Int)<=5)&&d.cons.all J5
def LP (f:Fd):Bool:=El f.name&&El f.param&&BK false f.from_&&BK false f.to_&&KZ f.body
theorem fV (ts:List Ty) (h:ts.length<=9223372036854775806):Al Tryz.prog 211 [.sl (Bq ts),.fn (.func 212)] (.bool (ts.all (BK false))):=by
 have:=allT 212 (qOf dTyc (BK false)) (Bq ts) (λe he=>by rw [C0] at he;obtain ⟨t,_,rfl⟩:=List.mem_map.1 he;simp) (by simpa using h) (λe he=>by
  rw [C0] at he;obtain ⟨t,_,rfl⟩:=List.mem_map.1 he;rw [Jb GL];exact Pe t)
 rw [C0,To GL] at this;rw [C0];exact this
theorem Zi (c:Cd):Al Tryz.prog 210 [.agg (Ds c)] (.bool (J5 c)):=by
 obtain ⟨nm,ts⟩:=c;refine AF λhv=>?_;simp [Ca,Ee,Ds,maxLen] at hv;refine Ad Cc Tryz.func210 (by decide +kernel) rfl [1,2,3] rfl rfl ?_;refine ag [] rfl (by simp [Ah]) ?_;refine Ac rfl (λ_=>Dq nm) (by simp [Ah]) ?_;refine ag [] rfl (by simp [Ah]) ?_;refine Ac rfl (λhg=>fV ts (by simp [Ah] at hg;omega)) (by simp [Ah]) ?_;refine ag [] rfl (by simp [Ah] <;> grind) ?_;refine Ab ⟨_,rfl,tV (congrArg _ ?_),trivial⟩;simp [J5] <;> grind
theorem jI (cs:List Cd) (h:cs.length<=9223372036854775806):Al Tryz.prog 209 [.sl (cs.map Ds),.fn (.func 210)] (.bool (cs.all J5)):=by
 have:=allC 210 (qOf Ds J5) (cs.map Ds) (λe he=>by obtain ⟨t,_,rfl⟩:=List.mem_map.1 he;rfl) (by simpa using h) (λe he=>by
  obtain ⟨t,_,rfl⟩:=List.mem_map.1 he;rw [Jb Q9];exact Zi t)
 rw [To Q9] at this;exact this
def Lz (d:Dt):V:=.iface 257 (.agg (C7 d))
def Je (f:Fd):V:=.iface 259 (.agg (O9 f))
theorem SW:∃z,(Tryz.prog.info? 257).bind (·.zero)=some z/\∀I,RepV I z (.agg [.str [],.sl []]):=by
 refine ⟨.agg #[.string ⟨#[]⟩,.slice none 0 0],by kernel_rfl,λI=>.agg _ _ rfl (by decide) λi c x hc hx=>?_⟩
 match i,hc,hx with
 | 0,hc,hx=>cases hc;cases hx;exact .str _ _ rfl
 | 1,hc,hx=>cases hc;cases hx;exact .slnil
 | i+2,hc,hx=>simp at hx
theorem Wv (d:Dt):Al Tryz.prog 184 [Lz d] (.bool (EC d)):=by
 obtain ⟨nm,cs⟩:=d;refine AF λhv=>?_;simp [Ca,Ee,Lz,C7,maxLen] at hv;refine Ad Cc Tryz.func184 (by decide +kernel) rfl [1,2,3,4] rfl rfl ?_;refine ag [] rfl (by simp [Ah]) ?_;refine HU Cc rfl (.inl ⟨rfl,rfl⟩) ?_;refine ag [.a] rfl (by simp [Ah]) ?_;refine Ac rfl (λ_=>Dq nm) (by simp [Ah]) ?_;refine ag [] rfl (by simp [Ah]) ?_;refine Ac rfl (λhg=>jI cs (by simp [Ah] at hg;omega)) (by simp [Ah]) ?_;refine ag [] rfl (by simp [Ah] <;> grind) ?_;refine Ab ⟨_,rfl,tV (congrArg _ ?_),trivial⟩;simp [EC] <;> grind
theorem Zh (f:Fd):Al Tryz.prog 184 [Je f] (.bool (LP f)):=by
 obtain ⟨nm,pm,⟨s1,n1,x1,p1⟩,⟨s2,n2,x2,p2⟩,⟨o3,n3,x3,k3,p3⟩⟩:=f;obtain ⟨z,hz,hzr⟩:=SW;refine AF λhv=>?_;refine Ad Cc Tryz.func184 (by decide +kernel) rfl [1,2,3,4] rfl rfl ?_;refine ag [] rfl (by simp [Ah]) ?_;refine HU Cc rfl (.inr ⟨by decide,z,_,hz,hzr,rfl⟩) ?_;refine ag [.a] rfl (by simp [Ah]) ?_;refine HU Cc rfl (.inl ⟨rfl,rfl⟩) ?_;refine ag [.a] rfl (by simp [Ah]) ?_;refine Ac rfl (λ_=>Gs nm) (by simp [Ah]) ?_;refine ag [] rfl (by simp [Ah]) ?_;refine Ac rfl (λ_=>Gs pm) (by simp [Ah]) ?_;refine ag [] rfl (by simp [Ah]) ?_;refine Ac rfl (λ_=>Pe (.mk s1 n1 x1 p1)) (by simp [Ah]) ?_;refine ag [] rfl (by simp [Ah]) ?_;refine Ac rfl (λ_=>Pe (.mk s2 n2 x2 p2)) (by simp [Ah]) ?_
 refine ag [] rfl (by simp [Ah]) ?_;refine Ac rfl (λ_=>gH (.mk o3 n3 x3 k3 p3)) (by simp [Ah]) ?_;refine ag [] rfl (by simp [Ah] <;> grind) ?_;refine Ab ⟨_,rfl,tV (congrArg _ ?_),trivial⟩;simp [LP,Jy] <;> grind
inductive Pt2 where
 | d (x:Dt)
 | f (x:Fd)
def fL:Pt2->V
 | .d x=>Lz x
 | .f x=>Je x
def UB:Pt2->Bool
 | .d x=>EC x
 | .f x=>LP x
theorem cJ (p:Pt2):Al Tryz.prog 184 [fL p] (.bool (UB p)):=by
 cases p with
 | d x=>exact Wv x
 | f x=>exact Zh x
mutual
theorem fK:∀{a b:Tm},C6 a=C6 b->a=b
 | .mk s n x ks ps,.mk s' n' x' ks' ps',h=>by
  simp only [C6,List.cons.injEq,V.int.injEq,V.str.injEq,V.sl.injEq,and_true,true_and] at h;obtain ⟨h1,h2,h3,h4,h5⟩:=h;subst h1;subst h2;subst h3;rw [Q7 h4,GK h5]
theorem Q7:∀{a b:List Tm},KW a=KW b->a=b
 | [],[],_=>rfl
 | [],_::_,h=>by simp [KW] at h
 | _::_,[],h=>by simp [KW] at h
 | x::r,y::t,h=>by
  simp only [KW,List.cons.injEq] at h;rw [fK h.1,Q7 h.2]
end
theorem L9:∀{a b:List Cd},a.map Ds=b.map Ds->a=b
 | [],[],_=>rfl
 | [],_::_,h=>by simp at h
 | _::_,[],h=>by simp at h
 | x::r,y::t,h=>by
  simp only [List.map_cons,List.cons.injEq] at h;rw [Q9 h.1,L9 h.2]
theorem Y0 {a b:Pt2} (h:fL a=fL b):a=b:=by
 cases a with
 | d x=>cases b with
  | d y =>
   obtain ⟨x1,x2⟩:=x;obtain ⟨y1,y2⟩:=y;simp only [fL,Lz,C7,V.iface.injEq,V.agg.injEq,List.cons.injEq,V.str.injEq,V.sl.injEq,true_and,and_true] at h;rw [h.1,L9 h.2]
  | f y=>simp [fL,Lz,Je] at h
 | f x=>cases b with
  | d y=>simp [fL,Lz,Je] at h
  | f y =>
   obtain ⟨nm,pm,⟨s1,n1,x1,p1⟩,⟨s2,n2,x2,p2⟩,⟨o3,n3,x3,k3,p3⟩⟩:=x;obtain ⟨nm',pm',⟨s1',n1',x1',p1'⟩,⟨s2',n2',x2',p2'⟩,⟨o3',n3',x3',k3',p3'⟩⟩:=y;simp only [fL,Je,O9,dTyc,C6,V.iface.injEq,V.agg.injEq,List.cons_append,List.nil_append,List.cons.injEq,V.str.injEq,V.int.injEq,V.sl.injEq,true_and,and_true] at h;obtain ⟨h1,h2,h3,h4,h5,h6,h7,h8,h9,h10,h11,h12,h13,h14,h15⟩:=h;rw [h1,h2,h3,h4,h5,GK h6,h7,h8,h9,GK h10,h11,h12,h13,Q7 h14,GK h15]
theorem Wb (ps:List Pt2) (h:ps.length<=9223372036854775806):Al Tryz.prog 183 [.sl (ps.map λp=>[fL p]),.fn (.func 184)] (.bool (ps.all UB)):=by
 have:=allI 184 (qOf fL UB) (ps.map fL) (by simpa using h) (λe he=>by
  obtain ⟨t,_,rfl⟩:=List.mem_map.1 he;rw [Jb Y0];exact cJ t)
 rw [To Y0,List.map_map] at this;exact this
def Hf (m:Md):Bool:=El m.name&&decide ((m.datas.length:Int)<=4)&&decide ((1:Int)<=m.funs.length)&&decide ((m.funs.length:Int)<=5)&&m.datas.all EC&&m.funs.all LP
def Ke (l:List Pt2):List (List V):=l.map λp=>[fL p]
@[simp] theorem rowP_length (l:List Pt2):(Ke l).length=l.length:=by simp [Ke]
def iZ (b:Bool) (k:Nat):D:=match b with
 | false=>.nils
 | true=>.own 2 k
def nY (b:Bool) (m:Md) (es:List (List V)):St:=match b with
 | false=>[(1,some (.immb 192 3 (TC m)))]
 | true=>[(2,some (.row 262 1 es)),(1,some (.immb 192 3 (TC m)))]
theorem P7 (a b:List Pt2):Ke (a++b)=Ke a++Ke b:=by simp [Ke]
theorem Y6 (m:Md) (b:Bool) (es0:List (List V)) (hb:b=false->es0=[]) (he0:es0=Ke (m.datas.map .d)) (hd:(m.datas.length:Int)<=4) (hf1:(1:Int)<=m.funs.length) (hf:(m.funs.length:Int)<=5) :
  DGo Tryz.prog Tryz.f141.ntmps (DN []) (Nt mK Tryz.f141.results.toList (.ret (.imm (Jy (m.datas.all EC&&m.funs.all LP))) []))
   [.code (F4 Tryz.f141 4)] [(3,iZ b es0.length),(1,.ref 1 0)] (nY b m es0) [3,4]:=by
 cases b with
 | false =>
  have:=hb rfl;subst this;refine ad [] rfl (by simp) ?_;refine Ak (λy:Nat×Bool×List (List V)=>[(47,.imm (.int .i64 y.1)),(46,.imm (.int .i64 m.funs.length)),(45,.imm (.sl (m.funs.map O9))),(3,iZ y.2.1 y.2.2.length),(1,.ref 1 0)])
   (λy=>nY y.2.1 m y.2.2) [3,4] (λy=>m.funs.length-y.1)
   (λy=>y.1<=m.funs.length/\y.2.2=Ke (m.datas.map .d++(m.funs.take y.1).map .f)/\(y.2.1=false->y.2.2=[])) (0,false,[]) ⟨Nat.zero_le _,by simpa using he0,λ_=>rfl⟩ ⟨rfl,As (by simp),rfl,rfl,rfl,trivial⟩ ⟨rfl,trivial⟩ rfl λy hi ih=>?_
  obtain ⟨i,b,es⟩:=y;obtain ⟨hi1,hi2,hi3⟩:=hi;simp only at hi1 hi2 hi3;have hlen:es.length<=9:=by
   have:=congrArg List.length hi2;simp at this;omega
  have hnext:∀f,m.funs[i]?=some f->es++[[Je f]]=Ke (m.datas.map .d++(m.funs.take (i+1)).map .f):=λf hf=>by
   rw [Bb hf,List.map_append,<- List.append_assoc,P7,<- hi2];rfl
  have hend:¬i<m.funs.length->es=Ke (m.datas.map .d++m.funs.map .f):=λh=>by
   rw [hi2,List.take_of_length_le (by omega)]
  cases b with
  | false =>
   have hi3:=hi3 rfl;subst hi3;refine ad [] rfl (by simp) ?_;refine Aa rfl (λh=>?_) (λh=>?_)
   ·simp at h;obtain ⟨f,hf⟩:=Am h;refine ad [] rfl (by simp) ?_;refine ai rfl (c:=O9 f) (λ_=>⟨by simp,by simpa using Bk hf,by simp⟩) (by simp) ?_;refine ag [] rfl (by simp) ?_;refine BR Cc rfl ⟨by simp,by simp [maxLen],by simp,trivial⟩ ?_;refine ag [] rfl (by simp) ?_;refine A6 2 4 rfl ?_;exact Ae (ih (i+1,true,[]++[[Je f]]) (by simp only;omega) ⟨by simp only;omega,hnext f hf,λh=>by cases h⟩) ⟨As (B9 (by simp only;omega) (by simp only;omega)),rfl,rfl,rfl,rfl,trivial⟩ ⟨rfl,rfl,trivial⟩ rfl
   ·simp at h;have:=congrArg List.length (hend (by omega));simp at this;omega
  | true =>
   refine ad [] rfl (by simp) ?_;refine Aa rfl (λh=>?_) (λh=>?_)
   ·simp at h;obtain ⟨f,hf⟩:=Am h;refine ad [] rfl (by simp) ?_;refine ai rfl (c:=O9 f) (λ_=>⟨by simp,by simpa using Bk hf,by simp⟩) (by simp) ?_;refine ag [] rfl (by simp) ?_;refine BR Cc rfl ⟨by simp,by simp [maxLen];omega,by simp;omega,trivial⟩ ?_;refine ag [] rfl (by simp) ?_;refine A6 2 4 rfl ?_;exact Ae (ih (i+1,true,es++[[Je f]]) (by simp only;omega) ⟨by simp only;omega,hnext f hf,λh=>by cases h⟩) ⟨As (B9 (by simp only;omega) (by simp only;omega)),rfl,rfl,rfl,rfl,trivial⟩ ⟨rfl,rfl,trivial⟩ rfl
   ·simp at h;refine Ar rfl ?_;refine BM 2 rfl ?_;refine ad [] rfl (by simp) ?_;refine Ac rfl (λ_=>by rw [hend (by omega)];exact Wb _ (by simp;omega)) (by simp) ?_;refine ag [] rfl (by simp) ?_;have hall:(m.datas.map Pt2.d++m.funs.map Pt2.f).all UB=(m.datas.all EC&&m.funs.all LP):=by
     rw [List.all_append,List.all_map,List.all_map];rfl
    rw [hall];refine Aa rfl (λh=>?_) (λh=>?_)
    ·refine ad [] rfl (by simp) ?_;refine Ab ⟨_,rfl,tV ?_,trivial⟩;simp only [Bool.not_eq_true'] at h;rw [h];rfl
    ·refine ad [] rfl (by simp) ?_;refine Ab ⟨_,rfl,tV ?_,trivial⟩;simp only [Bool.not_eq_false'] at h;rw [h];rfl
 | true =>
  refine ad [] rfl (by simp) ?_;refine Ak (λy:Nat×Bool×List (List V)=>[(47,.imm (.int .i64 y.1)),(46,.imm (.int .i64 m.funs.length)),(45,.imm (.sl (m.funs.map O9))),(3,iZ y.2.1 y.2.2.length),(1,.ref 1 0)])
   (λy=>nY y.2.1 m y.2.2) [3,4] (λy=>m.funs.length-y.1)
   (λy=>y.1<=m.funs.length/\y.2.2=Ke (m.datas.map .d++(m.funs.take y.1).map .f)/\(y.2.1=false->y.2.2=[])) (0,true,es0) ⟨Nat.zero_le _,by simpa using he0,λh=>by cases h⟩ ⟨rfl,As (by simp),rfl,rfl,rfl,trivial⟩ ⟨rfl,rfl,trivial⟩ rfl λy hi ih=>?_
  obtain ⟨i,b,es⟩:=y;obtain ⟨hi1,hi2,hi3⟩:=hi;simp only at hi1 hi2 hi3;have hlen:es.length<=9:=by
   have:=congrArg List.length hi2;simp at this;omega
  have hnext:∀f,m.funs[i]?=some f->es++[[Je f]]=Ke (m.datas.map .d++(m.funs.take (i+1)).map .f):=λf hf=>by
   rw [Bb hf,List.map_append,<- List.append_assoc,P7,<- hi2];rfl
  have hend:¬i<m.funs.length->es=Ke (m.datas.map .d++m.funs.map .f):=λh=>by
   rw [hi2,List.take_of_length_le (by omega)]
  cases b with
  | false =>
   have hi3:=hi3 rfl;subst hi3;refine ad [] rfl (by simp) ?_;refine Aa rfl (λh=>?_) (λh=>?_)
   ·simp at h;obtain ⟨f,hf⟩:=Am h;refine ad [] rfl (by simp) ?_;refine ai rfl (c:=O9 f) (λ_=>⟨by simp,by simpa using Bk hf,by simp⟩) (by simp) ?_;refine ag [] rfl (by simp) ?_;refine BR Cc rfl ⟨by simp,by simp [maxLen],by simp,trivial⟩ ?_;refine ag [] rfl (by simp) ?_;refine A6 2 4 rfl ?_;exact Ae (ih (i+1,true,[]++[[Je f]]) (by simp only;omega) ⟨by simp only;omega,hnext f hf,λh=>by cases h⟩) ⟨As (B9 (by simp only;omega) (by simp only;omega)),rfl,rfl,rfl,rfl,trivial⟩ ⟨rfl,rfl,trivial⟩ rfl
   ·simp at h;have:=congrArg List.length (hend (by omega));simp at this;omega
  | true =>
   refine ad [] rfl (by simp) ?_;refine Aa rfl (λh=>?_) (λh=>?_)
   ·simp at h;obtain ⟨f,hf⟩:=Am h;refine ad [] rfl (by simp) ?_;refine ai rfl (c:=O9 f) (λ_=>⟨by simp,by simpa using Bk hf,by simp⟩) (by simp) ?_;refine ag [] rfl (by simp) ?_;refine BR Cc rfl ⟨by simp,by simp [maxLen];omega,by simp;omega,trivial⟩ ?_;refine ag [] rfl (by simp) ?_;refine A6 2 4 rfl ?_;exact Ae (ih (i+1,true,es++[[Je f]]) (by simp only;omega) ⟨by simp only;omega,hnext f hf,λh=>by cases h⟩) ⟨As (B9 (by simp only;omega) (by simp only;omega)),rfl,rfl,rfl,rfl,trivial⟩ ⟨rfl,rfl,trivial⟩ rfl
   ·simp at h;refine Ar rfl ?_;refine BM 2 rfl ?_;refine ad [] rfl (by simp) ?_;refine Ac rfl (λ_=>by rw [hend (by omega)];exact Wb _ (by simp;omega)) (by simp) ?_;refine ag [] rfl (by simp) ?_;have hall:(m.datas.map Pt2.d++m.funs.map Pt2.f).all UB=(m.datas.all EC&&m.funs.all LP):=by
     rw [List.all_append,List.all_map,List.all_map];rfl
    rw [hall];refine Aa rfl (λh=>?_) (λh=>?_)
    ·refine ad [] rfl (by simp) ?_;refine Ab ⟨_,rfl,tV ?_,trivial⟩;simp only [Bool.not_eq_true'] at h;rw [h];rfl
    ·refine ad [] rfl (by simp) ?_;refine Ab ⟨_,rfl,tV ?_,trivial⟩;simp only [Bool.not_eq_false'] at h;rw [h];rfl
theorem Rd (m:Md):Al Tryz.prog 141 [.agg (TC m)] (Jy (Hf m)):=by
 refine AF λhv=>?_;have hv1:m.datas.length<=9223372036854775807/\m.funs.length<=9223372036854775807:=by
  simp [Ca,Ee,TC,maxLen] at hv;omega
 refine Ad Cc Tryz.func141 (by decide +kernel) rfl [1,2,3,4] rfl rfl ?_;refine ag [] rfl (by simp [Ah]) ?_;refine Ac rfl (λ_=>Gs m.name) (by simp [Ah]) ?_;refine ag [] rfl (by simp [Ah] <;> grind) ?_;refine Aa rfl (λh=>?_) (λh=>?_)
 ·refine ad [] rfl (by simp) ?_;refine Ab ⟨_,rfl,tV (congrArg _ ?_),trivial⟩;have:Hf m=false:=by
   simp at h;simp [Hf];grind
  rw [this];rfl
 have hx:El m.name=true/\(m.datas.length:Int)<=4/\(1:Int)<=m.funs.length/\(m.funs.length:Int)<=5:=by
  simp at h;refine ⟨?_,?_,?_,?_⟩ <;> grind
 clear h;have hres:Hf m=(m.datas.all EC&&m.funs.all LP):=by simp [Hf,hx.1,hx.2.1,hx.2.2.1,hx.2.2.2]
 rw [hres];refine ad [] rfl (by simp) ?_;refine Ak (λy:Nat×Bool×List (List V)=>[(33,.imm (.int .i64 y.1)),(32,.imm (.int .i64 m.datas.length)),(31,.imm (.sl (m.datas.map C7))),(3,iZ y.2.1 y.2.2.length),(1,.ref 1 0)])
  (λy=>nY y.2.1 m y.2.2) [3,4] (λy=>m.datas.length-y.1)
  (λy=>y.1<=m.datas.length/\y.2.2=Ke ((m.datas.take y.1).map .d)/\(y.2.1=false->y.2.2=[])) (0,false,[]) ⟨Nat.zero_le _,rfl,λ_=>rfl⟩ ⟨rfl,As (by simp),rfl,rfl,rfl,trivial⟩ ⟨rfl,trivial⟩ rfl λy hi ih=>?_
 obtain ⟨i,b,es⟩:=y;obtain ⟨hi1,hi2,hi3⟩:=hi;simp only at hi1 hi2 hi3;have hlen:es.length<=4:=by
  have:=congrArg List.length hi2;simp at this;omega
 have hend:¬i<m.datas.length->es=Ke (m.datas.map .d):=λh=>by
  rw [hi2,List.take_of_length_le (by omega)]
 have hnext:∀d,m.datas[i]?=some d->es++[[Lz d]]=Ke ((m.datas.take (i+1)).map .d):=λd hd=>by
  rw [Bb hd,List.map_append,P7,<- hi2];rfl
 cases b with
 | false =>
  have hi3:=hi3 rfl;subst hi3;refine ad [] rfl (by simp) ?_;refine Aa rfl (λh=>?_) (λh=>?_)
  ·simp at h;obtain ⟨d,hd⟩:=Am h;refine ad [] rfl (by simp) ?_;refine ai rfl (c:=C7 d) (λ_=>⟨by simp,by simpa using Bk hd,by simp⟩) (by simp) ?_;refine ag [] rfl (by simp) ?_;refine BR Cc rfl ⟨by simp,by simp [maxLen],by simp,trivial⟩ ?_;refine ag [] rfl (by simp) ?_;refine A6 2 4 rfl ?_;exact Ae (ih (i+1,true,[]++[[Lz d]]) (by simp only;omega) ⟨by simp only;omega,hnext d hd,λh=>by cases h⟩) ⟨As (B9 (by simp only;omega) (by simp only;omega)),rfl,rfl,rfl,rfl,trivial⟩ ⟨rfl,rfl,trivial⟩ rfl
  ·simp at h;refine Ar rfl ?_;exact Ae (Y6 m false [] (λ_=>rfl) (hend (by omega)) hx.2.1 hx.2.2.1 hx.2.2.2) ⟨rfl,rfl,trivial⟩ ⟨rfl,trivial⟩ rfl
 | true =>
  refine ad [] rfl (by simp) ?_;refine Aa rfl (λh=>?_) (λh=>?_)
  ·simp at h;obtain ⟨d,hd⟩:=Am h;refine ad [] rfl (by simp) ?_;refine ai rfl (c:=C7 d) (λ_=>⟨by simp,by simpa using Bk hd,by simp⟩) (by simp) ?_;refine ag [] rfl (by simp) ?_;refine BR Cc rfl ⟨by simp,by simp [maxLen];omega,by simp;omega,trivial⟩ ?_;refine ag [] rfl (by simp) ?_;refine A6 2 4 rfl ?_;exact Ae (ih (i+1,true,es++[[Lz d]]) (by simp only;omega) ⟨by simp only;omega,hnext d hd,λh=>by cases h⟩) ⟨As (B9 (by simp only;omega) (by simp only;omega)),rfl,rfl,rfl,rfl,trivial⟩ ⟨rfl,rfl,trivial⟩ rfl
  ·simp at h;refine Ar rfl ?_;exact Ae (Y6 m true es (λh=>by cases h) (hend (by omega)) hx.2.1 hx.2.2.1 hx.2.2.2) ⟨rfl,rfl,trivial⟩ ⟨rfl,rfl,trivial⟩ rfl
def JF (s n:Int) (x:Str) (k:Int):Bool :=
 if s=1 then decide (-1000000000<=n)&&decide (n<=1000000000)&&(x == [])&&(k == 0)
 else if s=2 then (n == 0||n == 1)&&(x == [])&&(k == 0)
 else if s=3\/s=5 then n == 0&&x == []&&k == 0
 else if s=4 then n == 0&&CL x&&decide (k<=3)
 else false
theorem Zs (v:Ty) (k:Int):Al Tryz.prog 179 [.agg (Be v),.int .i64 k] (.bool (match v with | .mk s n x _=>JF s n x k)):=by
 obtain ⟨s,n,x,ps⟩:=v;refine Ad A4 Tryz.func179 (by decide +kernel) rfl [1,2,3] rfl rfl ?_;simp only [JF,Be];refine bg [] rfl (by simp) ?_;by_cases h1:s=1
 ·subst h1;refine Aa rfl (λh=>?_) (λh=>by simp at h);refine bd [] rfl (by simp [Ah]) ?_;refine Ab ⟨_,rfl,tV (congrArg _ ?_),trivial⟩;simp [Bool.and_assoc]
 rw [if_neg h1];refine Aa rfl (λh=>absurd (by simpa using h) h1) (λh=>?_);clear h;refine bd [] rfl (by simp) ?_;by_cases h2:s=2
 ·subst h2;refine Aa rfl (λh=>?_) (λh=>by simp at h);refine bd [] rfl (by simp [Ah]) ?_;refine Ab ⟨_,rfl,tV (congrArg _ ?_),trivial⟩;simp [Bool.and_assoc]
 rw [if_neg h2];refine Aa rfl (λh=>absurd (by simpa using h) h2) (λh=>?_);clear h;refine bd [] rfl (by simp) ?_;by_cases h3:s=3
 ·subst h3;refine Aa rfl (λh=>?_) (λh=>by simp at h);refine bd [] rfl (by simp) ?_;refine Aa rfl (λh=>?_) (λh=>by simp at h);refine bd [] rfl (by simp [Ah]) ?_;refine Ab ⟨_,rfl,tV (congrArg _ ?_),trivial⟩;simp [Bool.and_assoc]
 refine Aa rfl (λh=>absurd (by simpa using h) h3) (λh=>?_);clear h;refine bd [] rfl (by simp) ?_;by_cases h5:s=5
 ·subst h5;refine Aa rfl (λh=>?_) (λh=>by simp at h);refine bd [] rfl (by simp [Ah]) ?_;refine Ab ⟨_,rfl,tV (congrArg _ ?_),trivial⟩;simp [Bool.and_assoc]
 rw [if_neg (by simp [h3,h5])];refine Aa rfl (λh=>absurd (by simpa using h) h5) (λh=>?_);clear h;refine bd [] rfl (by simp) ?_;by_cases h4:s=4
 ·subst h4;refine Aa rfl (λh=>?_) (λh=>by simp at h);refine bd [] rfl (by simp) ?_;refine Ac rfl (λ_=>Dq x) (by simp [Ah]) ?_;refine bg [] rfl (by simp [Ah]) ?_;refine Ab ⟨_,rfl,tV (congrArg _ ?_),trivial⟩;simp [Bool.and_assoc]
 rw [if_neg h4];refine Aa rfl (λh=>absurd (by simpa using h) h4) (λh=>?_);clear h;refine bd [] rfl (by simp) ?_;exact Ab ⟨_,rfl,tV rfl,trivial⟩
theorem lS (g:FuncId) (q:List V->Bool) (es:List (List V)) (hes:∀e∈es,e.length=4) (hlen:es.length<=9223372036854775807)
  (hq:∀e∈es,Al Tryz.prog g [.agg e] (.bool (q e))) :
  Al Tryz.prog 90 [.sl es,.fn (.func g)] (.int .i64 (Et q es 0)):=by
 refine Ad A4 Tryz.func90 (by decide +kernel) rfl [2,3,4] rfl rfl ?_;refine bg [] rfl (by simp) ?_;refine Ak (λi:Nat=>[(8,.imm (.int .i64 i)),(7,.imm (.int .i64 es.length)),(0,.imm (.sl es)),(1,.imm (.fn (.func g)))]) (λ_=>[]) [2,3,4] (λi=>es.length-i)
  (λi=>i<=es.length/\Et q es 0=Et q (es.drop i) i) 0 ⟨Nat.zero_le _,rfl⟩ ⟨rfl,As (by simp),rfl,rfl,trivial⟩ trivial rfl λi hi ih=>?_
 refine bd [] rfl (by simp) ?_;have hi2:=hi.2;refine Aa rfl (λh=>?_) (λh=>?_)
 ·simp at h;obtain ⟨e,he⟩:=Am h;have hm:=List.mem_of_getElem? he;rw [An he] at hi2;refine bd [] rfl (by simp) ?_;refine bi rfl (c:=e) (λ_=>⟨by simp,by simpa using he,hes e hm⟩) (by simp) ?_;refine bg [] rfl (by simp [hes e hm]) ?_;refine Ac rfl (λ_=>hq e hm) (by simp) ?_;refine bg [] rfl (by simp) ?_;refine Aa rfl (λh=>?_) (λh=>?_)
  ·refine bd [] rfl (by simp) ?_;exact Ab ⟨_,rfl,tV (congrArg _ (by rw [hi2];simp [Et,h])),trivial⟩
  ·refine bd [] rfl (by simp) ?_;exact Ae (ih (i+1) (by omega) ⟨by omega,by rw [hi2];simp [Et,h]⟩) ⟨As (B9 (by omega) (by omega)),rfl,rfl,rfl,trivial⟩ trivial rfl
 ·refine bd [] rfl (by simp) ?_;simp at h;refine Ab ⟨_,rfl,tV (congrArg _ ?_),trivial⟩;rw [hi2,List.drop_eq_nil_of_le (by omega)];rfl
theorem aB (g:FuncId) (q:List V->Bool) (es:List (List V)) (hes:∀e∈es,e.length=4) (hlen:es.length<=9223372036854775807)
  (hq:∀e∈es,Al Tryz.prog g [.agg e] (.bool (q e))) :
  Al Tryz.prog 180 [.sl es,.fn (.func g)] (.bool (es.any q)):=by
 refine Ad A4 Tryz.func180 (by decide +kernel) rfl [2,3,4] rfl rfl ?_;refine bg [] rfl (by simp) ?_;refine Ac rfl (λ_=>lS g q es hes hlen hq) (by simp) ?_;refine bg [] rfl (by simp) ?_;refine Ab ⟨_,rfl,tV (congrArg _ ?_),trivial⟩;rw [Bool.eq_iff_iff,<- HT q es 0];simp
mutual
def Mk:Ty->Bool
 | .mk s n x ps=>JF s n x ps.length&&SP ps
def SP:List Ty->Bool
 | []=>true
 | t::r=>Mk t&&SP r
end
theorem Wa:∀l:List Ty,SP l=l.all Mk
 | []=>rfl
 | t::r=>by simp [SP,Wa r]
theorem fU (v:Ty) (h:Al Tryz.prog 137 [.agg (dTyc v)] (.bool (Mk v))):Al Tryz.prog 181 [.agg (dTyc v)] (.bool (!Mk v)):=by
 obtain ⟨s,n,x,ps⟩:=v;generalize Mk (.mk s n x ps)=b at *;refine Ad A4 Tryz.func181 (by decide +kernel) rfl [1,2,3] rfl rfl ?_;refine bg [] rfl (by simp) ?_;refine Ac rfl (λ_=>h) (by simp) ?_;refine bg [] rfl (by simp) ?_;exact Ab ⟨_,rfl,tV rfl,trivial⟩
theorem YB:∀v:Ty,Al Tryz.prog 137 [.agg (dTyc v)] (.bool (Mk v))
 | .mk s n x ps=>by
  have hP:=Zs (.mk s n x ps) ps.length;simp only at hP;have hO:=Yf (.mk s n x ps);refine AF λhv=>?_;simp [Ca,Ee,dTyc,maxLen] at hv;have hC:=aB 181 (qOf dTyc (λv=>!Mk v)) (Bq ps) (λe he=>by rw [C0] at he;obtain ⟨t,_,rfl⟩:=List.mem_map.1 he;simp) (by simpa using hv.1)
   (λe he=>by
    rw [C0] at he;obtain ⟨t,ht,rfl⟩:=List.mem_map.1 he;rw [Jb GL];exact fU t (YB t))
  refine Ad A4 Tryz.func137 (by decide +kernel) rfl [1,2,3] rfl rfl ?_;refine bg [] rfl (by simp) ?_;refine Ac rfl (λ_=>hO) (by simp) ?_;refine bg [] rfl (by simp) ?_;refine Ac rfl (v:=.bool (JF s n x ps.length)) (λ_=>by simpa using hP) (by simp) ?_;refine bg [] rfl (by simp) ?_;refine Ac rfl (λ_=>hC) (by simp [Ah]) ?_;refine bg [] rfl (by simp [Ah];rfl) ?_;refine Ab ⟨_,rfl,tV (congrArg _ ?_),trivial⟩;rw [C0,List.any_map,show (qOf dTyc (λv=>!Mk v) ∘ dTyc)=(λv=>!Mk v) from funext λv=>Jb GL _ v];simp [Mk,Wa,List.all_eq_not_any_not]
termination_by v=>SizeOf.sizeOf v
decreasing_by
 have:=List.sizeOf_lt_of_mem ht;simp_wf;omega
theorem Xn (v:Ty):Al Tryz.prog 88 [.agg (dTyc v)] (.bool (decide (0<=Bw v 20000 100)&&Mk v)):=by
 have hW:=Pf v 20000 100 (by decide) (by decide) (by decide) (by decide);have hA:=YB v;obtain ⟨s,n,x,ps⟩:=v;refine Ad A4 Tryz.func88 (by decide +kernel) rfl [1,2,3] rfl rfl ?_;refine bg [] rfl (by simp) ?_;refine Ac rfl (λ_=>hW) (by simp) ?_;refine bg [] rfl (by simp) ?_;refine Ac rfl (λ_=>hA) (by simp [Ah]) ?_;refine bg [] rfl (by simp [Ah]) ?_;refine Ab ⟨_,rfl,tV (congrArg _ ?_),trivial⟩;simp
theorem Jv {l:List Str} {s:Str}:FJ l s=true↔s∈l:=by
 induction l with
 | nil=>simp [FJ]
 | cons x r ih=>simp only [FJ,Bool.or_eq_true,beq_iff_eq,ih,List.mem_cons];exact ⟨λh=>h.imp Eq.symm id,λh=>h.imp Eq.symm id⟩
theorem T8 {l:List Str}:∀{pre:List Str},AO pre l=true↔l.Nodup/\∀s∈l,s∉pre:=by
 induction l with
 | nil=>intro pre;simp [AO]
 | cons x r ih =>
  intro pre;simp only [AO,Bool.and_eq_true,Bool.not_eq_true',ih,List.nodup_cons,List.mem_cons,List.mem_append,List.not_mem_nil,or_false];have:FJ pre x=false↔x∉pre:=by rw [<- Bool.not_eq_true,Jv]
  rw [this];constructor
  ·rintro ⟨h1,h2,h3⟩;exact ⟨⟨λhx=>h3 x hx (.inr rfl),h2⟩,λs hs=>hs.elim (λe=>e ▸ h1) λh hp=>h3 s h (.inl hp)⟩
  ·rintro ⟨⟨h1,h2⟩,h3⟩;exact ⟨h3 x (.inl rfl),h2,λs hs hp=>hp.elim (h3 s (.inr hs)) λe=>h1 (e ▸ hs)⟩
theorem Ok {l:List Str}:Bi l=true↔l.Nodup:=by
 unfold Bi;rw [T8];simp
def Er (l:List (Str×V)):List (V×V):=l.map λp=>(.str p.1,p.2)
def Ki (m:List (V×V)) (p:Str×V):List (V×V):=Es m (.str p.1) p.2
def WH (l:List (Str×V)):List (V×V):=l.foldl Ki []
def Ft (m:List (V×V)):Prop:=∀p∈m,I3 .str p.1=true
theorem Ef (l:List (Str×V)):Ft (Er l):=by
 intro p hp;obtain ⟨q,_,rfl⟩:=List.mem_map.1 hp;rfl
theorem RM {m:List (V×V)} (h:Ft m) (s:Str) (v:V):Ft (Es m (.str s) v):=by
 induction m with
 | nil=>intro p hp;simp only [Es,List.mem_singleton] at hp;subst hp;rfl
 | cons a r ih =>
  obtain ⟨k,e⟩:=a;have h1:Ft r:=λp hp=>h p (by simp [hp]);simp only [Es]
  split
  ·intro p hp;rcases List.mem_cons.1 hp with rfl | hp
   ·rfl
   ·exact h1 p hp
  ·intro p hp;rcases List.mem_cons.1 hp with rfl | hp
   ·exact h _ (by simp)
   ·exact ih h1 p hp
theorem WG (l:List (Str×V)):∀m,Ft m->Ft (l.foldl Ki m):=by
 induction l with
 | nil=>intro m h;exact h
 | cons p r ih=>intro m h;exact ih _ (RM h _ _)
theorem UQ (l:List (Str×V)):Ft (WH l):=WG l [] λp hp=>by cases hp
theorem bV {m:List (V×V)} (s:Str) (v:V):(Cm m (.str s)=none->(Es m (.str s) v).length=m.length+1)/\(Cm m (.str s)≠none->(Es m (.str s) v).length=m.length):=by
 induction m with
 | nil=>simp [Cm,Es]
 | cons a r ih =>
  obtain ⟨k,e⟩:=a;simp only [Cm,Es];cases h:V2 (.str s) k
  ·simpa using ih
  ·simp
theorem YZ {m:List (V×V)} (s t:Str) (v:V) (hk:Ft m):(Cm (Es m (.str s) v) (.str t)=none)↔(Cm m (.str t)=none/\s≠t):=by
 induction m with
 | nil =>
  simp only [Es,Cm,V2,beq_iff_eq];by_cases e:t=s
  ·subst e;simp
  ·have e':¬s=t:=λh=>e h.symm;simp [e,e']
 | cons a r ih =>
  obtain ⟨k,e⟩:=a;have h1:Ft r:=λp hp=>hk p (by simp [hp]);have h0:=hk (k,e) (by simp);cases k with
  | str x =>
   simp only [Es,Cm,V2];by_cases hx:s=x
   ·subst hx;simp only [beq_self_eq_true,if_true,Cm,V2];by_cases ht:t=s
    ·simp [ht]
    ·simp only [beq_iff_eq,ht,if_false];exact ⟨λh=>⟨h,λe=>ht e.symm⟩,λh=>h.1⟩
   ·simp only [beq_iff_eq,hx,if_false,Cm,V2];by_cases ht:t=x
    ·simp [ht]
    ·simp only [ht,if_false];exact ih h1
  | _=>simp [I3] at h0
theorem dS:∀(l:List (Str×V)) (pre:List Str) (m:List (V×V)),Ft m->(∀s,Cm m (.str s)=none↔s∉pre)->m.length<=pre.length ->
  (l.foldl Ki m).length<=pre.length+l.length/\(AO pre (l.map (·.1))=false\/m.length<pre.length->(l.foldl Ki m).length<pre.length+l.length)/\(AO pre (l.map (·.1))=true->m.length=pre.length->(l.foldl Ki m).length=pre.length+l.length)
 | [],pre,m,hk,h,hl=>by
  simp only [List.foldl_nil,List.length_nil,List.map_nil,AO];exact ⟨by omega,λh=>by rcases h with h | h;exact absurd h (by simp);omega,λ_ h=>by omega⟩
 | p::r,pre,m,hk,h,hl=>by
  have hL:=bV (m:=m) p.1 p.2;have hm:(Ki m p).length<=(pre++[p.1]).length:=by
   simp only [Ki,List.length_append,List.length_singleton];by_cases hn:Cm m (.str p.1)=none
   ·rw [hL.1 hn];omega
   ·rw [hL.2 hn];omega
  have hs:∀s,Cm (Ki m p) (.str s)=none↔s∉pre++[p.1]:=λs=>by
   simp only [Ki,YZ _ _ _ hk,h s,List.mem_append,List.mem_singleton,not_or];exact ⟨λ⟨a,b⟩=>⟨a,λe=>b e.symm⟩,λ⟨a,b⟩=>⟨a,λe=>b e.symm⟩⟩
  have ih:=dS r (pre++[p.1]) (Ki m p) (RM hk _ _) hs hm;simp only [List.length_append,List.length_singleton] at ih;simp only [List.foldl_cons,List.length_cons,List.map_cons,AO];obtain ⟨i1,i2,i3⟩:=ih;refine ⟨by omega,λhc=>?_,λhd he=>?_⟩
  ·by_cases hp:FJ pre p.1=true
   ·have hn:Cm m (.str p.1)≠none:=λhn=>(h p.1).1 hn (Jv.1 hp);have:(Ki m p).length=m.length:=hL.2 hn;have:=i2 (.inr (by omega));omega
   ·have hp:FJ pre p.1=false:=by simpa using hp
    rcases hc with hc | hc
    ·rw [hp] at hc;have:=i2 (.inl (by simpa using hc));omega
    ·have hn:Cm m (.str p.1)=none:=(h p.1).2 λhm=>by rw [Jv.2 hm] at hp;cases hp
     have:(Ki m p).length=m.length+1:=hL.1 hn;have:=i2 (.inr (by omega));omega
  ·simp only [Bool.and_eq_true,Bool.not_eq_true'] at hd;have hn:Cm m (.str p.1)=none:=(h p.1).2 λhm=>by rw [Jv.2 hm] at hd;exact absurd hd.1 (by simp)
   have:(Ki m p).length=m.length+1:=hL.1 hn;have:=i3 hd.2 (by omega);omega
theorem Yl (l:List (Str×V)):(WH l).length<=l.length/\(decide ((WH l).length<l.length) = !Bi (l.map (·.1))):=by
 obtain ⟨h1,h2,h3⟩:=dS l [] [] (λp hp=>by cases hp) (λs=>by simp [Cm]) (Nat.le_refl _);have h0:([]:List Str).length=0:=rfl;refine ⟨by unfold WH;omega,?_⟩;unfold Bi;cases hd:AO [] (l.map (·.1)) with
 | true=>have:=h3 hd rfl;unfold WH;simp;omega
 | false=>have:=h2 (.inl hd);unfold WH;simp;omega
theorem bU (l:List (Str×V)) (s:Str) (v:V) (h:s∉l.map (·.1)):Es (Er l) (.str s) v=Er (l++[(s,v)]):=by
 induction l with
 | nil=>rfl
 | cons a r ih =>
  simp only [List.map_cons,List.mem_cons,not_or] at h;simp only [Er,List.map_cons,Es,V2,List.cons_append,beq_iff_eq,h.1,if_false] at ih ⊢;rw [ih h.2]
theorem L7:∀(l pre:List (Str×V)),AO (pre.map (·.1)) (l.map (·.1))=true->l.foldl Ki (Er pre)=Er (pre++l)
 | [],pre,_=>by simp
 | p::r,pre,h=>by
  simp only [List.map_cons,AO,Bool.and_eq_true,Bool.not_eq_true'] at h;have hn:p.1∉pre.map (·.1):=λhm=>by rw [Jv.2 hm] at h;exact absurd h.1 (by simp)
  have:=L7 r (pre++[p]) (by simpa using h.2);simp only [List.foldl_cons,Ki,bU pre p.1 p.2 hn] at this ⊢;rw [this];simp
theorem PZ (l:List (Str×V)) (h:Bi (l.map (·.1))=true):WH l=Er l:=by
 have:=L7 l [] h;simpa [WH,Er] using this
def Cz:Nat->List Dt->List (Str×V)
 | _,[]=>[]
 | i,d::r=>(d.name,.int .i64 i)::Cz (i+1) r
def D5 (i:Nat):Nat->List Cd->List (Str×V)
 | _,[]=>[]
 | k,c::r=>(c.name,.agg [.int .i64 i,.int .i64 k])::D5 i (k+1) r
def Dv:Nat->List Dt->List (Str×V)
 | _,[]=>[]
 | i,d::r=>D5 i 0 d.cons++Dv (i+1) r
theorem Gc:∀(i:Nat) (ds:List Dt),(Cz i ds).map (·.1)=Cy ds
 | _,[]=>rfl
 | i,d::r=>by simp [Cz,Cy];exact Gc (i+1) r
theorem Mb (i:Nat):∀(k:Nat) (cs:List Cd),(D5 i k cs).map (·.1)=cs.map Cd.name
 | _,[]=>rfl
 | k,c::r=>by simp [D5];exact Mb i (k+1) r
theorem Hp:∀(i:Nat) (ds:List Dt),(Dv i ds).map (·.1)=BW ds
 | _,[]=>rfl
 | i,d::r=>by simp only [Dv,List.map_append,Mb,Hp (i+1) r];simp [BW]
theorem Kv:∀(i:Nat) (a b:List Dt),Cz i (a++b)=Cz i a++Cz (i+a.length) b
 | _,[],_=>rfl
 | i,d::r,b=>by simp only [List.cons_append,Cz,List.length_cons,Kv (i+1) r b];rw [Nat.add_assoc,Nat.add_comm 1]
theorem Kx (i:Nat):∀(k:Nat) (a b:List Cd),D5 i k (a++b)=D5 i k a++D5 i (k+a.length) b
 | _,[],_=>rfl
 | k,d::r,b=>by simp only [List.cons_append,D5,List.length_cons,Kx i (k+1) r b];rw [Nat.add_assoc,Nat.add_comm 1]
theorem Ma:∀(i:Nat) (a b:List Dt),Dv i (a++b)=Dv i a++Dv (i+a.length) b
 | _,[],_=>rfl
 | i,d::r,b=>by simp only [List.cons_append,Dv,List.length_cons,Ma (i+1) r b,List.append_assoc];rw [Nat.add_assoc,Nat.add_comm 1]
theorem KV (s:Str):∀(ds:List Dt) (i:Nat),Cm (Er (Cz i ds)) (.str s)=if 0<=AQ s i ds then some (.int .i64 (AQ s i ds)) else none
 | [],i=>by simp [Cz,Er,Cm,AQ]
 | d::r,i=>by
  simp only [Cz,Er,List.map_cons,Cm,V2,beq_iff_eq];by_cases h:s=d.name
  ·have:AQ s i (d::r)=i:=by simp [AQ,h]
   rw [this,if_pos h];simp
  ·have:AQ s i (d::r)=AQ s (i+1) r:=by simp only [AQ];rw [if_neg (λe=>h e.symm)]
   rw [if_neg h,this];exact KV s r (i+1)
def FC (s:Str):Nat->List Dt->Option (Nat×Int)
 | _,[]=>none
 | i,d::r=>if 0<=(CO s 0 d.cons).2 then some (i,(CO s 0 d.cons).2) else FC s (i+1) r
theorem QE (s:Str) (i:Nat) (rest:List (Str×V)):∀(cs:List Cd) (k:Nat),Cm (Er (D5 i k cs++rest)) (.str s)=if 0<=(CO s k cs).2 then some (.agg [.int .i64 i,.int .i64 (CO s k cs).2]) else Cm (Er rest) (.str s)
 | [],k=>by simp [D5,CO]
 | c::r,k=>by
  simp only [D5,Er,List.cons_append,List.map_cons,Cm,V2,beq_iff_eq];by_cases h:s=c.name
  ·have:(CO s k (c::r)).2=k:=by simp [CO,h]
   rw [this,if_pos h];simp
  ·have:CO s k (c::r)=CO s (k+1) r:=by simp only [CO];rw [if_neg (λe=>h e.symm)]
   rw [if_neg h,this];exact QE s i rest r (k+1)
theorem Nj (s:Str):∀(ds:List Dt) (i:Nat),Cm (Er (Dv i ds)) (.str s)=(match FC s i ds with | some (a,b)=>some (.agg [.int .i64 a,.int .i64 b]) | none=>none)
 | [],i=>by simp [Dv,Er,Cm,FC]
 | d::r,i=>by
  simp only [Dv,FC,QE]
  split
  ·rfl
  ·exact Nj s r (i+1)
theorem VK {s:Str}:∀{l:List Cd} {i:Nat},0<=(CO s i l).2->∃k,(CO s i l).2=((i+k:Nat):Int)/\l[k]?=some (CO s i l).1
 | [],i,h=>by simp [CO] at h
 | c::r,i,h=>by
  simp only [CO] at h ⊢;by_cases e:c.name=s
  ·rw [if_pos e];exact ⟨0,by simp,by simp⟩
  ·rw [if_neg e] at h ⊢;obtain ⟨k,h1,h2⟩:=VK (l:=r) h;exact ⟨k+1,by rw [h1];omega,by simpa using h2⟩
theorem KP {s:Str}:∀{ds:List Dt} {i a:Nat} {b:Int},FC s i ds=some (a,b)->∃k d,a=i+k/\ds[k]?=some d/\(CO s 0 d.cons).2=b/\0<=b
 | [],i,a,b,h=>by simp [FC] at h
 | d::r,i,a,b,h=>by
  simp only [FC] at h
  split at h
  ·rename_i h0;cases h;exact ⟨0,d,rfl,rfl,rfl,h0⟩
  ·obtain ⟨k,e,h1,h2,h3⟩:=KP h;exact ⟨k+1,e,by omega,by simpa using h2,h3⟩
theorem Q1 {s:Str}:∀{ds:List Dt} {i:Nat},FC s i ds=none->∀d∈ds,¬0<=(CO s 0 d.cons).2
 | [],i,_,d,hd=>by cases hd
 | e::r,i,h,d,hd=>by
  simp only [FC] at h
  split at h
  ·cases h
  ·rename_i h0;rcases List.mem_cons.1 hd with rfl | hd
   ·exact h0
   ·exact Q1 h d hd
theorem SK {ds:List Dt} {d:Dt} {c:Cd} (hd:d∈ds) (hc:c∈d.cons):c.name∈BW ds:=by
 simp only [BW,List.mem_flatMap];exact ⟨d,hd,List.mem_map.2 ⟨c,hc,rfl⟩⟩
theorem QC:∀{ds:List Dt} {i j:Nat} {d e:Dt} {c c':Cd},(BW ds).Nodup->ds[i]?=some d->ds[j]?=some e->c∈d.cons->c'∈e.cons->c.name=c'.name->i=j
 | [],i,j,d,e,c,c',_,h,_,_,_,_=>by simp at h
 | x::r,i,j,d,e,c,c',hn,hi,hj,hc,hc',hs=>by
  have hn':(x.cons.map Cd.name++BW r).Nodup:=by simpa [BW] using hn
  obtain ⟨n1,n2,n3⟩:=List.nodup_append.1 hn';cases i with
  | zero =>
   simp at hi;subst hi;cases j with
   | zero=>rfl
   | succ j=>exact absurd hs (n3 _ (List.mem_map.2 ⟨c,hc,rfl⟩) _ (SK (List.mem_of_getElem? (by simpa using hj)) hc'))
  | succ i =>
   cases j with
   | zero =>
    simp at hj;subst hj;exact absurd hs.symm (n3 _ (List.mem_map.2 ⟨c',hc',rfl⟩) _ (SK (List.mem_of_getElem? (by simpa using hi)) hc))
   | succ j=>exact congrArg (· + 1) (QC n2 (by simpa using hi) (by simpa using hj) hc hc' hs)
theorem Vv {ds:List Dt} (hn:Bi (BW ds)=true) {n:Int} {x s:Str} {ps:List Ty} (hp:0<=AQ x 0 ds) :
  (match FC s 0 ds with | some (a,b)=>(decide ((a:Int)=AQ x 0 ds)=decide (0<=(B8 ds (.mk 8 n x ps) s).2))/\((a:Int)=AQ x 0 ds->∃d,ds[a]?=some d/\0<=b/\d.cons[b.toNat]?=some (B8 ds (.mk 8 n x ps) s).1)/\a<ds.length | none=>(B8 ds (.mk 8 n x ps) s).2<0):=by
 have hn:=Ok.1 hn;obtain ⟨k,d,h1,h2,h3⟩:=Ij x ds 0 hp;have hcD:B8 ds (.mk 8 n x ps) s=CO s 0 d.cons:=by simp [B8,h1,h2]
 rw [hcD];cases hf:FC s 0 ds with
 | none =>
  have:=Q1 hf d (List.mem_of_getElem? h2);simp only;omega
 | some p =>
  obtain ⟨a,b⟩:=p;obtain ⟨k',e,q1,q2,q3,q4⟩:=KP hf;simp only [Nat.zero_add] at q1;subst q1;have hget:=VK (s:=s) (l:=e.cons) (i:=0) (by omega);obtain ⟨j,j1,j2⟩:=hget;have hlt:a<ds.length:=(List.getElem?_eq_some_iff.1 q2).1;refine ⟨?_,λha=>?_,hlt⟩
  ·rw [h1];by_cases hc:0<=(CO s 0 d.cons).2
   ·have m1:=HZ (s:=s) (l:=d.cons) (i:=0) hc;have m2:=HZ (s:=s) (l:=e.cons) (i:=0) (by omega);have:=QC hn q2 h2 m2.1 m1.1 (m2.2.trans m1.2.symm);subst this;simp [hc]
   ·have:a≠k:=λhe=>by
     subst he;rw [h2] at q2;cases q2;exact hc (by omega)
    simp [hc];omega
  ·have hak:a=k:=by omega
   subst hak;rw [h2] at q2;cases q2;refine ⟨d,h2,q4,?_⟩;rw [<- q3,j1];simpa using j2
def aQ (c:Cse) (sz:List (List V)):List V:=dCse c++[.mapv (Er (Cz 0 c.datas)),.mapv (Er (Dv 0 c.datas)),.sl sz]
def AL (c:Cse) (sz:List (List V)):V:=.ip 181 (aQ c sz) 0
mutual
def DK (q:Ty->Bool):Ty->Bool
 | .mk s n x ps=>q (.mk s n x ps)&&DT q ps
def DT (q:Ty->Bool):List Ty->Bool
 | []=>true
 | t::r=>DK q t&&DT q r
end
theorem RB (f:FuncId) (a b:List V) (q:Ty->Bool) (hq:∀t,Al Tryz.prog f (a++[.agg (dTyc t)]++b) (.bool (q t))):∀t:Ty,Al Tryz.prog 103 [.agg (dTyc t),.clo (.func f) a b] (.bool (DK q t))
 | .mk s n x ps=>by
  refine AF λhv=>?_;simp [Ca,Ee,dTyc,maxLen] at hv;simp only [DK];have hq0:=hq (.mk s n x ps);generalize q (.mk s n x ps)=c at *;refine Ad A4 Tryz.func103 (by decide +kernel) rfl [2,3,4,5] rfl rfl ?_;refine bg [] rfl (by simp) ?_;refine OT rfl (λ_=>hq0) (by simp) ?_;refine bg [] rfl (by simp) ?_;cases c with
  | false =>
   refine Aa rfl (λh=>?_) (λh=>by simp at h);refine bd [] rfl (by simp) ?_;exact Ab ⟨_,rfl,tV rfl,trivial⟩
  | true =>
  refine Aa rfl (λh=>by simp at h) (λh=>?_);clear h;refine bd [] rfl (by simp) ?_;rw [Bool.true_and];refine Ak (λi:Nat=>[(14,.imm (.int .i64 i)),(13,.imm (.int .i64 ps.length)),(12,.imm (.sl (Bq ps))),(1,.imm (.clo (.func f) a b))]) (λ_=>[]) [2,3,4,5] (λi=>ps.length-i)
   (λi=>i<=ps.length/\DT q ps=DT q (ps.drop i)) 0 ⟨Nat.zero_le _,rfl⟩ ⟨rfl,As (by simp),rfl,rfl,trivial⟩ trivial rfl λi hi ih=>?_
  obtain ⟨hi1,hi2⟩:=hi;refine bd [] rfl (by simp) ?_;refine Aa rfl (λh=>?_) (λh=>?_)
  ·simp at h;obtain ⟨t,ht⟩:=Am h;rw [An ht] at hi2;simp only [DT] at hi2;refine bd [] rfl (by simp) ?_;refine bi rfl (c:=dTyc t) (λ_=>⟨by simp,by simpa using At ht,by simp⟩) (by simp) ?_;refine bg [] rfl (by simp) ?_;refine Ac rfl (λ_=>RB f a b q hq t) (by simp) ?_;refine bg [] rfl (by simp) ?_;refine Aa rfl (λh=>?_) (λh=>?_)
   ·refine bd [] rfl (by simp) ?_;refine Ab ⟨_,rfl,tV (congrArg _ ?_),trivial⟩;simp at h;simp [hi2,h]
   ·refine bd [] rfl (by simp) ?_;simp at h;exact Ae (ih (i+1) (by omega) ⟨by omega,by rw [hi2];simp [h]⟩) ⟨As (B9 (by omega) (by omega)),rfl,rfl,rfl,trivial⟩ trivial rfl
  ·simp at h;refine Ar rfl ?_;refine bd [] rfl (by simp) ?_;rw [hi2,List.drop_eq_nil_of_le (by omega)];exact Ab ⟨_,rfl,tV rfl,trivial⟩
termination_by t=>SizeOf.sizeOf t
decreasing_by
 have:=List.sizeOf_lt_of_mem (List.mem_of_getElem? ht);simp_wf;omega
theorem Pj (f:FuncId) (q:Ty->Bool) (hq:∀t,Al Tryz.prog f [.agg (dTyc t)] (.bool (q t))):∀t:Ty,Al Tryz.prog 103 [.agg (dTyc t),.fn (.func f)] (.bool (DK q t))
 | .mk s n x ps=>by
  refine AF λhv=>?_;simp [Ca,Ee,dTyc,maxLen] at hv;simp only [DK];have hq0:=hq (.mk s n x ps);generalize q (.mk s n x ps)=c at *;refine Ad A4 Tryz.func103 (by decide +kernel) rfl [2,3,4,5] rfl rfl ?_;refine bg [] rfl (by simp) ?_;refine Ac rfl (λ_=>hq0) (by simp) ?_;refine bg [] rfl (by simp) ?_;cases c with
  | false =>
   refine Aa rfl (λh=>?_) (λh=>by simp at h);refine bd [] rfl (by simp) ?_;exact Ab ⟨_,rfl,tV rfl,trivial⟩
  | true =>
  refine Aa rfl (λh=>by simp at h) (λh=>?_);clear h;refine bd [] rfl (by simp) ?_;rw [Bool.true_and];refine Ak (λi:Nat=>[(14,.imm (.int .i64 i)),(13,.imm (.int .i64 ps.length)),(12,.imm (.sl (Bq ps))),(1,.imm (.fn (.func f)))]) (λ_=>[]) [2,3,4,5] (λi=>ps.length-i)
   (λi=>i<=ps.length/\DT q ps=DT q (ps.drop i)) 0 ⟨Nat.zero_le _,rfl⟩ ⟨rfl,As (by simp),rfl,rfl,trivial⟩ trivial rfl λi hi ih=>?_
  obtain ⟨hi1,hi2⟩:=hi;refine bd [] rfl (by simp) ?_;refine Aa rfl (λh=>?_) (λh=>?_)
  ·simp at h;obtain ⟨t,ht⟩:=Am h;rw [An ht] at hi2;simp only [DT] at hi2;refine bd [] rfl (by simp) ?_;refine bi rfl (c:=dTyc t) (λ_=>⟨by simp,by simpa using At ht,by simp⟩) (by simp) ?_;refine bg [] rfl (by simp) ?_;refine Ac rfl (λ_=>Pj f q hq t) (by simp) ?_;refine bg [] rfl (by simp) ?_;refine Aa rfl (λh=>?_) (λh=>?_)
   ·refine bd [] rfl (by simp) ?_;refine Ab ⟨_,rfl,tV (congrArg _ ?_),trivial⟩;simp at h;simp [hi2,h]
   ·refine bd [] rfl (by simp) ?_;simp at h;exact Ae (ih (i+1) (by omega) ⟨by omega,by rw [hi2];simp [h]⟩) ⟨As (B9 (by omega) (by omega)),rfl,rfl,rfl,trivial⟩ trivial rfl
  ·simp at h;refine Ar rfl ?_;refine bd [] rfl (by simp) ?_;rw [hi2,List.drop_eq_nil_of_le (by omega)];exact Ab ⟨_,rfl,tV rfl,trivial⟩
termination_by t=>SizeOf.sizeOf t
decreasing_by
 have:=List.sizeOf_lt_of_mem (List.mem_of_getElem? ht);simp_wf;omega
def Kh (ds:List Dt) (x:Str):Int:=if 0<=AQ x 0 ds then AQ x 0 ds else 0
theorem WJ (ds:List Dt) (x:Str):DH true (Er (Cz 0 ds)) (.str x) (.int .i64 0) = .imm (.tup [.int .i64 (Kh ds x),.bool (decide (0<=AQ x 0 ds))]):=by
 simp only [DH,KV,Kh];by_cases h:0<=AQ x 0 ds <;> simp [h]
theorem Hj (ds:List Dt) (x:Str):DH false (Er (Cz 0 ds)) (.str x) (.int .i64 0) = .imm (.int .i64 (Kh ds x)):=by
 simp only [DH,KV,Kh];by_cases h:0<=AQ x 0 ds <;> simp [h]
def BP (ds:List Dt) (s:Str):Nat×Int:=match FC s 0 ds with
 | some p=>p
 | none=>(0,0)
theorem Z0 (ds:List Dt) (s:Str):DH true (Er (Dv 0 ds)) (.str s) (.agg [.int .i64 0,.int .i64 0]) = .imm (.tup [.agg [.int .i64 (BP ds s).1,.int .i64 (BP ds s).2],.bool (FC s 0 ds).isSome]):=by
 simp only [DH,Nj,BP];cases h:FC s 0 ds with
 | none=>simp
 | some p=>obtain ⟨a,b⟩:=p;simp
def MM (ds:List Dt):Ty->Bool
 | .mk s _ x _=>decide (0<=AQ x 0 ds) || !(s == 8)
theorem Zw (c:Cse) (sz:List (List V)) (t:Ty):Al Tryz.prog 145 [.agg (dTyc t),.ip 102 [AL c sz] 0] (.bool (MM c.datas t)):=by
 obtain ⟨ds,⟨c1,c2,c3,c4⟩,rows⟩:=c;obtain ⟨s,n,x,ps⟩:=t;refine Tq ?_;refine Ad A4 Tryz.func145 (by decide +kernel) rfl [2,3,4,5] rfl rfl ?_;refine bg [] rfl (by simp) ?_;refine FA A4 rfl rfl rfl (Ef _) (by simp [Ah]) (z:=.int .i64 0) rfl (λ_=>.int _ _) (WJ ds x) ?_;refine bg [] rfl (by simp [Ah];rfl) ?_;refine Ab ⟨_,rfl,tV (congrArg _ ?_),trivial⟩;simp [MM,bne]
mutual
theorem Ll (ds:List Dt):∀t:Ty,DK (MM ds) t=AB ds t
 | .mk s n x ps=>by
  simp only [DK,AB,Kk ds ps,MM];congr 1;by_cases h:0<=AQ x 0 ds
  ·simp [h]
  ·simp [h]
theorem Kk (ds:List Dt):∀l:List Ty,DT (MM ds) l=Bh ds l
 | []=>rfl
 | t::r=>by simp only [DT,Bh,Ll ds t,Kk ds r]
end
theorem R2 (c:Cse) (sz:List (List V)) (t:Ty):Al Tryz.prog 102 [AL c sz,.agg (dTyc t)] (.bool (AB c.datas t)):=by
 rw [<- Ll];obtain ⟨s,n,x,ps⟩:=t;refine Ad A4 Tryz.func102 (by decide +kernel) rfl [2,3,4,5] rfl rfl ?_;refine bg [] rfl (by simp) ?_;refine I9 rfl (λ_=>RB 145 [] [.ip 102 [AL c sz] 0] (MM c.datas) (λt=>Zw c sz t) (.mk s n x ps)) rfl (by simp) ?_;refine bg [] rfl (by simp) ?_;exact Ab ⟨_,rfl,tV rfl,trivial⟩
theorem TR (t:Ty):Al Tryz.prog 104 [.agg (dTyc t)] (.bool (match t with | .mk s _ _ _=>!(s == 9))):=by
 obtain ⟨s,n,x,ps⟩:=t;refine Ad A4 Tryz.func104 (by decide +kernel) rfl [2,3,4,5] rfl rfl ?_;refine bg [] rfl (by simp) ?_;refine Ab ⟨_,rfl,tV (congrArg _ ?_),trivial⟩;simp [bne]
def AK (ds:List Dt) (t:Ty) (s:Str):List Ty×Bool:=bif decide (0<=(B8 ds t s).2) then ((B8 ds t s).1.args,true) else ([],false)
set_option maxHeartbeats 1000000 in
theorem Pb (c:Cse) (sz:List (List V)) (t:Ty) (s:Str) (hn:Bi (BW c.datas)=true) (ht:AB c.datas t=true) :
  Al Tryz.prog 138 [AL c sz,.agg (dTyc t),.str s] (.tup [.sl (Bq (AK c.datas t s).1),.bool (AK c.datas t s).2]):=by
 obtain ⟨ds,⟨c1,c2,c3,c4⟩,rows⟩:=c;obtain ⟨so,n,x,ps⟩:=t;simp only at hn ht;refine Ad A4 Tryz.func138 (by decide +kernel) rfl [2,3,4,5] rfl rfl ?_;refine bg [] rfl (by simp) ?_;refine FA A4 rfl rfl rfl (Ef _) (by simp [Ah]) (z:=.agg #[.int .i64 0,.int .i64 0]) rfl (λ_=>.agg _ _ rfl (by decide) (λi c x h1 h2=>by match i,h1,h2 with | 0,h1,h2=>cases h1;cases h2;exact .int _ _ | 1,h1,h2=>cases h1;cases h2;exact .int _ _ | i+2,h1,h2=>simp at h2)) (Z0 ds s) ?_;refine bg [] rfl (by simp) ?_;by_cases h8:so=8
 case neg =>
  refine FA A4 rfl rfl rfl (Ef _) (by simp [Ah]) (z:=.int .i64 0) rfl (λ_=>.int _ _) (Hj ds x) ?_;refine bg [] rfl (by simp [Ah];rfl) ?_;refine Aa rfl (λh=>?_) (λh=>by simp [h8] at h);refine bd [] rfl (by simp) ?_;rw [show AK ds (.mk so n x ps) s=([],false) by simp [AK,B8,h8]];exact Ab ⟨_,rfl,tV rfl,trivial⟩
 subst h8;have hp:=(C5 ht 8 n x ps rfl rfl).1;have hf:=Vv hn (n:=n) (s:=s) (ps:=ps) hp;refine FA A4 rfl rfl rfl (Ef _) (by simp [Ah]) (z:=.int .i64 0) rfl (λ_=>.int _ _) (Hj ds x) ?_;refine bg [] rfl (by simp [Ah];rfl) ?_;rw [show Kh ds x=AQ x 0 ds by simp [Kh,hp]];unfold BP;cases hfs:FC s 0 ds with
 | none =>
  rw [hfs] at hf;refine Aa rfl (λh=>?_) (λh=>by simp at h);refine bd [] rfl (by simp) ?_;have hf:¬0<=(B8 ds (.mk 8 n x ps) s).2:=by have:(B8 ds (.mk 8 n x ps) s).2<0:=hf;omega
  rw [show AK ds (.mk 8 n x ps) s=([],false) by simp [AK,hf]];exact Ab ⟨_,rfl,tV rfl,trivial⟩
 | some p =>
  obtain ⟨a,b⟩:=p;rw [hfs] at hf;obtain ⟨hf1,hf2,hf3⟩:=hf;refine Aa rfl (λh=>?_) (λh=>?_)
  ·refine bd [] rfl (by simp) ?_;have:¬0<=(B8 ds (.mk 8 n x ps) s).2:=by
    have:¬((a:Int)=AQ x 0 ds):=by simp at h;exact λe=>h e.symm
    simpa [this] using hf1
   rw [show AK ds (.mk 8 n x ps) s=([],false) by simp [AK,this]];exact Ab ⟨_,rfl,tV rfl,trivial⟩
  ·have ha:(a:Int)=AQ x 0 ds:=by simp at h;exact h.symm
   obtain ⟨d,hd,hb,hc⟩:=hf2 ha;have hc0:0<=(B8 ds (.mk 8 n x ps) s).2:=by simpa [ha] using hf1
   rw [show AK ds (.mk 8 n x ps) s=((B8 ds (.mk 8 n x ps) s).1.args,true) by simp [AK,hc0]];generalize (B8 ds (.mk 8 n x ps) s).1=k at *;refine bd [] rfl (by simp) ?_;refine bi rfl (c:=C7 d) (λ_=>⟨by simp,by simpa using Bk hd,by simp⟩) (by simp) ?_;obtain ⟨dn,dc⟩:=d;refine bg [] rfl (by simp) ?_;refine bi rfl (c:=Ds k) (λ_=>⟨hb,by simpa using Bk hc,by simp⟩) (by simp) ?_;obtain ⟨kn,ka⟩:=k;refine bg [] rfl (by simp;rfl) ?_;exact Ab ⟨_,rfl,tV rfl,trivial⟩
theorem BT {ds:List Dt} (ho:OkD ds) {t:Ty} {s:Str}:Bh ds (AK ds t s).1=true:=by
 unfold AK;by_cases h:0<=(B8 ds t s).2
 ·simpa [h] using GM ho h
 ·simp [h,Bh]
def JH (ds:List Dt):Ty->Ty->Bool
 | .mk so m x0 qs,.mk f _ x ps=>if f=3 then so == 1 else if f=4 then so == 2 else if f=5 then so == 3 else if f=6 then decide ((AK ds (.mk so m x0 qs) x).1.length=ps.length)&&((AK ds (.mk so m x0 qs) x).2&&Cj ds (AK ds (.mk so m x0 qs) x).1 ps) else true
theorem ME (ds:List Dt):∀t p:Ty,Co ds t p=JH ds t p
 | .mk so m x0 qs,.mk f k x ps=>by
  simp only [Co,JH,AK];rw [Hr ds so 0 m x0 x [] qs];by_cases h:0<=(B8 ds (.mk so m x0 qs) x).2
  ·simp [h]
  ·simp [h]
def KB (ds:List Dt):Ty->Ty->Bool
 | .mk so m x0 qs,.mk f _ x ps=>if so=1 then f == 1 else if so=2 then f == 2 else if so=3 then f == 3 else if so=8 then decide (f=4)&&(decide ((AK ds (.mk so m x0 qs) x).1.length=ps.length)&&((AK ds (.mk so m x0 qs) x).2&&GQ ds (AK ds (.mk so m x0 qs) x).1 ps)) else f == 5
theorem Io (ds:List Dt):∀t p:Ty,II ds t p=KB ds t p
 | .mk so m x0 qs,.mk f k x ps=>by
  simp only [II,KB,AK];rw [Hr ds so 0 m x0 x [] qs];by_cases h:0<=(B8 ds (.mk so m x0 qs) x).2
  ·simp [h]
  ·simp [h]
set_option maxHeartbeats 1000000 in
theorem Yx (c:Cse) (sz:List (List V)) (ho:OkD c.datas) (hd:Bi (BW c.datas)=true):∀(p t:Ty),AB c.datas t=true->Al Tryz.prog 106 [AL c sz,.agg (dTyc t),.agg (dTyc p)] (.bool (Co c.datas t p))
 | .mk f n x ps,t,hn=>by
  have hcon:=Pb c sz t x hd hn;have hnm:=BT ho (t:=t) (s:=x);have hS:Co c.datas t (.mk f n x ps)=JH c.datas t (.mk f n x ps):=ME c.datas t (.mk f n x ps);rw [hS];obtain ⟨so,n0,x0,ps0⟩:=t;simp only [JH];generalize AK c.datas (.mk so n0 x0 ps0) x=r at *;obtain ⟨ka,kb⟩:=r;refine AF λhv=>?_;simp [Ca,Ee,dTyc,maxLen] at hv;refine Ad A4 Tryz.func106 (by decide +kernel) rfl [2,3,4,5,6,7] rfl rfl ?_;refine bg [] rfl (by simp) ?_;by_cases h3:f=3
  ·subst h3;refine Aa rfl (λh=>?_) (λh=>by simp at h);refine bd [] rfl (by simp) ?_;refine Ab ⟨_,rfl,tV (congrArg _ ?_),trivial⟩;simp
  rw [if_neg h3];refine Aa rfl (λh=>absurd (by simpa using h) h3) (λh=>?_);clear h;refine bd [] rfl (by simp) ?_;by_cases h4:f=4
  ·subst h4;refine Aa rfl (λh=>?_) (λh=>by simp at h);refine bd [] rfl (by simp) ?_;refine Ab ⟨_,rfl,tV (congrArg _ ?_),trivial⟩;simp
  rw [if_neg h4];refine Aa rfl (λh=>absurd (by simpa using h) h4) (λh=>?_);clear h;refine bd [] rfl (by simp) ?_;by_cases h5:f=5
  ·subst h5;refine Aa rfl (λh=>?_) (λh=>by simp at h);refine bd [] rfl (by simp) ?_;refine Ab ⟨_,rfl,tV (congrArg _ ?_),trivial⟩;simp
  rw [if_neg h5];refine Aa rfl (λh=>absurd (by simpa using h) h5) (λh=>?_);clear h;refine bd [] rfl (by simp) ?_;by_cases h6:f=6
  case neg =>
   rw [if_neg h6];refine Aa rfl (λh=>absurd (by simpa using h) h6) (λh=>?_);refine bd [] rfl (by simp) ?_;refine Ab ⟨_,rfl,tV (congrArg _ ?_),trivial⟩;simp
  rw [if_pos h6];refine Aa rfl (λh=>?_) (λh=>by simp [h6] at h);clear h;refine bd [] rfl (by simp) ?_;refine Ac rfl (λ_=>hcon) (by simp) ?_;refine bg [] rfl (by simp) ?_;by_cases hg:ka.length=ps.length/\kb=true
  case neg =>
   refine Aa rfl (λh=>?_) (λh=>?_)
   ·refine bd [] rfl (by simp) ?_;refine Ab ⟨_,rfl,tV (congrArg _ ?_),trivial⟩;simp;grind
   ·exfalso;simp at h;apply hg;grind
  obtain ⟨hlen,rfl⟩:=hg;refine Aa rfl (λh=>by exfalso;simp [hlen] at h) (λh=>?_);clear h;refine bd [] rfl (by simp) ?_;simp only [hlen,decide_true,Bool.true_and];refine Ak (λi:Nat=>[(51,.imm (.int .i64 i)),(50,.imm (.int .i64 ps.length)),(49,.imm (.sl (Bq ps))),(0,.imm (AL c sz)),(7,.imm (.sl (Bq ka)))]) (λ_=>[]) [4,5,6,7] (λi=>ps.length-i)
   (λi=>i<=ps.length/\Cj c.datas ka ps=Cj c.datas (ka.drop i) (ps.drop i)) 0 ⟨Nat.zero_le _,rfl⟩ ⟨rfl,As (by simp),rfl,rfl,rfl,trivial⟩ trivial rfl λi hi ih=>?_
  obtain ⟨hi1,hi2⟩:=hi;refine bd [] rfl (by simp) ?_;refine Aa rfl (λh=>?_) (λh=>?_)
  ·simp at h;obtain ⟨p,hp⟩:=Am h;obtain ⟨a,ha⟩:=Am (l:=ka) (i:=i) (by omega);rw [An hp,An ha] at hi2;simp only [Cj] at hi2;refine bd [] rfl (by simp) ?_;refine bi rfl (c:=dTyc p) (λ_=>⟨by simp,by simpa using At hp,by simp⟩) (by simp) ?_;refine bg [] rfl (by simp) ?_;refine bi rfl (c:=dTyc a) (λ_=>⟨by simp,by simpa using At ha,by simp⟩) (by simp) ?_;refine bg [] rfl (by simp) ?_;refine Ac rfl (λ_=>Yx c sz ho hd p a (Dc hnm ha)) (by simp) ?_;refine bg [] rfl (by simp;rfl) ?_;refine Aa rfl (λh=>?_) (λh=>?_)
   ·refine bd [] rfl (by simp) ?_;refine Ab ⟨_,rfl,tV (congrArg _ ?_),trivial⟩;simp at h;simp [hi2,h]
   ·refine bd [] rfl (by simp) ?_;simp at h;exact Ae (ih (i+1) (by omega) ⟨by omega,by rw [hi2];simp [h]⟩) ⟨As (B9 (by omega) (by omega)),rfl,rfl,rfl,rfl,trivial⟩ trivial rfl
  ·simp at h;refine Ar rfl ?_;refine bd [] rfl (by simp) ?_;rw [hi2,List.drop_eq_nil_of_le (by omega),List.drop_eq_nil_of_le (by omega)];exact Ab ⟨_,rfl,tV rfl,trivial⟩
termination_by p=>SizeOf.sizeOf p
decreasing_by
 have:=List.sizeOf_lt_of_mem (List.mem_of_getElem? hp);simp_wf;omega
set_option maxHeartbeats 1000000 in
theorem kN (c:Cse) (sz:List (List V)) (ho:OkD c.datas) (hd:Bi (BW c.datas)=true):∀(p t:Ty),AB c.datas t=true->Al Tryz.prog 89 [AL c sz,.agg (dTyc t),.agg (dTyc p)] (.bool (II c.datas t p))
 | .mk f n x ps,t,hn=>by
  have hcon:=Pb c sz t x hd hn;have hnm:=BT ho (t:=t) (s:=x);have hS:II c.datas t (.mk f n x ps)=KB c.datas t (.mk f n x ps):=Io c.datas t (.mk f n x ps);rw [hS];obtain ⟨so,n0,x0,ps0⟩:=t;simp only [KB];generalize AK c.datas (.mk so n0 x0 ps0) x=r at *;obtain ⟨ka,kb⟩:=r;refine AF λhv=>?_;simp [Ca,Ee,dTyc,maxLen] at hv;refine Ad A4 Tryz.func89 (by decide +kernel) rfl [2,3,4,5,6,7] rfl rfl ?_;refine bg [] rfl (by simp) ?_;by_cases h1:so=1
  ·subst h1;refine Aa rfl (λh=>?_) (λh=>by simp at h);refine bd [] rfl (by simp) ?_;refine Ab ⟨_,rfl,tV (congrArg _ ?_),trivial⟩;simp
  rw [if_neg h1];refine Aa rfl (λh=>absurd (by simpa using h) h1) (λh=>?_);clear h;refine bd [] rfl (by simp) ?_;by_cases h2:so=2
  ·subst h2;refine Aa rfl (λh=>?_) (λh=>by simp at h);refine bd [] rfl (by simp) ?_;refine Ab ⟨_,rfl,tV (congrArg _ ?_),trivial⟩;simp
  rw [if_neg h2];refine Aa rfl (λh=>absurd (by simpa using h) h2) (λh=>?_);clear h;refine bd [] rfl (by simp) ?_;by_cases h3:so=3
  ·subst h3;refine Aa rfl (λh=>?_) (λh=>by simp at h);refine bd [] rfl (by simp) ?_;refine Ab ⟨_,rfl,tV (congrArg _ ?_),trivial⟩;simp
  rw [if_neg h3];refine Aa rfl (λh=>absurd (by simpa using h) h3) (λh=>?_);clear h;refine bd [] rfl (by simp) ?_;by_cases h8:so=8
  case neg =>
   rw [if_neg h8];refine Aa rfl (λh=>absurd (by simpa using h) h8) (λh=>?_);refine bd [] rfl (by simp) ?_;refine Ab ⟨_,rfl,tV (congrArg _ ?_),trivial⟩;simp
  rw [if_pos h8];refine Aa rfl (λh=>?_) (λh=>by simp [h8] at h);clear h;refine bd [] rfl (by simp) ?_;refine Ac rfl (λ_=>hcon) (by simp) ?_;refine bg [] rfl (by simp) ?_;by_cases hg:f=4/\ka.length=ps.length/\kb=true
  case neg =>
   refine Aa rfl (λh=>?_) (λh=>?_)
   ·refine bd [] rfl (by simp) ?_;refine Ab ⟨_,rfl,tV (congrArg _ ?_),trivial⟩;simp;grind
   ·exfalso;simp at h;apply hg;grind
  obtain ⟨rfl,hlen,rfl⟩:=hg;refine Aa rfl (λh=>by exfalso;simp [hlen] at h) (λh=>?_);clear h;refine bd [] rfl (by simp) ?_;simp only [hlen,decide_true,Bool.true_and];refine Ak (λi:Nat=>[(56,.imm (.int .i64 i)),(55,.imm (.int .i64 ps.length)),(54,.imm (.sl (Bq ps))),(0,.imm (AL c sz)),(7,.imm (.sl (Bq ka)))]) (λ_=>[]) [4,5,6,7] (λi=>ps.length-i)
   (λi=>i<=ps.length/\GQ c.datas ka ps=GQ c.datas (ka.drop i) (ps.drop i)) 0 ⟨Nat.zero_le _,rfl⟩ ⟨rfl,As (by simp),rfl,rfl,rfl,trivial⟩ trivial rfl λi hi ih=>?_
  obtain ⟨hi1,hi2⟩:=hi;refine bd [] rfl (by simp) ?_;refine Aa rfl (λh=>?_) (λh=>?_)
  ·simp at h;obtain ⟨p,hp⟩:=Am h;obtain ⟨a,ha⟩:=Am (l:=ka) (i:=i) (by omega);rw [An hp,An ha] at hi2;simp only [GQ] at hi2;refine bd [] rfl (by simp) ?_;refine bi rfl (c:=dTyc p) (λ_=>⟨by simp,by simpa using At hp,by simp⟩) (by simp) ?_;refine bg [] rfl (by simp) ?_;refine bi rfl (c:=dTyc a) (λ_=>⟨by simp,by simpa using At ha,by simp⟩) (by simp) ?_;refine bg [] rfl (by simp) ?_;refine Ac rfl (λ_=>kN c sz ho hd p a (Dc hnm ha)) (by simp) ?_;refine bg [] rfl (by simp;rfl) ?_;refine Aa rfl (λh=>?_) (λh=>?_)
   ·refine bd [] rfl (by simp) ?_;refine Ab ⟨_,rfl,tV (congrArg _ ?_),trivial⟩;simp at h;simp [hi2,h]
   ·refine bd [] rfl (by simp) ?_;simp at h;exact Ae (ih (i+1) (by omega) ⟨by omega,by rw [hi2];simp [h]⟩) ⟨As (B9 (by omega) (by omega)),rfl,rfl,rfl,rfl,trivial⟩ trivial rfl
  ·simp at h;refine Ar rfl ?_;refine bd [] rfl (by simp) ?_;rw [hi2,List.drop_eq_nil_of_le (by omega),List.drop_eq_nil_of_le (by omega)];exact Ab ⟨_,rfl,tV rfl,trivial⟩
termination_by p=>SizeOf.sizeOf p
decreasing_by
 have:=List.sizeOf_lt_of_mem (List.mem_of_getElem? hp);simp_wf;omega
theorem Xh (g:FuncId) (a b:List V) (q:List V->Bool) (es:List (List V)) (hes:∀e∈es,e.length=4) (hlen:es.length<=9223372036854775807)
  (hq:∀e∈es,Al Tryz.prog g (a++[.agg e]++b) (.bool (q e))) :
  Al Tryz.prog 185 [.sl es,.clo (.func g) a b] (.int .i64 (Et q es 0)):=by
 refine Ad A4 Tryz.func185 (by decide +kernel) rfl [2,3,4] rfl rfl ?_;refine bg [] rfl (by simp) ?_;refine Ak (λi:Nat=>[(8,.imm (.int .i64 i)),(7,.imm (.int .i64 es.length)),(0,.imm (.sl es)),(1,.imm (.clo (.func g) a b))]) (λ_=>[]) [2,3,4] (λi=>es.length-i)
  (λi=>i<=es.length/\Et q es 0=Et q (es.drop i) i) 0 ⟨Nat.zero_le _,rfl⟩ ⟨rfl,As (by simp),rfl,rfl,trivial⟩ trivial rfl λi hi ih=>?_
 refine bd [] rfl (by simp) ?_;have hi2:=hi.2;refine Aa rfl (λh=>?_) (λh=>?_)
 ·simp at h;obtain ⟨e,he⟩:=Am h;have hm:=List.mem_of_getElem? he;rw [An he] at hi2;refine bd [] rfl (by simp) ?_;refine bi rfl (c:=e) (λ_=>⟨by simp,by simpa using he,hes e hm⟩) (by simp) ?_;refine bg [] rfl (by simp [hes e hm]) ?_;refine OT rfl (λ_=>hq e hm) (by simp) ?_;refine bg [] rfl (by simp) ?_;refine Aa rfl (λh=>?_) (λh=>?_)
  ·refine bd [] rfl (by simp) ?_;exact Ab ⟨_,rfl,tV (congrArg _ (by rw [hi2];simp [Et,h])),trivial⟩
  ·refine bd [] rfl (by simp) ?_;exact Ae (ih (i+1) (by omega) ⟨by omega,by rw [hi2];simp [Et,h]⟩) ⟨As (B9 (by omega) (by omega)),rfl,rfl,rfl,trivial⟩ trivial rfl
 ·refine bd [] rfl (by simp) ?_;simp at h;refine Ab ⟨_,rfl,tV (congrArg _ ?_),trivial⟩;rw [hi2,List.drop_eq_nil_of_le (by omega)];rfl
theorem Rv (g:FuncId) (a b:List V) (q:List V->Bool) (es:List (List V)) (hes:∀e∈es,e.length=4) (hlen:es.length<=9223372036854775807)
  (hq:∀e∈es,Al Tryz.prog g (a++[.agg e]++b) (.bool (q e))) :
  Al Tryz.prog 142 [.sl es,.clo (.func g) a b] (.bool (es.any q)):=by
 refine Ad A4 Tryz.func142 (by decide +kernel) rfl [2,3,4] rfl rfl ?_;refine bg [] rfl (by simp) ?_;refine Ac rfl (λ_=>Xh g a b q es hes hlen hq) (by simp) ?_;refine bg [] rfl (by simp) ?_;refine Ab ⟨_,rfl,tV (congrArg _ ?_),trivial⟩;rw [Bool.eq_iff_iff,<- HT q es 0];simp
theorem cS (c:Cse) (sz:List (List V)) (t:Ty):Al Tryz.prog 143 [.agg (dTyc t),.ip 102 [AL c sz] 0] (.bool (!AB c.datas t)):=by
 have hN:=R2 c sz t;obtain ⟨s,n,x,ps⟩:=t;generalize AB c.datas (.mk s n x ps)=b at *;refine Tq ?_;refine Ad A4 Tryz.func143 (by decide +kernel) rfl [2,3,4,5] rfl rfl ?_;refine bg [] rfl (by simp) ?_;refine Ac rfl (λ_=>hN) (by simp) ?_;refine bg [] rfl (by simp) ?_;exact Ab ⟨_,rfl,tV rfl,trivial⟩
theorem TJ (c:Cse) (sz:List (List V)) (ts:List Ty) (h:ts.length<=9223372036854775807) :
  Al Tryz.prog 142 [.sl (Bq ts),.clo (.func 143) [] [.ip 102 [AL c sz] 0]] (.bool (!Bh c.datas ts)):=by
 have:=Rv 143 [] [.ip 102 [AL c sz] 0] (qOf dTyc (λt=>!AB c.datas t)) (Bq ts) (λe he=>by rw [C0] at he;obtain ⟨t,_,rfl⟩:=List.mem_map.1 he;simp) (by simpa using h)
  (λe he=>by
   rw [C0] at he;obtain ⟨t,ht,rfl⟩:=List.mem_map.1 he;rw [Jb GL];exact cS c sz t)
 rw [C0,List.any_map,show (qOf dTyc (λt=>!AB c.datas t) ∘ dTyc)=(λt=>!AB c.datas t) from funext λv=>Jb GL _ v,<- C0] at this;rw [C3,List.all_eq_not_any_not,Bool.not_not];exact this
def G0 (ds:List Dt):Bool:=Hf ⟨[109],ds,[Hi]⟩&&(Bi (Cy ds)&&Bi (BW ds))&&BZ ds ds
def Mq (c:Cse) (a b:D) (sz:D):List D:=(dCse c).map .imm++[a,b,sz]
def Pd (c:Cse):Blk:=.cells 181 9 (Mq c (.imm (.mapv (Er (Cz 0 c.datas)))) (.imm (.mapv (Er (Dv 0 c.datas)))) .nils)
def outR (c:Cse):Bool->Out
 | true=>.ret (.tup [.ref 6 0,.imm (.bool true)]) [(6,some (Pd c))]
 | false=>.ret (.imm (.tup [.nilp,.bool false])) []
theorem E3 {ds:List Dt} (h:Hf ⟨[109],ds,[Hi]⟩=true):ds.length<=4/\∀d∈ds,d.cons.length<=5/\∀c∈d.cons,c.args.length<=3:=by
 simp only [Hf,Bool.and_eq_true,List.all_eq_true,decide_eq_true_eq] at h;refine ⟨by omega,λd hd=>?_⟩;have hd:=h.1.2 d hd;simp only [EC,Bool.and_eq_true,List.all_eq_true,decide_eq_true_eq] at hd;refine ⟨by omega,λc hc=>?_⟩;have hc:=hd.2 c hc;simp only [J5,Bool.and_eq_true,decide_eq_true_eq] at hc;omega
theorem UP (l:List (Str×V)) (p:Str×V):WH (l++[p])=Es (WH l) (.str p.1) p.2:=by simp [WH,Ki]
theorem VC {ds:List Dt} {i:Nat} {d:Dt} (h:ds[i]?=some d):Cz 0 (ds.take (i+1))=Cz 0 (ds.take i)++[(d.name,.int .i64 i)]:=by
 have hl:(ds.take i).length=i:=by rw [List.length_take];have:=(List.getElem?_eq_some_iff.1 h).1;omega
 rw [Bb h,Kv,hl];simp [Cz]
theorem X0 {ds:List Dt} {i:Nat} {d:Dt} (h:ds[i]?=some d):Dv 0 (ds.take (i+1))=Dv 0 (ds.take i)++D5 i 0 d.cons:=by
 have hl:(ds.take i).length=i:=by rw [List.length_take];have:=(List.getElem?_eq_some_iff.1 h).1;omega
 rw [Bb h,Ma,hl];simp [Dv]
theorem VI {cs:List Cd} {i k:Nat} {c:Cd} (h:cs[k]?=some c):D5 i 0 (cs.take (k+1))=D5 i 0 (cs.take k)++[(c.name,.agg [.int .i64 i,.int .i64 k])]:=by
 have hl:(cs.take k).length=k:=by rw [List.length_take];have:=(List.getElem?_eq_some_iff.1 h).1;omega
 rw [Bb h,Kx,hl];simp [D5]
set_option maxHeartbeats 2000000 in
theorem gX (c:Cse):Bc Tryz.prog 100 [.imm (.agg (dCse c))] [] (outR c (G0 c.datas)):=by
 obtain ⟨ds,⟨c1,c2,c3,c4⟩,rows⟩:=c;simp only;have hck:=Rd ⟨[109],ds,[Hi]⟩;generalize hmb:Hf ⟨[109],ds,[Hi]⟩=mb at hck;refine Ad A4 Tryz.func100 (by decide +kernel) rfl [1,2,3,4,5,6,7,8,9,10,11,12] rfl rfl ?_;refine bg [] rfl (by simp) ?_;refine Ac rfl (λ_=>hck) (by simp) ?_;refine bg [] rfl (by simp [Jy]) ?_;cases mb with
 | false =>
  refine Aa rfl (λh=>?_) (λh=>by simp [Jy] at h);refine bd [] rfl (by simp) ?_;rw [show G0 ds=false by simp [G0,hmb]];exact Ab ⟨_,rfl,tV rfl,trivial⟩
 | true =>
 refine Aa rfl (λh=>by simp [Jy] at h) (λh=>?_);clear h;obtain ⟨hl1,hl2⟩:=E3 hmb;refine bd [] rfl (by simp) ?_;refine OR rfl ?_;refine bg [] rfl (by simp) ?_;refine OR rfl ?_;refine bg [] rfl (by simp) ?_;refine Ak (λi:Nat=>[(36,.imm (.int .i64 i)),(35,.imm (.int .i64 ds.length)),(34,.imm (.sl (ds.map C7))),(7,.imm (.int .i64 (BW (ds.take i)).length)),(1,.ref 1 0),(6,.ref 7 0)])
  (λi=>[(1,some (.immb 29 6 (dCse ⟨ds,.mk c1 c2 c3 c4,rows⟩))),(4,some (.map (WH (Cz 0 (ds.take i))))),(5,some (.map (WH (Dv 0 (ds.take i))))),(6,some (.cells 181 9 (Mq ⟨ds,.mk c1 c2 c3 c4,rows⟩ (.mapr 4) (.mapr 5) .nils))),(7,some (.cells 102 1 [.ref 6 0]))]) [8,9,10,11,12] (λi=>ds.length-i)
  (λi=>i<=ds.length) 0 (Nat.zero_le _) ⟨rfl,As (by simp),rfl,rfl,rfl,rfl,trivial⟩ ⟨rfl,rfl,rfl,rfl,rfl,trivial⟩ rfl λi hi ih=>?_
 refine bd [] rfl (by simp) ?_;refine Aa rfl (λh=>?_) (λh=>?_)
 ·simp at h;obtain ⟨d,hd⟩:=Am h;have hdm:=hl2 d (List.mem_of_getElem? hd);have hcl:=SL (ds:=ds.take i) λx hx=>(hl2 x (List.mem_of_mem_take hx)).1;rw [List.length_take] at hcl;have ec:=QD hd;have ed:=VC hd;have es:=X0 hd;refine bd [] rfl (by simp) ?_;refine bi rfl (c:=C7 d) (λ_=>⟨by simp,by simpa using Bk hd,by simp⟩) (by simp) ?_;obtain ⟨dn,dc⟩:=d;simp only at hdm ec ed es;refine bg [] rfl (by simp) ?_;refine Xl A4 rfl rfl rfl (UQ _) ?_;refine bg [] rfl (by simp [Ah];rfl) ?_
  refine Ak (λk:Nat=>[(51,.imm (.int .i64 k)),(50,.imm (.int .i64 dc.length)),(49,.imm (.sl (dc.map Ds))),(8,.imm (.int .i64 i)),(36,.imm (.int .i64 i)),(35,.imm (.int .i64 ds.length)),(34,.imm (.sl (ds.map C7))),(7,.imm (.int .i64 ((BW (ds.take i)).length+k:Nat))),(1,.ref 1 0),(6,.ref 7 0)])
   (λk=>[(1,some (.immb 29 6 (dCse ⟨ds,.mk c1 c2 c3 c4,rows⟩))),(4,some (.map (WH (Cz 0 (ds.take (i+1)))))),(5,some (.map (WH (Dv 0 (ds.take i)++D5 i 0 (dc.take k))))),(6,some (.cells 181 9 (Mq ⟨ds,.mk c1 c2 c3 c4,rows⟩ (.mapr 4) (.mapr 5) .nils))),(7,some (.cells 102 1 [.ref 6 0]))]) [8,9,10,11,12] (λk=>dc.length-k)
   (λk=>k<=dc.length) 0 (Nat.zero_le _) ⟨rfl,As (by simp),rfl,rfl,rfl,rfl,rfl,rfl,rfl,rfl,trivial⟩ ⟨rfl,by rw [ed,UP];rfl,by rw [List.take_zero,show D5 i 0 []=[] from rfl,List.append_nil];rfl,rfl,rfl,trivial⟩ rfl λk hk jh=>?_
  refine bd [] rfl (by simp) ?_;refine Aa rfl (λh=>?_) (λh=>?_)
  ·simp at h;obtain ⟨k',hk'⟩:=Am h;have ek:=VI (i:=i) hk';refine bd [] rfl (by simp) ?_;refine bi rfl (c:=Ds k') (λ_=>⟨by simp,by simpa using Bk hk',by simp⟩) (by simp) ?_;obtain ⟨kn,ka⟩:=k';simp only at ek;refine bg [] rfl (by simp) ?_;refine Xl A4 rfl rfl rfl (UQ _) ?_;refine bg [] rfl (by simp [Ah];rfl) ?_;exact Ae (jh (k+1) (by omega) (by omega)) ⟨As (B9 (by omega) (by omega)),rfl,rfl,rfl,rfl,rfl,rfl,As (by rw [B9 (by omega) (by omega)];omega),rfl,rfl,trivial⟩ ⟨rfl,rfl,by rw [ek,<- List.append_assoc,UP];rfl,rfl,rfl,trivial⟩ rfl
  ·simp at h;have hke:dc.take k=dc:=List.take_of_length_le h;have hkl:k=dc.length:=by omega
   refine Ar rfl ?_;refine bd [] rfl (by simp) ?_;exact Ae (ih (i+1) (by omega) (by omega)) ⟨As (B9 (by omega) (by omega)),rfl,rfl,As (by rw [ec];simp [hkl]),rfl,rfl,trivial⟩ ⟨rfl,rfl,by rw [es,hke];rfl,rfl,rfl,trivial⟩ rfl
 ·simp at h;refine Ar rfl ?_;rw [List.take_of_length_le h];refine bd [] rfl (by simp [Ah];rfl) ?_;have m1:=(Yl (Cz 0 ds)).2;have m2:=(Yl (Dv 0 ds)).2;rw [Gc] at m1;rw [Hp] at m2;have l1:(Cz 0 ds).length=ds.length:=by have:=congrArg List.length (Gc 0 ds);simpa [Cy] using this
  have l2:(Dv 0 ds).length=(BW ds).length:=by have:=congrArg List.length (Hp 0 ds);simpa using this
  rw [l1] at m1;rw [l2] at m2;by_cases hdf:Bi (Cy ds)=true/\Bi (BW ds)=true
  case neg =>
   refine Aa rfl (λh=>?_) (λh=>?_)
   ·refine bd [] rfl (by simp) ?_;have:(Bi (Cy ds)&&Bi (BW ds))=false:=by cases h1:Bi (Cy ds) <;> cases h2:Bi (BW ds) <;> simp_all
    rw [show G0 ds=false by simp only [G0,this];simp];exact Ab ⟨_,rfl,tV rfl,trivial⟩
   ·exfalso;apply hdf;simp at h m1 m2;constructor
    ·cases h1:Bi (Cy ds) with
     | true=>rfl
     | false=>rw [h1] at m1;simp at m1;omega
    ·cases h1:Bi (BW ds) with
     | true=>rfl
     | false=>rw [h1] at m2;simp at m2;omega
  obtain ⟨hdn,hdc⟩:=hdf;rw [hdn] at m1;rw [hdc] at m2;refine Aa rfl (λh'=>by exfalso;simp at h' m1 m2;omega) (λh=>?_);clear h m1 m2;rw [show G0 ds=BZ ds ds by simp [G0,hmb,hdn,hdc],PZ _ (by rw [Gc];exact hdn),PZ _ (by rw [Hp];exact hdc)];refine bd [] rfl (by simp) ?_;refine Ak (λi:Nat=>[(90,.imm (.int .i64 i)),(89,.imm (.int .i64 ds.length)),(88,.imm (.sl (ds.map C7))),(6,.ref 7 0)])
   (λ_=>[(4,some (.map (Er (Cz 0 ds)))),(5,some (.map (Er (Dv 0 ds)))),(6,some (.cells 181 9 (Mq ⟨ds,.mk c1 c2 c3 c4,rows⟩ (.mapr 4) (.mapr 5) .nils))),(7,some (.cells 102 1 [.ref 6 0]))]) [8,9,10,11,12] (λi=>ds.length-i)
   (λi=>i<=ds.length/\BZ ds ds=BZ ds (ds.drop i)) 0 ⟨Nat.zero_le _,rfl⟩ ⟨rfl,As (by simp),rfl,rfl,trivial⟩ ⟨rfl,rfl,rfl,rfl,trivial⟩ rfl λi hi ih=>?_
  obtain ⟨hi1,hi2⟩:=hi;refine bd [] rfl (by simp) ?_;refine Aa rfl (λh=>?_) (λh=>?_)
  ·simp at h;obtain ⟨d,hd⟩:=Am h;have hdm:=hl2 d (List.mem_of_getElem? hd);rw [show BZ ds (ds.drop i)=(d.cons.all (λc=>Bh ds c.args)&&BZ ds (ds.drop (i+1))) from DS hd] at hi2;refine bd [] rfl (by simp) ?_;refine bi rfl (c:=C7 d) (λ_=>⟨by simp,by simpa using Bk hd,by simp⟩) (by simp) ?_;obtain ⟨dn,dc⟩:=d;simp only at hdm hi2;refine bg [] rfl (by simp) ?_;refine Ak (λk:Nat=>[(97,.imm (.int .i64 k)),(96,.imm (.int .i64 dc.length)),(95,.imm (.sl (dc.map Ds))),(90,.imm (.int .i64 i)),(89,.imm (.int .i64 ds.length)),(88,.imm (.sl (ds.map C7))),(6,.ref 7 0)])
    (λ_=>[(4,some (.map (Er (Cz 0 ds)))),(5,some (.map (Er (Dv 0 ds)))),(6,some (.cells 181 9 (Mq ⟨ds,.mk c1 c2 c3 c4,rows⟩ (.mapr 4) (.mapr 5) .nils))),(7,some (.cells 102 1 [.ref 6 0]))]) [8,9,10,11,12] (λk=>dc.length-k)
    (λk=>k<=dc.length/\dc.all (λc=>Bh ds c.args)=(dc.drop k).all (λc=>Bh ds c.args)) 0 ⟨Nat.zero_le _,rfl⟩ ⟨rfl,As (by simp),rfl,rfl,rfl,rfl,rfl,trivial⟩ ⟨rfl,rfl,rfl,rfl,trivial⟩ rfl λk hk jh=>?_
   obtain ⟨hk1,hk2⟩:=hk;refine bd [] rfl (by simp) ?_;refine Aa rfl (λh=>?_) (λh=>?_)
   ·simp at h;obtain ⟨k',hk'⟩:=Am h;have hkm:=hdm.2 k' (List.mem_of_getElem? hk');rw [DS hk'] at hk2;refine bd [] rfl (by simp) ?_;refine bi rfl (c:=Ds k') (λ_=>⟨by simp,by simpa using Bk hk',by simp⟩) (by simp) ?_;obtain ⟨kn,ka⟩:=k';simp only at hkm hk2;refine bg [] rfl (by simp) ?_;refine I9 rfl (v:=.bool (!Bh ds ka)) (λ_=>TJ ⟨ds,.mk c1 c2 c3 c4,rows⟩ [] ka (by omega)) rfl (by simp) ?_;refine bg [] rfl (by simp) ?_;refine Aa rfl (λh=>?_) (λh=>?_)
    ·have h:Bh ds ka=true:=by simpa using h
     refine Ar rfl ?_;refine bd [] rfl (by simp) ?_;exact Ae (jh (k+1) (by omega) ⟨by omega,by rw [hk2];simp [h]⟩) ⟨As (B9 (by omega) (by omega)),rfl,rfl,rfl,rfl,rfl,rfl,trivial⟩ ⟨rfl,rfl,rfl,rfl,trivial⟩ rfl
    ·have h:Bh ds ka=false:=by simpa using h
     refine bd [] rfl (by simp) ?_;rw [hi2,hk2,h];exact Ab ⟨_,rfl,tV rfl,trivial⟩
   ·simp at h;refine Ar rfl ?_;refine bd [] rfl (by simp) ?_;rw [List.drop_eq_nil_of_le (by omega)] at hk2;exact Ae (ih (i+1) (by omega) ⟨by omega,by rw [hi2,hk2];simp⟩) ⟨As (B9 (by omega) (by omega)),rfl,rfl,rfl,trivial⟩ ⟨rfl,rfl,rfl,rfl,trivial⟩ rfl
  ·simp at h;refine Ar rfl ?_;rw [hi2,List.drop_eq_nil_of_le (by omega)];refine Om 4 rfl ?_;refine Om 5 rfl ?_;refine bd [] rfl (by simp) ?_;exact Ab ⟨_,rfl,rfl,⟨rfl,trivial⟩⟩
end Go.Hk
namespace Go.Hk
section
variable {P:Program} {n:Nat} {F:List Nat} {Q:DQ} {todo:List DI} {env:Env} {st:St} {ids':List Nat}
end
end Go.Hk
namespace Go.Hk
structure PMs where
 e:TypeId
 z:V
 bytes:Nat
 m:Int
 m2:Int
 id':Nat
 ids':List Nat
 dst:Option Nat
 todo:List DI
def mS (tt:TT) (n:Nat) (env:Env) (ids:List Nat) (todo:List DI):Option PMs :=
 match Tu todo,ids with
 | some o,id'::ids'=>match o.guard,o.op with
  | none,.makeSlice t l c=>match lk tt t,Di env l,Di env c with
   | some { sh:=.sl e,.. },some (.imm (.int _ m)),some (.imm (.int _ m2))=>match lk tt e,B3 n o.dst,AU todo ([],[id']) with
    | some ⟨_,_,1,bytes,[.imm z]⟩,true,some (_,_,todo')=>some ⟨e,z,bytes,m,m2,id',ids',o.dst,todo'⟩
    | _,_,_=>none
   | _,_,_=>none
  | _,_=>none
 | _,_=>none
section
variable {P:Program} {n:Nat} {F:List Nat} {Q:DQ} {tt:TT} {env env':Env} {st st':St} {ids ids':List Nat} {k todo todo':List DI} {I:Imm} {μ:Mu} {w:World} {a:Act} {Pn:V->Prop} {d:D} {cx:Prop} {ob:List Prop}
theorem dU (z:Array Value) (n:Nat) (c:Value) (h:z.toList=[c]):madeCells z n=Array.replicate n c:=by
 obtain ⟨z⟩:=z;simp at h;subst h;apply Array.ext
 ·simp [madeCells]
 ·intro i h1 h2;simp [madeCells,Nat.mod_one]
theorem ZR (htt:TTok P tt) {c:PMs} (h:mS tt n env ids todo=some c) (hm:c.m2=c.m) (h0:0<=c.m) (h1:(c.bytes:Int)*c.m<=281474976710656) (h2:c.m<=maxLen) (hz:V.one c.z=true)
  (hk:G P n F Q c.todo (B1 c.dst (.own c.id' (List.replicate c.m.toNat [c.z]).length) env) ((c.id',some (.row c.e 1 (List.replicate c.m.toNat [c.z])))::st) c.ids'):G P n F Q todo env st ids:=by
 unfold mS at h
 split at h
 ·rename_i o id' ids' ho
  split at h
  ·rename_i t l cc hg hop
   split at h
   ·rename_i e _ _ _ _ k1 m k2 m2 ht hl hc
    split at h
    ·rename_i sh ag bytes z all o' todo' hi hd hn1;cases h;have ho':o'=o:=Ei ho hn1;subst ho';simp only at hm h0 h1 h2 hz hk;have hm:=hm.symm;subst hm;refine By (fr:=[id']) (wr:=[(id',some (.row e 1 (List.replicate m.toNat [z])))]) (rd:=[]) hn1 ?_ hd (λc hc=>by rw [hop] at hc;cases hc) hk;intro I μ st1 ids1 a w hag hst hon;refine ⟨λ_=>?_,λhw=>by rw [A3 hg] at hw;cases hw⟩;have hops:=AT hon;rw [hop] at hops;have rl:=hops l (by simp [Op.operands]) _ hl;have rc:=hops cc (by simp [Op.operands]) _ hc;obtain ⟨inf,zv,i1,i2,i3,i4,i5,i6⟩:=(htt e _ hi).info;have hz1:=i5 I μ;have hzl:∃c0,zv.cells.toList=[c0]/\RepV I c0 z:=by
      have hl:=hz1.1
      match hcs:zv.cells.toList,hl with
      | [c0],_=>exact ⟨c0,rfl,(hz1.2 0 c0 _ (by rw [hcs];rfl) rfl).immInv⟩
     obtain ⟨c0,hc0,hr0⟩:=hzl;have hsz:inf.size=1:=i2;have hby:inf.bytes=bytes:=i3;have hrun:(execOp a.eval o').run P w = .ok (.value (.slice (some ⟨w.heap.size,0,none⟩) m.toNat m.toNat)) (w.alloc (.cells (Array.replicate m.toNat c0) e)):=by
      have hs:=(htt t _ ht).sh;have hx:=run_make (P:=P) w t e inf zv hs i1 i4 k1 k2 m m h0 (Int.le_refl _) (by rw [hby];exact h1) (by simpa [maxLen] using h2);rw [dU _ _ c0 hc0,hsz,Nat.mul_one] at hx;simp only [execOp,hop];generalize a.eval l=vl at rl;generalize a.eval cc=vc at rc;cases rl with
      | imm _ _ rl =>
      cases rc with
      | imm _ _ rc =>
      cases rl;cases rc;simp only [Sem.run_bind,hx,Result.andThen_ok,Sem.run_pure]
     rw [hrun];have hlen:(List.replicate m.toNat [z]).length=m.toNat:=by simp
     have hone0:c0.oneCell'=true:=i6 c0 (by rw [hc0];simp);obtain ⟨μ',q1,q2,q3,q4⟩:=hst.allocO (.cells (Array.replicate m.toNat c0) e) (.slice (some ⟨w.heap.size,0,none⟩) m.toNat m.toNat) (λ_ h=>Eq.symm h) (.row e 1 (List.replicate m.toNat [z])) (λμ' _ =>
      ⟨(List.replicate m.toNat c0),⟨by simp [hlen],.inr ⟨w.heap.size,m.toNat,Array.replicate m.toNat c0,by rw [hlen],Nat.zero_le _,DB w _,by rw [hlen];exact Nat.le_refl _,by simp [maxLen] at h2 ⊢;omega,by simp,by rw [hlen];simp⟩⟩,⟨by simp,λi v x hv hx=>by
       have e1:(List.replicate m.toNat [z]).flatten=List.replicate m.toNat z:=by
        generalize m.toNat=q
        induction q with
        | zero=>rfl
        | succ q ih=>simp only [List.replicate_succ,List.flatten_cons,ih];rfl
       rw [e1] at hx;rw [List.getElem?_replicate] at hv hx
       split at hv
       ·rename_i hq;rw [if_pos hq] at hx;cases hv;cases hx;exact hr0
       ·cases hv⟩,λc hc=>by rw [List.eq_of_mem_replicate hc];rfl,λc hc y hy=>by
       rw [List.eq_of_mem_replicate hc] at hy;simp at hy;subst hy;exact hz,Nat.one_pos⟩)
     rw [hlen] at *;exact ⟨I,μ',q3,.own _ _ _ _ q1,q2,q4⟩
    ·cases h
   ·cases h
  ·cases h
 ·cases h
end
end Go.Hk
namespace Go.Hk
open Go.Proofs
def EI (ds:List Dt) (s:List Int):Ty->Int
 | .mk so _ x _=>if so=8 then s.getD (Kh ds x).toNat 0 else 1
def AM (ds:List Dt) (s:List Int):Int->List Ty->Int
 | n,[]=>n
 | n,t::r=>if EI ds s t=0 then 0 else AM ds s (n+EI ds s t) r
def Bu (s:List Int):List (List V):=s.map λn=>[.int .i64 n]
@[simp] theorem rowI_length (s:List Int):(Bu s).length=s.length:=by simp [Bu]
theorem Lu {s:List Int} {i:Nat} (h:i<s.length):(Bu s)[i]?=some [.int .i64 (s.getD i 0)]:=by simp [Bu,h,List.getD]
def HG (ds:List Dt) (i:Nat) (p:List Int×Bool) (args:List Ty):List Int×Bool :=
 if 0<AM ds p.1 1 args/\(p.1.getD i 0=0\/AM ds p.1 1 args<p.1.getD i 0) then (p.1.set i (AM ds p.1 1 args),true) else p
def J4 (ds:List Dt) (i:Nat):List Int×Bool->List Cd->List Int×Bool
 | p,[]=>p
 | p,c::r=>J4 ds i (HG ds i p c.args) r
def CR (ds:List Dt):List Int×Bool->Nat->List Dt->List Int×Bool
 | p,_,[]=>p
 | p,i,d::r=>CR ds (J4 ds i p d.cons) (i+1) r
def LH (ds:List Dt):Nat->List Int->List Int
 | 0,s=>s
 | f+1,s=>bif (CR ds (s,false) 0 ds).2 then LH ds f (CR ds (s,false) 0 ds).1 else (CR ds (s,false) 0 ds).1
def D7 (ds:List Dt):List Int:=LH ds 2000 (List.replicate ds.length 0)
def PQ:List Int->Nat
 | []=>0
 | x::r=>(if x=0 then 0 else 1)+PQ r
def L6:List Int->Nat
 | []=>0
 | x::r=>(if x=0 then 257 else x.toNat)+L6 r
theorem MK:∀s:List Int,PQ s<=s.length
 | []=>Nat.le_refl _
 | x::r=>by have:=MK r;simp only [PQ,List.length_cons];split <;> omega
theorem Yh:∀(s:List Int) (i:Nat) (n:Int),i<s.length->n≠0->PQ (s.set i n)=PQ s+(if s.getD i 0=0 then 1 else 0)
 | [],i,n,h,_=>by simp at h
 | x::r,0,n,_,hn=>by simp only [List.set_cons_zero,PQ,hn,if_false,List.getD_cons_zero];split <;> omega
 | x::r,i+1,n,h,hn=>by
  have:=Yh r i n (by simpa using h) hn;simp only [List.set_cons_succ,PQ,List.getD_cons_succ,this];omega
theorem Yk:∀(s:List Int) (i:Nat) (n:Int),i<s.length->0<n->n<=256->(s.getD i 0=0\/n<s.getD i 0)->L6 (s.set i n)<L6 s
 | [],i,n,h,_,_,_=>by simp at h
 | x::r,0,n,_,hn,hb,hc=>by
  simp only [List.set_cons_zero,L6,List.getD_cons_zero] at hc ⊢;rw [if_neg (by omega)]
  split <;> omega
 | x::r,i+1,n,h,hn,hb,hc=>by
  have:=Yk r i n (by simpa using h) hn hb (by simpa using hc);simp only [List.set_cons_succ,L6];omega
theorem WF:∀s:List Int,(∀x∈s,x<=256)->L6 s<=257*s.length
 | [],_=>Nat.le_refl _
 | x::r,h=>by
  have h1:=h x (by simp);have h2:=WF r λy hy=>h y (by simp [hy]);simp only [L6,List.length_cons]
  split <;> omega
structure Ia (ds:List Dt) (s:List Int):Prop where
 len:s.length=ds.length
 le:∀x∈s,0<=x/\x<=((4 ^ PQ s:Nat):Int)
theorem LN {s:List Int} {i:Nat}:s.getD i 0∈s\/s.getD i 0=0:=by
 by_cases h:i<s.length
 ·left;simp [List.getD,List.getElem?_eq_getElem h]
 ·right;simp [List.getD,List.getElem?_eq_none (Nat.le_of_not_lt h)]
theorem gZ {n:Nat} (h:n<=4):4 ^ n<=256:=by
 have:n=0\/n=1\/n=2\/n=3\/n=4:=by omega
 rcases this with rfl | rfl | rfl | rfl | rfl <;> decide
theorem Im {ds:List Dt} {s:List Int} (h:Ia ds s) (t:Ty):0<=EI ds s t/\EI ds s t<=((4 ^ PQ s:Nat):Int):=by
 obtain ⟨so,n,x,ps⟩:=t;have h1:1<=4 ^ PQ s:=Nat.one_le_pow _ _ (by decide);simp only [EI]
 split
 ·rcases LN (s:=s) (i:=(Kh ds x).toNat) with hm | hm
  ·exact h.le _ hm
  ·rw [hm];omega
 ·omega
theorem FS {ds:List Dt} {s:List Int} (h:Ia ds s):∀(l:List Ty) (n:Int),0<=n->0<=AM ds s n l/\AM ds s n l<=n+(l.length:Int)*((4 ^ PQ s:Nat):Int)
 | [],n,hn=>by simp [AM,hn]
 | t::r,n,hn=>by
  have hb:=Im h t;have ih:=FS h r (n+EI ds s t) (by omega);simp only [AM,List.length_cons];generalize ((4 ^ PQ s:Nat):Int)=M at *;have:((r.length+1:Nat):Int)*M=(r.length:Int)*M+M:=by rw [Int.natCast_add,Int.add_mul];omega
  rw [this];have hm:0<=(r.length:Int)*M:=Int.mul_nonneg (by omega) (by omega)
  split <;> omega
theorem Pw {ds:List Dt} (h4:ds.length<=4) {i:Nat} (hi:i<ds.length) {p:List Int×Bool} {args:List Ty} (ha:args.length<=3) (h:Ia ds p.1) :
  Ia ds (HG ds i p args).1/\L6 (HG ds i p args).1<=L6 p.1/\((HG ds i p args).2=true->p.2=true\/L6 (HG ds i p args).1<L6 p.1):=by
 have hs:=FS h args 1 (by omega);simp only [HG];generalize AM ds p.1 1 args=n at *
 split
 ·rename_i hc;have hlt:i<p.1.length:=by rw [h.len];exact hi
  have hset:=Yh p.1 i n hlt (by omega);have hnz:=MK p.1;have hz1:4 ^ PQ p.1>=1:=Nat.one_le_pow _ _ (by decide);have key:∀M:Nat,1<=M->n<=1+(args.length:Int)*(M:Int)->n<=((M*4:Nat):Int):=λM h1 h2=>by
   have:(args.length:Int)*(M:Int)<=3*(M:Int):=Int.mul_le_mul_of_nonneg_right (by omega) (by omega);omega
  have hn4:n<=((4 ^ PQ (p.1.set i n):Nat):Int):=by
   rw [hset];by_cases h0:p.1.getD i 0=0
   ·rw [if_pos h0,Nat.pow_succ];exact key _ hz1 hs.2
   ·rw [if_neg h0,Nat.add_zero];rcases LN (s:=p.1) (i:=i) with hm | hm
    ·have:=(h.le _ hm).2;omega
    ·exact absurd hm h0
  have hle:PQ (p.1.set i n)<=4:=by have:=MK (p.1.set i n);rw [List.length_set,h.len] at this;omega
  have h256:=gZ hle;have hmu:=Yk p.1 i n hlt hc.1 (by omega) hc.2;refine ⟨⟨by simp [h.len],λx hx=>?_⟩,Nat.le_of_lt hmu,λ_=>.inr hmu⟩;have hmono:4 ^ PQ p.1<=4 ^ PQ (p.1.set i n):=Nat.pow_le_pow_right (by decide) (by rw [hset];omega);show 0<=x/\x<=((4 ^ PQ (p.1.set i n):Nat):Int);rcases List.mem_or_eq_of_mem_set hx with hx | rfl
  ·have:=h.le x hx;omega
  ·omega
 ·exact ⟨h,Nat.le_refl _,λh=>.inl h⟩
theorem TE {ds:List Dt} (h4:ds.length<=4) {i:Nat} (hi:i<ds.length):∀{l:List Cd} {p:List Int×Bool},(∀c∈l,c.args.length<=3)->Ia ds p.1 ->
  Ia ds (J4 ds i p l).1/\L6 (J4 ds i p l).1<=L6 p.1/\((J4 ds i p l).2=true->p.2=true\/L6 (J4 ds i p l).1<L6 p.1)
 | [],p,_,h=>⟨h,Nat.le_refl _,λh=>.inl h⟩
 | c::r,p,ha,h=>by
  obtain ⟨a1,a2,a3⟩:=Pw (p:=p) h4 hi (ha c (by simp)) h;obtain ⟨b1,b2,b3⟩:=TE h4 hi (l:=r) (p:=HG ds i p c.args) (λx hx=>ha x (by simp [hx])) a1;simp only [J4];refine ⟨b1,by omega,λh=>?_⟩;rcases b3 h with h | h
  ·rcases a3 h with h | h
   ·exact .inl h
   ·exact .inr (by omega)
  ·exact .inr (by omega)
theorem M0 {ds:List Dt} (h4:ds.length<=4):∀{l:List Dt} {p:List Int×Bool} {i:Nat},i+l.length<=ds.length->(∀d∈l,∀c∈d.cons,c.args.length<=3)->Ia ds p.1 ->
  Ia ds (CR ds p i l).1/\L6 (CR ds p i l).1<=L6 p.1/\((CR ds p i l).2=true->p.2=true\/L6 (CR ds p i l).1<L6 p.1)
 | [],p,i,_,_,h=>⟨h,Nat.le_refl _,λh=>.inl h⟩
 | d::r,p,i,hi,ha,h=>by
  simp only [List.length_cons] at hi;obtain ⟨a1,a2,a3⟩:=TE (p:=p) h4 (i:=i) (by omega) (l:=d.cons) (ha d (by simp)) h;obtain ⟨b1,b2,b3⟩:=M0 h4 (l:=r) (p:=J4 ds i p d.cons) (i:=i+1) (by omega) (λx hx=>ha x (by simp [hx])) a1;simp only [CR];refine ⟨b1,by omega,λh=>?_⟩;rcases b3 h with h | h
  ·rcases a3 h with h | h
   ·exact .inl h
   ·exact .inr (by omega)
  ·exact .inr (by omega)
theorem XJ (c:Cse) (s:List Int) (hs:Ia c.datas s) (h4:c.datas.length<=4) (args:List Ty) (hn:Bh c.datas args=true) (ha:args.length<=3) :
  Al Tryz.prog 150 [AL c (Bu s),.sl (Bq args)] (.int .i64 (AM c.datas s 1 args)):=by
 obtain ⟨ds,⟨c1,c2,c3,c4⟩,rows⟩:=c;simp only at hs h4 hn ⊢;have hpw:((4 ^ PQ s:Nat):Int)<=256:=by have:=gZ (n:=PQ s) (by have:=MK s;rw [hs.len] at this;omega);omega
 refine Ad A4 Tryz.func150 (by decide +kernel) rfl [2,3,4,5,6] rfl rfl ?_;refine bg [] rfl (by simp) ?_;refine Ak (λy:Nat×Int=>[(11,.imm (.int .i64 y.1)),(10,.imm (.int .i64 args.length)),(9,.imm (.sl (Bq args))),(5,.imm (.int .i64 y.2)),(0,.imm (AL ⟨ds,.mk c1 c2 c3 c4,rows⟩ (Bu s)))]) (λ_=>[]) [2,3,4,5,6] (λy=>args.length-y.1)
  (λy=>y.1<=args.length/\AM ds s 1 args=AM ds s y.2 (args.drop y.1)/\0<=y.2/\y.2<=1+256*y.1) (0,1) ⟨Nat.zero_le _,rfl,by simp only;omega,by simp only;omega⟩ ⟨rfl,As (by simp),rfl,rfl,rfl,trivial⟩ trivial rfl λy hi ih=>?_
 obtain ⟨i,m⟩:=y;obtain ⟨hi1,hi2,hi3,hi4⟩:=hi;simp only at hi1 hi2 hi3 hi4;refine bd [] rfl (by simp) ?_;refine Aa rfl (λh=>?_) (λh=>?_)
 ·simp at h;obtain ⟨t,ht⟩:=Am h;have hnt:=Dc hn ht;have hb:=Im hs t;rw [An ht] at hi2;simp only [AM] at hi2;refine bd [] rfl (by simp) ?_;refine bi rfl (c:=dTyc t) (λ_=>⟨by simp,by simpa using At ht,by simp⟩) (by simp) ?_;obtain ⟨so,n,x,ps⟩:=t;refine bg [] rfl (by simp) ?_;by_cases h8:so=8
  ·subst h8;have hp:=(C5 hnt 8 n x ps rfl rfl).1;have hd:Kh ds x=AQ x 0 ds:=by simp [Kh,hp]
   obtain ⟨k,d,k1,k2,k3⟩:=Ij x ds 0 hp;have hk:k<s.length:=by rw [hs.len];exact (List.getElem?_eq_some_iff.1 k2).1
   have ho:EI ds s (.mk 8 n x ps)=s.getD k 0:=by simp [EI,hd,k1]
   rw [ho] at hi2 hb;refine Aa rfl (λh=>?_) (λh=>by simp at h);refine bd [] rfl (by simp) ?_;refine FA A4 rfl rfl rfl (Ef _) (by simp [Ah]) (z:=.int .i64 0) rfl (λ_=>.int _ _) (Hj ds x) ?_;refine bg [] rfl (by simp) ?_;refine bi rfl (c:=[.int .i64 (s.getD k 0)]) (λ_=>⟨by rw [hd];exact hp,by rw [hd,k1];simpa using Lu hk,rfl⟩) (by simp) ?_;refine bg [] rfl (by simp;rfl) ?_;refine Aa rfl (λh=>?_) (λh=>?_)
   ·refine bd [] rfl (by simp) ?_;rw [if_pos (by simpa using h)] at hi2;rw [hi2];exact Ab ⟨_,rfl,tV rfl,trivial⟩
   ·refine bd [] rfl (by simp) ?_;rw [if_neg (by simpa using h)] at hi2;exact Ae (ih (i+1,m+s.getD k 0) (by simp only;omega) ⟨by simp only;omega,hi2,by simp only;omega,by simp only;omega⟩) ⟨As (B9 (by simp only;omega) (by simp only;omega)),rfl,rfl,As (B9 (by omega) (by omega)),rfl,trivial⟩ trivial rfl
  ·have ho:EI ds s (.mk so n x ps)=1:=by simp [EI,h8]
   rw [ho] at hi2;refine Aa rfl (λh=>absurd (by simpa using h) h8) (λh=>?_);refine bd [] rfl (by simp) ?_;refine Aa rfl (λh=>by simp at h) (λh=>?_);refine bd [] rfl (by simp) ?_;rw [if_neg (by omega)] at hi2;exact Ae (ih (i+1,m+1) (by simp only;omega) ⟨by simp only;omega,hi2,by simp only;omega,by simp only;omega⟩) ⟨As (B9 (by simp only;omega) (by simp only;omega)),rfl,rfl,As (B9 (by omega) (by omega)),rfl,trivial⟩ trivial rfl
 ·simp at h;refine Ar rfl ?_;refine bd [] rfl (by simp) ?_;rw [hi2,List.drop_eq_nil_of_le (by omega)];exact Ab ⟨_,rfl,tV rfl,trivial⟩
theorem cG (s:List Int) (i:Nat) (n:Int):(Bu s).set i [.int .i64 n]=Bu (s.set i n):=by simp [Bu,List.map_set]
theorem Zg (n:Nat):List.replicate n [V.int .i64 0]=Bu (List.replicate n 0):=by simp [Bu]
theorem My (ds:List Dt):Ia ds (List.replicate ds.length 0):=⟨by simp,λx hx=>by rw [List.eq_of_mem_replicate hx];exact ⟨Int.le_refl _,Int.natCast_nonneg _⟩⟩
def SX (c:Cse) (sz:D):Blk:=.cells 181 9 (Mq c (.imm (.mapv (Er (Cz 0 c.datas)))) (.imm (.mapv (Er (Dv 0 c.datas)))) sz)
set_option maxHeartbeats 2000000 in
theorem aS (c:Cse) (h4:c.datas.length<=4) (hl2:∀d∈c.datas,d.cons.length<=5/\∀c∈d.cons,c.args.length<=3) (hN:BZ c.datas c.datas=true) :
  Bc Tryz.prog 108 [.ref 1 0] [(1,some (Pd c))] (.ret GW [(1,some (SX c (.own 2 c.datas.length))),(2,some (.row 3 1 (Bu (D7 c.datas))))]):=by
 obtain ⟨ds,⟨c1,c2,c3,c4⟩,rows⟩:=c;simp only at h4 hl2 hN ⊢;have hl3:∀d∈ds,∀c∈d.cons,c.args.length<=3:=λd hd=>(hl2 d hd).2;have hnm:∀d∈ds,∀c∈d.cons,Bh ds c.args=true:=by simpa [BZ] using hN
 generalize hC:(⟨ds,.mk c1 c2 c3 c4,rows⟩:Cse)=C at *;have hCd:C.datas=ds:=by rw [<- hC]
 unfold Pd;rw [hCd];subst hC;refine Ad A4 Tryz.func108 (by decide +kernel) rfl [2,3,4,5,6] rfl rfl ?_;refine bg [] rfl (by simp) ?_;refine ZR A4 rfl rfl (by simp) (by simp;omega) (by simp [maxLen];omega) rfl ?_;have er:(List.replicate ((ds.map C7).length:Int).toNat [V.int .i64 0])=Bu (List.replicate ds.length 0):=by rw [<- Zg];simp
 simp only [B1];rw [er,rowI_length,List.length_replicate];refine bg [] rfl (by simp) ?_;refine Ak (λy:Nat×List Int×Bool=>[(2,.imm (.bool y.2.2)),(0,.ref 1 0)])
  (λy=>[(1,some (SX ⟨ds,.mk c1 c2 c3 c4,rows⟩ (.own 2 ds.length))),(2,some (.row 3 1 (Bu y.2.1)))]) [3,4,5,6] (λy=>if y.2.2 then y.1+1 else 0)
  (λy=>Ia ds y.2.1/\if y.2.2 then D7 ds=LH ds y.1 y.2.1/\L6 y.2.1<y.1 else D7 ds=y.2.1) (2000,List.replicate ds.length 0,true)
  ⟨My ds,by simp only [if_true];exact ⟨rfl,by have:=WF (List.replicate ds.length 0) (λx hx=>by rw [List.eq_of_mem_replicate hx];omega);simp at this;omega⟩⟩ ⟨rfl,rfl,trivial⟩ ⟨rfl,rfl,trivial⟩ rfl λy hi ih=>?_
 obtain ⟨f,s,ch⟩:=y;obtain ⟨hs,hi⟩:=hi;simp only at hs hi;refine bd [] rfl (by simp) ?_;cases ch with
 | false =>
  simp only [Bool.false_eq_true,if_false] at hi;refine Aa rfl (λh=>by simp at h) (λh=>?_);refine Ar rfl ?_;refine bd [] rfl (by simp) ?_;rw [hi];exact Cn ⟨_,rfl,tV rfl,⟨rfl,rfl,trivial⟩⟩
 | true =>
 simp only [if_true] at hi;refine Aa rfl (λh=>?_) (λh=>by simp at h);clear h;obtain ⟨hi1,hi2⟩:=hi;obtain ⟨f,rfl⟩:∃g,f=g+1:=⟨f-1,by omega⟩
 refine bd [] rfl (by simp) ?_;refine Ak (λy:Nat×List Int×Bool=>[(25,.imm (.int .i64 y.1)),(24,.imm (.int .i64 ds.length)),(23,.imm (.sl (ds.map C7))),(2,.imm (.bool y.2.2)),(0,.ref 1 0)])
  (λy=>[(1,some (SX ⟨ds,.mk c1 c2 c3 c4,rows⟩ (.own 2 ds.length))),(2,some (.row 3 1 (Bu y.2.1)))]) [3,4,5,6] (λy=>ds.length-y.1)
  (λy=>y.1<=ds.length/\CR ds (s,false) 0 ds=CR ds y.2 y.1 (ds.drop y.1)/\Ia ds y.2.1/\L6 y.2.1<=L6 s/\(y.2.2=true->L6 y.2.1<L6 s)) (0,s,false)
  ⟨Nat.zero_le _,rfl,hs,Nat.le_refl _,λh=>by cases h⟩ ⟨rfl,As (by simp),rfl,rfl,rfl,trivial⟩ ⟨rfl,rfl,trivial⟩ rfl λy hy jh=>?_
 obtain ⟨i,p⟩:=y;obtain ⟨hy1,hy2,hy3,hy4,hy5⟩:=hy;simp only at hy1 hy2 hy3 hy4 hy5;refine bd [] rfl (by simp) ?_;refine Aa rfl (λh=>?_) (λh=>?_)
 ·simp at h;have hil:=h;obtain ⟨d,hd⟩:=Am h;have hdm:=List.mem_of_getElem? hd;rw [An hd] at hy2;simp only [CR] at hy2;refine bd [] rfl (by simp) ?_;refine bi rfl (c:=C7 d) (λ_=>⟨by simp,by simpa using Bk hd,by simp⟩) (by simp) ?_;obtain ⟨dn,dc⟩:=d;simp only at hy2;have hd5:=(hl2 _ hdm).1;have hd3:=hl3 _ hdm;have hdn:=hnm _ hdm;simp only at hd5 hd3 hdn;refine bg [] rfl (by simp) ?_;refine Ak (λy:Nat×List Int×Bool=>[(33,.imm (.int .i64 y.1)),(32,.imm (.int .i64 dc.length)),(31,.imm (.sl (dc.map Ds))),(3,.imm (.int .i64 i)),(25,.imm (.int .i64 i)),(24,.imm (.int .i64 ds.length)),(23,.imm (.sl (ds.map C7))),(2,.imm (.bool y.2.2)),(0,.ref 1 0)])
   (λy=>[(1,some (SX ⟨ds,.mk c1 c2 c3 c4,rows⟩ (.own 2 ds.length))),(2,some (.row 3 1 (Bu y.2.1)))]) [3,4,5,6] (λy=>dc.length-y.1)
   (λy=>y.1<=dc.length/\J4 ds i p dc=J4 ds i y.2 (dc.drop y.1)/\Ia ds y.2.1/\L6 y.2.1<=L6 s/\(y.2.2=true->L6 y.2.1<L6 s)) (0,p)
   ⟨Nat.zero_le _,rfl,hy3,hy4,hy5⟩ ⟨rfl,As (by simp),rfl,rfl,rfl,rfl,rfl,rfl,rfl,trivial⟩ ⟨rfl,rfl,trivial⟩ rfl λy hk kh=>?_
  obtain ⟨k,q⟩:=y;obtain ⟨hk1,hk2,hk3,hk4,hk5⟩:=hk;simp only at hk1 hk2 hk3 hk4 hk5;refine bd [] rfl (by simp) ?_;refine Aa rfl (λh=>?_) (λh=>?_)
  ·simp at h;obtain ⟨c,hc⟩:=Am h;have hcm:=List.mem_of_getElem? hc;rw [An hc] at hk2;simp only [J4] at hk2;refine bd [] rfl (by simp) ?_;refine bi rfl (c:=Ds c) (λ_=>⟨by simp,by simpa using Bk hc,by simp⟩) (by simp) ?_;obtain ⟨cn,ca⟩:=c;have hca3:=hd3 _ hcm;have hcan:=hdn _ hcm;simp only at hca3 hcan hk2;have hstep:=Pw (p:=q) h4 hil hca3 hk3;have hlen:q.1.length=ds.length:=hk3.len;obtain ⟨qs,qb⟩:=q;simp only at hk3 hk4 hk5 hlen hstep;refine bg [] rfl (by simp) ?_;refine I9 rfl (v:=.int .i64 (AM ds qs 1 ca)) (λ_=>XJ ⟨ds,.mk c1 c2 c3 c4,rows⟩ qs hk3 h4 ca hcan hca3) rfl (by simp) ?_
   have hst:HG ds i (qs,qb) ca=if 0<AM ds qs 1 ca/\(qs.getD i 0=0\/AM ds qs 1 ca<qs.getD i 0) then (qs.set i (AM ds qs 1 ca),true) else (qs,qb):=rfl
   have hzb:=FS hk3 ca 1 (by omega);generalize AM ds qs 1 ca=z at *;refine bg [] rfl (by simp) ?_;refine E9 A4 rfl (λ_=>⟨by simp,by simp;omega⟩) (by simp [Ah]) ?_;refine bg [] rfl (by simp [Ah]) ?_;refine OQ (e:=[.int .i64 (qs.getD i 0)]) A4 rfl (λ_=>by simpa using Lu (s:=qs) (i:=i) (by omega)) rfl (by simp [Ah]) ?_;refine bg [] rfl (by simp [Ah];try exact λa b=>⟨a,b⟩) ?_;refine E9 A4 rfl (λ_=>⟨by simp,by simp;omega⟩) (by simp [Ah]) ?_;refine bg [] rfl (by simp [Ah]) ?_;refine OQ (e:=[.int .i64 (qs.getD i 0)]) A4 rfl (λ_=>by simpa using Lu (s:=qs) (i:=i) (by omega)) rfl (by simp [Ah]) ?_;refine bg [] rfl (by simp [Ah];try exact λa b=>⟨a,b⟩) ?_;by_cases hz:0<z/\(qs.getD i 0=0\/z<qs.getD i 0)
   ·rw [if_pos hz] at hst;rw [hst] at hk2 hstep;have hstep3:=hstep.2.2 rfl;refine Aa rfl (λh=>?_) (λh=>by exfalso;simp at h;grind);refine bd [] rfl (by simp) ?_;refine E9 A4 rfl (λ_=>⟨by simp,by simp;omega⟩) (by simp) ?_;refine bg [] rfl (by simp) ?_;refine Jx A4 (e:=[.int .i64 (qs.getD i 0)]) (e':=[.int .i64 z]) rfl (by simpa using Lu (s:=qs) (i:=i) (by omega)) (by show 0+1<=1;decide) (by simp) (by simp) ?_;refine bg [] rfl (by simp) ?_;refine Ae (kh (k+1,qs.set i z,true) (by simp only;omega) ⟨by simp only;omega,hk2,hstep.1,by have:=hstep.2.1;simp only at this ⊢;omega,λ_=>?_⟩) ⟨As (B9 (by omega) (by omega)),rfl,rfl,rfl,rfl,rfl,rfl,rfl,rfl,trivial⟩ ⟨rfl,by rw [<- cG];rfl,trivial⟩ rfl
    rcases hstep3 with h | h
    ·have:=hk5 h;have:=hstep.2.1;simp only at this ⊢;omega
    ·simp only at h ⊢;omega
   ·rw [if_neg hz] at hst;rw [hst] at hk2;refine Aa rfl (λh=>by exfalso;simp at h;grind) (λh=>?_);refine bd [] rfl (by simp) ?_;exact Ae (kh (k+1,qs,qb) (by simp only;omega) ⟨by simp only;omega,hk2,hk3,hk4,hk5⟩) ⟨As (B9 (by omega) (by omega)),rfl,rfl,rfl,rfl,rfl,rfl,rfl,rfl,trivial⟩ ⟨rfl,rfl,trivial⟩ rfl
  ·simp at h;refine Ar rfl ?_;refine bd [] rfl (by simp) ?_;rw [List.drop_eq_nil_of_le (by omega)] at hk2;simp only [J4] at hk2;rw [hk2] at hy2;exact Ae (jh (i+1,q) (by simp only;omega) ⟨by simp only;omega,hy2,hk3,hk4,hk5⟩) ⟨As (B9 (by omega) (by omega)),rfl,rfl,rfl,rfl,trivial⟩ ⟨rfl,rfl,trivial⟩ rfl
 ·simp at h;refine Ar rfl ?_;refine bd [] rfl (by simp) ?_;rw [List.drop_eq_nil_of_le (by omega)] at hy2;simp only [CR] at hy2;simp only [LH,hy2] at hi1;obtain ⟨ps,pb⟩:=p;cases pb with
  | true =>
   have:=hy5 rfl;exact Ae (ih (f,ps,true) (by simp) ⟨hy3,by simp only [if_true];exact ⟨by simpa using hi1,by simp only at this;omega⟩⟩) ⟨rfl,rfl,trivial⟩ ⟨rfl,rfl,trivial⟩ rfl
  | false =>
   exact Ae (ih (f,ps,false) (by simp) ⟨hy3,by simpa using hi1⟩) ⟨rfl,rfl,trivial⟩ ⟨rfl,rfl,trivial⟩ rfl
end Go.Hk
namespace Go.Hk
mutual
theorem Pg:∀(t:Ty) (l:Int),(Ai t:Int)<=l->0<=Bg t l
 | .mk _ _ _ ps,l,h=>by
  simp only [Ai] at h;simp only [Bg];rw [if_neg (by omega)];exact N0 ps (l-1) (by omega)
theorem N0:∀(ts:List Ty) (l:Int),(Ag ts:Int)<=l->0<=BI ts l
 | [],l,h=>by simpa [BI,Ag] using h
 | t::r,l,h=>by
  simp only [Ag] at h;simp only [BI];rw [if_pos (by omega)];have h1:=Pg t l (by omega);have h2:=DO t l h1;exact N0 r _ (by omega)
end
theorem R4 (t:Ty) (l:Nat):decide (0<=Bg t l)=decide (Ai t<=l):=by
 by_cases h:Ai t<=l
 ·rw [decide_eq_true h,decide_eq_true (Pg t l (by omega))]
 ·rw [decide_eq_false h];refine decide_eq_false λh1=>h ?_;have:=DO t l h1;omega
theorem LQ (t:Ty):BK false t=ET t:=by
 simp only [BK,ET];rw [<- R4 t 12];rfl
theorem aH (t:Ty):Bz t=Ez t:=by
 simp only [Bz,Ez];rw [<- R4 t 12,Bool.and_assoc];rfl
theorem jE (c:Cd):J5 c=Nl c:=by
 simp only [J5,Nl];rw [show BK false=ET from funext LQ]
theorem fJ (d:Dt):EC d=HX d:=by
 simp only [EC,HX,EJ];rw [show J5=Nl from funext jE];simp only [Bool.and_assoc]
end Go.Hk
namespace Go.Hk
open Go.Proofs
def Jr:Ty->Bool
 | .mk s _ _ _=>!(s == 9)
def IH (c:Cse) (p:Ty):Bool:=Bz p&&Co c.datas c.type p
def H6 (c:Cse):Bool:=G0 c.datas&&decide (c.rows.length<=5)&&BK true c.type&&AB c.datas c.type
def Bn (c:Cse):Bool:=H6 c&&(DK Jr c.type&&(c.rows.all (IH c)&&decide (Ag c.rows<=30)))
def aP (c:Cse):Bool->V
 | true=>.tup [AL c (Bu (D7 c.datas)),.int .i64 0]
 | false=>.tup [.nilp,.int .i64 2]
theorem Ja {ds:List Dt} (h:G0 ds=true):Hf ⟨[109],ds,[Hi]⟩=true/\Bi (Cy ds)=true/\Bi (BW ds)=true/\BZ ds ds=true:=by
 simp only [G0,Bool.and_eq_true] at h;exact ⟨h.1.1,h.1.2.1,h.1.2.2,h.2⟩
theorem OkD.of2 {ds:List Dt} (h:G0 ds=true):OkD ds:=by
 obtain ⟨h1,_,_,h4⟩:=Ja h;exact ⟨h4,λd hd=>by have:=((E3 h1).2 d hd).1;omega⟩
set_option maxHeartbeats 2000000 in
theorem ES (c:Cse):Al Tryz.prog 55 [.agg (dCse c)] (aP c (Bn c)):=by
 have hread:=gX c;have hT:=λq=>Pj 104 q;have hCT:=TN c.type;obtain ⟨ds,t,rows⟩:=c;simp only at hread hCT ⊢;have hTy:=Pj 104 Jr (λt=>by have:=TR t;obtain ⟨s,n,x,ps⟩:=t;exact this) t;have hNm:=R2 ⟨ds,t,rows⟩ [] t;have hW:=λh4 hl2 hN=>aS ⟨ds,t,rows⟩ h4 hl2 hN;have hF:=λho hd hn p=>Yx ⟨ds,t,rows⟩ [] ho hd p t hn;have hc2:Bn ⟨ds,t,rows⟩=(H6 ⟨ds,t,rows⟩&&(DK Jr t&&(rows.all (IH ⟨ds,t,rows⟩)&&decide (Ag rows<=30)))):=rfl;have hc1:H6 ⟨ds,t,rows⟩=(G0 ds&&decide (rows.length<=5)&&BK true t&&AB ds t):=rfl;generalize Bn ⟨ds,t,rows⟩=cb at *;generalize H6 ⟨ds,t,rows⟩=cb1 at *;generalize hnb:AB ds t=nb at *;generalize hfb:BK true t=fb at *;generalize DK Jr t=tb at *;obtain ⟨so,n0,x0,ps0⟩:=t
 refine Ad A4 Tryz.func55 (by decide +kernel) rfl [1,2,3,4,5,6,7,8] rfl rfl ?_;refine bg [] rfl (by simp) ?_;cases hr:G0 ds with
 | false =>
  rw [hr] at hread hc1;refine Ac rfl (λ_=>hread) (by simp) ?_;refine bg [] rfl (by simp [Ah]) ?_;refine Ac rfl (λ_=>hCT) (by simp [Ah]) ?_;refine bg [] rfl (by simp [Ah,Jy]) ?_;refine I9 (v:=.bool true) rfl (λh=>by simp [Ah] at h) rfl (by simp [Ah]) ?_;refine bg [] rfl (by simp [Ah]) ?_;refine Aa rfl (λh=>?_) (λh=>by simp at h);refine bd [] rfl (by simp) ?_;rw [hc2,hc1];exact Ab ⟨_,rfl,tV rfl,trivial⟩
 | true =>
 rw [hr] at hread hc1;obtain ⟨hm,hdn,hdc,han⟩:=Ja hr;obtain ⟨hl1,hl2⟩:=E3 hm;have ho:=OkD.of2 hr;have hread:Bc Tryz.prog 100 [.imm (.agg (dCse ⟨ds,.mk so n0 x0 ps0,rows⟩))] [] (.ret (.tup [.ref 6 0,.imm (.bool true)]) [(6,some (Pd ⟨ds,.mk so n0 x0 ps0,rows⟩))]):=hread;refine Az (fr:=[2]) [] [(6,2)] rfl (by simp) hread trivial rfl rfl rfl rfl ?_;refine bg [] rfl (by simp [Ah]) ?_;refine Ac rfl (λ_=>hCT) (by simp [Ah]) ?_;refine bg [] rfl (by simp [Ah,Jy]) ?_;refine I9 rfl (λ_=>hNm) rfl (by simp [Ah]) ?_;refine bg [] rfl (by simp [Ah]) ?_;by_cases h1:cb1=true
 case neg =>
  refine Aa rfl (λh=>?_) (λh=>?_)
  ·refine bd [] rfl (by simp) ?_;rw [hc2,show cb1=false by simpa using h1];exact Ab ⟨_,rfl,tV rfl,trivial⟩
  ·exfalso;apply h1;rw [hc1];simp [Jy] at h ⊢;cases fb <;> grind
 have hc1':decide (rows.length<=5)=true/\fb=true/\nb=true:=by rw [h1] at hc1;simp at hc1 ⊢;grind
 obtain ⟨hr5,rfl,rfl⟩:=hc1';have hr5:rows.length<=5:=of_decide_eq_true hr5;rw [h1,Bool.true_and] at hc2;refine Aa rfl (λh=>by exfalso;simp [Jy] at h;omega) (λh=>?_);clear h;refine bd [] rfl (by simp) ?_;refine Ac rfl (λ_=>hTy) (by simp) ?_;refine bg [] rfl (by simp) ?_;cases tb with
 | false =>
  refine Aa rfl (λh=>?_) (λh=>by simp at h);refine bd [] rfl (by simp) ?_;rw [hc2];exact Ab ⟨_,rfl,tV rfl,trivial⟩
 | true =>
 refine Aa rfl (λh=>by simp at h) (λh=>?_);clear h;rw [Bool.true_and] at hc2;have hF:=λp=>hF ho hdc rfl p;generalize hR:IH ⟨ds,.mk so n0 x0 ps0,rows⟩=R at *;have hR:∀p,R p=(Bz p&&Co ds (.mk so n0 x0 ps0) p):=λp=>by rw [<- hR];rfl
 refine bd [] rfl (by simp) ?_;refine Ak (λi:Nat=>[(42,.imm (.int .i64 i)),(41,.imm (.int .i64 rows.length)),(40,.imm (.sl (Bq rows))),(6,.imm (.int .i64 ((Ag (rows.take i):Nat):Int))),(1,.ref 1 0),(4,.ref 2 0)])
  (λ_=>[(1,some (.immb 29 6 (dCse ⟨ds,.mk so n0 x0 ps0,rows⟩))),(2,some (Pd ⟨ds,.mk so n0 x0 ps0,rows⟩))]) [3,4,5,6] (λi=>rows.length-i)
  (λi=>i<=rows.length/\rows.all R=(rows.drop i).all R/\Ag (rows.take i)<=12*i) 0 ⟨Nat.zero_le _,rfl,by simp [Ag]⟩ ⟨rfl,As (by simp),rfl,rfl,rfl,rfl,trivial⟩ ⟨rfl,rfl,trivial⟩ rfl λi hi ih=>?_
 obtain ⟨hi1,hi2,hi3⟩:=hi;refine bd [] rfl (by simp) ?_;refine Aa rfl (λh=>?_) (λh=>?_)
 ·simp at h;obtain ⟨p,hp⟩:=Am h;rw [DS hp,hR] at hi2;have hFp:=hF p;have en:Ag (rows.take (i+1))=Ag (rows.take i)+Ai p:=by rw [Bb hp,Bj];simp [Ag]
  have hpn:Bz p=true->Ai p<=12:=λh=>by simp only [Bz,Bool.and_eq_true,decide_eq_true_eq] at h;exact h.1
  have hCP:=JB p;have hND:=Sf p;refine bd [] rfl (by simp) ?_;refine bi rfl (c:=dTyc p) (λ_=>⟨by simp,by simpa using At hp,by simp⟩) (by simp) ?_;generalize Bz p=b1 at *;generalize Co ds (.mk so n0 x0 ps0) p=b2 at *;obtain ⟨q1,q2,q3,q4⟩:=p;refine bg [] rfl (by simp) ?_;refine Ac rfl (λ_=>hCP) (by simp) ?_;refine bg [] rfl (by simp [Jy]) ?_;refine I9 rfl (λ_=>hFp) rfl (by simp [Ah]) ?_;refine bg [] rfl (by simp [Ah]) ?_;by_cases hb:(b1&&b2)=true
  case neg =>
   refine Aa rfl (λh=>?_) (λh=>?_)
   ·refine bd [] rfl (by simp) ?_;rw [hc2,hi2,show (b1&&b2)=false by simpa using hb];exact Ab ⟨_,rfl,tV rfl,trivial⟩
   ·exfalso;apply hb;simp [Jy] at h ⊢;cases b1 <;> simp_all
  rw [hb,Bool.true_and] at hi2;have hb1:b1=true:=by cases b1;simp at hb;rfl
  have hb2:b2=true:=by cases b2;simp at hb;rfl
  have hp12:=hpn hb1;refine Aa rfl (λh=>by exfalso;simp [Jy,hb1,hb2] at h) (λh=>?_);clear h;refine bd [] rfl (by simp) ?_;refine Ac rfl (λ_=>hND (by omega)) (by simp) ?_;refine bg [] rfl (by simp) ?_;exact Ae (ih (i+1) (by omega) ⟨by omega,hi2,by omega⟩) ⟨As (B9 (by omega) (by omega)),rfl,rfl,As (by rw [en,B9 (by omega) (by omega)];omega),rfl,rfl,trivial⟩ ⟨rfl,rfl,trivial⟩ rfl
 ·simp at h;refine Ar rfl ?_;refine bd [] rfl (by simp) ?_;rw [List.take_of_length_le h];rw [hi2,List.drop_eq_nil_of_le h,List.all_nil,Bool.true_and] at hc2;by_cases h30:Ag rows<=30
  case neg =>
   refine Aa rfl (λh=>?_) (λh=>by exfalso;simp at h;omega);refine bd [] rfl (by simp) ?_;rw [hc2,show decide (Ag rows<=30)=false by simpa using h30];exact Ab ⟨_,rfl,tV rfl,trivial⟩
  rw [hc2,show decide (Ag rows<=30)=true by simpa using h30];refine Aa rfl (λh=>by exfalso;simp at h;omega) (λh=>?_);clear h;refine bd [] rfl (by simp) ?_;refine Az (fr:=[3]) [(2,1)] [(2,3)] rfl (by simp) (hW hl1 hl2 han) ⟨⟨rfl,rfl,rfl⟩,trivial⟩ rfl rfl rfl rfl ?_;refine bg [] rfl (by simp) ?_;refine BM 3 rfl ?_;refine Oo 2 (id:=2) (off:=0) (ty:=181) (sz:=9) (xs:=aQ ⟨ds,.mk so n0 x0 ps0,rows⟩ (Bu (D7 ds))) rfl rfl ?_;exact Ab ⟨_,rfl,tV rfl,trivial⟩
end Go.Hk
namespace Go.Hk
def JC (P:Program) (n:Nat) (c:Code) (env:Env) (st:St) (ids:List Nat) (env':Env) (st':St) (ids':List Nat):Prop :=
 ∀(b:Frame) (cs:List Frame) (Q:Exit->Act->World->Prop) (I:Imm) (μ:Mu) (a:Act) (w:World) (tail:List Item),Conc n I μ env st ids a w ->
  (∀I' μ' a' w',Conc n I' μ' env' st' ids' a' w'->μ.le μ'->Ext I μ st w I' μ' st' w'->Reach P b cs Q tail a' w')->Reach P b cs Q (.code c::tail) a w
def Nv (P:Program) (n:Nat) (all rest:List Oper) (env:Env) (st:St) (ids:List Nat) (env':Env) (st':St) (ids':List Nat):Prop :=
 ∀(b:Frame) (cs:List Frame) (Q:Exit->Act->World->Prop) (I:Imm) (μ:Mu) (a:Act) (w:World) (tail:List Item) (j:Nat),rest=all.drop j->Conc n I μ env st ids a w ->
  (∀I' μ' a' w',Conc n I' μ' env' st' ids' a' w'->μ.le μ'->Ext I μ st w I' μ' st' w'->Reach P b cs Q tail a' w')->Reach P b cs Q (.inRegion all.toArray (List.range' j rest.length)::tail) a w
section
variable {P:Program} {n:Nat} {tt:TT} {env env' env2 E:Env} {st st' st2 stx:St} {ids ids' ids2:List Nat} {c c':Code} {all rest:List Oper} {o:Oper} {ob:List Prop} {I:Imm} {μ:Mu} {w:World} {d:D}
theorem Y9 (h:JC P n c env st ids env' st' ids') (h':JC P n c' env' st' ids' env2 st2 ids2):JC P n (.seq c c') env st ids env2 st2 ids2:=λb cs Q I μ a w tail hc k =>
 RU (h b cs Q I μ a w _ hc λI' μ' a' w' hc' hm he=>h' b cs Q I' μ' a' w' _ hc' λI2 μ2 a2 w2 hc2 hm2 he2=>k I2 μ2 a2 w2 hc2 (λi v hv=>hm2 i v (hm i v hv)) (he.trans he2))
theorem Mu.le_trans' {a b c:Mu} (h:a.le b) (k:b.le c):a.le c:=λi v hv=>k i v (h i v hv)
theorem X7 {rid:Nat} (h:Nv P n all all env st ids env' st' ids'):JC P n (.region rid ⟨all⟩ false) env st ids env' st' ids':=λb cs Q I μ a w tail hc k=>by
 refine Lw ?_;have:=h b cs Q I μ a w tail 0 rfl hc k;simpa [List.range_eq_range'] using this
theorem hZ:Nv P n all [] env st ids env st ids:=λb cs Q I μ a w tail j hj hc k=>FI (k I μ a w hc (Mu.le_refl μ) (Ext.refl _ _ _ _))
theorem lI {rd fr:List Nat} {wr:St} (hl:LD P (λ_=>False) all o env st rd fr wr d) (hg:o.guard=none) (hnd:∀c,o.op ≠ .defer c) (hn:∀t,o.dst=some t->t<n)
  (h:Nv P n all rest (B1 o.dst d env) (wr++st) ids' env' st' ids2):Nv P n all (o::rest) env st (fr++ids') env' st' ids2:=by
 intro b cs Q I μ a w tail j hr hc k;obtain ⟨hj,hr'⟩:=D3 hr;have hon:JA (o.looksAt all.toArray) I μ env a:=λt _ d hl=>hc.env t d hl;have hlen:(o::rest).length=rest.length+1:=rfl;rw [hlen,List.range'_succ];have hw:Region.wanted o (yielded all.toArray a.tmps)=true:=A3 hg;obtain ⟨h1,_⟩:=hl I μ st ids' a w (λ_ _=>rfl) hc.toStRep hon;refine F7 hj hw hnd (valX.upon ((h1 hw).mono ?_ ?_))
 ·rintro v w2 ⟨I',μ',q1,q2,q4,q3⟩;obtain ⟨p1,p2,p3⟩:=Ha (n:=n) (w:=w2) (dst:=o.dst) (λt d hl=>(hc.env t d hl).mono q3.imm q4) hc.size hn q2;exact h b cs Q I' μ' (a.put o.dst v) w2 tail (j+1) hr'
   {q1 with size:=p2,env:=by cases hdst:o.dst <;> simpa [B1,hdst] using p1,defers:=by rw [p3];exact hc.defers.ext q3 }
   λI2 μ2 a2 w3 hc2 hm2 he2=>k I2 μ2 a2 w3 hc2 (Mu.le_trans' q4 hm2) (q3.trans he2)
 ·rintro chain w2 ⟨v,x,I2,q1,q2,q3,q4,q5⟩;exact q2.elim
theorem kK (htt:TTok P tt) {i:Nat} {x:Option Blk} {st1:St} {env1:Env} {ids1:List Nat} (h:Ew tt n all o env st ids = .e env1 ((i,x)::st1) ids1 ob) (hob:AA ob) (hg:o.guard=none) (hr:Nv P n all rest env1 ((i,x)::st) ids1 env' st' ids2) :
  Nv P n all (o::rest) env st ids env' st' ids2:=by
 obtain ⟨d,fr,e1,e2,e3,e4,e5,_,e7⟩:=Sr (P:=P) (Pn:=λ_=>False) htt h hob;subst e2;rw [e3] at hr;exact lI (wr:=[(i,x)]) e7 hg e5 e4 hr
theorem Pa (htt:TTok P tt) {rid:Nat} {o1 o2:Oper} {i:Nat} {x y:Option Blk} {st1 st2':St} {env1 env2:Env} {ids1 ids2:List Nat} {ob1 ob2:List Prop} (h1:Ew tt n [o1,o2] o1 env st ids = .e env1 ((i,x)::st1) ids1 ob1) (g1:o1.guard=none)
  (h2:Ew tt n [o1,o2] o2 env1 ((i,x)::st) ids1 = .e env2 ((i,y)::st2') ids2 ob2) (g2:o2.guard=none) (hob1:AA ob1) (hob2:AA ob2):JC P n (.region rid ⟨[o1,o2]⟩ false) env st ids env2 ((i,y)::(i,x)::st) ids2 :=
 X7 (kK htt h1 hob1 g1 (kK htt h2 hob2 g2 hZ))
theorem Q4 {L:Kz} {p q:Nat} {fc:Func} {d d2:D} {stB:St} {pend:Option Code} (hf:P.funcs[L.fn]?=some fc) (hps:L.ps = #[p,q]) (hsz:L.tmps.size=n)
  (hd:It d=[]) (hd2:It d2=[]) (hp:p<n) (hq:q<n) (hfree:Qy ids L.E stx L.F) (hasg:JC P n L.asg ((q,d2)::(p,d)::L.E) stx ids env st ids')
  (h:DGo P n (cI::(L.F++UL L.E)) (nX pend stB) [.code L.body] env st ids'):OC P [d,d2] (C9 L stx none) pend.isNone (C9 L stB pend):=by
 intro I μ w b xs hμ hst hx;have hl0:Ap (TP 1 (C9 L stx none)) 0 .pin:=Aw.2 (.inl ⟨rfl,rfl⟩);have hl1:Ap (TP 1 (C9 L stx none)) 1 (.bun 0 (C9 L stx none)):=Aw.2 (.inr ⟨by simp,Aw.2 (.inl ⟨rfl,rfl⟩)⟩);obtain ⟨g1,hg1,b',bs,hb1,rfl,hP⟩:=hst.blk 1 _ hl1;rw [hμ] at hb1;cases hb1;have hbs:∀k∈bs,I k=none/\k<w.heap.size:=λk hk=>hst.apart 1 _ _ k hl1 hg1 (CV.2 hk);have hP0:=hP;obtain ⟨r,ν,bs0,e1,hr1,⟨hr2,hr3⟩,⟨hr4,hr5,hr6,hr7,hr8⟩,hE1,hS,hown,hnb,hF⟩:=VS hP hfree hst.imm hbs;subst e1;obtain ⟨x,x2,rfl⟩:∃x x2,xs = #[x,x2]:=by
  obtain ⟨l⟩:=xs;have:=hx.1
  match l,this with
  | [x,x2],_=>exact ⟨x,x2,rfl⟩
 have hxd1:RepD I ν x d:=(hx.2 0 x d rfl rfl).sub λj hj=>by rw [hd] at hj;cases hj
 have hxd2:RepD I ν x2 d2:=(hx.2 1 x2 d2 rfl rfl).sub λj hj=>by rw [hd2] at hj;cases hj
 have hszp:(#[x,x2]:Array Value).size=r.params.size:=by rw [hr5,hps];rfl
 unfold nV;rw [run_yield hr1 hszp];refine MB (fc:=fc) (by rw [hr4];exact hf) λfb cs hbf hbr=>?_;rw [hr5,hps,hr6,hr7,hr8];have hfold:((#[p,q]:Array Nat).zip #[x,x2]).foldl (λtmps (t,a)=>tmps.setIfInBounds t a) L.tmps=(L.tmps.setIfInBounds p x).setIfInBounds q x2:=by simp
 rw [hfold];obtain ⟨hIb,hblt⟩:=hbs b (by simp);have hnob0:¬Br ν stx b:=λh=>hnb ((hown b).2 h);have hput:∀(w:World) (o:Obj),(w.putObj b o).heap=w.heap.setIfInBounds b o:=λw o=>by
  unfold World.putObj;by_cases hi:b<w.heap.size <;> simp [hi]
 have hoth:∀(w:World) (o:Obj) k,k≠b->(w.putObj b o).heap[k]?=w.heap[k]?:=λw o k hk=>by rw [hput,Array.getElem?_setIfInBounds_ne (Ne.symm hk)]
 obtain ⟨c1,c2,c3⟩:=Ha (n:=n) (w:=w) (a:={ tmps:=L.tmps,defers:=[] }) (dst:=some p) hE1 hsz (λt ht=>by cases ht;exact hp) hxd1;obtain ⟨f1,f2,f3⟩:=Ha (n:=n) (w:=w) (dst:=some q) c1 c2 (λt ht=>by cases ht;exact hq) hxd2;have hc0:Conc n I ν ((q,d2)::(p,d)::L.E) stx ids ((Act.put { tmps:=L.tmps,defers:=[] } (some p) x).put (some q) x2) w:={ hS with size:=f2,env:=f1,defers:=by rw [f3,c3];exact MarksOk.nil _ _ _ _ }
 refine hasg fb cs _ I ν _ w _ hc0 λIA νA aA wA hcA hmA heA=>?_;have hnob:¬Br νA st b:=λh=>hnob0 (heA.fresh b hblt h);have hrA1:wA.heap[b]?=some (.loop r):=by rw [heA.block b hblt hnob0];exact hr1
 have hIbA:IA b=none:=by rw [heA.old b hblt hnob0];exact hIb
 have hbltA:b<wA.heap.size:=(Array.getElem?_eq_some_iff.1 hrA1).1;obtain ⟨w1,hw1⟩:∃w1:World,w1=wA.putObj b (.loop { r with state:=.busy }):=⟨_,rfl⟩
 have hbeg:=run_beginRound (P:=P) hrA1 hr2;refine Reach.step (stepR_beginRound hbr hbeg) ?_;rw [<- hw1];have hmarks:MarksOk IA νA st w1 aA.defers:=by
  obtain ⟨rs,m1,m2,m3⟩:=hcA.defers;refine ⟨rs,m1,m2,λk hk=>⟨?_,(m3 k hk).2⟩⟩;have h0:=(m3 k hk).1;rw [hw1,hoth _ _ k (λe=>by rw [e,hrA1] at h0;cases h0)];exact h0
 have hc:Conc n IA νA env st ids' aA w1 :=
  {hcA.toStRep.other (by rw [hw1,hput];simp) (λk o hk=>by rw [hw1];exact hoth _ _ k (λe=>by rw [e,hIbA] at hk;cases hk)) (λk hk=>by rw [hw1];exact hoth _ _ k (λe=>hnob (e ▸ hk))) with
   size:=hcA.size
   env:=hcA.env
   defers:=hmarks }
 have hgo:=h ⟨fb,.inl (by simp)⟩ cs IA νA _ w1 [.code L.body] ⟨rfl,trivial⟩ hc;refine Reach.mono (λe a' w' hpost=>?_) hgo;obtain ⟨x',env',st',ids2,I',μ',p1,p2,p3,p4,p5,p6⟩:=hpost;have hb1:w1.heap[b]?=some (.loop { r with state:=.busy }):=by rw [hw1,hput];simp [hbltA]
 have hsz1:w1.heap.size=wA.heap.size:=by rw [hw1,hput];simp
 have hszA:w.heap.size<=wA.heap.size:=heA.size;have hno2:∀k,k<w.heap.size->¬Br ν stx k->¬Br νA st k:=λk hk ho hq=>ho (heA.fresh k hk hq);have hfr2:∀k,k<w.heap.size->Br μ' st' k->Br ν stx k:=λk hk ho=>heA.fresh k hk (p5.fresh k (by omega) ho);have hold2:∀k,k<w.heap.size->¬Br ν stx k->I' k=I k:=λk hk ho=>(p5.old k (by omega) (hno2 k hk ho)).trans (heA.old k hk ho);have himm2:I.le I':=Imm.le_trans heA.imm p5.imm;have hb':w'.heap[b]?=some (.loop { r with state:=.busy }):=by rw [p5.block b (by omega) hnob];exact hb1
 have hno':¬Br μ' st' b:=λho=>hnob (p5.fresh b (by omega) ho);have hI':I' b=none:=by rw [p5.old b (by omega) hnob];exact hIbA
 have hblt':b<w'.heap.size:=(Array.getElem?_eq_some_iff.1 hb').1;have fin:Gt st' stB->∃v w'',(Instr.endRound b pend).run P w' = .ok v w''/\(∃I2 μ2,RepD I2 μ2 v (.imm (.bool pend.isNone))/\StRep I2 μ2 (TP 2 (C9 L stB pend)) [] w'' /\
   Pin (DN (TP 1 (C9 L stx none))) μ μ2/\Ext I μ (TP 1 (C9 L stx none)) w I2 μ2 (TP 2 (C9 L stB pend)) w''):=by
  intro hsub;have hSB:StRep I' μ' stB [] w':=p3.toStRep.less (Ea hsub) .nil (λ_ h=>by simp at h);have hownB':∀k,Br μ' stB k->Br μ' st' k:=λk ⟨i,bi,g,q1,q2⟩=>⟨i,bi,g,Ea hsub i bi q1,q2⟩
  have hnoB:¬Br μ' stB b:=λh=>hno' (hownB' b h);obtain ⟨w2,hw2⟩:∃w2:World,w2=w'.putObj b (.loop { r with state:=if pend.isNone then .ready else .done,pending:=pend }):=⟨_,rfl⟩
  have hend:(Instr.endRound b pend).run P w' = .ok (.bool pend.isNone) w2:=by
   have:=run_endRound (P:=P) pend hb';rw [hw2];exact this
  have hw2s:w2.heap.size=w'.heap.size:=by rw [hw2,hput];simp
  have hw2o:∀k,k≠b->w2.heap[k]?=w'.heap[k]?:=λk hk=>by rw [hw2];exact hoth _ _ k hk
  have hSB2:StRep I' μ' stB [] w2:=hSB.other (by omega) (λk o hk=>hw2o k (λe=>by rw [e,hI'] at hk;cases hk)) (λk hk=>hw2o k (λe=>hnoB (e ▸ hk)));obtain ⟨bsN,hbsN⟩:=PI μ' stB;have hPN:(C9 L stB pend).P I' w2 b (b::bsN):=by
   refine ⟨{ r with state:=if pend.isNone then .ready else .done,pending:=pend },μ',bsN,rfl,by rw [hw2,hput];simp [hblt'],⟨by cases pend <;> rfl,rfl⟩,⟨hr4,hr5,hr6,hr7,hr8⟩,λt d hl=>?_,hSB2.blk,hSB2.inj,hbsN,λhm=>hnoB ((hbsN b).1 hm),λi hi=>?_⟩
   ·exact ((hE1 t d hl).mono himm2 (Mu.le_refl ν)).sub λj hj g hg=>p4 j (by simp [WC hl j hj]) g (hmA j g hg)
   ·exact λg hg0=>p4 i (by simp [hi]) g (hmA i g (hF i hi g hg0))
  obtain ⟨μ2,hμ2⟩:∃μ2:Mu,μ2=λi=>if i=2 then some (.agg (Tr (b::bsN))) else μ i:=⟨_,rfl⟩
  have hm0:μ2 0=some (.func (.yield b) #[] #[]):=by rw [hμ2];simpa using hμ
  have hm2:μ2 2=some (.agg (Tr (b::bsN))):=by rw [hμ2];simp
  have hold:∀k,k∈b::bsN->k<w.heap.size->k∈b::bs0:=λk hk hlt=>by
   rcases List.mem_cons.1 hk with rfl | hk
   ·simp
   ·exact List.mem_cons_of_mem _ ((hown k).2 (hfr2 k hlt (hownB' k ((hbsN k).1 hk))))
  have hnew:∀k∈b::bsN,I' k=none/\k<w2.heap.size:=λk hk=>by
   rcases List.mem_cons.1 hk with rfl | hk
   ·exact ⟨hI',by omega⟩
   ·obtain ⟨i,bi,g,q1,q2,q3⟩:=(hbsN k).1 hk;exact hSB2.apart i bi g k q1 q2 q3
  have hownO:∀k,Br μ (TP 1 (C9 L stx none)) k↔k∈b::bs0:=λk=>by
   constructor
   ·rintro ⟨i,bi,g,q1,q2,q3⟩;rcases IO (by simp) q1 with ⟨rfl,rfl⟩ | ⟨rfl,rfl⟩
    ·rw [hμ] at q2;cases q2;exact q3.elim
    ·rw [hg1] at q2;cases q2;exact CV.1 q3
   ·intro hk;exact ⟨1,_,_,hl1,hg1,CV.2 hk⟩
  have hownN:∀k,Br μ2 (TP 2 (C9 L stB pend)) k->k∈b::bsN:=λk=>by
   rintro ⟨i,bi,g,q1,q2,q3⟩;rcases IO (by simp) q1 with ⟨rfl,rfl⟩ | ⟨rfl,rfl⟩
   ·rw [hm0] at q2;cases q2;exact q3.elim
   ·rw [hm2] at q2;cases q2;exact CV.1 q3
  refine ⟨_,w2,hend,I',μ2,.imm _ _ (.bool _),?_,?_,?_⟩
  ·refine { imm:=hSB2.imm,blk:=λi bi hl=>?_,apart:=λi bi g k hl hgi hk=>hnew k (hownN k ⟨i,bi,g,hl,hgi,hk⟩),inj:=λi j bi bj gi gj k hi hj hgi hgj hki hkj=>?_,nodup:=.nil,idsFree:=λ_ h=>by simp at h }
   ·rcases IO (by simp) hl with ⟨rfl,rfl⟩ | ⟨rfl,rfl⟩
    ·exact ⟨_,hm0,b,rfl⟩
    ·exact ⟨_,hm2,b,_,hm0,rfl,hPN⟩
   ·rcases IO (by simp) hi with ⟨rfl,rfl⟩ | ⟨rfl,rfl⟩ <;> rcases IO (by simp) hj with ⟨rfl,rfl⟩ | ⟨rfl,rfl⟩
    ·rfl
    ·rw [hm0] at hgi;cases hgi;exact hki.elim
    ·rw [hm0] at hgj;cases hgj;exact hkj.elim
    ·rfl
  ·intro i hi g hg;simp only [TP,DN,List.map_cons,List.map_nil,List.mem_cons,List.not_mem_nil,or_false] at hi;have:i≠2:=by omega
   rw [hμ2];simp only [if_neg this];exact hg
  ·refine { imm:=himm2,os:=?_,tape:=?_,output:=?_,size:=?_,block:=λk hk hno=>?_,fresh:=λk hk ho=>(hownO k).2 (hold k (hownN k ho) hk),old:=λk hk hno=>hold2 k hk (λh=>hno ((hownO k).2 (List.mem_cons_of_mem _ ((hown k).2 h)))) }
   ·have:=p5.os;rw [hw1] at this;rw [hw2,<- heA.os];unfold World.putObj at this ⊢;exact this
   ·have:=p5.tape;rw [hw1] at this;rw [hw2,<- heA.tape];unfold World.putObj at this ⊢;exact this
   ·have:=p5.output;rw [hw1] at this;rw [hw2,<- heA.output];unfold World.putObj at this ⊢;exact this
   ·have:=p5.size;omega
   ·have hkb:k≠b:=λe=>hno ((hownO k).2 (by simp [e]));have hno3:¬Br ν stx k:=λh=>hno ((hownO k).2 (List.mem_cons_of_mem _ ((hown k).2 h)));rw [hw2o k hkb,p5.block k (by omega) (hno2 k hk hno3),hw1,hoth _ _ k hkb,heA.block k hk hno3]
 cases e with
 | normal =>
  cases x' <;> simp only [Ns] at p1;cases pend with
  | none=>exact fin p2
  | some c=>exact p2.elim
 | ret =>
  cases x' <;> simp only [Ns] at p1;cases pend with
  | none=>exact p2.elim
  | some c=>cases c <;> first | exact p2.elim | exact fin p2
 | exit j =>
  cases x' <;> simp only [Ns] at p1;cases pend with
  | none=>exact p2.elim
  | some c =>
   cases c <;> first | exact p2.elim | skip
   obtain ⟨q1,q2⟩:=p2;subst q1;subst p1;exact fin q2
 | goto l =>
  cases x' <;> simp only [Ns] at p1;cases pend <;> exact p2.elim
 | panic chain =>
  cases x' <;> simp only [Ns] at p1;cases pend <;> exact p2.elim
 | outgrown=>cases x' <;> simp only [Ns] at p1
theorem Fm {id:Nat}:∀{ds:List DI} {is:List Item},EQ id ds=none->SV ds is->exitTo id is=none
 | [],is,_,hd=>by
  cases is with
  | nil=>rfl
  | cons=>exact hd.elim
 | d::ds,is,h,hd=>by
  obtain ⟨i,is,rfl,h1,h2⟩:=FF hd;cases d with
  | inBlock id1 =>
   cases i with
   | inBlock id2 =>
    have h1:id2=id1:=h1;subst h1;simp only [EQ] at h
    split at h
    ·cases h
    ·rename_i hb;have hne:id2≠id:=λe=>by subst e;simp at hb
     simp [exitTo,hne,Fm h h2]
   | _=>exact h1.elim
  | code c =>
   simp only [EQ] at h;cases i <;> simp only [J2] at h1;simp [exitTo,Fm h h2]
  | inLoop c =>
   simp only [EQ] at h;cases i <;> simp only [J2] at h1;simp [exitTo,Fm h h2]
  | inScope c =>
   simp only [EQ] at h;cases i <;> simp only [J2] at h1;simp [exitTo,Fm h h2]
  | ops all rest =>
   simp only [EQ] at h;cases i <;> simp only [J2] at h1;simp [exitTo,Fm h h2]
  | dops all rest fs=>cases i <;> simp only [J2] at h1
theorem V8 {F:List Nat} {Q:DQ} {id:Nat} {k:List DI} (he:EQ id k=none) (h:Q (.exit id) env st ids):DGo P n F Q (.code (.exit id)::k) env st ids:=by
 intro b cs I μ a w items hd hc;obtain ⟨is,rfl,hk⟩:=GH hd;exact Rl (Fm he hk) ⟨.exit id,env,st,ids,I,μ,rfl,h,hc,.refl _ _,.refl _ _ _ _,.refl _ _⟩
end
end Go.Hk
namespace Go.Hk
open Go.Proofs
def LR (v:Ty):Bool:=decide (0<=Bw v 20000 100)&&Mk v
def D6 (c:Cse) (v:Ty):Bool:=Bn c&&LR v&&II c.datas c.type v
theorem CY {c:Cse} (h:Bn c=true):OkD c.datas/\Bi (BW c.datas)=true/\AB c.datas c.type=true/\c.rows.length<=5/\∀p∈c.rows,Bz p=true/\Co c.datas c.type p=true:=by
 simp only [Bn,H6,Bool.and_eq_true,List.all_eq_true,IH,decide_eq_true_eq] at h;obtain ⟨⟨⟨⟨h1,h2⟩,h3⟩,h4⟩,h5,h6,h7⟩:=h;exact ⟨OkD.of2 h1,(Ja h1).2.2.1,h4,h2,h6⟩
theorem VX (c:Cse) (v:Ty):Al Tryz.prog 72 [.agg (dCse c),.agg (dTyc v)] (aP c (D6 c v)):=by
 have hW:=ES c;have hF:=Xn v;have hI:=λh=>kN c (Bu (D7 c.datas)) (CY (c:=c) h).1 (CY h).2.1 v c.type (CY h).2.2.1;obtain ⟨ds,⟨c1,c2,c3,c4⟩,rows⟩:=c;obtain ⟨g,m,z,vs⟩:=v;have hF:Al Tryz.prog 88 [.agg (dTyc (.mk g m z vs))] (.bool (LR (.mk g m z vs))):=hF;simp only [D6] at hI ⊢;generalize hb:Bn ⟨ds,.mk c1 c2 c3 c4,rows⟩=b at *;generalize LR (.mk g m z vs)=b2 at *;generalize II ds (.mk c1 c2 c3 c4) (.mk g m z vs)=b3 at *;refine Ad A4 Tryz.func72 (by decide +kernel) rfl [3,4,5] rfl rfl ?_;refine bg [] rfl (by simp) ?_;cases b with
 | false =>
  refine Ac rfl (λ_=>hW) (by simp) ?_;refine bg [] rfl (by simp) ?_;refine Ac rfl (λ_=>hF) (by simp [Ah]) ?_;refine bg [] rfl (by simp [Ah]) ?_;refine Ac (v:=.bool true) rfl (λh=>by simp [Ah] at h) (by simp [Ah]) ?_;refine bg [] rfl (by simp [Ah]) ?_;refine Aa rfl (λh=>?_) (λh=>by simp at h);refine bd [] rfl (by simp) ?_;exact Ab ⟨_,rfl,tV rfl,trivial⟩
 | true =>
  refine Ac rfl (λ_=>hW) (by simp) ?_;refine bg [] rfl (by simp) ?_;refine Ac rfl (λ_=>hF) (by simp [Ah]) ?_;refine bg [] rfl (by simp [Ah]) ?_;refine Ac rfl (λ_=>hI rfl) (by simp [Ah]) ?_;refine bg [] rfl (by simp [Ah]) ?_;by_cases hh:(b2&&b3)=true
  case neg =>
   refine Aa rfl (λh=>?_) (λh=>by exfalso;apply hh;simp at h ⊢;grind);refine bd [] rfl (by simp) ?_;rw [show (true&&b2&&b3)=false by simpa using hh];exact Ab ⟨_,rfl,tV rfl,trivial⟩
  refine Aa rfl (λh=>by exfalso;simp at h hh;grind) (λh=>?_);refine bd [] rfl (by simp) ?_;rw [show (true&&b2&&b3)=true by simpa using hh];exact Ab ⟨_,rfl,tV rfl,trivial⟩
def ttN:TT:=mK++[]
theorem kZ:TTok Tryz.prog ttN:=.of_eq (l:=[4,3,9,186,26,62,183,27,5,24,23,193,184,60,188,192,90,22,190,87,85,36,281,227,1,230,291,262,255,257,259,114,278,263]) (by kernel_rfl)
section
variable {n:Nat} {F:List Nat} {Q:DQ} {env env':Env} {st st':St} {ids ids':List Nat} {k todo:List DI} {ob:List Prop}
theorem ni {es:List (List V)} {m:Int} {sz:Nat} {e:TypeId} {g:Option (Bool×Bool)} {ob:List Prop} {t:Nat} {todo':List DI} {c:List V} (h:O4 ttN n env todo=some ⟨es,m,sz,e,g,ob,some t,todo'⟩)
  (hc:Ah g->0<=m/\es[m.toNat]?=some c/\c.length=sz) (hob:AA ob) (hk:G Tryz.prog n F Q todo' ((t,gD g (.ip e c 0))::env) st ids):G Tryz.prog n F Q todo env st ids:=Fy kZ h hc hob hk
end
def jR:Ty->Str
 | .mk _ _ x _=>x
def cM:Code->Option (Code×Code)
 | .rangeFunc _ _ a b=>some (a,b)
 | .seq x y=>match cM x with
  | some r=>some r
  | none=>cM y
 | .block _ c=>cM c
 | _=>none
def jV (f:Func):Code:=match cM (F4 f 0) with
 | some (a,_)=>a
 | none=>.skip
def cK (f:Func):Code:=match cM (F4 f 0) with
 | some (_,b)=>b
 | none=>.skip
end Go.Hk
namespace Go.Hk
open Go.Proofs
theorem LL:XK Tryz.prog 150=true:=by kernel_rfl
mutual
def Dn:Ty->Ty->List (Ty×Ty)
 | .mk f n x ps,v=>(.mk f n x ps,v)::(bif decide (f=6)&&A5 (AN (.mk f n x ps)) v then DM ps (Bm v) else [])
def DM:List Ty->List Ty->List (Ty×Ty)
 | [],_=>[]
 | _::_,[]=>[]
 | p::r,q::s=>Dn p q++DM r s
end
inductive Yields2 (P:Program):List (Ty×Ty)->Bun->Bool->Bun->Prop where
 | nil (S:Bun):Yields2 P [] S true S
 | cons {d:Ty×Ty} {l:List (Ty×Ty)} {S S1 S2:Bun} {r:Bool} (h:OC P [.imm (.agg (dTyc d.1)),.imm (.agg (dTyc d.2))] S true S1) (h1:Yields2 P l S1 r S2):Yields2 P (d::l) S r S2
 | stop {d:Ty×Ty} {l:List (Ty×Ty)} {S S1:Bun} (h:OC P [.imm (.agg (dTyc d.1)),.imm (.agg (dTyc d.2))] S false S1):Yields2 P (d::l) S false S1
theorem Yields2.split {P:Program} {l m:List (Ty×Ty)} {S S2:Bun} {r:Bool} (h:Yields2 P (l++m) S r S2):(∃S1,Yields2 P l S true S1/\Yields2 P m S1 r S2)\/(r=false/\Yields2 P l S false S2):=by
 induction l generalizing S with
 | nil=>exact .inl ⟨S,.nil S,h⟩
 | cons d l ih =>
  cases h with
  | cons h h1 =>
   rcases ih h1 with ⟨S1,q1,q2⟩ | ⟨q1,q2⟩
   ·exact .inl ⟨S1,.cons h q1,q2⟩
   ·exact .inr ⟨q1,.cons h q2⟩
  | stop h=>exact .inr ⟨rfl,.stop h⟩
theorem Yields2.nilInv {P:Program} {S S2:Bun} {r:Bool} (h:Yields2 P [] S r S2):r=true/\S2=S:=by
 cases h;exact ⟨rfl,rfl⟩
def lW (r:St):St:=(1,some (.cells 250 1 [.yld 3]))::(2,some (.cells 250 1 [.fn (.func 175) [] [.ref 1 0,.ref 2 0]]))::r
def goC (p v:Ty) (b:Bool) (S S':Bun):Prop:=Bc Tryz.prog 175 [.imm (.agg (dTyc p)),.imm (.agg (dTyc v)),.ref 1 0,.ref 2 0]
 (lW [(3,some .pin),(4,some (.bun 3 S))]) (.ret (.imm (.bool b)) (lW [(3,some .pin),(5,some (.bun 3 S'))]))
theorem Qv (a b:Ty):A5 a b=(match a,b with | .mk s n x _,.mk s' n' x' _=>(s == s')&&((n == n')&&(x == x'))):=by
 obtain ⟨s,n,x,ps⟩:=a;obtain ⟨s',n',x',ps'⟩:=b;simp [A5,Bool.and_assoc]
set_option maxHeartbeats 1000000 in
theorem eL:∀(p v:Ty) {b:Bool} {S S':Bun},L4 p v=true->Yields2 Tryz.prog (Dn p v) S b S'->goC p v b S S'
 | .mk f n x ps,.mk g m z vs,b,S,S',hok,hY=>by
  have hW:=Lh (.mk f n x ps);have hO:=Yf (.mk g m z vs);simp only [Dn,Bm] at hY;simp only [L4,Bm] at hok;have hE:=Qv (AN (.mk f n x ps)) (.mk g m z vs);generalize A5 (AN (.mk f n x ps)) (.mk g m z vs)=he at *;generalize AN (.mk f n x ps)=hd at *;obtain ⟨hs,hn,hx,hps⟩:=hd;simp only at hE;refine Ad A4 Tryz.func175 (by decide +kernel) rfl [8,9,6,10,7,5] rfl rfl ?_;refine bg [] rfl (by simp [Ah]) ?_;cases hY with
  | stop h =>
   refine Yt (j:=4) (j2:=6) rfl (by simp [Ah]) trivial h rfl rfl rfl rfl rfl ?_;refine bg [] rfl (by simp [Ah]) ?_;refine Aa rfl (λh=>?_) (λh=>by simp at h);refine bd [] rfl (by simp) ?_;refine HW (ids':=[]) 6 5 rfl rfl ?_;exact Ab ⟨_,rfl,tV rfl,rfl,rfl,rfl,rfl,trivial⟩
  | @cons _ _ _ S1 _ _ h hY =>
   refine Yt (j:=4) (j2:=6) rfl (by simp [Ah]) trivial h rfl rfl rfl rfl rfl ?_;refine bg [] rfl (by simp [Ah]) ?_;refine Aa rfl (λh=>by simp at h) (λh=>?_);refine bd [] rfl (by simp) ?_;refine Ac rfl (λ_=>hW) (by simp [Ah]) ?_;refine bg [] rfl (by simp [Ah]) ?_;refine Ac rfl (λ_=>hO) (by simp [Ah]) ?_;refine bg [] rfl (by simp [Ah]) ?_;refine Vr A4 rfl LL (by simp [Ah]) ?_;refine bg [] rfl (by simp [Ah];rfl) ?_;by_cases hg:f=6/\he=true
   case neg =>
    rw [show (bif decide (f=6)&&he then DM ps vs else [])=[] by
     have:(decide (f=6)&&he)=false:=by simp;grind
     rw [this];rfl] at hY
    obtain ⟨rfl,rfl⟩:=hY.nilInv;refine Aa rfl (λh=>?_) (λh=>by exfalso;apply hg;rw [hE];simp at h ⊢;grind);refine bd [] rfl (by simp) ?_;refine HW (ids':=[]) 6 5 rfl rfl ?_;exact Ab ⟨_,rfl,tV rfl,rfl,rfl,rfl,rfl,trivial⟩
   obtain ⟨rfl,rfl⟩:=hg;have hE1:(hs == g&&(hn == m&&hx == z))=true:=hE.symm;refine Aa rfl (λh=>by exfalso;simp at h hE1;grind) (λh=>?_);clear h;rw [show (bif decide ((6:Int)=6)&&true then DM ps vs else [])=DM ps vs from rfl] at hY;simp only [show decide ((6:Int)=1)=false from rfl,show decide ((6:Int)=2)=false from rfl,Bool.not_true,Bool.false_or,Bool.and_eq_true] at hok;obtain ⟨hlen,hok⟩:=hok;have hlen:ps.length<=vs.length:=of_decide_eq_true hlen;refine bd [] rfl (by simp) ?_;refine V7 (t:=25) rfl λhv=>?_;have hpl:ps.length<=9223372036854775807:=by simp [Ee,maxLen] at hv;omega
   refine Ak (λy:Nat×Bun=>[(27,.imm (.int .i64 y.1)),(26,.imm (.int .i64 ps.length)),(25,.imm (.sl (Bq ps))),(3,.ref 2 0),(5,.ref 9 0)])
    (λy=>lW [(3,some .pin),(6,some (.bun 3 y.2)),(9,some (.immb 35 4 (dTyc (.mk g m z vs))))]) [10,7,5] (λy=>ps.length-y.1)
    (λy=>y.1<=ps.length/\L3 (ps.drop y.1) (vs.drop y.1)=true/\Yields2 Tryz.prog (DM (ps.drop y.1) (vs.drop y.1)) y.2 b S') (0,S1) ⟨Nat.zero_le _,hok,hY⟩ ⟨rfl,As (by simp),rfl,rfl,rfl,trivial⟩ ⟨rfl,rfl,rfl,rfl,rfl,trivial⟩ rfl λy hi ih=>?_
   obtain ⟨i,S0⟩:=y;obtain ⟨hi1,hi2,hi3⟩:=hi;simp only at hi1 hi2 hi3;refine bd [] rfl (by simp [Ah]) ?_;refine Aa rfl (λh=>?_) (λh=>?_)
   ·simp at h;obtain ⟨t,ht⟩:=Am h;obtain ⟨u,hu⟩:=Am (l:=vs) (i:=i) (by omega);rw [An ht,An hu] at hi2 hi3;simp only [L3,Bool.and_eq_true] at hi2;simp only [DM] at hi3;refine bd [] rfl (by simp [Ah]) ?_;refine bi rfl (c:=dTyc t) (λ_=>⟨by simp,by simpa using At ht,by simp⟩) (by simp) ?_;refine bg [] rfl (by simp [Ah]) ?_;refine bi rfl (c:=dTyc u) (λ_=>⟨by simp,by simpa using At hu,by simp⟩) (by simp) ?_;refine bg [] rfl (by simp [Ah]) ?_;rcases Yields2.split hi3 with ⟨S2,q1,q2⟩ | ⟨q1,q2⟩
    ·refine Az (fr:=[7]) [(1,1),(2,2),(3,3),(6,4)] [(5,7)] rfl (by simp) (eL t u hi2.1 q1) ⟨⟨rfl,rfl,rfl⟩,⟨rfl,rfl,rfl⟩,⟨rfl,rfl,rfl⟩,⟨rfl,rfl,rfl⟩,trivial⟩ rfl rfl rfl rfl ?_;refine bg [] rfl (by simp [Ah];rfl) ?_;refine Aa rfl (λh=>by simp at h) (λh=>?_);refine bd [] rfl (by simp) ?_;refine A6 6 7 rfl ?_;exact Ae (ih (i+1,S2) (by simp only;omega) ⟨by simp only;omega,hi2.2,q2⟩) ⟨As (B9 (by simp only;omega) (by simp only;omega)),rfl,rfl,rfl,rfl,trivial⟩ ⟨rfl,rfl,rfl,rfl,rfl,trivial⟩ rfl
    ·subst q1;refine Az (fr:=[7]) [(1,1),(2,2),(3,3),(6,4)] [(5,7)] rfl (by simp) (eL t u hi2.1 q2) ⟨⟨rfl,rfl,rfl⟩,⟨rfl,rfl,rfl⟩,⟨rfl,rfl,rfl⟩,⟨rfl,rfl,rfl⟩,trivial⟩ rfl rfl rfl rfl ?_;refine bg [] rfl (by simp [Ah];rfl) ?_;refine Aa rfl (λh=>?_) (λh=>by simp at h);refine bd [] rfl (by simp) ?_;refine HW (ids':=[]) 7 5 rfl rfl ?_;exact Ab ⟨_,rfl,tV rfl,rfl,rfl,rfl,rfl,trivial⟩
   ·simp at h;rw [(List.drop_eq_nil_of_le (by omega):ps.drop i=[])] at hi3;obtain ⟨rfl,rfl⟩:=hi3.nilInv;refine Ar rfl ?_;refine bd [] rfl (by simp) ?_;refine HW (ids':=[]) 6 5 rfl rfl ?_;exact Ab ⟨_,rfl,tV rfl,rfl,rfl,rfl,rfl,trivial⟩
termination_by p=>SizeOf.sizeOf p
decreasing_by
 all_goals
  have:=List.sizeOf_lt_of_mem (List.mem_of_getElem? ht);simp_wf;omega
def ER (p v:Ty):St:=[(6,some (.immb 62 4 (dTyc p))),(7,some (.immb 35 4 (dTyc v)))]
theorem MF (p v:Ty) (hok:L4 p v=true) {b:Bool} {S S':Bun} (hY:Yields2 Tryz.prog (Dn p v) S b S') :
  Bc Tryz.prog 174 [.yld 3,.ref 6 0,.ref 7 0] ((3,some .pin)::(4,some (.bun 3 S))::ER p v) (.ret (.tup []) ((3,some .pin)::(5,some (.bun 3 S'))::ER p v)):=by
 refine Ad A4 Tryz.func174 (by decide +kernel) rfl [1,2,8,5] rfl rfl ?_;obtain ⟨q1,q2,q3,q4⟩:=p;obtain ⟨u1,u2,u3,u4⟩:=v;refine bg [] rfl (by simp [Ah]) ?_;refine Az (fr:=[8]) [(1,1),(2,2),(3,3),(4,4)] [(5,8)] rfl (by simp) (eL _ _ hok hY) ⟨⟨rfl,rfl,rfl⟩,⟨rfl,rfl,rfl⟩,⟨rfl,rfl,rfl⟩,⟨rfl,rfl,rfl⟩,trivial⟩ rfl rfl rfl rfl ?_;refine bg [] rfl (by simp [Ah]) ?_;refine HW (ids':=[]) 8 5 rfl rfl ?_;exact Cn ⟨[],rfl,rfl,rfl,rfl,rfl,rfl,trivial⟩
theorem PG (p v:Ty):Bc Tryz.prog 127 [.imm (.agg (dTyc p)),.imm (.agg (dTyc v))] [] (.ret (.fn (.func 174) [] [.ref 6 0,.ref 7 0]) (ER p v)):=by
 refine Ad A4 Tryz.func127 (by decide +kernel) rfl [6,7] rfl rfl ?_;obtain ⟨q1,q2,q3,q4⟩:=p;obtain ⟨u1,u2,u3,u4⟩:=v;refine bg [] rfl (by simp [Ah]) ?_;exact Ab ⟨_,rfl,rfl,rfl,rfl,trivial⟩
def Of:Ty->Int
 | .mk s _ _ _=>s
def Gw (l:List (Str×Ty)) (d:Ty×Ty):Option (List (Str×Ty)) :=
 if Of d.1=2 then some (l++[(jR d.1,d.2)]) else if Of d.1≠1/\A5 (AN d.1) d.2=false then none else some l
def EH:List (Str×Ty)->List (Ty×Ty)->List (Str×Ty)×Bool
 | l,[]=>(l,true)
 | l,d::r=>match Gw l d with
  | some l'=>EH l' r
  | none=>(l,false)
theorem Uk (l:List (Str×Ty)) (f n:Int) (t:Str) (ps:List Ty) (u:Ty):(f=2->Gw l (.mk f n t ps,u)=some (l++[(t,u)])) /\
  (f≠2->f≠1/\A5 (AN (.mk f n t ps)) u=false->Gw l (.mk f n t ps,u)=none)/\(f≠2->¬(f≠1/\A5 (AN (.mk f n t ps)) u=false)->Gw l (.mk f n t ps,u)=some l):=by
 have h0:Of (.mk f n t ps)=f:=rfl;have h1:jR (.mk f n t ps)=t:=rfl;refine ⟨λh=>?_,λh h'=>?_,λh h'=>?_⟩
 ·simp only [Gw,h0,h1];rw [if_pos h]
 ·simp only [Gw,h0,h1];rw [if_neg h,if_pos h']
 ·simp only [Gw,h0,h1];rw [if_neg h,if_neg h']
def OH:List (Str×Ty)->St
 | []=>[(3,some (.cells 55 1 [.nils])),(4,some (.immb 4 1 [.bool false])),(5,some (.cells 55 1 [.nils]))]
 | b::r=>[(3,some (.cells 55 1 [.nils])),(4,some (.immb 4 1 [.bool false])),(5,some (.cells 55 1 [.own 8 (BV (b::r)).length])),(8,some (.row 101 5 (BV (b::r))))]
set_option maxHeartbeats 1000000 in
theorem jL (l:List (Str×Ty)) (x u:Ty) (hlen:l.length<=1000000) {L:Kz} (h1:Tryz.prog.funcs[L.fn]?.isSome) (h2:L.tmps.size=Tryz.f73.ntmps) (h3:L.ps = #[12,13]) (h4:L.asg=jV Tryz.f73)
  (h5:L.body=cK Tryz.f73) (h6:L.E=[(4,.ref 3 0),(5,.ref 4 0),(6,.ref 5 0)]) (h7:L.F=[]) :
  (∀l',Gw l (x,u)=some l'->OC Tryz.prog [.imm (.agg (dTyc x)),.imm (.agg (dTyc u))] (C9 L (OH l) none) true (C9 L (OH l') none)) /\
  (Gw l (x,u)=none->OC Tryz.prog [.imm (.agg (dTyc x)),.imm (.agg (dTyc u))] (C9 L (OH l) none) false (C9 L (OH l) (some .ret))):=by
 obtain ⟨fc,hf⟩:=Option.isSome_iff_exists.1 h1;have hW:=Lh x;have hO:=Yf u;have hE:=Qv (AN x) u;obtain ⟨f,n,t,ps⟩:=x;have hst:=Uk l f n t ps u;generalize A5 (AN (.mk f n t ps)) u=he at *;generalize AN (.mk f n t ps)=hd at *;obtain ⟨hs,hn,hx,hps⟩:=hd;obtain ⟨g,m,z,vs⟩:=u;simp only at hE;obtain ⟨hst1,hst2,hst3⟩:=hst;have hfree:Qy [9,10,11,12,13] L.E (OH l) L.F:=by
  rw [h6,h7];cases l <;> refine ⟨by decide,?_⟩ <;> simp [OH,UL,It,Fc,Tx,Is]
 have hasg:∀stx,JC Tryz.prog Tryz.f73.ntmps L.asg ((13,.imm (.agg (dTyc (.mk g m z vs))))::(12,.imm (.agg (dTyc (.mk f n t ps))))::L.E) stx [9,10,11,12,13] _ _ _:=λstx=>by
  rw [h4];exact Y9 (Pa A4 rfl rfl rfl rfl (by simp) (by simp)) (Pa A4 rfl rfl rfl rfl (by simp) (by simp))
 by_cases h22:f=2
 ·subst h22;refine ⟨λl' hl'=>?_,λh=>by rw [hst1 rfl] at h;cases h⟩;rw [hst1 rfl] at hl';cases hl';refine Q4 (pend:=none) hf h3 h2 rfl rfl (by decide) (by decide) hfree (hasg _) ?_;rw [h5,h6,h7];cases l with
  | nil =>
   refine bd [] rfl (by simp [Ah]) ?_;refine Aa rfl (λh=>?_) (λh=>by simp at h);refine bd [] rfl (by simp [Ah]) ?_;refine BR A4 rfl ⟨by simp,by simp [maxLen],by simp,trivial⟩ ?_;refine bg [] rfl (by simp [Ah]) ?_;refine A6 8 11 rfl ?_;exact Cn (⟨rfl,rfl,rfl,rfl,trivial⟩:Gt _ (OH ([]++[(t,.mk g m z vs)])))
  | cons b r =>
   refine bd [] rfl (by simp [Ah]) ?_;refine Aa rfl (λh=>?_) (λh=>by simp at h);refine bd [] rfl (by simp [Ah]) ?_;refine BR A4 rfl ⟨by simp,by simp [maxLen] at hlen ⊢;omega,by simp at hlen ⊢;omega,trivial⟩ ?_;refine bg [] rfl (by simp [Ah]) ?_;refine A6 8 11 rfl ?_;refine Cn (?_:Gt _ (OH (b::r++[(t,.mk g m z vs)])));have e:BV (b::(r++[(t,.mk g m z vs)]))=BV (b::r)++[LX (t,.mk g m z vs)]:=by simp [BV]
   simp only [OH,List.cons_append,e];exact ⟨rfl,rfl,by simp only [List.length_append];rfl,rfl,trivial⟩
 have hst2:=hst2 h22;have hst3:=hst3 h22;have key:∀(pend:Option Code) (hh:(f≠1/\he=false)↔pend.isSome=true) (hp:pend=none\/pend=some .ret),
   OC Tryz.prog [.imm (.agg (dTyc (.mk f n t ps))),.imm (.agg (dTyc (.mk g m z vs)))] (C9 L (OH l) none) pend.isNone (C9 L (OH l) pend):=by
  intro pend hh hp;refine Q4 (pend:=pend) hf h3 h2 rfl rfl (by decide) (by decide) hfree (hasg _) ?_;rw [h5,h6,h7];refine bd [] rfl (by simp [Ah]) ?_;refine Aa rfl (λh=>absurd (by simpa using h) h22) (λh=>?_);clear h;refine bd [] rfl (by simp [Ah]) ?_;refine Ac rfl (λ_=>hW) (by simp [Ah]) ?_;refine bg [] rfl (by simp [Ah]) ?_;refine Ac rfl (λ_=>hO) (by simp [Ah]) ?_;refine bg [] rfl (by simp [Ah]) ?_;refine Vr A4 rfl LL (by simp [Ah]) ?_;refine bg [] rfl (by simp [Ah];rfl) ?_;rcases hp with rfl | rfl
  ·refine Aa rfl (λh=>?_) (λh=>?_)
   ·exfalso;have:¬(f≠1/\he=false):=λq=>by have:=hh.1 q;cases this
    apply this;simp at h;refine ⟨h.1,?_⟩;rw [hE];simp;grind
   ·refine bd [] rfl (by simp [Ah]) ?_;refine Cn (?_:Gt _ (OH l));cases l <;> exact ⟨rfl,rfl,rfl,by first | trivial | exact ⟨rfl,trivial⟩⟩
  ·have hq:=hh.2 rfl;refine Aa rfl (λh=>?_) (λh=>?_)
   ·cases l with
    | nil =>
     refine bd [] rfl (by simp [Ah]) ?_;exact Ab (⟨rfl,rfl,rfl,trivial⟩:Gt _ (OH []))
    | cons b r =>
     refine bd [] rfl (by simp [Ah]) ?_;exact Ab (⟨rfl,rfl,rfl,rfl,trivial⟩:Gt _ (OH (b::r)))
   ·exfalso;obtain ⟨q1,q2⟩:=hq;rw [q2] at hE;simp at h hE;grind
 refine ⟨λl' hl'=>?_,λh=>?_⟩
 ·have hn:¬(f≠1/\he=false):=λhq=>by rw [hst2 hq] at hl';cases hl'
  rw [hst3 hn] at hl';cases hl';exact key none ⟨λh=>absurd h hn,λh=>by cases h⟩ (.inl rfl)
 ·have hn:f≠1/\he=false:=by
   by_cases hq:f≠1/\he=false
   ·exact hq
   ·rw [hst3 hq] at h;cases h
  exact key (some .ret) ⟨λ_=>rfl,λ_=>hn⟩ (.inr rfl)
theorem YV {l l':List (Str×Ty)} {d:Ty×Ty} (h:Gw l d=some l'):l'.length<=l.length+1:=by
 unfold Gw at h
 split at h
 ·cases h;simp
 ·split at h
  ·cases h
  ·cases h;omega
theorem Ra {L:Kz} (h1:Tryz.prog.funcs[L.fn]?.isSome) (h2:L.tmps.size=Tryz.f73.ntmps) (h3:L.ps = #[12,13]) (h4:L.asg=jV Tryz.f73)
  (h5:L.body=cK Tryz.f73) (h6:L.E=[(4,.ref 3 0),(5,.ref 4 0),(6,.ref 5 0)]) (h7:L.F=[]):∀(items:List (Ty×Ty)) (l:List (Str×Ty)),l.length+items.length<=1000000 ->
  Yields2 Tryz.prog items (C9 L (OH l) none) (EH l items).2 (C9 L (OH (EH l items).1) (bif (EH l items).2 then none else some .ret))
 | [],l,_=>.nil _
 | d::r,l,hl=>by
  simp only [List.length_cons] at hl;obtain ⟨q1,q2⟩:=jL l d.1 d.2 (by omega) h1 h2 h3 h4 h5 h6 h7;cases hs:Gw l d with
  | none =>
   rw [show EH l (d::r)=(l,false) by simp only [EH,hs]];exact .stop (q2 hs)
  | some l' =>
   rw [show EH l (d::r)=EH l' r by simp only [EH,hs]];have:=YV hs;exact .cons (q1 l' hs) (Ra h1 h2 h3 h4 h5 h6 h7 r l' (by omega))
set_option maxHeartbeats 1000000 in
theorem dT (p v:Ty) (hok:L4 p v=true) (hN:(Dn p v).length<=1000000):Al Tryz.prog 73 [.agg (dTyc p),.agg (dTyc v)] (.tup [.sl (BV (bif (EH [] (Dn p v)).2 then (EH [] (Dn p v)).1 else [])),.bool (EH [] (Dn p v)).2]):=by
 have hP:=PG p v;have hP1:=λb S S' h=>MF p v hok (b:=b) (S:=S) (S':=S') h;have hY:=λL h1 h2 h3 h4 h5 h6 h7=>Ra (L:=L) h1 h2 h3 h4 h5 h6 h7 (Dn p v) [] (by simpa using hN);obtain ⟨q1,q2,q3,q4⟩:=p;obtain ⟨u1,u2,u3,u4⟩:=v;generalize EH [] (Dn (.mk q1 q2 q3 q4) (.mk u1 u2 u3 u4))=r at *;obtain ⟨l,b⟩:=r;simp only at hY ⊢;refine Ad A4 Tryz.func73 (by decide +kernel) rfl [1,2,3,4,5,6,7,8,9,10,11,12,13] rfl rfl ?_;refine bg [] rfl (by simp) ?_;refine Az (st0:=[]) (fr:=[6,7]) [] [(6,6),(7,7)] rfl (by simp) hP trivial rfl rfl rfl rfl ?_;refine bd [] rfl (by simp) ?_
 refine Nc (y:=3) (j:=4) (j2:=5) (stc:=ER (.mk q1 q2 q3 q4) (.mk u1 u2 u3 u4)) (stc':=ER (.mk q1 q2 q3 q4) (.mk u1 u2 u3 u4)) (stx:=OH []) (stB:=OH l) (pend:=bif b then none else some .ret) (E:=[(4,.ref 3 0),(5,.ref 4 0),(6,.ref 5 0)]) (ids':=[9,10,11,12,13]) (d:=.tup []) rfl Tryz.func174 (by decide +kernel) rfl (by decide) ⟨rfl,rfl,rfl,trivial⟩
   (Ea ⟨rfl,rfl,rfl,rfl,rfl,trivial⟩) (λL h1 h2 h3 h4 h5 h6 h7=>?_) ?_ ?_ ?_ ?_ ?_
 ·exact hP1 b _ _ (hY L h1 h2 h3 h4 h5 h6 h7)
 ·simp [ER,OH,DN]
 ·simp [ER,DN]
 ·intro i hi;have e:Is (F6 (DA (AS []++[(6,6),(7,7)])) []++F6 (DA (AS []++[(6,6),(7,7)])) [.ref 6 0,.ref 7 0])=[6,7]:=rfl;rw [e] at hi;simpa [ER,DN,Fc,Tx,Is,It] using hi
 ·cases l <;> refine ⟨by decide,?_⟩ <;> simp [OH,UL,It,Fc,Tx,Is,DN]
 ·cases b with
  | false =>
   cases l <;> exact Ab ⟨_,rfl,tV rfl,trivial⟩
  | true =>
   cases l with
   | nil =>
    refine bd [] rfl (by simp [Ah]) ?_;exact Ab ⟨_,rfl,tV rfl,trivial⟩
   | cons x r =>
    refine BM 8 rfl ?_;refine bd [] rfl (by simp [Ah]) ?_;exact Ab ⟨_,rfl,tV rfl,trivial⟩
theorem IF:∀v:Ty,Ai v<=1000000000000->Al Tryz.prog 74 [.agg (dTyc v)] (.agg (dTyc v))
 | .mk s n x ps,hN=>by
  refine AF λhv=>?_;simp [Ca,Ee,dTyc,maxLen] at hv;simp only [Ai] at hN;have hpl:ps.length<=1000000000000:=by
   have:∀l:List Ty,l.length<=Ag l:=λl=>by
    induction l with
    | nil=>simp
    | cons t r ih=>obtain ⟨a,b,c,d⟩:=t;simp only [Ag,Ai,List.length_cons];omega
   have:=this ps;omega
  refine Ad A4 Tryz.func74 (by decide +kernel) rfl [1,2,3,4,5,6] rfl rfl ?_;refine bg [] rfl (by simp) ?_;refine D4 (e:=35) (sz:=4) 3 3 (by decide) rfl ?_;refine Ak (λi:Nat=>[(9,.imm (.int .i64 i)),(8,.imm (.int .i64 ps.length)),(7,.imm (.sl (Bq ps))),(3,.own 3 (Bq (ps.take i)).length),(1,.ref 1 0),(2,.ref 2 0)])
   (λi=>[(3,some (.row 35 4 (Bq (ps.take i)))),(1,some (.immb 35 4 (dTyc (.mk s n x ps)))),(2,some (.cells 35 4 [.imm (.int .i64 0),.imm (.int .i64 0),.imm (.str []),.nils]))]) [4,5,6] (λi=>ps.length-i)
   (λi=>i<=ps.length) 0 (Nat.zero_le _) ⟨rfl,As (by simp),rfl,rfl,rfl,rfl,trivial⟩ ⟨rfl,rfl,rfl,trivial⟩ rfl λi hi ih=>?_
  refine bd [] rfl (by simp) ?_;refine Aa rfl (λh=>?_) (λh=>?_)
  ·simp at h;obtain ⟨t,ht⟩:=Am h;have hb:=BJ ht;refine bd [] rfl (by simp) ?_;refine bi rfl (c:=dTyc t) (λ_=>⟨by simp,by simpa using At ht,by simp⟩) (by simp) ?_;refine bg [] rfl (by simp) ?_;refine Ac rfl (λ_=>IF t (by omega)) (by simp) ?_;refine bg [] rfl (by simp) ?_;refine BR A4 rfl ⟨by simp,by simp [maxLen];omega,by simp;omega,trivial⟩ ?_;refine bg [] rfl (by simp) ?_;refine A6 3 5 rfl ?_;have et:Bq (ps.take (i+1))=Bq (ps.take i)++[dTyc t]:=by rw [Bb ht,Oq];simp [Bq]
   exact Ae (ih (i+1) (by omega) (by omega)) ⟨As (B9 (by omega) (by omega)),rfl,rfl,by rw [et];rfl,rfl,rfl,trivial⟩ ⟨by rw [et];rfl,rfl,rfl,trivial⟩ rfl
  ·simp at h;refine Ar rfl ?_;rw [List.take_of_length_le h];refine BM 3 rfl ?_;refine bd [] rfl (by simp) ?_;exact Ab ⟨_,rfl,tV rfl,trivial⟩
termination_by v=>SizeOf.sizeOf v
decreasing_by
 have:=List.sizeOf_lt_of_mem (List.mem_of_getElem? ht);simp_wf;omega
def HF (d:Ty×Ty):Bool:=decide (Of d.1≠1)&&decide (Of d.1≠2) && !A5 (AN d.1) d.2
theorem Wp (l:List (Str×Ty)) (d:Ty×Ty):(Gw l d).isSome = !HF d:=by
 unfold Gw HF;by_cases h2:Of d.1=2
 ·rw [if_pos h2];simp [h2]
 ·rw [if_neg h2];by_cases h1:Of d.1≠1/\A5 (AN d.1) d.2=false
  ·rw [if_pos h1];simp [h1,h2]
  ·rw [if_neg h1];simp only [Option.isSome_some];by_cases h3:Of d.1=1
   ·simp [h3]
   ·have:A5 (AN d.1) d.2=true:=by cases hh:A5 (AN d.1) d.2;exact absurd ⟨h3,hh⟩ h1;rfl
    simp [this]
theorem Uw:∀(items:List (Ty×Ty)) (l:List (Str×Ty)),(EH l items).2=items.all λd=>!HF d
 | [],l=>rfl
 | d::r,l=>by
  have:=Wp l d;simp only [EH,List.all_cons];cases hs:Gw l d with
  | none=>rw [hs] at this;simp at this;simp [this]
  | some l'=>rw [hs] at this;simp at this;simp [this,Uw r l']
def P9:Code->Option (Code×Code)
 | .rangeFunc _ _ a b=>some (a,b)
 | .seq x y=>match P9 x with
  | some r=>some r
  | none=>P9 y
 | .block _ c=>P9 c
 | .scope c=>P9 c
 | .loop c=>P9 c
 | _=>none
def cL (f:Func):Code:=match P9 (F4 f 0) with
 | some (a,_)=>a
 | none=>.skip
def XR (f:Func):Code:=match P9 (F4 f 0) with
 | some (_,b)=>b
 | none=>.skip
def YW (v:Ty):St:=[(1,some (.immb 35 4 (dTyc v)))]
def eR (c:Cse) (sz:List (List V)) (i:Nat):Env:=[(5,.imm (.int .i64 i)),(15,.imm (.int .i64 i)),(14,.imm (.int .i64 c.rows.length)),(13,.imm (.sl (Bq c.rows))),(0,.imm (AL c sz)),(3,.ref 1 0)]
set_option maxHeartbeats 1000000 in
theorem YC (c:Cse) (sz:List (List V)) (i:Nat) (v x u:Ty) {L:Kz} (h1:Tryz.prog.funcs[L.fn]?.isSome) (h2:L.tmps.size=Tryz.f98.ntmps) (h3:L.ps = #[23,24]) (h4:L.asg=cL Tryz.f98)
  (h5:L.body=XR Tryz.f98) (h6:L.E=eR c sz i) (h7:L.F=[]) (pend:Option Code) (hp:pend=none\/pend=some (.exit 1)) (hh:HF (x,u)=pend.isSome) :
  OC Tryz.prog [.imm (.agg (dTyc x)),.imm (.agg (dTyc u))] (C9 L (YW v) none) pend.isNone (C9 L (YW v) pend):=by
 obtain ⟨fc,hf⟩:=Option.isSome_iff_exists.1 h1;have hW:=Lh x;have hO:=Yf u;have hE:=Qv (AN x) u;obtain ⟨f,n,t,ps⟩:=x;have hs:HF (.mk f n t ps,u)=(decide (f≠1)&&decide (f≠2) && !A5 (AN (.mk f n t ps)) u):=rfl;rw [hs] at hh;clear hs;generalize A5 (AN (.mk f n t ps)) u=he at *;generalize AN (.mk f n t ps)=hd at *;obtain ⟨hs,hn,hx,hps⟩:=hd;obtain ⟨g,m,z,vs⟩:=u;simp only at hE;have hfree:Qy [9,10,11,12,13] L.E (YW v) L.F:=by
  rw [h6,h7];refine ⟨by decide,?_⟩;simp [YW,eR,UL,It,Fc,Tx,Is]
 have hasg:∀stx,JC Tryz.prog Tryz.f98.ntmps L.asg ((24,.imm (.agg (dTyc (.mk g m z vs))))::(23,.imm (.agg (dTyc (.mk f n t ps))))::L.E) stx [9,10,11,12,13] _ _ _:=λstx=>by
  rw [h4];exact Y9 (Pa A4 rfl rfl rfl rfl (by simp) (by simp)) (Pa A4 rfl rfl rfl rfl (by simp) (by simp))
 refine Q4 (pend:=pend) hf h3 h2 rfl rfl (by decide) (by decide) hfree (hasg _) ?_;rw [h5,h6,h7];refine bd [] rfl (by simp [Ah]) ?_;refine Ac rfl (λ_=>hW) (by simp [Ah]) ?_;refine bg [] rfl (by simp [Ah]) ?_;refine Ac rfl (λ_=>hO) (by simp [Ah]) ?_;refine bg [] rfl (by simp [Ah]) ?_;refine Vr A4 rfl LL (by simp [Ah]) ?_;refine bg [] rfl (by simp [Ah];rfl) ?_;rcases hp with rfl | rfl
 ·refine Aa rfl (λh=>?_) (λh=>?_)
  ·exfalso;rw [hE] at hh;simp at h hh;grind
  ·refine bd [] rfl (by simp [Ah]) ?_;exact Cn (⟨rfl,trivial⟩:Gt _ (YW v))
 ·refine Aa rfl (λh=>?_) (λh=>?_)
  ·refine bd [] rfl (by simp [Ah]) ?_;exact V8 rfl (⟨rfl,rfl,trivial⟩:(1:Nat)=1/\Gt _ (YW v))
  ·exfalso;rw [hE] at hh;simp at h hh;grind
theorem Wg (c:Cse) (sz:List (List V)) (i:Nat) (v:Ty) {L:Kz} (h1:Tryz.prog.funcs[L.fn]?.isSome) (h2:L.tmps.size=Tryz.f98.ntmps) (h3:L.ps = #[23,24]) (h4:L.asg=cL Tryz.f98)
  (h5:L.body=XR Tryz.f98) (h6:L.E=eR c sz i) (h7:L.F=[]):∀(items:List (Ty×Ty)),
  Yields2 Tryz.prog items (C9 L (YW v) none) (items.all λd=>!HF d) (C9 L (YW v) (bif items.all λd=>!HF d then none else some (.exit 1)))
 | []=>.nil _
 | d::r=>by
  cases hs:HF d with
  | true =>
   rw [show ((d::r).all λd=>!HF d)=false by simp [hs]];exact .stop (YC c sz i v d.1 d.2 h1 h2 h3 h4 h5 h6 h7 (some (.exit 1)) (.inr rfl) hs)
  | false =>
   rw [show ((d::r).all λd=>!HF d)=r.all λd=>!HF d by simp [hs]];exact .cons (YC c sz i v d.1 d.2 h1 h2 h3 h4 h5 h6 h7 none (.inl rfl) hs) (Wg c sz i v h1 h2 h3 h4 h5 h6 h7 r)
def XP (v p:Ty):Bool:=(Dn p v).all λd=>!HF d
def H3 (v:Ty):Nat->List Ty->Int
 | _,[]=>-1
 | i,p::r=>bif XP v p then (i:Int) else H3 v (i+1) r
set_option maxHeartbeats 1000000 in
theorem lF (c:Cse) (sz:List (List V)) (v:Ty) (hok:∀p∈c.rows,L4 p v=true):Al Tryz.prog 98 [AL c sz,.agg (dTyc v)] (.int .i64 (H3 v 0 c.rows)):=by
 have hP:=λp=>PG p v;have hP1:=λp hok b S S' h=>MF p v hok (b:=b) (S:=S) (S':=S') h;have hY:=λi L h1 h2 h3 h4 h5 h6 h7 items=>Wg c sz i v (L:=L) h1 h2 h3 h4 h5 h6 h7 items;have hrl:Al Tryz.prog 98 [AL c sz,.agg (dTyc v)] (.int .i64 (H3 v 0 c.rows))↔Al Tryz.prog 98 [AL c sz,.agg (dTyc v)] (.int .i64 (H3 v 0 c.rows)):=Iff.rfl;clear hrl;obtain ⟨ds,⟨c1,c2,c3,c4⟩,rows⟩:=c;obtain ⟨g,m,z,vs⟩:=v;simp only at hok ⊢;refine Ad A4 Tryz.func98 (by decide +kernel) rfl [1,2,6,7,9,10,11,12,13] rfl rfl ?_;refine bg [] rfl (by simp) ?_;refine V7 (t:=13) rfl λhv=>?_;have hlen:rows.length<=9223372036854775807:=by simp [Ee,maxLen] at hv;omega
 refine Ak (λi:Nat=>[(15,.imm (.int .i64 i)),(14,.imm (.int .i64 rows.length)),(13,.imm (.sl (Bq rows))),(0,.imm (AL ⟨ds,.mk c1 c2 c3 c4,rows⟩ sz)),(3,.ref 1 0)]) (λ_=>YW (.mk g m z vs)) [2,6,7,9,10,11,12,13] (λi=>rows.length-i)
  (λi=>i<=rows.length/\H3 (.mk g m z vs) 0 rows=H3 (.mk g m z vs) i (rows.drop i)) 0 ⟨Nat.zero_le _,rfl⟩ ⟨rfl,As (by simp),rfl,rfl,rfl,trivial⟩ ⟨rfl,trivial⟩ rfl λi hi ih=>?_
 obtain ⟨hi1,hi2⟩:=hi;refine bd [] rfl (by simp) ?_;refine Aa rfl (λh=>?_) (λh=>?_)
 ·simp at h;obtain ⟨p,hp⟩:=Am h;rw [An hp] at hi2;simp only [H3] at hi2;have hokp:=hok p (List.mem_of_getElem? hp);refine bd [] rfl (by simp) ?_;refine bi rfl (c:=dTyc p) (λ_=>⟨by simp,by simpa using At hp,by simp⟩) (by simp) ?_;refine bg [] rfl (by simp) ?_;refine Az (st0:=[]) (fr:=[6,7]) [] [(6,6),(7,7)] rfl (by simp) (hP p) trivial rfl rfl rfl rfl ?_;refine bd [] rfl (by simp) ?_;have hro:((Dn p (.mk g m z vs)).all λd=>!HF d)=XP (.mk g m z vs) p:=rfl;generalize XP (.mk g m z vs) p=b at *
  refine Nc (y:=3) (j:=4) (j2:=5) (stc:=ER p (.mk g m z vs)) (stc':=ER p (.mk g m z vs)) (stx:=YW (.mk g m z vs)) (stB:=YW (.mk g m z vs)) (pend:=bif b then none else some (.exit 1)) (E:=eR ⟨ds,.mk c1 c2 c3 c4,rows⟩ sz i) (ids':=[2,6,7,9,10,11,12,13]) (d:=.tup []) rfl Tryz.func174 (by decide +kernel) rfl (by decide) ⟨rfl,rfl,rfl,rfl,rfl,rfl,trivial⟩
   (Ea ⟨rfl,rfl,rfl,trivial⟩) (λL h1 h2 h3 h4 h5 h6 h7=>?_) ?_ ?_ ?_ ?_ ?_
  ·have:=hY i L h1 h2 h3 h4 h5 h6 h7 (Dn p (.mk g m z vs));rw [hro] at this;exact hP1 p hokp b _ _ this
  ·simp [ER,YW,DN]
  ·simp [ER,DN]
  ·intro k hk;have e:Is (F6 (DA (AS []++[(6,6),(7,7)])) []++F6 (DA (AS []++[(6,6),(7,7)])) [.ref 6 0,.ref 7 0])=[6,7]:=rfl;rw [e] at hk;simpa [ER,DN,Fc,Tx,Is,It] using hk
  ·refine ⟨by decide,?_⟩;simp [YW,eR,UL,It,Fc,Tx,Is,DN]
  ·cases b with
   | true =>
    rw [hi2];refine bd [] rfl (by simp [Ah]) ?_;exact Ab ⟨_,rfl,tV rfl,trivial⟩
   | false =>
    refine Ar rfl ?_;refine bd [] rfl (by simp [Ah]) ?_;exact Ae (ih (i+1) (by omega) ⟨by omega,hi2⟩) ⟨As (B9 (by omega) (by omega)),rfl,rfl,rfl,rfl,trivial⟩ ⟨rfl,trivial⟩ rfl
 ·simp at h;refine Ar rfl ?_;refine bd [] rfl (by simp) ?_;rw [hi2,List.drop_eq_nil_of_le (by omega)];exact Ab ⟨_,rfl,tV rfl,trivial⟩
theorem PF {s n:Int} {x:Str} {k:Nat} (h:Dz s n x k=true):(s=1\/s=2\/s=3\/s=4\/s=5\/s=6)/\(s≠6->k=0):=by
 unfold Dz at h
 split at h
 ·simp at h;grind
 ·split at h
  ·simp at h;grind
  ·split at h
   ·simp at h;grind
   ·split at h
    ·simp at h;grind
    ·split at h
     ·simp at h;grind
     ·cases h
mutual
theorem Ye (ds:List Dt):∀p t v:Ty,BA p=true->Co ds t p=true->II ds t v=true->L4 p v=true
 | .mk f n x ps,.mk so m x0 qs,.mk g k z vs,hw,hp,hv=>by
  simp only [BA,Bool.and_eq_true] at hw;obtain ⟨hk1,hk2⟩:=PF hw.1;simp only [L4,Bm];by_cases h1:f=1
  ·simp [h1]
  by_cases h2:f=2
  ·simp [h2]
  simp only [h1,h2,decide_false,Bool.false_or];cases he:A5 (AN (.mk f n x ps)) (.mk g k z vs) with
  | false=>rfl
  | true =>
   simp only [Bool.not_true,Bool.false_or,Bool.and_eq_true];by_cases h6:f=6
   ·subst h6;simp only [AN,A5] at he;simp at he;obtain ⟨⟨e1,e2⟩,e3⟩:=he;subst e3;rw [ME] at hp;rw [Io] at hv;simp only [JH,KB,<- e1] at hp hv;simp at hp hv;obtain ⟨p1,p2,p3⟩:=hp;have h8:so=8:=by
     unfold AK at p2;cases hc:decide (0<=(B8 ds (.mk so m x0 qs) x).2) with
     | false=>rw [hc] at p2;simp at p2
     | true =>
      simp only [B8] at hc;by_cases h8:so=8
      ·exact h8
      ·simp [h8] at hc
    subst h8;simp at hv;exact ⟨decide_eq_true (by omega),UE ds ps _ vs p1 hw.2 p3 hv.2.2⟩
   ·have:=hk2 h6;have hps:ps=[]:=List.eq_nil_of_length_eq_zero this;subst hps;simp [L3]
theorem UE (ds:List Dt):∀ps ts vs:List Ty,ts.length=ps.length->B5 ps=true->Cj ds ts ps=true->GQ ds ts vs=true->L3 ps vs=true
 | [],_,_,_,_,_,_=>rfl
 | _::_,_,[],_,_,_,_=>rfl
 | p::r,[],v::s,hl,_,_,_=>by simp at hl
 | p::r,a::ts,v::s,hl,hw,hp,hv=>by
  simp only [B5,Cj,GQ,L3,Bool.and_eq_true] at hw hp hv ⊢;exact ⟨Ye ds p a v hw.1 hp.1 hv.1,UE ds r ts s (by simpa using hl) hw.2 hp.2 hv.2⟩
end
mutual
theorem RY:∀p v:Ty,(Dn p v).length<=Ai p
 | .mk f n x ps,v=>by
  have:=PH ps (Bm v);simp only [Dn,Ai,List.length_cons];cases decide (f=6)&&A5 (AN (.mk f n x ps)) v
  ·simp
  ·simp;omega
theorem PH:∀ps vs:List Ty,(DM ps vs).length<=Ag ps
 | [],_=>by simp [DM]
 | _::_,[]=>by simp [DM]
 | p::r,q::s=>by
  have h1:=RY p q;have h2:=PH r s;simp only [DM,Ag,List.length_append];omega
end
mutual
theorem RQ:∀(p v:Ty),BA p=true->L4 p v=true->∀(l:List (Str×Ty)) (rest:List (Ty×Ty)),
  ((AR p v).2=true->EH l (Dn p v++rest)=EH (l++(AR p v).1) rest)/\((AR p v).2=false->(EH l (Dn p v++rest)).2=false)
 | .mk f n x ps,v,hw,hok,l,rest=>by
  simp only [BA,Bool.and_eq_true] at hw;obtain ⟨hk1,hk2⟩:=PF hw.1;obtain ⟨s1,s2,s3⟩:=Uk l f n x ps v;simp only [L4] at hok;simp only [Dn,AR,List.cons_append,EH];by_cases h1:f=1
  ·subst h1;rw [s3 (by decide) (by simp)];simp
  by_cases h2:f=2
  ·subst h2;rw [s1 rfl];simp
  simp only [h1,h2,if_false,decide_false,Bool.false_or] at hok ⊢;cases he:A5 (AN (.mk f n x ps)) v with
  | false =>
   rw [s2 h2 ⟨h1,he⟩];simp
  | true =>
   rw [s3 h2 (by rw [he];simp)];rw [he] at hok;simp only [Bool.not_true,Bool.false_or,Bool.and_eq_true] at hok;by_cases h6:f=6
   ·subst h6;have:=P5 ps (Bm v) hw.2 hok.2 (of_decide_eq_true hok.1) l rest;simpa using this
   ·have hps:ps=[]:=List.eq_nil_of_length_eq_zero (hk2 h6);subst hps;simp [h6,Bv]
theorem P5:∀(ps vs:List Ty),B5 ps=true->L3 ps vs=true->ps.length<=vs.length->∀(l:List (Str×Ty)) (rest:List (Ty×Ty)),
  ((Bv ps vs).2=true->EH l (DM ps vs++rest)=EH (l++(Bv ps vs).1) rest)/\((Bv ps vs).2=false->(EH l (DM ps vs++rest)).2=false)
 | [],_,_,_,_,l,rest=>by simp [Bv,DM]
 | _::_,[],_,_,hl,l,rest=>by simp at hl
 | p::r,q::s,hw,hok,hl,l,rest=>by
  simp only [B5,L3,Bool.and_eq_true] at hw hok;simp only [Bv,DM,List.append_assoc];obtain ⟨a1,a2⟩:=RQ p q hw.1 hok.1 l (DM r s++rest);obtain ⟨b1,b2⟩:=P5 r s hw.2 hok.2 (by simpa using hl) (l++(AR p q).1) rest;cases hp:(AR p q).2 with
  | false=>simp [a2 hp]
  | true =>
   rw [a1 hp];cases hr:(Bv r s).2 with
   | false=>simp [b2 hr]
   | true=>simp [b1 hr]
end
theorem P6 (p v:Ty) (hw:BA p=true) (hok:L4 p v=true):(EH [] (Dn p v)).2=(AR p v).2/\(bif (EH [] (Dn p v)).2 then (EH [] (Dn p v)).1 else [])=(AR p v).1:=by
 obtain ⟨h1,h2⟩:=RQ p v hw hok [] [];rw [List.append_nil] at h1 h2;cases h:(AR p v).2 with
 | true=>rw [h1 h];simp [EH]
 | false=>rw [h2 h];simp [Tz p v h]
theorem S9 (v:Ty):∀(rows:List Ty) (i:Nat),(∀p∈rows,BA p=true/\L4 p v=true)->H3 v i rows=CE v i rows
 | [],i,_=>rfl
 | p::r,i,h=>by
  have:=(P6 p v (h p (by simp)).1 (h p (by simp)).2).1;rw [Uw] at this;simp only [H3,CE];rw [show XP v p=(AR p v).2 from this,S9 v r (i+1) λq hq=>h q (by simp [hq])]
set_option maxHeartbeats 1000000 in
theorem Zz (p v:Ty) (hok:L4 p v=true) (hN:(Dn p v).length<=1000000) {b:Str×Ty} {r:List (Str×Ty)} (hr:EH [] (Dn p v)=(b::r,true)) :
  Bc Tryz.prog 73 [.imm (.agg (dTyc p)),.imm (.agg (dTyc v))] [] (.ret (.tup [.own 8 (BV (b::r)).length,.imm (.bool true)]) [(8,some (.row 101 5 (BV (b::r))))]):=by
 have hP:=PG p v;have hP1:=λb S S' h=>MF p v hok (b:=b) (S:=S) (S':=S') h;have hY:=λL h1 h2 h3 h4 h5 h6 h7=>Ra (L:=L) h1 h2 h3 h4 h5 h6 h7 (Dn p v) [] (by simpa using hN);rw [hr] at hY;obtain ⟨q1,q2,q3,q4⟩:=p;obtain ⟨u1,u2,u3,u4⟩:=v;simp only at hY ⊢;refine Ad A4 Tryz.func73 (by decide +kernel) rfl [1,2,3,4,5,6,7,8,9,10,11,12,13] rfl rfl ?_;refine bg [] rfl (by simp) ?_;refine Az (st0:=[]) (fr:=[6,7]) [] [(6,6),(7,7)] rfl (by simp) hP trivial rfl rfl rfl rfl ?_;refine bd [] rfl (by simp) ?_
 refine Nc (y:=3) (j:=4) (j2:=5) (stc:=ER (.mk q1 q2 q3 q4) (.mk u1 u2 u3 u4)) (stc':=ER (.mk q1 q2 q3 q4) (.mk u1 u2 u3 u4)) (stx:=OH []) (stB:=OH (b::r)) (pend:=none) (E:=[(4,.ref 3 0),(5,.ref 4 0),(6,.ref 5 0)]) (ids':=[9,10,11,12,13]) (d:=.tup []) rfl Tryz.func174 (by decide +kernel) rfl (by decide) ⟨rfl,rfl,rfl,trivial⟩
   (Ea ⟨rfl,rfl,rfl,rfl,rfl,trivial⟩) (λL h1 h2 h3 h4 h5 h6 h7=>?_) ?_ ?_ ?_ ?_ ?_
 ·exact hP1 true _ _ (hY L h1 h2 h3 h4 h5 h6 h7)
 ·simp [ER,OH,DN]
 ·simp [ER,DN]
 ·intro i hi;have e:Is (F6 (DA (AS []++[(6,6),(7,7)])) []++F6 (DA (AS []++[(6,6),(7,7)])) [.ref 6 0,.ref 7 0])=[6,7]:=rfl;rw [e] at hi;simpa [ER,DN,Fc,Tx,Is,It] using hi
 ·refine ⟨by decide,?_⟩;simp [OH,UL,It,Fc,Tx,Is,DN]
 ·refine bd [] rfl (by simp [Ah]) ?_;exact Ab ⟨_,rfl,rfl,rfl,trivial⟩
theorem IG {c:Cse} {v:Ty} (h:D6 c v=true):∀p∈c.rows,BA p=true/\L4 p v=true/\Ai p<=12:=by
 simp only [D6,Bool.and_eq_true] at h;obtain ⟨⟨h1,_⟩,h2⟩:=h;obtain ⟨_,_,_,_,hr⟩:=CY h1;intro p hp;obtain ⟨h3,h4⟩:=hr p hp;simp only [Bz,Bool.and_eq_true,decide_eq_true_eq] at h3;exact ⟨h3.2.1,Ye c.datas p c.type v h3.2.1 h4 h2,h3.1⟩
theorem SU (c:Cse) (v:Ty):Al Tryz.prog 47 [.agg (dCse c),.agg (dTyc v)] (bif D6 c v then (bif decide (CE v 0 c.rows<0) then .tup [.int .i64 0,.int .i64 5] else .tup [.int .i64 (CE v 0 c.rows),.int .i64 0]) else .tup [.int .i64 0,.int .i64 2]):=by
 have hA:=VX c v;have hR:=λh=>lF c (Bu (D7 c.datas)) v (λp hp=>(IG (c:=c) (v:=v) h p hp).2.1);have hE:=λh=>S9 v c.rows 0 (λp hp=>⟨(IG (c:=c) (v:=v) h p hp).1,(IG (c:=c) (v:=v) h p hp).2.1⟩);obtain ⟨ds,⟨c1,c2,c3,c4⟩,rows⟩:=c;obtain ⟨g,m,z,vs⟩:=v;generalize D6 ⟨ds,.mk c1 c2 c3 c4,rows⟩ (.mk g m z vs)=b at *;simp only at hE ⊢;refine Ad A4 Tryz.func47 (by decide +kernel) rfl [3,4,5] rfl rfl ?_;refine bg [] rfl (by simp) ?_;cases b with
 | false =>
  refine Ac rfl (λ_=>hA) (by simp) ?_;refine bg [] rfl (by simp) ?_;refine Aa rfl (λh=>?_) (λh=>by simp at h);refine bd [] rfl (by simp) ?_;exact Ab ⟨_,rfl,tV rfl,trivial⟩
 | true =>
  refine Ac rfl (λ_=>hA) (by simp) ?_;refine bg [] rfl (by simp) ?_;refine Aa rfl (λh=>by simp at h) (λh=>?_);refine bd [] rfl (by simp) ?_;refine Ac rfl (λ_=>hR rfl) (by simp) ?_;refine bg [] rfl (by simp) ?_;rw [<- hE rfl];generalize H3 (.mk g m z vs) 0 rows=n;refine Aa rfl (λh=>?_) (λh=>?_)
  ·refine bd [] rfl (by simp) ?_;rw [show decide (n<0)=true from h];exact Ab ⟨_,rfl,tV rfl,trivial⟩
  ·refine bd [] rfl (by simp) ?_;rw [show decide (n<0)=false from h];exact Ab ⟨_,rfl,tV rfl,trivial⟩
def Cw (c:Cse) (r:Int):Bool:=decide (0<=r)&&decide (r<c.rows.length)
def MP (c:Cse) (r:Int) (v:Ty):List (Str×Ty)×Int:=bif D6 c v&&Cw c r then (match c.rows[r.toNat]? with
 | some p=>bif (AR p v).2 then ((AR p v).1,0) else ([],5)
 | none=>([],2)) else ([],2)
mutual
theorem L8:∀(p v:Ty),∀b∈(AR p v).1,Ai b.2<=Ai v
 | .mk f n x ps,v,b,hb=>by
  simp only [AR] at hb
  split at hb
  ·simp at hb
  ·split at hb
   ·simp at hb;subst hb;exact Nat.le_refl _
   ·split at hb
    ·simp at hb
    ·have:=Kn ps (Bm v) b hb;obtain ⟨g,m,z,vs⟩:=v;simp only [Bm] at this;simp only [Ai];omega
theorem Kn:∀(ps vs:List Ty),∀b∈(Bv ps vs).1,Ai b.2<=Ag vs
 | [],_,b,hb=>by simp [Bv] at hb
 | _::_,[],b,hb=>by simp [Bv] at hb
 | p::r,q::s,b,hb=>by
  simp only [Bv] at hb;cases hc:(AR p q).2&&(Bv r s).2
  ·rw [hc] at hb;simp at hb
  ·rw [hc] at hb;simp only [cond_true,List.mem_append] at hb;simp only [Ag];rcases hb with hb | hb
   ·have:=L8 p q b hb;omega
   ·have:=Kn r s b hb;omega
end
set_option maxHeartbeats 1000000 in
theorem SR (c:Cse) (r:Int) (v:Ty) (hv:Ai v<=1000000):Al Tryz.prog 24 [.agg (dCse c),.int .i64 r,.agg (dTyc v)] (.tup [.sl (BV (MP c r v).1),.int .i64 (MP c r v).2]):=by
 have hA:=VX c v;have hT:=Pr c r;have hrows:=λh=>IG (c:=c) (v:=v) h;unfold MP;have hth:Cw c r=(decide (0<=r)&&decide (r<c.rows.length)):=rfl;rw [<- hth] at hT;obtain ⟨ds,⟨c1,c2,c3,c4⟩,rows⟩:=c;have hmN:=λp=>L8 p v;have hM:=λp hok hN=>dT p v hok hN;have hMo:=λp hok hN b rr h=>Zz p v hok hN (b:=b) (r:=rr) h;have hRM:=λp hw hok=>P6 p v hw hok;have hPL:=λp=>RY p v;generalize hV:v=V at *;obtain ⟨g,m,z,vs⟩:=V;generalize D6 ⟨ds,.mk c1 c2 c3 c4,rows⟩ (.mk g m z vs)=b at *;generalize Cw ⟨ds,.mk c1 c2 c3 c4,rows⟩ r=tb at *;simp only at hth hrows ⊢;refine Ad A4 Tryz.func24 (by decide +kernel) rfl [3,4,5,6,7] rfl rfl ?_;refine bg [] rfl (by simp) ?_;cases b with
 | false =>
  refine Ac rfl (λ_=>hA) (by simp) ?_;refine bg [] rfl (by simp) ?_;refine Ac rfl (λ_=>hT) (by simp [Ah]) ?_;refine bg [] rfl (by simp [Ah]) ?_;refine Aa rfl (λh=>?_) (λh=>by simp at h);refine bd [] rfl (by simp) ?_;exact Ab ⟨_,rfl,tV rfl,trivial⟩
 | true =>
 refine Ac rfl (λ_=>hA) (by simp) ?_;refine bg [] rfl (by simp) ?_;refine Ac rfl (λ_=>hT) (by simp [Ah]) ?_;refine bg [] rfl (by simp [Ah]) ?_;cases tb with
 | false =>
  refine Aa rfl (λh=>?_) (λh=>by simp at h);refine bd [] rfl (by simp) ?_;exact Ab ⟨_,rfl,tV rfl,trivial⟩
 | true =>
 refine Aa rfl (λh=>by simp at h) (λh=>?_);clear h;have hth2:0<=r/\r<rows.length:=by simpa using hth.symm
 obtain ⟨p,hp⟩:=Am (l:=rows) (i:=r.toNat) (by omega);obtain ⟨hw,hok,h12⟩:=hrows rfl p (List.mem_of_getElem? hp);have hpl:=hPL p;have hM:=hM p hok (by omega);have hMo:=hMo p hok (by omega);obtain ⟨e1,e2⟩:=hRM p hw hok;have hmN:=hmN p;rw [e2,e1] at hM;simp only [Bool.and_self,cond_true,hp];refine bd [] rfl (by simp) ?_;refine bi rfl (c:=dTyc p) (λ_=>⟨hth2.1,by simpa using At hp,by simp⟩) (by simp) ?_;refine bg [] rfl (by simp) ?_;cases hmb:(AR p (.mk g m z vs)).2 with
 | false =>
  rw [hmb] at hM;refine Ac rfl (λ_=>hM) (by simp) ?_;refine bg [] rfl (by simp;rfl) ?_;refine Aa rfl (λh=>?_) (λh=>by simp at h);refine bd [] rfl (by simp) ?_;exact Ab ⟨_,rfl,tV rfl,trivial⟩
 | true =>
 rw [hmb] at hM e1;rw [e1] at e2;simp only [cond_true] at e2 ⊢;cases hml:(AR p (.mk g m z vs)).1 with
 | nil =>
  rw [hml] at hM;refine Ac rfl (λ_=>hM) (by simp) ?_;refine bg [] rfl (by simp;rfl) ?_;refine Aa rfl (λh=>by simp at h) (λh=>?_);refine bd [] rfl (by simp [BV]) ?_;refine Ku (Q6 ?_);refine bd [] rfl (by simp [BV]) ?_;refine Aa rfl (λh=>by simp [BV] at h) (λh=>?_);refine Ar rfl ?_;refine bd [] rfl (by simp [BV]) ?_;exact Ab ⟨_,rfl,tV rfl,trivial⟩
 | cons x rr =>
  rw [hml] at e2 hmN;have hrun:EH [] (Dn p (.mk g m z vs))=(x::rr,true):=Prod.ext e2 e1;have hlenL:(x::rr).length<=12:=by
   have:=Qb p (.mk g m z vs);rw [hml] at this;omega
  refine Az (st0:=[]) (fr:=[5]) [] [(8,5)] rfl (by simp) (hMo x rr hrun) trivial rfl rfl rfl rfl ?_;generalize x::rr=l at *;refine bg [] rfl (by simp;rfl) ?_;refine Aa rfl (λh=>by simp at h) (λh=>?_);clear h;refine bd [] rfl (by simp) ?_;refine Ak (λi:Nat=>[(41,.imm (.int .i64 i)),(40,.imm (.int .i64 (BV l).length)),(10,.own 5 (BV l).length)]) (λ_=>[(5,some (.row 101 5 (BV l)))]) [3,4,6,7] (λi=>(BV l).length-i)
   (λi=>i<=(BV l).length) 0 (Nat.zero_le _) ⟨rfl,rfl,rfl,trivial⟩ ⟨rfl,trivial⟩ rfl λi hi ih=>?_
  refine bd [] rfl (by simp) ?_;refine Aa rfl (λh=>?_) (λh=>?_)
  ·simp at h;obtain ⟨bb,hb⟩:=Am h;have hbn:=hmN bb (List.mem_of_getElem? hb);have hbd:(BV l)[i]?=some (LX bb):=by simp [BV,hb]
   have hcp:=IF bb.2 (by omega);obtain ⟨bs,b1,b2,b3,b4⟩:=bb;refine bd [] rfl (by simp) ?_;refine E9 A4 rfl (λ_=>⟨by simp,by simp;omega⟩) (by simp) ?_;refine bg [] rfl (by simp) ?_;refine OQ (e:=LX (bs,.mk b1 b2 b3 b4)) A4 rfl (λ_=>by simpa using hbd) rfl (by simp) ?_;refine bg [] rfl (by simp) ?_;refine Ac rfl (λ_=>hcp) (by simp) ?_;refine bg [] rfl (by simp) ?_;refine E9 A4 rfl (λ_=>⟨by simp,by simp;omega⟩) (by simp) ?_;refine bg [] rfl (by simp) ?_;refine Jx A4 (e:=LX (bs,.mk b1 b2 b3 b4)) (e':=LX (bs,.mk b1 b2 b3 b4)) rfl (by simpa using hbd) (by show 1+4<=5;decide) rfl (by simp) ?_;have hset:(BV l).set (i:Int).toNat (LX (bs,.mk b1 b2 b3 b4))=BV l:=by
    refine List.ext_getElem? λj=>?_;rw [List.getElem?_set]
    split
    ·rename_i hj;simp at hj;subst hj;rw [hbd];have:i<(BV l).length:=by simp;omega
     simp [h]
    ·rfl
   simp only;rw [hset];refine bg [] rfl (by simp) ?_;exact Ae (ih (i+1) (by simp;omega) (by simp;omega)) ⟨As (B9 (by omega) (by simp at hi;omega)),rfl,rfl,trivial⟩ ⟨rfl,trivial⟩ rfl
  ·refine Ar rfl ?_;refine BM 5 rfl ?_;refine bd [] rfl (by simp) ?_;exact Ab ⟨_,rfl,tV rfl,trivial⟩
def Vw (l:List Ty):Bool:=l.all (λt=>decide (0<=Bg t 20))&&decide (l.length<=5)
def M6 (c:Cse):Bool:=(decide (c.datas.length<=6)&&decide (c.rows.length<=7)&&decide (0<=Bg c.type 20))&&(c.rows.all (λp=>decide (0<=Bg p 20))&&c.datas.all (λd=>decide (d.cons.length<=7)&&d.cons.all λk=>Vw k.args))
def I0 (v:Ty):Bool:=decide (0<=Bw v 300 110)
theorem mB (l:List Ty):Al Tryz.prog 43 [.sl (Bq l)] (.bool (Vw l)):=by
 refine Ad A4 Tryz.func43 (by decide +kernel) rfl [1,2] rfl rfl ?_;refine bg [] rfl (by simp) ?_;refine Ak (λi:Nat=>[(3,.imm (.int .i64 i)),(0,.imm (.sl (Bq l)))]) (λ_=>[]) [1,2] (λi=>l.length-i)
  (λi=>i<=l.length/\i<=6/\l.all (λt=>decide (0<=Bg t 20))=(l.drop i).all (λt=>decide (0<=Bg t 20))) 0 ⟨Nat.zero_le _,by simp,rfl⟩ ⟨rfl,rfl,trivial⟩ trivial rfl λi hi ih=>?_
 obtain ⟨hi1,hi0,hi2⟩:=hi;refine bd [] rfl (by simp [Ah]) ?_;by_cases hlt:i<l.length/\i<6
 case neg =>
  refine Aa rfl (λh=>by exfalso;simp at h;omega) (λh=>?_);refine Ar rfl ?_;refine bd [] rfl (by simp) ?_;refine Ab ⟨_,rfl,tV (congrArg _ ?_),trivial⟩;simp only [Vw,dTys_length];by_cases h5:l.length<=5
  ·rw [hi2,List.drop_eq_nil_of_le (by omega)];simp [h5];omega
  ·simp [h5];omega
 refine Aa rfl (λh=>?_) (λh=>by exfalso;simp at h;omega);obtain ⟨t,ht⟩:=Am hlt.1;rw [DS ht] at hi2;refine bd [] rfl (by simp) ?_;refine bi rfl (c:=dTyc t) (λ_=>⟨by simp,by simpa using At ht,by simp⟩) (by simp) ?_;refine bg [] rfl (by simp) ?_;refine Ac rfl (λ_=>Ge t 20 (by decide) (by decide)) (by simp) ?_;refine bg [] rfl (by simp) ?_;refine Aa rfl (λh=>?_) (λh=>?_)
 ·refine bd [] rfl (by simp) ?_;refine Ab ⟨_,rfl,tV (congrArg _ ?_),trivial⟩;simp at h;rw [Vw,hi2,show decide (0<=Bg t 20)=false by simp;omega];simp
 ·refine bd [] rfl (by simp) ?_;simp at h;exact Ae (ih (i+1) (by omega) ⟨by omega,by omega,by rw [hi2,show decide (0<=Bg t 20)=true by simpa using h];simp⟩) ⟨As (B9 (by omega) (by omega)),rfl,trivial⟩ trivial rfl
set_option maxHeartbeats 1000000 in
theorem YX (c:Cse):Al Tryz.prog 9 [.agg (dCse c)] (.bool (M6 c)):=by
 have hWT:=Ge c.type 20 (by decide) (by decide);obtain ⟨ds,t,rows⟩:=c;simp only [M6] at hWT ⊢;generalize Bg t 20=wt at *;obtain ⟨c1,c2,c3,c4⟩:=t;refine Ad A4 Tryz.func9 (by decide +kernel) rfl [1,2] rfl rfl ?_;refine bg [] rfl (by simp [Ah]) ?_;refine Ac rfl (λ_=>hWT) (by simp [Ah]) ?_;refine bg [] rfl (by simp [Ah]) ?_;by_cases hg:ds.length<=6/\rows.length<=7/\0<=wt
 case neg =>
  refine Aa rfl (λh=>?_) (λh=>by exfalso;apply hg;simp at h;omega);refine bd [] rfl (by simp) ?_;refine Ab ⟨_,rfl,tV (congrArg _ ?_),trivial⟩;rw [show (decide (ds.length<=6)&&decide (rows.length<=7)&&decide (0<=wt))=false by simp;omega];simp
 obtain ⟨g1,g2,g3⟩:=hg;rw [show (decide (ds.length<=6)&&decide (rows.length<=7)&&decide (0<=wt))=true by simp;omega,Bool.true_and];refine Aa rfl (λh=>by exfalso;simp at h;omega) (λh=>?_);clear h;refine bd [] rfl (by simp) ?_;refine Ak (λi:Nat=>[(3,.imm (.int .i64 i)),(1,.ref 1 0)]) (λ_=>[(1,some (.immb 29 6 (dCse ⟨ds,.mk c1 c2 c3 c4,rows⟩)))]) [2] (λi=>rows.length-i)
  (λi=>i<=rows.length/\rows.all (λp=>decide (0<=Bg p 20))=(rows.drop i).all (λp=>decide (0<=Bg p 20))) 0 ⟨Nat.zero_le _,rfl⟩ ⟨rfl,rfl,trivial⟩ ⟨rfl,trivial⟩ rfl λi hi ih=>?_
 obtain ⟨hi1,hi2⟩:=hi;refine bd [] rfl (by simp) ?_;refine Aa rfl (λh=>?_) (λh=>?_)
 ·simp at h;obtain ⟨p,hp⟩:=Am h;rw [DS hp] at hi2;refine bd [] rfl (by simp) ?_;refine bi rfl (c:=dTyc p) (λ_=>⟨by simp,by simpa using At hp,by simp⟩) (by simp) ?_;refine bg [] rfl (by simp) ?_;refine Ac rfl (λ_=>J8 p 20 (by decide) (by decide)) (by simp) ?_;refine bg [] rfl (by simp) ?_;refine Aa rfl (λh=>?_) (λh=>?_)
  ·refine bd [] rfl (by simp) ?_;refine Ab ⟨_,rfl,tV (congrArg _ ?_),trivial⟩;simp at h;rw [hi2,show decide (0<=Bg p 20)=false by simp;omega];simp
  ·refine bd [] rfl (by simp) ?_;simp at h;exact Ae (ih (i+1) (by omega) ⟨by omega,by rw [hi2,show decide (0<=Bg p 20)=true by simpa using h];simp⟩) ⟨As (B9 (by omega) (by omega)),rfl,trivial⟩ ⟨rfl,trivial⟩ rfl
 simp at h;refine Ar rfl ?_;refine bd [] rfl (by simp) ?_;rw [hi2,List.drop_eq_nil_of_le h,List.all_nil,Bool.true_and];refine Ak (λi:Nat=>[(4,.imm (.int .i64 i)),(1,.ref 1 0)]) (λ_=>[(1,some (.immb 29 6 (dCse ⟨ds,.mk c1 c2 c3 c4,rows⟩)))]) [2] (λi=>ds.length-i)
  (λi=>i<=ds.length/\ds.all (λd=>decide (d.cons.length<=7)&&d.cons.all λk=>Vw k.args)=(ds.drop i).all (λd=>decide (d.cons.length<=7)&&d.cons.all λk=>Vw k.args)) 0 ⟨Nat.zero_le _,rfl⟩ ⟨rfl,rfl,trivial⟩ ⟨rfl,trivial⟩ rfl λi hi ih=>?_
 obtain ⟨hi1,hi2⟩:=hi;refine bd [] rfl (by simp) ?_;refine Aa rfl (λh=>?_) (λh=>?_)
 ·simp at h;obtain ⟨d,hd⟩:=Am h;rw [DS hd] at hi2;refine bd [] rfl (by simp) ?_;refine bi rfl (c:=C7 d) (λ_=>⟨by simp,by simpa using Bk hd,by simp⟩) (by simp) ?_;obtain ⟨dn,dc⟩:=d;simp only at hi2;refine bg [] rfl (by simp) ?_;by_cases h7:dc.length<=7
  case neg =>
   refine Aa rfl (λh=>?_) (λh=>by exfalso;simp at h;omega);refine bd [] rfl (by simp) ?_;rw [hi2,show decide (dc.length<=7)=false by simpa using h7];exact Ab ⟨_,rfl,tV (congrArg _ (by simp)),trivial⟩
  rw [show decide (dc.length<=7)=true by simpa using h7,Bool.true_and] at hi2;refine Aa rfl (λh=>by exfalso;simp at h;omega) (λh=>?_);clear h;refine bd [] rfl (by simp) ?_;refine Ak (λk:Nat=>[(5,.imm (.int .i64 k)),(4,.imm (.int .i64 i)),(1,.ref 1 0)]) (λ_=>[(1,some (.immb 29 6 (dCse ⟨ds,.mk c1 c2 c3 c4,rows⟩)))]) [2] (λk=>dc.length-k)
   (λk=>k<=dc.length/\dc.all (λk=>Vw k.args)=(dc.drop k).all (λk=>Vw k.args)) 0 ⟨Nat.zero_le _,rfl⟩ ⟨rfl,rfl,rfl,trivial⟩ ⟨rfl,trivial⟩ rfl λk hk jh=>?_
  obtain ⟨hk1,hk2⟩:=hk;refine bd [] rfl (by simp) ?_;refine bi rfl (c:=C7 ⟨dn,dc⟩) (λ_=>⟨by simp,by simpa using Bk hd,by simp⟩) (by simp) ?_;refine bg [] rfl (by simp) ?_;refine Aa rfl (λh=>?_) (λh=>?_)
  ·simp at h;obtain ⟨c,hc⟩:=Am h;rw [DS hc] at hk2;refine bd [] rfl (by simp) ?_;refine bi rfl (c:=C7 ⟨dn,dc⟩) (λ_=>⟨by simp,by simpa using Bk hd,by simp⟩) (by simp) ?_;refine bg [] rfl (by simp) ?_;refine bi rfl (c:=Ds c) (λ_=>⟨by simp,by simpa using Bk hc,by simp⟩) (by simp) ?_;obtain ⟨cn,ca⟩:=c;simp only at hk2;refine bg [] rfl (by simp) ?_;refine Ac rfl (λ_=>mB ca) (by simp) ?_;refine bg [] rfl (by simp) ?_;refine Aa rfl (λh=>?_) (λh=>?_)
   ·refine bd [] rfl (by simp) ?_;refine Ab ⟨_,rfl,tV (congrArg _ ?_),trivial⟩;simp at h;rw [hi2,hk2,h];simp
   ·refine bd [] rfl (by simp) ?_;simp at h;exact Ae (jh (k+1) (by omega) ⟨by omega,by rw [hk2,h];simp⟩) ⟨As (B9 (by omega) (by omega)),rfl,rfl,trivial⟩ ⟨rfl,trivial⟩ rfl
  ·simp at h;refine Ar rfl ?_;refine bd [] rfl (by simp) ?_;rw [List.drop_eq_nil_of_le (by omega)] at hk2;exact Ae (ih (i+1) (by omega) ⟨by omega,by rw [hi2,hk2];simp⟩) ⟨As (B9 (by omega) (by omega)),rfl,trivial⟩ ⟨rfl,trivial⟩ rfl
 ·simp at h;refine Ar rfl ?_;refine bd [] rfl (by simp) ?_;rw [hi2,List.drop_eq_nil_of_le (by omega)];exact Ab ⟨_,rfl,tV rfl,trivial⟩
theorem Z4 (v:Ty):Al Tryz.prog 70 [.agg (dTyc v)] (.bool (I0 v)):=by
 have hW:=Kc v 300 110 (by decide) (by decide) (by decide) (by decide);unfold I0;generalize Bw v 300 110=w at *;obtain ⟨s,n,x,ps⟩:=v;refine Ad A4 Tryz.func70 (by decide +kernel) rfl [1,2] rfl rfl ?_;refine bg [] rfl (by simp) ?_;refine Ac rfl (λ_=>hW) (by simp) ?_;refine bg [] rfl (by simp) ?_;refine Ab ⟨_,rfl,tV (congrArg _ ?_),trivial⟩;simp
def HV (c:Cse) (v:Ty):Bool:=Ky c&&Mt v&&II c.datas c.type v
theorem VR {c:Cse} (h:Ky c=true):OkD c.datas/\AB c.datas c.type=true:=by
 simp only [Ky,Bool.and_eq_true] at h;exact ⟨OkD.of h.1.1.1.1,h.1.1.2⟩
theorem Yy (c:Cse) (v:Ty):Al Tryz.prog 71 [.agg (dCse c),.agg (dTyc v)] (.bool (HV c v)):=by
 have hC:=jM c;have hV:=mI v;have hO:=λh=>kS c.type c.rows c.datas (VR (c:=c) h).1 v c.type (VR h).2;unfold HV;generalize Ky c=b1 at *;generalize Mt v=b2 at *;generalize II c.datas c.type v=b3 at *;obtain ⟨ds,⟨c1,c2,c3,c4⟩,rows⟩:=c;obtain ⟨s,n,x,ps⟩:=v;refine Ad A4 Tryz.func71 (by decide +kernel) rfl [1,2,3] rfl rfl ?_;refine bg [] rfl (by simp) ?_;refine Ac rfl (λ_=>hC) (by simp) ?_;refine bg [] rfl (by simp) ?_;refine Ac rfl (λ_=>hV) (by simp [Ah]) ?_;refine bg [] rfl (by simp [Ah]) ?_;refine Ac rfl (λh=>hO (by simp [Ah] at h;exact h.1)) (by simp [Ah]) ?_;refine bg [] rfl (by simp [Ah]) ?_;refine Ab ⟨_,rfl,tV (congrArg _ ?_),trivial⟩;simp
mutual
theorem NC:∀t:Ty,(CA true t&&DK Jr t)=CA false t
 | .mk s n x ps=>by
  have ih:=Lq ps;simp only [CA,DK,Jr];by_cases h9:s=9
  ·subst h9;simp [BQ]
  ·have:BQ true s n x ps.length=BQ false s n x ps.length:=by simp [BQ,h9]
   have h:(s == 9)=false:=by simpa using h9
   rw [this,h,<- ih];cases BQ false s n x ps.length <;> simp
theorem Lq:∀l:List Ty,(CF true l&&DT Jr l)=CF false l
 | []=>rfl
 | t::r=>by
  simp only [CF,DT,<- NC t,<- Lq r];cases CA true t <;> cases DK Jr t <;> cases CF true r <;> simp
end
theorem cR (ds:List Dt):G0 ds=GI ds:=by
 have hm:Hf ⟨[109],ds,[Hi]⟩=DV ⟨[109],ds,[Hi]⟩:=by
  simp only [Hf,DV];have e1:ds.all EC=ds.all HX:=by congr 1;exact funext fJ
  have e2:[Hi].all LP=[Hi].all Vs:=by decide +kernel
  rw [e1,e2];simp [EJ]
 simp only [G0,GI,hm];cases DV ⟨[109],ds,[Hi]⟩ <;> cases BZ ds ds <;> simp
theorem Nn (c:Cse):Bn c=Ky c:=by
 have hT:(BK true c.type&&DK Jr c.type)=ET c.type:=by
  rw [<- LQ];simp only [BK];rw [Bool.and_assoc,NC]
 have hR:c.rows.all (IH c)=c.rows.all (cH c):=by
  congr 1;funext p;simp only [IH,cH,aH]
 simp only [Bn,H6,Ky,hR,cR,<- hT];cases GI c.datas <;> cases decide (c.rows.length<=5) <;> cases BK true c.type <;> cases AB c.datas c.type <;> cases DK Jr c.type <;> simp
theorem U4 (s n:Int) (x:Str) (k:Nat):JF s n x k=FN s n x k:=by
 simp only [JF,FN,EJ]
 split
 ·rfl
 ·split
  ·congr 2;by_cases h0:n=0
   ·simp [h0]
   ·by_cases h1:n=1
    ·simp [h1]
    ·have:(n == 0||n == 1)=false:=by simp [h0,h1]
     rw [this];symm;simp;omega
  ·rfl
mutual
theorem SO:∀v:Ty,Mk v=CK v
 | .mk s n x ps=>by simp only [Mk,CK,U4,QT ps];exact Bool.and_comm _ _
theorem QT:∀l:List Ty,SP l=Cx l
 | []=>rfl
 | t::r=>by simp only [SP,Cx,SO t,QT r]
end
theorem Xm (v:Ty):LR v=Mt v:=by simp only [LR,Mt,SO]
theorem aK (c:Cse) (v:Ty):D6 c v=HV c v:=by simp only [D6,HV,Nn,Xm]
mutual
theorem Lg:∀(t:Ty) (l d:Int),0<=Bw t l d->Bw t l d+Ai t<=l
 | .mk _ _ _ ps,l,d,h=>by
  simp only [Bw] at h ⊢;by_cases h0:l<1\/d<1
  ·rw [if_pos h0] at h;omega
  ·rw [if_neg h0] at h ⊢;have:=Kj ps (l-1) (d-1) h;simp only [Ai];omega
theorem Kj:∀(ts:List Ty) (l d:Int),0<=BE ts l d->BE ts l d+Ag ts<=l
 | [],l,d,h=>by simp [BE,Ag]
 | t::r,l,d,h=>by
  simp only [BE] at h ⊢;by_cases h0:0<=l
  ·rw [if_pos h0] at h ⊢;have h1:=Kj r (Bw t l d) d h;have h2:=(K0 r (Bw t l d) d (HB t l d).1)
   have h3:=Lg t l d (by omega);simp only [Ag];omega
  ·rw [if_neg h0] at h;omega
end
theorem T1 {v:Ty} (h:I0 v=true):Ai v<=300:=by
 have h:=of_decide_eq_true h;have:=Lg v 300 110 h;omega
end Go.Hk
namespace Go.Hk
def LV (kp:List Nat):St->St
 | []=>[]
 | (i,b)::r=>bif E5 kp i then LV kp r else (i,b)::LV kp r
theorem UV {kp:List Nat} {s:St} {i:Nat}:∀{W:St},lk (LV kp W++s) i=if i∈kp then lk s i else lk (W++s) i
 | []=>by simp [LV]
 | (k,b)::r=>by
  have ih:=UV (kp:=kp) (s:=s) (i:=i) (W:=r);simp only [LV];cases hm:E5 kp k with
  | true =>
   simp only [cond_true,List.cons_append];rw [ih];by_cases hi:i∈kp
   ·rw [if_pos hi,if_pos hi]
   ·rw [if_neg hi,if_neg hi,Av _ _ (λe:k=i=>hi (by rw [<- e];exact BB.1 hm))]
  | false =>
   simp only [cond_false,List.cons_append];by_cases hk:k=i
   ·subst hk;rw [Ao,if_neg (λh=>by rw [BB.2 h] at hm;cases hm),Ao]
   ·rw [Av _ _ hk,Av _ _ hk,ih]
def T4 (W st:St) (l:List Nat):List Nat->Prop
 | []=>True
 | i::r=>(E5 l i=true/\lk W i=lk st i)/\T4 W st l r
theorem NZ {W st:St} {l:List Nat}:∀{kp:List Nat},T4 W st l kp->∀i∈kp,i∈l/\lk W i=lk st i
 | [],_,i,h=>by cases h
 | k::r,h,i,hi=>by
  rcases List.mem_cons.1 hi with rfl | hi
  ·exact ⟨BB.1 h.1.1,h.1.2⟩
  ·exact NZ h.2 i hi
structure YH where
 f:FuncId
 das:List D
 g:Option (Bool×Bool)
 ob:List Prop
 dst:Option Nat
 o:Oper
 all:List Oper
def Ys (n:Nat) (env:Env) (todo:List DI):Option YH :=
 match AU todo ([],[]) with
 | some (all,o,_)=>match BX all env o,o.op with
  | some g,.call { callee:=.value (.func f),args:=⟨args⟩,.. }=>match H5 (Ah g) env args,B3 n o.dst with
   | some (ds,ob),true=>some ⟨f,ds,g,ob,o.dst,o,all⟩
   | _,_=>none
  | some g,.call { callee:=.value (.tmp t),args:=⟨args⟩,.. }=>match lk env t,H5 (Ah g) env args,B3 n o.dst with
   | some (.imm (.fn (.func f))),some (ds,ob),true=>some ⟨f,ds,g,ob,o.dst,o,all⟩
   | some (.fn (.func f) df dc),some (ds,ob),true=>some ⟨f,df++ds++dc,g,ob,o.dst,o,all⟩
   | _,_,_=>none
  | _,_=>none
 | none=>none
section
variable {P:Program} {n:Nat} {F:List Nat} {Q:DQ} {tt:TT} {env env':Env} {st st' st0 st1:St} {ids ids' fr:List Nat} {k todo todo':List DI} {I J:Imm} {μ:Mu} {w:World} {a:Act} {Pn:V->Prop} {d:D} {cx:Prop} {ob:List Prop} {σ τ1:List (Nat×Nat)} {das:List D}
theorem Vq {c:YH} (h:Ys n env todo=some c) (hob:AA c.ob):(∀f,∃todo',AU todo f=some (c.all,c.o,todo'))/\BX c.all env c.o=some c.g/\DZ P c.o env c.f c.das (Ah c.g)/\B3 n c.dst=true/\(∀x,c.o.op ≠ .defer x)/\c.dst=c.o.dst:=by
 unfold Ys at h;have hnext:∀{all:List Oper} {o:Oper} {t:List DI},AU todo ([],[])=some (all,o,t)->∀f,∃todo',AU todo f=some (all,o,todo'):=by
  intro all o t h f;rcases HL h with ⟨r,k,rfl,_⟩ | ⟨r,fs,k,rfl,_⟩
  ·exact ⟨_,rfl⟩
  ·exact ⟨_,rfl⟩
 split at h
 ·rename_i all o t h1
  split at h
  ·rename_i g f args ts hg ho
   split at h
   ·rename_i ds ob ha hd;cases h;exact ⟨hnext h1,hg,EG ho ha hob,hd,(λx hx=>by rw [ho] at hx;cases hx),rfl⟩
   ·cases h
  ·rename_i g t' args ts hg ho
   split at h
   ·rename_i f ds ob ht ha hd;cases h;exact ⟨hnext h1,hg,DY ho ht ha hob,hd,(λx hx=>by rw [ho] at hx;cases hx),rfl⟩
   ·rename_i f df dc ds ob ht ha hd;cases h;exact ⟨hnext h1,hg,H7 ho ht ha hob,hd,(λx hx=>by rw [ho] at hx;cases hx),rfl⟩
   ·cases h
  ·cases h
 ·cases h
theorem dZ {all:List Oper} {o:Oper} {f:FuncId} {g:Option (Bool×Bool)} (hg:BX all env o=some g) (hcx:Ah g) (hc:DZ P o env f das (Ah g)) (hE:Bc P f (F6 (DA σ) das) st0 (.ret d st1)) (hb:Fq σ st st0)
  (hn:KH σ τ1 das st0 d st1 fr=true) (kp:List Nat) (hkp:T4 (DG (AS σ++τ1) st1++Cb (FB σ)) st (FB σ) kp) :
  LD P Pn all o env st (FB σ) fr (LV kp (DG (AS σ++τ1) st1++Cb (FB σ))) (gD g (IZ (DA (AS σ++τ1)) d)):=by
 intro I μ st2 ids1 a w hag hst hon;have hwant:=FY hg hon;refine ⟨λ_=>?_,λhw=>by rw [hwant.2 hcx] at hw;cases hw⟩;obtain ⟨xs,h1,h2⟩:=hc I μ a w (AT hon) hcx;have hb':=Gd hag hb;have hN:=ML hn;obtain ⟨q1,q2,q3⟩:=GN hst hb' hN.args h1;rw [h2];refine (hE I _ w xs q1 q2).mono (λu w' hu=>?_) (λ_ _ h=>h.elim);obtain ⟨I',μ',r1,r2,r3,r4⟩:=hu;obtain ⟨ν,s1,s2,s3,s4⟩:=Ka hst hb' hN r1 r2 r3 r4 q3;rw [<- JR] at s1 s4;have hsame:∀i,lk (DG (AS σ++τ1) st1++Cb (FB σ)++st2) i=lk (LV kp (DG (AS σ++τ1) st1++Cb (FB σ))++st2) i:=λi=>by
  rw [UV];by_cases hi:i∈kp
  ·rw [if_pos hi];obtain ⟨k1,k2⟩:=NZ hkp i hi;have hm:i∈(DG (AS σ++τ1) st1++Cb (FB σ)).map (·.1):=by
    rw [List.map_append,J3];exact List.mem_append.2 (.inr k1)
   rw [Ff hm,k2,hag i k1]
  ·rw [if_neg hi]
 refine ⟨I',ν,s1.congr hsame,?_,s3,s4.congr (λ_=>rfl) hsame⟩;cases g with
 | none=>exact s2
 | some p=>exact .guard _ _ _ _ (λ_=>s2) (λhn=>absurd hcx hn)
theorem Ce {c:YH} (σ τ1:List (Nat×Nat)) (kp:List Nat) {fr:List Nat} {nm:List Nat} (h:Ys n env todo=some c) (hcx:Ah c.g) (hob:AA c.ob) (hE:Bc P c.f (F6 (DA σ) c.das) st0 (.ret d st1)) (hb:Fq σ st st0)
  (hn:KH σ τ1 c.das st0 d st1 fr=true) (hkp:T4 (DG (AS σ++τ1) st1++Cb (FB σ)) st (FB σ) kp) (hnm:(LV kp (DG (AS σ++τ1) st1++Cb (FB σ))).map (·.1)=nm)
  (h1:AU todo (FB σ,nm)=some (c.all,c.o,todo')) (hids:ids=fr++ids')
  (hk:G P n F Q todo' (B1 c.dst (gD c.g (IZ (DA (AS σ++τ1)) d)) env) (LV kp (DG (AS σ++τ1) st1++Cb (FB σ))++st) ids'):G P n F Q todo env st ids:=by
 obtain ⟨_,q2,q3,q4,q5,q6⟩:=Vq (P:=P) h hob;subst hids;rw [q6] at q4 hk;subst hnm;exact By h1 (dZ q2 hcx q3 hE hb hn kp hkp) q4 q5 hk
def bY:V->Bool
 | .tup xs=>Dg xs
 | .agg xs=>Dg xs
 | x=>EL x
theorem Zc {v:Value} {x:V} (h:bY x=true) (hr:RepV J v x):RepV I v x:=by
 have hm:∀{xs:List V} {i:Nat} {x:V},Dg xs=true->xs[i]?=some x->EL x=true:=by
  intro xs
  induction xs with
  | nil=>intro i x _ h;simp at h
  | cons y r ih =>
   intro i x hs h;simp only [Dg,Bool.and_eq_true] at hs;cases i with
   | zero=>simp at h;subst h;exact hs.1
   | succ i=>exact ih hs.2 (by simpa using h)
 cases hr with
 | tup cs xs hl hh=>exact .tup cs xs hl λi c x hc hx=>D8 (hm h hx) (hh i c x hc hx)
 | agg cs xs hl h1 hh=>exact .agg cs xs hl h1 λi c x hc hx=>D8 (hm h hx) (hh i c x hc hx)
 | bool b=>exact .bool b
 | int k n=>exact .int k n
 | str s l hs=>exact .str s l hs
 | _=>simp [bY,EL] at h
def aV (A:Asn):List D->List V->Prop
 | [],[]=>True
 | d::r,x::xs=>(lB d=some x\/∃v,d = .raw v/\∀us I w bs,A.P us I w bs->∀J,I.le J->(∀b∈bs,J b=w.heap[b]?)->RepV J v x)/\aV A r xs
 | _,_=>False
theorem R7 {A:Asn} {us:List Value} {bs:List Nat} (hA:A.P us I w bs) (hle:I.le J) (hJ:∀b∈bs,J b=w.heap[b]?):∀{ds:List D} {xs:List V} {vs:List Value},aV A ds xs->RepL I μ vs ds->RepVL J vs xs
 | [],[],vs,_,hr=>by
  have:=hr.1;cases vs with
  | nil=>exact .nil
  | cons=>simp at this
 | d::r,x::xs,[],_,hr=>by have:=hr.1;simp at this
 | d::r,x::xs,v::vs,h,hr=>by
  obtain ⟨h1,h2⟩:=hr.cons;refine .mk ?_ (R7 hA hle hJ h.2 h2);rcases h.1 with ht | ⟨u,rfl,hu⟩
  ·exact (OF ht h1).mono hle
  ·have:=h1.rawInv;subst this;exact hu us I w bs hA J hle hJ
 | [],_::_,_,h,_=>h.elim
 | _::_,[],_,h,_=>h.elim
theorem OS {c:YH} (id:Nat) {A:Asn} {vs:List V} {v:V} (h:Ys n env todo=some c) (hl:lk st id=some (some (.hp A))) (hv:Ah c.g->aV A c.das vs) (hE:Ah c.g->Al P c.f vs v) (hs:bY v=true) (hob:AA c.ob)
  (h1:AU todo ([id],[])=some (c.all,c.o,todo')) (hk:G P n F Q todo' (B1 c.dst (gD c.g (.imm v)) env) st ids):G P n F Q todo env st ids:=by
 obtain ⟨_,q2,q3,q4,q5,q6⟩:=Vq (P:=P) h hob;rw [q6] at q4 hk;refine By (fr:=[]) (wr:=[]) (rd:=[id]) h1 (C8 q2 λI μ st1 ids1 a w hag hst hops hcx=>?_) q4 q5 hk;obtain ⟨xs,h1,h2⟩:=q3 I μ a w hops hcx;rw [h2];have hl1:Ap st1 id (.hp A):=by unfold Ap;rw [hag id (by simp)];exact hl
 obtain ⟨gg,hgg,us,bs,rfl,hP⟩:=hst.blk id _ hl1;have hx:RepVL (QV w) xs.toList vs:=R7 hP (λb o h=>hst.imm b o h) (λb _=>rfl) (hv hcx) h1;have hst0:StRep (QV w) μ [] [] w:={ imm:=λb o h=>h,blk:=λi b h=>by simp [Ap,lk] at h,apart:=λi b g k h=>by simp [Ap,lk] at h,inj:=λi j bi bj gi gj k h=>by simp [Ap,lk] at h,nodup:=.nil,idsFree:=λi h=>by cases h }
 have hno:∀b,¬Br μ [] b:=λb ⟨i,bi,g,h,_⟩=>by simp [Ap,lk] at h
 refine (hE hcx (QV w) μ w xs hst0 hx.imm).mono (λu w' hu=>?_) (λ_ _ h=>h.elim);obtain ⟨I',μ',r1,r2,r3,r4⟩:=hu;have hlt:∀b o,I b=some o->b<w.heap.size:=λb o h=>by
  have:=hst.imm b o h;exact (Array.getElem?_eq_some_iff.1 this).1
 refine ⟨I,μ,hst.other r4.size (λb o h=>r4.block b (hlt b o h) (hno b)) (λb ho=>r4.block b (D0 hst ho) (hno b)),?_,Mu.le_refl μ,{ imm:=Imm.le_refl I,os:=r4.os,tape:=r4.tape,output:=r4.output,size:=r4.size,block:=λb hb _=>r4.block b hb (hno b),fresh:=λ_ _ h=>h,old:=λ_ _ _=>rfl }⟩;exact .imm _ _ (Zc hs r1.immInv)
end
end Go.Hk
namespace Go.Hk
def gB (e:TypeId) (C:Asn):Asn where
 P:=λvs I w bs=>∃c u us bs',vs=[.slice (some ⟨c,0,none⟩) 1 1]/\us[0]?=some u/\w.heap[c]?=some (.cells #[u] e (0,0))/\u.oneCell'=true/\C.P us I w bs'/\c∉bs'/\bs=c::bs'
 mono:=λh ⟨c,u,us,bs',h1,h2,h3,h4,h5,h6⟩=>⟨c,u,us,bs',h1,h2,h3,h4,C.mono h h5,h6⟩
 loc:=λh ⟨c,u,us,bs',h1,h2,h3,h4,h5,h6,h7⟩=>⟨c,u,us,bs',h1,h2,(h c (by simp [h7])).trans h3,h4,C.loc (λk hk=>h k (by simp [h7,hk])) h5,h6,h7⟩
structure PBh where
 e:TypeId
 dst:Option Nat
 todo:List DI
def kF (tt:TT) (n:Nat) (env:Env) (j q:Nat) (todo:List DI):Option PBh :=
 match AU todo ([j],[q,j]) with
 | some (_,o,todo')=>match o.guard,o.op with
  | none,.buildSlice t m ⟨[(k,x)]⟩=>match lk tt t,Di env x,B3 n o.dst with
   | some { sh:=.sl e,.. },some (.hv i l),true=>match lk tt e with
    | some ti=>match Nat.beq m 1,Nat.beq k 0,Nat.beq i j,Nat.beq l 0,Nat.beq ti.size 1 with
     | true,true,true,true,true=>some ⟨e,o.dst,todo'⟩
     | _,_,_,_,_=>none
    | none=>none
   | _,_,_=>none
  | _,_=>none
 | none=>none
structure PBo where
 e:TypeId
 es:List (List V)
 sz:Nat
 ob:List Prop
 dst:Option Nat
 todo:List DI
def kE (tt:TT) (n:Nat) (env:Env) (q:Nat) (todo:List DI):Option PBo :=
 match AU todo ([],[q]) with
 | some (_,o,todo')=>match o.guard,o.op with
  | none,.buildSlice t m ⟨parts⟩=>match lk tt t,B3 n o.dst with
   | some { sh:=.sl e,.. },true=>match lk tt e with
    | some i=>match Ho True env i.size 0 parts,Nat.beq m parts.length,Nat.ble (m*i.size) 16777216,Nat.blt 0 i.size,Nat.blt 0 m with
     | some (es,o'),true,true,true,true=>some ⟨e,es,i.size,o',o.dst,todo'⟩
     | _,_,_,_,_=>none
    | none=>none
   | _,_=>none
  | _,_=>none
 | none=>none
section
variable {P:Program} {n:Nat} {F:List Nat} {Q:DQ} {tt:TT} {env env':Env} {st st' st0 st1:St} {ids ids' fr:List Nat} {k todo todo':List DI} {I J:Imm} {μ:Mu} {w:World} {a:Act} {Pn:V->Prop} {d:D} {cx:Prop} {ob:List Prop}
theorem QM {t e:TypeId} {ti:TyI} (hu:P.underlying t=some (.slice e)) (hty:TyOk P e ti) (hsz:ti.size=1) (u:Value) (h1:u.oneCell'=true) :
  (Instr.buildSlice t 1 #[(0,u)]).run P w = .ok (.slice (some ⟨w.heap.size,0,none⟩) 1 1) (w.alloc (.cells #[u] e)):=by
 obtain ⟨inf,zv,hi1,hi2,_,hi4,hi5,hi6⟩:=hty.info;have hfill:∀A:Array Value,A.size=1->Instr.fill (λi=>some (i*1,1)) A [(0,u)]=some #[u]:=by
  intro A hA;obtain ⟨⟨x⟩,rfl⟩:∃l:List Value,A=⟨l⟩:=⟨A.toList,rfl⟩
  ·simp at hA
  ·rename_i y r;have hr:r=[]:=by cases r with | nil=>rfl | cons=>simp at hA
   subst hr;simp [Instr.fill,Fp h1]
 simp only [Instr.buildSlice,Sem.run_bind,run_underlying hu,hty.sizeOf w,Result.andThen_ok,hsz,Sem.run_pure,zeroValue,typeInfo,run_program,hi1,hi4];simp only [Nat.mul_one,show ¬((1:Nat) > 2 ^ 24) by decide,if_false,Nat.one_ne_zero,Sem.run_bind,run_program,Result.andThen_ok,hi1,hi4,Sem.run_pure];have:=hfill ((Array.range 1).map λk=>zv.cells[k % zv.cells.size]!) (by simp);simp only [Nat.mul_one] at this;rw [this];simp only [newRow,Sem.run_bind,run_newObj,Result.andThen_ok,Sem.run_pure];rfl
theorem eP (htt:TTok P tt) (j q:Nat) {C:Asn} {c:PBh} (h:kF tt n env j q todo=some c) (hl:lk st j=some (some (.hp C)))
  (hk:G P n F Q c.todo (B1 c.dst (.hv q 0) env) ((q,some (.hp (gB c.e C)))::(j,none)::st) ids'):G P n F Q todo env st (q::ids'):=by
 unfold kF at h
 split at h
 ·rename_i all o todo' h1
  split at h
  ·rename_i t m k x hgd hop
   split at h
   ·rename_i e _ _ _ _ i l ht hx hd
    split at h
    ·rename_i ti hti
     split at h
     ·rename_i hm hk0 hi hl0 hsz;cases h;have hm:=Nat.eq_of_beq_eq_true hm;have hk0:=Nat.eq_of_beq_eq_true hk0;have hi:=Nat.eq_of_beq_eq_true hi;have hl0:=Nat.eq_of_beq_eq_true hl0;have hsz:=Nat.eq_of_beq_eq_true hsz;subst hm;subst hk0;subst hi;subst hl0;have hk:G P n F Q todo' (B1 o.dst (.hv q 0) env) ([(q,some (.hp (gB e C))),(i,none)]++st) ids':=hk;refine By (fr:=[q]) (wr:=[(q,some (.hp (gB e C))),(i,none)]) (rd:=[i]) h1 ?_ hd (λc hc=>by rw [hop] at hc;cases hc) hk;intro I μ st1 ids1 a w hag hst hon;refine ⟨λ_=>?_,λhw=>by rw [A3 hgd] at hw;cases hw⟩;have hops:=AT hon;rw [hop] at hops;have hl1:Ap st1 i (.hp C):=by unfold Ap;rw [hag i (by simp)];exact hl
      obtain ⟨gg,hg',us,bs,rfl,hP⟩:=hst.blk i _ hl1;obtain ⟨hu0,hone⟩:us[0]?=some (a.eval x)/\(a.eval x).oneCell'=true:=by
       have:=hops x (by simp [Op.operands]) _ hx;generalize a.eval x=v at this;cases this with
       | hv _ _ _ us' bs' hm hi' h1 =>
        rw [hg'] at hm;have:us=us':=by
         simp only [MX,Option.some.injEq,Value.tuple.injEq,Array.mk.injEq,List.cons.injEq,Value.agg.injEq,and_true] at hm;simpa using hm.1
        exact ⟨by rw [this];exact hi',h1⟩
      have hrun:(execOp a.eval o).run P w = .ok (.value (.slice (some ⟨w.heap.size,0,none⟩) 1 1)) (w.alloc (.cells #[a.eval x] e)):=by
       simp only [execOp,hop,Sem.run_bind,List.map_toArray,List.map_cons,List.map_nil,QM (htt.sh ht) (htt e ti hti) hsz (a.eval x) hone,Result.andThen_ok,Sem.run_pure]
      rw [hrun];have hnb:w.heap.size∉bs:=λhb=>by
       have:=(hst.apart i _ _ _ hl1 hg' (AJ.2 hb)).2;omega
      have hbs:∀b∈bs,b<w.heap.size:=λb hb=>(hst.apart i _ _ _ hl1 hg' (AJ.2 hb)).2;have hgrow:w.grownBy (w.alloc (.cells #[a.eval x] e)) none:=World.grownBy_alloc w _ none;obtain ⟨μ',q1,q2,q3,q4⟩:=StRep.renew (id':=q) (ids:=ids1) (rd:=[i]) (v':=MX [.slice (some ⟨w.heap.size,0,none⟩) 1 1] (w.heap.size::bs)) (blk':=.hp (gB e C)) hst hgrow (λb hb=>by cases hb) (λb hb=>by
       rcases List.mem_cons.1 (AJ.1 hb) with rfl | hb
       ·exact ⟨by simp,.inl (Nat.le_refl _)⟩
       ·exact ⟨Nat.lt_of_lt_of_le (hbs b hb) hgrow.size,.inr ⟨i,_,_,by simp,hl1,hg',AJ.2 hb⟩⟩)
       (λμ'=>⟨_,_,rfl,w.heap.size,a.eval x,us,bs,rfl,hu0,DB w _,hone,C.loc (λk hk=>FX w _ (hbs k hk)) hP,hnb,rfl⟩)
      exact ⟨I,μ',q3,.hv _ q 0 _ _ q1 rfl rfl,q2,q4⟩
     ·cases h
    ·cases h
   ·cases h
  ·cases h
 ·cases h
theorem mG (htt:TTok P tt) {o:Oper} {t e:TypeId} {i:TyI} {m:Nat} {parts:List (Nat×Operand)} (ho:o.op = .buildSlice t m ⟨parts⟩) (hu:P.underlying t=some (.slice e)) (hi:lk tt e=some i) {es:List (List V)} {o':List Prop}
  (hel:Ho True env i.size 0 parts=some (es,o')) (hob:AA o') (hn':m=parts.length) (hbig':m*i.size<=16777216) (hsz:0<i.size) (hm0:0<m) (hop:De I μ env a o.op) :
  ∃R:List (List Value),(execOp a.eval o).run P w = .ok (.value (.slice (some ⟨w.heap.size,0,none⟩) m m)) (w.alloc (.cells R.flatten.toArray e))/\R.length=m/\es.length=m/\(∀c∈R,c.length=i.size)/\(∀c∈es,c.length=i.size) /\
   ∀(k:Nat) (c:List Value) (x:List V),R[k]?=some c->es[k]?=some x->RepVL I c x/\∀u∈c,u.oneCell'=true:=by
 have hty:=htt e i hi;rw [ho] at hop;obtain ⟨inf,zv,hi1,hi2,_,hi4,hi5,hi6⟩:=hty.info;obtain ⟨q1,q2,q3⟩:=Jz (a:=a) (I:=I) (μ:=μ) trivial parts 0 es o' hel hob (λp hp=>hop p.2 (by simp only [Op.operands];exact List.mem_map.2 ⟨p,hp,rfl⟩));have hz0:m*i.size≠0:=by have:=Nat.mul_pos hm0 hsz;omega
 obtain ⟨A,hA,hA1⟩:∃A:List Value,A.length=m*i.size/\(Array.range (m*i.size)).map (λk=>zv.cells[k % zv.cells.size]!)=A.toArray :=
  ⟨((Array.range (m*i.size)).map (λk=>zv.cells[k % zv.cells.size]!)).toList,by simp,rfl⟩
 obtain ⟨c1,c2,c3⟩:=KY i.size m A hA;have hq:∀p∈(parts.map λ(p:Nat×Operand)=>(p.1,a.eval p.2)),∃seg,(FG i.size m A)[p.1]?=some seg/\p.2.cells.size=seg.length:=by
  intro p hp;obtain ⟨q,hm,rfl⟩:=List.mem_map.1 hp;obtain ⟨k,hk⟩:=List.getElem?_of_mem hm;have h1:=q2 k q hk;have hlt:k<parts.length:=(List.getElem?_eq_some_iff.1 hk).1;have hlt2:k<es.length:=by rw [q1];exact hlt
  obtain ⟨_,r2,_,_⟩:=q3 k q es[k] hk (List.getElem?_eq_getElem hlt2);have hlt3:q.1<(FG i.size m A).length:=by rw [c2];omega
  exact ⟨_,List.getElem?_eq_getElem hlt3,by rw [r2,c3 _ (List.getElem_mem hlt3)]⟩
 have hplace:∀k seg,(FG i.size m A)[k]?=some seg->some (k*i.size,i.size)=some (((FG i.size m A).take k).flatten.length,seg.length):=by
  intro k seg hs;have hlt:k<m:=by rw [<- c2];exact (List.getElem?_eq_some_iff.1 hs).1
  rw [AI (sz:=i.size) (λc hc'=>c3 c (List.mem_of_mem_take hc')),c3 seg (List.mem_of_getElem? hs)];rw [List.length_take,c2,Nat.min_eq_left (by omega)]
 have hfill:=JS (λk=>some (k*i.size,i.size)) (parts.map λ(p:Nat×Operand)=>(p.1,a.eval p.2)) _ hplace hq;rw [c1] at hfill;obtain ⟨R,hR⟩:∃R,(parts.map λ(p:Nat×Operand)=>(p.1,a.eval p.2)).foldl (λs p=>s.set p.1 p.2.cells.toList) (FG i.size m A)=R:=⟨_,rfl⟩
 rw [hR] at hfill;have hRl:R.length=m:=by rw [<- hR,DC,c2]
 have hRk:∀(k:Nat) (c:List Value),R[k]?=some c->∃p,parts[k]?=some p/\c=(a.eval p.2).cells.toList:=by
  intro k c hk;have hlt:k<parts.length:=by rw [<- hn',<- hRl];exact (List.getElem?_eq_some_iff.1 hk).1
  have hp:parts[k]?=some parts[k]:=List.getElem?_eq_getElem hlt;have h1:(parts[k]).1=k:=by have:=q2 k _ hp;omega
  rw [<- hR] at hk;obtain ⟨r1,_⟩:=Hn _ _ k c hk;refine ⟨_,hp,r1 _ (List.mem_map.2 ⟨parts[k],List.getElem_mem hlt,by rw [h1]⟩) λu hu=>?_⟩;obtain ⟨q,hm,he⟩:=List.mem_map.1 hu;simp only [Prod.mk.injEq] at he;obtain ⟨k',hk'⟩:=List.getElem?_of_mem hm;have:=q2 k' q hk';have e:k'=k:=by omega
  subst e;rw [hp] at hk';have hk':=Option.some.inj hk';rw [hk',<- he.2]
 refine ⟨R,?_,hRl,by omega,λc hc'=>?_,λc hc'=>?_,λk c x hk hx=>?_⟩
 ·have hno:¬m*i.size > 2 ^ 24:=by omega
  simp only [execOp,ho,Instr.buildSlice,Sem.run_bind,run_underlying hu,hty.sizeOf w,Result.andThen_ok,hno,if_false,Sem.run_pure,if_neg hz0,zeroValue,typeInfo,run_program,hi1,hi4];rw [hA1,List.map_toArray,hfill];simp only [newRow,Sem.run_bind,run_newObj,Result.andThen_ok,Sem.run_pure];rfl
 ·obtain ⟨k,hk⟩:=List.getElem?_of_mem hc';obtain ⟨p,hp,rfl⟩:=hRk k c hk;have hlt2:k<es.length:=by rw [q1];exact (List.getElem?_eq_some_iff.1 hp).1
  obtain ⟨_,r2,_,_⟩:=q3 k p _ hp (List.getElem?_eq_getElem hlt2);simpa using r2
 ·obtain ⟨k,hk⟩:=List.getElem?_of_mem hc';have hlt2:k<parts.length:=by rw [<- q1];exact (List.getElem?_eq_some_iff.1 hk).1
  exact (q3 k _ c (List.getElem?_eq_getElem hlt2) hk).2.2.1
 ·obtain ⟨p,hp,rfl⟩:=hRk k c hk;obtain ⟨r1,_,_,r4⟩:=q3 k p x hp hx;exact ⟨r1,r4⟩
theorem eO (htt:TTok P tt) (q:Nat) {c:PBo} (h:kE tt n env q todo=some c) (hob:AA c.ob)
  (hk:G P n F Q c.todo (B1 c.dst (.own q c.es.length) env) ((q,some (.row c.e c.sz c.es))::st) ids'):G P n F Q todo env st (q::ids'):=by
 unfold kE at h
 split at h
 ·rename_i all o todo' h1
  split at h
  ·rename_i t m parts hgd hop
   split at h
   ·rename_i e _ _ _ _ ht hd
    split at h
    ·rename_i i hi
     split at h
     ·rename_i es o' hel hm hbig hpos hm0;cases h;simp only at hob hk;have hk:G P n F Q todo' (B1 o.dst (.own q es.length) env) ([(q,some (.row e i.size es))]++st) ids':=hk;refine By (fr:=[q]) (wr:=[(q,some (.row e i.size es))]) (rd:=[]) h1 ?_ hd (λc hc=>by rw [hop] at hc;cases hc) hk;intro I μ st1 ids1 a w hag hst hon;refine ⟨λ_=>?_,λhw=>by rw [A3 hgd] at hw;cases hw⟩;have hpos:=show 0<i.size by simpa [Nat.blt_eq] using hpos
      obtain ⟨R,r1,r2,r3,r4,r5,r6⟩:=mG (w:=w) htt hop (htt.sh ht) hi hel hob (Nat.eq_of_beq_eq_true hm) (Nat.le_of_ble_eq_true hbig) hpos (by simpa [Nat.blt_eq] using hm0) (AT hon);rw [r1];have hfl:RepVL I R.flatten es.flatten:=by
       refine ⟨by rw [AI r4,AI r5,r2,r3],λj u x hu hx=>?_⟩;have hlt:j<m*i.size:=by rw [<- r2,<- AI r4];exact (List.getElem?_eq_some_iff.1 hu).1
       have h1:j / i.size<m:=Nat.div_lt_of_lt_mul (by rw [Nat.mul_comm];exact hlt);have h2:j % i.size<i.size:=Nat.mod_lt _ hpos;have e1:R[j / i.size]?=some R[j / i.size]:=List.getElem?_eq_getElem (by omega);have e2:es[j / i.size]?=some es[j / i.size]:=List.getElem?_eq_getElem (by omega);obtain ⟨p1,p2⟩:=r6 _ _ _ e1 e2;have l1:=r4 _ (List.mem_of_getElem? e1);have l2:=r5 _ (List.mem_of_getElem? e2);have f1:=Cl r4 _ _ (j % i.size) _ e1 (List.getElem?_eq_getElem (by omega));have f2:=Cl r5 _ _ (j % i.size) _ e2 (List.getElem?_eq_getElem (by omega));have ej:j / i.size*i.size+j % i.size=j:=by rw [Nat.mul_comm,Nat.div_add_mod]
       rw [ej] at f1 f2;rw [f1] at hu;rw [f2] at hx;cases hu;cases hx;exact p1.2 _ _ _ (List.getElem?_eq_getElem (by omega)) (List.getElem?_eq_getElem (by omega))
      have hone:∀c∈es,∀x∈c,V.one x=true:=λc hc x hx=>by
       obtain ⟨k,hk⟩:=List.getElem?_of_mem hc;obtain ⟨l,hl⟩:=List.getElem?_of_mem hx;have hlt:k<R.length:=by rw [r2,<- r3];exact (List.getElem?_eq_some_iff.1 hk).1
       obtain ⟨p1,p2⟩:=r6 k _ c (List.getElem?_eq_getElem hlt) hk;have hl2:l<(R[k]).length:=by rw [p1.1];exact (List.getElem?_eq_some_iff.1 hl).1
       exact (p1.2 l _ x (List.getElem?_eq_getElem hl2) hl).oneV (p2 _ (List.getElem_mem hl2))
      have hcm:m<=maxLen:=by
       have hb:=Nat.le_of_ble_eq_true hbig;have:m*1<=m*i.size:=Nat.mul_le_mul_left m hpos;unfold maxLen;omega
      have hown:(w.alloc (.cells R.flatten.toArray e)).ownsRow 0 e i.size (.slice (some ⟨w.heap.size,0,none⟩) m m) es.length R.flatten:=by
       rw [r3];refine ⟨by rw [AI r4,r2],.inr ⟨w.heap.size,m,R.flatten.toArray,rfl,Nat.zero_le _,DB w _,Nat.le_refl _,hcm,by simp [AI r4,r2],?_⟩⟩;have:R.flatten.toArray.toList=R.flatten:=rfl;rw [this,List.take_of_length_le (by rw [AI r4,r2];exact Nat.le_refl _)]
      obtain ⟨μ',q1,q2,q3,q4⟩:=StRep.renew (id':=q) (ids:=ids1) (rd:=[]) (v':=.slice (some ⟨w.heap.size,0,none⟩) m m) (blk':=.row e i.size es) hst (World.grownBy_alloc w _ none) (λb hb=>by cases hb) (λb hb=>by
       have:w.heap.size=b:=hb;subst this;exact ⟨by simp,.inl (Nat.le_refl _)⟩) (λμ'=>⟨R.flatten,hown,hfl,r5,hone,hpos⟩)
      refine ⟨I,μ',q3,?_,q2,q4⟩;rw [r3];exact .own q m _ m q1
     ·cases h
    ·cases h
   ·cases h
  ·cases h
 ·cases h
end
end Go.Hk
namespace Go.Hk
def TL (w:World) (e:TypeId) (sz:Nat) (base:Value) (len:Nat) (xs news:List Value) (v':Value) (w':World):Prop :=
 w'.ownsRow 0 e sz v' len (xs++news)/\w.grownBy w' base.ownBlock/\(∀b,v'.ownBlock=some b->base.ownBlock=some b\/w.heap.size<=b)
theorem QS {P:Program} {w:World} {t ty e:TypeId} {i:TyI} (hu:P.underlying t=some (.slice e)) (hi:TyOk P e i) (hz:(Nat.beq i.zero.length i.size&&Nat.blt 0 i.size)=true) {v:Value} {n m c:Nat} {xs news:List Value} (hown:w.ownsRow 0 e i.size v n xs)
  {ad:Addr} (hl:news.length=m*i.size) (hnews:∀j u,news[j]?=some u->w.cell? (ad.add j)=some u) (h1:∀u∈news,u.oneCell'=true) (h63:n+m<=maxLen) (hbytes:(n+m)*i.bytes<=140737488355328) :
  ∃v' w',(Builtin.append_ #[t,t] ty #[v,.slice (some ad) m c]).run P w = .ok v' w'/\TL w e i.size v (n+m) xs news v' w':=by
 obtain ⟨inf,z,z1,z2,z3,z4,z5,z6⟩:=hi.info;simp only [Bool.and_eq_true,Nat.blt_eq] at hz;have hzl:z.cells.size=i.size:=by
  have:=(z5 (λ_=>none) noMu).1;rw [Nat.eq_of_beq_eq_true hz.1] at this;simpa using this
 have hl2:(xs++news).length=(n+m)*i.size:=by rw [List.length_append,hown.1,hl,Nat.add_mul]
 rcases hown.2 with ⟨rfl,rfl⟩ | ⟨g,cap,cur,rfl,_,hheap,hle,hcm,hcs,htake⟩
 ·have hx:xs=[]:=List.eq_nil_of_length_eq_zero (by rw [hown.1];simp);subst hx;obtain ⟨v',w',q1,q2,q3,_⟩:=run_append_own (P:=P) w w.heap.size t ty e inf z i.size i.bytes hu z1 z4 z2 z3 hzl hz.2 (.slice none 0 0) 0 [] (World.ownsRow_nil w _ e i.size) ad m c news hl hnews h1 h63 hbytes (Nat.le_refl _);exact ⟨v',w',q1,⟨q2.1,q2.2.imp id λ⟨g,cap,cur,a1,_,a2⟩=>⟨g,cap,cur,a1,Nat.zero_le _,a2⟩⟩,q3,λb hb=>.inr (q2.lt b hb).1⟩
 ·by_cases hroom:n+m<=cap
  ·have hfit:n*i.size+news.length<=cur.size:=by rw [hl,hcs,<- Nat.add_mul];exact Nat.mul_le_mul_right _ hroom
   have hr:=run_append_room (P:=P) w t ty e inf hu z1 g n cap cur hheap ad m c news (by rw [z2];exact hl) hnews h1 hroom (by rw [z2];exact hfit);rw [z2] at hr;refine ⟨_,_,hr,⟨hl2,.inr ⟨g,cap,_,rfl,Nat.zero_le _,setRow_heap w g cur _ e _ hheap,hroom,hcm,?_,?_⟩⟩,⟨rfl,rfl,rfl,by simp,λk _ hk=>setRow_other w g k _ (λe=>hk (by simp [e,Value.ownBlock]))⟩,λb hb=>.inl hb⟩
   ·simp only [List.size_toArray,List.length_append,List.length_take,List.length_drop,Array.length_toList];omega
   ·rw [htake,<- hl2];exact List.take_left
  ·have hsmall:n+m<=9223372036854775807:=by simp only [maxLen] at h63;omega
   have hr':=run_append_grow (P:=P) w t ty e inf z hu z1 z4 ⟨g,0,none⟩ n cap xs (by rw [z2];exact hown.1) (hown.cells (g:=g) rfl) ad m c news (by rw [z2];exact hl) hnews (by omega) (by omega) (by rw [z3];exact growslice_fits (by omega) hbytes);have hge:=grownCap_ge w (n+m) cap e;have hcm':grownCap w (n+m) cap e<=maxLen:=grownCap_le_maxLen w _ cap e h63;refine ⟨_,_,hr',⟨hl2,.inr ⟨w.heap.size,_,_,rfl,Nat.zero_le _,DB w.drew _,hge,hcm',?_,?_⟩⟩,⟨rfl,rfl,rfl,by simp,λk hk _=>FX w.drew _ hk⟩,λb h=>by simp [Value.ownBlock] at h;exact .inr (by omega)⟩
   ·simp only [Array.size_append,List.size_toArray,size_zeroCells,hzl,hown.1,hl,<- Nat.add_mul];congr 1;omega
   ·simp only [Array.toList_append];rw [<- hl2];exact List.take_left
def gJ (A B A':Asn) (e:TypeId) (sz bytes:Nat) (base:Value):Prop:=∀us vs I w b1 b2,A.P us I w b1->B.P vs I w b2->(∀b∈b1,b∉b2)->∃n m c xs news ad,
 w.ownsRow 0 e sz base n xs/\(∀k,base.ownBlock=some k->k∈b1)/\vs[0]?=some (.slice (some ad) m c)/\news.length=m*sz/\(∀j u,news[j]?=some u->w.cell? (ad.add j)=some u)/\(∀u∈news,u.oneCell'=true) /\
 (n+m<=maxLen/\(n+m)*bytes<=140737488355328) /\
 ∀v' w',TL w e sz base (n+m) xs news v' w'->∃bs,(∀b∈bs,(b∈b1\/b∈b2)\/(w.heap.size<=b/\b<w'.heap.size))/\A'.P [v'] I w' bs
def gI (A A':Asn) (e:TypeId) (sz bytes:Nat) (base:Value) (es2:List (List V)):Prop:=(∀c∈es2,c.length=sz)/\∀us I w b1,A.P us I w b1->∃n xs,
 w.ownsRow 0 e sz base n xs/\(∀k,base.ownBlock=some k->k∈b1)/\(n+es2.length<=maxLen/\(n+es2.length)*bytes<=140737488355328) /\
 ∀v' w' news,RepVL I news es2.flatten->(∀u∈news,u.oneCell'=true)->TL w e sz base (n+es2.length) xs news v' w'->∃bs,(∀b∈bs,b∈b1\/(w.heap.size<=b/\b<w'.heap.size))/\A'.P [v'] I w' bs
structure PAp where
 base:Value
 e:TypeId
 sz:Nat
 bytes:Nat
 es2:List (List V)
 dst:Option Nat
 todo:List DI
def kI (tt:TT) (n:Nat) (env:Env) (id q id':Nat) (todo:List DI):Option PAp :=
 match AU todo ([id,q],[id',id,q]) with
 | some (_,o,todo')=>match o.guard,o.op with
  | none,.call { callee:=.builtin .append,args:=⟨[x,y]⟩,argTypes:=⟨[t,t']⟩ }=>match Nat.beq t t',lk tt t,Di env x,Di env y with
   | true,some { sh:=.sl e,.. },some (.raw v),some (.hv i l)=>match lk tt e with
    | some ti=>match Nat.beq ti.zero.length ti.size&&Nat.blt 0 ti.size,Nat.beq i q,Nat.beq l 0,B3 n o.dst with
     | true,true,true,true=>some ⟨v,e,ti.size,ti.bytes,[],o.dst,todo'⟩
     | _,_,_,_=>none
    | none=>none
   | _,_,_,_=>none
  | _,_=>none
 | none=>none
def kH (tt:TT) (n:Nat) (env:Env) (id id':Nat) (todo:List DI):Option PAp :=
 match AU todo ([id],[id',id]) with
 | some (_,o,todo')=>match o.guard,o.op with
  | none,.call { callee:=.builtin .append,args:=⟨[x,y]⟩,argTypes:=⟨[t,t']⟩ }=>match Nat.beq t t',lk tt t,Di env x,Di env y with
   | true,some { sh:=.sl e,.. },some (.raw v),some (.imm (.sl (e1::es2)))=>match lk tt e with
    | some ti=>match Nat.beq ti.zero.length ti.size&&Nat.blt 0 ti.size,B3 n o.dst with
     | true,true=>some ⟨v,e,ti.size,ti.bytes,e1::es2,o.dst,todo'⟩
     | _,_=>none
    | none=>none
   | _,_,_,_=>none
  | _,_=>none
 | none=>none
structure nQ where
 b:Nat
 off:Nat
 k:Nat
 todo:List DI
def U3 (tt:TT) (env:Env) (id:Nat) (todo:List DI):Option nQ :=
 match AU todo ([id],[id]) with
 | some (_,o,todo')=>match o.guard,o.dst,o.op with
  | none,none,.store t p x=>match lk tt t,Di env p,Di env x with
   | some i,some (.raw (.pointer (some ⟨b,off,none⟩))),some (.hv j k)=>match Nat.beq i.size 1,Nat.beq j id with
    | true,true=>some ⟨b,off,k,todo'⟩
    | _,_=>none
   | _,_,_=>none
  | _,_,_=>none
 | none=>none
def QW (A A':Asn) (b off k:Nat):Prop:=∀us I w bs,A.P us I w bs->b∈bs/\∃cur t,w.heap[b]?=some (.cells cur t (0,0))/\off+1<=cur.size /\
 ∀u,us[k]?=some u->u.oneCell'=true->A'.P us I (w.setRow b (cur.toList.take off++[u]++cur.toList.drop (off+1)).toArray) bs
structure PRn where
 eq:Bool
 nil:Bool
 dst:Option Nat
 todo:List DI
def jY (tt:TT) (n:Nat) (env:Env) (todo:List DI):Option PRn :=
 match AU todo ([],[]) with
 | some (_,o,todo')=>match o.guard,o.op with
  | none,.binOp .eql t x y _=>match lk tt t,Di env x,Di env y,B3 n o.dst with
   | some { sh:=.sl _,.. },some (.raw (.slice ad _ _)),some .nils,true=>some ⟨true,ad.isNone,o.dst,todo'⟩
   | _,_,_,_=>none
  | none,.binOp .neq t x y _=>match lk tt t,Di env x,Di env y,B3 n o.dst with
   | some { sh:=.sl _,.. },some (.raw (.slice ad _ _)),some .nils,true=>some ⟨false,ad.isNone,o.dst,todo'⟩
   | _,_,_,_=>none
  | _,_=>none
 | none=>none
section
variable {P:Program} {n:Nat} {F:List Nat} {Q:DQ} {tt:TT} {env env':Env} {st st' st0 st1:St} {ids ids' fr:List Nat} {k todo todo':List DI} {I J:Imm} {μ:Mu} {w:World} {a:Act} {Pn:V->Prop} {d:D} {cx:Prop} {ob:List Prop}
theorem RepD.hvInv {v:Value} {j i:Nat} {us:List Value} {bs:List Nat} (hm:μ j=some (MX us bs)) (h:RepD I μ v (.hv j i)):us[i]?=some v/\v.oneCell'=true:=by
 cases h with
 | hv _ _ _ us' bs' hm' hi' h1 =>
  rw [hm] at hm';have:us=us':=by
   simp only [MX,Option.some.injEq,Value.tuple.injEq,Array.mk.injEq,List.cons.injEq,Value.agg.injEq,and_true] at hm';simpa using hm'.1
  exact ⟨by rw [this];exact hi',h1⟩
theorem Hc {w:World} {e:TypeId} {sz n:Nat} {v:Value} {xs:List Value} (h:w.ownsRow 0 e sz v n xs):v.oneCell'=true:=by
 rcases h.2 with ⟨rfl,_⟩ | ⟨g,cap,cur,rfl,_⟩ <;> rfl
theorem eQ (htt:TTok P tt) (id q id':Nat) {A B:Asn} (A':Asn) {c:PAp} (h:kI tt n env id q id' todo=some c) (hl:lk st id=some (some (.hp A))) (hlq:lk st q=some (some (.hp B))) (hne:id≠q) (hA:gJ A B A' c.e c.sz c.bytes c.base)
  (hk:G P n F Q c.todo (B1 c.dst (.hv id' 0) env) ((id',some (.hp A'))::(id,none)::(q,none)::st) ids'):G P n F Q todo env st (id'::ids'):=by
 unfold kI at h
 split at h
 ·rename_i all o todo' h1
  split at h
  ·rename_i x y t t' hgd hop
   split at h
   ·rename_i e _ _ _ _ v i l htt' ht hx hy;have:=Nat.eq_of_beq_eq_true htt';subst this
    split at h
    ·rename_i ti hti
     split at h
     ·rename_i hz hi hl0 hd;cases h;simp only at hA hk;have hi:=Nat.eq_of_beq_eq_true hi;have hl0:=Nat.eq_of_beq_eq_true hl0;subst hi;subst hl0;have hk:G P n F Q todo' (B1 o.dst (.hv id' 0) env) ([(id',some (.hp A')),(id,none),(i,none)]++st) ids':=hk;refine By (fr:=[id']) (wr:=[(id',some (.hp A')),(id,none),(i,none)]) (rd:=[id,i]) h1 ?_ hd (λc hc=>by rw [hop] at hc;cases hc) hk;intro I μ st1 ids1 a w hag hst hon;refine ⟨λ_=>?_,λhw=>by rw [A3 hgd] at hw;cases hw⟩;have hops:=AT hon;rw [hop] at hops;have hl1:Ap st1 id (.hp A):=by unfold Ap;rw [hag id (by simp)];exact hl
      have hl2:Ap st1 i (.hp B):=by unfold Ap;rw [hag i (by simp)];exact hlq
      obtain ⟨g1,hg1,us,b1,rfl,hP1⟩:=hst.blk id _ hl1;obtain ⟨g2,hg2,vs,b2,rfl,hP2⟩:=hst.blk i _ hl2;have hv:a.eval x=v:=(hops x (by simp [Op.operands,Call.operands]) _ hx).rawInv;obtain ⟨hy0,_⟩:=(hops y (by simp [Op.operands,Call.operands]) _ hy).hvInv hg2;obtain ⟨nn,m,cc,xs,news,ad,k1,k2,k3,k4,k5,k6,⟨k7,k8⟩,k9⟩:=hA us vs I w b1 b2 hP1 hP2 λb h1 h2=>hne (hst.inj id i _ _ _ _ b hl1 hl2 hg1 hg2 (AJ.2 h1) (AJ.2 h2));have hyv:a.eval y = .slice (some ad) m cc:=by rw [hy0] at k3;exact Option.some.inj k3
      obtain ⟨v',w',r1,r2⟩:=QS (ty:=o.type) (c:=cc) (htt.sh ht) (htt e ti hti) hz k1 k4 k5 k6 k7 k8;have hrun:(execOp a.eval o).run P w = .ok (.value v') w':=by
       simp only [execOp,hop,resolve,invoke,builtin,Sem.run_bind,Sem.run_pure,Result.andThen_ok,List.map_toArray,List.map_cons,List.map_nil,hv,hyv,r1]
      rw [hrun];obtain ⟨bs,s1,s2⟩:=k9 v' w' r2;have hold:∀b,b∈b1\/b∈b2->∃id0 blk g,id0∈[id,i]/\Ap st1 id0 blk/\μ id0=some g/\Db g b:=λb hb=>by
       rcases hb with hb | hb
       ·exact ⟨id,_,_,by simp,hl1,hg1,AJ.2 hb⟩
       ·exact ⟨i,_,_,by simp,hl2,hg2,AJ.2 hb⟩
      have hlt:∀b,b∈b1\/b∈b2->b<w.heap.size:=λb hb=>by
       obtain ⟨id0,blk,g,_,q2,q3,q4⟩:=hold b hb;exact (hst.apart id0 blk g b q2 q3 q4).2
      obtain ⟨μ',q1,q2,q3,q4⟩:=StRep.renew (id':=id') (ids:=ids1) (rd:=[id,i]) (v':=MX [v'] bs) (blk':=.hp A') hst r2.2.1 (λb hb=>hold b (.inl (k2 b hb))) (λb hb=>by
       rcases s1 b (AJ.1 hb) with h | h
       ·exact ⟨Nat.lt_of_lt_of_le (hlt b h) r2.2.1.size,.inr (hold b h)⟩
       ·exact ⟨h.2,.inl h.1⟩) (λμ'=>⟨_,_,rfl,s2⟩)
      exact ⟨I,μ',q3,.hv _ id' 0 _ _ q1 rfl (Hc r2.1),q2,q4⟩
     ·cases h
    ·cases h
   ·cases h
  ·cases h
 ·cases h
theorem mA (htt:TTok P tt) (id id':Nat) {A:Asn} (A':Asn) {c:PAp} (h:kH tt n env id id' todo=some c) (hl:lk st id=some (some (.hp A))) (hA:gI A A' c.e c.sz c.bytes c.base c.es2)
  (hk:G P n F Q c.todo (B1 c.dst (.hv id' 0) env) ((id',some (.hp A'))::(id,none)::st) ids'):G P n F Q todo env st (id'::ids'):=by
 unfold kH at h
 split at h
 ·rename_i all o todo' h1
  split at h
  ·rename_i x y t t' hgd hop
   split at h
   ·rename_i e _ _ _ _ v e1 es2 htt' ht hx hy;have:=Nat.eq_of_beq_eq_true htt';subst this
    split at h
    ·rename_i ti hti
     split at h
     ·rename_i hz hd;cases h;simp only at hA hk;have hk:G P n F Q todo' (B1 o.dst (.hv id' 0) env) ([(id',some (.hp A')),(id,none)]++st) ids':=hk;refine By (fr:=[id']) (wr:=[(id',some (.hp A')),(id,none)]) (rd:=[id]) h1 ?_ hd (λc hc=>by rw [hop] at hc;cases hc) hk;intro I μ st1 ids1 a w hag hst hon;refine ⟨λ_=>?_,λhw=>by rw [A3 hgd] at hw;cases hw⟩;have hops:=AT hon;rw [hop] at hops;have hl1:Ap st1 id (.hp A):=by unfold Ap;rw [hag id (by simp)];exact hl
      obtain ⟨g1,hg1,us,b1,rfl,hP1⟩:=hst.blk id _ hl1;have hv:a.eval x=v:=(hops x (by simp [Op.operands,Call.operands]) _ hx).rawInv;have hpos:0<ti.size:=by
       simp only [Bool.and_eq_true,Nat.blt_eq] at hz;exact hz.2
      obtain ⟨hsz,hA⟩:=hA;obtain ⟨nn,xs,k1,k2,⟨k7,k8⟩,k9⟩:=hA us I w b1 hP1;rcases Lr hst.imm (hops y (by simp [Op.operands,Call.operands]) _ hy).immInv hsz hpos with ⟨_,e0⟩ | ⟨yb,yo,yc,news,ey,_,_,n1,n2,n3,n4,_⟩
      ·cases e0
      obtain ⟨v',w',r1,r2⟩:=QS (ty:=o.type) (c:=yc) (htt.sh ht) (htt e ti hti) hz k1 n1 n2 n3 k7 k8;have hrun:(execOp a.eval o).run P w = .ok (.value v') w':=by
       simp only [execOp,hop,resolve,invoke,builtin,Sem.run_bind,Sem.run_pure,Result.andThen_ok,List.map_toArray,List.map_cons,List.map_nil,hv,ey,r1]
      rw [hrun];obtain ⟨bs,s1,s2⟩:=k9 v' w' news n4 n3 r2;have hlt:∀b,b∈b1->b<w.heap.size:=λb hb=>(hst.apart id _ _ b hl1 hg1 (AJ.2 hb)).2;obtain ⟨μ',q1,q2,q3,q4⟩:=StRep.renew (id':=id') (ids:=ids1) (rd:=[id]) (v':=MX [v'] bs) (blk':=.hp A') hst r2.2.1 (λb hb=>⟨id,_,_,by simp,hl1,hg1,AJ.2 (k2 b hb)⟩) (λb hb=>by
       rcases s1 b (AJ.1 hb) with h | h
       ·exact ⟨Nat.lt_of_lt_of_le (hlt b h) r2.2.1.size,.inr ⟨id,_,_,by simp,hl1,hg1,AJ.2 h⟩⟩
       ·exact ⟨h.2,.inl h.1⟩) (λμ'=>⟨_,_,rfl,s2⟩)
      exact ⟨I,μ',q3,.hv _ id' 0 _ _ q1 rfl (Hc r2.1),q2,q4⟩
     ·cases h
    ·cases h
   ·cases h
  ·cases h
 ·cases h
theorem MY (htt:TTok P tt) (id:Nat) {A:Asn} (A':Asn) {c:nQ} (h:U3 tt env id todo=some c) (hl:lk st id=some (some (.hp A))) (hA:QW A A' c.b c.off c.k)
  (hk:G P n F Q c.todo env ((id,some (.hp A'))::st) ids):G P n F Q todo env st ids:=by
 unfold U3 at h
 split at h
 ·rename_i all o todo' h1
  split at h
  ·rename_i t p x hgd hdst hop
   split at h
   ·rename_i i b off j k ht hp hx
    split at h
    ·rename_i hsz hj;cases h;simp only at hA hk;have hj:=Nat.eq_of_beq_eq_true hj;have hsz:=Nat.eq_of_beq_eq_true hsz;subst hj;have hk:G P n F Q todo' (B1 o.dst .undef env) ([(j,some (.hp A'))]++st) ids:=by rw [hdst];exact hk
     refine By (fr:=[]) (wr:=[(j,some (.hp A'))]) (rd:=[j]) h1 ?_ (by simp [B3,hdst]) (λc hc=>by rw [hop] at hc;cases hc) hk;intro I μ st1 ids1 a w hag hst hon;refine ⟨λ_=>?_,λhw=>by rw [A3 hgd] at hw;cases hw⟩;have hops:=AT hon;rw [hop] at hops;have rp:=(hops p (by simp [Op.operands]) _ hp).rawInv;have hl1:Ap st1 j (.hp A):=by unfold Ap;rw [hag j (by simp)];exact hl
     obtain ⟨gg,hg',us,bs,e1,e2⟩:=hst.blk j _ hl1;subst e1;obtain ⟨hu,hone⟩:=(hops x (by simp [Op.operands]) _ hx).hvInv hg';obtain ⟨k1,vs,bt,k2,k3,k4⟩:=hA us I w bs e2;have hcell:=Fp hone;have hrun:(execOp a.eval o).run P w = .ok .skip (w.setRow b (vs.toList.take off++[a.eval x]++vs.toList.drop (off+1)).toArray):=by
      have:=If (v:=a.eval x) (off:=off) (htt t i ht) k2 (by rw [hcell,hsz];rfl) (by rw [hcell];intro u hu;simp at hu;rw [hu];exact hone) (by rw [hcell];exact k3);rw [hcell] at this;simp only [execOp,hop,rp,Sem.run_bind,this,Result.andThen_ok,Sem.run_pure];rfl
     rw [hrun];have hnew:BlkRep I μ (w.setRow b (vs.toList.take off++[a.eval x]++vs.toList.drop (off+1)).toArray) (MX us bs) (.hp A'):=⟨us,bs,rfl,k4 _ hu hone⟩
     obtain ⟨q1,q2⟩:=hst.update (id:=j) (blk:=.hp A) (g:=MX us bs) (b:=b) hl1 hg' (AJ.2 k1) (w':=w.setRow b _) (setRow_size w b _) rfl rfl rfl (λk hk=>setRow_other w b k _ hk) hnew;exact ⟨I,μ,q1,.undef _,Mu.le_refl μ,q2⟩
    ·cases h
   ·cases h
  ·cases h
 ·cases h
theorem lX (htt:TTok P tt) {c:PRn} (h:jY tt n env todo=some c) (hk:G P n F Q c.todo (B1 c.dst (.imm (.bool (c.eq == c.nil))) env) st ids):G P n F Q todo env st ids:=by
 unfold jY at h
 split at h
 ·rename_i all o todo' h1
  split at h
  ·rename_i t x y t' hgd hop
   split at h
   ·rename_i e _ _ _ _ ad len cap ht hx hy hd;cases h;refine By (fr:=[]) (wr:=[]) (rd:=[]) h1 ?_ hd (λc hc=>by rw [hop] at hc;cases hc) hk;intro I μ st1 ids1 a w hag hst hon;refine ⟨λ_=>?_,λhw=>by rw [A3 hgd] at hw;cases hw⟩;have hops:=AT hon;rw [hop] at hops;have e1:a.eval x = .slice ad len cap:=(hops x (by simp [Op.operands]) _ hx).rawInv;have e3:a.eval y = .slice none 0 0:=by
     have:=hops y (by simp [Op.operands]) _ hy;generalize a.eval y=v at this;cases this;rfl
    have hrun:(execOp a.eval o).run P w = .ok (.value (.bool ad.isNone)) w:=by
     simp only [execOp,hop,e1,e3];exact Au (F0 (htt.sh ht) x y ad len cap).1
    rw [hrun];exact ⟨I,μ,hst,.imm _ _ (by cases ad.isNone <;> exact .bool _),Mu.le_refl μ,Ext.refl _ _ _ _⟩
   ·cases h
  ·rename_i t x y t' hgd hop
   split at h
   ·rename_i e _ _ _ _ ad len cap ht hx hy hd;cases h;refine By (fr:=[]) (wr:=[]) (rd:=[]) h1 ?_ hd (λc hc=>by rw [hop] at hc;cases hc) hk;intro I μ st1 ids1 a w hag hst hon;refine ⟨λ_=>?_,λhw=>by rw [A3 hgd] at hw;cases hw⟩;have hops:=AT hon;rw [hop] at hops;have e1:a.eval x = .slice ad len cap:=(hops x (by simp [Op.operands]) _ hx).rawInv;have e3:a.eval y = .slice none 0 0:=by
     have:=hops y (by simp [Op.operands]) _ hy;generalize a.eval y=v at this;cases this;rfl
    have hrun:(execOp a.eval o).run P w = .ok (.value (.bool (!ad.isNone))) w:=by
     simp only [execOp,hop,e1,e3];exact Au (F0 (htt.sh ht) x y ad len cap).2
    rw [hrun];exact ⟨I,μ,hst,.imm _ _ (by cases ad.isNone <;> exact .bool _),Mu.le_refl μ,Ext.refl _ _ _ _⟩
   ·cases h
  ·cases h
 ·cases h
end
end Go.Hk
