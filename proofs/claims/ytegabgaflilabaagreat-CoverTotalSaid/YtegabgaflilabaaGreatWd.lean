/- Slices that are known by address: parts of them, cells that are cleared; one of them gets a name. (And what it stands on.) -/
import Derived.Test.YtegabgaflilabaaGreatWc
import Derived.Laws.MakeOwn
import Derived.Test.YtegabgaflilabaaGreatWb
set_option linter.unusedSimpArgs false
set_option linter.unusedVariables false

set_option maxRecDepth 100000
set_option maxHeartbeats 4000000
namespace Go.Hk
open Go.Proofs
def WO (op n:Int) (x:Str) (k p:Nat):Bool:=let h:=BM op k p
 h.is&&((k:Int) == h.kids)&&(h.n||n == 0)&&(h.text||x == [])&&(h.pats||(p:Int) == 0)
def JF (op:Int) (x:Str) (k p:Nat):Bool:=!((BM op k p).text&&op != 14)||EU x
theorem Dq (op n:Int) (x:Str) (ks:List Tm) (ps:List Ty) (hl:JF op x ks.length ps.length=true):DGo Tryz.prog Tryz.f211.ntmps (D8 []) (K5 fV Tryz.f211.results.toList (.ret HE []))
  [.code (EN Tryz.f211 4)] [(1,.ref 1 0),(2,.ref 2 0)] [(2,some (.immb 280 4 (DW (BM op ks.length ps.length)))),(1,some (.immb 165 5 (CO (.mk op n x ks ps))))] [3,4]:=by
 refine rG rfl ?_;refine Ab rfl (λh=>?_) (λh=>?_)
 ·refine P4 rfl ?_;refine Ad rfl (λ_=>Hd x) (by simp [An]) ?_;refine Ew rfl ?_;have hx:EU x=true:=by simp [JF] at hl h;grind
  refine Ad rfl (λ_=>B9 _ hx) (by simp) ?_;refine Ew rfl ?_;exact C8 ⟨_,rfl,rfl,trivial⟩
 ·refine P4 rfl ?_;exact C8 ⟨_,rfl,rfl,trivial⟩
theorem DK (op n:Int) (x:Str) (ks:List Tm) (ps:List Ty) (hl:JF op x ks.length ps.length=false):DGo Tryz.prog Tryz.f211.ntmps (D8 []) (K5 fV Tryz.f211.results.toList (.pan F9))
  [.code (EN Tryz.f211 4)] [(1,.ref 1 0),(2,.ref 2 0)] [(2,some (.immb 280 4 (DW (BM op ks.length ps.length)))),(1,some (.immb 165 5 (CO (.mk op n x ks ps))))] [3,4]:=by
 refine rG rfl ?_;refine Ab rfl (λh=>?_) (λh=>?_)
 ·refine P4 rfl ?_;refine Ad rfl (λ_=>Hd x) (by simp [An]) ?_;refine Ew rfl ?_;have hx:EU x=false:=by simp [JF] at hl h;grind
  exact AC [] rfl (by simp) (Cj _ hx) trivial rfl rfl
 ·exfalso;simp [JF] at hl h;grind
def Dj (op n:Int) (x:Str) (ps:List Ty):Bool :=
 if op=1 then CG n
 else if op=2 then n == 0||n == 1
 else if op=24 then decide (0<=n)&&decide (n<4)
 else if op=14 then Di x
 else if op=15 then decide (1<=(ps.length:Int))&&decide ((ps.length:Int)<=5)&&ps.all BG
 else true
def T9 (op n:Int) (x:Str) (k:Nat) (ps:List Ty):Bool:=WO op n x k ps.length&&Dj op n x ps&&JF op x k ps.length
theorem SY (op n:Int) (x:Str) (ks:List Tm) (ps:List Ty) (hy:T9 op n x ks.length ps=true):Bg Tryz.prog 211 [.imm (.agg (CO (.mk op n x ks ps)))] [] (.ret HE []):=by
 simp only [T9] at hy;refine Af Hb Tryz.func211 (by decide +kernel) rfl [1,2,3,4] rfl rfl ?_;refine Ew rfl ?_;refine Ad rfl (λ_=>VL op n x ks ps) (by simp [An]) ?_;refine sg [] rfl (by simp [An,DW] <;> grind) ?_;simp only [Bool.and_eq_true] at hy;obtain ⟨⟨hh,he⟩,hl⟩:=hy;refine Ad rfl (λ_=>B9 _ (by simp [WO] at hh ⊢;grind)) (by simp) ?_;by_cases h1:op=1
 ·subst h1;refine sg [.a] rfl (by simp [An]) ?_;refine Ad rfl (λ_=>Jx n) (by simp) ?_;refine Ew rfl ?_;simp [Dj] at he;refine Ad rfl (λ_=>B9 _ (by first | exact he | (simp at he ⊢;grind) | (simp;grind) | grind)) (by simp) ?_;refine sg [.s] rfl (by simp) ?_;exact Ae (Dq _ n x ks ps hl) ⟨rfl,rfl,trivial⟩ ⟨rfl,rfl,trivial⟩ rfl
 by_cases h2:op=2
 ·subst h2;refine sg [.a,.a] rfl (by simp [An]) ?_;simp [Dj] at he;refine Ad rfl (λ_=>B9 _ (by first | exact he | (simp at he ⊢;grind) | (simp;grind) | grind)) (by simp) ?_;refine sg [.s] rfl (by simp) ?_;exact Ae (Dq _ n x ks ps hl) ⟨rfl,rfl,trivial⟩ ⟨rfl,rfl,trivial⟩ rfl
 by_cases h24:op=24
 ·subst h24;refine sg [.a,.a,.a] rfl (by simp [An]) ?_;simp [Dj] at he;refine Ad rfl (λ_=>B9 _ (by first | exact he | (simp at he ⊢;grind) | (simp;grind) | grind)) (by simp) ?_;refine sg [.s] rfl (by simp) ?_;exact Ae (Dq _ n x ks ps hl) ⟨rfl,rfl,trivial⟩ ⟨rfl,rfl,trivial⟩ rfl
 by_cases h14:op=14
 ·subst h14;refine sg [.a,.a,.a,.a] rfl (by simp [An]) ?_;refine Ad rfl (λ_=>DL x) (by simp) ?_;refine Ew rfl ?_;simp [Dj] at he;refine Ad rfl (λ_=>B9 _ (by first | exact he | (simp at he ⊢;grind) | (simp;grind) | grind)) (by simp) ?_;refine sg [.s] rfl (by simp) ?_;exact Ae (Dq _ n x ks ps hl) ⟨rfl,rfl,trivial⟩ ⟨rfl,rfl,trivial⟩ rfl
 by_cases h15:op=15
 ·subst h15;refine sg [.a,.a,.a,.a,.a] rfl (by simp [An]) ?_;simp [Dj] at he;refine Ad rfl (λ_=>B9 _ (by simp;grind)) (by simp) ?_;refine Ew rfl ?_;refine Am (λi:Nat=>[(101,.imm (.int .i64 i)),(100,.imm (.int .i64 ps.length)),(99,.imm (.sl (BQ ps))),(1,.ref 1 0),(2,.ref 2 0)]) (λ_=>[(2,some (.immb 280 4 (DW (BM 15 ks.length ps.length)))),(1,some (.immb 165 5 (CO (.mk 15 n x ks ps))))]) [3,4] (λi=>ps.length-i)
   (λi=>i<=ps.length/\(ps.drop i).all BG=true) 0 ⟨Nat.zero_le _,by simpa using he.2⟩ ⟨rfl,A3 (by simp),rfl,rfl,rfl,trivial⟩ ⟨rfl,rfl,trivial⟩ rfl λi hi ih=>?_
  refine P4 rfl ?_;have hi2:=hi.2;refine Ab rfl (λh=>?_) (λh=>?_)
  ·simp at h;obtain ⟨t,ht⟩:=Ap h;rw [Av ht,List.all_cons] at hi2;refine P4 rfl ?_;refine si rfl (c:=dTyc t) (λ_=>⟨by simp,by simpa using A5 ht,by simp⟩) (by simp) ?_;refine Ew rfl ?_;refine Ad rfl (λ_=>K8 t) (by simp) ?_;refine Ew rfl ?_;simp only [Bool.and_eq_true] at hi2;have hz:=hi2.1;refine Ad rfl (λ_=>B9 _ (by first | rfl | (rw [hz];rfl))) (by simp) ?_;refine Ew rfl ?_;exact Ae (ih (i+1) (by omega) ⟨by omega,hi2.2⟩) ⟨A3 (BI (by omega) (by omega)),rfl,rfl,rfl,rfl,trivial⟩ ⟨rfl,rfl,trivial⟩ rfl
  ·simp at h;rw [List.drop_eq_nil_of_le (by omega)] at hi2;refine sd [.s] rfl (by simp) ?_;exact Ae (Dq _ n x ks ps hl) ⟨rfl,rfl,trivial⟩ ⟨rfl,rfl,trivial⟩ rfl
 refine sg [.f,.f,.f,.f,.f,.s] rfl (by simp [h1,h2,h24,h14,h15]) ?_;exact Ae (Dq _ n x ks ps hl) ⟨rfl,rfl,trivial⟩ ⟨rfl,rfl,trivial⟩ rfl
theorem gE (op n:Int) (x:Str) (ks:List Tm) (ps:List Ty) (hy:T9 op n x ks.length ps=false):Bg Tryz.prog 211 [.imm (.agg (CO (.mk op n x ks ps)))] [] (.pan F9):=by
 simp only [T9] at hy;refine Af Hb Tryz.func211 (by decide +kernel) rfl [1,2,3,4] rfl rfl ?_;refine Ew rfl ?_;refine Ad rfl (λ_=>VL op n x ks ps) (by simp [An]) ?_;refine sg [] rfl (by simp [An,DW] <;> grind) ?_;by_cases hh:WO op n x ks.length ps.length=true
 rotate_left
 ·exact AC [] rfl (by simp) (Cj _ (by simp [WO] at hh ⊢;grind)) trivial rfl rfl
 rw [hh] at hy;refine Ad rfl (λ_=>B9 _ (by simp [WO] at hh ⊢;grind)) (by simp) ?_;by_cases h1:op=1
 ·subst h1;refine sg [.a] rfl (by simp [An]) ?_;refine Ad rfl (λ_=>Jx n) (by simp) ?_;refine Ew rfl ?_;by_cases he:Dj 1 n x ps=true
  ·have hl:JF 1 x ks.length ps.length=false:=by simpa [he] using hy
   simp [Dj] at he;refine Ad rfl (λ_=>B9 _ (by first | exact he | (simp at he ⊢;grind) | (simp;grind) | grind)) (by simp) ?_;refine sg [.s] rfl (by simp) ?_;exact Ae (DK _ n x ks ps hl) ⟨rfl,rfl,trivial⟩ ⟨rfl,rfl,trivial⟩ rfl
  ·simp [Dj] at he;exact AC [] rfl (by simp) (Cj _ (by first | exact he | (simp at he ⊢;grind) | (simp;grind) | grind)) trivial rfl rfl
 by_cases h2:op=2
 ·subst h2;refine sg [.a,.a] rfl (by simp [An]) ?_;by_cases he:Dj 2 n x ps=true
  ·have hl:JF 2 x ks.length ps.length=false:=by simpa [he] using hy
   simp [Dj] at he;refine Ad rfl (λ_=>B9 _ (by first | exact he | (simp at he ⊢;grind) | (simp;grind) | grind)) (by simp) ?_;refine sg [.s] rfl (by simp) ?_;exact Ae (DK _ n x ks ps hl) ⟨rfl,rfl,trivial⟩ ⟨rfl,rfl,trivial⟩ rfl
  ·simp [Dj] at he;exact AC [] rfl (by simp) (Cj _ (by first | exact he | (simp at he ⊢;grind) | (simp;grind) | grind)) trivial rfl rfl
 by_cases h24:op=24
 ·subst h24;refine sg [.a,.a,.a] rfl (by simp [An]) ?_;by_cases he:Dj 24 n x ps=true
  ·have hl:JF 24 x ks.length ps.length=false:=by simpa [he] using hy
   simp [Dj] at he;refine Ad rfl (λ_=>B9 _ (by first | exact he | (simp at he ⊢;grind) | (simp;grind) | grind)) (by simp) ?_;refine sg [.s] rfl (by simp) ?_;exact Ae (DK _ n x ks ps hl) ⟨rfl,rfl,trivial⟩ ⟨rfl,rfl,trivial⟩ rfl
  ·simp [Dj] at he;exact AC [] rfl (by simp) (Cj _ (by first | exact he | (simp at he ⊢;grind) | (simp;grind) | grind)) trivial rfl rfl
 by_cases h14:op=14
 ·subst h14;refine sg [.a,.a,.a,.a] rfl (by simp [An]) ?_;refine Ad rfl (λ_=>DL x) (by simp) ?_;refine Ew rfl ?_;by_cases he:Dj 14 n x ps=true
  ·have hl:JF 14 x ks.length ps.length=false:=by simpa [he] using hy
   simp [Dj] at he;refine Ad rfl (λ_=>B9 _ (by first | exact he | (simp at he ⊢;grind) | (simp;grind) | grind)) (by simp) ?_;refine sg [.s] rfl (by simp) ?_;exact Ae (DK _ n x ks ps hl) ⟨rfl,rfl,trivial⟩ ⟨rfl,rfl,trivial⟩ rfl
  ·simp [Dj] at he;exact AC [] rfl (by simp) (Cj _ (by first | exact he | (simp at he ⊢;grind) | (simp;grind) | grind)) trivial rfl rfl
 by_cases h15:op=15
 ·subst h15;refine sg [.a,.a,.a,.a,.a] rfl (by simp [An]) ?_;by_cases he:(decide (1<=(ps.length:Int))&&decide ((ps.length:Int)<=5))=true
  rotate_left
  ·exact AC [] rfl (by simp) (Cj _ (by simp at he ⊢;grind)) trivial rfl rfl
  have he5:ps.length<=5:=by simp at he;omega
  have hy:ps.all BG=false\/JF 15 x ks.length ps.length=false:=by
   have e:Dj 15 n x ps=((decide (1<=(ps.length:Int))&&decide ((ps.length:Int)<=5))&&ps.all BG):=by simp only [Dj];rfl
   rw [e,he] at hy;simpa only [Bool.true_and,Bool.and_eq_false_iff] using hy
  refine Ad rfl (λ_=>B9 _ (by simp at he ⊢;grind)) (by simp) ?_;refine Ew rfl ?_;refine Am (λi:Nat=>[(101,.imm (.int .i64 i)),(100,.imm (.int .i64 ps.length)),(99,.imm (.sl (BQ ps))),(1,.ref 1 0),(2,.ref 2 0)]) (λ_=>[(2,some (.immb 280 4 (DW (BM 15 ks.length ps.length)))),(1,some (.immb 165 5 (CO (.mk 15 n x ks ps))))]) [3,4] (λi=>ps.length-i)
   (λi=>i<=ps.length/\((ps.drop i).all BG=false\/JF 15 x ks.length ps.length=false)) 0 ⟨Nat.zero_le _,hy⟩ ⟨rfl,A3 (by simp),rfl,rfl,rfl,trivial⟩ ⟨rfl,rfl,trivial⟩ rfl λi hi ih=>?_
  refine P4 rfl ?_;have hi2:=hi.2;refine Ab rfl (λh=>?_) (λh=>?_)
  ·simp at h;obtain ⟨t,ht⟩:=Ap h;rw [Av ht,List.all_cons] at hi2;refine P4 rfl ?_;refine si rfl (c:=dTyc t) (λ_=>⟨by simp,by simpa using A5 ht,by simp⟩) (by simp) ?_;refine Ew rfl ?_;refine Ad rfl (λ_=>K8 t) (by simp) ?_;refine Ew rfl ?_;cases hz:BG t with
   | true =>
    rw [hz,Bool.true_and] at hi2;refine Ad rfl (λ_=>B9 _ (by first | rfl | (rw [hz];rfl))) (by simp) ?_;refine Ew rfl ?_;exact Ae (ih (i+1) (by omega) ⟨by omega,hi2⟩) ⟨A3 (BI (by omega) (by omega)),rfl,rfl,rfl,rfl,trivial⟩ ⟨rfl,rfl,trivial⟩ rfl
   | false=>exact AC [] rfl (by simp) (Cj _ (by first | rfl | (rw [hz];rfl))) trivial rfl rfl
  ·simp at h;rw [List.drop_eq_nil_of_le (by omega)] at hi2;refine sd [.s] rfl (by simp) ?_;exact Ae (DK _ n x ks ps (by simpa using hi2)) ⟨rfl,rfl,trivial⟩ ⟨rfl,rfl,trivial⟩ rfl
 refine sg [.f,.f,.f,.f,.f,.s] rfl (by simp [h1,h2,h24,h14,h15]) ?_;exact Ae (DK _ n x ks ps (by simpa [Dj,h1,h2,h24,h14,h15] using hy)) ⟨rfl,rfl,trivial⟩ ⟨rfl,rfl,trivial⟩ rfl
mutual
def Jl:Tm->Bool
 | .mk op n x ks ps=>T9 op n x ks.length ps&&Hr ks
def Hr:List Tm->Bool
 | []=>true
 | t::r=>Jl t&&Hr r
end
theorem L9:∀(t:Tm),Jl t=true->Bg Tryz.prog 206 [.imm (.agg (CO t))] [] (.ret HE [])
 | .mk op n x ks ps,hy=>by
  refine E8 0 rfl λhok=>?_;have hv:ks.length<=9223372036854775807:=by
   simp [Cx,EM,CO,maxLen] at hok;have:=hok.1;omega
  simp only [Jl,Bool.and_eq_true_iff] at hy;refine Af Hb Tryz.func206 (by decide +kernel) rfl [1,2,3] rfl rfl ?_;refine Ew rfl ?_;refine A9 (fr:=[]) [] [] rfl (by simp) (SY op n x ks ps hy.1) trivial rfl rfl rfl rfl ?_;refine Ew rfl ?_;refine Am (λi:Nat=>[(9,.imm (.int .i64 i)),(8,.imm (.int .i64 ks.length)),(7,.imm (.sl (LZ ks))),(1,.ref 1 0)]) (λ_=>[(1,some (.immb 165 5 (CO (.mk op n x ks ps))))]) [2,3] (λi=>ks.length-i)
   (λi=>i<=ks.length/\Hr (ks.drop i)=true) 0 ⟨Nat.zero_le _,hy.2⟩ ⟨rfl,A3 (by simp),rfl,rfl,trivial⟩ ⟨rfl,trivial⟩ rfl λi hi ih=>?_
  refine P4 rfl ?_;have hi2:=hi.2;refine Ab rfl (λh=>?_) (λh=>?_)
  ·simp at h;obtain ⟨t,ht⟩:=Ap h;rw [Av ht] at hi2;simp only [Hr,Bool.and_eq_true_iff] at hi2;refine P4 rfl ?_;refine si rfl (c:=CO t) (λ_=>⟨by simp,by simpa using IP ht,by simp⟩) (by simp) ?_;refine Ew rfl ?_
   ·refine A9 (fr:=[]) [] [] rfl (by simp) (L9 t hi2.1) trivial rfl rfl rfl rfl ?_;refine Ew rfl ?_;exact Ae (ih (i+1) (by omega) ⟨by omega,hi2.2⟩) ⟨A3 (BI (by omega) (by omega)),rfl,rfl,rfl,trivial⟩ ⟨rfl,trivial⟩ rfl
  ·refine P4 rfl ?_;exact C8 ⟨_,rfl,rfl,trivial⟩
termination_by t=>SizeOf.sizeOf t
decreasing_by
 all_goals
  have:=List.sizeOf_lt_of_mem (List.mem_of_getElem? ht);simp_wf;omega
theorem SX:∀(t:Tm),Jl t=false->Bg Tryz.prog 206 [.imm (.agg (CO t))] [] (.pan F9)
 | .mk op n x ks ps,hy=>by
  refine E8 0 rfl λhok=>?_;have hv:ks.length<=9223372036854775807:=by
   simp [Cx,EM,CO,maxLen] at hok;have:=hok.1;omega
  simp only [Jl,Bool.and_eq_false_iff] at hy;refine Af Hb Tryz.func206 (by decide +kernel) rfl [1,2,3] rfl rfl ?_;refine Ew rfl ?_;by_cases hn:T9 op n x ks.length ps=true
  rotate_left
  ·exact AC [] rfl (by simp) (gE op n x ks ps (by simpa using hn)) trivial rfl rfl
  rw [hn] at hy;simp only [Bool.true_eq_false,false_or] at hy;refine A9 (fr:=[]) [] [] rfl (by simp) (SY op n x ks ps hn) trivial rfl rfl rfl rfl ?_;refine Ew rfl ?_;refine Am (λi:Nat=>[(9,.imm (.int .i64 i)),(8,.imm (.int .i64 ks.length)),(7,.imm (.sl (LZ ks))),(1,.ref 1 0)]) (λ_=>[(1,some (.immb 165 5 (CO (.mk op n x ks ps))))]) [2,3] (λi=>ks.length-i)
   (λi=>i<=ks.length/\Hr (ks.drop i)=false) 0 ⟨Nat.zero_le _,hy⟩ ⟨rfl,A3 (by simp),rfl,rfl,trivial⟩ ⟨rfl,trivial⟩ rfl λi hi ih=>?_
  refine P4 rfl ?_;have hi2:=hi.2;refine Ab rfl (λh=>?_) (λh=>?_)
  ·simp at h;obtain ⟨t,ht⟩:=Ap h;rw [Av ht] at hi2;simp only [Hr,Bool.and_eq_false_iff] at hi2;refine P4 rfl ?_;refine si rfl (c:=CO t) (λ_=>⟨by simp,by simpa using IP ht,by simp⟩) (by simp) ?_;refine Ew rfl ?_;by_cases hz:Jl t=true
   ·refine A9 (fr:=[]) [] [] rfl (by simp) (L9 t hz) trivial rfl rfl rfl rfl ?_;refine Ew rfl ?_;exact Ae (ih (i+1) (by omega) ⟨by omega,by rw [hz] at hi2;simpa using hi2⟩) ⟨A3 (BI (by omega) (by omega)),rfl,rfl,rfl,trivial⟩ ⟨rfl,trivial⟩ rfl
   ·exact AC [] rfl (by simp) (SX t (by simpa using hz)) trivial rfl rfl
  ·exfalso;simp at h;rw [List.drop_eq_nil_of_le (by omega)] at hi2;simp [Hr] at hi2
termination_by t=>SizeOf.sizeOf t
decreasing_by
 all_goals
  have:=List.sizeOf_lt_of_mem (List.mem_of_getElem? ht);simp_wf;omega
def Mc (t:Tm):Bool:=decide (0<=BH t 60 14)&&Jl t
theorem Zm (t:Tm) (h:Mc t=true):Bg Tryz.prog 204 [.ref 1 0] [(1,some (.immb 165 5 (CO t)))] (.ret HE [(1,some (.immb 165 5 (CO t)))]):=by
 simp only [Mc,Bool.and_eq_true,decide_eq_true_eq] at h;refine Af Hb Tryz.func204 (by decide +kernel) rfl [2,3,4] rfl rfl ?_;refine Ew rfl ?_;refine A9 (fr:=[]) [(2,1)] [] rfl (by simp) (KL t 60 14 1 (by decide) (by decide) (by decide) (by decide) (by decide) (by decide) h.1) ⟨⟨rfl,rfl,rfl⟩,trivial⟩ rfl rfl rfl rfl ?_;refine Ew rfl ?_;refine A9 (fr:=[]) [] [] rfl (by simp) (L9 t h.2) trivial rfl rfl rfl rfl ?_;refine Ew rfl ?_;exact C8 ⟨_,rfl,rfl,⟨rfl,trivial⟩⟩
theorem eV (t:Tm) (h:Mc t=false):Bg Tryz.prog 204 [.ref 1 0] [(1,some (.immb 165 5 (CO t)))] (.pan F9):=by
 refine Af Hb Tryz.func204 (by decide +kernel) rfl [2,3,4] rfl rfl ?_;refine Ew rfl ?_;by_cases h1:0<=BH t 60 14
 ·refine A9 (fr:=[]) [(2,1)] [] rfl (by simp) (KL t 60 14 1 (by decide) (by decide) (by decide) (by decide) (by decide) (by decide) h1) ⟨⟨rfl,rfl,rfl⟩,trivial⟩ rfl rfl rfl rfl ?_;refine Ew rfl ?_;exact AC [] rfl (by simp) (SX t (by simpa [Mc,h1] using h)) trivial rfl rfl
 ·exact AC [(2,1)] rfl (by simp) (WR t 60 14 1 (by decide) (by decide) (by decide) (by decide) (by decide) (by decide) (by show BH t 60 14<0;omega)) ⟨⟨rfl,rfl,rfl⟩,trivial⟩ rfl rfl
theorem mC (t:Tm):Ak Tryz.prog 193 [.agg (CO t)] (Kt (Mc t)):=by
 refine Af Hb Tryz.func193 (by decide +kernel) rfl [1,2,3] rfl rfl ?_;refine Ew rfl ?_;cases h:Mc t with
 | true =>
  refine A9 (fr:=[]) [(1,1)] [] rfl (by simp) (Nm Tryz.func204 (by decide +kernel) rfl (Zm t h)) ⟨⟨rfl,rfl,rfl⟩,trivial⟩ rfl rfl rfl rfl ?_;refine Ew rfl ?_;exact Aa rfl rfl rfl
 | false =>
  refine A9 (fr:=[]) [(1,1)] [] rfl (by simp) (Ps Tryz.func204 (by decide +kernel) rfl (eV t h)) ⟨⟨rfl,rfl,rfl⟩,trivial⟩ rfl rfl rfl rfl ?_;refine Ew rfl ?_;exact Aa rfl rfl rfl
def mG:TT:=fV++[
 (248,⟨.iface,false,1,16,[.imm .niliface]⟩),
 (241,⟨.sl 248,false,1,24,[.nils]⟩),
 (243,⟨.struct [(0,72)],true,2,40,[.imm (.str []),.nils]⟩),
 (245,⟨.struct [(0,167)],true,15,224,[.imm (.str []),.imm (.str []),.imm (.int .i64 0),.imm (.int .i64 0),.imm (.str []),.nils,.imm (.int .i64 0),.imm (.int .i64 0),.imm (.str []),.nils,.imm (.int .i64 0),.imm (.int .i64 0),.imm (.str []),.nils,.nils]⟩),
 (99,⟨.func,false,1,8,[.imm .nilfn]⟩),
 (264,⟨.func,false,1,8,[.imm .nilfn]⟩),
 (249,⟨.func,false,1,8,[.imm .nilfn]⟩)]
theorem Cz:TTok Tryz.prog mG:=.of_eq (l:=[4,3,9,165,26,69,162,27,5,24,23,172,163,67,167,171,75,22,169,72,70,37,267,213,1,216,280,248,241,243,245,99,264,249]) (by kernel_rfl)
section
variable {n:Nat} {F:List Nat} {Q:DQ} {env env':Env} {st st':St} {ids ids':List Nat} {k todo:List DI} {ob:List Prop}
theorem ad (path:List Pt) (h:run mG n 300 path todo env st ids [] = .at k env' st' ids' ob) (hob:AA ob) (hd:G Tryz.prog n F Q k env' st' ids'):DGo Tryz.prog n F Q todo env st ids:=Lv Cz EV 300 path h hob hd
theorem DR (h:run mG n 300 [] todo env st ids [] = .at k env' st' ids' ob) (hd:G Tryz.prog n F Q k env' st' ids') (hob:AA ob:=by simp):DGo Tryz.prog n F Q todo env st ids:=ad [] h hob hd
theorem adqc (h:run mG n 300 [] todo env st ids [] = .at k env' st' ids' ob) (hd:G Tryz.prog n F Q k env' st' ids') (hob:AA ob:=by simp [An]):DGo Tryz.prog n F Q todo env st ids:=ad [] h hob hd
theorem ag (path:List Pt) (h:run mG n 300 path todo env st ids [] = .at k env' st' ids' ob) (hob:AA ob) (hd:G Tryz.prog n F Q k env' st' ids'):G Tryz.prog n F Q todo env st ids:=Ks Cz EV 300 path h hob hd
theorem DP (h:run mG n 300 [] todo env st ids [] = .at k env' st' ids' ob) (hd:G Tryz.prog n F Q k env' st' ids') (hob:AA ob:=by simp):G Tryz.prog n F Q todo env st ids:=ag [] h hob hd
theorem SF (h:run mG n 300 [] todo env st ids [] = .at k env' st' ids' ob) (hd:G Tryz.prog n F Q k env' st' ids') (hob:AA ob:=by simp [An]):G Tryz.prog n F Q todo env st ids:=ag [] h hob hd
theorem ai {es:List (List V)} {m:Int} {sz:Nat} {e:TypeId} {g:Option (Bool×Bool)} {ob:List Prop} {t:Nat} {todo':List DI} {c:List V} (h:P7 mG n env todo=some ⟨es,m,sz,e,g,ob,some t,todo'⟩)
  (hc:An g->0<=m/\es[m.toNat]?=some c/\c.length=sz) (hob:AA ob) (hk:G Tryz.prog n F Q todo' ((t,gD g (.ip e c 0))::env) st ids):G Tryz.prog n F Q todo env st ids:=Gg Cz h hc hob hk
end
def Fb {α:Type} (q:α->Bool):List α->Nat->Int
 | [],_=>-1
 | e::r,i=>if q e then (i:Int) else Fb q r (i+1)
theorem IJ {α:Type} (q:α->Bool):∀(es:List α) (i:Nat),0<=Fb q es i↔es.any q=true
 | [],i=>by simp [Fb]
 | e::r,i=>by
  have ih:=IJ q r (i+1);by_cases h:q e=true
  ·simp [Fb,h]
  ·simp only [Fb,h,List.any_cons];simpa using ih
theorem qO (g:FuncId) (tf:TypeId) (fv:V) (q:List V->Bool) (es:List (List V)) (hes:∀e∈es,e.length=4) (hlen:es.length<=9223372036854775806)
  (hq:∀e∈es,Bg Tryz.prog g [.imm (.agg e),.ref 1 0] [(1,some (.immb tf 1 [fv]))] (.ret (.imm (.bool (q e))) [(1,some (.immb tf 1 [fv]))])) :
  Bg Tryz.prog 166 [.imm (.sl es),.fn (.func g) [] [.ref 1 0]] [(1,some (.immb tf 1 [fv]))] (.ret (.imm (.int .i64 (Fb q es 0))) [(1,some (.immb tf 1 [fv]))]):=by
 refine Af Cz Tryz.func166 (by decide +kernel) rfl [2,3,4] rfl rfl ?_;refine DP rfl ?_;refine Am (λi:Nat=>[(8,.imm (.int .i64 i)),(7,.imm (.int .i64 es.length)),(0,.imm (.sl es)),(1,.fn (.func g) [] [.ref 1 0])]) (λ_=>[(1,some (.immb tf 1 [fv]))]) [2,3,4] (λi=>es.length-i)
  (λi=>i<=es.length/\Fb q es 0=Fb q (es.drop i) i) 0 ⟨Nat.zero_le _,rfl⟩ ⟨rfl,A3 (by simp),rfl,rfl,trivial⟩ ⟨rfl,trivial⟩ rfl λi hi ih=>?_
 refine DR rfl ?_;have hi2:=hi.2;refine Ab rfl (λh=>?_) (λh=>?_)
 ·simp at h;obtain ⟨e,he⟩:=Ap h;have hm:=List.mem_of_getElem? he;rw [Av he] at hi2;refine DR rfl ?_;refine ai rfl (c:=e) (λ_=>⟨by simp,by simpa using he,hes e hm⟩) (by simp) ?_;refine ag [] rfl (by simp [hes e hm]) ?_;refine A9 (fr:=[]) [(1,1)] [] rfl (by simp) (hq e hm) ⟨⟨rfl,rfl,rfl⟩,trivial⟩ rfl rfl rfl rfl ?_;refine DP rfl ?_;refine Ab rfl (λh=>?_) (λh=>?_)
  ·refine DR rfl ?_;exact Au ⟨_,rfl,tV (congrArg _ (by rw [hi2];simp [Fb,h])),⟨rfl,trivial⟩⟩
  ·refine DR rfl ?_;exact Ae (ih (i+1) (by omega) ⟨by omega,by rw [hi2];simp [Fb,h]⟩) ⟨A3 (BI (by omega) (by omega)),rfl,rfl,rfl,trivial⟩ ⟨rfl,trivial⟩ rfl
 ·refine DR rfl ?_;simp at h;refine Au ⟨_,rfl,tV (congrArg _ ?_),⟨rfl,trivial⟩⟩;rw [hi2,List.drop_eq_nil_of_le (by omega)];rfl
theorem eN (g:FuncId) (tf:TypeId) (fv:V) (q:List V->Bool) (es:List (List V)) (hes:∀e∈es,e.length=4) (hlen:es.length<=9223372036854775806)
  (hq:∀e∈es,Bg Tryz.prog g [.imm (.agg e),.ref 1 0] [(1,some (.immb tf 1 [fv]))] (.ret (.imm (.bool (q e))) [(1,some (.immb tf 1 [fv]))])) :
  Bg Tryz.prog 124 [.imm (.sl es),.fn (.func g) [] [.ref 1 0]] [(1,some (.immb tf 1 [fv]))] (.ret (.imm (.bool (es.any q))) [(1,some (.immb tf 1 [fv]))]):=by
 refine Af Cz Tryz.func124 (by decide +kernel) rfl [2,3,4] rfl rfl ?_;refine DP rfl ?_;refine A9 (fr:=[]) [(1,1)] [] rfl (by simp) (qO g tf fv q es hes hlen hq) ⟨⟨rfl,rfl,rfl⟩,trivial⟩ rfl rfl rfl rfl ?_;refine DP rfl ?_;refine Au ⟨_,rfl,tV (congrArg _ ?_),⟨rfl,trivial⟩⟩;rw [Bool.eq_iff_iff,<- IJ q es 0];simp
theorem sD (g:FuncId) (e:List V) (hel:e.length=4) (b:Bool) (hq:Ak Tryz.prog g [.agg e] (.bool b)) :
  Bg Tryz.prog 203 [.imm (.agg e),.ref 1 0] [(1,some (.immb 99 1 [.fn (.func g)]))] (.ret (.imm (.bool (!b))) [(1,some (.immb 99 1 [.fn (.func g)]))]):=by
 refine Af Cz Tryz.func203 (by decide +kernel) rfl [2,3,4] rfl rfl ?_;refine ag [] rfl (by simp [hel]) ?_;refine A9 (fr:=[]) [] [] rfl (by simp) hq trivial rfl rfl rfl rfl ?_;refine DP rfl ?_;exact Au ⟨_,rfl,tV rfl,⟨rfl,trivial⟩⟩
theorem allT (g:FuncId) (q:List V->Bool) (es:List (List V)) (hes:∀e∈es,e.length=4) (hlen:es.length<=9223372036854775806) (hq:∀e∈es,Ak Tryz.prog g [.agg e] (.bool (q e))) :
  Ak Tryz.prog 191 [.sl es,.fn (.func g)] (.bool (es.all q)):=by
 refine Af Cz Tryz.func191 (by decide +kernel) rfl [1,2,3] rfl rfl ?_;refine DP rfl ?_;refine A9 (fr:=[]) [(1,1)] [] rfl (by simp) (eN 203 99 (.fn (.func g)) (λe=>!q e) es hes hlen (λe he=>sD g e (hes e he) (q e) (hq e he))) ⟨⟨rfl,rfl,rfl⟩,trivial⟩ rfl rfl rfl rfl ?_;refine DP rfl ?_;refine Aa rfl rfl (congrArg _ ?_);rw [List.any_eq_not_all_not];simp
theorem qQ (g:FuncId) (tf:TypeId) (fv:V) (q:List V->Bool) (es:List (List V)) (hes:∀e∈es,e.length=2) (hlen:es.length<=9223372036854775806)
  (hq:∀e∈es,Bg Tryz.prog g [.imm (.agg e),.ref 1 0] [(1,some (.immb tf 1 [fv]))] (.ret (.imm (.bool (q e))) [(1,some (.immb tf 1 [fv]))])) :
  Bg Tryz.prog 210 [.imm (.sl es),.fn (.func g) [] [.ref 1 0]] [(1,some (.immb tf 1 [fv]))] (.ret (.imm (.int .i64 (Fb q es 0))) [(1,some (.immb tf 1 [fv]))]):=by
 refine Af Cz Tryz.func210 (by decide +kernel) rfl [2,3,4] rfl rfl ?_;refine DP rfl ?_;refine Am (λi:Nat=>[(8,.imm (.int .i64 i)),(7,.imm (.int .i64 es.length)),(0,.imm (.sl es)),(1,.fn (.func g) [] [.ref 1 0])]) (λ_=>[(1,some (.immb tf 1 [fv]))]) [2,3,4] (λi=>es.length-i)
  (λi=>i<=es.length/\Fb q es 0=Fb q (es.drop i) i) 0 ⟨Nat.zero_le _,rfl⟩ ⟨rfl,A3 (by simp),rfl,rfl,trivial⟩ ⟨rfl,trivial⟩ rfl λi hi ih=>?_
 refine DR rfl ?_;have hi2:=hi.2;refine Ab rfl (λh=>?_) (λh=>?_)
 ·simp at h;obtain ⟨e,he⟩:=Ap h;have hm:=List.mem_of_getElem? he;rw [Av he] at hi2;refine DR rfl ?_;refine ai rfl (c:=e) (λ_=>⟨by simp,by simpa using he,hes e hm⟩) (by simp) ?_;refine ag [] rfl (by simp [hes e hm]) ?_;refine A9 (fr:=[]) [(1,1)] [] rfl (by simp) (hq e hm) ⟨⟨rfl,rfl,rfl⟩,trivial⟩ rfl rfl rfl rfl ?_;refine DP rfl ?_;refine Ab rfl (λh=>?_) (λh=>?_)
  ·refine DR rfl ?_;exact Au ⟨_,rfl,tV (congrArg _ (by rw [hi2];simp [Fb,h])),⟨rfl,trivial⟩⟩
  ·refine DR rfl ?_;exact Ae (ih (i+1) (by omega) ⟨by omega,by rw [hi2];simp [Fb,h]⟩) ⟨A3 (BI (by omega) (by omega)),rfl,rfl,rfl,trivial⟩ ⟨rfl,trivial⟩ rfl
 ·refine DR rfl ?_;simp at h;refine Au ⟨_,rfl,tV (congrArg _ ?_),⟨rfl,trivial⟩⟩;rw [hi2,List.drop_eq_nil_of_le (by omega)];rfl
theorem eP (g:FuncId) (tf:TypeId) (fv:V) (q:List V->Bool) (es:List (List V)) (hes:∀e∈es,e.length=2) (hlen:es.length<=9223372036854775806)
  (hq:∀e∈es,Bg Tryz.prog g [.imm (.agg e),.ref 1 0] [(1,some (.immb tf 1 [fv]))] (.ret (.imm (.bool (q e))) [(1,some (.immb tf 1 [fv]))])) :
  Bg Tryz.prog 201 [.imm (.sl es),.fn (.func g) [] [.ref 1 0]] [(1,some (.immb tf 1 [fv]))] (.ret (.imm (.bool (es.any q))) [(1,some (.immb tf 1 [fv]))]):=by
 refine Af Cz Tryz.func201 (by decide +kernel) rfl [2,3,4] rfl rfl ?_;refine DP rfl ?_;refine A9 (fr:=[]) [(1,1)] [] rfl (by simp) (qQ g tf fv q es hes hlen hq) ⟨⟨rfl,rfl,rfl⟩,trivial⟩ rfl rfl rfl rfl ?_;refine DP rfl ?_;refine Au ⟨_,rfl,tV (congrArg _ ?_),⟨rfl,trivial⟩⟩;rw [Bool.eq_iff_iff,<- IJ q es 0];simp
theorem sF (g:FuncId) (e:List V) (hel:e.length=2) (b:Bool) (hq:Ak Tryz.prog g [.agg e] (.bool b)) :
  Bg Tryz.prog 202 [.imm (.agg e),.ref 1 0] [(1,some (.immb 264 1 [.fn (.func g)]))] (.ret (.imm (.bool (!b))) [(1,some (.immb 264 1 [.fn (.func g)]))]):=by
 refine Af Cz Tryz.func202 (by decide +kernel) rfl [2,3,4] rfl rfl ?_;refine ag [] rfl (by simp [hel]) ?_;refine A9 (fr:=[]) [] [] rfl (by simp) hq trivial rfl rfl rfl rfl ?_;refine DP rfl ?_;exact Au ⟨_,rfl,tV rfl,⟨rfl,trivial⟩⟩
theorem allC (g:FuncId) (q:List V->Bool) (es:List (List V)) (hes:∀e∈es,e.length=2) (hlen:es.length<=9223372036854775806) (hq:∀e∈es,Ak Tryz.prog g [.agg e] (.bool (q e))) :
  Ak Tryz.prog 189 [.sl es,.fn (.func g)] (.bool (es.all q)):=by
 refine Af Cz Tryz.func189 (by decide +kernel) rfl [1,2,3] rfl rfl ?_;refine DP rfl ?_;refine A9 (fr:=[]) [(1,1)] [] rfl (by simp) (eP 202 264 (.fn (.func g)) (λe=>!q e) es hes hlen (λe he=>sF g e (hes e he) (q e) (hq e he))) ⟨⟨rfl,rfl,rfl⟩,trivial⟩ rfl rfl rfl rfl ?_;refine DP rfl ?_;refine Aa rfl rfl (congrArg _ ?_);rw [List.any_eq_not_all_not];simp
theorem qP (g:FuncId) (tf:TypeId) (fv:V) (q:V->Bool) (es:List V) (hlen:es.length<=9223372036854775806)
  (hq:∀e∈es,Bg Tryz.prog g [.imm e,.ref 1 0] [(1,some (.immb tf 1 [fv]))] (.ret (.imm (.bool (q e))) [(1,some (.immb tf 1 [fv]))])) :
  Bg Tryz.prog 200 [.imm (.sl (es.map λx=>[x])),.fn (.func g) [] [.ref 1 0]] [(1,some (.immb tf 1 [fv]))] (.ret (.imm (.int .i64 (Fb q es 0))) [(1,some (.immb tf 1 [fv]))]):=by
 refine Af Cz Tryz.func200 (by decide +kernel) rfl [2,3,4] rfl rfl ?_;refine DP rfl ?_;refine Am (λi:Nat=>[(8,.imm (.int .i64 i)),(7,.imm (.int .i64 es.length)),(0,.imm (.sl (es.map λx=>[x]))),(1,.fn (.func g) [] [.ref 1 0])]) (λ_=>[(1,some (.immb tf 1 [fv]))]) [2,3,4] (λi=>es.length-i)
  (λi=>i<=es.length/\Fb q es 0=Fb q (es.drop i) i) 0 ⟨Nat.zero_le _,rfl⟩ ⟨rfl,A3 (by simp),rfl,rfl,trivial⟩ ⟨rfl,trivial⟩ rfl λi hi ih=>?_
 refine DR rfl ?_;have hi2:=hi.2;refine Ab rfl (λh=>?_) (λh=>?_)
 ·simp at h;obtain ⟨e,he⟩:=Ap h;have hm:=List.mem_of_getElem? he;rw [Av he] at hi2;refine DR rfl ?_;refine ai rfl (c:=[e]) (λ_=>⟨by simp,by simp [he],rfl⟩) (by simp) ?_;refine DP rfl ?_;refine A9 (fr:=[]) [(1,1)] [] rfl (by simp) (hq e hm) ⟨⟨rfl,rfl,rfl⟩,trivial⟩ rfl rfl rfl rfl ?_;refine DP rfl ?_;refine Ab rfl (λh=>?_) (λh=>?_)
  ·refine DR rfl ?_;exact Au ⟨_,rfl,tV (congrArg _ (by rw [hi2];simp [Fb,h])),⟨rfl,trivial⟩⟩
  ·refine DR rfl ?_;exact Ae (ih (i+1) (by omega) ⟨by omega,by rw [hi2];simp [Fb,h]⟩) ⟨A3 (BI (by omega) (by omega)),rfl,rfl,rfl,trivial⟩ ⟨rfl,trivial⟩ rfl
 ·refine DR rfl ?_;simp at h;refine Au ⟨_,rfl,tV (congrArg _ ?_),⟨rfl,trivial⟩⟩;rw [hi2,List.drop_eq_nil_of_le (by omega)];rfl
theorem eO (g:FuncId) (tf:TypeId) (fv:V) (q:V->Bool) (es:List V) (hlen:es.length<=9223372036854775806)
  (hq:∀e∈es,Bg Tryz.prog g [.imm e,.ref 1 0] [(1,some (.immb tf 1 [fv]))] (.ret (.imm (.bool (q e))) [(1,some (.immb tf 1 [fv]))])) :
  Bg Tryz.prog 187 [.imm (.sl (es.map λx=>[x])),.fn (.func g) [] [.ref 1 0]] [(1,some (.immb tf 1 [fv]))] (.ret (.imm (.bool (es.any q))) [(1,some (.immb tf 1 [fv]))]):=by
 refine Af Cz Tryz.func187 (by decide +kernel) rfl [2,3,4] rfl rfl ?_;refine DP rfl ?_;refine A9 (fr:=[]) [(1,1)] [] rfl (by simp) (qP g tf fv q es hlen hq) ⟨⟨rfl,rfl,rfl⟩,trivial⟩ rfl rfl rfl rfl ?_;refine DP rfl ?_;refine Au ⟨_,rfl,tV (congrArg _ ?_),⟨rfl,trivial⟩⟩;rw [Bool.eq_iff_iff,<- IJ q es 0];simp
theorem sE (g:FuncId) (e:V) (b:Bool) (hq:Ak Tryz.prog g [e] (.bool b)) :
  Bg Tryz.prog 188 [.imm e,.ref 1 0] [(1,some (.immb 249 1 [.fn (.func g)]))] (.ret (.imm (.bool (!b))) [(1,some (.immb 249 1 [.fn (.func g)]))]):=by
 refine Af Cz Tryz.func188 (by decide +kernel) rfl [2,3,4] rfl rfl ?_;refine DP rfl ?_;refine A9 (fr:=[]) [] [] rfl (by simp) hq trivial rfl rfl rfl rfl ?_;refine DP rfl ?_;exact Au ⟨_,rfl,tV rfl,⟨rfl,trivial⟩⟩
theorem allI (g:FuncId) (q:V->Bool) (es:List V) (hlen:es.length<=9223372036854775806) (hq:∀e∈es,Ak Tryz.prog g [e] (.bool (q e))) :
  Ak Tryz.prog 164 [.sl (es.map λx=>[x]),.fn (.func g)] (.bool (es.all q)):=by
 refine Af Cz Tryz.func164 (by decide +kernel) rfl [1,2,3] rfl rfl ?_;refine DP rfl ?_;refine A9 (fr:=[]) [(1,1)] [] rfl (by simp) (eO 188 249 (.fn (.func g)) (λe=>!q e) es hlen (λe he=>sE g e (q e) (hq e he))) ⟨⟨rfl,rfl,rfl⟩,trivial⟩ rfl rfl rfl rfl ?_;refine DP rfl ?_;refine Aa rfl rfl (congrArg _ ?_);rw [List.any_eq_not_all_not];simp
end Go.Hk
namespace Go.Hk
def RO:Sh->Bool
 | .iface | .other=>false
 | _=>true
structure PTa where
 t:TypeId
 v:V
 to_:TypeId
 dst:Option Nat
 todo:List DI
def pta (tt:TT) (n:Nat) (env:Env) (todo:List DI):Option PTa :=
 match UO todo with
 | some o=>match o.guard,o.op with
  | none,.typeAssert x _ to_ true=>match D2 env x,lk tt to_,BJ n o.dst,Bk todo ([],[]) with
   | some (.imm (.iface t v)),some i,true,some (_,_,todo')=>match RO i.sh with
    | true=>some ⟨t,v,to_,o.dst,todo'⟩
    | false=>none
   | _,_,_,_=>none
  | _,_=>none
 | none=>none
section
variable {P:Program} {n:Nat} {F:List Nat} {Q:DQ} {tt:TT} {env env':Env} {st st':St} {ids ids':List Nat} {k todo todo':List DI} {I:Imm} {μ:Mu} {w:World} {a:Act} {Pn:V->Prop} {d:D} {cx:Prop} {ob:List Prop}
theorem O6 {t to_ from_:TypeId} {i:TyI} {v:Value} (hi:TyOk P to_ i) (hc:RO i.sh=true) {r:Value} (h:(t=to_/\r = .tuple #[v,.bool true])\/(t≠to_/\∃z,(P.info? to_).bind (·.zero)=some z/\r = .tuple #[z,.bool false])) :
  (Instr.typeAssert (.iface t v) from_ to_ true).run P w = .ok r w:=by
 have hu:∃dd,P.underlying to_=some dd/\∀ms,dd ≠ .interface ms:=by
  have:=hi.sh;generalize i.sh=sh at this hc;cases sh <;> simp only [RO,Bool.false_eq_true] at hc <;> simp only [PF] at this
  case struct fs=>obtain ⟨f,h1,_⟩:=this;exact ⟨_,h1,λ_ h=>by cases h⟩
  case func=>obtain ⟨a,b,c,h1⟩:=this;exact ⟨_,h1,λ_ h=>by cases h⟩
  all_goals exact ⟨_,this,λ_ h=>by cases h⟩
 obtain ⟨dd,hd,hne⟩:=hu;rcases h with ⟨rfl,rfl⟩ | ⟨hn,z,hz,rfl⟩
 ·cases dd <;> first | exact absurd rfl (hne _) | simp [Instr.typeAssert,run_underlying hd]
 ·have hz:=FI (w:=w) hz;cases dd <;> first | exact absurd rfl (hne _) | simp [Instr.typeAssert,run_underlying hd,hn,hz]
theorem IL (htt:TTok P tt) {t0 to_:TypeId} {v0:V} {d0:Option Nat} {todo0:List DI} (h:pta tt n env todo=some ⟨t0,v0,to_,d0,todo0⟩) {r:List V}
  (hr:(t0=to_/\r=[v0,.bool true])\/(t0≠to_/\∃z zd,(P.info? to_).bind (·.zero)=some z/\(∀I,RepV I z zd)/\r=[zd,.bool false]))
  (hk:G P n F Q todo0 (BE d0 (.imm (.tup r)) env) st ids):G P n F Q todo env st ids:=by
 unfold pta at h
 split at h
 ·rename_i o ho
  split at h
  ·rename_i x from_ to' hg hop
   split at h
   ·rename_i t v i all o' todo' hx hi hd h1
    split at h
    ·rename_i hc;cases h;have ho':o'=o:=ER ho h1;subst ho';refine BC (fr:=[]) (wr:=[]) (rd:=[]) h1 ?_ hd (λc hc=>by rw [hop] at hc;cases hc) hk;intro I μ st1 ids1 a w hag hst hon;refine ⟨λ_=>?_,λhw=>by rw [AF hg] at hw;cases hw⟩;have hops:=Bh hon;rw [hop] at hops;have rx:=(hops x (by simp [Op.operands]) _ hx).immInv;generalize hv:a.eval x=v at rx;cases rx with
     | iface _ u _ hu =>
      have fin:∀(z:Value) (b:Bool) (zd:V),(Instr.typeAssert (.iface t0 u) from_ to_ true).run P w = .ok (.tuple #[z,.bool b]) w->RepV I z zd->r=[zd,.bool b] ->
        valX P ((execOp a.eval o').run P w) (λv w'=>∃I' μ',StRep I' μ' ([]++st1) ids1 w'/\RepD I' μ' v (.imm (.tup r))/\μ.le μ'/\Ext I μ st1 w I' μ' ([]++st1) w') (Ld (M5 Q) I μ st1 w):=by
       intro z b zd h1 h2 h3;have hrun:(execOp a.eval o').run P w = .ok (.value (.tuple #[z,.bool b])) w:=by
        simp only [execOp,hop,hv];exact A4 h1
       rw [hrun,h3];refine ⟨I,μ,hst,.imm _ _ (.tup _ _ rfl λi c x hc hx=>?_),Mu.le_refl μ,Ext.refl _ _ _ _⟩
       match i,hc,hx with
       | 0,hc,hx=>cases hc;cases hx;exact h2
       | 1,hc,hx=>cases hc;cases hx;exact .bool _
       | i+2,hc,hx=>simp at hx
      rcases hr with ⟨e1,e2⟩ | ⟨e1,z,zd,e2,e3,e4⟩
      ·exact fin u true v0 (O6 (htt _ _ hi) hc (.inl ⟨e1,rfl⟩)) hu e2
      ·exact fin z false zd (O6 (htt _ _ hi) hc (.inr ⟨e1,z,e2,rfl⟩)) (e3 I) e4
    ·cases h
   ·cases h
  ·cases h
 ·cases h
end
end Go.Hk
namespace Go.Hk
open Go.Proofs
mutual
theorem H3:∀{a b:Ty},dTyc a=dTyc b->a=b
 | .mk s n x ps,.mk s' n' x' ps',h=>by
  simp only [dTyc,List.cons.injEq,V.int.injEq,V.str.injEq,V.sl.injEq,and_true,true_and] at h;obtain ⟨h1,h2,h3,h4⟩:=h;subst h1;subst h2;subst h3;rw [H2 h4]
theorem H2:∀{a b:List Ty},BQ a=BQ b->a=b
 | [],[],_=>rfl
 | [],_::_,h=>by simp [BQ] at h
 | _::_,[],h=>by simp [BQ] at h
 | x::r,y::t,h=>by
  simp only [BQ,List.cons.injEq] at h;rw [H3 h.1,H2 h.2]
end
theorem RH {a b:Cd} (h:DN a=DN b):a=b:=by
 obtain ⟨a1,a2⟩:=a;obtain ⟨b1,b2⟩:=b;simp only [DN,List.cons.injEq,V.str.injEq,V.sl.injEq,and_true] at h;rw [h.1,H2 h.2]
open Classical in
noncomputable def qOf {α β:Type} (d:α->β) (f:α->Bool) (e:β):Bool:=decide (∃t,d t=e/\f t=true)
open Classical in
theorem JW {α β:Type} {d:α->β} (hd:∀{a b},d a=d b->a=b) (f:α->Bool) (t:α):qOf d f (d t)=f t:=by
 unfold qOf;by_cases h:f t=true
 ·rw [h];exact decide_eq_true ⟨t,rfl,h⟩
 ·simp only [Bool.not_eq_true] at h;rw [h];refine decide_eq_false λ⟨u,h1,h2⟩=>?_;rw [hd h1,h] at h2;cases h2
theorem UI {α β:Type} {d:α->β} (hd:∀{a b},d a=d b->a=b) (f:α->Bool) (l:List α):(l.map d).all (qOf d f)=l.all f:=by
 rw [List.all_map];congr 1;funext t;exact JW hd f t
def K1 (c:Cd):Bool:=Di c.name&&decide ((c.args.length:Int)<=3)&&c.args.all (Ce false)
def Fw (d:Dt):Bool:=Di d.name&&decide ((1:Int)<=d.cons.length)&&decide ((d.cons.length:Int)<=5)&&d.cons.all K1
def MS (f:Fd):Bool:=EU f.name&&EU f.param&&Ce false f.from_&&Ce false f.to_&&Mc f.body
theorem lS (ts:List Ty) (h:ts.length<=9223372036854775806):Ak Tryz.prog 191 [.sl (BQ ts),.fn (.func 192)] (.bool (ts.all (Ce false))):=by
 have:=allT 192 (qOf dTyc (Ce false)) (BQ ts) (λe he=>by rw [Dp] at he;obtain ⟨t,_,rfl⟩:=List.mem_map.1 he;simp) (by simpa using h) (λe he=>by
  rw [Dp] at he;obtain ⟨t,_,rfl⟩:=List.mem_map.1 he;rw [JW H3];exact Qj t)
 rw [Dp,UI H3] at this;rw [Dp];exact this
theorem cG (c:Cd):Ak Tryz.prog 190 [.agg (DN c)] (.bool (K1 c)):=by
 obtain ⟨nm,ts⟩:=c;refine AS λhv=>?_;simp [Cx,EM,DN,maxLen] at hv;refine Af Cz Tryz.func190 (by decide +kernel) rfl [1,2,3] rfl rfl ?_;refine SF rfl ?_;refine Ad rfl (λ_=>DL nm) (by simp [An]) ?_;refine SF rfl ?_;refine Ad rfl (λhg=>lS ts (by simp [An] at hg;omega)) (by simp [An]) ?_;refine ag [] rfl (by simp [An] <;> grind) ?_;refine Aa rfl rfl (congrArg _ ?_);simp [K1] <;> grind
theorem oJ (cs:List Cd) (h:cs.length<=9223372036854775806):Ak Tryz.prog 189 [.sl (cs.map DN),.fn (.func 190)] (.bool (cs.all K1)):=by
 have:=allC 190 (qOf DN K1) (cs.map DN) (λe he=>by obtain ⟨t,_,rfl⟩:=List.mem_map.1 he;rfl) (by simpa using h) (λe he=>by
  obtain ⟨t,_,rfl⟩:=List.mem_map.1 he;rw [JW RH];exact cG t)
 rw [UI RH] at this;exact this
def M4 (d:Dt):V:=.iface 243 (.agg (CU d))
def JZ (f:Fd):V:=.iface 245 (.agg (PD f))
theorem U0:∃z,(Tryz.prog.info? 243).bind (·.zero)=some z/\∀I,RepV I z (.agg [.str [],.sl []]):=by
 refine ⟨.agg #[.string ⟨#[]⟩,.slice none 0 0],by kernel_rfl,λI=>.agg _ _ rfl (by decide) λi c x hc hx=>?_⟩
 match i,hc,hx with
 | 0,hc,hx=>cases hc;cases hx;exact .str _ _ rfl
 | 1,hc,hx=>cases hc;cases hx;exact .slnil
 | i+2,hc,hx=>simp at hx
theorem Yf (d:Dt):Ak Tryz.prog 165 [M4 d] (.bool (Fw d)):=by
 obtain ⟨nm,cs⟩:=d;refine AS λhv=>?_;simp [Cx,EM,M4,CU,maxLen] at hv;refine Af Cz Tryz.func165 (by decide +kernel) rfl [1,2,3,4] rfl rfl ?_;refine SF rfl ?_;refine IL Cz rfl (.inl ⟨rfl,rfl⟩) ?_;refine ag [.a] rfl (by simp [An]) ?_;refine Ad rfl (λ_=>DL nm) (by simp [An]) ?_;refine SF rfl ?_;refine Ad rfl (λhg=>oJ cs (by simp [An] at hg;omega)) (by simp [An]) ?_;refine ag [] rfl (by simp [An] <;> grind) ?_;refine Aa rfl rfl (congrArg _ ?_);simp [Fw] <;> grind
theorem cF (f:Fd):Ak Tryz.prog 165 [JZ f] (.bool (MS f)):=by
 obtain ⟨nm,pm,⟨s1,n1,x1,p1⟩,⟨s2,n2,x2,p2⟩,⟨o3,n3,x3,k3,p3⟩⟩:=f;obtain ⟨z,hz,hzr⟩:=U0;refine AS λhv=>?_;refine Af Cz Tryz.func165 (by decide +kernel) rfl [1,2,3,4] rfl rfl ?_;refine SF rfl ?_;refine IL Cz rfl (.inr ⟨by decide,z,_,hz,hzr,rfl⟩) ?_;refine ag [.a] rfl (by simp [An]) ?_;refine IL Cz rfl (.inl ⟨rfl,rfl⟩) ?_;refine ag [.a] rfl (by simp [An]) ?_;refine Ad rfl (λ_=>Hd nm) (by simp [An]) ?_;refine SF rfl ?_;refine Ad rfl (λ_=>Hd pm) (by simp [An]) ?_;refine SF rfl ?_;refine Ad rfl (λ_=>Qj (.mk s1 n1 x1 p1)) (by simp [An]) ?_;refine SF rfl ?_;refine Ad rfl (λ_=>Qj (.mk s2 n2 x2 p2)) (by simp [An]) ?_;refine SF rfl ?_;refine Ad rfl (λ_=>mC (.mk o3 n3 x3 k3 p3)) (by simp [An]) ?_
 refine ag [] rfl (by simp [An] <;> grind) ?_;refine Aa rfl rfl (congrArg _ ?_);simp [MS,Kt] <;> grind
inductive Pt2 where
 | d (x:Dt)
 | f (x:Fd)
def lE:Pt2->V
 | .d x=>M4 x
 | .f x=>JZ x
def Wj:Pt2->Bool
 | .d x=>Fw x
 | .f x=>MS x
theorem hQ (p:Pt2):Ak Tryz.prog 165 [lE p] (.bool (Wj p)):=by
 cases p with
 | d x=>exact Yf x
 | f x=>exact cF x
mutual
theorem lD:∀{a b:Tm},CO a=CO b->a=b
 | .mk s n x ks ps,.mk s' n' x' ks' ps',h=>by
  simp only [CO,List.cons.injEq,V.int.injEq,V.str.injEq,V.sl.injEq,and_true,true_and] at h;obtain ⟨h1,h2,h3,h4,h5⟩:=h;subst h1;subst h2;subst h3;rw [RF h4,H2 h5]
theorem RF:∀{a b:List Tm},LZ a=LZ b->a=b
 | [],[],_=>rfl
 | [],_::_,h=>by simp [LZ] at h
 | _::_,[],h=>by simp [LZ] at h
 | x::r,y::t,h=>by
  simp only [LZ,List.cons.injEq] at h;rw [lD h.1,RF h.2]
end
theorem MC:∀{a b:List Cd},a.map DN=b.map DN->a=b
 | [],[],_=>rfl
 | [],_::_,h=>by simp at h
 | _::_,[],h=>by simp at h
 | x::r,y::t,h=>by
  simp only [List.map_cons,List.cons.injEq] at h;rw [RH h.1,MC h.2]
theorem aJ {a b:Pt2} (h:lE a=lE b):a=b:=by
 cases a with
 | d x=>cases b with
  | d y =>
   obtain ⟨x1,x2⟩:=x;obtain ⟨y1,y2⟩:=y;simp only [lE,M4,CU,V.iface.injEq,V.agg.injEq,List.cons.injEq,V.str.injEq,V.sl.injEq,true_and,and_true] at h;rw [h.1,MC h.2]
  | f y=>simp [lE,M4,JZ] at h
 | f x=>cases b with
  | d y=>simp [lE,M4,JZ] at h
  | f y =>
   obtain ⟨nm,pm,⟨s1,n1,x1,p1⟩,⟨s2,n2,x2,p2⟩,⟨o3,n3,x3,k3,p3⟩⟩:=x;obtain ⟨nm',pm',⟨s1',n1',x1',p1'⟩,⟨s2',n2',x2',p2'⟩,⟨o3',n3',x3',k3',p3'⟩⟩:=y;simp only [lE,JZ,PD,dTyc,CO,V.iface.injEq,V.agg.injEq,List.cons_append,List.nil_append,List.cons.injEq,V.str.injEq,V.int.injEq,V.sl.injEq,true_and,and_true] at h;obtain ⟨h1,h2,h3,h4,h5,h6,h7,h8,h9,h10,h11,h12,h13,h14,h15⟩:=h;rw [h1,h2,h3,h4,h5,H2 h6,h7,h8,h9,H2 h10,h11,h12,h13,RF h14,H2 h15]
theorem XG (ps:List Pt2) (h:ps.length<=9223372036854775806):Ak Tryz.prog 164 [.sl (ps.map λp=>[lE p]),.fn (.func 165)] (.bool (ps.all Wj)):=by
 have:=allI 165 (qOf lE Wj) (ps.map lE) (by simpa using h) (λe he=>by
  obtain ⟨t,_,rfl⟩:=List.mem_map.1 he;rw [JW aJ];exact hQ t)
 rw [UI aJ,List.map_map] at this;exact this
def HQ (m:Md):Bool:=EU m.name&&decide ((m.datas.length:Int)<=4)&&decide ((1:Int)<=m.funs.length)&&decide ((m.funs.length:Int)<=5)&&m.datas.all Fw&&m.funs.all MS
def Lc (l:List Pt2):List (List V):=l.map λp=>[lE p]
@[simp] theorem rowP_length (l:List Pt2):(Lc l).length=l.length:=by simp [Lc]
def oB (b:Bool) (k:Nat):D:=match b with
 | false=>.nils
 | true=>.own 2 k
def sQ (b:Bool) (m:Md) (es:List (List V)):St:=match b with
 | false=>[(1,some (.immb 171 3 (Vg m)))]
 | true=>[(2,some (.row 248 1 es)),(1,some (.immb 171 3 (Vg m)))]
theorem Q8 (a b:List Pt2):Lc (a++b)=Lc a++Lc b:=by simp [Lc]
theorem aS (m:Md) (b:Bool) (es0:List (List V)) (hb:b=false->es0=[]) (he0:es0=Lc (m.datas.map .d)) (hd:(m.datas.length:Int)<=4) (hf1:(1:Int)<=m.funs.length) (hf:(m.funs.length:Int)<=5) :
  DGo Tryz.prog Tryz.f123.ntmps (D8 []) (K5 mG Tryz.f123.results.toList (.ret (.imm (Kt (m.datas.all Fw&&m.funs.all MS))) []))
   [.code (EN Tryz.f123 4)] [(3,oB b es0.length),(1,.ref 1 0)] (sQ b m es0) [3,4]:=by
 cases b with
 | false =>
  have:=hb rfl;subst this;refine DR rfl ?_;refine Am (λy:Nat×Bool×List (List V)=>[(47,.imm (.int .i64 y.1)),(46,.imm (.int .i64 m.funs.length)),(45,.imm (.sl (m.funs.map PD))),(3,oB y.2.1 y.2.2.length),(1,.ref 1 0)])
   (λy=>sQ y.2.1 m y.2.2) [3,4] (λy=>m.funs.length-y.1)
   (λy=>y.1<=m.funs.length/\y.2.2=Lc (m.datas.map .d++(m.funs.take y.1).map .f)/\(y.2.1=false->y.2.2=[])) (0,false,[]) ⟨Nat.zero_le _,by simpa using he0,λ_=>rfl⟩ ⟨rfl,A3 (by simp),rfl,rfl,rfl,trivial⟩ ⟨rfl,trivial⟩ rfl λy hi ih=>?_
  obtain ⟨i,b,es⟩:=y;obtain ⟨hi1,hi2,hi3⟩:=hi;simp only at hi1 hi2 hi3;have hlen:es.length<=9:=by
   have:=congrArg List.length hi2;simp at this;omega
  have hnext:∀f,m.funs[i]?=some f->es++[[JZ f]]=Lc (m.datas.map .d++(m.funs.take (i+1)).map .f):=λf hf=>by
   rw [Bn hf,List.map_append,<- List.append_assoc,Q8,<- hi2];rfl
  have hend:¬i<m.funs.length->es=Lc (m.datas.map .d++m.funs.map .f):=λh=>by
   rw [hi2,List.take_of_length_le (by omega)]
  cases b with
  | false =>
   have hi3:=hi3 rfl;subst hi3;refine DR rfl ?_;refine Ab rfl (λh=>?_) (λh=>?_)
   ·simp at h;obtain ⟨f,hf⟩:=Ap h;refine DR rfl ?_;refine ai rfl (c:=PD f) (λ_=>⟨by simp,by simpa using B2 hf,by simp⟩) (by simp) ?_;refine DP rfl ?_;refine Cm Cz rfl ⟨by simp,by simp [maxLen],by simp,trivial⟩ ?_;refine DP rfl ?_;refine AG 2 4 rfl ?_;exact Ae (ih (i+1,true,[]++[[JZ f]]) (by simp only;omega) ⟨by simp only;omega,hnext f hf,λh=>by cases h⟩) ⟨A3 (BI (by simp only;omega) (by simp only;omega)),rfl,rfl,rfl,rfl,trivial⟩ ⟨rfl,rfl,trivial⟩ rfl
   ·simp at h;have:=congrArg List.length (hend (by omega));simp at this;omega
  | true =>
   refine DR rfl ?_;refine Ab rfl (λh=>?_) (λh=>?_)
   ·simp at h;obtain ⟨f,hf⟩:=Ap h;refine DR rfl ?_;refine ai rfl (c:=PD f) (λ_=>⟨by simp,by simpa using B2 hf,by simp⟩) (by simp) ?_;refine DP rfl ?_;refine Cm Cz rfl ⟨by simp,by simp [maxLen];omega,by simp;omega,trivial⟩ ?_;refine DP rfl ?_;refine AG 2 4 rfl ?_;exact Ae (ih (i+1,true,es++[[JZ f]]) (by simp only;omega) ⟨by simp only;omega,hnext f hf,λh=>by cases h⟩) ⟨A3 (BI (by simp only;omega) (by simp only;omega)),rfl,rfl,rfl,rfl,trivial⟩ ⟨rfl,rfl,trivial⟩ rfl
   ·simp at h;refine Ay rfl ?_;refine Cu 2 rfl ?_;refine DR rfl ?_;refine Ad rfl (λ_=>by rw [hend (by omega)];exact XG _ (by simp;omega)) (by simp) ?_;refine DP rfl ?_;have hall:(m.datas.map Pt2.d++m.funs.map Pt2.f).all Wj=(m.datas.all Fw&&m.funs.all MS):=by
     rw [List.all_append,List.all_map,List.all_map];rfl
    rw [hall];refine Ab rfl (λh=>?_) (λh=>?_)
    ·refine DR rfl ?_;refine Aa rfl rfl ?_;simp only [Bool.not_eq_true'] at h;rw [h];rfl
    ·refine DR rfl ?_;refine Aa rfl rfl ?_;simp only [Bool.not_eq_false'] at h;rw [h];rfl
 | true =>
  refine DR rfl ?_;refine Am (λy:Nat×Bool×List (List V)=>[(47,.imm (.int .i64 y.1)),(46,.imm (.int .i64 m.funs.length)),(45,.imm (.sl (m.funs.map PD))),(3,oB y.2.1 y.2.2.length),(1,.ref 1 0)])
   (λy=>sQ y.2.1 m y.2.2) [3,4] (λy=>m.funs.length-y.1)
   (λy=>y.1<=m.funs.length/\y.2.2=Lc (m.datas.map .d++(m.funs.take y.1).map .f)/\(y.2.1=false->y.2.2=[])) (0,true,es0) ⟨Nat.zero_le _,by simpa using he0,λh=>by cases h⟩ ⟨rfl,A3 (by simp),rfl,rfl,rfl,trivial⟩ ⟨rfl,rfl,trivial⟩ rfl λy hi ih=>?_
  obtain ⟨i,b,es⟩:=y;obtain ⟨hi1,hi2,hi3⟩:=hi;simp only at hi1 hi2 hi3;have hlen:es.length<=9:=by
   have:=congrArg List.length hi2;simp at this;omega
  have hnext:∀f,m.funs[i]?=some f->es++[[JZ f]]=Lc (m.datas.map .d++(m.funs.take (i+1)).map .f):=λf hf=>by
   rw [Bn hf,List.map_append,<- List.append_assoc,Q8,<- hi2];rfl
  have hend:¬i<m.funs.length->es=Lc (m.datas.map .d++m.funs.map .f):=λh=>by
   rw [hi2,List.take_of_length_le (by omega)]
  cases b with
  | false =>
   have hi3:=hi3 rfl;subst hi3;refine DR rfl ?_;refine Ab rfl (λh=>?_) (λh=>?_)
   ·simp at h;obtain ⟨f,hf⟩:=Ap h;refine DR rfl ?_;refine ai rfl (c:=PD f) (λ_=>⟨by simp,by simpa using B2 hf,by simp⟩) (by simp) ?_;refine DP rfl ?_;refine Cm Cz rfl ⟨by simp,by simp [maxLen],by simp,trivial⟩ ?_;refine DP rfl ?_;refine AG 2 4 rfl ?_;exact Ae (ih (i+1,true,[]++[[JZ f]]) (by simp only;omega) ⟨by simp only;omega,hnext f hf,λh=>by cases h⟩) ⟨A3 (BI (by simp only;omega) (by simp only;omega)),rfl,rfl,rfl,rfl,trivial⟩ ⟨rfl,rfl,trivial⟩ rfl
   ·simp at h;have:=congrArg List.length (hend (by omega));simp at this;omega
  | true =>
   refine DR rfl ?_;refine Ab rfl (λh=>?_) (λh=>?_)
   ·simp at h;obtain ⟨f,hf⟩:=Ap h;refine DR rfl ?_;refine ai rfl (c:=PD f) (λ_=>⟨by simp,by simpa using B2 hf,by simp⟩) (by simp) ?_;refine DP rfl ?_;refine Cm Cz rfl ⟨by simp,by simp [maxLen];omega,by simp;omega,trivial⟩ ?_;refine DP rfl ?_;refine AG 2 4 rfl ?_;exact Ae (ih (i+1,true,es++[[JZ f]]) (by simp only;omega) ⟨by simp only;omega,hnext f hf,λh=>by cases h⟩) ⟨A3 (BI (by simp only;omega) (by simp only;omega)),rfl,rfl,rfl,rfl,trivial⟩ ⟨rfl,rfl,trivial⟩ rfl
   ·simp at h;refine Ay rfl ?_;refine Cu 2 rfl ?_;refine DR rfl ?_;refine Ad rfl (λ_=>by rw [hend (by omega)];exact XG _ (by simp;omega)) (by simp) ?_;refine DP rfl ?_;have hall:(m.datas.map Pt2.d++m.funs.map Pt2.f).all Wj=(m.datas.all Fw&&m.funs.all MS):=by
     rw [List.all_append,List.all_map,List.all_map];rfl
    rw [hall];refine Ab rfl (λh=>?_) (λh=>?_)
    ·refine DR rfl ?_;refine Aa rfl rfl ?_;simp only [Bool.not_eq_true'] at h;rw [h];rfl
    ·refine DR rfl ?_;refine Aa rfl rfl ?_;simp only [Bool.not_eq_false'] at h;rw [h];rfl
theorem Sm (m:Md):Ak Tryz.prog 123 [.agg (Vg m)] (Kt (HQ m)):=by
 refine AS λhv=>?_;have hv1:m.datas.length<=9223372036854775807/\m.funs.length<=9223372036854775807:=by
  simp [Cx,EM,Vg,maxLen] at hv;omega
 refine Af Cz Tryz.func123 (by decide +kernel) rfl [1,2,3,4] rfl rfl ?_;refine SF rfl ?_;refine Ad rfl (λ_=>Hd m.name) (by simp [An]) ?_;refine ag [] rfl (by simp [An] <;> grind) ?_;refine Ab rfl (λh=>?_) (λh=>?_)
 ·refine DR rfl ?_;refine Aa rfl rfl (congrArg _ ?_);have:HQ m=false:=by
   simp at h;simp [HQ];grind
  rw [this];rfl
 have hx:EU m.name=true/\(m.datas.length:Int)<=4/\(1:Int)<=m.funs.length/\(m.funs.length:Int)<=5:=by
  simp at h;refine ⟨?_,?_,?_,?_⟩ <;> grind
 clear h;have hres:HQ m=(m.datas.all Fw&&m.funs.all MS):=by simp [HQ,hx.1,hx.2.1,hx.2.2.1,hx.2.2.2]
 rw [hres];refine DR rfl ?_;refine Am (λy:Nat×Bool×List (List V)=>[(33,.imm (.int .i64 y.1)),(32,.imm (.int .i64 m.datas.length)),(31,.imm (.sl (m.datas.map CU))),(3,oB y.2.1 y.2.2.length),(1,.ref 1 0)])
  (λy=>sQ y.2.1 m y.2.2) [3,4] (λy=>m.datas.length-y.1)
  (λy=>y.1<=m.datas.length/\y.2.2=Lc ((m.datas.take y.1).map .d)/\(y.2.1=false->y.2.2=[])) (0,false,[]) ⟨Nat.zero_le _,rfl,λ_=>rfl⟩ ⟨rfl,A3 (by simp),rfl,rfl,rfl,trivial⟩ ⟨rfl,trivial⟩ rfl λy hi ih=>?_
 obtain ⟨i,b,es⟩:=y;obtain ⟨hi1,hi2,hi3⟩:=hi;simp only at hi1 hi2 hi3;have hlen:es.length<=4:=by
  have:=congrArg List.length hi2;simp at this;omega
 have hend:¬i<m.datas.length->es=Lc (m.datas.map .d):=λh=>by
  rw [hi2,List.take_of_length_le (by omega)]
 have hnext:∀d,m.datas[i]?=some d->es++[[M4 d]]=Lc ((m.datas.take (i+1)).map .d):=λd hd=>by
  rw [Bn hd,List.map_append,Q8,<- hi2];rfl
 cases b with
 | false =>
  have hi3:=hi3 rfl;subst hi3;refine DR rfl ?_;refine Ab rfl (λh=>?_) (λh=>?_)
  ·simp at h;obtain ⟨d,hd⟩:=Ap h;refine DR rfl ?_;refine ai rfl (c:=CU d) (λ_=>⟨by simp,by simpa using B2 hd,by simp⟩) (by simp) ?_;refine DP rfl ?_;refine Cm Cz rfl ⟨by simp,by simp [maxLen],by simp,trivial⟩ ?_;refine DP rfl ?_;refine AG 2 4 rfl ?_;exact Ae (ih (i+1,true,[]++[[M4 d]]) (by simp only;omega) ⟨by simp only;omega,hnext d hd,λh=>by cases h⟩) ⟨A3 (BI (by simp only;omega) (by simp only;omega)),rfl,rfl,rfl,rfl,trivial⟩ ⟨rfl,rfl,trivial⟩ rfl
  ·simp at h;refine Ay rfl ?_;exact Ae (aS m false [] (λ_=>rfl) (hend (by omega)) hx.2.1 hx.2.2.1 hx.2.2.2) ⟨rfl,rfl,trivial⟩ ⟨rfl,trivial⟩ rfl
 | true =>
  refine DR rfl ?_;refine Ab rfl (λh=>?_) (λh=>?_)
  ·simp at h;obtain ⟨d,hd⟩:=Ap h;refine DR rfl ?_;refine ai rfl (c:=CU d) (λ_=>⟨by simp,by simpa using B2 hd,by simp⟩) (by simp) ?_;refine DP rfl ?_;refine Cm Cz rfl ⟨by simp,by simp [maxLen];omega,by simp;omega,trivial⟩ ?_;refine DP rfl ?_;refine AG 2 4 rfl ?_;exact Ae (ih (i+1,true,es++[[M4 d]]) (by simp only;omega) ⟨by simp only;omega,hnext d hd,λh=>by cases h⟩) ⟨A3 (BI (by simp only;omega) (by simp only;omega)),rfl,rfl,rfl,rfl,trivial⟩ ⟨rfl,rfl,trivial⟩ rfl
  ·simp at h;refine Ay rfl ?_;exact Ae (aS m true es (λh=>by cases h) (hend (by omega)) hx.2.1 hx.2.2.1 hx.2.2.2) ⟨rfl,rfl,trivial⟩ ⟨rfl,rfl,trivial⟩ rfl
def HL (s n:Int) (x:Str) (k:Int):Bool :=
 if s=1 then decide (-1000000000<=n)&&decide (n<=1000000000)&&(x == [])&&(k == 0)
 else if s=2 then (n == 0||n == 1)&&(x == [])&&(k == 0)
 else if s=3\/s=5 then n == 0&&x == []&&k == 0
 else if s=4 then n == 0&&Di x&&decide (k<=3)
 else false
theorem Ts (v:Ty) (k:Int):Ak Tryz.prog 156 [.agg (Bl v),.int .i64 k] (.bool (match v with | .mk s n x _=>HL s n x k)):=by
 obtain ⟨s,n,x,ps⟩:=v;refine Af AH Tryz.func156 (by decide +kernel) rfl [1,2,3] rfl rfl ?_;simp only [HL,Bl];refine AZ rfl ?_;by_cases h1:s=1
 ·subst h1;refine Ai rfl λh=>?_;refine GA rfl ?_;refine Aa rfl rfl (congrArg _ ?_);simp [Bool.and_assoc]
 rw [if_neg h1];refine Ab rfl (λh=>absurd (by simpa using h) h1) (λh=>?_);clear h;refine A8 rfl ?_;by_cases h2:s=2
 ·subst h2;refine Ai rfl λh=>?_;refine GA rfl ?_;refine Aa rfl rfl (congrArg _ ?_);simp [Bool.and_assoc]
 rw [if_neg h2];refine Ab rfl (λh=>absurd (by simpa using h) h2) (λh=>?_);clear h;refine A8 rfl ?_;by_cases h3:s=3
 ·subst h3;refine Ai rfl λh=>?_;refine A8 rfl ?_;refine Ai rfl λh=>?_;refine GA rfl ?_;refine Aa rfl rfl (congrArg _ ?_);simp [Bool.and_assoc]
 refine Ab rfl (λh=>absurd (by simpa using h) h3) (λh=>?_);clear h;refine A8 rfl ?_;by_cases h5:s=5
 ·subst h5;refine Ai rfl λh=>?_;refine GA rfl ?_;refine Aa rfl rfl (congrArg _ ?_);simp [Bool.and_assoc]
 rw [if_neg (by simp [h3,h5])];refine Ab rfl (λh=>absurd (by simpa using h) h5) (λh=>?_);clear h;refine A8 rfl ?_;by_cases h4:s=4
 ·subst h4;refine Ai rfl λh=>?_;refine A8 rfl ?_;refine Ad rfl (λ_=>DL x) (by simp [An]) ?_;refine DO rfl ?_;refine Aa rfl rfl (congrArg _ ?_);simp [Bool.and_assoc]
 rw [if_neg h4];refine Ab rfl (λh=>absurd (by simpa using h) h4) (λh=>?_);clear h;refine A8 rfl ?_;exact Aa rfl rfl rfl
theorem qN (g:FuncId) (q:List V->Bool) (es:List (List V)) (hes:∀e∈es,e.length=4) (hlen:es.length<=9223372036854775807)
  (hq:∀e∈es,Ak Tryz.prog g [.agg e] (.bool (q e))) :
  Ak Tryz.prog 63 [.sl es,.fn (.func g)] (.int .i64 (Fb q es 0)):=by
 refine Af AH Tryz.func63 (by decide +kernel) rfl [2,3,4] rfl rfl ?_;refine AZ rfl ?_;refine Am (λi:Nat=>[(8,.imm (.int .i64 i)),(7,.imm (.int .i64 es.length)),(0,.imm (.sl es)),(1,.imm (.fn (.func g)))]) (λ_=>[]) [2,3,4] (λi=>es.length-i)
  (λi=>i<=es.length/\Fb q es 0=Fb q (es.drop i) i) 0 ⟨Nat.zero_le _,rfl⟩ ⟨rfl,A3 (by simp),rfl,rfl,trivial⟩ trivial rfl λi hi ih=>?_
 refine A8 rfl ?_;have hi2:=hi.2;refine Ab rfl (λh=>?_) (λh=>?_)
 ·simp at h;obtain ⟨e,he⟩:=Ap h;have hm:=List.mem_of_getElem? he;rw [Av he] at hi2;refine A8 rfl ?_;refine bi rfl (c:=e) (λ_=>⟨by simp,by simpa using he,hes e hm⟩) (by simp) ?_;refine bg [] rfl (by simp [hes e hm]) ?_;refine Ad rfl (λ_=>hq e hm) (by simp) ?_;refine AZ rfl ?_;refine Ab rfl (λh=>?_) (λh=>?_)
  ·refine A8 rfl ?_;exact Au ⟨_,rfl,tV (congrArg _ (by rw [hi2];simp [Fb,h])),trivial⟩
  ·refine A8 rfl ?_;exact Ae (ih (i+1) (by omega) ⟨by omega,by rw [hi2];simp [Fb,h]⟩) ⟨A3 (BI (by omega) (by omega)),rfl,rfl,rfl,trivial⟩ trivial rfl
 ·refine A8 rfl ?_;simp at h;refine Aa rfl rfl (congrArg _ ?_);rw [hi2,List.drop_eq_nil_of_le (by omega)];rfl
theorem eM (g:FuncId) (q:List V->Bool) (es:List (List V)) (hes:∀e∈es,e.length=4) (hlen:es.length<=9223372036854775807)
  (hq:∀e∈es,Ak Tryz.prog g [.agg e] (.bool (q e))) :
  Ak Tryz.prog 157 [.sl es,.fn (.func g)] (.bool (es.any q)):=by
 refine Af AH Tryz.func157 (by decide +kernel) rfl [2,3,4] rfl rfl ?_;refine AZ rfl ?_;refine Ad rfl (λ_=>qN g q es hes hlen hq) (by simp) ?_;refine AZ rfl ?_;refine Aa rfl rfl (congrArg _ ?_);rw [Bool.eq_iff_iff,<- IJ q es 0];simp
mutual
def Mf:Ty->Bool
 | .mk s n x ps=>HL s n x ps.length&&Uv ps
def Uv:List Ty->Bool
 | []=>true
 | t::r=>Mf t&&Uv r
end
theorem XF:∀l:List Ty,Uv l=l.all Mf
 | []=>rfl
 | t::r=>by simp [Uv,XF r]
theorem lQ (v:Ty) (h:Ak Tryz.prog 115 [.agg (dTyc v)] (.bool (Mf v))):Ak Tryz.prog 158 [.agg (dTyc v)] (.bool (!Mf v)):=by
 obtain ⟨s,n,x,ps⟩:=v;generalize Mf (.mk s n x ps)=b at *;refine Af AH Tryz.func158 (by decide +kernel) rfl [1,2,3] rfl rfl ?_;refine AZ rfl ?_;refine Ah rfl h ?_;refine AZ rfl ?_;exact Aa rfl rfl rfl
theorem aY:∀v:Ty,Ak Tryz.prog 115 [.agg (dTyc v)] (.bool (Mf v))
 | .mk s n x ps=>by
  have hP:=Ts (.mk s n x ps) ps.length;simp only at hP;have hO:=QP (.mk s n x ps);refine AS λhv=>?_;simp [Cx,EM,dTyc,maxLen] at hv;have hC:=eM 158 (qOf dTyc (λv=>!Mf v)) (BQ ps) (λe he=>by rw [Dp] at he;obtain ⟨t,_,rfl⟩:=List.mem_map.1 he;simp) (by simpa using hv.1)
   (λe he=>by
    rw [Dp] at he;obtain ⟨t,ht,rfl⟩:=List.mem_map.1 he;rw [JW H3];exact lQ t (aY t))
  refine Af AH Tryz.func115 (by decide +kernel) rfl [1,2,3] rfl rfl ?_;refine AZ rfl ?_;refine Ah rfl hO ?_;refine AZ rfl ?_;refine Ad rfl (v:=.bool (HL s n x ps.length)) (λ_=>by simpa using hP) (by simp) ?_;refine AZ rfl ?_;refine AN rfl hC ?_;refine bg [] rfl (by simp [An];rfl) ?_;refine Aa rfl rfl (congrArg _ ?_);rw [Dp,List.any_map,show (qOf dTyc (λv=>!Mf v) ∘ dTyc)=(λv=>!Mf v) from funext λv=>JW H3 _ v];simp [Mf,XF,List.all_eq_not_any_not]
termination_by v=>SizeOf.sizeOf v
decreasing_by
 have:=List.sizeOf_lt_of_mem ht;simp_wf;omega
theorem R7 (v:Ty):Ak Tryz.prog 61 [.agg (dTyc v)] (.bool (decide (0<=B8 v 20000 100)&&Mf v)):=by
 have hW:=Qk v 20000 100 (by decide) (by decide) (by decide) (by decide);have hA:=aY v;obtain ⟨s,n,x,ps⟩:=v;refine Af AH Tryz.func61 (by decide +kernel) rfl [1,2,3] rfl rfl ?_;refine AZ rfl ?_;refine Ah rfl hW ?_;refine AZ rfl ?_;refine AN rfl hA ?_;refine DO rfl ?_;refine Aa rfl rfl (congrArg _ ?_);simp
theorem Kr {l:List Str} {s:Str}:G7 l s=true↔s∈l:=by
 induction l with
 | nil=>simp [G7]
 | cons x r ih=>simp only [G7,Bool.or_eq_true,beq_iff_eq,ih,List.mem_cons];exact ⟨λh=>h.imp Eq.symm id,λh=>h.imp Eq.symm id⟩
theorem Vc {l:List Str}:∀{pre:List Str},Bd pre l=true↔l.Nodup/\∀s∈l,s∉pre:=by
 induction l with
 | nil=>intro pre;simp [Bd]
 | cons x r ih =>
  intro pre;simp only [Bd,Bool.and_eq_true,Bool.not_eq_true',ih,List.nodup_cons,List.mem_cons,List.mem_append,List.not_mem_nil,or_false];have:G7 pre x=false↔x∉pre:=by rw [<- Bool.not_eq_true,Kr]
  rw [this];constructor
  ·rintro ⟨h1,h2,h3⟩;exact ⟨⟨λhx=>h3 x hx (.inr rfl),h2⟩,λs hs=>hs.elim (λe=>e ▸ h1) λh hp=>h3 s h (.inl hp)⟩
  ·rintro ⟨⟨h1,h2⟩,h3⟩;exact ⟨h3 x (.inl rfl),h2,λs hs hp=>hp.elim (h3 s (.inr hs)) λe=>h1 (e ▸ hs)⟩
theorem Pl {l:List Str}:B1 l=true↔l.Nodup:=by
 unfold B1;rw [Vc];simp
def EZ (l:List (Str×V)):List (V×V):=l.map λp=>(.str p.1,p.2)
def Lh (m:List (V×V)) (p:Str×V):List (V×V):=Fa m (.str p.1) p.2
def Y2 (l:List (Str×V)):List (V×V):=l.foldl Lh []
def Ga (m:List (V×V)):Prop:=∀p∈m,Jv .str p.1=true
theorem EO (l:List (Str×V)):Ga (EZ l):=by
 intro p hp;obtain ⟨q,_,rfl⟩:=List.mem_map.1 hp;rfl
theorem Te {m:List (V×V)} (h:Ga m) (s:Str) (v:V):Ga (Fa m (.str s) v):=by
 induction m with
 | nil=>intro p hp;simp only [Fa,List.mem_singleton] at hp;subst hp;rfl
 | cons a r ih =>
  obtain ⟨k,e⟩:=a;have h1:Ga r:=λp hp=>h p (by simp [hp]);simp only [Fa]
  split
  ·intro p hp;rcases List.mem_cons.1 hp with rfl | hp
   ·rfl
   ·exact h1 p hp
  ·intro p hp;rcases List.mem_cons.1 hp with rfl | hp
   ·exact h _ (by simp)
   ·exact ih h1 p hp
theorem Y1 (l:List (Str×V)):∀m,Ga m->Ga (l.foldl Lh m):=by
 induction l with
 | nil=>intro m h;exact h
 | cons p r ih=>intro m h;exact ih _ (Te h _ _)
theorem Wx (l:List (Str×V)):Ga (Y2 l):=Y1 l [] λp hp=>by cases hp
theorem gS {m:List (V×V)} (s:Str) (v:V):(C7 m (.str s)=none->(Fa m (.str s) v).length=m.length+1)/\(C7 m (.str s)≠none->(Fa m (.str s) v).length=m.length):=by
 induction m with
 | nil=>simp [C7,Fa]
 | cons a r ih =>
  obtain ⟨k,e⟩:=a;simp only [C7,Fa];cases h:Xg (.str s) k
  ·simpa using ih
  ·simp
theorem bV {m:List (V×V)} (s t:Str) (v:V) (hk:Ga m):(C7 (Fa m (.str s) v) (.str t)=none)↔(C7 m (.str t)=none/\s≠t):=by
 induction m with
 | nil =>
  simp only [Fa,C7,Xg,beq_iff_eq];by_cases e:t=s
  ·subst e;simp
  ·have e':¬s=t:=λh=>e h.symm;simp [e,e']
 | cons a r ih =>
  obtain ⟨k,e⟩:=a;have h1:Ga r:=λp hp=>hk p (by simp [hp]);have h0:=hk (k,e) (by simp);cases k with
  | str x =>
   simp only [Fa,C7,Xg];by_cases hx:s=x
   ·subst hx;simp only [beq_self_eq_true,if_true,C7,Xg];by_cases ht:t=s
    ·simp [ht]
    ·simp only [beq_iff_eq,ht,if_false];exact ⟨λh=>⟨h,λe=>ht e.symm⟩,λh=>h.1⟩
   ·simp only [beq_iff_eq,hx,if_false,C7,Xg];by_cases ht:t=x
    ·simp [ht]
    ·simp only [ht,if_false];exact ih h1
  | _=>simp [Jv] at h0
theorem jH:∀(l:List (Str×V)) (pre:List Str) (m:List (V×V)),Ga m->(∀s,C7 m (.str s)=none↔s∉pre)->m.length<=pre.length ->
  (l.foldl Lh m).length<=pre.length+l.length/\(Bd pre (l.map (·.1))=false\/m.length<pre.length->(l.foldl Lh m).length<pre.length+l.length)/\(Bd pre (l.map (·.1))=true->m.length=pre.length->(l.foldl Lh m).length=pre.length+l.length)
 | [],pre,m,hk,h,hl=>by
  simp only [List.foldl_nil,List.length_nil,List.map_nil,Bd];exact ⟨by omega,λh=>by rcases h with h | h;exact absurd h (by simp);omega,λ_ h=>by omega⟩
 | p::r,pre,m,hk,h,hl=>by
  have hL:=gS (m:=m) p.1 p.2;have hm:(Lh m p).length<=(pre++[p.1]).length:=by
   simp only [Lh,List.length_append,List.length_singleton];by_cases hn:C7 m (.str p.1)=none
   ·rw [hL.1 hn];omega
   ·rw [hL.2 hn];omega
  have hs:∀s,C7 (Lh m p) (.str s)=none↔s∉pre++[p.1]:=λs=>by
   simp only [Lh,bV _ _ _ hk,h s,List.mem_append,List.mem_singleton,not_or];exact ⟨λ⟨a,b⟩=>⟨a,λe=>b e.symm⟩,λ⟨a,b⟩=>⟨a,λe=>b e.symm⟩⟩
  have ih:=jH r (pre++[p.1]) (Lh m p) (Te hk _ _) hs hm;simp only [List.length_append,List.length_singleton] at ih;simp only [List.foldl_cons,List.length_cons,List.map_cons,Bd];obtain ⟨i1,i2,i3⟩:=ih;refine ⟨by omega,λhc=>?_,λhd he=>?_⟩
  ·by_cases hp:G7 pre p.1=true
   ·have hn:C7 m (.str p.1)≠none:=λhn=>(h p.1).1 hn (Kr.1 hp);have:(Lh m p).length=m.length:=hL.2 hn;have:=i2 (.inr (by omega));omega
   ·have hp:G7 pre p.1=false:=by simpa using hp
    rcases hc with hc | hc
    ·rw [hp] at hc;have:=i2 (.inl (by simpa using hc));omega
    ·have hn:C7 m (.str p.1)=none:=(h p.1).2 λhm=>by rw [Kr.2 hm] at hp;cases hp
     have:(Lh m p).length=m.length+1:=hL.1 hn;have:=i2 (.inr (by omega));omega
  ·simp only [Bool.and_eq_true,Bool.not_eq_true'] at hd;have hn:C7 m (.str p.1)=none:=(h p.1).2 λhm=>by rw [Kr.2 hm] at hd;exact absurd hd.1 (by simp)
   have:(Lh m p).length=m.length+1:=hL.1 hn;have:=i3 hd.2 (by omega);omega
theorem ZT (l:List (Str×V)):(Y2 l).length<=l.length/\(decide ((Y2 l).length<l.length) = !B1 (l.map (·.1))):=by
 obtain ⟨h1,h2,h3⟩:=jH l [] [] (λp hp=>by cases hp) (λs=>by simp [C7]) (Nat.le_refl _);have h0:([]:List Str).length=0:=rfl;refine ⟨by unfold Y2;omega,?_⟩;unfold B1;cases hd:Bd [] (l.map (·.1)) with
 | true=>have:=h3 hd rfl;unfold Y2;simp;omega
 | false=>have:=h2 (.inl hd);unfold Y2;simp;omega
theorem gR (l:List (Str×V)) (s:Str) (v:V) (h:s∉l.map (·.1)):Fa (EZ l) (.str s) v=EZ (l++[(s,v)]):=by
 induction l with
 | nil=>rfl
 | cons a r ih =>
  simp only [List.map_cons,List.mem_cons,not_or] at h;simp only [EZ,List.map_cons,Fa,Xg,List.cons_append,beq_iff_eq,h.1,if_false] at ih ⊢;rw [ih h.2]
theorem MA:∀(l pre:List (Str×V)),Bd (pre.map (·.1)) (l.map (·.1))=true->l.foldl Lh (EZ pre)=EZ (pre++l)
 | [],pre,_=>by simp
 | p::r,pre,h=>by
  simp only [List.map_cons,Bd,Bool.and_eq_true,Bool.not_eq_true'] at h;have hn:p.1∉pre.map (·.1):=λhm=>by rw [Kr.2 hm] at h;exact absurd h.1 (by simp)
  have:=MA r (pre++[p]) (by simpa using h.2);simp only [List.foldl_cons,Lh,gR pre p.1 p.2 hn] at this ⊢;rw [this];simp
theorem Rb (l:List (Str×V)) (h:B1 (l.map (·.1))=true):Y2 l=EZ l:=by
 have:=MA l [] h;simpa [Y2,EZ] using this
def CK:Nat->List Dt->List (Str×V)
 | _,[]=>[]
 | i,d::r=>(d.name,.int .i64 i)::CK (i+1) r
def Ee (i:Nat):Nat->List Cd->List (Str×V)
 | _,[]=>[]
 | k,c::r=>(c.name,.agg [.int .i64 i,.int .i64 k])::Ee i (k+1) r
def DT:Nat->List Dt->List (Str×V)
 | _,[]=>[]
 | i,d::r=>Ee i 0 d.cons++DT (i+1) r
theorem GS:∀(i:Nat) (ds:List Dt),(CK i ds).map (·.1)=CJ ds
 | _,[]=>rfl
 | i,d::r=>by simp [CK,CJ];exact GS (i+1) r
theorem Nk (i:Nat):∀(k:Nat) (cs:List Cd),(Ee i k cs).map (·.1)=cs.map Cd.name
 | _,[]=>rfl
 | k,c::r=>by simp [Ee];exact Nk i (k+1) r
theorem Ib:∀(i:Nat) (ds:List Dt),(DT i ds).map (·.1)=Cp ds
 | _,[]=>rfl
 | i,d::r=>by simp only [DT,List.map_append,Nk,Ib (i+1) r];simp [Cp]
theorem Lu:∀(i:Nat) (a b:List Dt),CK i (a++b)=CK i a++CK (i+a.length) b
 | _,[],_=>rfl
 | i,d::r,b=>by simp only [List.cons_append,CK,List.length_cons,Lu (i+1) r b];rw [Nat.add_assoc,Nat.add_comm 1]
theorem Lw (i:Nat):∀(k:Nat) (a b:List Cd),Ee i k (a++b)=Ee i k a++Ee i (k+a.length) b
 | _,[],_=>rfl
 | k,d::r,b=>by simp only [List.cons_append,Ee,List.length_cons,Lw i (k+1) r b];rw [Nat.add_assoc,Nat.add_comm 1]
theorem Nj:∀(i:Nat) (a b:List Dt),DT i (a++b)=DT i a++DT (i+a.length) b
 | _,[],_=>rfl
 | i,d::r,b=>by simp only [List.cons_append,DT,List.length_cons,Nj (i+1) r b,List.append_assoc];rw [Nat.add_assoc,Nat.add_comm 1]
theorem LY (s:Str):∀(ds:List Dt) (i:Nat),C7 (EZ (CK i ds)) (.str s)=if 0<=Bf s i ds then some (.int .i64 (Bf s i ds)) else none
 | [],i=>by simp [CK,EZ,C7,Bf]
 | d::r,i=>by
  simp only [CK,EZ,List.map_cons,C7,Xg,beq_iff_eq];by_cases h:s=d.name
  ·have:Bf s i (d::r)=i:=by simp [Bf,h]
   rw [this,if_pos h];simp
  ·have:Bf s i (d::r)=Bf s (i+1) r:=by simp only [Bf];rw [if_neg (λe=>h e.symm)]
   rw [if_neg h,this];exact LY s r (i+1)
def Gu (s:Str):Nat->List Dt->Option (Nat×Int)
 | _,[]=>none
 | i,d::r=>if 0<=(Dn s 0 d.cons).2 then some (i,(Dn s 0 d.cons).2) else Gu s (i+1) r
theorem RM (s:Str) (i:Nat) (rest:List (Str×V)):∀(cs:List Cd) (k:Nat),C7 (EZ (Ee i k cs++rest)) (.str s)=if 0<=(Dn s k cs).2 then some (.agg [.int .i64 i,.int .i64 (Dn s k cs).2]) else C7 (EZ rest) (.str s)
 | [],k=>by simp [Ee,Dn]
 | c::r,k=>by
  simp only [Ee,EZ,List.cons_append,List.map_cons,C7,Xg,beq_iff_eq];by_cases h:s=c.name
  ·have:(Dn s k (c::r)).2=k:=by simp [Dn,h]
   rw [this,if_pos h];simp
  ·have:Dn s k (c::r)=Dn s (k+1) r:=by simp only [Dn];rw [if_neg (λe=>h e.symm)]
   rw [if_neg h,this];exact RM s i rest r (k+1)
theorem Oh (s:Str):∀(ds:List Dt) (i:Nat),C7 (EZ (DT i ds)) (.str s)=(match Gu s i ds with | some (a,b)=>some (.agg [.int .i64 a,.int .i64 b]) | none=>none)
 | [],i=>by simp [DT,EZ,C7,Gu]
 | d::r,i=>by
  simp only [DT,Gu,RM]
  split
  ·rfl
  ·exact Oh s r (i+1)
theorem Xx {s:Str}:∀{l:List Cd} {i:Nat},0<=(Dn s i l).2->∃k,(Dn s i l).2=((i+k:Nat):Int)/\l[k]?=some (Dn s i l).1
 | [],i,h=>by simp [Dn] at h
 | c::r,i,h=>by
  simp only [Dn] at h ⊢;by_cases e:c.name=s
  ·rw [if_pos e];exact ⟨0,by simp,by simp⟩
  ·rw [if_neg e] at h ⊢;obtain ⟨k,h1,h2⟩:=Xx (l:=r) h;exact ⟨k+1,by rw [h1];omega,by simpa using h2⟩
theorem LS {s:Str}:∀{ds:List Dt} {i a:Nat} {b:Int},Gu s i ds=some (a,b)->∃k d,a=i+k/\ds[k]?=some d/\(Dn s 0 d.cons).2=b/\0<=b
 | [],i,a,b,h=>by simp [Gu] at h
 | d::r,i,a,b,h=>by
  simp only [Gu] at h
  split at h
  ·rename_i h0;cases h;exact ⟨0,d,rfl,rfl,rfl,h0⟩
  ·obtain ⟨k,e,h1,h2,h3⟩:=LS h;exact ⟨k+1,e,by omega,by simpa using h2,h3⟩
theorem RA {s:Str}:∀{ds:List Dt} {i:Nat},Gu s i ds=none->∀d∈ds,¬0<=(Dn s 0 d.cons).2
 | [],i,_,d,hd=>by cases hd
 | e::r,i,h,d,hd=>by
  simp only [Gu] at h
  split at h
  ·cases h
  ·rename_i h0;rcases List.mem_cons.1 hd with rfl | hd
   ·exact h0
   ·exact RA h d hd
theorem Up {ds:List Dt} {d:Dt} {c:Cd} (hd:d∈ds) (hc:c∈d.cons):c.name∈Cp ds:=by
 simp only [Cp,List.mem_flatMap];exact ⟨d,hd,List.mem_map.2 ⟨c,hc,rfl⟩⟩
theorem RK:∀{ds:List Dt} {i j:Nat} {d e:Dt} {c c':Cd},(Cp ds).Nodup->ds[i]?=some d->ds[j]?=some e->c∈d.cons->c'∈e.cons->c.name=c'.name->i=j
 | [],i,j,d,e,c,c',_,h,_,_,_,_=>by simp at h
 | x::r,i,j,d,e,c,c',hn,hi,hj,hc,hc',hs=>by
  have hn':(x.cons.map Cd.name++Cp r).Nodup:=by simpa [Cp] using hn
  obtain ⟨n1,n2,n3⟩:=List.nodup_append.1 hn';cases i with
  | zero =>
   simp at hi;subst hi;cases j with
   | zero=>rfl
   | succ j=>exact absurd hs (n3 _ (List.mem_map.2 ⟨c,hc,rfl⟩) _ (Up (List.mem_of_getElem? (by simpa using hj)) hc'))
  | succ i =>
   cases j with
   | zero =>
    simp at hj;subst hj;exact absurd hs.symm (n3 _ (List.mem_map.2 ⟨c',hc',rfl⟩) _ (Up (List.mem_of_getElem? (by simpa using hi)) hc))
   | succ j=>exact congrArg (· + 1) (RK n2 (by simpa using hi) (by simpa using hj) hc hc' hs)
theorem WZ {ds:List Dt} (hn:B1 (Cp ds)=true) {n:Int} {x s:Str} {ps:List Ty} (hp:0<=Bf x 0 ds) :
  (match Gu s 0 ds with | some (a,b)=>(decide ((a:Int)=Bf x 0 ds)=decide (0<=(BO ds (.mk 8 n x ps) s).2))/\((a:Int)=Bf x 0 ds->∃d,ds[a]?=some d/\0<=b/\d.cons[b.toNat]?=some (BO ds (.mk 8 n x ps) s).1)/\a<ds.length | none=>(BO ds (.mk 8 n x ps) s).2<0):=by
 have hn:=Pl.1 hn;obtain ⟨k,d,h1,h2,h3⟩:=Jc x ds 0 hp;have hcD:BO ds (.mk 8 n x ps) s=Dn s 0 d.cons:=by simp [BO,h1,h2]
 rw [hcD];cases hf:Gu s 0 ds with
 | none =>
  have:=RA hf d (List.mem_of_getElem? h2);simp only;omega
 | some p =>
  obtain ⟨a,b⟩:=p;obtain ⟨k',e,q1,q2,q3,q4⟩:=LS hf;simp only [Nat.zero_add] at q1;subst q1;have hget:=Xx (s:=s) (l:=e.cons) (i:=0) (by omega);obtain ⟨j,j1,j2⟩:=hget;have hlt:a<ds.length:=(List.getElem?_eq_some_iff.1 q2).1;refine ⟨?_,λha=>?_,hlt⟩
  ·rw [h1];by_cases hc:0<=(Dn s 0 d.cons).2
   ·have m1:=IQ (s:=s) (l:=d.cons) (i:=0) hc;have m2:=IQ (s:=s) (l:=e.cons) (i:=0) (by omega);have:=RK hn q2 h2 m2.1 m1.1 (m2.2.trans m1.2.symm);subst this;simp [hc]
   ·have:a≠k:=λhe=>by
     subst he;rw [h2] at q2;cases q2;exact hc (by omega)
    simp [hc];omega
  ·have hak:a=k:=by omega
   subst hak;rw [h2] at q2;cases q2;refine ⟨d,h2,q4,?_⟩;rw [<- q3,j1];simpa using j2
def fE (c:Cse) (sz:List (List V)):List V:=dCse c++[.mapv (EZ (CK 0 c.datas)),.mapv (EZ (DT 0 c.datas)),.sl sz]
def AE (c:Cse) (sz:List (List V)):V:=.ip 150 (fE c sz) 0
mutual
def Eu (q:Ty->Bool):Ty->Bool
 | .mk s n x ps=>q (.mk s n x ps)&&E5 q ps
def E5 (q:Ty->Bool):List Ty->Bool
 | []=>true
 | t::r=>Eu q t&&E5 q r
end
theorem SU (f:FuncId) (a b:List V) (q:Ty->Bool) (hq:∀t,Ak Tryz.prog f (a++[.agg (dTyc t)]++b) (.bool (q t))):∀t:Ty,Ak Tryz.prog 84 [.agg (dTyc t),.clo (.func f) a b] (.bool (Eu q t))
 | .mk s n x ps=>by
  refine AS λhv=>?_;simp [Cx,EM,dTyc,maxLen] at hv;simp only [Eu];have hq0:=hq (.mk s n x ps);generalize q (.mk s n x ps)=c at *;refine Af AH Tryz.func84 (by decide +kernel) rfl [2,3,4,5] rfl rfl ?_;refine AZ rfl ?_;refine MR rfl (λ_=>hq0) (by simp) ?_;refine AZ rfl ?_;cases c with
  | false =>
   refine Ai rfl λh=>?_;refine A8 rfl ?_;exact Aa rfl rfl rfl
  | true =>
  refine Az rfl λh=>?_;clear h;refine A8 rfl ?_;rw [Bool.true_and];refine Am (λi:Nat=>[(14,.imm (.int .i64 i)),(13,.imm (.int .i64 ps.length)),(12,.imm (.sl (BQ ps))),(1,.imm (.clo (.func f) a b))]) (λ_=>[]) [2,3,4,5] (λi=>ps.length-i)
   (λi=>i<=ps.length/\E5 q ps=E5 q (ps.drop i)) 0 ⟨Nat.zero_le _,rfl⟩ ⟨rfl,A3 (by simp),rfl,rfl,trivial⟩ trivial rfl λi hi ih=>?_
  obtain ⟨hi1,hi2⟩:=hi;refine A8 rfl ?_;refine Ab rfl (λh=>?_) (λh=>?_)
  ·simp at h;obtain ⟨t,ht⟩:=Ap h;rw [Av ht] at hi2;simp only [E5] at hi2;refine A8 rfl ?_;refine bi rfl (c:=dTyc t) (λ_=>⟨by simp,by simpa using A5 ht,by simp⟩) (by simp) ?_;refine AZ rfl ?_;refine Ad rfl (λ_=>SU f a b q hq t) (by simp) ?_;refine AZ rfl ?_;refine Ab rfl (λh=>?_) (λh=>?_)
   ·refine A8 rfl ?_;refine Aa rfl rfl (congrArg _ ?_);simp at h;simp [hi2,h]
   ·refine A8 rfl ?_;simp at h;exact Ae (ih (i+1) (by omega) ⟨by omega,by rw [hi2];simp [h]⟩) ⟨A3 (BI (by omega) (by omega)),rfl,rfl,rfl,trivial⟩ trivial rfl
  ·simp at h;refine Ay rfl ?_;refine A8 rfl ?_;rw [hi2,List.drop_eq_nil_of_le (by omega)];exact Aa rfl rfl rfl
termination_by t=>SizeOf.sizeOf t
decreasing_by
 have:=List.sizeOf_lt_of_mem (List.mem_of_getElem? ht);simp_wf;omega
theorem Qq (f:FuncId) (q:Ty->Bool) (hq:∀t,Ak Tryz.prog f [.agg (dTyc t)] (.bool (q t))):∀t:Ty,Ak Tryz.prog 84 [.agg (dTyc t),.fn (.func f)] (.bool (Eu q t))
 | .mk s n x ps=>by
  refine AS λhv=>?_;simp [Cx,EM,dTyc,maxLen] at hv;simp only [Eu];have hq0:=hq (.mk s n x ps);generalize q (.mk s n x ps)=c at *;refine Af AH Tryz.func84 (by decide +kernel) rfl [2,3,4,5] rfl rfl ?_;refine AZ rfl ?_;refine Ah rfl hq0 ?_;refine AZ rfl ?_;cases c with
  | false =>
   refine Ai rfl λh=>?_;refine A8 rfl ?_;exact Aa rfl rfl rfl
  | true =>
  refine Az rfl λh=>?_;clear h;refine A8 rfl ?_;rw [Bool.true_and];refine Am (λi:Nat=>[(14,.imm (.int .i64 i)),(13,.imm (.int .i64 ps.length)),(12,.imm (.sl (BQ ps))),(1,.imm (.fn (.func f)))]) (λ_=>[]) [2,3,4,5] (λi=>ps.length-i)
   (λi=>i<=ps.length/\E5 q ps=E5 q (ps.drop i)) 0 ⟨Nat.zero_le _,rfl⟩ ⟨rfl,A3 (by simp),rfl,rfl,trivial⟩ trivial rfl λi hi ih=>?_
  obtain ⟨hi1,hi2⟩:=hi;refine A8 rfl ?_;refine Ab rfl (λh=>?_) (λh=>?_)
  ·simp at h;obtain ⟨t,ht⟩:=Ap h;rw [Av ht] at hi2;simp only [E5] at hi2;refine A8 rfl ?_;refine bi rfl (c:=dTyc t) (λ_=>⟨by simp,by simpa using A5 ht,by simp⟩) (by simp) ?_;refine AZ rfl ?_;refine Ad rfl (λ_=>Qq f q hq t) (by simp) ?_;refine AZ rfl ?_;refine Ab rfl (λh=>?_) (λh=>?_)
   ·refine A8 rfl ?_;refine Aa rfl rfl (congrArg _ ?_);simp at h;simp [hi2,h]
   ·refine A8 rfl ?_;simp at h;exact Ae (ih (i+1) (by omega) ⟨by omega,by rw [hi2];simp [h]⟩) ⟨A3 (BI (by omega) (by omega)),rfl,rfl,rfl,trivial⟩ trivial rfl
  ·simp at h;refine Ay rfl ?_;refine A8 rfl ?_;rw [hi2,List.drop_eq_nil_of_le (by omega)];exact Aa rfl rfl rfl
termination_by t=>SizeOf.sizeOf t
decreasing_by
 have:=List.sizeOf_lt_of_mem (List.mem_of_getElem? ht);simp_wf;omega
def Lg (ds:List Dt) (x:Str):Int:=if 0<=Bf x 0 ds then Bf x 0 ds else 0
theorem Y4 (ds:List Dt) (x:Str):Ep true (EZ (CK 0 ds)) (.str x) (.int .i64 0) = .imm (.tup [.int .i64 (Lg ds x),.bool (decide (0<=Bf x 0 ds))]):=by
 simp only [Ep,LY,Lg];by_cases h:0<=Bf x 0 ds <;> simp [h]
theorem HU (ds:List Dt) (x:Str):Ep false (EZ (CK 0 ds)) (.str x) (.int .i64 0) = .imm (.int .i64 (Lg ds x)):=by
 simp only [Ep,LY,Lg];by_cases h:0<=Bf x 0 ds <;> simp [h]
def Ck (ds:List Dt) (s:Str):Nat×Int:=match Gu s 0 ds with
 | some p=>p
 | none=>(0,0)
theorem cY (ds:List Dt) (s:Str):Ep true (EZ (DT 0 ds)) (.str s) (.agg [.int .i64 0,.int .i64 0]) = .imm (.tup [.agg [.int .i64 (Ck ds s).1,.int .i64 (Ck ds s).2],.bool (Gu s 0 ds).isSome]):=by
 simp only [Ep,Oh,Ck];cases h:Gu s 0 ds with
 | none=>simp
 | some p=>obtain ⟨a,b⟩:=p;simp
def NO (ds:List Dt):Ty->Bool
 | .mk s _ x _=>decide (0<=Bf x 0 ds) || !(s == 8)
theorem cT (c:Cse) (sz:List (List V)) (t:Ty):Ak Tryz.prog 127 [.agg (dTyc t),.ip 89 [AE c sz] 0] (.bool (NO c.datas t)):=by
 obtain ⟨ds,⟨c1,c2,c3,c4⟩,rows⟩:=c;obtain ⟨s,n,x,ps⟩:=t;refine PP ?_;refine Af AH Tryz.func127 (by decide +kernel) rfl [2,3,4,5] rfl rfl ?_;refine AZ rfl ?_;refine Gs AH rfl rfl rfl (EO _) (by simp [An]) (z:=.int .i64 0) rfl (λ_=>.int _ _) (Y4 ds x) ?_;refine bg [] rfl (by simp [An];rfl) ?_;refine Aa rfl rfl (congrArg _ ?_);simp [NO,bne]
mutual
theorem Mq (ds:List Dt):∀t:Ty,Eu (NO ds) t=AK ds t
 | .mk s n x ps=>by
  simp only [Eu,AK,Ll ds ps,NO];congr 1;by_cases h:0<=Bf x 0 ds
  ·simp [h]
  ·simp [h]
theorem Ll (ds:List Dt):∀l:List Ty,E5 (NO ds) l=Bw ds l
 | []=>rfl
 | t::r=>by simp only [E5,Bw,Mq ds t,Ll ds r]
end
theorem SI (c:Cse) (sz:List (List V)) (t:Ty):Ak Tryz.prog 83 [AE c sz,.agg (dTyc t)] (.bool (AK c.datas t)):=by
 rw [<- Mq];obtain ⟨s,n,x,ps⟩:=t;refine Af AH Tryz.func83 (by decide +kernel) rfl [2,3,4,5] rfl rfl ?_;refine AZ rfl ?_;refine J7 rfl (λ_=>SU 127 [] [.ip 89 [AE c sz] 0] (NO c.datas) (λt=>cT c sz t) (.mk s n x ps)) rfl (by simp) ?_;refine AZ rfl ?_;exact Aa rfl rfl rfl
theorem Vx (t:Ty):Ak Tryz.prog 85 [.agg (dTyc t)] (.bool (match t with | .mk s _ _ _=>!(s == 9))):=by
 obtain ⟨s,n,x,ps⟩:=t;refine Af AH Tryz.func85 (by decide +kernel) rfl [2,3,4,5] rfl rfl ?_;refine AZ rfl ?_;refine Aa rfl rfl (congrArg _ ?_);simp [bne]
def AW (ds:List Dt) (t:Ty) (s:Str):List Ty×Bool:=bif decide (0<=(BO ds t s).2) then ((BO ds t s).1.args,true) else ([],false)
theorem Qf (c:Cse) (sz:List (List V)) (t:Ty) (s:Str) (hn:B1 (Cp c.datas)=true) (ht:AK c.datas t=true) :
  Ak Tryz.prog 116 [AE c sz,.agg (dTyc t),.str s] (.tup [.sl (BQ (AW c.datas t s).1),.bool (AW c.datas t s).2]):=by
 obtain ⟨ds,⟨c1,c2,c3,c4⟩,rows⟩:=c;obtain ⟨so,n,x,ps⟩:=t;simp only at hn ht;refine Af AH Tryz.func116 (by decide +kernel) rfl [2,3,4,5] rfl rfl ?_;refine AZ rfl ?_;refine Gs AH rfl rfl rfl (EO _) (by simp [An]) (z:=.agg #[.int .i64 0,.int .i64 0]) rfl (λ_=>.agg _ _ rfl (by decide) (λi c x h1 h2=>by match i,h1,h2 with | 0,h1,h2=>cases h1;cases h2;exact .int _ _ | 1,h1,h2=>cases h1;cases h2;exact .int _ _ | i+2,h1,h2=>simp at h2)) (cY ds s) ?_;refine AZ rfl ?_;by_cases h8:so=8
 case neg =>
  refine Gs AH rfl rfl rfl (EO _) (by simp [An]) (z:=.int .i64 0) rfl (λ_=>.int _ _) (HU ds x) ?_;refine bg [] rfl (by simp [An];rfl) ?_;refine Ab rfl (λh=>?_) (λh=>by simp [h8] at h);refine A8 rfl ?_;rw [show AW ds (.mk so n x ps) s=([],false) by simp [AW,BO,h8]];exact Aa rfl rfl rfl
 subst h8;have hp:=(CN ht 8 n x ps rfl rfl).1;have hf:=WZ hn (n:=n) (s:=s) (ps:=ps) hp;refine Gs AH rfl rfl rfl (EO _) (by simp [An]) (z:=.int .i64 0) rfl (λ_=>.int _ _) (HU ds x) ?_;refine bg [] rfl (by simp [An];rfl) ?_;rw [show Lg ds x=Bf x 0 ds by simp [Lg,hp]];unfold Ck;cases hfs:Gu s 0 ds with
 | none =>
  rw [hfs] at hf;refine Ai rfl λh=>?_;refine A8 rfl ?_;have hf:¬0<=(BO ds (.mk 8 n x ps) s).2:=by have:(BO ds (.mk 8 n x ps) s).2<0:=hf;omega
  rw [show AW ds (.mk 8 n x ps) s=([],false) by simp [AW,hf]];exact Aa rfl rfl rfl
 | some p =>
  obtain ⟨a,b⟩:=p;rw [hfs] at hf;obtain ⟨hf1,hf2,hf3⟩:=hf;refine Ab rfl (λh=>?_) (λh=>?_)
  ·refine A8 rfl ?_;have:¬0<=(BO ds (.mk 8 n x ps) s).2:=by
    have:¬((a:Int)=Bf x 0 ds):=by simp at h;exact λe=>h e.symm
    simpa [this] using hf1
   rw [show AW ds (.mk 8 n x ps) s=([],false) by simp [AW,this]];exact Aa rfl rfl rfl
  ·have ha:(a:Int)=Bf x 0 ds:=by simp at h;exact h.symm
   obtain ⟨d,hd,hb,hc⟩:=hf2 ha;have hc0:0<=(BO ds (.mk 8 n x ps) s).2:=by simpa [ha] using hf1
   rw [show AW ds (.mk 8 n x ps) s=((BO ds (.mk 8 n x ps) s).1.args,true) by simp [AW,hc0]];generalize (BO ds (.mk 8 n x ps) s).1=k at *;refine A8 rfl ?_;refine bi rfl (c:=CU d) (λ_=>⟨by simp,by simpa using B2 hd,by simp⟩) (by simp) ?_;obtain ⟨dn,dc⟩:=d;refine AZ rfl ?_;refine bi rfl (c:=DN k) (λ_=>⟨hb,by simpa using B2 hc,by simp⟩) (by simp) ?_;obtain ⟨kn,ka⟩:=k;refine bg [] rfl (by simp;rfl) ?_;exact Aa rfl rfl rfl
theorem Co {ds:List Dt} (ho:OkD ds) {t:Ty} {s:Str}:Bw ds (AW ds t s).1=true:=by
 unfold AW;by_cases h:0<=(BO ds t s).2
 ·simpa [h] using H4 ho h
 ·simp [h,Bw]
def KE (ds:List Dt):Ty->Ty->Bool
 | .mk so m x0 qs,.mk f _ x ps=>if f=3 then so == 1 else if f=4 then so == 2 else if f=5 then so == 3 else if f=6 then decide ((AW ds (.mk so m x0 qs) x).1.length=ps.length)&&((AW ds (.mk so m x0 qs) x).2&&Cr ds (AW ds (.mk so m x0 qs) x).1 ps) else true
theorem NI (ds:List Dt):∀t p:Ty,Cs ds t p=KE ds t p
 | .mk so m x0 qs,.mk f k x ps=>by
  simp only [Cs,KE,AW];rw [Id ds so 0 m x0 x [] qs];by_cases h:0<=(BO ds (.mk so m x0 qs) x).2
  ·simp [h]
  ·simp [h]
def LI (ds:List Dt):Ty->Ty->Bool
 | .mk so m x0 qs,.mk f _ x ps=>if so=1 then f == 1 else if so=2 then f == 2 else if so=3 then f == 3 else if so=8 then decide (f=4)&&(decide ((AW ds (.mk so m x0 qs) x).1.length=ps.length)&&((AW ds (.mk so m x0 qs) x).2&&HA ds (AW ds (.mk so m x0 qs) x).1 ps)) else f == 5
theorem Ji (ds:List Dt):∀t p:Ty,IT ds t p=LI ds t p
 | .mk so m x0 qs,.mk f k x ps=>by
  simp only [IT,LI,AW];rw [Id ds so 0 m x0 x [] qs];by_cases h:0<=(BO ds (.mk so m x0 qs) x).2
  ·simp [h]
  ·simp [h]
theorem aG (c:Cse) (sz:List (List V)) (ho:OkD c.datas) (hd:B1 (Cp c.datas)=true):∀(p t:Ty),AK c.datas t=true->Ak Tryz.prog 87 [AE c sz,.agg (dTyc t),.agg (dTyc p)] (.bool (Cs c.datas t p))
 | .mk f n x ps,t,hn=>by
  have hcon:=Qf c sz t x hd hn;have hnm:=Co ho (t:=t) (s:=x);have hS:Cs c.datas t (.mk f n x ps)=KE c.datas t (.mk f n x ps):=NI c.datas t (.mk f n x ps);rw [hS];obtain ⟨so,n0,x0,ps0⟩:=t;simp only [KE];generalize AW c.datas (.mk so n0 x0 ps0) x=r at *;obtain ⟨ka,kb⟩:=r;refine AS λhv=>?_;simp [Cx,EM,dTyc,maxLen] at hv;refine Af AH Tryz.func87 (by decide +kernel) rfl [2,3,4,5,6,7] rfl rfl ?_;refine AZ rfl ?_;by_cases h3:f=3
  ·subst h3;refine Ai rfl λh=>?_;refine A8 rfl ?_;refine Aa rfl rfl (congrArg _ ?_);simp
  rw [if_neg h3];refine Ab rfl (λh=>absurd (by simpa using h) h3) (λh=>?_);clear h;refine A8 rfl ?_;by_cases h4:f=4
  ·subst h4;refine Ai rfl λh=>?_;refine A8 rfl ?_;refine Aa rfl rfl (congrArg _ ?_);simp
  rw [if_neg h4];refine Ab rfl (λh=>absurd (by simpa using h) h4) (λh=>?_);clear h;refine A8 rfl ?_;by_cases h5:f=5
  ·subst h5;refine Ai rfl λh=>?_;refine A8 rfl ?_;refine Aa rfl rfl (congrArg _ ?_);simp
  rw [if_neg h5];refine Ab rfl (λh=>absurd (by simpa using h) h5) (λh=>?_);clear h;refine A8 rfl ?_;by_cases h6:f=6
  case neg =>
   rw [if_neg h6];refine Ab rfl (λh=>absurd (by simpa using h) h6) (λh=>?_);refine A8 rfl ?_;refine Aa rfl rfl (congrArg _ ?_);simp
  rw [if_pos h6];refine Ab rfl (λh=>?_) (λh=>by simp [h6] at h);clear h;refine A8 rfl ?_;refine Ah rfl hcon ?_;refine AZ rfl ?_;by_cases hg:ka.length=ps.length/\kb=true
  case neg =>
   refine Ab rfl (λh=>?_) (λh=>?_)
   ·refine A8 rfl ?_;refine Aa rfl rfl (congrArg _ ?_);simp;grind
   ·exfalso;simp at h;apply hg;grind
  obtain ⟨hlen,rfl⟩:=hg;refine Ab rfl (λh=>by exfalso;simp [hlen] at h) (λh=>?_);clear h;refine A8 rfl ?_;simp only [hlen,decide_true,Bool.true_and];refine Am (λi:Nat=>[(51,.imm (.int .i64 i)),(50,.imm (.int .i64 ps.length)),(49,.imm (.sl (BQ ps))),(0,.imm (AE c sz)),(7,.imm (.sl (BQ ka)))]) (λ_=>[]) [4,5,6,7] (λi=>ps.length-i)
   (λi=>i<=ps.length/\Cr c.datas ka ps=Cr c.datas (ka.drop i) (ps.drop i)) 0 ⟨Nat.zero_le _,rfl⟩ ⟨rfl,A3 (by simp),rfl,rfl,rfl,trivial⟩ trivial rfl λi hi ih=>?_
  obtain ⟨hi1,hi2⟩:=hi;refine A8 rfl ?_;refine Ab rfl (λh=>?_) (λh=>?_)
  ·simp at h;obtain ⟨p,hp⟩:=Ap h;obtain ⟨a,ha⟩:=Ap (l:=ka) (i:=i) (by omega);rw [Av hp,Av ha] at hi2;simp only [Cr] at hi2;refine A8 rfl ?_;refine bi rfl (c:=dTyc p) (λ_=>⟨by simp,by simpa using A5 hp,by simp⟩) (by simp) ?_;refine AZ rfl ?_;refine bi rfl (c:=dTyc a) (λ_=>⟨by simp,by simpa using A5 ha,by simp⟩) (by simp) ?_;refine AZ rfl ?_;refine Ad rfl (λ_=>aG c sz ho hd p a (D3 hnm ha)) (by simp) ?_;refine bg [] rfl (by simp;rfl) ?_;refine Ab rfl (λh=>?_) (λh=>?_)
   ·refine A8 rfl ?_;refine Aa rfl rfl (congrArg _ ?_);simp at h;simp [hi2,h]
   ·refine A8 rfl ?_;simp at h;exact Ae (ih (i+1) (by omega) ⟨by omega,by rw [hi2];simp [h]⟩) ⟨A3 (BI (by omega) (by omega)),rfl,rfl,rfl,rfl,trivial⟩ trivial rfl
  ·simp at h;refine Ay rfl ?_;refine A8 rfl ?_;rw [hi2,List.drop_eq_nil_of_le (by omega),List.drop_eq_nil_of_le (by omega)];exact Aa rfl rfl rfl
termination_by p=>SizeOf.sizeOf p
decreasing_by
 have:=List.sizeOf_lt_of_mem (List.mem_of_getElem? hp);simp_wf;omega
theorem jT (c:Cse) (sz:List (List V)) (ho:OkD c.datas) (hd:B1 (Cp c.datas)=true):∀(p t:Ty),AK c.datas t=true->Ak Tryz.prog 62 [AE c sz,.agg (dTyc t),.agg (dTyc p)] (.bool (IT c.datas t p))
 | .mk f n x ps,t,hn=>by
  have hcon:=Qf c sz t x hd hn;have hnm:=Co ho (t:=t) (s:=x);have hS:IT c.datas t (.mk f n x ps)=LI c.datas t (.mk f n x ps):=Ji c.datas t (.mk f n x ps);rw [hS];obtain ⟨so,n0,x0,ps0⟩:=t;simp only [LI];generalize AW c.datas (.mk so n0 x0 ps0) x=r at *;obtain ⟨ka,kb⟩:=r;refine AS λhv=>?_;simp [Cx,EM,dTyc,maxLen] at hv;refine Af AH Tryz.func62 (by decide +kernel) rfl [2,3,4,5,6,7] rfl rfl ?_;refine AZ rfl ?_;by_cases h1:so=1
  ·subst h1;refine Ai rfl λh=>?_;refine A8 rfl ?_;refine Aa rfl rfl (congrArg _ ?_);simp
  rw [if_neg h1];refine Ab rfl (λh=>absurd (by simpa using h) h1) (λh=>?_);clear h;refine A8 rfl ?_;by_cases h2:so=2
  ·subst h2;refine Ai rfl λh=>?_;refine A8 rfl ?_;refine Aa rfl rfl (congrArg _ ?_);simp
  rw [if_neg h2];refine Ab rfl (λh=>absurd (by simpa using h) h2) (λh=>?_);clear h;refine A8 rfl ?_;by_cases h3:so=3
  ·subst h3;refine Ai rfl λh=>?_;refine A8 rfl ?_;refine Aa rfl rfl (congrArg _ ?_);simp
  rw [if_neg h3];refine Ab rfl (λh=>absurd (by simpa using h) h3) (λh=>?_);clear h;refine A8 rfl ?_;by_cases h8:so=8
  case neg =>
   rw [if_neg h8];refine Ab rfl (λh=>absurd (by simpa using h) h8) (λh=>?_);refine A8 rfl ?_;refine Aa rfl rfl (congrArg _ ?_);simp
  rw [if_pos h8];refine Ab rfl (λh=>?_) (λh=>by simp [h8] at h);clear h;refine A8 rfl ?_;refine Ah rfl hcon ?_;refine AZ rfl ?_;by_cases hg:f=4/\ka.length=ps.length/\kb=true
  case neg =>
   refine Ab rfl (λh=>?_) (λh=>?_)
   ·refine A8 rfl ?_;refine Aa rfl rfl (congrArg _ ?_);simp;grind
   ·exfalso;simp at h;apply hg;grind
  obtain ⟨rfl,hlen,rfl⟩:=hg;refine Ab rfl (λh=>by exfalso;simp [hlen] at h) (λh=>?_);clear h;refine A8 rfl ?_;simp only [hlen,decide_true,Bool.true_and];refine Am (λi:Nat=>[(56,.imm (.int .i64 i)),(55,.imm (.int .i64 ps.length)),(54,.imm (.sl (BQ ps))),(0,.imm (AE c sz)),(7,.imm (.sl (BQ ka)))]) (λ_=>[]) [4,5,6,7] (λi=>ps.length-i)
   (λi=>i<=ps.length/\HA c.datas ka ps=HA c.datas (ka.drop i) (ps.drop i)) 0 ⟨Nat.zero_le _,rfl⟩ ⟨rfl,A3 (by simp),rfl,rfl,rfl,trivial⟩ trivial rfl λi hi ih=>?_
  obtain ⟨hi1,hi2⟩:=hi;refine A8 rfl ?_;refine Ab rfl (λh=>?_) (λh=>?_)
  ·simp at h;obtain ⟨p,hp⟩:=Ap h;obtain ⟨a,ha⟩:=Ap (l:=ka) (i:=i) (by omega);rw [Av hp,Av ha] at hi2;simp only [HA] at hi2;refine A8 rfl ?_;refine bi rfl (c:=dTyc p) (λ_=>⟨by simp,by simpa using A5 hp,by simp⟩) (by simp) ?_;refine AZ rfl ?_;refine bi rfl (c:=dTyc a) (λ_=>⟨by simp,by simpa using A5 ha,by simp⟩) (by simp) ?_;refine AZ rfl ?_;refine Ad rfl (λ_=>jT c sz ho hd p a (D3 hnm ha)) (by simp) ?_;refine bg [] rfl (by simp;rfl) ?_;refine Ab rfl (λh=>?_) (λh=>?_)
   ·refine A8 rfl ?_;refine Aa rfl rfl (congrArg _ ?_);simp at h;simp [hi2,h]
   ·refine A8 rfl ?_;simp at h;exact Ae (ih (i+1) (by omega) ⟨by omega,by rw [hi2];simp [h]⟩) ⟨A3 (BI (by omega) (by omega)),rfl,rfl,rfl,rfl,trivial⟩ trivial rfl
  ·simp at h;refine Ay rfl ?_;refine A8 rfl ?_;rw [hi2,List.drop_eq_nil_of_le (by omega),List.drop_eq_nil_of_le (by omega)];exact Aa rfl rfl rfl
termination_by p=>SizeOf.sizeOf p
decreasing_by
 have:=List.sizeOf_lt_of_mem (List.mem_of_getElem? hp);simp_wf;omega
theorem YT (g:FuncId) (a b:List V) (q:List V->Bool) (es:List (List V)) (hes:∀e∈es,e.length=4) (hlen:es.length<=9223372036854775807)
  (hq:∀e∈es,Ak Tryz.prog g (a++[.agg e]++b) (.bool (q e))) :
  Ak Tryz.prog 166 [.sl es,.clo (.func g) a b] (.int .i64 (Fb q es 0)):=by
 refine Af AH Tryz.func166 (by decide +kernel) rfl [2,3,4] rfl rfl ?_;refine AZ rfl ?_;refine Am (λi:Nat=>[(8,.imm (.int .i64 i)),(7,.imm (.int .i64 es.length)),(0,.imm (.sl es)),(1,.imm (.clo (.func g) a b))]) (λ_=>[]) [2,3,4] (λi=>es.length-i)
  (λi=>i<=es.length/\Fb q es 0=Fb q (es.drop i) i) 0 ⟨Nat.zero_le _,rfl⟩ ⟨rfl,A3 (by simp),rfl,rfl,trivial⟩ trivial rfl λi hi ih=>?_
 refine A8 rfl ?_;have hi2:=hi.2;refine Ab rfl (λh=>?_) (λh=>?_)
 ·simp at h;obtain ⟨e,he⟩:=Ap h;have hm:=List.mem_of_getElem? he;rw [Av he] at hi2;refine A8 rfl ?_;refine bi rfl (c:=e) (λ_=>⟨by simp,by simpa using he,hes e hm⟩) (by simp) ?_;refine bg [] rfl (by simp [hes e hm]) ?_;refine MR rfl (λ_=>hq e hm) (by simp) ?_;refine AZ rfl ?_;refine Ab rfl (λh=>?_) (λh=>?_)
  ·refine A8 rfl ?_;exact Au ⟨_,rfl,tV (congrArg _ (by rw [hi2];simp [Fb,h])),trivial⟩
  ·refine A8 rfl ?_;exact Ae (ih (i+1) (by omega) ⟨by omega,by rw [hi2];simp [Fb,h]⟩) ⟨A3 (BI (by omega) (by omega)),rfl,rfl,rfl,trivial⟩ trivial rfl
 ·refine A8 rfl ?_;simp at h;refine Aa rfl rfl (congrArg _ ?_);rw [hi2,List.drop_eq_nil_of_le (by omega)];rfl
theorem SA (g:FuncId) (a b:List V) (q:List V->Bool) (es:List (List V)) (hes:∀e∈es,e.length=4) (hlen:es.length<=9223372036854775807)
  (hq:∀e∈es,Ak Tryz.prog g (a++[.agg e]++b) (.bool (q e))) :
  Ak Tryz.prog 124 [.sl es,.clo (.func g) a b] (.bool (es.any q)):=by
 refine Af AH Tryz.func124 (by decide +kernel) rfl [2,3,4] rfl rfl ?_;refine AZ rfl ?_;refine Ad rfl (λ_=>YT g a b q es hes hlen hq) (by simp) ?_;refine AZ rfl ?_;refine Aa rfl rfl (congrArg _ ?_);rw [Bool.eq_iff_iff,<- IJ q es 0];simp
theorem iJ (c:Cse) (sz:List (List V)) (t:Ty):Ak Tryz.prog 125 [.agg (dTyc t),.ip 89 [AE c sz] 0] (.bool (!AK c.datas t)):=by
 have hN:=SI c sz t;obtain ⟨s,n,x,ps⟩:=t;generalize AK c.datas (.mk s n x ps)=b at *;refine PP ?_;refine Af AH Tryz.func125 (by decide +kernel) rfl [2,3,4,5] rfl rfl ?_;refine AZ rfl ?_;refine Ah rfl hN ?_;refine AZ rfl ?_;exact Aa rfl rfl rfl
theorem Vo (c:Cse) (sz:List (List V)) (ts:List Ty) (h:ts.length<=9223372036854775807) :
  Ak Tryz.prog 124 [.sl (BQ ts),.clo (.func 125) [] [.ip 89 [AE c sz] 0]] (.bool (!Bw c.datas ts)):=by
 have:=SA 125 [] [.ip 89 [AE c sz] 0] (qOf dTyc (λt=>!AK c.datas t)) (BQ ts) (λe he=>by rw [Dp] at he;obtain ⟨t,_,rfl⟩:=List.mem_map.1 he;simp) (by simpa using h)
  (λe he=>by
   rw [Dp] at he;obtain ⟨t,ht,rfl⟩:=List.mem_map.1 he;rw [JW H3];exact iJ c sz t)
 rw [Dp,List.any_map,show (qOf dTyc (λt=>!AK c.datas t) ∘ dTyc)=(λt=>!AK c.datas t) from funext λv=>JW H3 _ v,<- Dp] at this;rw [CM,List.all_eq_not_any_not,Bool.not_not];exact this
def Hm (ds:List Dt):Bool:=HQ ⟨[109],ds,[HT]⟩&&(B1 (CJ ds)&&B1 (Cp ds))&&Cw ds ds
def Nz (c:Cse) (a b:D) (sz:D):List D:=(dCse c).map .imm++[a,b,sz]
def Qh (c:Cse):Blk:=.cells 150 9 (Nz c (.imm (.mapv (EZ (CK 0 c.datas)))) (.imm (.mapv (EZ (DT 0 c.datas)))) .nils)
def outR (c:Cse):Bool->Out
 | true=>.ret (.tup [.ref 6 0,.imm (.bool true)]) [(6,some (Qh c))]
 | false=>.ret (.imm (.tup [.nilp,.bool false])) []
theorem Fl {ds:List Dt} (h:HQ ⟨[109],ds,[HT]⟩=true):ds.length<=4/\∀d∈ds,d.cons.length<=5/\∀c∈d.cons,c.args.length<=3:=by
 simp only [HQ,Bool.and_eq_true,List.all_eq_true,decide_eq_true_eq] at h;refine ⟨by omega,λd hd=>?_⟩;have hd:=h.1.2 d hd;simp only [Fw,Bool.and_eq_true,List.all_eq_true,decide_eq_true_eq] at hd;refine ⟨by omega,λc hc=>?_⟩;have hc:=hd.2 c hc;simp only [K1,Bool.and_eq_true,decide_eq_true_eq] at hc;omega
theorem Ww (l:List (Str×V)) (p:Str×V):Y2 (l++[p])=Fa (Y2 l) (.str p.1) p.2:=by simp [Y2,Lh]
theorem Xp {ds:List Dt} {i:Nat} {d:Dt} (h:ds[i]?=some d):CK 0 (ds.take (i+1))=CK 0 (ds.take i)++[(d.name,.int .i64 i)]:=by
 have hl:(ds.take i).length=i:=by rw [List.length_take];have:=(List.getElem?_eq_some_iff.1 h).1;omega
 rw [Bn h,Lu,hl];simp [CK]
theorem Zj {ds:List Dt} {i:Nat} {d:Dt} (h:ds[i]?=some d):DT 0 (ds.take (i+1))=DT 0 (ds.take i)++Ee i 0 d.cons:=by
 have hl:(ds.take i).length=i:=by rw [List.length_take];have:=(List.getElem?_eq_some_iff.1 h).1;omega
 rw [Bn h,Nj,hl];simp [DT]
theorem Xv {cs:List Cd} {i k:Nat} {c:Cd} (h:cs[k]?=some c):Ee i 0 (cs.take (k+1))=Ee i 0 (cs.take k)++[(c.name,.agg [.int .i64 i,.int .i64 k])]:=by
 have hl:(cs.take k).length=k:=by rw [List.length_take];have:=(List.getElem?_eq_some_iff.1 h).1;omega
 rw [Bn h,Lw,hl];simp [Ee]
theorem mW (c:Cse):Bg Tryz.prog 81 [.imm (.agg (dCse c))] [] (outR c (Hm c.datas)):=by
 obtain ⟨ds,⟨c1,c2,c3,c4⟩,rows⟩:=c;simp only;have hck:=Sm ⟨[109],ds,[HT]⟩;generalize hmb:HQ ⟨[109],ds,[HT]⟩=mb at hck;refine Af AH Tryz.func81 (by decide +kernel) rfl [1,2,3,4,5,6,7,8,9,10,11,12] rfl rfl ?_;refine AZ rfl ?_;refine Ah rfl hck ?_;refine bg [] rfl (by simp [Kt]) ?_;cases mb with
 | false =>
  refine Ab rfl (λh=>?_) (λh=>by simp [Kt] at h);refine A8 rfl ?_;rw [show Hm ds=false by simp [Hm,hmb]];exact Aa rfl rfl rfl
 | true =>
 refine Ab rfl (λh=>by simp [Kt] at h) (λh=>?_);clear h;obtain ⟨hl1,hl2⟩:=Fl hmb;refine A8 rfl ?_;refine PV rfl ?_;refine AZ rfl ?_;refine PV rfl ?_;refine AZ rfl ?_;refine Am (λi:Nat=>[(36,.imm (.int .i64 i)),(35,.imm (.int .i64 ds.length)),(34,.imm (.sl (ds.map CU))),(7,.imm (.int .i64 (Cp (ds.take i)).length)),(1,.ref 1 0),(6,.ref 7 0)])
  (λi=>[(1,some (.immb 29 6 (dCse ⟨ds,.mk c1 c2 c3 c4,rows⟩))),(4,some (.map (Y2 (CK 0 (ds.take i))))),(5,some (.map (Y2 (DT 0 (ds.take i))))),(6,some (.cells 150 9 (Nz ⟨ds,.mk c1 c2 c3 c4,rows⟩ (.mapr 4) (.mapr 5) .nils))),(7,some (.cells 89 1 [.ref 6 0]))]) [8,9,10,11,12] (λi=>ds.length-i)
  (λi=>i<=ds.length) 0 (Nat.zero_le _) ⟨rfl,A3 (by simp),rfl,rfl,rfl,rfl,trivial⟩ ⟨rfl,rfl,rfl,rfl,rfl,trivial⟩ rfl λi hi ih=>?_
 refine A8 rfl ?_;refine Ab rfl (λh=>?_) (λh=>?_)
 ·simp at h;obtain ⟨d,hd⟩:=Ap h;have hdm:=hl2 d (List.mem_of_getElem? hd);have hcl:=Uq (ds:=ds.take i) λx hx=>(hl2 x (List.mem_of_mem_take hx)).1;rw [List.length_take] at hcl;have ec:=RL hd;have ed:=Xp hd;have es:=Zj hd;refine A8 rfl ?_;refine bi rfl (c:=CU d) (λ_=>⟨by simp,by simpa using B2 hd,by simp⟩) (by simp) ?_;obtain ⟨dn,dc⟩:=d;simp only at hdm ec ed es;refine AZ rfl ?_;refine YW AH rfl rfl rfl (Wx _) ?_;refine bg [] rfl (by simp [An];rfl) ?_
  refine Am (λk:Nat=>[(51,.imm (.int .i64 k)),(50,.imm (.int .i64 dc.length)),(49,.imm (.sl (dc.map DN))),(8,.imm (.int .i64 i)),(36,.imm (.int .i64 i)),(35,.imm (.int .i64 ds.length)),(34,.imm (.sl (ds.map CU))),(7,.imm (.int .i64 ((Cp (ds.take i)).length+k:Nat))),(1,.ref 1 0),(6,.ref 7 0)])
   (λk=>[(1,some (.immb 29 6 (dCse ⟨ds,.mk c1 c2 c3 c4,rows⟩))),(4,some (.map (Y2 (CK 0 (ds.take (i+1)))))),(5,some (.map (Y2 (DT 0 (ds.take i)++Ee i 0 (dc.take k))))),(6,some (.cells 150 9 (Nz ⟨ds,.mk c1 c2 c3 c4,rows⟩ (.mapr 4) (.mapr 5) .nils))),(7,some (.cells 89 1 [.ref 6 0]))]) [8,9,10,11,12] (λk=>dc.length-k)
   (λk=>k<=dc.length) 0 (Nat.zero_le _) ⟨rfl,A3 (by simp),rfl,rfl,rfl,rfl,rfl,rfl,rfl,rfl,trivial⟩ ⟨rfl,by rw [ed,Ww];rfl,by rw [List.take_zero,show Ee i 0 []=[] from rfl,List.append_nil];rfl,rfl,rfl,trivial⟩ rfl λk hk jh=>?_
  refine A8 rfl ?_;refine Ab rfl (λh=>?_) (λh=>?_)
  ·simp at h;obtain ⟨k',hk'⟩:=Ap h;have ek:=Xv (i:=i) hk';refine A8 rfl ?_;refine bi rfl (c:=DN k') (λ_=>⟨by simp,by simpa using B2 hk',by simp⟩) (by simp) ?_;obtain ⟨kn,ka⟩:=k';simp only at ek;refine AZ rfl ?_;refine YW AH rfl rfl rfl (Wx _) ?_;refine bg [] rfl (by simp [An];rfl) ?_;exact Ae (jh (k+1) (by omega) (by omega)) ⟨A3 (BI (by omega) (by omega)),rfl,rfl,rfl,rfl,rfl,rfl,A3 (by rw [BI (by omega) (by omega)];omega),rfl,rfl,trivial⟩ ⟨rfl,rfl,by rw [ek,<- List.append_assoc,Ww];rfl,rfl,rfl,trivial⟩ rfl
  ·simp at h;have hke:dc.take k=dc:=List.take_of_length_le h;have hkl:k=dc.length:=by omega
   refine Ay rfl ?_;refine A8 rfl ?_;exact Ae (ih (i+1) (by omega) (by omega)) ⟨A3 (BI (by omega) (by omega)),rfl,rfl,A3 (by rw [ec];simp [hkl]),rfl,rfl,trivial⟩ ⟨rfl,rfl,by rw [es,hke];rfl,rfl,rfl,trivial⟩ rfl
 ·simp at h;refine Ay rfl ?_;rw [List.take_of_length_le h];refine bd [] rfl (by simp [An];rfl) ?_;have m1:=(ZT (CK 0 ds)).2;have m2:=(ZT (DT 0 ds)).2;rw [GS] at m1;rw [Ib] at m2;have l1:(CK 0 ds).length=ds.length:=by have:=congrArg List.length (GS 0 ds);simpa [CJ] using this
  have l2:(DT 0 ds).length=(Cp ds).length:=by have:=congrArg List.length (Ib 0 ds);simpa using this
  rw [l1] at m1;rw [l2] at m2;by_cases hdf:B1 (CJ ds)=true/\B1 (Cp ds)=true
  case neg =>
   refine Ab rfl (λh=>?_) (λh=>?_)
   ·refine A8 rfl ?_;have:(B1 (CJ ds)&&B1 (Cp ds))=false:=by cases h1:B1 (CJ ds) <;> cases h2:B1 (Cp ds) <;> simp_all
    rw [show Hm ds=false by simp only [Hm,this];simp];exact Aa rfl rfl rfl
   ·exfalso;apply hdf;simp at h m1 m2;constructor
    ·cases h1:B1 (CJ ds) with
     | true=>rfl
     | false=>rw [h1] at m1;simp at m1;omega
    ·cases h1:B1 (Cp ds) with
     | true=>rfl
     | false=>rw [h1] at m2;simp at m2;omega
  obtain ⟨hdn,hdc⟩:=hdf;rw [hdn] at m1;rw [hdc] at m2;refine Ab rfl (λh'=>by exfalso;simp at h' m1 m2;omega) (λh=>?_);clear h m1 m2;rw [show Hm ds=Cw ds ds by simp [Hm,hmb,hdn,hdc],Rb _ (by rw [GS];exact hdn),Rb _ (by rw [Ib];exact hdc)];refine A8 rfl ?_;refine Am (λi:Nat=>[(90,.imm (.int .i64 i)),(89,.imm (.int .i64 ds.length)),(88,.imm (.sl (ds.map CU))),(6,.ref 7 0)])
   (λ_=>[(4,some (.map (EZ (CK 0 ds)))),(5,some (.map (EZ (DT 0 ds)))),(6,some (.cells 150 9 (Nz ⟨ds,.mk c1 c2 c3 c4,rows⟩ (.mapr 4) (.mapr 5) .nils))),(7,some (.cells 89 1 [.ref 6 0]))]) [8,9,10,11,12] (λi=>ds.length-i)
   (λi=>i<=ds.length/\Cw ds ds=Cw ds (ds.drop i)) 0 ⟨Nat.zero_le _,rfl⟩ ⟨rfl,A3 (by simp),rfl,rfl,trivial⟩ ⟨rfl,rfl,rfl,rfl,trivial⟩ rfl λi hi ih=>?_
  obtain ⟨hi1,hi2⟩:=hi;refine A8 rfl ?_;refine Ab rfl (λh=>?_) (λh=>?_)
  ·simp at h;obtain ⟨d,hd⟩:=Ap h;have hdm:=hl2 d (List.mem_of_getElem? hd);rw [show Cw ds (ds.drop i)=(d.cons.all (λc=>Bw ds c.args)&&Cw ds (ds.drop (i+1))) from E2 hd] at hi2;refine A8 rfl ?_;refine bi rfl (c:=CU d) (λ_=>⟨by simp,by simpa using B2 hd,by simp⟩) (by simp) ?_;obtain ⟨dn,dc⟩:=d;simp only at hdm hi2;refine AZ rfl ?_;refine Am (λk:Nat=>[(97,.imm (.int .i64 k)),(96,.imm (.int .i64 dc.length)),(95,.imm (.sl (dc.map DN))),(90,.imm (.int .i64 i)),(89,.imm (.int .i64 ds.length)),(88,.imm (.sl (ds.map CU))),(6,.ref 7 0)])
    (λ_=>[(4,some (.map (EZ (CK 0 ds)))),(5,some (.map (EZ (DT 0 ds)))),(6,some (.cells 150 9 (Nz ⟨ds,.mk c1 c2 c3 c4,rows⟩ (.mapr 4) (.mapr 5) .nils))),(7,some (.cells 89 1 [.ref 6 0]))]) [8,9,10,11,12] (λk=>dc.length-k)
    (λk=>k<=dc.length/\dc.all (λc=>Bw ds c.args)=(dc.drop k).all (λc=>Bw ds c.args)) 0 ⟨Nat.zero_le _,rfl⟩ ⟨rfl,A3 (by simp),rfl,rfl,rfl,rfl,rfl,trivial⟩ ⟨rfl,rfl,rfl,rfl,trivial⟩ rfl λk hk jh=>?_
   obtain ⟨hk1,hk2⟩:=hk;refine A8 rfl ?_;refine Ab rfl (λh=>?_) (λh=>?_)
   ·simp at h;obtain ⟨k',hk'⟩:=Ap h;have hkm:=hdm.2 k' (List.mem_of_getElem? hk');rw [E2 hk'] at hk2;refine A8 rfl ?_;refine bi rfl (c:=DN k') (λ_=>⟨by simp,by simpa using B2 hk',by simp⟩) (by simp) ?_;obtain ⟨kn,ka⟩:=k';simp only at hkm hk2;refine AZ rfl ?_;refine J7 rfl (v:=.bool (!Bw ds ka)) (λ_=>Vo ⟨ds,.mk c1 c2 c3 c4,rows⟩ [] ka (by omega)) rfl (by simp) ?_;refine AZ rfl ?_;refine Ab rfl (λh=>?_) (λh=>?_)
    ·have h:Bw ds ka=true:=by simpa using h
     refine Ay rfl ?_;refine A8 rfl ?_;exact Ae (jh (k+1) (by omega) ⟨by omega,by rw [hk2];simp [h]⟩) ⟨A3 (BI (by omega) (by omega)),rfl,rfl,rfl,rfl,rfl,rfl,trivial⟩ ⟨rfl,rfl,rfl,rfl,trivial⟩ rfl
    ·have h:Bw ds ka=false:=by simpa using h
     refine A8 rfl ?_;rw [hi2,hk2,h];exact Aa rfl rfl rfl
   ·simp at h;refine Ay rfl ?_;refine A8 rfl ?_;rw [List.drop_eq_nil_of_le (by omega)] at hk2;exact Ae (ih (i+1) (by omega) ⟨by omega,by rw [hi2,hk2];simp⟩) ⟨A3 (BI (by omega) (by omega)),rfl,rfl,rfl,trivial⟩ ⟨rfl,rfl,rfl,rfl,trivial⟩ rfl
  ·simp at h;refine Ay rfl ?_;rw [hi2,List.drop_eq_nil_of_le (by omega)];refine Po 4 rfl ?_;refine Po 5 rfl ?_;refine A8 rfl ?_;exact Au ⟨_,rfl,rfl,⟨rfl,trivial⟩⟩
end Go.Hk
namespace Go.Hk
section
variable {P:Program} {n:Nat} {F:List Nat} {Q:DQ} {todo:List DI} {env:Env} {st:St} {ids':List Nat}
end
end Go.Hk
namespace Go.Hk
structure PMs where
 e:TypeId
 z:V
 bytes:Nat
 m:Int
 m2:Int
 id':Nat
 ids':List Nat
 dst:Option Nat
 todo:List DI
def rJ (tt:TT) (n:Nat) (env:Env) (ids:List Nat) (todo:List DI):Option PMs :=
 match UO todo,ids with
 | some o,id'::ids'=>match o.guard,o.op with
  | none,.makeSlice t l c=>match lk tt t,D2 env l,D2 env c with
   | some { sh:=.sl e,.. },some (.imm (.int _ m)),some (.imm (.int _ m2))=>match lk tt e,BJ n o.dst,Bk todo ([],[id']) with
    | some ⟨_,_,1,bytes,[.imm z]⟩,true,some (_,_,todo')=>some ⟨e,z,bytes,m,m2,id',ids',o.dst,todo'⟩
    | _,_,_=>none
   | _,_,_=>none
  | _,_=>none
 | _,_=>none
section
variable {P:Program} {n:Nat} {F:List Nat} {Q:DQ} {tt:TT} {env env':Env} {st st':St} {ids ids':List Nat} {k todo todo':List DI} {I:Imm} {μ:Mu} {w:World} {a:Act} {Pn:V->Prop} {d:D} {cx:Prop} {ob:List Prop}
theorem jJ (z:Array Value) (n:Nat) (c:Value) (h:z.toList=[c]):madeCells z n=Array.replicate n c:=by
 obtain ⟨z⟩:=z;simp at h;subst h;apply Array.ext
 ·simp [madeCells]
 ·intro i h1 h2;simp [madeCells,Nat.mod_one]
theorem eA (htt:TTok P tt) {c:PMs} (h:rJ tt n env ids todo=some c) (hm:c.m2=c.m) (h0:0<=c.m) (h1:(c.bytes:Int)*c.m<=281474976710656) (h2:c.m<=maxLen) (hz:V.one c.z=true)
  (hk:G P n F Q c.todo (BE c.dst (.own c.id' (List.replicate c.m.toNat [c.z]).length) env) ((c.id',some (.row c.e 1 (List.replicate c.m.toNat [c.z])))::st) c.ids'):G P n F Q todo env st ids:=by
 unfold rJ at h
 split at h
 ·rename_i o id' ids' ho
  split at h
  ·rename_i t l cc hg hop
   split at h
   ·rename_i e _ _ _ _ k1 m k2 m2 ht hl hc
    split at h
    ·rename_i sh ag bytes z all o' todo' hi hd hn1;cases h;have ho':o'=o:=ER ho hn1;subst ho';simp only at hm h0 h1 h2 hz hk;have hm:=hm.symm;subst hm;refine BC (fr:=[id']) (wr:=[(id',some (.row e 1 (List.replicate m.toNat [z])))]) (rd:=[]) hn1 ?_ hd (λc hc=>by rw [hop] at hc;cases hc) hk;intro I μ st1 ids1 a w hag hst hon;refine ⟨λ_=>?_,λhw=>by rw [AF hg] at hw;cases hw⟩;have hops:=Bh hon;rw [hop] at hops;have rl:=hops l (by simp [Op.operands]) _ hl;have rc:=hops cc (by simp [Op.operands]) _ hc;obtain ⟨inf,zv,i1,i2,i3,i4,i5,i6⟩:=(htt e _ hi).info;have hz1:=i5 I μ;have hzl:∃c0,zv.cells.toList=[c0]/\RepV I c0 z:=by
      have hl:=hz1.1
      match hcs:zv.cells.toList,hl with
      | [c0],_=>exact ⟨c0,rfl,(hz1.2 0 c0 _ (by rw [hcs];rfl) rfl).immInv⟩
     obtain ⟨c0,hc0,hr0⟩:=hzl;have hsz:inf.size=1:=i2;have hby:inf.bytes=bytes:=i3;have hrun:(execOp a.eval o').run P w = .ok (.value (.slice (some ⟨w.heap.size,0,none⟩) m.toNat m.toNat)) (w.alloc (.cells (Array.replicate m.toNat c0) e)):=by
      have hs:=(htt t _ ht).sh;have hx:=run_make (P:=P) w t e inf zv hs i1 i4 k1 k2 m m h0 (Int.le_refl _) (by rw [hby];exact h1) (by simpa [maxLen] using h2);rw [jJ _ _ c0 hc0,hsz,Nat.mul_one] at hx;simp only [execOp,hop];generalize a.eval l=vl at rl;generalize a.eval cc=vc at rc;cases rl with
      | imm _ _ rl =>
      cases rc with
      | imm _ _ rc =>
      cases rl;cases rc;simp only [Sem.run_bind,hx,Result.andThen_ok,Sem.run_pure]
     rw [hrun];have hlen:(List.replicate m.toNat [z]).length=m.toNat:=by simp
     have hone0:c0.oneCell'=true:=i6 c0 (by rw [hc0];simp);obtain ⟨μ',q1,q2,q3,q4⟩:=hst.allocO (.cells (Array.replicate m.toNat c0) e) (.slice (some ⟨w.heap.size,0,none⟩) m.toNat m.toNat) (λ_ h=>Eq.symm h) (.row e 1 (List.replicate m.toNat [z])) (λμ' _ =>
      ⟨(List.replicate m.toNat c0),⟨by simp [hlen],.inr ⟨w.heap.size,m.toNat,Array.replicate m.toNat c0,by rw [hlen],Nat.zero_le _,Ej w _,by rw [hlen];exact Nat.le_refl _,by simp [maxLen] at h2 ⊢;omega,by simp,by rw [hlen];simp⟩⟩,⟨by simp,λi v x hv hx=>by
       have e1:(List.replicate m.toNat [z]).flatten=List.replicate m.toNat z:=by
        generalize m.toNat=q
        induction q with
        | zero=>rfl
        | succ q ih=>simp only [List.replicate_succ,List.flatten_cons,ih];rfl
       rw [e1] at hx;rw [List.getElem?_replicate] at hv hx
       split at hv
       ·rename_i hq;rw [if_pos hq] at hx;cases hv;cases hx;exact hr0
       ·cases hv⟩,λc hc=>by rw [List.eq_of_mem_replicate hc];rfl,λc hc y hy=>by
       rw [List.eq_of_mem_replicate hc] at hy;simp at hy;subst hy;exact hz,Nat.one_pos⟩)
     rw [hlen] at *;exact ⟨I,μ',q3,.own _ _ _ _ q1,q2,q4⟩
    ·cases h
   ·cases h
  ·cases h
 ·cases h
end
end Go.Hk
namespace Go.Hk
open Go.Proofs
def Fz (ds:List Dt) (s:List Int):Ty->Int
 | .mk so _ x _=>if so=8 then s.getD (Lg ds x).toNat 0 else 1
def Bc (ds:List Dt) (s:List Int):Int->List Ty->Int
 | n,[]=>n
 | n,t::r=>if Fz ds s t=0 then 0 else Bc ds s (n+Fz ds s t) r
def Ba (s:List Int):List (List V):=s.map λn=>[.int .i64 n]
@[simp] theorem rowI_length (s:List Int):(Ba s).length=s.length:=by simp [Ba]
theorem JR {s:List Int} {i:Nat} (h:i<s.length):(Ba s)[i]?=some [.int .i64 (s.getD i 0)]:=by simp [Ba,h,List.getD]
def I1 (ds:List Dt) (i:Nat) (p:List Int×Bool) (args:List Ty):List Int×Bool :=
 if 0<Bc ds p.1 1 args/\(p.1.getD i 0=0\/Bc ds p.1 1 args<p.1.getD i 0) then (p.1.set i (Bc ds p.1 1 args),true) else p
def K0 (ds:List Dt) (i:Nat):List Int×Bool->List Cd->List Int×Bool
 | p,[]=>p
 | p,c::r=>K0 ds i (I1 ds i p c.args) r
def Dr (ds:List Dt):List Int×Bool->Nat->List Dt->List Int×Bool
 | p,_,[]=>p
 | p,i,d::r=>Dr ds (K0 ds i p d.cons) (i+1) r
def ML (ds:List Dt):Nat->List Int->List Int
 | 0,s=>s
 | f+1,s=>bif (Dr ds (s,false) 0 ds).2 then ML ds f (Dr ds (s,false) 0 ds).1 else (Dr ds (s,false) 0 ds).1
def Dd (ds:List Dt):List Int:=ML ds 2000 (List.replicate ds.length 0)
def QS:List Int->Nat
 | []=>0
 | x::r=>(if x=0 then 0 else 1)+QS r
def M9:List Int->Nat
 | []=>0
 | x::r=>(if x=0 then 257 else x.toNat)+M9 r
theorem NM:∀s:List Int,QS s<=s.length
 | []=>Nat.le_refl _
 | x::r=>by have:=NM r;simp only [QS,List.length_cons];split <;> omega
theorem ZQ:∀(s:List Int) (i:Nat) (n:Int),i<s.length->n≠0->QS (s.set i n)=QS s+(if s.getD i 0=0 then 1 else 0)
 | [],i,n,h,_=>by simp at h
 | x::r,0,n,_,hn=>by simp only [List.set_cons_zero,QS,hn,if_false,List.getD_cons_zero];split <;> omega
 | x::r,i+1,n,h,hn=>by
  have:=ZQ r i n (by simpa using h) hn;simp only [List.set_cons_succ,QS,List.getD_cons_succ,this];omega
theorem ZS:∀(s:List Int) (i:Nat) (n:Int),i<s.length->0<n->n<=256->(s.getD i 0=0\/n<s.getD i 0)->M9 (s.set i n)<M9 s
 | [],i,n,h,_,_,_=>by simp at h
 | x::r,0,n,_,hn,hb,hc=>by
  simp only [List.set_cons_zero,M9,List.getD_cons_zero] at hc ⊢;rw [if_neg (by omega)]
  split <;> omega
 | x::r,i+1,n,h,hn,hb,hc=>by
  have:=ZS r i n (by simpa using h) hn hb (by simpa using hc);simp only [List.set_cons_succ,M9];omega
theorem Y0:∀s:List Int,(∀x∈s,x<=256)->M9 s<=257*s.length
 | [],_=>Nat.le_refl _
 | x::r,h=>by
  have h1:=h x (by simp);have h2:=Y0 r λy hy=>h y (by simp [hy]);simp only [M9,List.length_cons]
  split <;> omega
structure IR (ds:List Dt) (s:List Int):Prop where
 len:s.length=ds.length
 le:∀x∈s,0<=x/\x<=((4 ^ QS s:Nat):Int)
theorem MP {s:List Int} {i:Nat}:s.getD i 0∈s\/s.getD i 0=0:=by
 by_cases h:i<s.length
 ·left;simp [List.getD,List.getElem?_eq_getElem h]
 ·right;simp [List.getD,List.getElem?_eq_none (Nat.le_of_not_lt h)]
theorem mX {n:Nat} (h:n<=4):4 ^ n<=256:=by
 have:n=0\/n=1\/n=2\/n=3\/n=4:=by omega
 rcases this with rfl | rfl | rfl | rfl | rfl <;> decide
theorem Jf {ds:List Dt} {s:List Int} (h:IR ds s) (t:Ty):0<=Fz ds s t/\Fz ds s t<=((4 ^ QS s:Nat):Int):=by
 obtain ⟨so,n,x,ps⟩:=t;have h1:1<=4 ^ QS s:=Nat.one_le_pow _ _ (by decide);simp only [Fz]
 split
 ·rcases MP (s:=s) (i:=(Lg ds x).toNat) with hm | hm
  ·exact h.le _ hm
  ·rw [hm];omega
 ·omega
theorem GI {ds:List Dt} {s:List Int} (h:IR ds s):∀(l:List Ty) (n:Int),0<=n->0<=Bc ds s n l/\Bc ds s n l<=n+(l.length:Int)*((4 ^ QS s:Nat):Int)
 | [],n,hn=>by simp [Bc,hn]
 | t::r,n,hn=>by
  have hb:=Jf h t;have ih:=GI h r (n+Fz ds s t) (by omega);simp only [Bc,List.length_cons];generalize ((4 ^ QS s:Nat):Int)=M at *;have:((r.length+1:Nat):Int)*M=(r.length:Int)*M+M:=by rw [Int.natCast_add,Int.add_mul];omega
  rw [this];have hm:0<=(r.length:Int)*M:=Int.mul_nonneg (by omega) (by omega)
  split <;> omega
theorem Qx {ds:List Dt} (h4:ds.length<=4) {i:Nat} (hi:i<ds.length) {p:List Int×Bool} {args:List Ty} (ha:args.length<=3) (h:IR ds p.1) :
  IR ds (I1 ds i p args).1/\M9 (I1 ds i p args).1<=M9 p.1/\((I1 ds i p args).2=true->p.2=true\/M9 (I1 ds i p args).1<M9 p.1):=by
 have hs:=GI h args 1 (by omega);simp only [I1];generalize Bc ds p.1 1 args=n at *
 split
 ·rename_i hc;have hlt:i<p.1.length:=by rw [h.len];exact hi
  have hset:=ZQ p.1 i n hlt (by omega);have hnz:=NM p.1;have hz1:4 ^ QS p.1>=1:=Nat.one_le_pow _ _ (by decide);have key:∀M:Nat,1<=M->n<=1+(args.length:Int)*(M:Int)->n<=((M*4:Nat):Int):=λM h1 h2=>by
   have:(args.length:Int)*(M:Int)<=3*(M:Int):=Int.mul_le_mul_of_nonneg_right (by omega) (by omega);omega
  have hn4:n<=((4 ^ QS (p.1.set i n):Nat):Int):=by
   rw [hset];by_cases h0:p.1.getD i 0=0
   ·rw [if_pos h0,Nat.pow_succ];exact key _ hz1 hs.2
   ·rw [if_neg h0,Nat.add_zero];rcases MP (s:=p.1) (i:=i) with hm | hm
    ·have:=(h.le _ hm).2;omega
    ·exact absurd hm h0
  have hle:QS (p.1.set i n)<=4:=by have:=NM (p.1.set i n);rw [List.length_set,h.len] at this;omega
  have h256:=mX hle;have hmu:=ZS p.1 i n hlt hc.1 (by omega) hc.2;refine ⟨⟨by simp [h.len],λx hx=>?_⟩,Nat.le_of_lt hmu,λ_=>.inr hmu⟩;have hmono:4 ^ QS p.1<=4 ^ QS (p.1.set i n):=Nat.pow_le_pow_right (by decide) (by rw [hset];omega);show 0<=x/\x<=((4 ^ QS (p.1.set i n):Nat):Int);rcases List.mem_or_eq_of_mem_set hx with hx | rfl
  ·have:=h.le x hx;omega
  ·omega
 ·exact ⟨h,Nat.le_refl _,λh=>.inl h⟩
theorem Vj {ds:List Dt} (h4:ds.length<=4) {i:Nat} (hi:i<ds.length):∀{l:List Cd} {p:List Int×Bool},(∀c∈l,c.args.length<=3)->IR ds p.1 ->
  IR ds (K0 ds i p l).1/\M9 (K0 ds i p l).1<=M9 p.1/\((K0 ds i p l).2=true->p.2=true\/M9 (K0 ds i p l).1<M9 p.1)
 | [],p,_,h=>⟨h,Nat.le_refl _,λh=>.inl h⟩
 | c::r,p,ha,h=>by
  obtain ⟨a1,a2,a3⟩:=Qx (p:=p) h4 hi (ha c (by simp)) h;obtain ⟨b1,b2,b3⟩:=Vj h4 hi (l:=r) (p:=I1 ds i p c.args) (λx hx=>ha x (by simp [hx])) a1;simp only [K0];refine ⟨b1,by omega,λh=>?_⟩;rcases b3 h with h | h
  ·rcases a3 h with h | h
   ·exact .inl h
   ·exact .inr (by omega)
  ·exact .inr (by omega)
theorem N5 {ds:List Dt} (h4:ds.length<=4):∀{l:List Dt} {p:List Int×Bool} {i:Nat},i+l.length<=ds.length->(∀d∈l,∀c∈d.cons,c.args.length<=3)->IR ds p.1 ->
  IR ds (Dr ds p i l).1/\M9 (Dr ds p i l).1<=M9 p.1/\((Dr ds p i l).2=true->p.2=true\/M9 (Dr ds p i l).1<M9 p.1)
 | [],p,i,_,_,h=>⟨h,Nat.le_refl _,λh=>.inl h⟩
 | d::r,p,i,hi,ha,h=>by
  simp only [List.length_cons] at hi;obtain ⟨a1,a2,a3⟩:=Vj (p:=p) h4 (i:=i) (by omega) (l:=d.cons) (ha d (by simp)) h;obtain ⟨b1,b2,b3⟩:=N5 h4 (l:=r) (p:=K0 ds i p d.cons) (i:=i+1) (by omega) (λx hx=>ha x (by simp [hx])) a1;simp only [Dr];refine ⟨b1,by omega,λh=>?_⟩;rcases b3 h with h | h
  ·rcases a3 h with h | h
   ·exact .inl h
   ·exact .inr (by omega)
  ·exact .inr (by omega)
theorem Zz (c:Cse) (s:List Int) (hs:IR c.datas s) (h4:c.datas.length<=4) (args:List Ty) (hn:Bw c.datas args=true) (ha:args.length<=3) :
  Ak Tryz.prog 132 [AE c (Ba s),.sl (BQ args)] (.int .i64 (Bc c.datas s 1 args)):=by
 obtain ⟨ds,⟨c1,c2,c3,c4⟩,rows⟩:=c;simp only at hs h4 hn ⊢;have hpw:((4 ^ QS s:Nat):Int)<=256:=by have:=mX (n:=QS s) (by have:=NM s;rw [hs.len] at this;omega);omega
 refine Af AH Tryz.func132 (by decide +kernel) rfl [2,3,4,5,6] rfl rfl ?_;refine AZ rfl ?_;refine Am (λy:Nat×Int=>[(11,.imm (.int .i64 y.1)),(10,.imm (.int .i64 args.length)),(9,.imm (.sl (BQ args))),(5,.imm (.int .i64 y.2)),(0,.imm (AE ⟨ds,.mk c1 c2 c3 c4,rows⟩ (Ba s)))]) (λ_=>[]) [2,3,4,5,6] (λy=>args.length-y.1)
  (λy=>y.1<=args.length/\Bc ds s 1 args=Bc ds s y.2 (args.drop y.1)/\0<=y.2/\y.2<=1+256*y.1) (0,1) ⟨Nat.zero_le _,rfl,by simp only;omega,by simp only;omega⟩ ⟨rfl,A3 (by simp),rfl,rfl,rfl,trivial⟩ trivial rfl λy hi ih=>?_
 obtain ⟨i,m⟩:=y;obtain ⟨hi1,hi2,hi3,hi4⟩:=hi;simp only at hi1 hi2 hi3 hi4;refine A8 rfl ?_;refine Ab rfl (λh=>?_) (λh=>?_)
 ·simp at h;obtain ⟨t,ht⟩:=Ap h;have hnt:=D3 hn ht;have hb:=Jf hs t;rw [Av ht] at hi2;simp only [Bc] at hi2;refine A8 rfl ?_;refine bi rfl (c:=dTyc t) (λ_=>⟨by simp,by simpa using A5 ht,by simp⟩) (by simp) ?_;obtain ⟨so,n,x,ps⟩:=t;refine AZ rfl ?_;by_cases h8:so=8
  ·subst h8;have hp:=(CN hnt 8 n x ps rfl rfl).1;have hd:Lg ds x=Bf x 0 ds:=by simp [Lg,hp]
   obtain ⟨k,d,k1,k2,k3⟩:=Jc x ds 0 hp;have hk:k<s.length:=by rw [hs.len];exact (List.getElem?_eq_some_iff.1 k2).1
   have ho:Fz ds s (.mk 8 n x ps)=s.getD k 0:=by simp [Fz,hd,k1]
   rw [ho] at hi2 hb;refine Ai rfl λh=>?_;refine A8 rfl ?_;refine Gs AH rfl rfl rfl (EO _) (by simp [An]) (z:=.int .i64 0) rfl (λ_=>.int _ _) (HU ds x) ?_;refine AZ rfl ?_;refine bi rfl (c:=[.int .i64 (s.getD k 0)]) (λ_=>⟨by rw [hd];exact hp,by rw [hd,k1];simpa using JR hk,rfl⟩) (by simp) ?_;refine bg [] rfl (by simp;rfl) ?_;refine Ab rfl (λh=>?_) (λh=>?_)
   ·refine A8 rfl ?_;rw [if_pos (by simpa using h)] at hi2;rw [hi2];exact Aa rfl rfl rfl
   ·refine A8 rfl ?_;rw [if_neg (by simpa using h)] at hi2;exact Ae (ih (i+1,m+s.getD k 0) (by simp only;omega) ⟨by simp only;omega,hi2,by simp only;omega,by simp only;omega⟩) ⟨A3 (BI (by simp only;omega) (by simp only;omega)),rfl,rfl,A3 (BI (by omega) (by omega)),rfl,trivial⟩ trivial rfl
  ·have ho:Fz ds s (.mk so n x ps)=1:=by simp [Fz,h8]
   rw [ho] at hi2;refine Ab rfl (λh=>absurd (by simpa using h) h8) (λh=>?_);refine A8 rfl ?_;refine Az rfl λh=>?_;refine A8 rfl ?_;rw [if_neg (by omega)] at hi2;exact Ae (ih (i+1,m+1) (by simp only;omega) ⟨by simp only;omega,hi2,by simp only;omega,by simp only;omega⟩) ⟨A3 (BI (by simp only;omega) (by simp only;omega)),rfl,rfl,A3 (BI (by omega) (by omega)),rfl,trivial⟩ trivial rfl
 ·simp at h;refine Ay rfl ?_;refine A8 rfl ?_;rw [hi2,List.drop_eq_nil_of_le (by omega)];exact Aa rfl rfl rfl
theorem gX (s:List Int) (i:Nat) (n:Int):(Ba s).set i [.int .i64 n]=Ba (s.set i n):=by simp [Ba,List.map_set]
theorem cE (n:Nat):List.replicate n [V.int .i64 0]=Ba (List.replicate n 0):=by simp [Ba]
theorem N3 (ds:List Dt):IR ds (List.replicate ds.length 0):=⟨by simp,λx hx=>by rw [List.eq_of_mem_replicate hx];exact ⟨Int.le_refl _,Int.natCast_nonneg _⟩⟩
def U1 (c:Cse) (sz:D):Blk:=.cells 150 9 (Nz c (.imm (.mapv (EZ (CK 0 c.datas)))) (.imm (.mapv (EZ (DT 0 c.datas)))) sz)
theorem fJ (c:Cse) (h4:c.datas.length<=4) (hl2:∀d∈c.datas,d.cons.length<=5/\∀c∈d.cons,c.args.length<=3) (hN:Cw c.datas c.datas=true) :
  Bg Tryz.prog 89 [.ref 1 0] [(1,some (Qh c))] (.ret HE [(1,some (U1 c (.own 2 c.datas.length))),(2,some (.row 3 1 (Ba (Dd c.datas))))]):=by
 obtain ⟨ds,⟨c1,c2,c3,c4⟩,rows⟩:=c;simp only at h4 hl2 hN ⊢;have hl3:∀d∈ds,∀c∈d.cons,c.args.length<=3:=λd hd=>(hl2 d hd).2;have hnm:∀d∈ds,∀c∈d.cons,Bw ds c.args=true:=by simpa [Cw] using hN
 generalize hC:(⟨ds,.mk c1 c2 c3 c4,rows⟩:Cse)=C at *;have hCd:C.datas=ds:=by rw [<- hC]
 unfold Qh;rw [hCd];subst hC;refine Af AH Tryz.func89 (by decide +kernel) rfl [2,3,4,5,6] rfl rfl ?_;refine AZ rfl ?_;refine eA AH rfl rfl (by simp) (by simp;omega) (by simp [maxLen];omega) rfl ?_;have er:(List.replicate ((ds.map CU).length:Int).toNat [V.int .i64 0])=Ba (List.replicate ds.length 0):=by rw [<- cE];simp
 simp only [BE];rw [er,rowI_length,List.length_replicate];refine AZ rfl ?_;refine Am (λy:Nat×List Int×Bool=>[(2,.imm (.bool y.2.2)),(0,.ref 1 0)])
  (λy=>[(1,some (U1 ⟨ds,.mk c1 c2 c3 c4,rows⟩ (.own 2 ds.length))),(2,some (.row 3 1 (Ba y.2.1)))]) [3,4,5,6] (λy=>if y.2.2 then y.1+1 else 0)
  (λy=>IR ds y.2.1/\if y.2.2 then Dd ds=ML ds y.1 y.2.1/\M9 y.2.1<y.1 else Dd ds=y.2.1) (2000,List.replicate ds.length 0,true)
  ⟨N3 ds,by simp only [if_true];exact ⟨rfl,by have:=Y0 (List.replicate ds.length 0) (λx hx=>by rw [List.eq_of_mem_replicate hx];omega);simp at this;omega⟩⟩ ⟨rfl,rfl,trivial⟩ ⟨rfl,rfl,trivial⟩ rfl λy hi ih=>?_
 obtain ⟨f,s,ch⟩:=y;obtain ⟨hs,hi⟩:=hi;simp only at hs hi;refine A8 rfl ?_;cases ch with
 | false =>
  simp only [Bool.false_eq_true,if_false] at hi;refine Az rfl λh=>?_;refine Ay rfl ?_;refine A8 rfl ?_;rw [hi];exact C8 ⟨_,rfl,tV rfl,⟨rfl,rfl,trivial⟩⟩
 | true =>
 simp only [if_true] at hi;refine Ai rfl λh=>?_;clear h;obtain ⟨hi1,hi2⟩:=hi;obtain ⟨f,rfl⟩:∃g,f=g+1:=⟨f-1,by omega⟩
 refine A8 rfl ?_;refine Am (λy:Nat×List Int×Bool=>[(25,.imm (.int .i64 y.1)),(24,.imm (.int .i64 ds.length)),(23,.imm (.sl (ds.map CU))),(2,.imm (.bool y.2.2)),(0,.ref 1 0)])
  (λy=>[(1,some (U1 ⟨ds,.mk c1 c2 c3 c4,rows⟩ (.own 2 ds.length))),(2,some (.row 3 1 (Ba y.2.1)))]) [3,4,5,6] (λy=>ds.length-y.1)
  (λy=>y.1<=ds.length/\Dr ds (s,false) 0 ds=Dr ds y.2 y.1 (ds.drop y.1)/\IR ds y.2.1/\M9 y.2.1<=M9 s/\(y.2.2=true->M9 y.2.1<M9 s)) (0,s,false)
  ⟨Nat.zero_le _,rfl,hs,Nat.le_refl _,λh=>by cases h⟩ ⟨rfl,A3 (by simp),rfl,rfl,rfl,trivial⟩ ⟨rfl,rfl,trivial⟩ rfl λy hy jh=>?_
 obtain ⟨i,p⟩:=y;obtain ⟨hy1,hy2,hy3,hy4,hy5⟩:=hy;simp only at hy1 hy2 hy3 hy4 hy5;refine A8 rfl ?_;refine Ab rfl (λh=>?_) (λh=>?_)
 ·simp at h;have hil:=h;obtain ⟨d,hd⟩:=Ap h;have hdm:=List.mem_of_getElem? hd;rw [Av hd] at hy2;simp only [Dr] at hy2;refine A8 rfl ?_;refine bi rfl (c:=CU d) (λ_=>⟨by simp,by simpa using B2 hd,by simp⟩) (by simp) ?_;obtain ⟨dn,dc⟩:=d;simp only at hy2;have hd5:=(hl2 _ hdm).1;have hd3:=hl3 _ hdm;have hdn:=hnm _ hdm;simp only at hd5 hd3 hdn;refine AZ rfl ?_;refine Am (λy:Nat×List Int×Bool=>[(33,.imm (.int .i64 y.1)),(32,.imm (.int .i64 dc.length)),(31,.imm (.sl (dc.map DN))),(3,.imm (.int .i64 i)),(25,.imm (.int .i64 i)),(24,.imm (.int .i64 ds.length)),(23,.imm (.sl (ds.map CU))),(2,.imm (.bool y.2.2)),(0,.ref 1 0)])
   (λy=>[(1,some (U1 ⟨ds,.mk c1 c2 c3 c4,rows⟩ (.own 2 ds.length))),(2,some (.row 3 1 (Ba y.2.1)))]) [3,4,5,6] (λy=>dc.length-y.1)
   (λy=>y.1<=dc.length/\K0 ds i p dc=K0 ds i y.2 (dc.drop y.1)/\IR ds y.2.1/\M9 y.2.1<=M9 s/\(y.2.2=true->M9 y.2.1<M9 s)) (0,p)
   ⟨Nat.zero_le _,rfl,hy3,hy4,hy5⟩ ⟨rfl,A3 (by simp),rfl,rfl,rfl,rfl,rfl,rfl,rfl,trivial⟩ ⟨rfl,rfl,trivial⟩ rfl λy hk kh=>?_
  obtain ⟨k,q⟩:=y;obtain ⟨hk1,hk2,hk3,hk4,hk5⟩:=hk;simp only at hk1 hk2 hk3 hk4 hk5;refine A8 rfl ?_;refine Ab rfl (λh=>?_) (λh=>?_)
  ·simp at h;obtain ⟨c,hc⟩:=Ap h;have hcm:=List.mem_of_getElem? hc;rw [Av hc] at hk2;simp only [K0] at hk2;refine A8 rfl ?_;refine bi rfl (c:=DN c) (λ_=>⟨by simp,by simpa using B2 hc,by simp⟩) (by simp) ?_;obtain ⟨cn,ca⟩:=c;have hca3:=hd3 _ hcm;have hcan:=hdn _ hcm;simp only at hca3 hcan hk2;have hstep:=Qx (p:=q) h4 hil hca3 hk3;have hlen:q.1.length=ds.length:=hk3.len;obtain ⟨qs,qb⟩:=q;simp only at hk3 hk4 hk5 hlen hstep;refine AZ rfl ?_;refine J7 rfl (v:=.int .i64 (Bc ds qs 1 ca)) (λ_=>Zz ⟨ds,.mk c1 c2 c3 c4,rows⟩ qs hk3 h4 ca hcan hca3) rfl (by simp) ?_
   have hst:I1 ds i (qs,qb) ca=if 0<Bc ds qs 1 ca/\(qs.getD i 0=0\/Bc ds qs 1 ca<qs.getD i 0) then (qs.set i (Bc ds qs 1 ca),true) else (qs,qb):=rfl
   have hzb:=GI hk3 ca 1 (by omega);generalize Bc ds qs 1 ca=z at *;refine AZ rfl ?_;refine Hx AH rfl (λ_=>⟨by simp,by simp;omega⟩) (by simp [An]) ?_;refine DO rfl ?_;refine PU (e:=[.int .i64 (qs.getD i 0)]) AH rfl (λ_=>by simpa using JR (s:=qs) (i:=i) (by omega)) rfl (by simp [An]) ?_;refine bg [] rfl (by simp [An];try exact λa b=>⟨a,b⟩) ?_;refine Hx AH rfl (λ_=>⟨by simp,by simp;omega⟩) (by simp [An]) ?_;refine DO rfl ?_;refine PU (e:=[.int .i64 (qs.getD i 0)]) AH rfl (λ_=>by simpa using JR (s:=qs) (i:=i) (by omega)) rfl (by simp [An]) ?_;refine bg [] rfl (by simp [An];try exact λa b=>⟨a,b⟩) ?_;by_cases hz:0<z/\(qs.getD i 0=0\/z<qs.getD i 0)
   ·rw [if_pos hz] at hst;rw [hst] at hk2 hstep;have hstep3:=hstep.2.2 rfl;refine Ab rfl (λh=>?_) (λh=>by exfalso;simp at h;grind);refine A8 rfl ?_;refine Hx AH rfl (λ_=>⟨by simp,by simp;omega⟩) (by simp) ?_;refine AZ rfl ?_;refine R2 AH (e:=[.int .i64 (qs.getD i 0)]) (e':=[.int .i64 z]) rfl (by simpa using JR (s:=qs) (i:=i) (by omega)) (by show 0+1<=1;decide) (by simp) (by simp) ?_;refine AZ rfl ?_;refine Ae (kh (k+1,qs.set i z,true) (by simp only;omega) ⟨by simp only;omega,hk2,hstep.1,by have:=hstep.2.1;simp only at this ⊢;omega,λ_=>?_⟩) ⟨A3 (BI (by omega) (by omega)),rfl,rfl,rfl,rfl,rfl,rfl,rfl,rfl,trivial⟩ ⟨rfl,by rw [<- gX];rfl,trivial⟩ rfl;rcases hstep3 with h | h
    ·have:=hk5 h;have:=hstep.2.1;simp only at this ⊢;omega
    ·simp only at h ⊢;omega
   ·rw [if_neg hz] at hst;rw [hst] at hk2;refine Ab rfl (λh=>by exfalso;simp at h;grind) (λh=>?_);refine A8 rfl ?_;exact Ae (kh (k+1,qs,qb) (by simp only;omega) ⟨by simp only;omega,hk2,hk3,hk4,hk5⟩) ⟨A3 (BI (by omega) (by omega)),rfl,rfl,rfl,rfl,rfl,rfl,rfl,rfl,trivial⟩ ⟨rfl,rfl,trivial⟩ rfl
  ·simp at h;refine Ay rfl ?_;refine A8 rfl ?_;rw [List.drop_eq_nil_of_le (by omega)] at hk2;simp only [K0] at hk2;rw [hk2] at hy2;exact Ae (jh (i+1,q) (by simp only;omega) ⟨by simp only;omega,hy2,hk3,hk4,hk5⟩) ⟨A3 (BI (by omega) (by omega)),rfl,rfl,rfl,rfl,trivial⟩ ⟨rfl,rfl,trivial⟩ rfl
 ·simp at h;refine Ay rfl ?_;refine A8 rfl ?_;rw [List.drop_eq_nil_of_le (by omega)] at hy2;simp only [Dr] at hy2;simp only [ML,hy2] at hi1;obtain ⟨ps,pb⟩:=p;cases pb with
  | true =>
   have:=hy5 rfl;exact Ae (ih (f,ps,true) (by simp) ⟨hy3,by simp only [if_true];exact ⟨by simpa using hi1,by simp only at this;omega⟩⟩) ⟨rfl,rfl,trivial⟩ ⟨rfl,rfl,trivial⟩ rfl
  | false =>
   exact Ae (ih (f,ps,false) (by simp) ⟨hy3,by simpa using hi1⟩) ⟨rfl,rfl,trivial⟩ ⟨rfl,rfl,trivial⟩ rfl
end Go.Hk
namespace Go.Hk
mutual
theorem Ql:∀(t:Ty) (l:Int),(Aj t:Int)<=l->0<=Bv t l
 | .mk _ _ _ ps,l,h=>by
  simp only [Aj] at h;simp only [Bv];rw [if_neg (by omega)];exact Oz ps (l-1) (by omega)
theorem Oz:∀(ts:List Ty) (l:Int),(Ag ts:Int)<=l->0<=Cb ts l
 | [],l,h=>by simpa [Cb,Ag] using h
 | t::r,l,h=>by
  simp only [Ag] at h;simp only [Cb];rw [if_pos (by omega)];have h1:=Ql t l (by omega);have h2:=Ez t l h1;exact Oz r _ (by omega)
end
theorem SL (t:Ty) (l:Nat):decide (0<=Bv t l)=decide (Aj t<=l):=by
 by_cases h:Aj t<=l
 ·rw [decide_eq_true h,decide_eq_true (Ql t l (by omega))]
 ·rw [decide_eq_false h];refine decide_eq_false λh1=>h ?_;have:=Ez t l h1;omega
theorem MU (t:Ty):Ce false t=FD t:=by
 simp only [Ce,FD];rw [<- SL t 12];rfl
theorem eU (t:Ty):BG t=Fg t:=by
 simp only [BG,Fg];rw [<- SL t 12,Bool.and_assoc];rfl
theorem oG (c:Cd):K1 c=Oj c:=by
 simp only [K1,Oj];rw [show Ce false=FD from funext MU]
theorem lC (d:Dt):Fw d=IO d:=by
 simp only [Fw,IO,F4];rw [show K1=Oj from funext oG];simp only [Bool.and_assoc]
end Go.Hk
namespace Go.Hk
open Go.Proofs
def Kn:Ty->Bool
 | .mk s _ _ _=>!(s == 9)
def Tl (c:Cse) (p:Ty):Bool:=BG p&&Cs c.datas c.type p
def JC (c:Cse):Bool:=Hm c.datas&&decide (c.rows.length<=5)&&Ce true c.type&&AK c.datas c.type
def Bt (c:Cse):Bool:=JC c&&(Eu Kn c.type&&(c.rows.all (Tl c)&&decide (Ag c.rows<=30)))
def fD (c:Cse):Bool->V
 | true=>.tup [AE c (Ba (Dd c.datas)),.int .i64 0]
 | false=>.tup [.nilp,.int .i64 2]
theorem JV {ds:List Dt} (h:Hm ds=true):HQ ⟨[109],ds,[HT]⟩=true/\B1 (CJ ds)=true/\B1 (Cp ds)=true/\Cw ds ds=true:=by
 simp only [Hm,Bool.and_eq_true] at h;exact ⟨h.1.1,h.1.2.1,h.1.2.2,h.2⟩
theorem OkD.of2 {ds:List Dt} (h:Hm ds=true):OkD ds:=by
 obtain ⟨h1,_,_,h4⟩:=JV h;exact ⟨h4,λd hd=>by have:=((Fl h1).2 d hd).1;omega⟩
theorem DY (c:Cse):Ak Tryz.prog 40 [.agg (dCse c)] (fD c (Bt c)):=by
 have hread:=mW c;have hT:=λq=>Qq 85 q;have hCT:=Vt c.type;obtain ⟨ds,t,rows⟩:=c;simp only at hread hCT ⊢;have hTy:=Qq 85 Kn (λt=>by have:=Vx t;obtain ⟨s,n,x,ps⟩:=t;exact this) t;have hNm:=SI ⟨ds,t,rows⟩ [] t;have hW:=λh4 hl2 hN=>fJ ⟨ds,t,rows⟩ h4 hl2 hN;have hF:=λho hd hn p=>aG ⟨ds,t,rows⟩ [] ho hd p t hn;have hc2:Bt ⟨ds,t,rows⟩=(JC ⟨ds,t,rows⟩&&(Eu Kn t&&(rows.all (Tl ⟨ds,t,rows⟩)&&decide (Ag rows<=30)))):=rfl;have hc1:JC ⟨ds,t,rows⟩=(Hm ds&&decide (rows.length<=5)&&Ce true t&&AK ds t):=rfl;generalize Bt ⟨ds,t,rows⟩=cb at *;generalize JC ⟨ds,t,rows⟩=cb1 at *;generalize hnb:AK ds t=nb at *;generalize hfb:Ce true t=fb at *;generalize Eu Kn t=tb at *;obtain ⟨so,n0,x0,ps0⟩:=t
 refine Af AH Tryz.func40 (by decide +kernel) rfl [1,2,3,4,5,6,7,8] rfl rfl ?_;refine AZ rfl ?_;cases hr:Hm ds with
 | false =>
  rw [hr] at hread hc1;refine Ah rfl hread ?_;refine DO rfl ?_;refine AN rfl hCT ?_;refine bg [] rfl (by simp [An,Kt]) ?_;refine J7 (v:=.bool true) rfl (λh=>by simp [An] at h) rfl (by simp [An]) ?_;refine DO rfl ?_;refine Ai rfl λh=>?_;refine A8 rfl ?_;rw [hc2,hc1];exact Aa rfl rfl rfl
 | true =>
 rw [hr] at hread hc1;obtain ⟨hm,hdn,hdc,han⟩:=JV hr;obtain ⟨hl1,hl2⟩:=Fl hm;have ho:=OkD.of2 hr;have hread:Bg Tryz.prog 81 [.imm (.agg (dCse ⟨ds,.mk so n0 x0 ps0,rows⟩))] [] (.ret (.tup [.ref 6 0,.imm (.bool true)]) [(6,some (Qh ⟨ds,.mk so n0 x0 ps0,rows⟩))]):=hread;refine A9 (fr:=[2]) [] [(6,2)] rfl (by simp) hread trivial rfl rfl rfl rfl ?_;refine DO rfl ?_;refine AN rfl hCT ?_;refine bg [] rfl (by simp [An,Kt]) ?_;refine J7 rfl (λ_=>hNm) rfl (by simp [An]) ?_;refine DO rfl ?_;by_cases h1:cb1=true
 case neg =>
  refine Ab rfl (λh=>?_) (λh=>?_)
  ·refine A8 rfl ?_;rw [hc2,show cb1=false by simpa using h1];exact Aa rfl rfl rfl
  ·exfalso;apply h1;rw [hc1];simp [Kt] at h ⊢;cases fb <;> grind
 have hc1':decide (rows.length<=5)=true/\fb=true/\nb=true:=by rw [h1] at hc1;simp at hc1 ⊢;grind
 obtain ⟨hr5,rfl,rfl⟩:=hc1';have hr5:rows.length<=5:=of_decide_eq_true hr5;rw [h1,Bool.true_and] at hc2;refine Ab rfl (λh=>by exfalso;simp [Kt] at h;omega) (λh=>?_);clear h;refine A8 rfl ?_;refine Ah rfl hTy ?_;refine AZ rfl ?_;cases tb with
 | false =>
  refine Ai rfl λh=>?_;refine A8 rfl ?_;rw [hc2];exact Aa rfl rfl rfl
 | true =>
 refine Az rfl λh=>?_;clear h;rw [Bool.true_and] at hc2;have hF:=λp=>hF ho hdc rfl p;generalize hR:Tl ⟨ds,.mk so n0 x0 ps0,rows⟩=R at *;have hR:∀p,R p=(BG p&&Cs ds (.mk so n0 x0 ps0) p):=λp=>by rw [<- hR];rfl
 refine A8 rfl ?_;refine Am (λi:Nat=>[(42,.imm (.int .i64 i)),(41,.imm (.int .i64 rows.length)),(40,.imm (.sl (BQ rows))),(6,.imm (.int .i64 ((Ag (rows.take i):Nat):Int))),(1,.ref 1 0),(4,.ref 2 0)])
  (λ_=>[(1,some (.immb 29 6 (dCse ⟨ds,.mk so n0 x0 ps0,rows⟩))),(2,some (Qh ⟨ds,.mk so n0 x0 ps0,rows⟩))]) [3,4,5,6] (λi=>rows.length-i)
  (λi=>i<=rows.length/\rows.all R=(rows.drop i).all R/\Ag (rows.take i)<=12*i) 0 ⟨Nat.zero_le _,rfl,by simp [Ag]⟩ ⟨rfl,A3 (by simp),rfl,rfl,rfl,rfl,trivial⟩ ⟨rfl,rfl,trivial⟩ rfl λi hi ih=>?_
 obtain ⟨hi1,hi2,hi3⟩:=hi;refine A8 rfl ?_;refine Ab rfl (λh=>?_) (λh=>?_)
 ·simp at h;obtain ⟨p,hp⟩:=Ap h;rw [E2 hp,hR] at hi2;have hFp:=hF p;have en:Ag (rows.take (i+1))=Ag (rows.take i)+Aj p:=by rw [Bn hp,BA];simp [Ag]
  have hpn:BG p=true->Aj p<=12:=λh=>by simp only [BG,Bool.and_eq_true,decide_eq_true_eq] at h;exact h.1
  have hCP:=K8 p;have hND:=T8 p;refine A8 rfl ?_;refine bi rfl (c:=dTyc p) (λ_=>⟨by simp,by simpa using A5 hp,by simp⟩) (by simp) ?_;generalize BG p=b1 at *;generalize Cs ds (.mk so n0 x0 ps0) p=b2 at *;obtain ⟨q1,q2,q3,q4⟩:=p;refine AZ rfl ?_;refine Ah rfl hCP ?_;refine bg [] rfl (by simp [Kt]) ?_;refine J7 rfl (λ_=>hFp) rfl (by simp [An]) ?_;refine DO rfl ?_;by_cases hb:(b1&&b2)=true
  case neg =>
   refine Ab rfl (λh=>?_) (λh=>?_)
   ·refine A8 rfl ?_;rw [hc2,hi2,show (b1&&b2)=false by simpa using hb];exact Aa rfl rfl rfl
   ·exfalso;apply hb;simp [Kt] at h ⊢;cases b1 <;> simp_all
  rw [hb,Bool.true_and] at hi2;have hb1:b1=true:=by cases b1;simp at hb;rfl
  have hb2:b2=true:=by cases b2;simp at hb;rfl
  have hp12:=hpn hb1;refine Ab rfl (λh=>by exfalso;simp [Kt,hb1,hb2] at h) (λh=>?_);clear h;refine A8 rfl ?_;refine Ad rfl (λ_=>hND (by omega)) (by simp) ?_;refine AZ rfl ?_;exact Ae (ih (i+1) (by omega) ⟨by omega,hi2,by omega⟩) ⟨A3 (BI (by omega) (by omega)),rfl,rfl,A3 (by rw [en,BI (by omega) (by omega)];omega),rfl,rfl,trivial⟩ ⟨rfl,rfl,trivial⟩ rfl
 ·simp at h;refine Ay rfl ?_;refine A8 rfl ?_;rw [List.take_of_length_le h];rw [hi2,List.drop_eq_nil_of_le h,List.all_nil,Bool.true_and] at hc2;by_cases h30:Ag rows<=30
  case neg =>
   refine Ab rfl (λh=>?_) (λh=>by exfalso;simp at h;omega);refine A8 rfl ?_;rw [hc2,show decide (Ag rows<=30)=false by simpa using h30];exact Aa rfl rfl rfl
  rw [hc2,show decide (Ag rows<=30)=true by simpa using h30];refine Ab rfl (λh=>by exfalso;simp at h;omega) (λh=>?_);clear h;refine A8 rfl ?_;refine A9 (fr:=[3]) [(2,1)] [(2,3)] rfl (by simp) (hW hl1 hl2 han) ⟨⟨rfl,rfl,rfl⟩,trivial⟩ rfl rfl rfl rfl ?_;refine AZ rfl ?_;refine Cu 3 rfl ?_;refine Kv 2 (id:=2) (off:=0) (ty:=150) (sz:=9) (xs:=fE ⟨ds,.mk so n0 x0 ps0,rows⟩ (Ba (Dd ds))) rfl rfl ?_;exact Aa rfl rfl rfl
end Go.Hk
namespace Go.Hk
def K9 (P:Program) (n:Nat) (c:Code) (env:Env) (st:St) (ids:List Nat) (env':Env) (st':St) (ids':List Nat):Prop :=
 ∀(b:Frame) (cs:List Frame) (Q:Exit->Act->World->Prop) (I:Imm) (μ:Mu) (a:Act) (w:World) (tail:List Item),Conc n I μ env st ids a w ->
  (∀I' μ' a' w',Conc n I' μ' env' st' ids' a' w'->μ.le μ'->Ext I μ st w I' μ' st' w'->Reach P b cs Q tail a' w')->Reach P b cs Q (.code c::tail) a w
def Ou (P:Program) (n:Nat) (all rest:List Oper) (env:Env) (st:St) (ids:List Nat) (env':Env) (st':St) (ids':List Nat):Prop :=
 ∀(b:Frame) (cs:List Frame) (Q:Exit->Act->World->Prop) (I:Imm) (μ:Mu) (a:Act) (w:World) (tail:List Item) (j:Nat),rest=all.drop j->Conc n I μ env st ids a w ->
  (∀I' μ' a' w',Conc n I' μ' env' st' ids' a' w'->μ.le μ'->Ext I μ st w I' μ' st' w'->Reach P b cs Q tail a' w')->Reach P b cs Q (.inRegion all.toArray (List.range' j rest.length)::tail) a w
section
variable {P:Program} {n:Nat} {tt:TT} {env env' env2 E:Env} {st st' st2 stx:St} {ids ids' ids2:List Nat} {c c':Code} {all rest:List Oper} {o:Oper} {ob:List Prop} {I:Imm} {μ:Mu} {w:World} {d:D}
theorem aV (h:K9 P n c env st ids env' st' ids') (h':K9 P n c' env' st' ids' env2 st2 ids2):K9 P n (.seq c c') env st ids env2 st2 ids2:=λb cs Q I μ a w tail hc k =>
 Tq (h b cs Q I μ a w _ hc λI' μ' a' w' hc' hm he=>h' b cs Q I' μ' a' w' _ hc' λI2 μ2 a2 w2 hc2 hm2 he2=>k I2 μ2 a2 w2 hc2 (λi v hv=>hm2 i v (hm i v hv)) (he.trans he2))
theorem Mu.le_trans' {a b c:Mu} (h:a.le b) (k:b.le c):a.le c:=λi v hv=>k i v (h i v hv)
theorem Zq {rid:Nat} (h:Ou P n all all env st ids env' st' ids'):K9 P n (.region rid ⟨all⟩ false) env st ids env' st' ids':=λb cs Q I μ a w tail hc k=>by
 refine M1 ?_;have:=h b cs Q I μ a w tail 0 rfl hc k;simpa [List.range_eq_range'] using this
theorem mZ:Ou P n all [] env st ids env st ids:=λb cs Q I μ a w tail j hj hc k=>G4 (k I μ a w hc (Mu.le_refl μ) (Ext.refl _ _ _ _))
theorem qE {rd fr:List Nat} {wr:St} (hl:LD P (λ_=>False) all o env st rd fr wr d) (hg:o.guard=none) (hnd:∀c,o.op ≠ .defer c) (hn:∀t,o.dst=some t->t<n)
  (h:Ou P n all rest (BE o.dst d env) (wr++st) ids' env' st' ids2):Ou P n all (o::rest) env st (fr++ids') env' st' ids2:=by
 intro b cs Q I μ a w tail j hr hc k;obtain ⟨hj,hr'⟩:=Ed hr;have hon:K7 (o.looksAt all.toArray) I μ env a:=λt _ d hl=>hc.env t d hl;have hlen:(o::rest).length=rest.length+1:=rfl;rw [hlen,List.range'_succ];have hw:Region.wanted o (yielded all.toArray a.tmps)=true:=AF hg;obtain ⟨h1,_⟩:=hl I μ st ids' a w (λ_ _=>rfl) hc.toStRep hon;refine Gn hj hw hnd (valX.upon ((h1 hw).mono ?_ ?_))
 ·rintro v w2 ⟨I',μ',q1,q2,q4,q3⟩;obtain ⟨p1,p2,p3⟩:=HJ (n:=n) (w:=w2) (dst:=o.dst) (λt d hl=>(hc.env t d hl).mono q3.imm q4) hc.size hn q2;exact h b cs Q I' μ' (a.put o.dst v) w2 tail (j+1) hr'
   {q1 with size:=p2,env:=by cases hdst:o.dst <;> simpa [BE,hdst] using p1,defers:=by rw [p3];exact hc.defers.ext q3 }
   λI2 μ2 a2 w3 hc2 hm2 he2=>k I2 μ2 a2 w3 hc2 (Mu.le_trans' q4 hm2) (q3.trans he2)
 ·rintro chain w2 ⟨v,x,I2,q1,q2,q3,q4,q5⟩;exact q2.elim
theorem pM (htt:TTok P tt) {i:Nat} {x:Option Blk} {st1:St} {env1:Env} {ids1:List Nat} (h:Fe tt n all o env st ids = .e env1 ((i,x)::st1) ids1 ob) (hob:AA ob) (hg:o.guard=none) (hr:Ou P n all rest env1 ((i,x)::st) ids1 env' st' ids2) :
  Ou P n all (o::rest) env st ids env' st' ids2:=by
 obtain ⟨d,fr,e1,e2,e3,e4,e5,_,e7⟩:=TN (P:=P) (Pn:=λ_=>False) htt h hob;subst e2;rw [e3] at hr;exact qE (wr:=[(i,x)]) e7 hg e5 e4 hr
theorem Qe (htt:TTok P tt) {rid:Nat} {o1 o2:Oper} {i:Nat} {x y:Option Blk} {st1 st2':St} {env1 env2:Env} {ids1 ids2:List Nat} {ob1 ob2:List Prop} (h1:Fe tt n [o1,o2] o1 env st ids = .e env1 ((i,x)::st1) ids1 ob1) (g1:o1.guard=none)
  (h2:Fe tt n [o1,o2] o2 env1 ((i,x)::st) ids1 = .e env2 ((i,y)::st2') ids2 ob2) (g2:o2.guard=none) (hob1:AA ob1) (hob2:AA ob2):K9 P n (.region rid ⟨[o1,o2]⟩ false) env st ids env2 ((i,y)::(i,x)::st) ids2 :=
 Zq (pM htt h1 hob1 g1 (pM htt h2 hob2 g2 mZ))
theorem RD {L:Lz} {p q:Nat} {fc:Func} {d d2:D} {stB:St} {pend:Option Code} (hf:P.funcs[L.fn]?=some fc) (hps:L.ps = #[p,q]) (hsz:L.tmps.size=n)
  (hd:I5 d=[]) (hd2:I5 d2=[]) (hp:p<n) (hq:q<n) (hfree:R4 ids L.E stx L.F) (hasg:K9 P n L.asg ((q,d2)::(p,d)::L.E) stx ids env st ids')
  (h:DGo P n (gZ::(L.F++Vv L.E)) (sP pend stB) [.code L.body] env st ids'):PG P [d,d2] (CV L stx none) pend.isNone (CV L stB pend):=by
 intro I μ w b xs hμ hst hx;have hl0:At (Vu 1 (CV L stx none)) 0 .pin:=A7.2 (.inl ⟨rfl,rfl⟩);have hl1:At (Vu 1 (CV L stx none)) 1 (.bun 0 (CV L stx none)):=A7.2 (.inr ⟨by simp,A7.2 (.inl ⟨rfl,rfl⟩)⟩);obtain ⟨g1,hg1,b',bs,hb1,rfl,hP⟩:=hst.blk 1 _ hl1;rw [hμ] at hb1;cases hb1;have hbs:∀k∈bs,I k=none/\k<w.heap.size:=λk hk=>hst.apart 1 _ _ k hl1 hg1 (Dw.2 hk);have hP0:=hP;obtain ⟨r,ν,bs0,e1,hr1,⟨hr2,hr3⟩,⟨hr4,hr5,hr6,hr7,hr8⟩,hE1,hS,hown,hnb,hF⟩:=X5 hP hfree hst.imm hbs;subst e1;obtain ⟨x,x2,rfl⟩:∃x x2,xs = #[x,x2]:=by
  obtain ⟨l⟩:=xs;have:=hx.1
  match l,this with
  | [x,x2],_=>exact ⟨x,x2,rfl⟩
 have hxd1:RepD I ν x d:=(hx.2 0 x d rfl rfl).sub λj hj=>by rw [hd] at hj;cases hj
 have hxd2:RepD I ν x2 d2:=(hx.2 1 x2 d2 rfl rfl).sub λj hj=>by rw [hd2] at hj;cases hj
 have hszp:(#[x,x2]:Array Value).size=r.params.size:=by rw [hr5,hps];rfl
 unfold sN;rw [run_yield hr1 hszp];refine NF (fc:=fc) (by rw [hr4];exact hf) λfb cs hbf hbr=>?_;rw [hr5,hps,hr6,hr7,hr8];have hfold:((#[p,q]:Array Nat).zip #[x,x2]).foldl (λtmps (t,a)=>tmps.setIfInBounds t a) L.tmps=(L.tmps.setIfInBounds p x).setIfInBounds q x2:=by simp
 rw [hfold];obtain ⟨hIb,hblt⟩:=hbs b (by simp);have hnob0:¬Bq ν stx b:=λh=>hnb ((hown b).2 h);have hput:∀(w:World) (o:Obj),(w.putObj b o).heap=w.heap.setIfInBounds b o:=λw o=>by
  unfold World.putObj;by_cases hi:b<w.heap.size <;> simp [hi]
 have hoth:∀(w:World) (o:Obj) k,k≠b->(w.putObj b o).heap[k]?=w.heap[k]?:=λw o k hk=>by rw [hput,Array.getElem?_setIfInBounds_ne (Ne.symm hk)]
 obtain ⟨c1,c2,c3⟩:=HJ (n:=n) (w:=w) (a:={ tmps:=L.tmps,defers:=[] }) (dst:=some p) hE1 hsz (λt ht=>by cases ht;exact hp) hxd1;obtain ⟨f1,f2,f3⟩:=HJ (n:=n) (w:=w) (dst:=some q) c1 c2 (λt ht=>by cases ht;exact hq) hxd2;have hc0:Conc n I ν ((q,d2)::(p,d)::L.E) stx ids ((Act.put { tmps:=L.tmps,defers:=[] } (some p) x).put (some q) x2) w:={ hS with size:=f2,env:=f1,defers:=by rw [f3,c3];exact MarksOk.nil _ _ _ _ }
 refine hasg fb cs _ I ν _ w _ hc0 λIA νA aA wA hcA hmA heA=>?_;have hnob:¬Bq νA st b:=λh=>hnob0 (heA.fresh b hblt h);have hrA1:wA.heap[b]?=some (.loop r):=by rw [heA.block b hblt hnob0];exact hr1
 have hIbA:IA b=none:=by rw [heA.old b hblt hnob0];exact hIb
 have hbltA:b<wA.heap.size:=(Array.getElem?_eq_some_iff.1 hrA1).1;obtain ⟨w1,hw1⟩:∃w1:World,w1=wA.putObj b (.loop { r with state:=.busy }):=⟨_,rfl⟩
 have hbeg:=run_beginRound (P:=P) hrA1 hr2;refine Reach.step (stepR_beginRound hbr hbeg) ?_;rw [<- hw1];have hmarks:MarksOk IA νA st w1 aA.defers:=by
  obtain ⟨rs,m1,m2,m3⟩:=hcA.defers;refine ⟨rs,m1,m2,λk hk=>⟨?_,(m3 k hk).2⟩⟩;have h0:=(m3 k hk).1;rw [hw1,hoth _ _ k (λe=>by rw [e,hrA1] at h0;cases h0)];exact h0
 have hc:Conc n IA νA env st ids' aA w1 :=
  {hcA.toStRep.other (by rw [hw1,hput];simp) (λk o hk=>by rw [hw1];exact hoth _ _ k (λe=>by rw [e,hIbA] at hk;cases hk)) (λk hk=>by rw [hw1];exact hoth _ _ k (λe=>hnob (e ▸ hk))) with
   size:=hcA.size
   env:=hcA.env
   defers:=hmarks }
 have hgo:=h ⟨fb,.inl (by simp)⟩ cs IA νA _ w1 [.code L.body] ⟨rfl,trivial⟩ hc;refine Reach.mono (λe a' w' hpost=>?_) hgo;obtain ⟨x',env',st',ids2,I',μ',p1,p2,p3,p4,p5,p6⟩:=hpost;have hb1:w1.heap[b]?=some (.loop { r with state:=.busy }):=by rw [hw1,hput];simp [hbltA]
 have hsz1:w1.heap.size=wA.heap.size:=by rw [hw1,hput];simp
 have hszA:w.heap.size<=wA.heap.size:=heA.size;have hno2:∀k,k<w.heap.size->¬Bq ν stx k->¬Bq νA st k:=λk hk ho hq=>ho (heA.fresh k hk hq);have hfr2:∀k,k<w.heap.size->Bq μ' st' k->Bq ν stx k:=λk hk ho=>heA.fresh k hk (p5.fresh k (by omega) ho);have hold2:∀k,k<w.heap.size->¬Bq ν stx k->I' k=I k:=λk hk ho=>(p5.old k (by omega) (hno2 k hk ho)).trans (heA.old k hk ho);have himm2:I.le I':=Imm.le_trans heA.imm p5.imm;have hb':w'.heap[b]?=some (.loop { r with state:=.busy }):=by rw [p5.block b (by omega) hnob];exact hb1
 have hno':¬Bq μ' st' b:=λho=>hnob (p5.fresh b (by omega) ho);have hI':I' b=none:=by rw [p5.old b (by omega) hnob];exact hIbA
 have hblt':b<w'.heap.size:=(Array.getElem?_eq_some_iff.1 hb').1;have fin:He st' stB->∃v w'',(Instr.endRound b pend).run P w' = .ok v w''/\(∃I2 μ2,RepD I2 μ2 v (.imm (.bool pend.isNone))/\StRep I2 μ2 (Vu 2 (CV L stB pend)) [] w'' /\
   Pin (D8 (Vu 1 (CV L stx none))) μ μ2/\Ext I μ (Vu 1 (CV L stx none)) w I2 μ2 (Vu 2 (CV L stB pend)) w''):=by
  intro hsub;have hSB:StRep I' μ' stB [] w':=p3.toStRep.less (EB hsub) .nil (λ_ h=>by simp at h);have hownB':∀k,Bq μ' stB k->Bq μ' st' k:=λk ⟨i,bi,g,q1,q2⟩=>⟨i,bi,g,EB hsub i bi q1,q2⟩
  have hnoB:¬Bq μ' stB b:=λh=>hno' (hownB' b h);obtain ⟨w2,hw2⟩:∃w2:World,w2=w'.putObj b (.loop { r with state:=if pend.isNone then .ready else .done,pending:=pend }):=⟨_,rfl⟩
  have hend:(Instr.endRound b pend).run P w' = .ok (.bool pend.isNone) w2:=by
   have:=run_endRound (P:=P) pend hb';rw [hw2];exact this
  have hw2s:w2.heap.size=w'.heap.size:=by rw [hw2,hput];simp
  have hw2o:∀k,k≠b->w2.heap[k]?=w'.heap[k]?:=λk hk=>by rw [hw2];exact hoth _ _ k hk
  have hSB2:StRep I' μ' stB [] w2:=hSB.other (by omega) (λk o hk=>hw2o k (λe=>by rw [e,hI'] at hk;cases hk)) (λk hk=>hw2o k (λe=>hnoB (e ▸ hk)));obtain ⟨bsN,hbsN⟩:=QJ μ' stB;have hPN:(CV L stB pend).P I' w2 b (b::bsN):=by
   refine ⟨{ r with state:=if pend.isNone then .ready else .done,pending:=pend },μ',bsN,rfl,by rw [hw2,hput];simp [hblt'],⟨by cases pend <;> rfl,rfl⟩,⟨hr4,hr5,hr6,hr7,hr8⟩,λt d hl=>?_,hSB2.blk,hSB2.inj,hbsN,λhm=>hnoB ((hbsN b).1 hm),λi hi=>?_⟩
   ·exact ((hE1 t d hl).mono himm2 (Mu.le_refl ν)).sub λj hj g hg=>p4 j (by simp [Yx hl j hj]) g (hmA j g hg)
   ·exact λg hg0=>p4 i (by simp [hi]) g (hmA i g (hF i hi g hg0))
  obtain ⟨μ2,hμ2⟩:∃μ2:Mu,μ2=λi=>if i=2 then some (.agg (UK (b::bsN))) else μ i:=⟨_,rfl⟩
  have hm0:μ2 0=some (.func (.yield b) #[] #[]):=by rw [hμ2];simpa using hμ
  have hm2:μ2 2=some (.agg (UK (b::bsN))):=by rw [hμ2];simp
  have hold:∀k,k∈b::bsN->k<w.heap.size->k∈b::bs0:=λk hk hlt=>by
   rcases List.mem_cons.1 hk with rfl | hk
   ·simp
   ·exact List.mem_cons_of_mem _ ((hown k).2 (hfr2 k hlt (hownB' k ((hbsN k).1 hk))))
  have hnew:∀k∈b::bsN,I' k=none/\k<w2.heap.size:=λk hk=>by
   rcases List.mem_cons.1 hk with rfl | hk
   ·exact ⟨hI',by omega⟩
   ·obtain ⟨i,bi,g,q1,q2,q3⟩:=(hbsN k).1 hk;exact hSB2.apart i bi g k q1 q2 q3
  have hownO:∀k,Bq μ (Vu 1 (CV L stx none)) k↔k∈b::bs0:=λk=>by
   constructor
   ·rintro ⟨i,bi,g,q1,q2,q3⟩;rcases JH (by simp) q1 with ⟨rfl,rfl⟩ | ⟨rfl,rfl⟩
    ·rw [hμ] at q2;cases q2;exact q3.elim
    ·rw [hg1] at q2;cases q2;exact Dw.1 q3
   ·intro hk;exact ⟨1,_,_,hl1,hg1,Dw.2 hk⟩
  have hownN:∀k,Bq μ2 (Vu 2 (CV L stB pend)) k->k∈b::bsN:=λk=>by
   rintro ⟨i,bi,g,q1,q2,q3⟩;rcases JH (by simp) q1 with ⟨rfl,rfl⟩ | ⟨rfl,rfl⟩
   ·rw [hm0] at q2;cases q2;exact q3.elim
   ·rw [hm2] at q2;cases q2;exact Dw.1 q3
  refine ⟨_,w2,hend,I',μ2,.imm _ _ (.bool _),?_,?_,?_⟩
  ·refine { imm:=hSB2.imm,blk:=λi bi hl=>?_,apart:=λi bi g k hl hgi hk=>hnew k (hownN k ⟨i,bi,g,hl,hgi,hk⟩),inj:=λi j bi bj gi gj k hi hj hgi hgj hki hkj=>?_,nodup:=.nil,idsFree:=λ_ h=>by simp at h }
   ·rcases JH (by simp) hl with ⟨rfl,rfl⟩ | ⟨rfl,rfl⟩
    ·exact ⟨_,hm0,b,rfl⟩
    ·exact ⟨_,hm2,b,_,hm0,rfl,hPN⟩
   ·rcases JH (by simp) hi with ⟨rfl,rfl⟩ | ⟨rfl,rfl⟩ <;> rcases JH (by simp) hj with ⟨rfl,rfl⟩ | ⟨rfl,rfl⟩
    ·rfl
    ·rw [hm0] at hgi;cases hgi;exact hki.elim
    ·rw [hm0] at hgj;cases hgj;exact hkj.elim
    ·rfl
  ·intro i hi g hg;simp only [Vu,D8,List.map_cons,List.map_nil,List.mem_cons,List.not_mem_nil,or_false] at hi;have:i≠2:=by omega
   rw [hμ2];simp only [if_neg this];exact hg
  ·refine { imm:=himm2,os:=?_,tape:=?_,output:=?_,size:=?_,block:=λk hk hno=>?_,fresh:=λk hk ho=>(hownO k).2 (hold k (hownN k ho) hk),old:=λk hk hno=>hold2 k hk (λh=>hno ((hownO k).2 (List.mem_cons_of_mem _ ((hown k).2 h)))) }
   ·have:=p5.os;rw [hw1] at this;rw [hw2,<- heA.os];unfold World.putObj at this ⊢;exact this
   ·have:=p5.tape;rw [hw1] at this;rw [hw2,<- heA.tape];unfold World.putObj at this ⊢;exact this
   ·have:=p5.output;rw [hw1] at this;rw [hw2,<- heA.output];unfold World.putObj at this ⊢;exact this
   ·have:=p5.size;omega
   ·have hkb:k≠b:=λe=>hno ((hownO k).2 (by simp [e]));have hno3:¬Bq ν stx k:=λh=>hno ((hownO k).2 (List.mem_cons_of_mem _ ((hown k).2 h)));rw [hw2o k hkb,p5.block k (by omega) (hno2 k hk hno3),hw1,hoth _ _ k hkb,heA.block k hk hno3]
 cases e with
 | normal =>
  cases x' <;> simp only [Oo] at p1;cases pend with
  | none=>exact fin p2
  | some c=>exact p2.elim
 | ret =>
  cases x' <;> simp only [Oo] at p1;cases pend with
  | none=>exact p2.elim
  | some c=>cases c <;> first | exact p2.elim | exact fin p2
 | exit j =>
  cases x' <;> simp only [Oo] at p1;cases pend with
  | none=>exact p2.elim
  | some c =>
   cases c <;> first | exact p2.elim | skip
   obtain ⟨q1,q2⟩:=p2;subst q1;subst p1;exact fin q2
 | goto l =>
  cases x' <;> simp only [Oo] at p1;cases pend <;> exact p2.elim
 | panic chain =>
  cases x' <;> simp only [Oo] at p1;cases pend <;> exact p2.elim
 | outgrown=>cases x' <;> simp only [Oo] at p1
theorem FU {id:Nat}:∀{ds:List DI} {is:List Item},FA id ds=none->Uz ds is->exitTo id is=none
 | [],is,_,hd=>by
  cases is with
  | nil=>rfl
  | cons=>exact hd.elim
 | d::ds,is,h,hd=>by
  obtain ⟨i,is,rfl,h1,h2⟩:=Gy hd;cases d with
  | inBlock id1 =>
   cases i with
   | inBlock id2 =>
    have h1:id2=id1:=h1;subst h1;simp only [FA] at h
    split at h
    ·cases h
    ·rename_i hb;have hne:id2≠id:=λe=>by subst e;simp at hb
     simp [exitTo,hne,FU h h2]
   | _=>exact h1.elim
  | code c =>
   simp only [FA] at h;cases i <;> simp only [Kx] at h1;simp [exitTo,FU h h2]
  | inLoop c =>
   simp only [FA] at h;cases i <;> simp only [Kx] at h1;simp [exitTo,FU h h2]
  | inScope c =>
   simp only [FA] at h;cases i <;> simp only [Kx] at h1;simp [exitTo,FU h h2]
  | ops all rest =>
   simp only [FA] at h;cases i <;> simp only [Kx] at h1;simp [exitTo,FU h h2]
  | dops all rest fs=>cases i <;> simp only [Kx] at h1
theorem Xl {F:List Nat} {Q:DQ} {id:Nat} {k:List DI} (he:FA id k=none) (h:Q (.exit id) env st ids):DGo P n F Q (.code (.exit id)::k) env st ids:=by
 intro b cs I μ a w items hd hc;obtain ⟨is,rfl,hk⟩:=Hz hd;exact Sv (FU he hk) ⟨.exit id,env,st,ids,I,μ,rfl,h,hc,.refl _ _,.refl _ _ _ _,.refl _ _⟩
end
end Go.Hk
namespace Go.Hk
open Go.Proofs
def MV (v:Ty):Bool:=decide (0<=B8 v 20000 100)&&Mf v
def Ey (c:Cse) (v:Ty):Bool:=Bt c&&MV v&&IT c.datas c.type v
theorem CP {c:Cse} (h:Bt c=true):OkD c.datas/\B1 (Cp c.datas)=true/\AK c.datas c.type=true/\c.rows.length<=5/\∀p∈c.rows,BG p=true/\Cs c.datas c.type p=true:=by
 simp only [Bt,JC,Bool.and_eq_true,List.all_eq_true,Tl,decide_eq_true_eq] at h;obtain ⟨⟨⟨⟨h1,h2⟩,h3⟩,h4⟩,h5,h6,h7⟩:=h;exact ⟨OkD.of2 h1,(JV h1).2.2.1,h4,h2,h6⟩
theorem XC (c:Cse) (v:Ty):Ak Tryz.prog 56 [.agg (dCse c),.agg (dTyc v)] (fD c (Ey c v)):=by
 have hW:=DY c;have hF:=R7 v;have hI:=λh=>jT c (Ba (Dd c.datas)) (CP (c:=c) h).1 (CP h).2.1 v c.type (CP h).2.2.1;obtain ⟨ds,⟨c1,c2,c3,c4⟩,rows⟩:=c;obtain ⟨g,m,z,vs⟩:=v;have hF:Ak Tryz.prog 61 [.agg (dTyc (.mk g m z vs))] (.bool (MV (.mk g m z vs))):=hF;simp only [Ey] at hI ⊢;generalize hb:Bt ⟨ds,.mk c1 c2 c3 c4,rows⟩=b at *;generalize MV (.mk g m z vs)=b2 at *;generalize IT ds (.mk c1 c2 c3 c4) (.mk g m z vs)=b3 at *;refine Af AH Tryz.func56 (by decide +kernel) rfl [3,4,5] rfl rfl ?_;refine AZ rfl ?_;cases b with
 | false =>
  refine Ah rfl hW ?_;refine AZ rfl ?_;refine AN rfl hF ?_;refine DO rfl ?_;refine Ad (v:=.bool true) rfl (λh=>by simp [An] at h) (by simp [An]) ?_;refine DO rfl ?_;refine Ai rfl λh=>?_;refine A8 rfl ?_;exact Aa rfl rfl rfl
 | true =>
  refine Ah rfl hW ?_;refine AZ rfl ?_;refine AN rfl hF ?_;refine DO rfl ?_;refine Ad rfl (λ_=>hI rfl) (by simp [An]) ?_;refine DO rfl ?_;by_cases hh:(b2&&b3)=true
  case neg =>
   refine Ab rfl (λh=>?_) (λh=>by exfalso;apply hh;simp at h ⊢;grind);refine A8 rfl ?_;rw [show (true&&b2&&b3)=false by simpa using hh];exact Aa rfl rfl rfl
  refine Ab rfl (λh=>by exfalso;simp at h hh;grind) (λh=>?_);refine A8 rfl ?_;rw [show (true&&b2&&b3)=true by simpa using hh];exact Aa rfl rfl rfl
def ttN:TT:=mG++[]
theorem pW:TTok Tryz.prog ttN:=.of_eq (l:=[4,3,9,165,26,69,162,27,5,24,23,172,163,67,167,171,75,22,169,72,70,37,267,213,1,216,280,248,241,243,245,99,264,249]) (by kernel_rfl)
section
variable {n:Nat} {F:List Nat} {Q:DQ} {env env':Env} {st st':St} {ids ids':List Nat} {k todo:List DI} {ob:List Prop}
theorem ni {es:List (List V)} {m:Int} {sz:Nat} {e:TypeId} {g:Option (Bool×Bool)} {ob:List Prop} {t:Nat} {todo':List DI} {c:List V} (h:P7 ttN n env todo=some ⟨es,m,sz,e,g,ob,some t,todo'⟩)
  (hc:An g->0<=m/\es[m.toNat]?=some c/\c.length=sz) (hob:AA ob) (hk:G Tryz.prog n F Q todo' ((t,gD g (.ip e c 0))::env) st ids):G Tryz.prog n F Q todo env st ids:=Gg pW h hc hob hk
end
def oU:Ty->Str
 | .mk _ _ x _=>x
def iD:Code->Option (Code×Code)
 | .rangeFunc _ _ a b=>some (a,b)
 | .seq x y=>match iD x with
  | some r=>some r
  | none=>iD y
 | .block _ c=>iD c
 | _=>none
def oY (f:Func):Code:=match iD (EN f 0) with
 | some (a,_)=>a
 | none=>.skip
def hZ (f:Func):Code:=match iD (EN f 0) with
 | some (_,b)=>b
 | none=>.skip
end Go.Hk
namespace Go.Hk
open Go.Proofs
theorem KK:Z0 Tryz.prog 122=true:=by kernel_rfl
mutual
def DF:Ty->Ty->List (Ty×Ty)
 | .mk f n x ps,v=>(.mk f n x ps,v)::(bif decide (f=6)&&AD (AQ (.mk f n x ps)) v then Ex ps (Br v) else [])
def Ex:List Ty->List Ty->List (Ty×Ty)
 | [],_=>[]
 | _::_,[]=>[]
 | p::r,q::s=>DF p q++Ex r s
end
inductive Yields2 (P:Program):List (Ty×Ty)->Bun->Bool->Bun->Prop where
 | nil (S:Bun):Yields2 P [] S true S
 | cons {d:Ty×Ty} {l:List (Ty×Ty)} {S S1 S2:Bun} {r:Bool} (h:PG P [.imm (.agg (dTyc d.1)),.imm (.agg (dTyc d.2))] S true S1) (h1:Yields2 P l S1 r S2):Yields2 P (d::l) S r S2
 | stop {d:Ty×Ty} {l:List (Ty×Ty)} {S S1:Bun} (h:PG P [.imm (.agg (dTyc d.1)),.imm (.agg (dTyc d.2))] S false S1):Yields2 P (d::l) S false S1
theorem Yields2.split {P:Program} {l m:List (Ty×Ty)} {S S2:Bun} {r:Bool} (h:Yields2 P (l++m) S r S2):(∃S1,Yields2 P l S true S1/\Yields2 P m S1 r S2)\/(r=false/\Yields2 P l S false S2):=by
 induction l generalizing S with
 | nil=>exact .inl ⟨S,.nil S,h⟩
 | cons d l ih =>
  cases h with
  | cons h h1 =>
   rcases ih h1 with ⟨S1,q1,q2⟩ | ⟨q1,q2⟩
   ·exact .inl ⟨S1,.cons h q1,q2⟩
   ·exact .inr ⟨q1,.cons h q2⟩
  | stop h=>exact .inr ⟨rfl,.stop h⟩
theorem Yields2.nilInv {P:Program} {S S2:Bun} {r:Bool} (h:Yields2 P [] S r S2):r=true/\S2=S:=by
 cases h;exact ⟨rfl,rfl⟩
def qR (r:St):St:=(1,some (.cells 232 1 [.yld 3]))::(2,some (.cells 232 1 [.fn (.func 153) [] [.ref 1 0,.ref 2 0]]))::r
def goC (p v:Ty) (b:Bool) (S S':Bun):Prop:=Bg Tryz.prog 153 [.imm (.agg (dTyc p)),.imm (.agg (dTyc v)),.ref 1 0,.ref 2 0]
 (qR [(3,some .pin),(4,some (.bun 3 S))]) (.ret (.imm (.bool b)) (qR [(3,some .pin),(5,some (.bun 3 S'))]))
theorem R0 (a b:Ty):AD a b=(match a,b with | .mk s n x _,.mk s' n' x' _=>(s == s')&&((n == n')&&(x == x'))):=by
 obtain ⟨s,n,x,ps⟩:=a;obtain ⟨s',n',x',ps'⟩:=b;simp [AD,Bool.and_assoc]
theorem kA:∀(p v:Ty) {b:Bool} {S S':Bun},M7 p v=true->Yields2 Tryz.prog (DF p v) S b S'->goC p v b S S'
 | .mk f n x ps,.mk g m z vs,b,S,S',hok,hY=>by
  have hW:=Mn (.mk f n x ps);have hO:=QP (.mk g m z vs);simp only [DF,Br] at hY;simp only [M7,Br] at hok;have hE:=R0 (AQ (.mk f n x ps)) (.mk g m z vs);generalize AD (AQ (.mk f n x ps)) (.mk g m z vs)=he at *;generalize AQ (.mk f n x ps)=hd at *;obtain ⟨hs,hn,hx,hps⟩:=hd;simp only at hE;refine Af AH Tryz.func153 (by decide +kernel) rfl [8,9,6,10,7,5] rfl rfl ?_;refine DO rfl ?_;cases hY with
  | stop h =>
   refine aC (j:=4) (j2:=6) rfl (by simp [An]) trivial h rfl rfl rfl rfl rfl ?_;refine DO rfl ?_;refine Ai rfl λh=>?_;refine A8 rfl ?_;refine IN (ids':=[]) 6 5 rfl rfl ?_;exact Au ⟨_,rfl,tV rfl,rfl,rfl,rfl,rfl,trivial⟩
  | @cons _ _ _ S1 _ _ h hY =>
   refine aC (j:=4) (j2:=6) rfl (by simp [An]) trivial h rfl rfl rfl rfl rfl ?_;refine DO rfl ?_;refine Az rfl λh=>?_;refine A8 rfl ?_;refine AN rfl hW ?_;refine DO rfl ?_;refine AN rfl hO ?_;refine DO rfl ?_;refine TX AH rfl KK (by simp [An]) ?_;refine bg [] rfl (by simp [An];rfl) ?_;by_cases hg:f=6/\he=true
   case neg =>
    rw [show (bif decide (f=6)&&he then Ex ps vs else [])=[] by
     have:(decide (f=6)&&he)=false:=by simp;grind
     rw [this];rfl] at hY
    obtain ⟨rfl,rfl⟩:=hY.nilInv;refine Ab rfl (λh=>?_) (λh=>by exfalso;apply hg;rw [hE];simp at h ⊢;grind);refine A8 rfl ?_;refine IN (ids':=[]) 6 5 rfl rfl ?_;exact Au ⟨_,rfl,tV rfl,rfl,rfl,rfl,rfl,trivial⟩
   obtain ⟨rfl,rfl⟩:=hg;have hE1:(hs == g&&(hn == m&&hx == z))=true:=hE.symm;refine Ab rfl (λh=>by exfalso;simp at h hE1;grind) (λh=>?_);clear h;rw [show (bif decide ((6:Int)=6)&&true then Ex ps vs else [])=Ex ps vs from rfl] at hY;simp only [show decide ((6:Int)=1)=false from rfl,show decide ((6:Int)=2)=false from rfl,Bool.not_true,Bool.false_or,Bool.and_eq_true] at hok;obtain ⟨hlen,hok⟩:=hok;have hlen:ps.length<=vs.length:=of_decide_eq_true hlen;refine A8 rfl ?_;refine Xk (t:=25) rfl λhv=>?_;have hpl:ps.length<=9223372036854775807:=by simp [EM,maxLen] at hv;omega
   refine Am (λy:Nat×Bun=>[(27,.imm (.int .i64 y.1)),(26,.imm (.int .i64 ps.length)),(25,.imm (.sl (BQ ps))),(3,.ref 2 0),(5,.ref 9 0)])
    (λy=>qR [(3,some .pin),(6,some (.bun 3 y.2)),(9,some (.immb 46 4 (dTyc (.mk g m z vs))))]) [10,7,5] (λy=>ps.length-y.1)
    (λy=>y.1<=ps.length/\M6 (ps.drop y.1) (vs.drop y.1)=true/\Yields2 Tryz.prog (Ex (ps.drop y.1) (vs.drop y.1)) y.2 b S') (0,S1) ⟨Nat.zero_le _,hok,hY⟩ ⟨rfl,A3 (by simp),rfl,rfl,rfl,trivial⟩ ⟨rfl,rfl,rfl,rfl,rfl,trivial⟩ rfl λy hi ih=>?_
   obtain ⟨i,S0⟩:=y;obtain ⟨hi1,hi2,hi3⟩:=hi;simp only at hi1 hi2 hi3;refine GA rfl ?_;refine Ab rfl (λh=>?_) (λh=>?_)
   ·simp at h;obtain ⟨t,ht⟩:=Ap h;obtain ⟨u,hu⟩:=Ap (l:=vs) (i:=i) (by omega);rw [Av ht,Av hu] at hi2 hi3;simp only [M6,Bool.and_eq_true] at hi2;simp only [Ex] at hi3;refine GA rfl ?_;refine bi rfl (c:=dTyc t) (λ_=>⟨by simp,by simpa using A5 ht,by simp⟩) (by simp) ?_;refine DO rfl ?_;refine bi rfl (c:=dTyc u) (λ_=>⟨by simp,by simpa using A5 hu,by simp⟩) (by simp) ?_;refine DO rfl ?_;rcases Yields2.split hi3 with ⟨S2,q1,q2⟩ | ⟨q1,q2⟩
    ·refine A9 (fr:=[7]) [(1,1),(2,2),(3,3),(6,4)] [(5,7)] rfl (by simp) (kA t u hi2.1 q1) ⟨⟨rfl,rfl,rfl⟩,⟨rfl,rfl,rfl⟩,⟨rfl,rfl,rfl⟩,⟨rfl,rfl,rfl⟩,trivial⟩ rfl rfl rfl rfl ?_;refine bg [] rfl (by simp [An];rfl) ?_;refine Az rfl λh=>?_;refine A8 rfl ?_;refine AG 6 7 rfl ?_;exact Ae (ih (i+1,S2) (by simp only;omega) ⟨by simp only;omega,hi2.2,q2⟩) ⟨A3 (BI (by simp only;omega) (by simp only;omega)),rfl,rfl,rfl,rfl,trivial⟩ ⟨rfl,rfl,rfl,rfl,rfl,trivial⟩ rfl
    ·subst q1;refine A9 (fr:=[7]) [(1,1),(2,2),(3,3),(6,4)] [(5,7)] rfl (by simp) (kA t u hi2.1 q2) ⟨⟨rfl,rfl,rfl⟩,⟨rfl,rfl,rfl⟩,⟨rfl,rfl,rfl⟩,⟨rfl,rfl,rfl⟩,trivial⟩ rfl rfl rfl rfl ?_;refine bg [] rfl (by simp [An];rfl) ?_;refine Ai rfl λh=>?_;refine A8 rfl ?_;refine IN (ids':=[]) 7 5 rfl rfl ?_;exact Au ⟨_,rfl,tV rfl,rfl,rfl,rfl,rfl,trivial⟩
   ·simp at h;rw [(List.drop_eq_nil_of_le (by omega):ps.drop i=[])] at hi3;obtain ⟨rfl,rfl⟩:=hi3.nilInv;refine Ay rfl ?_;refine A8 rfl ?_;refine IN (ids':=[]) 6 5 rfl rfl ?_;exact Au ⟨_,rfl,tV rfl,rfl,rfl,rfl,rfl,trivial⟩
termination_by p=>SizeOf.sizeOf p
decreasing_by
 all_goals
  have:=List.sizeOf_lt_of_mem (List.mem_of_getElem? ht);simp_wf;omega
def FC (p v:Ty):St:=[(6,some (.immb 69 4 (dTyc p))),(7,some (.immb 46 4 (dTyc v)))]
theorem NJ (p v:Ty) (hok:M7 p v=true) {b:Bool} {S S':Bun} (hY:Yields2 Tryz.prog (DF p v) S b S') :
  Bg Tryz.prog 152 [.yld 3,.ref 6 0,.ref 7 0] ((3,some .pin)::(4,some (.bun 3 S))::FC p v) (.ret (.tup []) ((3,some .pin)::(5,some (.bun 3 S'))::FC p v)):=by
 refine Af AH Tryz.func152 (by decide +kernel) rfl [1,2,8,5] rfl rfl ?_;obtain ⟨q1,q2,q3,q4⟩:=p;obtain ⟨u1,u2,u3,u4⟩:=v;refine DO rfl ?_;refine A9 (fr:=[8]) [(1,1),(2,2),(3,3),(4,4)] [(5,8)] rfl (by simp) (kA _ _ hok hY) ⟨⟨rfl,rfl,rfl⟩,⟨rfl,rfl,rfl⟩,⟨rfl,rfl,rfl⟩,⟨rfl,rfl,rfl⟩,trivial⟩ rfl rfl rfl rfl ?_;refine DO rfl ?_;refine IN (ids':=[]) 8 5 rfl rfl ?_;exact C8 ⟨[],rfl,rfl,rfl,rfl,rfl,rfl,trivial⟩
theorem QH (p v:Ty):Bg Tryz.prog 110 [.imm (.agg (dTyc p)),.imm (.agg (dTyc v))] [] (.ret (.fn (.func 152) [] [.ref 6 0,.ref 7 0]) (FC p v)):=by
 refine Af AH Tryz.func110 (by decide +kernel) rfl [6,7] rfl rfl ?_;obtain ⟨q1,q2,q3,q4⟩:=p;obtain ⟨u1,u2,u3,u4⟩:=v;refine DO rfl ?_;exact Au ⟨_,rfl,rfl,rfl,rfl,trivial⟩
def Pg:Ty->Int
 | .mk s _ _ _=>s
def Hh (l:List (Str×Ty)) (d:Ty×Ty):Option (List (Str×Ty)) :=
 if Pg d.1=2 then some (l++[(oU d.1,d.2)]) else if Pg d.1≠1/\AD (AQ d.1) d.2=false then none else some l
def Fy:List (Str×Ty)->List (Ty×Ty)->List (Str×Ty)×Bool
 | l,[]=>(l,true)
 | l,d::r=>match Hh l d with
  | some l'=>Fy l' r
  | none=>(l,false)
theorem VE (l:List (Str×Ty)) (f n:Int) (t:Str) (ps:List Ty) (u:Ty):(f=2->Hh l (.mk f n t ps,u)=some (l++[(t,u)])) /\
  (f≠2->f≠1/\AD (AQ (.mk f n t ps)) u=false->Hh l (.mk f n t ps,u)=none)/\(f≠2->¬(f≠1/\AD (AQ (.mk f n t ps)) u=false)->Hh l (.mk f n t ps,u)=some l):=by
 have h0:Pg (.mk f n t ps)=f:=rfl;have h1:oU (.mk f n t ps)=t:=rfl;refine ⟨λh=>?_,λh h'=>?_,λh h'=>?_⟩
 ·simp only [Hh,h0,h1];rw [if_pos h]
 ·simp only [Hh,h0,h1];rw [if_neg h,if_pos h']
 ·simp only [Hh,h0,h1];rw [if_neg h,if_neg h']
def PM:List (Str×Ty)->St
 | []=>[(3,some (.cells 53 1 [.nils])),(4,some (.immb 4 1 [.bool false])),(5,some (.cells 53 1 [.nils]))]
 | b::r=>[(3,some (.cells 53 1 [.nils])),(4,some (.immb 4 1 [.bool false])),(5,some (.cells 53 1 [.own 8 (BS (b::r)).length])),(8,some (.row 87 5 (BS (b::r))))]
theorem oO (l:List (Str×Ty)) (x u:Ty) (hlen:l.length<=1000000) {L:Lz} (h1:Tryz.prog.funcs[L.fn]?.isSome) (h2:L.tmps.size=Tryz.f58.ntmps) (h3:L.ps = #[12,13]) (h4:L.asg=oY Tryz.f58)
  (h5:L.body=hZ Tryz.f58) (h6:L.E=[(4,.ref 3 0),(5,.ref 4 0),(6,.ref 5 0)]) (h7:L.F=[]) :
  (∀l',Hh l (x,u)=some l'->PG Tryz.prog [.imm (.agg (dTyc x)),.imm (.agg (dTyc u))] (CV L (PM l) none) true (CV L (PM l') none)) /\
  (Hh l (x,u)=none->PG Tryz.prog [.imm (.agg (dTyc x)),.imm (.agg (dTyc u))] (CV L (PM l) none) false (CV L (PM l) (some .ret))):=by
 obtain ⟨fc,hf⟩:=Option.isSome_iff_exists.1 h1;have hW:=Mn x;have hO:=QP u;have hE:=R0 (AQ x) u;obtain ⟨f,n,t,ps⟩:=x;have hst:=VE l f n t ps u;generalize AD (AQ (.mk f n t ps)) u=he at *;generalize AQ (.mk f n t ps)=hd at *;obtain ⟨hs,hn,hx,hps⟩:=hd;obtain ⟨g,m,z,vs⟩:=u;simp only at hE;obtain ⟨hst1,hst2,hst3⟩:=hst;have hfree:R4 [9,10,11,12,13] L.E (PM l) L.F:=by
  rw [h6,h7];cases l <;> refine ⟨by decide,?_⟩ <;> simp [PM,Vv,I5,F0,Sx,Jn]
 have hasg:∀stx,K9 Tryz.prog Tryz.f58.ntmps L.asg ((13,.imm (.agg (dTyc (.mk g m z vs))))::(12,.imm (.agg (dTyc (.mk f n t ps))))::L.E) stx [9,10,11,12,13] _ _ _:=λstx=>by
  rw [h4];exact aV (Qe AH rfl rfl rfl rfl (by simp) (by simp)) (Qe AH rfl rfl rfl rfl (by simp) (by simp))
 by_cases h22:f=2
 ·subst h22;refine ⟨λl' hl'=>?_,λh=>by rw [hst1 rfl] at h;cases h⟩;rw [hst1 rfl] at hl';cases hl';refine RD (pend:=none) hf h3 h2 rfl rfl (by decide) (by decide) hfree (hasg _) ?_;rw [h5,h6,h7];cases l with
  | nil =>
   refine GA rfl ?_;refine Ai rfl λh=>?_;refine GA rfl ?_;refine Cm AH rfl ⟨by simp,by simp [maxLen],by simp,trivial⟩ ?_;refine DO rfl ?_;refine AG 8 11 rfl ?_;exact C8 (⟨rfl,rfl,rfl,rfl,trivial⟩:He _ (PM ([]++[(t,.mk g m z vs)])))
  | cons b r =>
   refine GA rfl ?_;refine Ai rfl λh=>?_;refine GA rfl ?_;refine Cm AH rfl ⟨by simp,by simp [maxLen] at hlen ⊢;omega,by simp at hlen ⊢;omega,trivial⟩ ?_;refine DO rfl ?_;refine AG 8 11 rfl ?_;refine C8 (?_:He _ (PM (b::r++[(t,.mk g m z vs)])));have e:BS (b::(r++[(t,.mk g m z vs)]))=BS (b::r)++[Nc (t,.mk g m z vs)]:=by simp [BS]
   simp only [PM,List.cons_append,e];exact ⟨rfl,rfl,by simp only [List.length_append];rfl,rfl,trivial⟩
 have hst2:=hst2 h22;have hst3:=hst3 h22;have key:∀(pend:Option Code) (hh:(f≠1/\he=false)↔pend.isSome=true) (hp:pend=none\/pend=some .ret),
   PG Tryz.prog [.imm (.agg (dTyc (.mk f n t ps))),.imm (.agg (dTyc (.mk g m z vs)))] (CV L (PM l) none) pend.isNone (CV L (PM l) pend):=by
  intro pend hh hp;refine RD (pend:=pend) hf h3 h2 rfl rfl (by decide) (by decide) hfree (hasg _) ?_;rw [h5,h6,h7];refine GA rfl ?_;refine Ab rfl (λh=>absurd (by simpa using h) h22) (λh=>?_);clear h;refine GA rfl ?_;refine AN rfl hW ?_;refine DO rfl ?_;refine AN rfl hO ?_;refine DO rfl ?_;refine TX AH rfl KK (by simp [An]) ?_;refine bg [] rfl (by simp [An];rfl) ?_;rcases hp with rfl | rfl
  ·refine Ab rfl (λh=>?_) (λh=>?_)
   ·exfalso;have:¬(f≠1/\he=false):=λq=>by have:=hh.1 q;cases this
    apply this;simp at h;refine ⟨h.1,?_⟩;rw [hE];simp;grind
   ·refine GA rfl ?_;refine C8 (?_:He _ (PM l));cases l <;> exact ⟨rfl,rfl,rfl,by first | trivial | exact ⟨rfl,trivial⟩⟩
  ·have hq:=hh.2 rfl;refine Ab rfl (λh=>?_) (λh=>?_)
   ·cases l with
    | nil =>
     refine GA rfl ?_;exact Au (⟨rfl,rfl,rfl,trivial⟩:He _ (PM []))
    | cons b r =>
     refine GA rfl ?_;exact Au (⟨rfl,rfl,rfl,rfl,trivial⟩:He _ (PM (b::r)))
   ·exfalso;obtain ⟨q1,q2⟩:=hq;rw [q2] at hE;simp at h hE;grind
 refine ⟨λl' hl'=>?_,λh=>?_⟩
 ·have hn:¬(f≠1/\he=false):=λhq=>by rw [hst2 hq] at hl';cases hl'
  rw [hst3 hn] at hl';cases hl';exact key none ⟨λh=>absurd h hn,λh=>by cases h⟩ (.inl rfl)
 ·have hn:f≠1/\he=false:=by
   by_cases hq:f≠1/\he=false
   ·exact hq
   ·rw [hst3 hq] at h;cases h
  exact key (some .ret) ⟨λ_=>rfl,λ_=>hn⟩ (.inr rfl)
theorem bR {l l':List (Str×Ty)} {d:Ty×Ty} (h:Hh l d=some l'):l'.length<=l.length+1:=by
 unfold Hh at h
 split at h
 ·cases h;simp
 ·split at h
  ·cases h
  ·cases h;omega
theorem Si {L:Lz} (h1:Tryz.prog.funcs[L.fn]?.isSome) (h2:L.tmps.size=Tryz.f58.ntmps) (h3:L.ps = #[12,13]) (h4:L.asg=oY Tryz.f58)
  (h5:L.body=hZ Tryz.f58) (h6:L.E=[(4,.ref 3 0),(5,.ref 4 0),(6,.ref 5 0)]) (h7:L.F=[]):∀(items:List (Ty×Ty)) (l:List (Str×Ty)),l.length+items.length<=1000000 ->
  Yields2 Tryz.prog items (CV L (PM l) none) (Fy l items).2 (CV L (PM (Fy l items).1) (bif (Fy l items).2 then none else some .ret))
 | [],l,_=>.nil _
 | d::r,l,hl=>by
  simp only [List.length_cons] at hl;obtain ⟨q1,q2⟩:=oO l d.1 d.2 (by omega) h1 h2 h3 h4 h5 h6 h7;cases hs:Hh l d with
  | none =>
   rw [show Fy l (d::r)=(l,false) by simp only [Fy,hs]];exact .stop (q2 hs)
  | some l' =>
   rw [show Fy l (d::r)=Fy l' r by simp only [Fy,hs]];have:=bR hs;exact .cons (q1 l' hs) (Si h1 h2 h3 h4 h5 h6 h7 r l' (by omega))
theorem jI (p v:Ty) (hok:M7 p v=true) (hN:(DF p v).length<=1000000):Ak Tryz.prog 58 [.agg (dTyc p),.agg (dTyc v)] (.tup [.sl (BS (bif (Fy [] (DF p v)).2 then (Fy [] (DF p v)).1 else [])),.bool (Fy [] (DF p v)).2]):=by
 have hP:=QH p v;have hP1:=λb S S' h=>NJ p v hok (b:=b) (S:=S) (S':=S') h;have hY:=λL h1 h2 h3 h4 h5 h6 h7=>Si (L:=L) h1 h2 h3 h4 h5 h6 h7 (DF p v) [] (by simpa using hN);obtain ⟨q1,q2,q3,q4⟩:=p;obtain ⟨u1,u2,u3,u4⟩:=v;generalize Fy [] (DF (.mk q1 q2 q3 q4) (.mk u1 u2 u3 u4))=r at *;obtain ⟨l,b⟩:=r;simp only at hY ⊢;refine Af AH Tryz.func58 (by decide +kernel) rfl [1,2,3,4,5,6,7,8,9,10,11,12,13] rfl rfl ?_;refine AZ rfl ?_;refine A9 (st0:=[]) (fr:=[6,7]) [] [(6,6),(7,7)] rfl (by simp) hP trivial rfl rfl rfl rfl ?_;refine A8 rfl ?_
 refine Od (y:=3) (j:=4) (j2:=5) (stc:=FC (.mk q1 q2 q3 q4) (.mk u1 u2 u3 u4)) (stc':=FC (.mk q1 q2 q3 q4) (.mk u1 u2 u3 u4)) (stx:=PM []) (stB:=PM l) (pend:=bif b then none else some .ret) (E:=[(4,.ref 3 0),(5,.ref 4 0),(6,.ref 5 0)]) (ids':=[9,10,11,12,13]) (d:=.tup []) rfl Tryz.func152 (by decide +kernel) rfl (by decide) ⟨rfl,rfl,rfl,trivial⟩
   (EB ⟨rfl,rfl,rfl,rfl,rfl,trivial⟩) (λL h1 h2 h3 h4 h5 h6 h7=>?_) ?_ ?_ ?_ ?_ ?_
 ·exact hP1 b _ _ (hY L h1 h2 h3 h4 h5 h6 h7)
 ·simp [FC,PM,D8]
 ·simp [FC,D8]
 ·intro i hi;have e:Jn (Gm (Ei (Bj []++[(6,6),(7,7)])) []++Gm (Ei (Bj []++[(6,6),(7,7)])) [.ref 6 0,.ref 7 0])=[6,7]:=rfl;rw [e] at hi;simpa [FC,D8,F0,Sx,Jn,I5] using hi
 ·cases l <;> refine ⟨by decide,?_⟩ <;> simp [PM,Vv,I5,F0,Sx,Jn,D8]
 ·cases b with
  | false =>
   cases l <;> exact Aa rfl rfl rfl
  | true =>
   cases l with
   | nil =>
    refine GA rfl ?_;exact Aa rfl rfl rfl
   | cons x r =>
    refine Cu 8 rfl ?_;refine GA rfl ?_;exact Aa rfl rfl rfl
theorem JB:∀v:Ty,Aj v<=1000000000000->Ak Tryz.prog 59 [.agg (dTyc v)] (.agg (dTyc v))
 | .mk s n x ps,hN=>by
  refine AS λhv=>?_;simp [Cx,EM,dTyc,maxLen] at hv;simp only [Aj] at hN;have hpl:ps.length<=1000000000000:=by
   have:∀l:List Ty,l.length<=Ag l:=λl=>by
    induction l with
    | nil=>simp
    | cons t r ih=>obtain ⟨a,b,c,d⟩:=t;simp only [Ag,Aj,List.length_cons];omega
   have:=this ps;omega
  refine Af AH Tryz.func59 (by decide +kernel) rfl [1,2,3,4,5,6] rfl rfl ?_;refine AZ rfl ?_;refine D4 (e:=46) (sz:=4) 3 3 (by decide) rfl ?_;refine Am (λi:Nat=>[(9,.imm (.int .i64 i)),(8,.imm (.int .i64 ps.length)),(7,.imm (.sl (BQ ps))),(3,.own 3 (BQ (ps.take i)).length),(1,.ref 1 0),(2,.ref 2 0)])
   (λi=>[(3,some (.row 46 4 (BQ (ps.take i)))),(1,some (.immb 46 4 (dTyc (.mk s n x ps)))),(2,some (.cells 46 4 [.imm (.int .i64 0),.imm (.int .i64 0),.imm (.str []),.nils]))]) [4,5,6] (λi=>ps.length-i)
   (λi=>i<=ps.length) 0 (Nat.zero_le _) ⟨rfl,A3 (by simp),rfl,rfl,rfl,rfl,trivial⟩ ⟨rfl,rfl,rfl,trivial⟩ rfl λi hi ih=>?_
  refine A8 rfl ?_;refine Ab rfl (λh=>?_) (λh=>?_)
  ·simp at h;obtain ⟨t,ht⟩:=Ap h;have hb:=Cc ht;refine A8 rfl ?_;refine bi rfl (c:=dTyc t) (λ_=>⟨by simp,by simpa using A5 ht,by simp⟩) (by simp) ?_;refine AZ rfl ?_;refine Ad rfl (λ_=>JB t (by omega)) (by simp) ?_;refine AZ rfl ?_;refine Cm AH rfl ⟨by simp,by simp [maxLen];omega,by simp;omega,trivial⟩ ?_;refine AZ rfl ?_;refine AG 3 5 rfl ?_;have et:BQ (ps.take (i+1))=BQ (ps.take i)++[dTyc t]:=by rw [Bn ht,Pr];simp [BQ]
   exact Ae (ih (i+1) (by omega) (by omega)) ⟨A3 (BI (by omega) (by omega)),rfl,rfl,by rw [et];rfl,rfl,rfl,trivial⟩ ⟨by rw [et];rfl,rfl,rfl,trivial⟩ rfl
  ·simp at h;refine Ay rfl ?_;rw [List.take_of_length_le h];refine Cu 3 rfl ?_;refine A8 rfl ?_;exact Aa rfl rfl rfl
termination_by v=>SizeOf.sizeOf v
decreasing_by
 have:=List.sizeOf_lt_of_mem (List.mem_of_getElem? ht);simp_wf;omega
def I0 (d:Ty×Ty):Bool:=decide (Pg d.1≠1)&&decide (Pg d.1≠2) && !AD (AQ d.1) d.2
theorem XX (l:List (Str×Ty)) (d:Ty×Ty):(Hh l d).isSome = !I0 d:=by
 unfold Hh I0;by_cases h2:Pg d.1=2
 ·rw [if_pos h2];simp [h2]
 ·rw [if_neg h2];by_cases h1:Pg d.1≠1/\AD (AQ d.1) d.2=false
  ·rw [if_pos h1];simp [h1,h2]
  ·rw [if_neg h1];simp only [Option.isSome_some];by_cases h3:Pg d.1=1
   ·simp [h3]
   ·have:AD (AQ d.1) d.2=true:=by cases hh:AD (AQ d.1) d.2;exact absurd ⟨h3,hh⟩ h1;rfl
    simp [this]
theorem VR:∀(items:List (Ty×Ty)) (l:List (Str×Ty)),(Fy l items).2=items.all λd=>!I0 d
 | [],l=>rfl
 | d::r,l=>by
  have:=XX l d;simp only [Fy,List.all_cons];cases hs:Hh l d with
  | none=>rw [hs] at this;simp at this;simp [this]
  | some l'=>rw [hs] at this;simp at this;simp [this,VR r l']
def QA:Code->Option (Code×Code)
 | .rangeFunc _ _ a b=>some (a,b)
 | .seq x y=>match QA x with
  | some r=>some r
  | none=>QA y
 | .block _ c=>QA c
 | .scope c=>QA c
 | .loop c=>QA c
 | _=>none
def iC (f:Func):Code:=match QA (EN f 0) with
 | some (a,_)=>a
 | none=>.skip
def Z7 (f:Func):Code:=match QA (EN f 0) with
 | some (_,b)=>b
 | none=>.skip
def bS (v:Ty):St:=[(1,some (.immb 46 4 (dTyc v)))]
def eR (c:Cse) (sz:List (List V)) (i:Nat):Env:=[(5,.imm (.int .i64 i)),(15,.imm (.int .i64 i)),(14,.imm (.int .i64 c.rows.length)),(13,.imm (.sl (BQ c.rows))),(0,.imm (AE c sz)),(3,.ref 1 0)]
theorem aZ (c:Cse) (sz:List (List V)) (i:Nat) (v x u:Ty) {L:Lz} (h1:Tryz.prog.funcs[L.fn]?.isSome) (h2:L.tmps.size=Tryz.f78.ntmps) (h3:L.ps = #[23,24]) (h4:L.asg=iC Tryz.f78)
  (h5:L.body=Z7 Tryz.f78) (h6:L.E=eR c sz i) (h7:L.F=[]) (pend:Option Code) (hp:pend=none\/pend=some (.exit 1)) (hh:I0 (x,u)=pend.isSome) :
  PG Tryz.prog [.imm (.agg (dTyc x)),.imm (.agg (dTyc u))] (CV L (bS v) none) pend.isNone (CV L (bS v) pend):=by
 obtain ⟨fc,hf⟩:=Option.isSome_iff_exists.1 h1;have hW:=Mn x;have hO:=QP u;have hE:=R0 (AQ x) u;obtain ⟨f,n,t,ps⟩:=x;have hs:I0 (.mk f n t ps,u)=(decide (f≠1)&&decide (f≠2) && !AD (AQ (.mk f n t ps)) u):=rfl;rw [hs] at hh;clear hs;generalize AD (AQ (.mk f n t ps)) u=he at *;generalize AQ (.mk f n t ps)=hd at *;obtain ⟨hs,hn,hx,hps⟩:=hd;obtain ⟨g,m,z,vs⟩:=u;simp only at hE;have hfree:R4 [9,10,11,12,13] L.E (bS v) L.F:=by
  rw [h6,h7];refine ⟨by decide,?_⟩;simp [bS,eR,Vv,I5,F0,Sx,Jn]
 have hasg:∀stx,K9 Tryz.prog Tryz.f78.ntmps L.asg ((24,.imm (.agg (dTyc (.mk g m z vs))))::(23,.imm (.agg (dTyc (.mk f n t ps))))::L.E) stx [9,10,11,12,13] _ _ _:=λstx=>by
  rw [h4];exact aV (Qe AH rfl rfl rfl rfl (by simp) (by simp)) (Qe AH rfl rfl rfl rfl (by simp) (by simp))
 refine RD (pend:=pend) hf h3 h2 rfl rfl (by decide) (by decide) hfree (hasg _) ?_;rw [h5,h6,h7];refine GA rfl ?_;refine AN rfl hW ?_;refine DO rfl ?_;refine AN rfl hO ?_;refine DO rfl ?_;refine TX AH rfl KK (by simp [An]) ?_;refine bg [] rfl (by simp [An];rfl) ?_;rcases hp with rfl | rfl
 ·refine Ab rfl (λh=>?_) (λh=>?_)
  ·exfalso;rw [hE] at hh;simp at h hh;grind
  ·refine GA rfl ?_;exact C8 (⟨rfl,trivial⟩:He _ (bS v))
 ·refine Ab rfl (λh=>?_) (λh=>?_)
  ·refine GA rfl ?_;exact Xl rfl (⟨rfl,rfl,trivial⟩:(1:Nat)=1/\He _ (bS v))
  ·exfalso;rw [hE] at hh;simp at h hh;grind
theorem XL (c:Cse) (sz:List (List V)) (i:Nat) (v:Ty) {L:Lz} (h1:Tryz.prog.funcs[L.fn]?.isSome) (h2:L.tmps.size=Tryz.f78.ntmps) (h3:L.ps = #[23,24]) (h4:L.asg=iC Tryz.f78)
  (h5:L.body=Z7 Tryz.f78) (h6:L.E=eR c sz i) (h7:L.F=[]):∀(items:List (Ty×Ty)),
  Yields2 Tryz.prog items (CV L (bS v) none) (items.all λd=>!I0 d) (CV L (bS v) (bif items.all λd=>!I0 d then none else some (.exit 1)))
 | []=>.nil _
 | d::r=>by
  cases hs:I0 d with
  | true =>
   rw [show ((d::r).all λd=>!I0 d)=false by simp [hs]];exact .stop (aZ c sz i v d.1 d.2 h1 h2 h3 h4 h5 h6 h7 (some (.exit 1)) (.inr rfl) hs)
  | false =>
   rw [show ((d::r).all λd=>!I0 d)=r.all λd=>!I0 d by simp [hs]];exact .cons (aZ c sz i v d.1 d.2 h1 h2 h3 h4 h5 h6 h7 none (.inl rfl) hs) (XL c sz i v h1 h2 h3 h4 h5 h6 h7 r)
def Z5 (v p:Ty):Bool:=(DF p v).all λd=>!I0 d
def Ip (v:Ty):Nat->List Ty->Int
 | _,[]=>-1
 | i,p::r=>bif Z5 v p then (i:Int) else Ip v (i+1) r
theorem qB (c:Cse) (sz:List (List V)) (v:Ty) (hok:∀p∈c.rows,M7 p v=true):Ak Tryz.prog 78 [AE c sz,.agg (dTyc v)] (.int .i64 (Ip v 0 c.rows)):=by
 have hP:=λp=>QH p v;have hP1:=λp hok b S S' h=>NJ p v hok (b:=b) (S:=S) (S':=S') h;have hY:=λi L h1 h2 h3 h4 h5 h6 h7 items=>XL c sz i v (L:=L) h1 h2 h3 h4 h5 h6 h7 items;have hrl:Ak Tryz.prog 78 [AE c sz,.agg (dTyc v)] (.int .i64 (Ip v 0 c.rows))↔Ak Tryz.prog 78 [AE c sz,.agg (dTyc v)] (.int .i64 (Ip v 0 c.rows)):=Iff.rfl;clear hrl;obtain ⟨ds,⟨c1,c2,c3,c4⟩,rows⟩:=c;obtain ⟨g,m,z,vs⟩:=v;simp only at hok ⊢;refine Af AH Tryz.func78 (by decide +kernel) rfl [1,2,6,7,9,10,11,12,13] rfl rfl ?_;refine AZ rfl ?_;refine Xk (t:=13) rfl λhv=>?_;have hlen:rows.length<=9223372036854775807:=by simp [EM,maxLen] at hv;omega
 refine Am (λi:Nat=>[(15,.imm (.int .i64 i)),(14,.imm (.int .i64 rows.length)),(13,.imm (.sl (BQ rows))),(0,.imm (AE ⟨ds,.mk c1 c2 c3 c4,rows⟩ sz)),(3,.ref 1 0)]) (λ_=>bS (.mk g m z vs)) [2,6,7,9,10,11,12,13] (λi=>rows.length-i)
  (λi=>i<=rows.length/\Ip (.mk g m z vs) 0 rows=Ip (.mk g m z vs) i (rows.drop i)) 0 ⟨Nat.zero_le _,rfl⟩ ⟨rfl,A3 (by simp),rfl,rfl,rfl,trivial⟩ ⟨rfl,trivial⟩ rfl λi hi ih=>?_
 obtain ⟨hi1,hi2⟩:=hi;refine A8 rfl ?_;refine Ab rfl (λh=>?_) (λh=>?_)
 ·simp at h;obtain ⟨p,hp⟩:=Ap h;rw [Av hp] at hi2;simp only [Ip] at hi2;have hokp:=hok p (List.mem_of_getElem? hp);refine A8 rfl ?_;refine bi rfl (c:=dTyc p) (λ_=>⟨by simp,by simpa using A5 hp,by simp⟩) (by simp) ?_;refine AZ rfl ?_;refine A9 (st0:=[]) (fr:=[6,7]) [] [(6,6),(7,7)] rfl (by simp) (hP p) trivial rfl rfl rfl rfl ?_;refine A8 rfl ?_;have hro:((DF p (.mk g m z vs)).all λd=>!I0 d)=Z5 (.mk g m z vs) p:=rfl;generalize Z5 (.mk g m z vs) p=b at *
  refine Od (y:=3) (j:=4) (j2:=5) (stc:=FC p (.mk g m z vs)) (stc':=FC p (.mk g m z vs)) (stx:=bS (.mk g m z vs)) (stB:=bS (.mk g m z vs)) (pend:=bif b then none else some (.exit 1)) (E:=eR ⟨ds,.mk c1 c2 c3 c4,rows⟩ sz i) (ids':=[2,6,7,9,10,11,12,13]) (d:=.tup []) rfl Tryz.func152 (by decide +kernel) rfl (by decide) ⟨rfl,rfl,rfl,rfl,rfl,rfl,trivial⟩
   (EB ⟨rfl,rfl,rfl,trivial⟩) (λL h1 h2 h3 h4 h5 h6 h7=>?_) ?_ ?_ ?_ ?_ ?_
  ·have:=hY i L h1 h2 h3 h4 h5 h6 h7 (DF p (.mk g m z vs));rw [hro] at this;exact hP1 p hokp b _ _ this
  ·simp [FC,bS,D8]
  ·simp [FC,D8]
  ·intro k hk;have e:Jn (Gm (Ei (Bj []++[(6,6),(7,7)])) []++Gm (Ei (Bj []++[(6,6),(7,7)])) [.ref 6 0,.ref 7 0])=[6,7]:=rfl;rw [e] at hk;simpa [FC,D8,F0,Sx,Jn,I5] using hk
  ·refine ⟨by decide,?_⟩;simp [bS,eR,Vv,I5,F0,Sx,Jn,D8]
  ·cases b with
   | true =>
    rw [hi2];refine GA rfl ?_;exact Aa rfl rfl rfl
   | false =>
    refine Ay rfl ?_;refine GA rfl ?_;exact Ae (ih (i+1) (by omega) ⟨by omega,hi2⟩) ⟨A3 (BI (by omega) (by omega)),rfl,rfl,rfl,rfl,trivial⟩ ⟨rfl,trivial⟩ rfl
 ·simp at h;refine Ay rfl ?_;refine A8 rfl ?_;rw [hi2,List.drop_eq_nil_of_le (by omega)];exact Aa rfl rfl rfl
theorem QG {s n:Int} {x:Str} {k:Nat} (h:Ea s n x k=true):(s=1\/s=2\/s=3\/s=4\/s=5\/s=6)/\(s≠6->k=0):=by
 unfold Ea at h
 split at h
 ·simp at h;grind
 ·split at h
  ·simp at h;grind
  ·split at h
   ·simp at h;grind
   ·split at h
    ·simp at h;grind
    ·split at h
     ·simp at h;grind
     ·cases h
mutual
theorem ZO (ds:List Dt):∀p t v:Ty,BN p=true->Cs ds t p=true->IT ds t v=true->M7 p v=true
 | .mk f n x ps,.mk so m x0 qs,.mk g k z vs,hw,hp,hv=>by
  simp only [BN,Bool.and_eq_true] at hw;obtain ⟨hk1,hk2⟩:=QG hw.1;simp only [M7,Br];by_cases h1:f=1
  ·simp [h1]
  by_cases h2:f=2
  ·simp [h2]
  simp only [h1,h2,decide_false,Bool.false_or];cases he:AD (AQ (.mk f n x ps)) (.mk g k z vs) with
  | false=>rfl
  | true =>
   simp only [Bool.not_true,Bool.false_or,Bool.and_eq_true];by_cases h6:f=6
   ·subst h6;simp only [AQ,AD] at he;simp at he;obtain ⟨⟨e1,e2⟩,e3⟩:=he;subst e3;rw [NI] at hp;rw [Ji] at hv;simp only [KE,LI,<- e1] at hp hv;simp at hp hv;obtain ⟨p1,p2,p3⟩:=hp;have h8:so=8:=by
     unfold AW at p2;cases hc:decide (0<=(BO ds (.mk so m x0 qs) x).2) with
     | false=>rw [hc] at p2;simp at p2
     | true =>
      simp only [BO] at hc;by_cases h8:so=8
      ·exact h8
      ·simp [h8] at hc
    subst h8;simp at hv;exact ⟨decide_eq_true (by omega),Wm ds ps _ vs p1 hw.2 p3 hv.2.2⟩
   ·have:=hk2 h6;have hps:ps=[]:=List.eq_nil_of_length_eq_zero this;subst hps;simp [M6]
theorem Wm (ds:List Dt):∀ps ts vs:List Ty,ts.length=ps.length->BD ps=true->Cr ds ts ps=true->HA ds ts vs=true->M6 ps vs=true
 | [],_,_,_,_,_,_=>rfl
 | _::_,_,[],_,_,_,_=>rfl
 | p::r,[],v::s,hl,_,_,_=>by simp at hl
 | p::r,a::ts,v::s,hl,hw,hp,hv=>by
  simp only [BD,Cr,HA,M6,Bool.and_eq_true] at hw hp hv ⊢;exact ⟨ZO ds p a v hw.1 hp.1 hv.1,Wm ds r ts s (by simpa using hl) hw.2 hp.2 hv.2⟩
end
mutual
theorem Tv:∀p v:Ty,(DF p v).length<=Aj p
 | .mk f n x ps,v=>by
  have:=QI ps (Br v);simp only [DF,Aj,List.length_cons];cases decide (f=6)&&AD (AQ (.mk f n x ps)) v
  ·simp
  ·simp;omega
theorem QI:∀ps vs:List Ty,(Ex ps vs).length<=Ag ps
 | [],_=>by simp [Ex]
 | _::_,[]=>by simp [Ex]
 | p::r,q::s=>by
  have h1:=Tv p q;have h2:=QI r s;simp only [Ex,Ag,List.length_append];omega
end
mutual
theorem Tk:∀(p v:Ty),BN p=true->M7 p v=true->∀(l:List (Str×Ty)) (rest:List (Ty×Ty)),
  ((AY p v).2=true->Fy l (DF p v++rest)=Fy (l++(AY p v).1) rest)/\((AY p v).2=false->(Fy l (DF p v++rest)).2=false)
 | .mk f n x ps,v,hw,hok,l,rest=>by
  simp only [BN,Bool.and_eq_true] at hw;obtain ⟨hk1,hk2⟩:=QG hw.1;obtain ⟨s1,s2,s3⟩:=VE l f n x ps v;simp only [M7] at hok;simp only [DF,AY,List.cons_append,Fy];by_cases h1:f=1
  ·subst h1;rw [s3 (by decide) (by simp)];simp
  by_cases h2:f=2
  ·subst h2;rw [s1 rfl];simp
  simp only [h1,h2,if_false,decide_false,Bool.false_or] at hok ⊢;cases he:AD (AQ (.mk f n x ps)) v with
  | false =>
   rw [s2 h2 ⟨h1,he⟩];simp
  | true =>
   rw [s3 h2 (by rw [he];simp)];rw [he] at hok;simp only [Bool.not_true,Bool.false_or,Bool.and_eq_true] at hok;by_cases h6:f=6
   ·subst h6;have:=Q6 ps (Br v) hw.2 hok.2 (of_decide_eq_true hok.1) l rest;simpa using this
   ·have hps:ps=[]:=List.eq_nil_of_length_eq_zero (hk2 h6);subst hps;simp [h6,Bx]
theorem Q6:∀(ps vs:List Ty),BD ps=true->M6 ps vs=true->ps.length<=vs.length->∀(l:List (Str×Ty)) (rest:List (Ty×Ty)),
  ((Bx ps vs).2=true->Fy l (Ex ps vs++rest)=Fy (l++(Bx ps vs).1) rest)/\((Bx ps vs).2=false->(Fy l (Ex ps vs++rest)).2=false)
 | [],_,_,_,_,l,rest=>by simp [Bx,Ex]
 | _::_,[],_,_,hl,l,rest=>by simp at hl
 | p::r,q::s,hw,hok,hl,l,rest=>by
  simp only [BD,M6,Bool.and_eq_true] at hw hok;simp only [Bx,Ex,List.append_assoc];obtain ⟨a1,a2⟩:=Tk p q hw.1 hok.1 l (Ex r s++rest);obtain ⟨b1,b2⟩:=Q6 r s hw.2 hok.2 (by simpa using hl) (l++(AY p q).1) rest;cases hp:(AY p q).2 with
  | false=>simp [a2 hp]
  | true =>
   rw [a1 hp];cases hr:(Bx r s).2 with
   | false=>simp [b2 hr]
   | true=>simp [b1 hr]
end
theorem Q7 (p v:Ty) (hw:BN p=true) (hok:M7 p v=true):(Fy [] (DF p v)).2=(AY p v).2/\(bif (Fy [] (DF p v)).2 then (Fy [] (DF p v)).1 else [])=(AY p v).1:=by
 obtain ⟨h1,h2⟩:=Tk p v hw hok [] [];rw [List.append_nil] at h1 h2;cases h:(AY p v).2 with
 | true=>rw [h1 h];simp [Fy]
 | false=>rw [h2 h];simp [UR p v h]
theorem Ud (v:Ty):∀(rows:List Ty) (i:Nat),(∀p∈rows,BN p=true/\M7 p v=true)->Ip v i rows=B5 v i rows
 | [],i,_=>rfl
 | p::r,i,h=>by
  have:=(Q7 p v (h p (by simp)).1 (h p (by simp)).2).1;rw [VR] at this;simp only [Ip,B5];rw [show Z5 v p=(AY p v).2 from this,Ud v r (i+1) λq hq=>h q (by simp [hq])]
theorem cX (p v:Ty) (hok:M7 p v=true) (hN:(DF p v).length<=1000000) {b:Str×Ty} {r:List (Str×Ty)} (hr:Fy [] (DF p v)=(b::r,true)) :
  Bg Tryz.prog 58 [.imm (.agg (dTyc p)),.imm (.agg (dTyc v))] [] (.ret (.tup [.own 8 (BS (b::r)).length,.imm (.bool true)]) [(8,some (.row 87 5 (BS (b::r))))]):=by
 have hP:=QH p v;have hP1:=λb S S' h=>NJ p v hok (b:=b) (S:=S) (S':=S') h;have hY:=λL h1 h2 h3 h4 h5 h6 h7=>Si (L:=L) h1 h2 h3 h4 h5 h6 h7 (DF p v) [] (by simpa using hN);rw [hr] at hY;obtain ⟨q1,q2,q3,q4⟩:=p;obtain ⟨u1,u2,u3,u4⟩:=v;simp only at hY ⊢;refine Af AH Tryz.func58 (by decide +kernel) rfl [1,2,3,4,5,6,7,8,9,10,11,12,13] rfl rfl ?_;refine AZ rfl ?_;refine A9 (st0:=[]) (fr:=[6,7]) [] [(6,6),(7,7)] rfl (by simp) hP trivial rfl rfl rfl rfl ?_;refine A8 rfl ?_
 refine Od (y:=3) (j:=4) (j2:=5) (stc:=FC (.mk q1 q2 q3 q4) (.mk u1 u2 u3 u4)) (stc':=FC (.mk q1 q2 q3 q4) (.mk u1 u2 u3 u4)) (stx:=PM []) (stB:=PM (b::r)) (pend:=none) (E:=[(4,.ref 3 0),(5,.ref 4 0),(6,.ref 5 0)]) (ids':=[9,10,11,12,13]) (d:=.tup []) rfl Tryz.func152 (by decide +kernel) rfl (by decide) ⟨rfl,rfl,rfl,trivial⟩
   (EB ⟨rfl,rfl,rfl,rfl,rfl,trivial⟩) (λL h1 h2 h3 h4 h5 h6 h7=>?_) ?_ ?_ ?_ ?_ ?_
 ·exact hP1 true _ _ (hY L h1 h2 h3 h4 h5 h6 h7)
 ·simp [FC,PM,D8]
 ·simp [FC,D8]
 ·intro i hi;have e:Jn (Gm (Ei (Bj []++[(6,6),(7,7)])) []++Gm (Ei (Bj []++[(6,6),(7,7)])) [.ref 6 0,.ref 7 0])=[6,7]:=rfl;rw [e] at hi;simpa [FC,D8,F0,Sx,Jn,I5] using hi
 ·refine ⟨by decide,?_⟩;simp [PM,Vv,I5,F0,Sx,Jn,D8]
 ·refine GA rfl ?_;exact Au ⟨_,rfl,rfl,rfl,trivial⟩
theorem JD {c:Cse} {v:Ty} (h:Ey c v=true):∀p∈c.rows,BN p=true/\M7 p v=true/\Aj p<=12:=by
 simp only [Ey,Bool.and_eq_true] at h;obtain ⟨⟨h1,_⟩,h2⟩:=h;obtain ⟨_,_,_,_,hr⟩:=CP h1;intro p hp;obtain ⟨h3,h4⟩:=hr p hp;simp only [BG,Bool.and_eq_true,decide_eq_true_eq] at h3;exact ⟨h3.2.1,ZO c.datas p c.type v h3.2.1 h4 h2,h3.1⟩
theorem Uy (c:Cse) (v:Ty):Ak Tryz.prog 30 [.agg (dCse c),.agg (dTyc v)] (bif Ey c v then (bif decide (B5 v 0 c.rows<0) then .tup [.int .i64 0,.int .i64 5] else .tup [.int .i64 (B5 v 0 c.rows),.int .i64 0]) else .tup [.int .i64 0,.int .i64 2]):=by
 have hA:=XC c v;have hR:=λh=>qB c (Ba (Dd c.datas)) v (λp hp=>(JD (c:=c) (v:=v) h p hp).2.1);have hE:=λh=>Ud v c.rows 0 (λp hp=>⟨(JD (c:=c) (v:=v) h p hp).1,(JD (c:=c) (v:=v) h p hp).2.1⟩);obtain ⟨ds,⟨c1,c2,c3,c4⟩,rows⟩:=c;obtain ⟨g,m,z,vs⟩:=v;generalize Ey ⟨ds,.mk c1 c2 c3 c4,rows⟩ (.mk g m z vs)=b at *;simp only at hE ⊢;refine Af AH Tryz.func30 (by decide +kernel) rfl [3,4,5] rfl rfl ?_;refine AZ rfl ?_;cases b with
 | false =>
  refine Ah rfl hA ?_;refine AZ rfl ?_;refine Ai rfl λh=>?_;refine A8 rfl ?_;exact Aa rfl rfl rfl
 | true =>
  refine Ah rfl hA ?_;refine AZ rfl ?_;refine Az rfl λh=>?_;refine A8 rfl ?_;refine Ad rfl (λ_=>hR rfl) (by simp) ?_;refine AZ rfl ?_;rw [<- hE rfl];generalize Ip (.mk g m z vs) 0 rows=n;refine Ab rfl (λh=>?_) (λh=>?_)
  ·refine A8 rfl ?_;rw [show decide (n<0)=true from h];exact Aa rfl rfl rfl
  ·refine A8 rfl ?_;rw [show decide (n<0)=false from h];exact Aa rfl rfl rfl
def CR (c:Cse) (r:Int):Bool:=decide (0<=r)&&decide (r<c.rows.length)
def NR (c:Cse) (r:Int) (v:Ty):List (Str×Ty)×Int:=bif Ey c v&&CR c r then (match c.rows[r.toNat]? with
 | some p=>bif (AY p v).2 then ((AY p v).1,0) else ([],5)
 | none=>([],2)) else ([],2)
mutual
theorem MB:∀(p v:Ty),∀b∈(AY p v).1,Aj b.2<=Aj v
 | .mk f n x ps,v,b,hb=>by
  simp only [AY] at hb
  split at hb
  ·simp at hb
  ·split at hb
   ·simp at hb;subst hb;exact Nat.le_refl _
   ·split at hb
    ·simp at hb
    ·have:=Ln ps (Br v) b hb;obtain ⟨g,m,z,vs⟩:=v;simp only [Br] at this;simp only [Aj];omega
theorem Ln:∀(ps vs:List Ty),∀b∈(Bx ps vs).1,Aj b.2<=Ag vs
 | [],_,b,hb=>by simp [Bx] at hb
 | _::_,[],b,hb=>by simp [Bx] at hb
 | p::r,q::s,b,hb=>by
  simp only [Bx] at hb;cases hc:(AY p q).2&&(Bx r s).2
  ·rw [hc] at hb;simp at hb
  ·rw [hc] at hb;simp only [cond_true,List.mem_append] at hb;simp only [Ag];rcases hb with hb | hb
   ·have:=MB p q b hb;omega
   ·have:=Ln r s b hb;omega
end
theorem Uw (c:Cse) (r:Int) (v:Ty) (hv:Aj v<=1000000):Ak Tryz.prog 16 [.agg (dCse c),.int .i64 r,.agg (dTyc v)] (.tup [.sl (BS (NR c r v).1),.int .i64 (NR c r v).2]):=by
 have hA:=XC c v;have hT:=Qv c r;have hrows:=λh=>JD (c:=c) (v:=v) h;unfold NR;have hth:CR c r=(decide (0<=r)&&decide (r<c.rows.length)):=rfl;rw [<- hth] at hT;obtain ⟨ds,⟨c1,c2,c3,c4⟩,rows⟩:=c;have hmN:=λp=>MB p v;have hM:=λp hok hN=>jI p v hok hN;have hMo:=λp hok hN b rr h=>cX p v hok hN (b:=b) (r:=rr) h;have hRM:=λp hw hok=>Q7 p v hw hok;have hPL:=λp=>Tv p v;generalize hV:v=V at *;obtain ⟨g,m,z,vs⟩:=V;generalize Ey ⟨ds,.mk c1 c2 c3 c4,rows⟩ (.mk g m z vs)=b at *;generalize CR ⟨ds,.mk c1 c2 c3 c4,rows⟩ r=tb at *;simp only at hth hrows ⊢;refine Af AH Tryz.func16 (by decide +kernel) rfl [3,4,5,6,7] rfl rfl ?_;refine AZ rfl ?_;cases b with
 | false =>
  refine Ah rfl hA ?_;refine AZ rfl ?_;refine AN rfl hT ?_;refine DO rfl ?_;refine Ai rfl λh=>?_;refine A8 rfl ?_;exact Aa rfl rfl rfl
 | true =>
 refine Ah rfl hA ?_;refine AZ rfl ?_;refine AN rfl hT ?_;refine DO rfl ?_;cases tb with
 | false =>
  refine Ai rfl λh=>?_;refine A8 rfl ?_;exact Aa rfl rfl rfl
 | true =>
 refine Az rfl λh=>?_;clear h;have hth2:0<=r/\r<rows.length:=by simpa using hth.symm
 obtain ⟨p,hp⟩:=Ap (l:=rows) (i:=r.toNat) (by omega);obtain ⟨hw,hok,h12⟩:=hrows rfl p (List.mem_of_getElem? hp);have hpl:=hPL p;have hM:=hM p hok (by omega);have hMo:=hMo p hok (by omega);obtain ⟨e1,e2⟩:=hRM p hw hok;have hmN:=hmN p;rw [e2,e1] at hM;simp only [Bool.and_self,cond_true,hp];refine A8 rfl ?_;refine bi rfl (c:=dTyc p) (λ_=>⟨hth2.1,by simpa using A5 hp,by simp⟩) (by simp) ?_;refine AZ rfl ?_;cases hmb:(AY p (.mk g m z vs)).2 with
 | false =>
  rw [hmb] at hM;refine Ah rfl hM ?_;refine bg [] rfl (by simp;rfl) ?_;refine Ai rfl λh=>?_;refine A8 rfl ?_;exact Aa rfl rfl rfl
 | true =>
 rw [hmb] at hM e1;rw [e1] at e2;simp only [cond_true] at e2 ⊢;cases hml:(AY p (.mk g m z vs)).1 with
 | nil =>
  rw [hml] at hM;refine Ah rfl hM ?_;refine bg [] rfl (by simp;rfl) ?_;refine Az rfl λh=>?_;refine bd [] rfl (by simp [BS]) ?_;refine Lt (RE ?_);refine bd [] rfl (by simp [BS]) ?_;refine Ab rfl (λh=>by simp [BS] at h) (λh=>?_);refine Ay rfl ?_;refine bd [] rfl (by simp [BS]) ?_;exact Aa rfl rfl rfl
 | cons x rr =>
  rw [hml] at e2 hmN;have hrun:Fy [] (DF p (.mk g m z vs))=(x::rr,true):=Prod.ext e2 e1;have hlenL:(x::rr).length<=12:=by
   have:=Re p (.mk g m z vs);rw [hml] at this;omega
  refine A9 (st0:=[]) (fr:=[5]) [] [(8,5)] rfl (by simp) (hMo x rr hrun) trivial rfl rfl rfl rfl ?_;generalize x::rr=l at *;refine bg [] rfl (by simp;rfl) ?_;refine Az rfl λh=>?_;clear h;refine A8 rfl ?_;refine Am (λi:Nat=>[(41,.imm (.int .i64 i)),(40,.imm (.int .i64 (BS l).length)),(10,.own 5 (BS l).length)]) (λ_=>[(5,some (.row 87 5 (BS l)))]) [3,4,6,7] (λi=>(BS l).length-i)
   (λi=>i<=(BS l).length) 0 (Nat.zero_le _) ⟨rfl,rfl,rfl,trivial⟩ ⟨rfl,trivial⟩ rfl λi hi ih=>?_
  refine A8 rfl ?_;refine Ab rfl (λh=>?_) (λh=>?_)
  ·simp at h;obtain ⟨bb,hb⟩:=Ap h;have hbn:=hmN bb (List.mem_of_getElem? hb);have hbd:(BS l)[i]?=some (Nc bb):=by simp [BS,hb]
   have hcp:=JB bb.2 (by omega);obtain ⟨bs,b1,b2,b3,b4⟩:=bb;refine A8 rfl ?_;refine Hx AH rfl (λ_=>⟨by simp,by simp;omega⟩) (by simp) ?_;refine AZ rfl ?_;refine PU (e:=Nc (bs,.mk b1 b2 b3 b4)) AH rfl (λ_=>by simpa using hbd) rfl (by simp) ?_;refine AZ rfl ?_;refine Ah rfl hcp ?_;refine AZ rfl ?_;refine Hx AH rfl (λ_=>⟨by simp,by simp;omega⟩) (by simp) ?_;refine AZ rfl ?_;refine R2 AH (e:=Nc (bs,.mk b1 b2 b3 b4)) (e':=Nc (bs,.mk b1 b2 b3 b4)) rfl (by simpa using hbd) (by show 1+4<=5;decide) rfl (by simp) ?_;have hset:(BS l).set (i:Int).toNat (Nc (bs,.mk b1 b2 b3 b4))=BS l:=by
    refine List.ext_getElem? λj=>?_;rw [List.getElem?_set]
    split
    ·rename_i hj;simp at hj;subst hj;rw [hbd];have:i<(BS l).length:=by simp;omega
     simp [h]
    ·rfl
   simp only;rw [hset];refine AZ rfl ?_;exact Ae (ih (i+1) (by simp;omega) (by simp;omega)) ⟨A3 (BI (by omega) (by simp at hi;omega)),rfl,rfl,trivial⟩ ⟨rfl,trivial⟩ rfl
  ·refine Ay rfl ?_;refine Cu 5 rfl ?_;refine A8 rfl ?_;exact Aa rfl rfl rfl
def Xa (l:List Ty):Bool:=l.all (λt=>decide (0<=Bv t 20))&&decide (l.length<=5)
def NA (c:Cse):Bool:=(decide (c.datas.length<=6)&&decide (c.rows.length<=7)&&decide (0<=Bv c.type 20))&&(c.rows.all (λp=>decide (0<=Bv p 20))&&c.datas.all (λd=>decide (d.cons.length<=7)&&d.cons.all λk=>Xa k.args))
def Jt (v:Ty):Bool:=decide (0<=B8 v 300 110)
theorem qU (l:List Ty):Ak Tryz.prog 26 [.sl (BQ l)] (.bool (Xa l)):=by
 refine Af AH Tryz.func26 (by decide +kernel) rfl [1,2] rfl rfl ?_;refine AZ rfl ?_;refine Am (λi:Nat=>[(3,.imm (.int .i64 i)),(0,.imm (.sl (BQ l)))]) (λ_=>[]) [1,2] (λi=>l.length-i)
  (λi=>i<=l.length/\i<=6/\l.all (λt=>decide (0<=Bv t 20))=(l.drop i).all (λt=>decide (0<=Bv t 20))) 0 ⟨Nat.zero_le _,by simp,rfl⟩ ⟨rfl,rfl,trivial⟩ trivial rfl λi hi ih=>?_
 obtain ⟨hi1,hi0,hi2⟩:=hi;refine GA rfl ?_;by_cases hlt:i<l.length/\i<6
 case neg =>
  refine Ab rfl (λh=>by exfalso;simp at h;omega) (λh=>?_);refine Ay rfl ?_;refine A8 rfl ?_;refine Aa rfl rfl (congrArg _ ?_);simp only [Xa,dTys_length];by_cases h5:l.length<=5
  ·rw [hi2,List.drop_eq_nil_of_le (by omega)];simp [h5];omega
  ·simp [h5];omega
 refine Ab rfl (λh=>?_) (λh=>by exfalso;simp at h;omega);obtain ⟨t,ht⟩:=Ap hlt.1;rw [E2 ht] at hi2;refine A8 rfl ?_;refine bi rfl (c:=dTyc t) (λ_=>⟨by simp,by simpa using A5 ht,by simp⟩) (by simp) ?_;refine AZ rfl ?_;refine Ad rfl (λ_=>GU t 20 (by decide) (by decide)) (by simp) ?_;refine AZ rfl ?_;refine Ab rfl (λh=>?_) (λh=>?_)
 ·refine A8 rfl ?_;refine Aa rfl rfl (congrArg _ ?_);simp at h;rw [Xa,hi2,show decide (0<=Bv t 20)=false by simp;omega];simp
 ·refine A8 rfl ?_;simp at h;exact Ae (ih (i+1) (by omega) ⟨by omega,by omega,by rw [hi2,show decide (0<=Bv t 20)=true by simpa using h];simp⟩) ⟨A3 (BI (by omega) (by omega)),rfl,trivial⟩ trivial rfl
theorem bT (c:Cse):Ak Tryz.prog 5 [.agg (dCse c)] (.bool (NA c)):=by
 have hWT:=GU c.type 20 (by decide) (by decide);obtain ⟨ds,t,rows⟩:=c;simp only [NA] at hWT ⊢;generalize Bv t 20=wt at *;obtain ⟨c1,c2,c3,c4⟩:=t;refine Af AH Tryz.func5 (by decide +kernel) rfl [1,2] rfl rfl ?_;refine DO rfl ?_;refine AN rfl hWT ?_;refine DO rfl ?_;by_cases hg:ds.length<=6/\rows.length<=7/\0<=wt
 case neg =>
  refine Ab rfl (λh=>?_) (λh=>by exfalso;apply hg;simp at h;omega);refine A8 rfl ?_;refine Aa rfl rfl (congrArg _ ?_);rw [show (decide (ds.length<=6)&&decide (rows.length<=7)&&decide (0<=wt))=false by simp;omega];simp
 obtain ⟨g1,g2,g3⟩:=hg;rw [show (decide (ds.length<=6)&&decide (rows.length<=7)&&decide (0<=wt))=true by simp;omega,Bool.true_and];refine Ab rfl (λh=>by exfalso;simp at h;omega) (λh=>?_);clear h;refine A8 rfl ?_;refine Am (λi:Nat=>[(3,.imm (.int .i64 i)),(1,.ref 1 0)]) (λ_=>[(1,some (.immb 29 6 (dCse ⟨ds,.mk c1 c2 c3 c4,rows⟩)))]) [2] (λi=>rows.length-i)
  (λi=>i<=rows.length/\rows.all (λp=>decide (0<=Bv p 20))=(rows.drop i).all (λp=>decide (0<=Bv p 20))) 0 ⟨Nat.zero_le _,rfl⟩ ⟨rfl,rfl,trivial⟩ ⟨rfl,trivial⟩ rfl λi hi ih=>?_
 obtain ⟨hi1,hi2⟩:=hi;refine A8 rfl ?_;refine Ab rfl (λh=>?_) (λh=>?_)
 ·simp at h;obtain ⟨p,hp⟩:=Ap h;rw [E2 hp] at hi2;refine A8 rfl ?_;refine bi rfl (c:=dTyc p) (λ_=>⟨by simp,by simpa using A5 hp,by simp⟩) (by simp) ?_;refine AZ rfl ?_;refine Ad rfl (λ_=>K4 p 20 (by decide) (by decide)) (by simp) ?_;refine AZ rfl ?_;refine Ab rfl (λh=>?_) (λh=>?_)
  ·refine A8 rfl ?_;refine Aa rfl rfl (congrArg _ ?_);simp at h;rw [hi2,show decide (0<=Bv p 20)=false by simp;omega];simp
  ·refine A8 rfl ?_;simp at h;exact Ae (ih (i+1) (by omega) ⟨by omega,by rw [hi2,show decide (0<=Bv p 20)=true by simpa using h];simp⟩) ⟨A3 (BI (by omega) (by omega)),rfl,trivial⟩ ⟨rfl,trivial⟩ rfl
 simp at h;refine Ay rfl ?_;refine A8 rfl ?_;rw [hi2,List.drop_eq_nil_of_le h,List.all_nil,Bool.true_and];refine Am (λi:Nat=>[(4,.imm (.int .i64 i)),(1,.ref 1 0)]) (λ_=>[(1,some (.immb 29 6 (dCse ⟨ds,.mk c1 c2 c3 c4,rows⟩)))]) [2] (λi=>ds.length-i)
  (λi=>i<=ds.length/\ds.all (λd=>decide (d.cons.length<=7)&&d.cons.all λk=>Xa k.args)=(ds.drop i).all (λd=>decide (d.cons.length<=7)&&d.cons.all λk=>Xa k.args)) 0 ⟨Nat.zero_le _,rfl⟩ ⟨rfl,rfl,trivial⟩ ⟨rfl,trivial⟩ rfl λi hi ih=>?_
 obtain ⟨hi1,hi2⟩:=hi;refine A8 rfl ?_;refine Ab rfl (λh=>?_) (λh=>?_)
 ·simp at h;obtain ⟨d,hd⟩:=Ap h;rw [E2 hd] at hi2;refine A8 rfl ?_;refine bi rfl (c:=CU d) (λ_=>⟨by simp,by simpa using B2 hd,by simp⟩) (by simp) ?_;obtain ⟨dn,dc⟩:=d;simp only at hi2;refine AZ rfl ?_;by_cases h7:dc.length<=7
  case neg =>
   refine Ab rfl (λh=>?_) (λh=>by exfalso;simp at h;omega);refine A8 rfl ?_;rw [hi2,show decide (dc.length<=7)=false by simpa using h7];exact Au ⟨_,rfl,tV (congrArg _ (by simp)),trivial⟩
  rw [show decide (dc.length<=7)=true by simpa using h7,Bool.true_and] at hi2;refine Ab rfl (λh=>by exfalso;simp at h;omega) (λh=>?_);clear h;refine A8 rfl ?_;refine Am (λk:Nat=>[(5,.imm (.int .i64 k)),(4,.imm (.int .i64 i)),(1,.ref 1 0)]) (λ_=>[(1,some (.immb 29 6 (dCse ⟨ds,.mk c1 c2 c3 c4,rows⟩)))]) [2] (λk=>dc.length-k)
   (λk=>k<=dc.length/\dc.all (λk=>Xa k.args)=(dc.drop k).all (λk=>Xa k.args)) 0 ⟨Nat.zero_le _,rfl⟩ ⟨rfl,rfl,rfl,trivial⟩ ⟨rfl,trivial⟩ rfl λk hk jh=>?_
  obtain ⟨hk1,hk2⟩:=hk;refine A8 rfl ?_;refine bi rfl (c:=CU ⟨dn,dc⟩) (λ_=>⟨by simp,by simpa using B2 hd,by simp⟩) (by simp) ?_;refine AZ rfl ?_;refine Ab rfl (λh=>?_) (λh=>?_)
  ·simp at h;obtain ⟨c,hc⟩:=Ap h;rw [E2 hc] at hk2;refine A8 rfl ?_;refine bi rfl (c:=CU ⟨dn,dc⟩) (λ_=>⟨by simp,by simpa using B2 hd,by simp⟩) (by simp) ?_;refine AZ rfl ?_;refine bi rfl (c:=DN c) (λ_=>⟨by simp,by simpa using B2 hc,by simp⟩) (by simp) ?_;obtain ⟨cn,ca⟩:=c;simp only at hk2;refine AZ rfl ?_;refine Ad rfl (λ_=>qU ca) (by simp) ?_;refine AZ rfl ?_;refine Ab rfl (λh=>?_) (λh=>?_)
   ·refine A8 rfl ?_;refine Aa rfl rfl (congrArg _ ?_);simp at h;rw [hi2,hk2,h];simp
   ·refine A8 rfl ?_;simp at h;exact Ae (jh (k+1) (by omega) ⟨by omega,by rw [hk2,h];simp⟩) ⟨A3 (BI (by omega) (by omega)),rfl,rfl,trivial⟩ ⟨rfl,trivial⟩ rfl
  ·simp at h;refine Ay rfl ?_;refine A8 rfl ?_;rw [List.drop_eq_nil_of_le (by omega)] at hk2;exact Ae (ih (i+1) (by omega) ⟨by omega,by rw [hi2,hk2];simp⟩) ⟨A3 (BI (by omega) (by omega)),rfl,trivial⟩ ⟨rfl,trivial⟩ rfl
 ·simp at h;refine Ay rfl ?_;refine A8 rfl ?_;rw [hi2,List.drop_eq_nil_of_le (by omega)];exact Aa rfl rfl rfl
theorem dA (v:Ty):Ak Tryz.prog 54 [.agg (dTyc v)] (.bool (Jt v)):=by
 have hW:=La v 300 110 (by decide) (by decide) (by decide) (by decide);unfold Jt;generalize B8 v 300 110=w at *;obtain ⟨s,n,x,ps⟩:=v;refine Af AH Tryz.func54 (by decide +kernel) rfl [1,2] rfl rfl ?_;refine AZ rfl ?_;refine Ah rfl hW ?_;refine AZ rfl ?_;refine Aa rfl rfl (congrArg _ ?_);simp
def IM (c:Cse) (v:Ty):Bool:=Lx c&&L4 v&&IT c.datas c.type v
theorem X4 {c:Cse} (h:Lx c=true):OkD c.datas/\AK c.datas c.type=true:=by
 simp only [Lx,Bool.and_eq_true] at h;exact ⟨OkD.of h.1.1.1.1,h.1.1.2⟩
theorem aH (c:Cse) (v:Ty):Ak Tryz.prog 55 [.agg (dCse c),.agg (dTyc v)] (.bool (IM c v)):=by
 have hC:=oP c;have hV:=rB v;have hO:=λh=>pU c.type c.rows c.datas (X4 (c:=c) h).1 v c.type (X4 h).2;unfold IM;generalize Lx c=b1 at *;generalize L4 v=b2 at *;generalize IT c.datas c.type v=b3 at *;obtain ⟨ds,⟨c1,c2,c3,c4⟩,rows⟩:=c;obtain ⟨s,n,x,ps⟩:=v;refine Af AH Tryz.func55 (by decide +kernel) rfl [1,2,3] rfl rfl ?_;refine AZ rfl ?_;refine Ah rfl hC ?_;refine AZ rfl ?_;refine AN rfl hV ?_;refine DO rfl ?_;refine Ad rfl (λh=>hO (by simp [An] at h;exact h.1)) (by simp [An]) ?_;refine DO rfl ?_;refine Aa rfl rfl (congrArg _ ?_);simp
mutual
theorem OA:∀t:Ty,(CW true t&&Eu Kn t)=CW false t
 | .mk s n x ps=>by
  have ih:=Mw ps;simp only [CW,Eu,Kn];by_cases h9:s=9
  ·subst h9;simp [Cl]
  ·have:Cl true s n x ps.length=Cl false s n x ps.length:=by simp [Cl,h9]
   have h:(s == 9)=false:=by simpa using h9
   rw [this,h,<- ih];cases Cl false s n x ps.length <;> simp
theorem Mw:∀l:List Ty,(Da true l&&E5 Kn l)=Da false l
 | []=>rfl
 | t::r=>by
  simp only [Da,E5,<- OA t,<- Mw r];cases CW true t <;> cases Eu Kn t <;> cases Da true r <;> simp
end
theorem iI (ds:List Dt):Hm ds=H0 ds:=by
 have hm:HQ ⟨[109],ds,[HT]⟩=E7 ⟨[109],ds,[HT]⟩:=by
  simp only [HQ,E7];have e1:ds.all Fw=ds.all IO:=by congr 1;exact funext lC
  have e2:[HT].all MS=[HT].all WW:=by decide +kernel
  rw [e1,e2];simp [F4]
 simp only [Hm,H0,hm];cases E7 ⟨[109],ds,[HT]⟩ <;> cases Cw ds ds <;> simp
theorem Ol (c:Cse):Bt c=Lx c:=by
 have hT:(Ce true c.type&&Eu Kn c.type)=FD c.type:=by
  rw [<- MU];simp only [Ce];rw [Bool.and_assoc,OA]
 have hR:c.rows.all (Tl c)=c.rows.all (gY c):=by
  congr 1;funext p;simp only [Tl,gY,eU]
 simp only [Bt,JC,Lx,hR,iI,<- hT];cases H0 c.datas <;> cases decide (c.rows.length<=5) <;> cases Ce true c.type <;> cases AK c.datas c.type <;> cases Eu Kn c.type <;> simp
theorem VZ (s n:Int) (x:Str) (k:Nat):HL s n x k=GC s n x k:=by
 simp only [HL,GC,F4]
 split
 ·rfl
 ·split
  ·congr 2;by_cases h0:n=0
   ·simp [h0]
   ·by_cases h1:n=1
    ·simp [h1]
    ·have:(n == 0||n == 1)=false:=by simp [h0,h1]
     rw [this];symm;simp;omega
  ·rfl
mutual
theorem Uu:∀v:Ty,Mf v=Dh v
 | .mk s n x ps=>by simp only [Mf,Dh,VZ,Sb ps];exact Bool.and_comm _ _
theorem Sb:∀l:List Ty,Uv l=CI l
 | []=>rfl
 | t::r=>by simp only [Uv,CI,Uu t,Sb r]
end
theorem R6 (v:Ty):MV v=L4 v:=by simp only [MV,L4,Uu]
theorem eX (c:Cse) (v:Ty):Ey c v=IM c v:=by simp only [Ey,IM,Ol,R6]
mutual
theorem Mm:∀(t:Ty) (l d:Int),0<=B8 t l d->B8 t l d+Aj t<=l
 | .mk _ _ _ ps,l,d,h=>by
  simp only [B8] at h ⊢;by_cases h0:l<1\/d<1
  ·rw [if_pos h0] at h;omega
  ·rw [if_neg h0] at h ⊢;have:=Li ps (l-1) (d-1) h;simp only [Aj];omega
theorem Li:∀(ts:List Ty) (l d:Int),0<=BV ts l d->BV ts l d+Ag ts<=l
 | [],l,d,h=>by simp [BV,Ag]
 | t::r,l,d,h=>by
  simp only [BV] at h ⊢;by_cases h0:0<=l
  ·rw [if_pos h0] at h ⊢;have h1:=Li r (B8 t l d) d h;have h2:=(L0 r (B8 t l d) d (Iw t l d).1)
   have h3:=Mm t l d (by omega);simp only [Ag];omega
  ·rw [if_neg h0] at h;omega
end
theorem UU {v:Ty} (h:Jt v=true):Aj v<=300:=by
 have h:=of_decide_eq_true h;have:=Mm v 300 110 h;omega
end Go.Hk
namespace Go.Hk
def Na (kp:List Nat):St->St
 | []=>[]
 | (i,b)::r=>bif Fo kp i then Na kp r else (i,b)::Na kp r
theorem W3 {kp:List Nat} {s:St} {i:Nat}:∀{W:St},lk (Na kp W++s) i=if i∈kp then lk s i else lk (W++s) i
 | []=>by simp [Na]
 | (k,b)::r=>by
  have ih:=W3 (kp:=kp) (s:=s) (i:=i) (W:=r);simp only [Na];cases hm:Fo kp k with
  | true =>
   simp only [cond_true,List.cons_append];rw [ih];by_cases hi:i∈kp
   ·rw [if_pos hi,if_pos hi]
   ·rw [if_neg hi,if_neg hi,A6 _ _ (λe:k=i=>hi (by rw [<- e];exact BT.1 hm))]
  | false =>
   simp only [cond_false,List.cons_append];by_cases hk:k=i
   ·subst hk;rw [Aw,if_neg (λh=>by rw [BT.2 h] at hm;cases hm),Aw]
   ·rw [A6 _ _ hk,A6 _ _ hk,ih]
def UX (W st:St) (l:List Nat):List Nat->Prop
 | []=>True
 | i::r=>(Fo l i=true/\lk W i=lk st i)/\UX W st l r
theorem Pa {W st:St} {l:List Nat}:∀{kp:List Nat},UX W st l kp->∀i∈kp,i∈l/\lk W i=lk st i
 | [],_,i,h=>by cases h
 | k::r,h,i,hi=>by
  rcases List.mem_cons.1 hi with rfl | hi
  ·exact ⟨BT.1 h.1.1,h.1.2⟩
  ·exact Pa h.2 i hi
structure bE where
 f:FuncId
 das:List D
 g:Option (Bool×Bool)
 ob:List Prop
 dst:Option Nat
 o:Oper
 all:List Oper
def aB (n:Nat) (env:Env) (todo:List DI):Option bE :=
 match Bk todo ([],[]) with
 | some (all,o,_)=>match Ct all env o,o.op with
  | some g,.call { callee:=.value (.func f),args:=⟨args⟩,.. }=>match Ir (An g) env args,BJ n o.dst with
   | some (ds,ob),true=>some ⟨f,ds,g,ob,o.dst,o,all⟩
   | _,_=>none
  | some g,.call { callee:=.value (.tmp t),args:=⟨args⟩,.. }=>match lk env t,Ir (An g) env args,BJ n o.dst with
   | some (.imm (.fn (.func f))),some (ds,ob),true=>some ⟨f,ds,g,ob,o.dst,o,all⟩
   | some (.fn (.func f) df dc),some (ds,ob),true=>some ⟨f,df++ds++dc,g,ob,o.dst,o,all⟩
   | _,_,_=>none
  | _,_=>none
 | none=>none
section
variable {P:Program} {n:Nat} {F:List Nat} {Q:DQ} {tt:TT} {env env':Env} {st st' st0 st1:St} {ids ids' fr:List Nat} {k todo todo':List DI} {I J:Imm} {μ:Mu} {w:World} {a:Act} {Pn:V->Prop} {d:D} {cx:Prop} {ob:List Prop} {σ τ1:List (Nat×Nat)} {das:List D}
theorem WV {c:bE} (h:aB n env todo=some c) (hob:AA c.ob):(∀f,∃todo',Bk todo f=some (c.all,c.o,todo'))/\Ct c.all env c.o=some c.g/\EA P c.o env c.f c.das (An c.g)/\BJ n c.dst=true/\(∀x,c.o.op ≠ .defer x)/\c.dst=c.o.dst:=by
 unfold aB at h;have hnext:∀{all:List Oper} {o:Oper} {t:List DI},Bk todo ([],[])=some (all,o,t)->∀f,∃todo',Bk todo f=some (all,o,todo'):=by
  intro all o t h f;rcases I6 h with ⟨r,k,rfl,_⟩ | ⟨r,fs,k,rfl,_⟩
  ·exact ⟨_,rfl⟩
  ·exact ⟨_,rfl⟩
 split at h
 ·rename_i all o t h1
  split at h
  ·rename_i g f args ts hg ho
   split at h
   ·rename_i ds ob ha hd;cases h;exact ⟨hnext h1,hg,Fx ho ha hob,hd,(λx hx=>by rw [ho] at hx;cases hx),rfl⟩
   ·cases h
  ·rename_i g t' args ts hg ho
   split at h
   ·rename_i f ds ob ht ha hd;cases h;exact ⟨hnext h1,hg,E9 ho ht ha hob,hd,(λx hx=>by rw [ho] at hx;cases hx),rfl⟩
   ·rename_i f df dc ds ob ht ha hd;cases h;exact ⟨hnext h1,hg,Is ho ht ha hob,hd,(λx hx=>by rw [ho] at hx;cases hx),rfl⟩
   ·cases h
  ·cases h
 ·cases h
theorem jP {all:List Oper} {o:Oper} {f:FuncId} {g:Option (Bool×Bool)} (hg:Ct all env o=some g) (hcx:An g) (hc:EA P o env f das (An g)) (hE:Bg P f (Gm (Ei σ) das) st0 (.ret d st1)) (hb:FX σ st st0)
  (hn:LO σ τ1 das st0 d st1 fr=true) (kp:List Nat) (hkp:UX (Eo (Bj σ++τ1) st1++Cy (Gt σ)) st (Gt σ) kp) :
  LD P Pn all o env st (Gt σ) fr (Na kp (Eo (Bj σ++τ1) st1++Cy (Gt σ))) (gD g (JU (Ei (Bj σ++τ1)) d)):=by
 intro I μ st2 ids1 a w hag hst hon;have hwant:=GO hg hon;refine ⟨λ_=>?_,λhw=>by rw [hwant.2 hcx] at hw;cases hw⟩;obtain ⟨xs,h1,h2⟩:=hc I μ a w (Bh hon) hcx;have hb':=GT hag hb;have hN:=NN hn;obtain ⟨q1,q2,q3⟩:=H5 hst hb' hN.args h1;rw [h2];refine (hE I _ w xs q1 q2).mono (λu w' hu=>?_) (λ_ _ h=>h.elim);obtain ⟨I',μ',r1,r2,r3,r4⟩:=hu;obtain ⟨ν,s1,s2,s3,s4⟩:=KY hst hb' hN r1 r2 r3 r4 q3;rw [<- KO] at s1 s4;have hsame:∀i,lk (Eo (Bj σ++τ1) st1++Cy (Gt σ)++st2) i=lk (Na kp (Eo (Bj σ++τ1) st1++Cy (Gt σ))++st2) i:=λi=>by
  rw [W3];by_cases hi:i∈kp
  ·rw [if_pos hi];obtain ⟨k1,k2⟩:=Pa hkp i hi;have hm:i∈(Eo (Bj σ++τ1) st1++Cy (Gt σ)).map (·.1):=by
    rw [List.map_append,Ky];exact List.mem_append.2 (.inr k1)
   rw [EJ hm,k2,hag i k1]
  ·rw [if_neg hi]
 refine ⟨I',ν,s1.congr hsame,?_,s3,s4.congr (λ_=>rfl) hsame⟩;cases g with
 | none=>exact s2
 | some p=>exact .guard _ _ _ _ (λ_=>s2) (λhn=>absurd hcx hn)
theorem B6 {c:bE} (σ τ1:List (Nat×Nat)) (kp:List Nat) {fr:List Nat} {nm:List Nat} (h:aB n env todo=some c) (hcx:An c.g) (hob:AA c.ob) (hE:Bg P c.f (Gm (Ei σ) c.das) st0 (.ret d st1)) (hb:FX σ st st0)
  (hn:LO σ τ1 c.das st0 d st1 fr=true) (hkp:UX (Eo (Bj σ++τ1) st1++Cy (Gt σ)) st (Gt σ) kp) (hnm:(Na kp (Eo (Bj σ++τ1) st1++Cy (Gt σ))).map (·.1)=nm)
  (h1:Bk todo (Gt σ,nm)=some (c.all,c.o,todo')) (hids:ids=fr++ids')
  (hk:G P n F Q todo' (BE c.dst (gD c.g (JU (Ei (Bj σ++τ1)) d)) env) (Na kp (Eo (Bj σ++τ1) st1++Cy (Gt σ))++st) ids'):G P n F Q todo env st ids:=by
 obtain ⟨_,q2,q3,q4,q5,q6⟩:=WV (P:=P) h hob;subst hids;rw [q6] at q4 hk;subst hnm;exact BC h1 (jP q2 hcx q3 hE hb hn kp hkp) q4 q5 hk
def gU:V->Bool
 | .tup xs=>D7 xs
 | .agg xs=>D7 xs
 | x=>F6 x
theorem bY {v:Value} {x:V} (h:gU x=true) (hr:RepV J v x):RepV I v x:=by
 have hm:∀{xs:List V} {i:Nat} {x:V},D7 xs=true->xs[i]?=some x->F6 x=true:=by
  intro xs
  induction xs with
  | nil=>intro i x _ h;simp at h
  | cons y r ih =>
   intro i x hs h;simp only [D7,Bool.and_eq_true] at hs;cases i with
   | zero=>simp at h;subst h;exact hs.1
   | succ i=>exact ih hs.2 (by simpa using h)
 cases hr with
 | tup cs xs hl hh=>exact .tup cs xs hl λi c x hc hx=>Eg (hm h hx) (hh i c x hc hx)
 | agg cs xs hl h1 hh=>exact .agg cs xs hl h1 λi c x hc hx=>Eg (hm h hx) (hh i c x hc hx)
 | bool b=>exact .bool b
 | int k n=>exact .int k n
 | str s l hs=>exact .str s l hs
 | _=>simp [gU,F6] at h
def fO (A:Asn):List D->List V->Prop
 | [],[]=>True
 | d::r,x::xs=>(mQ d=some x\/∃v,d = .raw v/\∀us I w bs,A.P us I w bs->∀J,I.le J->(∀b∈bs,J b=w.heap[b]?)->RepV J v x)/\fO A r xs
 | _,_=>False
theorem SO {A:Asn} {us:List Value} {bs:List Nat} (hA:A.P us I w bs) (hle:I.le J) (hJ:∀b∈bs,J b=w.heap[b]?):∀{ds:List D} {xs:List V} {vs:List Value},fO A ds xs->RepL I μ vs ds->RepVL J vs xs
 | [],[],vs,_,hr=>by
  have:=hr.1;cases vs with
  | nil=>exact .nil
  | cons=>simp at this
 | d::r,x::xs,[],_,hr=>by have:=hr.1;simp at this
 | d::r,x::xs,v::vs,h,hr=>by
  obtain ⟨h1,h2⟩:=hr.cons;refine .mk ?_ (SO hA hle hJ h.2 h2);rcases h.1 with ht | ⟨u,rfl,hu⟩
  ·exact (PK ht h1).mono hle
  ·have:=h1.rawInv;subst this;exact hu us I w bs hA J hle hJ
 | [],_::_,_,h,_=>h.elim
 | _::_,[],_,h,_=>h.elim
theorem PW {c:bE} (id:Nat) {A:Asn} {vs:List V} {v:V} (h:aB n env todo=some c) (hl:lk st id=some (some (.hp A))) (hv:An c.g->fO A c.das vs) (hE:An c.g->Ak P c.f vs v) (hs:gU v=true) (hob:AA c.ob)
  (h1:Bk todo ([id],[])=some (c.all,c.o,todo')) (hk:G P n F Q todo' (BE c.dst (gD c.g (.imm v)) env) st ids):G P n F Q todo env st ids:=by
 obtain ⟨_,q2,q3,q4,q5,q6⟩:=WV (P:=P) h hob;rw [q6] at q4 hk;refine BC (fr:=[]) (wr:=[]) (rd:=[id]) h1 (CT q2 λI μ st1 ids1 a w hag hst hops hcx=>?_) q4 q5 hk;obtain ⟨xs,h1,h2⟩:=q3 I μ a w hops hcx;rw [h2];have hl1:At st1 id (.hp A):=by unfold At;rw [hag id (by simp)];exact hl
 obtain ⟨gg,hgg,us,bs,rfl,hP⟩:=hst.blk id _ hl1;have hx:RepVL (Sd w) xs.toList vs:=SO hP (λb o h=>hst.imm b o h) (λb _=>rfl) (hv hcx) h1;have hst0:StRep (Sd w) μ [] [] w:={ imm:=λb o h=>h,blk:=λi b h=>by simp [At,lk] at h,apart:=λi b g k h=>by simp [At,lk] at h,inj:=λi j bi bj gi gj k h=>by simp [At,lk] at h,nodup:=.nil,idsFree:=λi h=>by cases h }
 have hno:∀b,¬Bq μ [] b:=λb ⟨i,bi,g,h,_⟩=>by simp [At,lk] at h
 refine (hE hcx (Sd w) μ w xs hst0 hx.imm).mono (λu w' hu=>?_) (λ_ _ h=>h.elim);obtain ⟨I',μ',r1,r2,r3,r4⟩:=hu;have hlt:∀b o,I b=some o->b<w.heap.size:=λb o h=>by
  have:=hst.imm b o h;exact (Array.getElem?_eq_some_iff.1 this).1
 refine ⟨I,μ,hst.other r4.size (λb o h=>r4.block b (hlt b o h) (hno b)) (λb ho=>r4.block b (Eb hst ho) (hno b)),?_,Mu.le_refl μ,{ imm:=Imm.le_refl I,os:=r4.os,tape:=r4.tape,output:=r4.output,size:=r4.size,block:=λb hb _=>r4.block b hb (hno b),fresh:=λ_ _ h=>h,old:=λ_ _ _=>rfl }⟩;exact .imm _ _ (bY hs r1.immInv)
end
end Go.Hk
namespace Go.Hk
def lX (e:TypeId) (C:Asn):Asn where
 P:=λvs I w bs=>∃c u us bs',vs=[.slice (some ⟨c,0,none⟩) 1 1]/\us[0]?=some u/\w.heap[c]?=some (.cells #[u] e (0,0))/\u.oneCell'=true/\C.P us I w bs'/\c∉bs'/\bs=c::bs'
 mono:=λh ⟨c,u,us,bs',h1,h2,h3,h4,h5,h6⟩=>⟨c,u,us,bs',h1,h2,h3,h4,C.mono h h5,h6⟩
 loc:=λh ⟨c,u,us,bs',h1,h2,h3,h4,h5,h6,h7⟩=>⟨c,u,us,bs',h1,h2,(h c (by simp [h7])).trans h3,h4,C.loc (λk hk=>h k (by simp [h7,hk])) h5,h6,h7⟩
structure PBh where
 e:TypeId
 dst:Option Nat
 todo:List DI
def pH (tt:TT) (n:Nat) (env:Env) (j q:Nat) (todo:List DI):Option PBh :=
 match Bk todo ([j],[q,j]) with
 | some (_,o,todo')=>match o.guard,o.op with
  | none,.buildSlice t m ⟨[(k,x)]⟩=>match lk tt t,D2 env x,BJ n o.dst with
   | some { sh:=.sl e,.. },some (.hv i l),true=>match lk tt e with
    | some ti=>match Nat.beq m 1,Nat.beq k 0,Nat.beq i j,Nat.beq l 0,Nat.beq ti.size 1 with
     | true,true,true,true,true=>some ⟨e,o.dst,todo'⟩
     | _,_,_,_,_=>none
    | none=>none
   | _,_,_=>none
  | _,_=>none
 | none=>none
structure PBo where
 e:TypeId
 es:List (List V)
 sz:Nat
 ob:List Prop
 dst:Option Nat
 todo:List DI
def pG (tt:TT) (n:Nat) (env:Env) (q:Nat) (todo:List DI):Option PBo :=
 match Bk todo ([],[q]) with
 | some (_,o,todo')=>match o.guard,o.op with
  | none,.buildSlice t m ⟨parts⟩=>match lk tt t,BJ n o.dst with
   | some { sh:=.sl e,.. },true=>match lk tt e with
    | some i=>match Ia True env i.size 0 parts,Nat.beq m parts.length,Nat.ble (m*i.size) 16777216,Nat.blt 0 i.size,Nat.blt 0 m with
     | some (es,o'),true,true,true,true=>some ⟨e,es,i.size,o',o.dst,todo'⟩
     | _,_,_,_,_=>none
    | none=>none
   | _,_=>none
  | _,_=>none
 | none=>none
section
variable {P:Program} {n:Nat} {F:List Nat} {Q:DQ} {tt:TT} {env env':Env} {st st' st0 st1:St} {ids ids' fr:List Nat} {k todo todo':List DI} {I J:Imm} {μ:Mu} {w:World} {a:Act} {Pn:V->Prop} {d:D} {cx:Prop} {ob:List Prop}
theorem RU {t e:TypeId} {ti:TyI} (hu:P.underlying t=some (.slice e)) (hty:TyOk P e ti) (hsz:ti.size=1) (u:Value) (h1:u.oneCell'=true) :
  (Instr.buildSlice t 1 #[(0,u)]).run P w = .ok (.slice (some ⟨w.heap.size,0,none⟩) 1 1) (w.alloc (.cells #[u] e)):=by
 obtain ⟨inf,zv,hi1,hi2,_,hi4,hi5,hi6⟩:=hty.info;have hfill:∀A:Array Value,A.size=1->Instr.fill (λi=>some (i*1,1)) A [(0,u)]=some #[u]:=by
  intro A hA;obtain ⟨⟨x⟩,rfl⟩:∃l:List Value,A=⟨l⟩:=⟨A.toList,rfl⟩
  ·simp at hA
  ·rename_i y r;have hr:r=[]:=by cases r with | nil=>rfl | cons=>simp at hA
   subst hr;simp [Instr.fill,FW h1]
 simp only [Instr.buildSlice,Sem.run_bind,run_underlying hu,hty.sizeOf w,Result.andThen_ok,hsz,Sem.run_pure,zeroValue,typeInfo,run_program,hi1,hi4];simp only [Nat.mul_one,show ¬((1:Nat) > 2 ^ 24) by decide,if_false,Nat.one_ne_zero,Sem.run_bind,run_program,Result.andThen_ok,hi1,hi4,Sem.run_pure];have:=hfill ((Array.range 1).map λk=>zv.cells[k % zv.cells.size]!) (by simp);simp only [Nat.mul_one] at this;rw [this];simp only [newRow,Sem.run_bind,run_newObj,Result.andThen_ok,Sem.run_pure];rfl
theorem kH (htt:TTok P tt) (j q:Nat) {C:Asn} {c:PBh} (h:pH tt n env j q todo=some c) (hl:lk st j=some (some (.hp C)))
  (hk:G P n F Q c.todo (BE c.dst (.hv q 0) env) ((q,some (.hp (lX c.e C)))::(j,none)::st) ids'):G P n F Q todo env st (q::ids'):=by
 unfold pH at h
 split at h
 ·rename_i all o todo' h1
  split at h
  ·rename_i t m k x hgd hop
   split at h
   ·rename_i e _ _ _ _ i l ht hx hd
    split at h
    ·rename_i ti hti
     split at h
     ·rename_i hm hk0 hi hl0 hsz;cases h;have hm:=Nat.eq_of_beq_eq_true hm;have hk0:=Nat.eq_of_beq_eq_true hk0;have hi:=Nat.eq_of_beq_eq_true hi;have hl0:=Nat.eq_of_beq_eq_true hl0;have hsz:=Nat.eq_of_beq_eq_true hsz;subst hm;subst hk0;subst hi;subst hl0;have hk:G P n F Q todo' (BE o.dst (.hv q 0) env) ([(q,some (.hp (lX e C))),(i,none)]++st) ids':=hk;refine BC (fr:=[q]) (wr:=[(q,some (.hp (lX e C))),(i,none)]) (rd:=[i]) h1 ?_ hd (λc hc=>by rw [hop] at hc;cases hc) hk;intro I μ st1 ids1 a w hag hst hon;refine ⟨λ_=>?_,λhw=>by rw [AF hgd] at hw;cases hw⟩;have hops:=Bh hon;rw [hop] at hops;have hl1:At st1 i (.hp C):=by unfold At;rw [hag i (by simp)];exact hl
      obtain ⟨gg,hg',us,bs,rfl,hP⟩:=hst.blk i _ hl1;obtain ⟨hu0,hone⟩:us[0]?=some (a.eval x)/\(a.eval x).oneCell'=true:=by
       have:=hops x (by simp [Op.operands]) _ hx;generalize a.eval x=v at this;cases this with
       | hv _ _ _ us' bs' hm hi' h1 =>
        rw [hg'] at hm;have:us=us':=by
         simp only [Nw,Option.some.injEq,Value.tuple.injEq,Array.mk.injEq,List.cons.injEq,Value.agg.injEq,and_true] at hm;simpa using hm.1
        exact ⟨by rw [this];exact hi',h1⟩
      have hrun:(execOp a.eval o).run P w = .ok (.value (.slice (some ⟨w.heap.size,0,none⟩) 1 1)) (w.alloc (.cells #[a.eval x] e)):=by
       simp only [execOp,hop,Sem.run_bind,List.map_toArray,List.map_cons,List.map_nil,RU (htt.sh ht) (htt e ti hti) hsz (a.eval x) hone,Result.andThen_ok,Sem.run_pure]
      rw [hrun];have hnb:w.heap.size∉bs:=λhb=>by
       have:=(hst.apart i _ _ _ hl1 hg' (AX.2 hb)).2;omega
      have hbs:∀b∈bs,b<w.heap.size:=λb hb=>(hst.apart i _ _ _ hl1 hg' (AX.2 hb)).2;have hgrow:w.grownBy (w.alloc (.cells #[a.eval x] e)) none:=World.grownBy_alloc w _ none;obtain ⟨μ',q1,q2,q3,q4⟩:=StRep.renew (id':=q) (ids:=ids1) (rd:=[i]) (v':=Nw [.slice (some ⟨w.heap.size,0,none⟩) 1 1] (w.heap.size::bs)) (blk':=.hp (lX e C)) hst hgrow (λb hb=>by cases hb) (λb hb=>by
       rcases List.mem_cons.1 (AX.1 hb) with rfl | hb
       ·exact ⟨by simp,.inl (Nat.le_refl _)⟩
       ·exact ⟨Nat.lt_of_lt_of_le (hbs b hb) hgrow.size,.inr ⟨i,_,_,by simp,hl1,hg',AX.2 hb⟩⟩)
       (λμ'=>⟨_,_,rfl,w.heap.size,a.eval x,us,bs,rfl,hu0,Ej w _,hone,C.loc (λk hk=>GN w _ (hbs k hk)) hP,hnb,rfl⟩)
      exact ⟨I,μ',q3,.hv _ q 0 _ _ q1 rfl rfl,q2,q4⟩
     ·cases h
    ·cases h
   ·cases h
  ·cases h
 ·cases h
theorem qZ (htt:TTok P tt) {o:Oper} {t e:TypeId} {i:TyI} {m:Nat} {parts:List (Nat×Operand)} (ho:o.op = .buildSlice t m ⟨parts⟩) (hu:P.underlying t=some (.slice e)) (hi:lk tt e=some i) {es:List (List V)} {o':List Prop}
  (hel:Ia True env i.size 0 parts=some (es,o')) (hob:AA o') (hn':m=parts.length) (hbig':m*i.size<=16777216) (hsz:0<i.size) (hm0:0<m) (hop:D5 I μ env a o.op) :
  ∃R:List (List Value),(execOp a.eval o).run P w = .ok (.value (.slice (some ⟨w.heap.size,0,none⟩) m m)) (w.alloc (.cells R.flatten.toArray e))/\R.length=m/\es.length=m/\(∀c∈R,c.length=i.size)/\(∀c∈es,c.length=i.size) /\
   ∀(k:Nat) (c:List Value) (x:List V),R[k]?=some c->es[k]?=some x->RepVL I c x/\∀u∈c,u.oneCell'=true:=by
 have hty:=htt e i hi;rw [ho] at hop;obtain ⟨inf,zv,hi1,hi2,_,hi4,hi5,hi6⟩:=hty.info;obtain ⟨q1,q2,q3⟩:=Ku (a:=a) (I:=I) (μ:=μ) trivial parts 0 es o' hel hob (λp hp=>hop p.2 (by simp only [Op.operands];exact List.mem_map.2 ⟨p,hp,rfl⟩));have hz0:m*i.size≠0:=by have:=Nat.mul_pos hm0 hsz;omega
 obtain ⟨A,hA,hA1⟩:∃A:List Value,A.length=m*i.size/\(Array.range (m*i.size)).map (λk=>zv.cells[k % zv.cells.size]!)=A.toArray :=
  ⟨((Array.range (m*i.size)).map (λk=>zv.cells[k % zv.cells.size]!)).toList,by simp,rfl⟩
 obtain ⟨c1,c2,c3⟩:=Mb i.size m A hA;have hq:∀p∈(parts.map λ(p:Nat×Operand)=>(p.1,a.eval p.2)),∃seg,(Gz i.size m A)[p.1]?=some seg/\p.2.cells.size=seg.length:=by
  intro p hp;obtain ⟨q,hm,rfl⟩:=List.mem_map.1 hp;obtain ⟨k,hk⟩:=List.getElem?_of_mem hm;have h1:=q2 k q hk;have hlt:k<parts.length:=(List.getElem?_eq_some_iff.1 hk).1;have hlt2:k<es.length:=by rw [q1];exact hlt
  obtain ⟨_,r2,_,_⟩:=q3 k q es[k] hk (List.getElem?_eq_getElem hlt2);have hlt3:q.1<(Gz i.size m A).length:=by rw [c2];omega
  exact ⟨_,List.getElem?_eq_getElem hlt3,by rw [r2,c3 _ (List.getElem_mem hlt3)]⟩
 have hplace:∀k seg,(Gz i.size m A)[k]?=some seg->some (k*i.size,i.size)=some (((Gz i.size m A).take k).flatten.length,seg.length):=by
  intro k seg hs;have hlt:k<m:=by rw [<- c2];exact (List.getElem?_eq_some_iff.1 hs).1
  rw [AV (sz:=i.size) (λc hc'=>c3 c (List.mem_of_mem_take hc')),c3 seg (List.mem_of_getElem? hs)];rw [List.length_take,c2,Nat.min_eq_left (by omega)]
 have hfill:=KQ (λk=>some (k*i.size,i.size)) (parts.map λ(p:Nat×Operand)=>(p.1,a.eval p.2)) _ hplace hq;rw [c1] at hfill;obtain ⟨R,hR⟩:∃R,(parts.map λ(p:Nat×Operand)=>(p.1,a.eval p.2)).foldl (λs p=>s.set p.1 p.2.cells.toList) (Gz i.size m A)=R:=⟨_,rfl⟩
 rw [hR] at hfill;have hRl:R.length=m:=by rw [<- hR,Ek,c2]
 have hRk:∀(k:Nat) (c:List Value),R[k]?=some c->∃p,parts[k]?=some p/\c=(a.eval p.2).cells.toList:=by
  intro k c hk;have hlt:k<parts.length:=by rw [<- hn',<- hRl];exact (List.getElem?_eq_some_iff.1 hk).1
  have hp:parts[k]?=some parts[k]:=List.getElem?_eq_getElem hlt;have h1:(parts[k]).1=k:=by have:=q2 k _ hp;omega
  rw [<- hR] at hk;obtain ⟨r1,_⟩:=HZ _ _ k c hk;refine ⟨_,hp,r1 _ (List.mem_map.2 ⟨parts[k],List.getElem_mem hlt,by rw [h1]⟩) λu hu=>?_⟩;obtain ⟨q,hm,he⟩:=List.mem_map.1 hu;simp only [Prod.mk.injEq] at he;obtain ⟨k',hk'⟩:=List.getElem?_of_mem hm;have:=q2 k' q hk';have e:k'=k:=by omega
  subst e;rw [hp] at hk';have hk':=Option.some.inj hk';rw [hk',<- he.2]
 refine ⟨R,?_,hRl,by omega,λc hc'=>?_,λc hc'=>?_,λk c x hk hx=>?_⟩
 ·have hno:¬m*i.size > 2 ^ 24:=by omega
  simp only [execOp,ho,Instr.buildSlice,Sem.run_bind,run_underlying hu,hty.sizeOf w,Result.andThen_ok,hno,if_false,Sem.run_pure,if_neg hz0,zeroValue,typeInfo,run_program,hi1,hi4];rw [hA1,List.map_toArray,hfill];simp only [newRow,Sem.run_bind,run_newObj,Result.andThen_ok,Sem.run_pure];rfl
 ·obtain ⟨k,hk⟩:=List.getElem?_of_mem hc';obtain ⟨p,hp,rfl⟩:=hRk k c hk;have hlt2:k<es.length:=by rw [q1];exact (List.getElem?_eq_some_iff.1 hp).1
  obtain ⟨_,r2,_,_⟩:=q3 k p _ hp (List.getElem?_eq_getElem hlt2);simpa using r2
 ·obtain ⟨k,hk⟩:=List.getElem?_of_mem hc';have hlt2:k<parts.length:=by rw [<- q1];exact (List.getElem?_eq_some_iff.1 hk).1
  exact (q3 k _ c (List.getElem?_eq_getElem hlt2) hk).2.2.1
 ·obtain ⟨p,hp,rfl⟩:=hRk k c hk;obtain ⟨r1,_,_,r4⟩:=q3 k p x hp hx;exact ⟨r1,r4⟩
theorem kG (htt:TTok P tt) (q:Nat) {c:PBo} (h:pG tt n env q todo=some c) (hob:AA c.ob)
  (hk:G P n F Q c.todo (BE c.dst (.own q c.es.length) env) ((q,some (.row c.e c.sz c.es))::st) ids'):G P n F Q todo env st (q::ids'):=by
 unfold pG at h
 split at h
 ·rename_i all o todo' h1
  split at h
  ·rename_i t m parts hgd hop
   split at h
   ·rename_i e _ _ _ _ ht hd
    split at h
    ·rename_i i hi
     split at h
     ·rename_i es o' hel hm hbig hpos hm0;cases h;simp only at hob hk;have hk:G P n F Q todo' (BE o.dst (.own q es.length) env) ([(q,some (.row e i.size es))]++st) ids':=hk;refine BC (fr:=[q]) (wr:=[(q,some (.row e i.size es))]) (rd:=[]) h1 ?_ hd (λc hc=>by rw [hop] at hc;cases hc) hk;intro I μ st1 ids1 a w hag hst hon;refine ⟨λ_=>?_,λhw=>by rw [AF hgd] at hw;cases hw⟩;have hpos:=show 0<i.size by simpa [Nat.blt_eq] using hpos
      obtain ⟨R,r1,r2,r3,r4,r5,r6⟩:=qZ (w:=w) htt hop (htt.sh ht) hi hel hob (Nat.eq_of_beq_eq_true hm) (Nat.le_of_ble_eq_true hbig) hpos (by simpa [Nat.blt_eq] using hm0) (Bh hon);rw [r1];have hfl:RepVL I R.flatten es.flatten:=by
       refine ⟨by rw [AV r4,AV r5,r2,r3],λj u x hu hx=>?_⟩;have hlt:j<m*i.size:=by rw [<- r2,<- AV r4];exact (List.getElem?_eq_some_iff.1 hu).1
       have h1:j / i.size<m:=Nat.div_lt_of_lt_mul (by rw [Nat.mul_comm];exact hlt);have h2:j % i.size<i.size:=Nat.mod_lt _ hpos;have e1:R[j / i.size]?=some R[j / i.size]:=List.getElem?_eq_getElem (by omega);have e2:es[j / i.size]?=some es[j / i.size]:=List.getElem?_eq_getElem (by omega);obtain ⟨p1,p2⟩:=r6 _ _ _ e1 e2;have l1:=r4 _ (List.mem_of_getElem? e1);have l2:=r5 _ (List.mem_of_getElem? e2);have f1:=C5 r4 _ _ (j % i.size) _ e1 (List.getElem?_eq_getElem (by omega));have f2:=C5 r5 _ _ (j % i.size) _ e2 (List.getElem?_eq_getElem (by omega));have ej:j / i.size*i.size+j % i.size=j:=by rw [Nat.mul_comm,Nat.div_add_mod]
       rw [ej] at f1 f2;rw [f1] at hu;rw [f2] at hx;cases hu;cases hx;exact p1.2 _ _ _ (List.getElem?_eq_getElem (by omega)) (List.getElem?_eq_getElem (by omega))
      have hone:∀c∈es,∀x∈c,V.one x=true:=λc hc x hx=>by
       obtain ⟨k,hk⟩:=List.getElem?_of_mem hc;obtain ⟨l,hl⟩:=List.getElem?_of_mem hx;have hlt:k<R.length:=by rw [r2,<- r3];exact (List.getElem?_eq_some_iff.1 hk).1
       obtain ⟨p1,p2⟩:=r6 k _ c (List.getElem?_eq_getElem hlt) hk;have hl2:l<(R[k]).length:=by rw [p1.1];exact (List.getElem?_eq_some_iff.1 hl).1
       exact (p1.2 l _ x (List.getElem?_eq_getElem hl2) hl).oneV (p2 _ (List.getElem_mem hl2))
      have hcm:m<=maxLen:=by
       have hb:=Nat.le_of_ble_eq_true hbig;have:m*1<=m*i.size:=Nat.mul_le_mul_left m hpos;unfold maxLen;omega
      have hown:(w.alloc (.cells R.flatten.toArray e)).ownsRow 0 e i.size (.slice (some ⟨w.heap.size,0,none⟩) m m) es.length R.flatten:=by
       rw [r3];refine ⟨by rw [AV r4,r2],.inr ⟨w.heap.size,m,R.flatten.toArray,rfl,Nat.zero_le _,Ej w _,Nat.le_refl _,hcm,by simp [AV r4,r2],?_⟩⟩;have:R.flatten.toArray.toList=R.flatten:=rfl;rw [this,List.take_of_length_le (by rw [AV r4,r2];exact Nat.le_refl _)]
      obtain ⟨μ',q1,q2,q3,q4⟩:=StRep.renew (id':=q) (ids:=ids1) (rd:=[]) (v':=.slice (some ⟨w.heap.size,0,none⟩) m m) (blk':=.row e i.size es) hst (World.grownBy_alloc w _ none) (λb hb=>by cases hb) (λb hb=>by
       have:w.heap.size=b:=hb;subst this;exact ⟨by simp,.inl (Nat.le_refl _)⟩) (λμ'=>⟨R.flatten,hown,hfl,r5,hone,hpos⟩)
      refine ⟨I,μ',q3,?_,q2,q4⟩;rw [r3];exact .own q m _ m q1
     ·cases h
    ·cases h
   ·cases h
  ·cases h
 ·cases h
end
end Go.Hk
namespace Go.Hk
def Vq (w:World) (e:TypeId) (sz:Nat) (base:Value) (len:Nat) (xs news:List Value) (v':Value) (w':World):Prop :=
 w'.ownsRow 0 e sz v' len (xs++news)/\w.grownBy w' base.ownBlock/\(∀b,v'.ownBlock=some b->base.ownBlock=some b\/w.heap.size<=b)
theorem Sa {P:Program} {w:World} {t ty e:TypeId} {i:TyI} (hu:P.underlying t=some (.slice e)) (hi:TyOk P e i) (hz:(Nat.beq i.zero.length i.size&&Nat.blt 0 i.size)=true) {v:Value} {n m c:Nat} {xs news:List Value} (hown:w.ownsRow 0 e i.size v n xs)
  {ad:Addr} (hl:news.length=m*i.size) (hnews:∀j u,news[j]?=some u->w.cell? (ad.add j)=some u) (h1:∀u∈news,u.oneCell'=true) (h63:n+m<=maxLen) (hbytes:(n+m)*i.bytes<=140737488355328) :
  ∃v' w',(Builtin.append_ #[t,t] ty #[v,.slice (some ad) m c]).run P w = .ok v' w'/\Vq w e i.size v (n+m) xs news v' w':=by
 obtain ⟨inf,z,z1,z2,z3,z4,z5,z6⟩:=hi.info;simp only [Bool.and_eq_true,Nat.blt_eq] at hz;have hzl:z.cells.size=i.size:=by
  have:=(z5 (λ_=>none) noMu).1;rw [Nat.eq_of_beq_eq_true hz.1] at this;simpa using this
 have hl2:(xs++news).length=(n+m)*i.size:=by rw [List.length_append,hown.1,hl,Nat.add_mul]
 rcases hown.2 with ⟨rfl,rfl⟩ | ⟨g,cap,cur,rfl,_,hheap,hle,hcm,hcs,htake⟩
 ·have hx:xs=[]:=List.eq_nil_of_length_eq_zero (by rw [hown.1];simp);subst hx;obtain ⟨v',w',q1,q2,q3,_⟩:=run_append_own (P:=P) w w.heap.size t ty e inf z i.size i.bytes hu z1 z4 z2 z3 hzl hz.2 (.slice none 0 0) 0 [] (World.ownsRow_nil w _ e i.size) ad m c news hl hnews h1 h63 hbytes (Nat.le_refl _);exact ⟨v',w',q1,⟨q2.1,q2.2.imp id λ⟨g,cap,cur,a1,_,a2⟩=>⟨g,cap,cur,a1,Nat.zero_le _,a2⟩⟩,q3,λb hb=>.inr (q2.lt b hb).1⟩
 ·by_cases hroom:n+m<=cap
  ·have hfit:n*i.size+news.length<=cur.size:=by rw [hl,hcs,<- Nat.add_mul];exact Nat.mul_le_mul_right _ hroom
   have hr:=run_append_room (P:=P) w t ty e inf hu z1 g n cap cur hheap ad m c news (by rw [z2];exact hl) hnews h1 hroom (by rw [z2];exact hfit);rw [z2] at hr;refine ⟨_,_,hr,⟨hl2,.inr ⟨g,cap,_,rfl,Nat.zero_le _,setRow_heap w g cur _ e _ hheap,hroom,hcm,?_,?_⟩⟩,⟨rfl,rfl,rfl,by simp,λk _ hk=>setRow_other w g k _ (λe=>hk (by simp [e,Value.ownBlock]))⟩,λb hb=>.inl hb⟩
   ·simp only [List.size_toArray,List.length_append,List.length_take,List.length_drop,Array.length_toList];omega
   ·rw [htake,<- hl2];exact List.take_left
  ·have hsmall:n+m<=9223372036854775807:=by simp only [maxLen] at h63;omega
   have hr':=run_append_grow (P:=P) w t ty e inf z hu z1 z4 ⟨g,0,none⟩ n cap xs (by rw [z2];exact hown.1) (hown.cells (g:=g) rfl) ad m c news (by rw [z2];exact hl) hnews (by omega) (by omega) (by rw [z3];exact growslice_fits (by omega) hbytes);have hge:=grownCap_ge w (n+m) cap e;have hcm':grownCap w (n+m) cap e<=maxLen:=grownCap_le_maxLen w _ cap e h63;refine ⟨_,_,hr',⟨hl2,.inr ⟨w.heap.size,_,_,rfl,Nat.zero_le _,Ej w.drew _,hge,hcm',?_,?_⟩⟩,⟨rfl,rfl,rfl,by simp,λk hk _=>GN w.drew _ hk⟩,λb h=>by simp [Value.ownBlock] at h;exact .inr (by omega)⟩
   ·simp only [Array.size_append,List.size_toArray,size_zeroCells,hzl,hown.1,hl,<- Nat.add_mul];congr 1;omega
   ·simp only [Array.toList_append];rw [<- hl2];exact List.take_left
def mE (A B A':Asn) (e:TypeId) (sz bytes:Nat) (base:Value):Prop:=∀us vs I w b1 b2,A.P us I w b1->B.P vs I w b2->(∀b∈b1,b∉b2)->∃n m c xs news ad,
 w.ownsRow 0 e sz base n xs/\(∀k,base.ownBlock=some k->k∈b1)/\vs[0]?=some (.slice (some ad) m c)/\news.length=m*sz/\(∀j u,news[j]?=some u->w.cell? (ad.add j)=some u)/\(∀u∈news,u.oneCell'=true) /\
 (n+m<=maxLen/\(n+m)*bytes<=140737488355328) /\
 ∀v' w',Vq w e sz base (n+m) xs news v' w'->∃bs,(∀b∈bs,(b∈b1\/b∈b2)\/(w.heap.size<=b/\b<w'.heap.size))/\A'.P [v'] I w' bs
def mD (A A':Asn) (e:TypeId) (sz bytes:Nat) (base:Value) (es2:List (List V)):Prop:=(∀c∈es2,c.length=sz)/\∀us I w b1,A.P us I w b1->∃n xs,
 w.ownsRow 0 e sz base n xs/\(∀k,base.ownBlock=some k->k∈b1)/\(n+es2.length<=maxLen/\(n+es2.length)*bytes<=140737488355328) /\
 ∀v' w' news,RepVL I news es2.flatten->(∀u∈news,u.oneCell'=true)->Vq w e sz base (n+es2.length) xs news v' w'->∃bs,(∀b∈bs,b∈b1\/(w.heap.size<=b/\b<w'.heap.size))/\A'.P [v'] I w' bs
structure PAp where
 base:Value
 e:TypeId
 sz:Nat
 bytes:Nat
 es2:List (List V)
 dst:Option Nat
 todo:List DI
def pK (tt:TT) (n:Nat) (env:Env) (id q id':Nat) (todo:List DI):Option PAp :=
 match Bk todo ([id,q],[id',id,q]) with
 | some (_,o,todo')=>match o.guard,o.op with
  | none,.call { callee:=.builtin .append,args:=⟨[x,y]⟩,argTypes:=⟨[t,t']⟩ }=>match Nat.beq t t',lk tt t,D2 env x,D2 env y with
   | true,some { sh:=.sl e,.. },some (.raw v),some (.hv i l)=>match lk tt e with
    | some ti=>match Nat.beq ti.zero.length ti.size&&Nat.blt 0 ti.size,Nat.beq i q,Nat.beq l 0,BJ n o.dst with
     | true,true,true,true=>some ⟨v,e,ti.size,ti.bytes,[],o.dst,todo'⟩
     | _,_,_,_=>none
    | none=>none
   | _,_,_,_=>none
  | _,_=>none
 | none=>none
def pJ (tt:TT) (n:Nat) (env:Env) (id id':Nat) (todo:List DI):Option PAp :=
 match Bk todo ([id],[id',id]) with
 | some (_,o,todo')=>match o.guard,o.op with
  | none,.call { callee:=.builtin .append,args:=⟨[x,y]⟩,argTypes:=⟨[t,t']⟩ }=>match Nat.beq t t',lk tt t,D2 env x,D2 env y with
   | true,some { sh:=.sl e,.. },some (.raw v),some (.imm (.sl (e1::es2)))=>match lk tt e with
    | some ti=>match Nat.beq ti.zero.length ti.size&&Nat.blt 0 ti.size,BJ n o.dst with
     | true,true=>some ⟨v,e,ti.size,ti.bytes,e1::es2,o.dst,todo'⟩
     | _,_=>none
    | none=>none
   | _,_,_,_=>none
  | _,_=>none
 | none=>none
structure sI where
 b:Nat
 off:Nat
 k:Nat
 todo:List DI
def VY (tt:TT) (env:Env) (id:Nat) (todo:List DI):Option sI :=
 match Bk todo ([id],[id]) with
 | some (_,o,todo')=>match o.guard,o.dst,o.op with
  | none,none,.store t p x=>match lk tt t,D2 env p,D2 env x with
   | some i,some (.raw (.pointer (some ⟨b,off,none⟩))),some (.hv j k)=>match Nat.beq i.size 1,Nat.beq j id with
    | true,true=>some ⟨b,off,k,todo'⟩
    | _,_=>none
   | _,_,_=>none
  | _,_,_=>none
 | none=>none
def Sf (A A':Asn) (b off k:Nat):Prop:=∀us I w bs,A.P us I w bs->b∈bs/\∃cur t,w.heap[b]?=some (.cells cur t (0,0))/\off+1<=cur.size /\
 ∀u,us[k]?=some u->u.oneCell'=true->A'.P us I (w.setRow b (cur.toList.take off++[u]++cur.toList.drop (off+1)).toArray) bs
structure PRn where
 eq:Bool
 nil:Bool
 dst:Option Nat
 todo:List DI
def pB (tt:TT) (n:Nat) (env:Env) (todo:List DI):Option PRn :=
 match Bk todo ([],[]) with
 | some (_,o,todo')=>match o.guard,o.op with
  | none,.binOp .eql t x y _=>match lk tt t,D2 env x,D2 env y,BJ n o.dst with
   | some { sh:=.sl _,.. },some (.raw (.slice ad _ _)),some .nils,true=>some ⟨true,ad.isNone,o.dst,todo'⟩
   | _,_,_,_=>none
  | none,.binOp .neq t x y _=>match lk tt t,D2 env x,D2 env y,BJ n o.dst with
   | some { sh:=.sl _,.. },some (.raw (.slice ad _ _)),some .nils,true=>some ⟨false,ad.isNone,o.dst,todo'⟩
   | _,_,_,_=>none
  | _,_=>none
 | none=>none
section
variable {P:Program} {n:Nat} {F:List Nat} {Q:DQ} {tt:TT} {env env':Env} {st st' st0 st1:St} {ids ids' fr:List Nat} {k todo todo':List DI} {I J:Imm} {μ:Mu} {w:World} {a:Act} {Pn:V->Prop} {d:D} {cx:Prop} {ob:List Prop}
theorem RepD.hvInv {v:Value} {j i:Nat} {us:List Value} {bs:List Nat} (hm:μ j=some (Nw us bs)) (h:RepD I μ v (.hv j i)):us[i]?=some v/\v.oneCell'=true:=by
 cases h with
 | hv _ _ _ us' bs' hm' hi' h1 =>
  rw [hm] at hm';have:us=us':=by
   simp only [Nw,Option.some.injEq,Value.tuple.injEq,Array.mk.injEq,List.cons.injEq,Value.agg.injEq,and_true] at hm';simpa using hm'.1
  exact ⟨by rw [this];exact hi',h1⟩
theorem HM {w:World} {e:TypeId} {sz n:Nat} {v:Value} {xs:List Value} (h:w.ownsRow 0 e sz v n xs):v.oneCell'=true:=by
 rcases h.2 with ⟨rfl,_⟩ | ⟨g,cap,cur,rfl,_⟩ <;> rfl
theorem kJ (htt:TTok P tt) (id q id':Nat) {A B:Asn} (A':Asn) {c:PAp} (h:pK tt n env id q id' todo=some c) (hl:lk st id=some (some (.hp A))) (hlq:lk st q=some (some (.hp B))) (hne:id≠q) (hA:mE A B A' c.e c.sz c.bytes c.base)
  (hk:G P n F Q c.todo (BE c.dst (.hv id' 0) env) ((id',some (.hp A'))::(id,none)::(q,none)::st) ids'):G P n F Q todo env st (id'::ids'):=by
 unfold pK at h
 split at h
 ·rename_i all o todo' h1
  split at h
  ·rename_i x y t t' hgd hop
   split at h
   ·rename_i e _ _ _ _ v i l htt' ht hx hy;have:=Nat.eq_of_beq_eq_true htt';subst this
    split at h
    ·rename_i ti hti
     split at h
     ·rename_i hz hi hl0 hd;cases h;simp only at hA hk;have hi:=Nat.eq_of_beq_eq_true hi;have hl0:=Nat.eq_of_beq_eq_true hl0;subst hi;subst hl0;have hk:G P n F Q todo' (BE o.dst (.hv id' 0) env) ([(id',some (.hp A')),(id,none),(i,none)]++st) ids':=hk;refine BC (fr:=[id']) (wr:=[(id',some (.hp A')),(id,none),(i,none)]) (rd:=[id,i]) h1 ?_ hd (λc hc=>by rw [hop] at hc;cases hc) hk;intro I μ st1 ids1 a w hag hst hon;refine ⟨λ_=>?_,λhw=>by rw [AF hgd] at hw;cases hw⟩;have hops:=Bh hon;rw [hop] at hops;have hl1:At st1 id (.hp A):=by unfold At;rw [hag id (by simp)];exact hl
      have hl2:At st1 i (.hp B):=by unfold At;rw [hag i (by simp)];exact hlq
      obtain ⟨g1,hg1,us,b1,rfl,hP1⟩:=hst.blk id _ hl1;obtain ⟨g2,hg2,vs,b2,rfl,hP2⟩:=hst.blk i _ hl2;have hv:a.eval x=v:=(hops x (by simp [Op.operands,Call.operands]) _ hx).rawInv;obtain ⟨hy0,_⟩:=(hops y (by simp [Op.operands,Call.operands]) _ hy).hvInv hg2;obtain ⟨nn,m,cc,xs,news,ad,k1,k2,k3,k4,k5,k6,⟨k7,k8⟩,k9⟩:=hA us vs I w b1 b2 hP1 hP2 λb h1 h2=>hne (hst.inj id i _ _ _ _ b hl1 hl2 hg1 hg2 (AX.2 h1) (AX.2 h2));have hyv:a.eval y = .slice (some ad) m cc:=by rw [hy0] at k3;exact Option.some.inj k3
      obtain ⟨v',w',r1,r2⟩:=Sa (ty:=o.type) (c:=cc) (htt.sh ht) (htt e ti hti) hz k1 k4 k5 k6 k7 k8;have hrun:(execOp a.eval o).run P w = .ok (.value v') w':=by
       simp only [execOp,hop,resolve,invoke,builtin,Sem.run_bind,Sem.run_pure,Result.andThen_ok,List.map_toArray,List.map_cons,List.map_nil,hv,hyv,r1]
      rw [hrun];obtain ⟨bs,s1,s2⟩:=k9 v' w' r2;have hold:∀b,b∈b1\/b∈b2->∃id0 blk g,id0∈[id,i]/\At st1 id0 blk/\μ id0=some g/\Dl g b:=λb hb=>by
       rcases hb with hb | hb
       ·exact ⟨id,_,_,by simp,hl1,hg1,AX.2 hb⟩
       ·exact ⟨i,_,_,by simp,hl2,hg2,AX.2 hb⟩
      have hlt:∀b,b∈b1\/b∈b2->b<w.heap.size:=λb hb=>by
       obtain ⟨id0,blk,g,_,q2,q3,q4⟩:=hold b hb;exact (hst.apart id0 blk g b q2 q3 q4).2
      obtain ⟨μ',q1,q2,q3,q4⟩:=StRep.renew (id':=id') (ids:=ids1) (rd:=[id,i]) (v':=Nw [v'] bs) (blk':=.hp A') hst r2.2.1 (λb hb=>hold b (.inl (k2 b hb))) (λb hb=>by
       rcases s1 b (AX.1 hb) with h | h
       ·exact ⟨Nat.lt_of_lt_of_le (hlt b h) r2.2.1.size,.inr (hold b h)⟩
       ·exact ⟨h.2,.inl h.1⟩) (λμ'=>⟨_,_,rfl,s2⟩)
      exact ⟨I,μ',q3,.hv _ id' 0 _ _ q1 rfl (HM r2.1),q2,q4⟩
     ·cases h
    ·cases h
   ·cases h
  ·cases h
 ·cases h
theorem kI (htt:TTok P tt) (id id':Nat) {A:Asn} (A':Asn) {c:PAp} (h:pJ tt n env id id' todo=some c) (hl:lk st id=some (some (.hp A))) (hA:mD A A' c.e c.sz c.bytes c.base c.es2)
  (hk:G P n F Q c.todo (BE c.dst (.hv id' 0) env) ((id',some (.hp A'))::(id,none)::st) ids'):G P n F Q todo env st (id'::ids'):=by
 unfold pJ at h
 split at h
 ·rename_i all o todo' h1
  split at h
  ·rename_i x y t t' hgd hop
   split at h
   ·rename_i e _ _ _ _ v e1 es2 htt' ht hx hy;have:=Nat.eq_of_beq_eq_true htt';subst this
    split at h
    ·rename_i ti hti
     split at h
     ·rename_i hz hd;cases h;simp only at hA hk;have hk:G P n F Q todo' (BE o.dst (.hv id' 0) env) ([(id',some (.hp A')),(id,none)]++st) ids':=hk;refine BC (fr:=[id']) (wr:=[(id',some (.hp A')),(id,none)]) (rd:=[id]) h1 ?_ hd (λc hc=>by rw [hop] at hc;cases hc) hk;intro I μ st1 ids1 a w hag hst hon;refine ⟨λ_=>?_,λhw=>by rw [AF hgd] at hw;cases hw⟩;have hops:=Bh hon;rw [hop] at hops;have hl1:At st1 id (.hp A):=by unfold At;rw [hag id (by simp)];exact hl
      obtain ⟨g1,hg1,us,b1,rfl,hP1⟩:=hst.blk id _ hl1;have hv:a.eval x=v:=(hops x (by simp [Op.operands,Call.operands]) _ hx).rawInv;have hpos:0<ti.size:=by
       simp only [Bool.and_eq_true,Nat.blt_eq] at hz;exact hz.2
      obtain ⟨hsz,hA⟩:=hA;obtain ⟨nn,xs,k1,k2,⟨k7,k8⟩,k9⟩:=hA us I w b1 hP1;rcases Mx hst.imm (hops y (by simp [Op.operands,Call.operands]) _ hy).immInv hsz hpos with ⟨_,e0⟩ | ⟨yb,yo,yc,news,ey,_,_,n1,n2,n3,n4,_⟩
      ·cases e0
      obtain ⟨v',w',r1,r2⟩:=Sa (ty:=o.type) (c:=yc) (htt.sh ht) (htt e ti hti) hz k1 n1 n2 n3 k7 k8;have hrun:(execOp a.eval o).run P w = .ok (.value v') w':=by
       simp only [execOp,hop,resolve,invoke,builtin,Sem.run_bind,Sem.run_pure,Result.andThen_ok,List.map_toArray,List.map_cons,List.map_nil,hv,ey,r1]
      rw [hrun];obtain ⟨bs,s1,s2⟩:=k9 v' w' news n4 n3 r2;have hlt:∀b,b∈b1->b<w.heap.size:=λb hb=>(hst.apart id _ _ b hl1 hg1 (AX.2 hb)).2;obtain ⟨μ',q1,q2,q3,q4⟩:=StRep.renew (id':=id') (ids:=ids1) (rd:=[id]) (v':=Nw [v'] bs) (blk':=.hp A') hst r2.2.1 (λb hb=>⟨id,_,_,by simp,hl1,hg1,AX.2 (k2 b hb)⟩) (λb hb=>by
       rcases s1 b (AX.1 hb) with h | h
       ·exact ⟨Nat.lt_of_lt_of_le (hlt b h) r2.2.1.size,.inr ⟨id,_,_,by simp,hl1,hg1,AX.2 h⟩⟩
       ·exact ⟨h.2,.inl h.1⟩) (λμ'=>⟨_,_,rfl,s2⟩)
      exact ⟨I,μ',q3,.hv _ id' 0 _ _ q1 rfl (HM r2.1),q2,q4⟩
     ·cases h
    ·cases h
   ·cases h
  ·cases h
 ·cases h
theorem KN (htt:TTok P tt) (id:Nat) {A:Asn} (A':Asn) {c:sI} (h:VY tt env id todo=some c) (hl:lk st id=some (some (.hp A))) (hA:Sf A A' c.b c.off c.k)
  (hk:G P n F Q c.todo env ((id,some (.hp A'))::st) ids):G P n F Q todo env st ids:=by
 unfold VY at h
 split at h
 ·rename_i all o todo' h1
  split at h
  ·rename_i t p x hgd hdst hop
   split at h
   ·rename_i i b off j k ht hp hx
    split at h
    ·rename_i hsz hj;cases h;simp only at hA hk;have hj:=Nat.eq_of_beq_eq_true hj;have hsz:=Nat.eq_of_beq_eq_true hsz;subst hj;have hk:G P n F Q todo' (BE o.dst .undef env) ([(j,some (.hp A'))]++st) ids:=by rw [hdst];exact hk
     refine BC (fr:=[]) (wr:=[(j,some (.hp A'))]) (rd:=[j]) h1 ?_ (by simp [BJ,hdst]) (λc hc=>by rw [hop] at hc;cases hc) hk;intro I μ st1 ids1 a w hag hst hon;refine ⟨λ_=>?_,λhw=>by rw [AF hgd] at hw;cases hw⟩;have hops:=Bh hon;rw [hop] at hops;have rp:=(hops p (by simp [Op.operands]) _ hp).rawInv;have hl1:At st1 j (.hp A):=by unfold At;rw [hag j (by simp)];exact hl
     obtain ⟨gg,hg',us,bs,e1,e2⟩:=hst.blk j _ hl1;subst e1;obtain ⟨hu,hone⟩:=(hops x (by simp [Op.operands]) _ hx).hvInv hg';obtain ⟨k1,vs,bt,k2,k3,k4⟩:=hA us I w bs e2;have hcell:=FW hone;have hrun:(execOp a.eval o).run P w = .ok .skip (w.setRow b (vs.toList.take off++[a.eval x]++vs.toList.drop (off+1)).toArray):=by
      have:=IX (v:=a.eval x) (off:=off) (htt t i ht) k2 (by rw [hcell,hsz];rfl) (by rw [hcell];intro u hu;simp at hu;rw [hu];exact hone) (by rw [hcell];exact k3);rw [hcell] at this;simp only [execOp,hop,rp,Sem.run_bind,this,Result.andThen_ok,Sem.run_pure];rfl
     rw [hrun];have hnew:BlkRep I μ (w.setRow b (vs.toList.take off++[a.eval x]++vs.toList.drop (off+1)).toArray) (Nw us bs) (.hp A'):=⟨us,bs,rfl,k4 _ hu hone⟩
     obtain ⟨q1,q2⟩:=hst.update (id:=j) (blk:=.hp A) (g:=Nw us bs) (b:=b) hl1 hg' (AX.2 k1) (w':=w.setRow b _) (setRow_size w b _) rfl rfl rfl (λk hk=>setRow_other w b k _ hk) hnew;exact ⟨I,μ,q1,.undef _,Mu.le_refl μ,q2⟩
    ·cases h
   ·cases h
  ·cases h
 ·cases h
theorem kF (htt:TTok P tt) {c:PRn} (h:pB tt n env todo=some c) (hk:G P n F Q c.todo (BE c.dst (.imm (.bool (c.eq == c.nil))) env) st ids):G P n F Q todo env st ids:=by
 unfold pB at h
 split at h
 ·rename_i all o todo' h1
  split at h
  ·rename_i t x y t' hgd hop
   split at h
   ·rename_i e _ _ _ _ ad len cap ht hx hy hd;cases h;refine BC (fr:=[]) (wr:=[]) (rd:=[]) h1 ?_ hd (λc hc=>by rw [hop] at hc;cases hc) hk;intro I μ st1 ids1 a w hag hst hon;refine ⟨λ_=>?_,λhw=>by rw [AF hgd] at hw;cases hw⟩;have hops:=Bh hon;rw [hop] at hops;have e1:a.eval x = .slice ad len cap:=(hops x (by simp [Op.operands]) _ hx).rawInv;have e3:a.eval y = .slice none 0 0:=by
     have:=hops y (by simp [Op.operands]) _ hy;generalize a.eval y=v at this;cases this;rfl
    have hrun:(execOp a.eval o).run P w = .ok (.value (.bool ad.isNone)) w:=by
     simp only [execOp,hop,e1,e3];exact A4 (Gi (htt.sh ht) x y ad len cap).1
    rw [hrun];exact ⟨I,μ,hst,.imm _ _ (by cases ad.isNone <;> exact .bool _),Mu.le_refl μ,Ext.refl _ _ _ _⟩
   ·cases h
  ·rename_i t x y t' hgd hop
   split at h
   ·rename_i e _ _ _ _ ad len cap ht hx hy hd;cases h;refine BC (fr:=[]) (wr:=[]) (rd:=[]) h1 ?_ hd (λc hc=>by rw [hop] at hc;cases hc) hk;intro I μ st1 ids1 a w hag hst hon;refine ⟨λ_=>?_,λhw=>by rw [AF hgd] at hw;cases hw⟩;have hops:=Bh hon;rw [hop] at hops;have e1:a.eval x = .slice ad len cap:=(hops x (by simp [Op.operands]) _ hx).rawInv;have e3:a.eval y = .slice none 0 0:=by
     have:=hops y (by simp [Op.operands]) _ hy;generalize a.eval y=v at this;cases this;rfl
    have hrun:(execOp a.eval o).run P w = .ok (.value (.bool (!ad.isNone))) w:=by
     simp only [execOp,hop,e1,e3];exact A4 (Gi (htt.sh ht) x y ad len cap).2
    rw [hrun];exact ⟨I,μ,hst,.imm _ _ (by cases ad.isNone <;> exact .bool _),Mu.le_refl μ,Ext.refl _ _ _ _⟩
   ·cases h
  ·cases h
 ·cases h
end
end Go.Hk
namespace Go.Hk
structure PRc where
 b:Nat
 off:Nat
 cap:Nat
 l:Int
 m:Int
 sz:Nat
 dst:Option Nat
 todo:List DI
def nL (env:Env) (d:Int):Option Operand->Option Int
 | none=>some d
 | some x=>match D2 env x with
  | some (.imm (.int _ m))=>some m
  | _=>none
def oZ (tt:TT) (n:Nat) (env:Env) (todo:List DI):Option PRc :=
 match Bk todo ([],[]) with
 | some (_,o,todo')=>match o.guard,o.op with
  | none,.slice t x lo hi none=>match lk tt t,D2 env x,nL env 0 lo,BJ n o.dst with
   | some { sh:=.sl e,.. },some (.raw (.slice (some ⟨b,off,none⟩) len cap)),some l,true=>match lk tt e,nL env len hi with
    | some ti,some m=>some ⟨b,off,cap,l,m,ti.size,o.dst,todo'⟩
    | _,_=>none
   | _,_,_,_=>none
  | _,_=>none
 | none=>none
structure PRk where
 e:TypeId
 sz:Nat
 b:Nat
 off:Nat
 len:Nat
 todo:List DI
def pC (tt:TT) (env:Env) (id:Nat) (todo:List DI):Option PRk :=
 match Bk todo ([id],[id]) with
 | some (_,o,todo')=>match o.guard,o.dst,o.op with
  | none,none,.call { callee:=.builtin .clear,args:=⟨[x]⟩,argTypes:=⟨[t]⟩ }=>match lk tt t,D2 env x with
   | some { sh:=.sl e,.. },some (.raw (.slice (some ⟨b,off,none⟩) len _))=>match lk tt e with
    | some ti=>match Nat.blt 0 len,Nat.beq ti.zero.length ti.size with
     | true,true=>some ⟨e,ti.size,b,off,len,todo'⟩
     | _,_=>none
    | none=>none
   | _,_=>none
  | _,_,_=>none
 | none=>none
def Vs (A A':Asn) (b off k:Nat):Prop:=∀us I w bs,A.P us I w bs->b∈bs/\∃cur t,w.heap[b]?=some (.cells cur t (0,0))/\off+k<=cur.size /\
 ∀news:List Value,news.length=k->(∀u∈news,u.oneCell'=true)->A'.P us I (w.setRow b (cur.toList.take off++news++cur.toList.drop (off+k)).toArray) bs
section
variable {P:Program} {n:Nat} {F:List Nat} {Q:DQ} {tt:TT} {env env':Env} {st st' st0 st1:St} {ids ids' fr:List Nat} {k todo todo':List DI} {I J:Imm} {μ:Mu} {w:World} {a:Act} {Pn:V->Prop} {d:D} {cx:Prop} {ob:List Prop}
theorem WF {lo:Option Operand} {d l:Int} (h:nL env d lo=some l) (hx:∀x,lo=some x->∀d,D2 env x=some d->RepD I μ (a.eval x) d):(lo=none/\l=d)\/∃x k,lo=some x/\a.eval x = .int k l:=by
 unfold nL at h
 split at h
 ·cases h;exact .inl ⟨rfl,rfl⟩
 ·rename_i x
  split at h
  ·rename_i k m hm;cases h;exact .inr ⟨x,k,rfl,(hx x rfl _ hm).immInv.intInv⟩
  ·cases h
theorem kD (htt:TTok P tt) {c:PRc} (h:oZ tt n env todo=some c) (hc:0<=c.l/\c.l<=c.m/\c.m<=c.cap/\c.l<c.cap)
  (hk:G P n F Q c.todo (BE c.dst (.raw (.slice (some ⟨c.b,c.off+c.l.toNat*c.sz,none⟩) (c.m.toNat-c.l.toNat) (c.cap-c.l.toNat))) env) st ids):G P n F Q todo env st ids:=by
 unfold oZ at h
 split at h
 ·rename_i all o todo' h1
  split at h
  ·rename_i t x lo hi hgd hop
   split at h
   ·rename_i e _ _ _ _ b off len cap l ht hx hlo hd
    split at h
    ·rename_i ti m hti hhi;cases h;simp only at hc hk;refine BC (fr:=[]) (wr:=[]) (rd:=[]) h1 ?_ hd (λc hc=>by rw [hop] at hc;cases hc) hk;intro I μ st1 ids1 a w hag hst hon;refine ⟨λ_=>?_,λhw=>by rw [AF hgd] at hw;cases hw⟩;have hops:=Bh hon;rw [hop] at hops;have e1:a.eval x = .slice (some ⟨b,off,none⟩) len cap:=(hops x (by simp [Op.operands]) _ hx).rawInv;obtain ⟨c1,c2,c3,c4⟩:=hc;obtain ⟨l',rfl⟩:∃k:Nat,l=k:=⟨l.toNat,by omega⟩
     obtain ⟨m',rfl⟩:∃k:Nat,m=k:=⟨m.toNat,by omega⟩
     have r1:=WF (I:=I) (μ:=μ) (a:=a) hlo (λy hy=>hops y (by subst hy;simp [Op.operands]));have r2:=WF (I:=I) (μ:=μ) (a:=a) hhi (λy hy=>hops y (by subst hy;cases lo <;> simp [Op.operands]));have hb:∀(k:IntKind) (x y:Nat) (c:BoundsCode),x<=y->(Instr.sliceBound (.int k x) y c).run P w = .ok x w:=by
      intro k x y c hxy;simp [Instr.sliceBound,asIntOf,hxy]
     have hl1:l'<=m':=by omega
     have hm1:m'<=cap:=by omega
     have hne:cap≠l':=by omega
     have hrun:(Instr.sliceAt t (.slice (some ⟨b,off,none⟩) len cap) (lo.map a.eval) (hi.map a.eval) none).run P w = .ok (.slice (some ⟨b,off+l'*ti.size,none⟩) (m'-l') (cap-l')) w:=by
      have hadd:(⟨b,off,none⟩:Addr).add (l'*ti.size)=⟨b,off+l'*ti.size,none⟩:=D1 _ _ _;rcases r1 with ⟨rfl,h1⟩ | ⟨y,k,rfl,h1⟩ <;> rcases r2 with ⟨rfl,h2⟩ | ⟨z,k2,rfl,h2⟩
      all_goals
       simp only [Option.map_none,Option.map_some]
       try rw [h1]
       try rw [h2]
      ·have hl0:l'=0:=by omega
       have hml:m'=len:=by omega
       subst hl0;subst hml;simp [Instr.sliceAt,run_underlying (htt.sh ht),Instr.slice,Instr.sliceBounds,hb _ _ _ _ hm1,(htt e ti hti).sizeOf w,hne,D1]
      ·have hl0:l'=0:=by omega
       subst hl0;simp [Instr.sliceAt,run_underlying (htt.sh ht),Instr.slice,Instr.sliceBounds,hb _ _ _ _ hm1,(htt e ti hti).sizeOf w,hne,D1]
      ·have hml:m'=len:=by omega
       subst hml;simp [Instr.sliceAt,run_underlying (htt.sh ht),Instr.slice,Instr.sliceBounds,hb _ _ _ _ hl1,hb _ _ _ _ hm1,(htt e ti hti).sizeOf w,hne,D1]
      ·simp [Instr.sliceAt,run_underlying (htt.sh ht),Instr.slice,Instr.sliceBounds,hb _ _ _ _ hl1,hb _ _ _ _ hm1,(htt e ti hti).sizeOf w,hne,D1]
     have hrun':(execOp a.eval o).run P w = .ok (.value (.slice (some ⟨b,off+l'*ti.size,none⟩) (m'-l') (cap-l'))) w:=by
      simp only [execOp,hop,e1,Option.map_none,Sem.run_bind,hrun,Result.andThen_ok,Sem.run_pure]
     rw [hrun'];exact ⟨I,μ,hst,.raw _ rfl,Mu.le_refl μ,Ext.refl _ _ _ _⟩
    ·cases h
   ·cases h
  ·cases h
 ·cases h
theorem qS (htt:TTok P tt) (id:Nat) {A:Asn} (A':Asn) {c:PRk} (h:pC tt env id todo=some c) (hl:lk st id=some (some (.hp A))) (hA:Vs A A' c.b c.off (c.len*c.sz))
  (hk:G P n F Q c.todo env ((id,some (.hp A'))::st) ids):G P n F Q todo env st ids:=by
 unfold pC at h
 split at h
 ·rename_i all o todo' h1
  split at h
  ·rename_i x t hgd hdst hop
   split at h
   ·rename_i e _ _ _ _ b off len cap ht hx
    split at h
    ·rename_i ti hti
     split at h
     ·rename_i hlen hz;cases h;simp only at hA hk;have hlen:0<len:=by simpa [Nat.blt_eq] using hlen
      have hk:G P n F Q todo' (BE o.dst (.undef) env) ([(id,some (.hp A'))]++st) ids:=by rw [hdst];exact hk
      refine BC (fr:=[]) (wr:=[(id,some (.hp A'))]) (rd:=[id]) h1 ?_ (by simp [BJ,hdst]) (λc hc=>by rw [hop] at hc;cases hc) hk;intro I μ st1 ids1 a w hag hst hon;refine ⟨λ_=>?_,λhw=>by rw [AF hgd] at hw;cases hw⟩;have hops:=Bh hon;rw [hop] at hops;have e1:a.eval x = .slice (some ⟨b,off,none⟩) len cap:=(hops x (by simp [Op.operands,Call.operands]) _ hx).rawInv;have hl1:At st1 id (.hp A):=by unfold At;rw [hag id (by simp)];exact hl
      obtain ⟨gg,hg',us,bs,rfl,e2⟩:=hst.blk id _ hl1;obtain ⟨k1,cur,bt,k2,k3,k4⟩:=hA us I w bs e2;obtain ⟨inf,z,z1,z2,z3,z4,z5,z6⟩:=(htt e ti hti).info;have hzl:z.cells.size=ti.size:=by
       have:=(z5 (λ_=>none) noMu).1;rw [Nat.eq_of_beq_eq_true hz] at this;simpa using this
      have hnl:(Builtin.zeroCells z.cells len).toList.length=len*ti.size:=by rw [Array.length_toList,size_zeroCells,hzl]
      have hone:∀u∈(Builtin.zeroCells z.cells len).toList,u.oneCell'=true:=by
       intro u hu;simp only [Builtin.zeroCells,Array.toList_map,List.mem_map,Array.toList_range,List.mem_range] at hu;obtain ⟨q,hq,rfl⟩:=hu;have hpos:0<z.cells.size:=by
        rcases Nat.eq_zero_or_pos z.cells.size with h0 | h0
        ·rw [h0] at hq;simp at hq
        ·exact h0
       have hlt:q % z.cells.size<z.cells.size:=Nat.mod_lt _ hpos;rw [getElem!_pos z.cells _ hlt];exact z6 _ (by simp)
      have hst2:=run_storeCells_at P b off bt (Builtin.zeroCells z.cells len).toList 0 cur w k2 (by rw [hnl];simpa using k3) hone;simp only [Nat.add_zero] at hst2;rw [hnl] at hst2;have hrun:(execOp a.eval o).run P w = .ok (.value (.tuple #[])) (w.setRow b (cur.toList.take off++(Builtin.zeroCells z.cells len).toList++cur.toList.drop (off+len*ti.size)).toArray):=by
       obtain ⟨len',rfl⟩:∃l,len=l+1:=⟨len-1,by omega⟩
       simp only [execOp,hop,resolve,invoke,builtin,Sem.run_bind,Sem.run_pure,Result.andThen_ok,List.map_toArray,List.map_cons,List.map_nil,e1];simp [Builtin.clear_,run_underlying (htt.sh ht),zeroValue,typeInfo,z1,z4,hst2]
      rw [hrun];have hnew:BlkRep I μ (w.setRow b (cur.toList.take off++(Builtin.zeroCells z.cells len).toList++cur.toList.drop (off+len*ti.size)).toArray) (Nw us bs) (.hp A'):=⟨us,bs,rfl,k4 _ hnl hone⟩
      obtain ⟨q1,q2⟩:=hst.update (id:=id) (blk:=.hp A) (g:=Nw us bs) (b:=b) hl1 hg' (AX.2 k1) (w':=w.setRow b _) (setRow_size w b _) rfl rfl rfl (λk hk=>setRow_other w b k _ hk) hnew;exact ⟨I,μ,q1,.undef _,Mu.le_refl μ,q2⟩
     ·cases h
    ·cases h
   ·cases h
  ·cases h
 ·cases h
theorem Pm (id t j:Nat) {A:Asn} {e:TypeId} {sz:Nat} (es:List (List V)) {v:Value} (hl:lk st id=some (some (.hp A))) (ht:lk env t=some (.raw v))
  (hA:∀vs I w bs,A.P vs I w bs->∃xs,w.ownsRow 0 e sz v es.length xs/\RepVL I xs es.flatten/\(∀c∈es,c.length=sz)/\(∀c∈es,∀x∈c,V.one x=true)/\0<sz/\∀k,v.ownBlock=some k->k∈bs)
  (h:DGo P n F Q todo ((t,.own j es.length)::env) ((j,some (.row e sz es))::(id,none)::st) ids'):DGo P n F Q todo env st (j::ids'):=by
 refine DS λI μ a w hc=>?_;obtain ⟨g,hg,vs,bs,rfl,hP⟩:=hc.blk id _ hl;obtain ⟨xs,k1,k2,k3,k4,k5,k6⟩:=hA vs I w bs hP;have hown:∀b,Dl v b->v.ownBlock=some b:=λb hb=>by
  rcases k1.2 with ⟨rfl,_⟩ | ⟨g,cap,cur,rfl,_⟩
  ·cases hb
  ·have:g=b:=hb;rw [<- this];rfl
 obtain ⟨q1,q2,q3⟩:=StRep.relay (R:=[id]) (new:=[(j,v,.row e sz es)]) (ids':=ids') hc.toStRep
  (λp hp b hb=>by
   rw [List.mem_singleton.1 hp] at hb;exact ⟨id,_,_,by simp,hl,hg,AX.2 (k6 b (hown b hb))⟩)
  (λp hp q hq b _ _=>by rw [List.mem_singleton.1 hp,List.mem_singleton.1 hq]) (Imm.le_refl I) hc.imm (λb o h=>.inl h)
  (λ_ p hp=>by rw [List.mem_singleton.1 hp];exact ⟨xs,k1,k2,k3,k4,k5⟩)
 refine ⟨I,_,_,_,ids',q2,λt' d hd=>?_,q3,.of_le q1,h⟩;by_cases e':t=t'
 ·subst e';rw [Aw] at hd;cases hd;have hv:=(hc.env t _ ht).rawInv;rw [hv];obtain ⟨ad,cap,rfl⟩:=OK k1;exact .own j es.length ad cap (by simp [Fj,lk])
 ·rw [A6 _ _ e'] at hd;exact (hc.env t' d hd).mono (Imm.le_refl I) q1
end
end Go.Hk
