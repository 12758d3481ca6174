/- Regions drawn in any order. -/
import Derived.Orders
import Derived.Laws.Concat
import Derived.Laws.BytesString
import Derived.Laws.Slices
import Derived.Laws.Strings3
import Derived.RangeFuncNested
set_option linter.all false
set_option maxRecDepth 100000
set_option maxHeartbeats 4000000
namespace Go.Hk
abbrev L1.{u} (α:Type u):Type u:=List α
def O.{u} {α:Sort u} {a:α}:a=a:=rfl
variable {P:Program} {w w':World} {v g:Value} {t e s:TypeId} {a a':Act} {o:Oper} {aa ids' F fr:L1 Nat} {ob E:L1 Prop} {C:Prop} {u H L N T W α α7 α8 α9 β:Type} {vs:L1 Value} {c y:Code} {off n b i sz l f j m:Nat} {S S':Nat->Bool} {dst:Option Nat} {cs:L1 Frame} {Q:Exit->Act->World->Prop} {k:L1 Item} {r:Result Next} {K K':Value->World->Prop} {ds:L1 Deferred} {ps:Array (Nat×Operand)} {R:Ending->World->Prop} {w0:Bool}
def ab:=@trivial
def AG {h:u}:h=h/\True:=⟨rfl,ab⟩
def AC {h:u} {x2:H} {p:L}:h=h/\x2=x2/\p=p/\True:=⟨rfl,rfl,rfl,ab⟩
def AP {h:u} {x2:H}:h=h/\x2=x2/\True:=⟨rfl,rfl,ab⟩
def BD {h:u} {x2:H} {p:L} {q:N} {x:T}:h=h/\x2=x2/\p=p/\q=q/\x=x/\True:=⟨rfl,rfl,rfl,rfl,rfl,ab⟩
def B0 {h:u} {x2:H} {p:L} {q:N}:h=h/\x2=x2/\p=p/\q=q/\True:=⟨rfl,rfl,rfl,rfl,ab⟩
def A2 {h:u} {x2:H} {p:L}:(h=h/\x2=x2/\p=p)/\True:=⟨⟨rfl,rfl,rfl⟩,ab⟩
def zcv {h:u} {x2:H} {p:L} {q:N} {x:T} {z:W}:(h=h/\x2=x2/\p=p)/\(q=q/\x=x/\z=z)/\True:=⟨⟨rfl,rfl,rfl⟩,⟨rfl,rfl,rfl⟩,ab⟩
def H9 {h p q:Type} {B:u} {x2:H} {C:L} {D:N} {E:T} {G:W} {J:α7} {V:α8} {a:α9} {x:h} {z:p} {A:q}:(B=B/\x2=x2/\C=C)/\(D=D/\E=E/\G=G)/\(J=J/\V=V/\a=a)/\(x=x/\z=z/\A=A)/\True:=⟨⟨rfl,rfl,rfl⟩,⟨rfl,rfl,rfl⟩,⟨rfl,rfl,rfl⟩,⟨rfl,rfl,rfl⟩,ab⟩
def WO {h:u} {x2:H} {p:L} {q:N} {x:T} {z:W} {A:α7} {B:α8}:h=h/\x2=x2/\p=p/\q=q/\x=x/\z=z/\A=A/\B=B/\True:=⟨rfl,rfl,rfl,rfl,rfl,rfl,rfl,rfl,ab⟩
def K5 {h:u} {x2:H} {p:L} {q:N} {x:T} {z:W} {A:α7}:h=h/\x2=x2/\p=p/\q=q/\x=x/\z=z/\A=A/\True:=⟨rfl,rfl,rfl,rfl,rfl,rfl,rfl,ab⟩
def EG {h:u} {x2:H} {p:L} {q:N} {x:T} {z:W}:h=h/\x2=x2/\p=p/\q=q/\x=x/\z=z/\True:=⟨rfl,rfl,rfl,rfl,rfl,rfl,ab⟩
def A5 {h:u} {x2:H} {p:L} {q:N} {x:T} {z:W} {A:α7} {B:α8} {C:α9}:(h=h/\x2=x2/\p=p)/\(q=q/\x=x/\z=z)/\(A=A/\B=B/\C=C)/\True:=⟨⟨rfl,rfl,rfl⟩,⟨rfl,rfl,rfl⟩,⟨rfl,rfl,rfl⟩,ab⟩
def XI {h:u} {x2:H} {p:L} {q:N} {x:T} {z:W} {A:α7} {B:α8} {C:α9}:h=h/\x2=x2/\p=p/\q=q/\x=x/\z=z/\A=A/\B=B/\C=C/\True:=⟨rfl,rfl,rfl,rfl,rfl,rfl,rfl,rfl,rfl,ab⟩
def dO {h p q x z A B C D E G J:Type} {m:u} {x2:H} {n:L} {o:N} {r:T} {s:W} {t:α7} {v:α8} {w:α9} {V:h} {a:p} {b:q} {c:x} {d:z} {e:A} {f:B} {g:C} {i:D} {j:E} {k:G} {l:J}:(m=m/\x2=x2/\n=n)/\(o=o/\r=r/\s=s)/\(t=t/\v=v/\w=w)/\(V=V/\a=a/\b=b)/\(c=c/\d=d/\e=e)/\(f=f/\g=g/\i=i)/\(j=j/\k=k/\l=l)/\True:=⟨⟨rfl,rfl,rfl⟩,⟨rfl,rfl,rfl⟩,⟨rfl,rfl,rfl⟩,⟨rfl,rfl,rfl⟩,⟨rfl,rfl,rfl⟩,⟨rfl,rfl,rfl⟩,⟨rfl,rfl,rfl⟩,ab⟩
def Fl {h:u} {x2:H} {p:L} {q:N} {x:T} {z:W}:(h=h/\x2=x2)/\(p=p/\q=q)/\(x=x/\z=z)/\True:=⟨⟨rfl,rfl⟩,⟨rfl,rfl⟩,⟨rfl,rfl⟩,ab⟩
def dN {h p q x z A:Type} {V:u} {x2:H} {a:L} {b:N} {c:T} {d:W} {e:α7} {f:α8} {g:α9} {B:h} {C:p} {D:q} {E:x} {G:z} {J:A}:(V=V/\x2=x2/\a=a)/\(b=b/\c=c/\d=d)/\(e=e/\f=f/\g=g)/\(B=B/\C=C/\D=D)/\(E=E/\G=G/\J=J)/\True:=⟨⟨rfl,rfl,rfl⟩,⟨rfl,rfl,rfl⟩,⟨rfl,rfl,rfl⟩,⟨rfl,rfl,rfl⟩,⟨rfl,rfl,rfl⟩,ab⟩
def PW:=@Array.getElem?_eq_getElem
def CU:=@Nat.eq_of_beq_eq_true
def C7:=@List.mem_map
def BO:=@Nat.le_refl
def zjq:=@Nat.le_trans
def ZM:=@Nat.lt_of_lt_of_le
def GS:=@Array.getElem?_eq_some_iff
def Ci:=@Option.some.injEq
def Ck:=@List.mem_cons
def B2:=@List.mem_append
def AN:=@Prod.mk.injEq
def PV:=@Array.length_toList
def Ct:=@List.getElem?_map
def EV:=@Option.map_eq_some_iff
def Og:=@List.getElem?_eq_none
def Bq:=@List.getElem?_eq_getElem
def Yo:=@Nat.add_assoc
def Of:=@List.mem_range
def DO:=@List.getElem?_take
def EU:=@List.getElem?_drop
def Yn:=@List.drop_zero
def CA:=@List.take_of_length_le
def S7:=@List.ext_getElem?
def Vk:=@List.mem_of_mem_drop
def PU:=@List.mem_of_mem_take
def A9:=@List.getElem?_eq_some_iff
def zeq:=@List.extract_eq_take_drop
def Vi:=@Array.getElem?_toList
def AF:=@List.mem_of_getElem?
def LP:=@List.foldl_cons
def C0:=@List.map_cons
def BS:=@Nat.zero_add
def KG:=@List.getElem_mem
def KF:=@Option.getD_some
def fN:=@List.take_zero
def Vh:=@Nat.add_mul
def zen:=@List.zipIdx_cons
def Co:=@List.length_cons
def lqq47:=@List.set_eq_take_append_cons_drop
def PT:=@List.take_append
def Gt:=@List.length_take
def Vg:=@List.take_take
def tS:=@Nat.min_eq_right
def Bu:=@List.drop_eq_nil_of_le
def HZ:=@List.nil_append
def Ym:=@List.drop_drop
def AZ:=@List.length_append
def Gs:=@Nat.add_zero
def HY:=@List.getElem?_set_self
def KE:=@List.getElem?_set_ne
def Iu:=@List.eq_nil_of_length_eq_zero
def zem:=@List.getElem?_cons_zero
def LO:=@List.flatten_cons
def fM:=@List.take_append_drop
def Jg:=@List.length_drop
def Gr:=@List.mem_cons_of_mem
def JO:=@Nat.blt_eq
def zel:=@List.mapM_cons
def PS:=@List.map_toArray
def HX:=@Option.map_some
def Mt:=@List.toList_toArray
def KD:=@List.getElem?_append_left
def Jf:=@List.getElem?_append_right
def JN:=@Nat.succ_mul
def zek:=@Nat.le_of_ble_eq_true
def HW:=@List.getElem?_of_mem
def PR:=@Nat.min_eq_left
def JM:=@Option.some.inj
def zl4:=@Nat.mul_le_mul_left
def JL:=@List.append_nil
def Sz:=@Int.toNat_of_nonneg
def AK:=@Nat.zero_le
def Fr:=@List.nodup_cons
def C6:=@List.length_map
def Hd:=@Array.getElem?_setIfInBounds_ne
def Yl:=@List.range_eq_range'
def Ms:=@List.range'_succ
def Ep:=@Option.bind_some
def Kq:=@Bool.not_eq_true'
def Am:=@Bool.and_eq_true
def Fg:=@Bool.or_eq_true
def OV:=@List.getElem?_append
def Dj:=@List.cons_append
def Cl:=@List.append_assoc
def Vv:=@List.getElem?_cons_succ
def zez:=@Nat.lt_succ_iff_lt_or_eq
def Lv:=@List.singleton_append
def BP:=@List.cons.injEq
def Vu:=@List.reverse_cons
def Ko:=@List.mem_append_left
def OU:=@List.mem_append_right
def CV:=@List.nodup_append
def M1:=@Array.toList_append
def DW:=@List.mem_iff_getElem?
def zey:=@Nat.div_lt_of_lt_mul
def Vt:=@Nat.mul_comm
def oC:=@Nat.div_add_mod
def Jk:=@List.map_nil
def oB:=@List.flatten_append
def aB:=@List.size_toArray
def oA:=@List.take_left
def Ip:=@Nat.mul_le_mul_right
def zex:=@List.length_pos_iff
def CJ:=@List.all_eq_true
def Vs:=@List.mem_map_of_mem
def AL:=@List.mem_singleton
def nZ:=@List.filter_cons
def DN:=@Bool.false_eq_true
def nY:=@Int.le_total
def nX:=@Int.max_eq_right
def nW:=@Int.max_eq_left
def nV:=@Int.min_eq_left
def nU:=@Int.min_eq_right
def M0:=@Int.le_refl
def Kn:=@List.map_congr_left
def Cy:=@List.map_append
def ZZ:=@Option.map_none
def Vr:=@List.map_map
def OT:=@Bool.and_assoc
def Cr:=@List.sizeOf_lt_of_mem
def D4:=@List.all_cons
def Lu:=@Bool.or_eq_false_iff
def nT:=@List.map_take
def nS:=@Array.ext_getElem?
def ZY:=@Array.getElem?_modify
def Vq:=@Array.getElem?_push
def ZX:=@Nat.lt_irrefl
def nR:=@Array.eq_empty_of_size_eq_zero
def ZW:=@Bool.and_eq_true_iff
def OS:=@Bool.and_eq_false_iff
def ZV:=@List.getElem?_set
def FC:=@Bool.eq_iff_iff
def Jj:=@Bool.true_and
def nP:=@List.any_eq_not_all_not
def Vp:=@Bool.not_eq_true
def Rp:=@List.all_map
def Km:=@List.all_append
def Ji:=@List.not_mem_nil
def Ro:=@List.mem_cons_self
def ZU:=@Bool.or_assoc
def Mz:=@Option.isSome_iff_exists
def Vo:=@List.pairwise_cons
def nO:=@List.lt_irrefl
def nN:=@List.set_cons_zero
def ZT:=@List.set_cons_succ
def nM:=@List.drop_take
def OR:=@List.mem_or_eq_of_mem_set
def Cb:=@List.length_nil
def nL:=@Nat.add_sub_cancel_left
def Io:=@Nat.mul_one
def Kl:=@List.length_set
def Vn:=@Bool.false_or
def My:=@List.map_set
def DM:=@List.length_singleton
def Rn:=@List.length_eq_one_iff
def Mx:=@Nat.sub_self
def Lt:=@List.mem_filter
def zew:=@List.range'_append_1
def zev:=@List.eq_of_mem_replicate
def ZS:=@Nat.one_pos
def OQ:=@List.getElem?_eq_none_iff
def ZR:=@List.set_set
def ZQ:=@List.foldl_append
def ZP:=@List.foldl_nil
def Vm:=@List.set_append_right
def zeu:=@List.take_set_of_le
def zet:=@List.length_mergeSort
def Vl:=@Bool.and_self
def nK:=@List.zip_cons_cons
def nJ:=@List.of_mem_zip
def ZO:=@List.mem_reverse
def zes:=@List.mem_of_mem_tail
def Vj:=@List.range_succ
def OP:=@Nat.lt_trichotomy
def Mw:=@List.length_eq_zero_iff
def nI:=@Bool.false_and
def Jh:=@List.any_append
def Mv:=@List.take_length
def EJ:=@List.any_eq_true
def Ls:=@List.all_nil
def In:=@Bool.and_true
def zer:=@Array.getElem?_setIfInBounds_self_of_lt
def nH:=@List.idxOf_lt_length_iff
def ZN:=@Int.ofNat_inj
def Di:=@Nat.lt_succ_self
def zeo:=@Option.bind_eq_some_iff
def ArrR (P:Program) (m:Machine) (b:Frame) (cs:L1 Frame):Exit->Act->World->Prop
 |.normal,a,w=>Steps P m (lone (b.atR a []) cs w)
 |.ret,a,w=>∃k,Steps P m (lone (b.atR a (.code .ret::k)) cs w)
 |.exit id,a,w=>∃k,exitTo id k=none/\Steps P m (lone (b.atR a (.code (.exit id)::k)) cs w)
 |.goto l,a,w=>∃k,gotoIn l k=none/\Steps P m (lone (b.atR a (.code (.goto l)::k)) cs w)
 |.panic h,a,w=>∃p,Steps P m (lone { b.atR a p with mode:=.panicking h } cs w)
 |.outgrown,_,_=>False
def ArrR.of_steps {m p:Machine} {b:Frame} {e:Exit} (h:Steps P m p) (u:ArrR P p b cs e a w):ArrR P m b cs e a w:=by cases e with|normal=>exact h.trans u|ret=>obtain⟨k,q⟩:=u;exact⟨k,h.trans q⟩|exit id=>obtain⟨k,z,q⟩:=u;exact⟨k,z,h.trans q⟩|goto l=>obtain⟨k,z,q⟩:=u;exact⟨k,z,h.trans q⟩|panic A=>obtain⟨x,q⟩:=u;exact⟨x,h.trans q⟩|outgrown=>{exact u}
def Reach (P:Program) (b:Frame) (cs:L1 Frame) (Q:Exit->Act->World->Prop) (h:L1 Item) (a:Act) (w:World):Prop :=
 ∃e a' w',Q e a' w'/\ArrR P (lone (b.atR a h) cs w) b cs e a' w'
section
variable {b:Frame}
def Reach.mono {q:Exit->Act->World->Prop} {p:L1 Item} (u:∀e a w,Q e a w->q e a w) (h:Reach P b cs Q p a w):Reach P b cs q p a w:=let⟨e,a',w',x,z⟩:=h;⟨e,a',w',u _ _ _ x,z⟩
def Reach.step {q p:L1 Item} (u:step P (lone (b.atR a q) cs w)=.next (lone (b.atR a' p) cs w')) (h:Reach P b cs Q p a' w'):Reach P b cs Q q a w:=let⟨e,x,z,A,B⟩:=h;⟨e,x,z,A,.of_steps (.one u) B⟩
def mF (h:Reach P b cs Q k a w):Reach P b cs Q (.code .skip::k) a w:=h.step stepR_skip
def eC (h:Reach P b cs Q k a w):Reach P b cs Q (.code (.label l)::k) a w:=h.step stepR_label
def WR {id:Nat} (h:Reach P b cs Q k a w):Reach P b cs Q (.inBlock id::k) a w:=h.step stepR_inBlock
def ce:=@step_lone_go
def WQ (h:Reach P b cs Q k a w):Reach P b cs Q (.inScope c::k) a w:=h.step (ce (by simp[stepG,stepG.exec,Frame.atR]))
def eB (h:Reach P b cs Q (.code c::.inScope c::k) a w):Reach P b cs Q (.code (.scope c)::k) a w:=h.step (ce (by simp[stepG,stepG.exec,Frame.atR]))
def xT {x:Code} (h:Reach P b cs Q (.code x::.code y::k) a w):Reach P b cs Q (.code (.seq x y)::k) a w:=h.step stepR_seq
def mJ {c:Operand} {x:Code} {t:Bool} (p:a.eval c=.bool t) (h:Reach P b cs Q (.code (if t then x else y)::k) a w):Reach P b cs Q (.code (.cond c x y)::k) a w:=h.step (stepR_cond p)
def eD {id:Nat} (h:Reach P b cs Q (.code c::.inBlock id::k) a w):Reach P b cs Q (.code (.block id c)::k) a w:=h.step stepR_block
def mG (h:Reach P b cs Q (.code c::.inLoop c::k) a w):Reach P b cs Q (.code (.loop c)::k) a w:=h.step stepR_loop
def Z9 (h:Reach P b cs Q (.code c::.inLoop c::k) a w):Reach P b cs Q (.inLoop c::k) a w:=h.step stepR_inLoop
def mH {id:Nat} {k':L1 Item} (p:exitTo id k=some k') (h:Reach P b cs Q k' a w):Reach P b cs Q (.code (.exit id)::k) a w:=h.step (stepR_exit p)
def Ll {id:Nat} {ops:Array Oper} (h:Reach P b cs Q (.inRegion ops (List.range ops.size)::k) a w):Reach P b cs Q (.code (.region id ops false)::k) a w:=h.step stepR_region
def mI {id:Nat} {ops:Array Oper} (h:∀t,Reach P b cs Q (.inRegion ops (Region.schedule (P.follows .mixedOrders) ops t)::k) a { w with drawn:=w.drawn+1 }):Reach P b cs Q (.code (.region id ops true)::k) a w:=(h _).step stepR_region_draw
def Gz {ops:Array Oper} (h:Reach P b cs Q k a w):Reach P b cs Q (.inRegion ops []::k) a w:=h.step stepR_region_end
def Lm {ops:Array Oper} {rest:L1 Nat} (p:ops[i]?=some o) (q:Region.wanted o (yielded ops a.tmps)=false) (h:Reach P b cs Q (.inRegion ops rest::k) (a.put o.dst undef) w):Reach P b cs Q (.inRegion ops (i::rest)::k) a w:=by refine Reach.step (a':=a.put o.dst undef) ?_ h;have:=stepR_op_skip (P:=P) (b:=b) (a:=a) (k:=k) (cs:=cs) (w:=w) (ops:=ops) (i:=i) (rest:=rest) (by simp[p,q]);simpa[p]using this
def xV (h:Q .normal a w):Reach P b cs Q [] a w:=⟨.normal,a,w,h,.refl _ _⟩
def xU (h:Q .ret a w):Reach P b cs Q (.code .ret::k) a w:=⟨.ret,a,w,h,k,.refl _ _⟩
def RU (P:Program) (o:Oper) (a:Act) (next:Act->World->Prop) (u:L1 PanicEntry->World->Prop):Result Next->Prop
 |.ok (.value v) w'=>next (a.put o.dst v) w'
 |.ok .skip w'=>next (a.put o.dst undef) w'
 |.ok (.enter f x) w'=>Calls P f x w' λe p=>match e with
   |.returned v=>next (a.put o.dst v) p
   |.panicked h=>u h p
   |.outgrown=>False
 |.ok (.round l f z q A) w'=>RoundIn Fence.wide 0 P l f z q A w' λe p=>match e with
   |.returned v=>next (a.put o.dst v) p
   |.panicked h=>u h p
   |.outgrown=>False
 |.halt (.panic v) w'=>u [{ v,recovered:=false }] w'
 |_=>False
def dt:=@step_leave_returned
def ct:=@Frame.raise_atR
def cu:=@step_leave_panicked
def Gq {ops:Array Oper} {rest:L1 Nat} (d:ops[i]?=some o) (g:Region.wanted o (yielded ops a.tmps)=true) (V:∀c,o.op≠.defer c) (h:RU P o a (λa' w'=>Reach P b cs Q (.inRegion ops rest::k) a' w') (λu w'=>Q (.panic u) a w') ((execOp a.eval o).run P w)):Reach P b cs Q (.inRegion ops (i::rest)::k) a w:=by have J:=stepGR_op (P:=P) (b:=b) (k:=k) (cs:=cs) (w:=w) (rest:=rest) d g;rw[Oper.semAt_eq b.roundOf a.eval o V]at J;have z:∀v,(b.atR a (.inRegion ops (i::rest)::k)).finish v=b.atR (a.put o.dst v) (.inRegion ops rest::k):=by{intro v;rw[Frame.finish_atR,d];rfl};cases E:(execOp a.eval o).run P w with|ok x w'=>{rw[E]at h;cases x with|value v=>refine Reach.step (ce ?_) h;rw[J,<- z];simp[stepG.apply,E]|skip=>refine Reach.step (ce ?_) h;rw[J,<- z];simp[stepG.apply,E]|enter f L=>{simp only[RU]at h;let⟨e,G,fr,H,p,_,A⟩:=h (b.atR a (.inRegion ops (i::rest)::k)::cs);have q:step P (lone (b.atR a (.inRegion ops (i::rest)::k)) cs w)=.next (lone (Frame.enter P f L .normal) (b.atR a (.inRegion ops (i::rest)::k)::cs) w'):=ce (by rw[J];simp[stepG.apply,E,Frame.atR]);cases e with|returned v=>obtain⟨e,a',C,W,B⟩:=H;refine⟨e,a',C,W,.of_steps (.head q (p.trans (.one ?_))) B⟩;rw[<- z];exact dt A|panicked u=>refine⟨.panic u,a,G,H,.inRegion ops (i::rest)::k,.head q (p.trans (.one ?_))⟩;rw[<- ct];exact cu A|outgrown=>{exact H.elim}}|round l f N D T=>{simp only[RU]at h;obtain⟨_,h⟩:=h;let⟨e,G,H,p⟩:=h (b.atR a (.inRegion ops (i::rest)::k)) cs (room_wide _);have q:step P (lone (b.atR a (.inRegion ops (i::rest)::k)) cs w)=.next (lone (Frame.round l f N D T .normal) (b.atR a (.inRegion ops (i::rest)::k)::cs) w'):=ce (by rw[J];simp[stepG.apply,E,Frame.atR]);cases e with|returned v=>obtain⟨e,a',C,W,B⟩:=H;rw[<- z v]at B;exact⟨e,a',C,W,.of_steps (.head q (StepsIn.steps p)) B⟩|panicked u=>refine⟨.panic u,a,G,H,.inRegion ops (i::rest)::k,.head q ?_⟩;rw[<- ct];exact StepsIn.steps p|outgrown=>{exact H.elim}}|_=>{exact h.elim}}|halt x w'=>{rw[E]at h;cases x with|panic v=>refine⟨.panic [{ v,recovered:=false }],a,w',h,.inRegion ops (i::rest)::k,.one (ce ?_)⟩;rw[J,<- ct];simp[stepG.apply,E]|_=>{exact h.elim}}
end
def DB (w:World) (o:Obj) (h:i<w.heap.size):(w.alloc o).heap[i]?=w.heap[i]?:=by show(w.heap.push o)[i]?=_;rw[Array.getElem?_push_lt h,PW h]
def Fi (w:World) (o:Obj):(w.alloc o).heap[w.heap.size]?=some o:=by show(w.heap.push o)[w.heap.size]?=some o;simp
inductive V where
 |bool (b:Bool)
 |int (k:IntKind) (n:Int)
 |str (s:List UInt8)
 |agg (cs:List V)
 |tup (cs:List V)
 |sl (es:List (List V))
 |iface (t:TypeId) (x:V)
 |niliface
 |nilp
 |nilmap
 |nilfn
 |fn (f:Fn)
 |ip (t:TypeId) (cs:List V) (off:Nat)
 |mapv (kv:List (V×V))
 |clo (f:Fn) (first cap:List V)
 |nilsl
inductive D where
 |undef
 |imm (x:V)
 |nils
 |ref (id off:Nat)
 |ip (t:TypeId) (cs:List V) (off:Nat)
 |agg (cs:List D)
 |tup (cs:List D)
 |own (id len:Nat)
 |elp (id k sz f:Nat)
 |mapr (id:Nat)
 |iter (id:Nat)
 |fn (f:Fn) (first cap:List D)
 |iface (t:TypeId) (d:D)
 |guard (c want:Bool) (d:D)
 |clip (es:List (List V))
 |slc (id off len cap:Nat)
 |yld (id:Nat)
 |raw (v:Value)
 |hv (id i:Nat)
abbrev U:=Nat->Option Obj
def U.le (I J:U):Prop:=∀b o,I b=some o->J b=some o
structure Bun where
 P:U->World->Nat->List Nat->Prop
 mono:∀{I J:U} {w:World} {b:Nat} {bs:List Nat},I.le J->P I w b bs->P J w b bs
 loc:∀{I:U} {w w':World} {b:Nat} {bs:List Nat},(∀k∈bs,w'.heap[k]?=w.heap[k]?)->P I w b bs->P I w' b bs
structure Asn where
 P:List Value->U->World->List Nat->Prop
 mono:∀{vs:List Value} {I J:U} {w:World} {bs:List Nat},I.le J->P vs I w bs->P vs J w bs
 loc:∀{vs:List Value} {I:U} {w w':World} {bs:List Nat},(∀k∈bs,w'.heap[k]?=w.heap[k]?)->P vs I w bs->P vs I w' bs
def UL (h:L1 Nat):Array Value:=(h.map λb=>.pointer (some ⟨b,0,none⟩)).toArray
def Tz (vs:L1 Value) (h:L1 Nat):Value:=.tuple ⟨[.agg vs.toArray,.agg (UL h)]⟩
inductive Blk where
 |immb (t:TypeId) (sz:Nat) (xs:List V)
 |cells (t:TypeId) (sz:Nat) (cs:List D)
 |row (t:TypeId) (sz:Nat) (es:List (List V))
 |map (kv:List (V×V))
 |siter (s:List UInt8) (pos:Nat)
 |pin
 |bun (id:Nat) (S:Bun)
 |hp (A:Asn)
 |adr (id b:Nat)
 |mapx (kv:List (V×V)) (b:Nat) (es:Array MapEntry) (clock:Nat)
 |miter (b since:Nat) (seen:Array Nat) (c:Nat)
abbrev Env:=L1 (Nat×D)
abbrev St:=L1 (Nat×Option Blk)
abbrev Mu:=Nat->Option Value
def lk {α:Type}:L1 (Nat×α)->Nat->Option α
 |[],_=>none
 |(k,x)::r,t=>match Nat.beq k t with
  |true=>some x
  |false=>lk r t
def OM {α:Type}:L1 α->Nat->Option α
 |[],_=>none
 |x::_,0=>some x
 |_::r,n+1=>OM r n
def HB {α:Type}:∀(l:L1 α) (n:Nat),OM l n=l[n]?
 |[],n=>by simp[OM]
 |x::_,0=>by simp[OM]
 |_::r,n+1=>by simp[OM,HB r n]
def A7 (k:Nat) (x:α) (r:L1 (Nat×α)):lk ((k,x)::r) k=some x:=by simp[lk]
def AB {k t:Nat} (x:α) (r:L1 (Nat×α)) (h:k≠t):lk ((k,x)::r) t=lk r t:=by have:Nat.beq k t=false:=by{cases p:Nat.beq k t with|false=>rfl|true=>{exact absurd (CU p) h}};simp[lk,this]
def U.ok (I:U) (w:World):Prop:=∀b o,I b=some o->w.heap[b]?=some o
def U.cell (I:U) (b off:Nat):Option Value :=
 match I b with
 |some (.cells c _ _)=>c[off]?
 |_=>none
def Mu.le (μ ν:Mu):Prop:=∀i v,μ i=some v->ν i=some v
def U.le_refl (I:U):I.le I:=λ_ _ h=>h
def U.le_trans {I J K:U} (h:I.le J) (k:J.le K):I.le K:=λb o x=>k b o (h b o x)
def Mu.le_refl (μ:Mu):μ.le μ:=λ_ _ h=>h
def Mu.le_trans {I J K:Mu} (h:I.le J) (k:J.le K):I.le K:=λb o x=>k b o (h b o x)
def U.cell_mono {I J:U} (h:I.le J) (q:I.cell b off=some v):J.cell b off=some v:=by unfold U.cell at *;cases p:I b with|none=>simp[p]at q|some o=>{rw[h b o p];simpa[p]using q}
def U.cell_world {I:U} (h:I.ok w) (p:I.cell b off=some v):w.cell? ⟨b,off,none⟩=some v:=by unfold U.cell at p;unfold World.cell?;cases q:I b with|none=>simp[q]at p|some o=>{have:=h b o q;cases o<;>simp_all}
inductive M (I:U):Value->V->Prop where
 |bool (b:Bool):M I (.bool b) (.bool b)
 |int (k:IntKind) (n:Int):M I (.int k n) (.int k n)
 |str (s:ByteArray) (l:List UInt8) (h:s.data.toList=l):M I (.string s) (.str l)
 |agg (cs:Array Value) (xs:List V) (hl:cs.size=xs.length) (h1:∀c∈cs.toList,c.oneCell'=true) (h:∀(i:Nat) (c:Value) (x:V),cs[i]?=some c->xs[i]?=some x->M I c x):M I (.agg cs) (.agg xs)
 |tup (cs:Array Value) (xs:List V) (hl:cs.size=xs.length) (h:∀(i:Nat) (c:Value) (x:V),cs[i]?=some c->xs[i]?=some x->M I c x):M I (.tuple cs) (.tup xs)
 |slnil:M I (.slice none 0 0) (.sl [])
 |sl0 (a:Addr):M I (.slice (some a) 0 0) (.sl [])
 |sl (b o len cap sz:Nat) (es:List (List V)) (vs:Nat->Nat->Value) (hl:len=es.length) (hc:len<=cap) (hm:cap<=maxLen)
   (hsz:∀e∈es,e.length=sz)
   (hcell:∀(i:Nat) (e:List V) (j:Nat) (x:V),es[i]?=some e->e[j]?=some x->I.cell b (o+i*sz+j)=some (vs i j)/\(vs i j).oneCell'=true)
   (hrep:∀(i:Nat) (e:List V) (j:Nat) (x:V),es[i]?=some e->e[j]?=some x->M I (vs i j) x):M I (.slice (some ⟨b,o,none⟩) len cap) (.sl es)
 |iface (t:TypeId) (v:Value) (x:V) (h:M I v x):M I (.iface t v) (.iface t x)
 |niliface:M I .nilIface .niliface
 |nilp:M I (.pointer none) .nilp
 |nilmap:M I (.map none) .nilmap
 |nilsl:M I (.slice none 0 0) .nilsl
 |nilfn:M I .nilFunc .nilfn
 |fn (f:Fn):M I (.func f #[] #[]) (.fn f)
 |ip (b o:Nat) (t:TypeId) (cs:List V) (off:Nat) (vs:Nat->Value)
   (hcell:∀(j:Nat) (x:V),cs[j]?=some x->I.cell b (o+j)=some (vs j)/\(vs j).oneCell'=true)
   (hrep:∀(j:Nat) (x:V),cs[j]?=some x->M I (vs j) x):M I (.pointer (some ⟨b,o+off,none⟩)) (.ip t cs off)
 |mapv (b:Nat) (es:Array MapEntry) (clock:Nat) (kv:List (V×V)) (hI:I b=some (.map es clock)) (hl:es.size=kv.length) (hs:MapKept.Stamped es clock)
   (hk:∀(i:Nat) (e:MapEntry) (p:V×V),es[i]?=some e->kv[i]?=some p->M I e.key p.1)
   (hv:∀(i:Nat) (e:MapEntry) (p:V×V),es[i]?=some e->kv[i]?=some p->M I e.val p.2):M I (.map (some b)) (.mapv kv)
 |clo (f:Fn) (first cap:Array Value) (xs ys:List V) (hf:first.size=xs.length) (hc:cap.size=ys.length)
   (h1:∀(i:Nat) (c:Value) (x:V),first[i]?=some c->xs[i]?=some x->M I c x) (h2:∀(i:Nat) (c:Value) (x:V),cap[i]?=some c->ys[i]?=some x->M I c x):M I (.func f first cap) (.clo f xs ys)
def M.mono {I J:U} (h:I.le J) {x:V} (c:M I v x):M J v x:=by induction c with|bool b=>exact .bool b|int k n=>exact .int k n|str s l G=>exact .str s l G|agg cs E u z _ q=>exact .agg cs E u z q|tup cs E u _ q=>exact .tup cs E u q|slnil=>exact .slnil|sl0 a=>exact .sl0 a|sl b o H A sz L vs u N d T p _ q=>exact .sl b o H A sz L vs u N d T (λi e j x z W=>⟨U.cell_mono h (p i e j x z W).1,(p i e j x z W).2⟩) q|iface t v x _ q=>exact .iface t v x q|niliface=>exact .niliface|nilp=>exact .nilp|nilmap=>exact .nilmap|nilsl=>exact .nilsl|nilfn=>exact .nilfn|fn f=>exact .fn f|ip b o t cs off vs p _ q=>exact .ip b o t cs off vs (λj x z=>⟨U.cell_mono h (p j x z).1,(p j x z).2⟩) q|mapv b L B g m u G _ _ C D=>exact .mapv b L B g (h _ _ m) u G C D|clo f first A E r w N _ _ C D=>{exact .clo f first A E r w N C D}
def Ek:Value->Nat->Prop
 |.pointer (some a),b=>a.block=b
 |.slice (some a) _ _,b=>a.block=b
 |.map (some c),b=>c=b
 |.agg cs,b=>∃a:Addr,.pointer (some a)∈cs.toList/\a.block=b
 |.tuple ⟨[_,.agg cs]⟩,b=>∃a:Addr,.pointer (some a)∈cs.toList/\a.block=b
 |_,_=>False
def Do {p:L1 Nat} {k:Nat}:Ek (.agg (UL p)) k↔k∈p:=by simp only[Ek,UL];constructor;rintro ⟨a,q,u⟩;let⟨b,x,e⟩:=C7.1 q;cases e;exact u▸x;intro h;exact⟨⟨k,0,none⟩,C7.2 ⟨k,h,rfl⟩,rfl⟩
def BM {h:L1 Nat} {k:Nat}:Ek (Tz vs h) k↔k∈h:=Do
inductive X (I:U) (μ:Mu):Value->D->Prop where
 |undef (v:Value):X I μ v .undef
 |imm (v:Value) (x:V) (h:M I v x):X I μ v (.imm x)
 |nils:X I μ (.slice none 0 0) .nils
 |ref (b id off:Nat) (h:μ id=some (.pointer (some ⟨b,0,none⟩))):X I μ (.pointer (some ⟨b,off,none⟩)) (.ref id off)
 |ip (b o:Nat) (t:TypeId) (cs:List V) (off:Nat) (vs:Nat->Value)
   (hcell:∀(j:Nat) (x:V),cs[j]?=some x->I.cell b (o+j)=some (vs j)/\(vs j).oneCell'=true)
   (hrep:∀(j:Nat) (x:V),cs[j]?=some x->M I (vs j) x):X I μ (.pointer (some ⟨b,o+off,none⟩)) (.ip t cs off)
 |agg (cs:Array Value) (ds:List D) (hl:cs.size=ds.length) (h1:∀c∈cs.toList,c.oneCell'=true) (h:∀(i:Nat) (c:Value) (x:D),cs[i]?=some c->ds[i]?=some x->X I μ c x):X I μ (.agg cs) (.agg ds)
 |tup (cs:Array Value) (ds:List D) (hl:cs.size=ds.length) (h:∀(i:Nat) (c:Value) (x:D),cs[i]?=some c->ds[i]?=some x->X I μ c x):X I μ (.tuple cs) (.tup ds)
 |own (id len:Nat) (a:Option Addr) (cap:Nat) (h:μ id=some (.slice a len cap)):X I μ (.slice a len cap) (.own id len)
 |elp (b id len cap k sz f:Nat) (h:μ id=some (.slice (some ⟨b,0,none⟩) len cap)):X I μ (.pointer (some ⟨b,k*sz+f,none⟩)) (.elp id k sz f)
 |mapr (id b:Nat) (h:μ id=some (.map (some b))):X I μ (.map (some b)) (.mapr id)
 |iter (id b:Nat) (h:μ id=some (.pointer (some ⟨b,0,none⟩))):X I μ (.pointer (some ⟨b,0,none⟩)) (.iter id)
 |fn (f:Fn) (first cap:Array Value) (df dc:List D) (hf:first.size=df.length) (hc:cap.size=dc.length)
   (h1:∀(i:Nat) (c:Value) (x:D),first[i]?=some c->df[i]?=some x->X I μ c x) (h2:∀(i:Nat) (c:Value) (x:D),cap[i]?=some c->dc[i]?=some x->X I μ c x):X I μ (.func f first cap) (.fn f df dc)
 |iface (t:TypeId) (v:Value) (d:D) (h:X I μ v d):X I μ (.iface t v) (.iface t d)
 |guard (c want:Bool) (v:Value) (d:D) (h:c=want->X I μ v d) (hu:c≠want->v=Go.undef):X I μ v (.guard c want d)
 |clip (a:Option Addr) (len:Nat) (es:List (List V)) (h:M I (.slice a len len) (.sl es)):X I μ (.slice a len len) (.clip es)
 |slc (b id off len cap:Nat) (h:μ id=some (.pointer (some ⟨b,0,none⟩))) (hl:len<=cap) (hm:cap<=maxLen):X I μ (.slice (some ⟨b,off,none⟩) len cap) (.slc id off len cap)
 |yld (b id:Nat) (h:μ id=some (.func (.yield b) #[] #[])):X I μ (.func (.yield b) #[] #[]) (.yld id)
 |raw (v:Value) (h:v.oneCell'=true):X I μ v (.raw v)
 |hv (v:Value) (id i:Nat) (vs:List Value) (bs:List Nat) (h:μ id=some (Tz vs bs)) (hi:vs[i]?=some v) (h1:v.oneCell'=true):X I μ v (.hv id i)
def X.mono {I J:U} {μ ν:Mu} (h:I.le J) (p:μ.le ν) {d:D} (L:X I μ v d):X J ν v d:=by induction L with|undef v=>exact .undef v|imm v x N=>exact .imm v x (N.mono h)|nils=>exact .nils|ref b id off q=>exact .ref b id off (p _ _ q)|ip b o t cs off vs A E=>exact .ip b o t cs off vs (λj x B=>⟨U.cell_mono h (A j x B).1,(A j x B).2⟩) (λj x B=>(E j x B).mono h)|agg cs ds G B _ C=>exact .agg cs ds G B C|tup cs ds G _ C=>exact .tup cs ds G C|own id u a z q=>exact .own id u a z (p _ _ q)|elp b id u z k sz f q=>exact .elp b id u z k sz f (p _ _ q)|mapr id b q=>exact .mapr id b (p _ _ q)|iter id b q=>exact .iter id b (p _ _ q)|fn f first z W e g l _ _ T V=>{exact .fn f first z W e g l T V}|iface t v d _ C=>exact .iface t v d C|guard c H v d _ m C=>exact .guard c H v d C m|clip a u n L=>exact .clip a u n (L.mono h)|slc b id off u z q G N=>exact .slc b id off u z (p _ _ q) G N|yld b id q=>exact .yld b id (p _ _ q)|raw v h=>exact .raw v h|hv v id i vs r q s B=>{exact .hv v id i vs r (p _ _ q) s B}
def V.one:V->Bool
 |.agg _|.tup _=>false
 |_=>true
def D.one:D->Bool
 |.imm x=>x.one
 |.nils|.ref ..|.ip ..|.own ..|.elp ..|.mapr _|.iter _|.fn ..|.iface ..|.clip _|.slc ..|.yld _|.raw _|.hv ..=>true
 |_=>false
def M.one {I:U} {x:V} (h:M I v x) (p:x.one=true):v.oneCell'=true:=by cases h<;>first|rfl|(simp[V.one]at p)
def X.one {I:U} {μ:Mu} {d:D} (h:X I μ v d) (p:d.one=true):v.oneCell'=true:=by cases h<;>first|rfl|assumption|(simp[D.one]at p;done)|exact M.one (by assumption) p
def RepL (I:U) (μ:Mu) (vs:L1 Value) (ds:L1 D):Prop:=vs.length=ds.length/\∀(i:Nat) (v:Value) (d:D),vs[i]?=some v->ds[i]?=some d->X I μ v d
def RepVL (I:U) (vs:L1 Value) (xs:L1 V):Prop:=vs.length=xs.length/\∀(i:Nat) (v:Value) (x:V),vs[i]?=some v->xs[i]?=some x->M I v x
def RepL.mono {I J:U} {μ ν:Mu} (h:I.le J) (p:μ.le ν) {ds:L1 D} (q:RepL I μ vs ds):RepL J ν vs ds:=⟨q.1,λi v d u x=>(q.2 i v d u x).mono h p⟩
def RepVL.mono {I J:U} (h:I.le J) {xs:L1 V} (p:RepVL I vs xs):RepVL J vs xs:=⟨p.1,λi v d q u=>(p.2 i v d q u).mono h⟩
def BlkRep (I:U) (μ:Mu) (w:World) (g:Value):Blk->Prop
 |.immb t sz B=>B.length=sz/\∃b vs,g=.pointer (some ⟨b,0,none⟩)/\w.heap[b]?=some (.cells vs t (0,0))/\RepVL I vs.toList B/\∀v∈vs.toList,v.oneCell'=true
 |.cells t sz cs=>cs.length=sz/\∃b vs,g=.pointer (some ⟨b,0,none⟩)/\w.heap[b]?=some (.cells vs t (0,0))/\RepL I μ vs.toList cs/\∀v∈vs.toList,v.oneCell'=true
 |.row t sz q=>∃B,w.ownsRow 0 t sz g q.length B/\RepVL I B q.flatten/\(∀e∈q,e.length=sz)/\(∀e∈q,∀x∈e,V.one x=true)/\0<sz
 |.map C=>∃b q h,g=.map (some b)/\w.heap[b]?=some (.map q h)/\q.size=C.length/\MapKept.Stamped q h /\
   ∀(i:Nat) (e:MapEntry) (p:V×V),q[i]?=some e->C[i]?=some p->M I e.key p.1/\M I e.val p.2
 |.siter s D=>∃b u,g=.pointer (some ⟨b,0,none⟩)/\w.heap[b]?=some (.stringIter u D)/\u.data.toList=s
 |.pin=>∃b,g=.func (.yield b) #[] #[]
 |.bun id S=>∃b u,μ id=some (.func (.yield b) #[] #[])/\g=.agg (UL u)/\S.P I w b u
 |.hp A=>∃vs u,g=Tz vs u/\A.P vs I w u
 |.adr id b=>g=.bool true/\μ id=some (.pointer (some ⟨b,0,none⟩))
 |.mapx C b q h=>g=.map (some b)/\w.heap[b]?=some (.map q h)/\q.size=C.length/\MapKept.Stamped q h /\
   ∀(i:Nat) (e:MapEntry) (p:V×V),q[i]?=some e->C[i]?=some p->M I e.key p.1/\M I e.val p.2
 |.miter b z seen c=>∃r,g=.pointer (some ⟨r,0,none⟩)/\w.heap[r]?=some (.mapIter (some b) z seen c)
def BlkRep.mono {I J:U} {μ ν:Mu} (h:I.le J) (D:μ.le ν) {blk:Blk} (x:BlkRep I μ w g blk):BlkRep J ν w g blk:=by cases blk with|immb t sz T=>obtain⟨G,b,vs,q,u,z,C⟩:=x;exact⟨G,b,vs,q,u,z.mono h,C⟩|cells t sz cs=>obtain⟨G,b,vs,q,u,z,C⟩:=x;exact⟨G,b,vs,q,u,z.mono h D,C⟩|row t sz H=>obtain⟨T,q,u,z,C,E⟩:=x;exact⟨T,q,u.mono h,z,C,E⟩|map V=>obtain⟨b,H,B,q,u,z,C,E⟩:=x;exact⟨b,H,B,q,u,z,C,λi e p a b=>⟨(E i e p a b).1.mono h,(E i e p a b).2.mono h⟩⟩|siter s W=>exact x|pin=>exact x|bun id S=>obtain⟨b,L,q,u,z⟩:=x;exact⟨b,L,D _ _ q,u,S.mono h z⟩|hp A=>obtain⟨vs,L,q,u⟩:=x;exact⟨vs,L,q,A.mono h u⟩|adr id b=>exact⟨x.1,D _ _ x.2⟩|mapx V b H B=>obtain⟨q,u,z,C,E⟩:=x;exact⟨q,u,z,C,λi e p a b=>⟨(E i e p a b).1.mono h,(E i e p a b).2.mono h⟩⟩|miter b N seen c=>{exact x}
def BlkRep.world {I:U} {μ:Mu} {blk:Blk} (u:BlkRep I μ w g blk) (h:∀b,Ek g b->w'.heap[b]?=w.heap[b]?):BlkRep I μ w' g blk:=by cases blk with|immb t sz L=>obtain⟨C,b,vs,p,q,x⟩:=u;exact⟨C,b,vs,p,(h b (by rw[p];rfl)).trans q,x⟩|cells t sz cs=>obtain⟨C,b,vs,p,q,x⟩:=u;exact⟨C,b,vs,p,(h b (by rw[p];rfl)).trans q,x⟩|row t sz D=>obtain⟨L,⟨p,q⟩,x⟩:=u;refine⟨L,⟨p,q.imp id ?_⟩,x⟩;rintro ⟨b,E,G,rfl,N,T,u⟩;exact⟨b,E,G,rfl,N,(h b O).trans T,u⟩|map V=>obtain⟨b,D,z,p,q,x⟩:=u;exact⟨b,D,z,p,(h b (by rw[p];rfl)).trans q,x⟩|siter s W=>obtain⟨b,B,p,q,x⟩:=u;exact⟨b,B,p,(h b (by rw[p];rfl)).trans q,x⟩|pin=>exact u|bun id S=>obtain⟨b,B,p,q,x⟩:=u;exact⟨b,B,p,q,S.loc (λk H=>h k (by rw[q];exact Do.2 H)) x⟩|hp A=>obtain⟨vs,B,p,q⟩:=u;exact⟨vs,B,p,A.loc (λk H=>h k (by rw[p];exact BM.2 H)) q⟩|adr id b=>exact u|mapx V b D z=>obtain⟨p,q,x⟩:=u;exact⟨p,(h b (by rw[p];rfl)).trans q,x⟩|miter b J seen c=>{obtain⟨r,p,q⟩:=u;exact⟨r,p,(h r (by rw[p];rfl)).trans q⟩}
def Aw (st:St) (id:Nat) (blk:Blk):Prop:=lk st id=some (some blk)
structure StRep (I:U) (μ:Mu) (st:St) (aa:List Nat) (w:World):Prop where
 imm:I.ok w
 blk:∀id blk,Aw st id blk->∃g,μ id=some g/\BlkRep I μ w g blk
 apart:∀id blk g b,Aw st id blk->μ id=some g->Ek g b->I b=none/\b<w.heap.size
 inj:∀i j bi bj gi gj b,Aw st i bi->Aw st j bj->μ i=some gi->μ j=some gj->Ek gi b->Ek gj b->i=j
 nodup:aa.Nodup
 idsFree:∀id∈aa,μ id=none
def AX (μ:Mu) (st:St) (b:Nat):Prop:=∃id h g,Aw st id h/\μ id=some g/\Ek g b
def mkD (r:Nat):Deferred:={ target:=.collected r,args:=#[] }
def MarksOk (I:U) (μ:Mu) (st:St) (w:World) (ds:L1 Deferred):Prop:=∃h:L1 Nat,ds=h.map mkD/\h.Nodup/\∀r∈h,w.heap[r]?=some (.deferred (some []))/\I r=none/\¬AX μ st r
structure Conc (n:Nat) (I:U) (μ:Mu) (env:Env) (st:St) (aa:List Nat) (a:Act) (w:World):Prop extends StRep I μ st aa w where
 size:a.tmps.size=n
 env:∀t d,lk env t=some d->X I μ (a.tmps.getD t undef) d
 defers:MarksOk I μ st w a.defers
structure Ext (I:U) (μ:Mu) (st:St) (w:World) (I':U) (μ':Mu) (au:St) (w':World):Prop where
 imm:I.le I'
 os:w'.os=w.os
 tape:w'.tape=w.tape
 output:w'.output=w.output
 size:w.heap.size<=w'.heap.size
 block:∀b,b<w.heap.size->¬AX μ st b->w'.heap[b]?=w.heap[b]?
 fresh:∀b,b<w.heap.size->AX μ' au b->AX μ st b
 old:∀b,b<w.heap.size->¬AX μ st b->I' b=I b
def Ext.refl (I:U) (μ:Mu) (st:St) (w:World):Ext I μ st w I μ st w:=⟨I.le_refl,rfl,rfl,rfl,BO _,λ_ _ _=>rfl,λ_ _ h=>h,λ_ _ _=>rfl⟩
def Ext.trans {I J K:U} {μ ν ρ:Mu} {s t u:St} {x y:World} (h:Ext I μ s w J ν t x) (k:Ext J ν t x K ρ u y):Ext I μ s w K ρ u y where
 imm:=U.le_trans h.imm k.imm
 os:=k.os.trans h.os
 tape:=k.tape.trans h.tape
 output:=k.output.trans h.output
 size:=zjq h.size k.size
 block:=λb hb ho=>(k.block b (ZM hb h.size) (λhx=>ho (h.fresh b hb hx))).trans (h.block b hb ho)
 fresh:=λb hb ho=>h.fresh b hb (k.fresh b (ZM hb h.size) ho)
 old:=λb hb ho=>(k.old b (ZM hb h.size) (λhx=>ho (h.fresh b hb hx))).trans (h.old b hb ho)
def Ext.drew (I:U) (μ:Mu) (st:St) (w:World):Ext I μ st w I μ st { w with drawn:=w.drawn+1 }:=⟨I.le_refl,rfl,rfl,rfl,BO _,λ_ _ _=>rfl,λ_ _ h=>h,λ_ _ _=>rfl⟩
def MarksOk.nil (I:U) (μ:Mu) (st:St) (w:World):MarksOk I μ st w []:=⟨[],rfl,.nil,λ_ h=>by simp at h⟩
def MarksOk.ext {I J:U} {μ ν:Mu} {s t:St} {x:World} (h:MarksOk I μ s w ds) (e:Ext I μ s w J ν t x):MarksOk J ν t x ds:=by obtain⟨z,A,B,C⟩:=h;refine⟨z,A,B,λr D=>?_⟩;let⟨u,E,q⟩:=C r D;have p:r<w.heap.size:=(GS.1 u).1;exact⟨(e.block r p q).trans u,(e.old r p q).trans E,λG=>q (e.fresh r p G)⟩
def Conc.drew {I:U} {μ:Mu} {env:Env} {st:St} (h:Conc n I μ env st aa a w):Conc n I μ env st aa a { w with drawn:=w.drawn+1 }:={imm:=h.imm,blk:=λid blk p=>let⟨g,q,u⟩:=h.blk id blk p;⟨g,q,u.world (λ_ _=>rfl)⟩,apart:=h.apart,inj:=h.inj,idsFree:=h.idsFree,nodup:=h.nodup,size:=h.size,env:=h.env,defers:=h.defers }
inductive Sh where
 |bool
 |int (k:IntKind)
 |str
 |ptr (e:TypeId)
 |sl (e:TypeId)
 |map (k e:TypeId)
 |struct (fs:List (Nat×TypeId))
 |arr (n:Nat) (e:TypeId)
 |func
 |iface
 |other
structure TyI where
 sh:Sh
 agg:Bool
 size:Nat
 bytes:Nat
 zero:List D
abbrev TT:=L1 (Nat×TyI)
inductive EP where
 |p (d:D) (ob:List Prop)
 |r (d:D) (ob:List Prop)
 |no
inductive EE where
 |e (d:D) (st:St) (aa:List Nat) (ob:List Prop)
 |no
def of1:Value->Option V
 |.bool b=>some (.bool b)
 |.int k n=>some (.int k n)
 |.string s=>some (.str s.data.toList)
 |.slice none 0 0=>some (.sl [])
 |_=>none
def zd2:L1 Value->Option (L1 V)
 |[]=>some []
 |c::r=>match of1 c,zd2 r with
  |some x,some h=>some (x::h)
  |_,_=>none
def tL:Value->Option D
 |.bool b=>some (.imm (.bool b))
 |.int k n=>some (.imm (.int k n))
 |.string s=>some (.imm (.str s.data.toList))
 |.pointer none=>some (.imm .nilp)
 |.slice none 0 0=>some .nils
 |.map none=>some (.imm .nilmap)
 |.nilFunc=>some (.imm .nilfn)
 |.nilIface=>some (.imm .niliface)
 |.agg ⟨cs⟩=>match zd2 cs with
  |some h=>some (.imm (.agg h))
  |none=>none
 |_=>none
def EM (env:Env):Operand->Option D
 |.tmp t=>lk env t
 |.const v=>tL v
 |.func f=>some (.imm (.fn (.func f)))
 |.global _=>none
def Lb:L1 Prop->L1 Prop->L1 Prop
 |[],b=>b
 |p::a,b=>p::Lb a b
def Fk (C:Prop) (env:Env) (x:Operand) (k:D->L1 Prop->EP):EP :=
 match EM env x with
 |some (.guard c w d)=>k d [C->c=w]
 |some d=>k d []
 |none=>.no
def RT (env:Env) (x:Operand) (k:D->EE):EE :=
 match EM env x with
 |some (.guard _ _ _)=>.no
 |some d=>k d
 |none=>.no
def ME:L1 D->Option (L1 V)
 |[]=>some []
 |.imm x::r=>match ME r with
  |some h=>some (x::h)
  |none=>none
 |_=>none
def H2:L1 D->Option (L1 V)
 |[]=>some []
 |.imm x::r=>match H2 r with
  |some h=>some (x::h)
  |none=>none
 |.nils::r=>match H2 r with
  |some h=>some (.sl []::h)
  |none=>none
 |_=>none
def JJ (ds:L1 D):D:=match ME ds with
 |some h=>.imm (.agg h)
 |none=>.agg ds
def Sx (t:TypeId) (sz:Nat) (ds:L1 D):Blk:=match ME ds with
 |some h=>.immb t sz h
 |none=>.cells t sz ds
def zmq:D->Option V
 |.imm x=>some x
 |.nils=>some (.sl [])
 |.agg ds=>match H2 ds with
  |some h=>some (.agg h)
  |none=>none
 |.ip t cs off=>some (.ip t cs off)
 |_=>none
def O6:L1 D->Option (L1 V)
 |[]=>some []
 |d::r=>match zmq d,O6 r with
  |some x,some h=>some (x::h)
  |_,_=>none
def toV:D->Option V
 |.imm x=>some x
 |.nils=>some (.sl [])
 |.agg ds=>match H2 ds with
  |some h=>some (.agg h)
  |none=>none
 |.tup ds=>match O6 ds with
  |some h=>some (.tup h)
  |none=>none
 |.ip t cs off=>some (.ip t cs off)
 |.clip p=>some (.sl p)
 |.fn f a b=>match O6 a,O6 b with
  |some h,some q=>some (.clo f h q)
  |_,_=>none
 |_=>none
def O8:L1 D->Option (L1 V)
 |[]=>some []
 |d::r=>match toV d,O8 r with
  |some x,some h=>some (x::h)
  |_,_=>none
def zb5 (t:TypeId) (sz:Nat):D->Option (Blk×L1 Prop)
 |.imm (.agg h)=>some (.immb t sz h,[h.length=sz])
 |.imm (.tup _)=>none
 |.imm x=>match Nat.beq sz 1 with
  |true=>some (.immb t sz [x],[])
  |false=>none
 |.agg ds=>match Nat.beq ds.length sz with
  |true=>some (Sx t sz ds,[])
  |false=>none
 |.tup _|.guard ..|.undef=>none
 |d=>match Nat.beq sz 1 with
  |true=>some (.cells t sz [d],[])
  |false=>none
def Nf:D->Option (L1 D)
 |.imm (.agg h)=>some (h.map .imm)
 |.imm (.tup _)=>none
 |.agg ds=>some ds
 |.tup _|.guard ..|.undef=>none
 |d=>some [d]
def sub {α:Type}:L1 α->Nat->Nat->Option (L1 α)
 |_,0,0=>some []
 |x::r,0,n+1=>match sub r 0 n with
  |some l=>some (x::l)
  |none=>none
 |_::r,o+1,n=>sub r o n
 |[],_,_=>none
def splice {α:Type}:L1 α->Nat->L1 α->Option (L1 α)
 |l,0,[]=>some l
 |_::r,0,y::h=>match splice r 0 h with
  |some l=>some (y::l)
  |none=>none
 |x::r,o+1,h=>match splice r o h with
  |some l=>some (x::l)
  |none=>none
 |[],_,_=>none
def zn9 (op:BinOp):V->V->Option (V×L1 Prop)
 |.int k a,.int _ b=>match op with
  |.add=>some (.int k (k.wrap (a+b)),[])
  |.sub=>some (.int k (k.wrap (a-b)),[])
  |.mul=>some (.int k (k.wrap (a*b)),[])
  |.quo=>some (.int k (k.wrap (a.tdiv b)),[b≠0])
  |.rem=>some (.int k (a.tmod b),[b≠0])
  |.eql=>some (.bool (a==b),[])
  |.neq=>some (.bool (a != b),[])
  |.lss=>some (.bool (decide (a<b)),[])
  |.leq=>some (.bool (decide (a<=b)),[])
  |.gtr=>some (.bool (decide (a > b)),[])
  |.geq=>some (.bool (decide (a>=b)),[])
  |_=>none
 |.str a,.str b=>match op with
  |.add=>some (.str (a++b),[a.length+b.length<=9223372036854775807])
  |.eql=>some (.bool (a==b),[])
  |.neq=>some (.bool (!(a==b)),[])
  |.lss=>some (.bool (Op.bytesLess a b),[])
  |_=>none
 |_,_=>none
def Y2:D->Bool
 |.ref ..|.ip ..|.elp ..=>true
 |.raw (.pointer (some _))=>true
 |_=>false
def zco:V->V->Bool
 |.int k _,.int h _=>decide (k=h)
 |.str _,.str _=>true
 |_,_=>false
def TZ:L1 (L1 V)->Option (L1 UInt8)
 |[]=>some []
 |[.int .u8 n]::r=>match TZ r with
  |some l=>some (UInt8.ofNat n.toNat::l)
  |none=>none
 |_=>none
def elemOf (sz:Nat):D->Option (L1 V×L1 Prop)
 |.imm (.agg h)=>some (h,[h.length=sz])
 |.imm (.tup _)=>none
 |.imm x=>match Nat.beq sz 1 with
  |true=>some ([x],[])
  |false=>none
 |.nils=>match Nat.beq sz 1 with
  |true=>some ([.sl []],[])
  |false=>none
 |.agg ds=>match H2 ds with
  |some h=>some (h,[h.length=sz])
  |none=>none
 |_=>none
def JT (C:Prop) (env:Env) (sz:Nat):Nat->L1 (Nat×Operand)->Option (L1 (L1 V)×L1 Prop)
 |_,[]=>some ([],[])
 |i,(j,x)::r=>match Nat.beq i j,EM env x with
  |true,some (.guard c w d)=>match elemOf sz d,JT C env sz (i+1) r with
   |some (e,o),some (h,p)=>some (e::h,(C->c=w)::Lb o p)
   |_,_=>none
  |true,some d=>match elemOf sz d,JT C env sz (i+1) r with
   |some (e,o),some (h,p)=>some (e::h,Lb o p)
   |_,_=>none
  |_,_=>none
inductive Ch where
 |v1 (x:V)
 |vs (xs:List V)
 |d1 (d:D)
 |ds (ds:List D)
inductive Acc where
 |e
 |v (xs:List V)
 |d (ds:List D)
def V9:Ch->Acc->Acc
 |.v1 x,.e=>.v [x]
 |.v1 x,.v h=>.v (x::h)
 |.v1 x,.d ds=>.d (.imm x::ds)
 |.vs p,.e=>.v p
 |.vs p,.v h=>.v (p++h)
 |.vs p,.d ds=>.d (p.map .imm++ds)
 |.d1 d,.e=>.d [d]
 |.d1 d,.v h=>.d (d::h.map .imm)
 |.d1 d,.d ds=>.d (d::ds)
 |.ds l,.e=>.d l
 |.ds l,.v h=>.d (l++h.map .imm)
 |.ds l,.d ds=>.d (l++ds)
def zn4 (sz:Nat):D->Option (Ch×L1 Prop)
 |.imm (.agg h)=>some (.vs h,[h.length=sz])
 |.imm (.tup _)=>none
 |.imm x=>match Nat.beq sz 1 with
  |true=>some (.v1 x,[])
  |false=>none
 |.agg ds=>some (.ds ds,[ds.length=sz])
 |.tup _|.guard ..|.undef=>none
 |d=>match Nat.beq sz 1 with
  |true=>some (.d1 d,[])
  |false=>none
def qY (ds:L1 D):Ch:=match ME ds with
 |some [x]=>.v1 x
 |some h=>.vs h
 |none=>match ds with
  |[d]=>.d1 d
  |ds=>.ds ds
def CP:L1 (Nat×Operand)->Nat->Option Operand
 |[],_=>none
 |(i,x)::r,j=>match Nat.beq i j with
  |true=>some x
  |false=>CP r j
def PC (n:Nat):L1 (Nat×Operand)->Bool
 |[]=>true
 |(i,_)::r=>match Nat.blt i n,CP r i with
  |true,none=>PC n r
  |_,_=>false
def RJ (B:TT) (env:Env) (z:L1 D) (parts:L1 (Nat×Operand)):Nat->Nat->L1 (Nat×TypeId)->Option (Acc×L1 Prop)
 |_,off,[]=>match Nat.beq off z.length with
  |true=>some (.e,[])
  |false=>none
 |i,off,(p,q)::r=>match Nat.beq p off,lk B q with
  |true,some ti=>match RJ B env z parts (i+1) (off+ti.size) r with
   |some (h,o)=>match CP parts i with
    |some x=>match EM env x with
     |some d=>match zn4 ti.size d with
      |some (c,u)=>some (V9 c h,Lb u o)
      |none=>none
     |none=>none
    |none=>match sub z off ti.size with
     |some ds=>some (V9 (qY ds) h,o)
     |none=>none
   |none=>none
  |_,_=>none
def qC (env:Env):L1 Operand->Option (L1 D)
 |[]=>some []
 |x::r=>match EM env x,qC env r with
  |some (.guard ..),_=>none
  |some d,some ds=>some (d::ds)
  |_,_=>none
def zdy (x:Option V) (ob:L1 Prop) (f:D->L1 Prop->EP):EP:=match x with
 |some x=>f (.imm x) ob
 |none=>.no
def PY (i:TyI) (same:Bool) (xs:L1 V) (off:Nat):Option D :=
 match i.agg,same,off with
 |true,true,0=>some (.imm (.agg xs))
 |true,_,off=>match sub xs off i.size with
  |some l=>some (.imm (.agg l))
  |none=>none
 |false,_,off=>match OM xs off with
  |some x=>some (.imm x)
  |none=>none
def Iv (i:TyI) (same:Bool) (cs:L1 D) (off:Nat):Option D :=
 match i.agg,same,off with
 |true,true,0=>some (JJ cs)
 |true,_,off=>match sub cs off i.size with
  |some l=>some (JJ l)
  |none=>none
 |false,_,off=>OM cs off
def El (a b:Nat):Nat:=match a with
 |0=>b
 |_=>a+b
def bsD:L1 (L1 V)->D
 |[]=>.clip []
 |es=>.imm (.sl es)
def Ix (B:TT) (C:Prop) (env:Env) (st:St) (op:Op):EP :=
 match op with
 |.move x=>Fk C env x λd o=>.p d o
 |.assign x=>Fk C env x λd o=>.p d o
 |.nilCheck x=>Fk C env x λd o=>match Y2 d with
  |true=>.p d o
  |false=>match d with
   |.fn (.func f) a b=>.p (.fn (.func f) a b) o
   |.imm (.fn (.func f))=>.p (.imm (.fn (.func f))) o
   |.imm (.ip t cs off)=>.p (.ip t cs off) o
   |_=>.no
 |.pick c a b=>match EM env c,EM env a,EM env b with
  |some (.imm (.bool c)),some (.imm (.bool a)),some (.imm (.bool b))=>.p (.imm (.bool (bif c then a else b))) []
  |some (.imm (.bool c)),some (.imm (.bool a)),some (.guard H w (.imm (.bool b)))=>.p (.imm (.bool (bif c then a else b))) [C->c=false->H=w]
  |some (.imm (.bool c)),some (.guard H w (.imm (.bool a))),some (.imm (.bool b))=>.p (.imm (.bool (bif c then a else b))) [C->c=true->H=w]
  |some (.guard g w (.imm (.bool c))),some (.imm (.bool a)),some (.guard H w' (.imm (.bool b)))=>.p (.imm (.bool (bif c then a else b))) [C->g=w,C->c=false->H=w']
  |some (.guard g w (.imm (.bool c))),some (.guard H w' (.imm (.bool a))),some (.imm (.bool b))=>.p (.imm (.bool (bif c then a else b))) [C->g=w,C->c=true->H=w']
  |_,_,_=>.no
 |.binOp op t x y _=>Fk C env x λdx q=>Fk C env y λJ u=>match dx,J with
  |.imm (.bool a),.imm (.bool b)=>match lk B t,op with
   |some { sh:=.bool,.. },.eql=>.p (.imm (.bool (a==b))) (Lb q u)
   |some { sh:=.bool,.. },.neq=>.p (.imm (.bool (!(a==b)))) (Lb q u)
   |_,_=>.no
  |.imm .nilp,.imm .nilp=>match lk B t,op with
   |some { sh:=.ptr _,.. },.eql=>.p (.imm (.bool true)) (Lb q u)
   |some { sh:=.ptr _,.. },.neq=>.p (.imm (.bool false)) (Lb q u)
   |_,_=>.no
  |.imm a,.imm b=>match zco a b,zn9 op a b with
   |true,some (v,o)=>.p (.imm v) (Lb (o.map (C->·)) (Lb q u))
   |_,_=>.no
  |dx,.imm .nilp=>match Y2 dx,lk B t,op with
   |true,some { sh:=.ptr _,.. },.eql=>.p (.imm (.bool false)) (Lb q u)
   |true,some { sh:=.ptr _,.. },.neq=>.p (.imm (.bool true)) (Lb q u)
   |_,_,_=>.no
  |_,_=>.no
 |.unOp .not _ x=>Fk C env x λd o=>match d with
  |.imm (.bool b)=>.p (.imm (.bool (!b))) o
  |_=>.no
 |.unOp .neg _ x=>Fk C env x λd o=>match d with
  |.imm (.int k n)=>.p (.imm (.int k (k.wrap (0-n)))) o
  |_=>.no
 |.convert s t x=>Fk C env x λd o=>match lk B s,lk B t,d with
  |some { sh:=.int _,.. },some { sh:=.int k,.. },.imm (.int _ n)=>.p (.imm (.int k (k.wrap n))) o
  |some { sh:=.sl e,.. },some { sh:=.str,.. },.imm (.sl h)=>match lk B e,TZ h with
   |some { sh:=.int .u8,.. },some l=>.p (.imm (.str l)) o
   |_,_=>.no
  |some { sh:=.int _,.. },some { sh:=.str,.. },.imm (.int _ n)=>.p (.imm (.str [UInt8.ofNat n.toNat])) ((C->0<=n/\n<128)::o)
  |_,_,_=>.no
 |.fieldAddr s x f=>Fk C env x λd o=>match d,lk B s with
  |.ref id off,some { sh:=.struct p,.. }=>match OM p f with
   |some (A,_)=>.p (.ref id (El off A)) o
   |none=>.no
  |.ip t cs off,some { sh:=.struct p,.. }=>match OM p f with
   |some (A,_)=>.p (.ip t cs (El off A)) o
   |none=>.no
  |.elp id k sz off,some { sh:=.struct p,.. }=>match OM p f with
   |some (A,_)=>.p (.elp id k sz (El off A)) o
   |none=>.no
  |.raw (.pointer (some ⟨b,off,none⟩)),some { sh:=.struct p,.. }=>match OM p f with
   |some (A,_)=>.p (.raw (.pointer (some ⟨b,El off A,none⟩))) o
   |none=>.no
  |_,_=>.no
 |.load t x=>Fk C env x λd o=>match d,lk B t with
  |.ref id off,some i=>match lk st id with
   |some (some (.immb _ sz D))=>match PY i (Nat.beq sz i.size) D off with
    |some d=>.r d o
    |none=>.no
   |some (some (.cells _ sz cs))=>match Iv i (Nat.beq sz i.size) cs off with
    |some d=>.r d o
    |none=>.no
   |_=>.no
  |.ip T cs off,some i=>match PY i (Nat.beq t T) cs off with
   |some d=>match i.agg,Nat.beq t T,off with
    |true,true,0=>.p d ((C->cs.length=i.size)::o)
    |_,_,_=>.p d o
   |none=>.no
  |_,_=>.no
 |.field t x f=>Fk C env x λd o=>match d,lk B t with
  |.imm (.agg D),some { sh:=.struct p,.. }=>match OM p f with
   |some (A,N)=>match lk B N with
    |some i=>match PY i false D A with
     |some d=>.p d o
     |none=>.no
    |none=>.no
   |none=>.no
  |.agg D,some { sh:=.struct p,.. }=>match OM p f with
   |some (A,N)=>match lk B N with
    |some i=>match Iv i false D A with
     |some d=>.p d o
     |none=>.no
    |none=>.no
   |none=>.no
  |_,_=>.no
 |.extract x i=>Fk C env x λd o=>match d with
  |.imm (.tup D)=>zdy (OM D i) o .p
  |.tup ds=>match OM ds i with
   |some d=>.p d o
   |none=>.no
  |_=>.no
 |.index t x y=>Fk C env x λdx q=>Fk C env y λJ u=>match dx,J,lk B t with
  |.imm (.str s),.imm (.int _ i),some { sh:=.str,.. }=>.p (.imm (.int .u8 (s.getD i.toNat 0).toNat)) ((C->0<=i/\i<s.length)::Lb q u)
  |_,_,_=>.no
 |.slice t x V W none=>Fk C env x λd o=>match d,V,W with
  |.imm (.str s),some a,some b=>Fk C env a λE L=>Fk C env b λG ob=>match E,G,lk B t with
   |.imm (.int _ a),.imm (.int _ b),some { sh:=.str,.. }=>.p (.imm (.str ((s.drop a.toNat).take (b.toNat-a.toNat)))) ((C->0<=a/\a<=b/\b<=s.length)::Lb o (Lb L ob))
   |_,_,_=>.no
  |.imm (.str s),some a,none=>Fk C env a λE L=>match E,lk B t with
   |.imm (.int _ a),some { sh:=.str,.. }=>.p (.imm (.str (s.drop a.toNat))) ((C->0<=a/\a<=s.length)::Lb o L)
   |_,_=>.no
  |.imm (.str s),none,some b=>Fk C env b λG ob=>match G,lk B t with
   |.imm (.int _ b),some { sh:=.str,.. }=>.p (.imm (.str (s.take b.toNat))) ((C->0<=b/\b<=s.length)::Lb o ob)
   |_,_=>.no
  |.imm (.sl h),some a,some b=>Fk C env a λE L=>Fk C env b λG ob=>match E,G,lk B t with
   |.imm (.int _ a),.imm (.int _ b),some { sh:=.sl e,.. }=>match lk B e with
    |some i=>.p (.imm (.sl ((h.drop a.toNat).take (b.toNat-a.toNat)))) ((C->0<=a/\a<=b/\b<=h.length)::(∀c∈h,c.length=i.size)::Lb o (Lb L ob))
    |none=>.no
   |_,_,_=>.no
  |.imm (.sl h),some a,none=>Fk C env a λE L=>match E,lk B t with
   |.imm (.int _ a),some { sh:=.sl e,.. }=>match lk B e with
    |some i=>.p (.imm (.sl (h.drop a.toNat))) ((C->0<=a/\a<=h.length)::(∀c∈h,c.length=i.size)::Lb o L)
    |none=>.no
   |_,_=>.no
  |.imm (.sl h),none,some b=>Fk C env b λG ob=>match G,lk B t with
   |.imm (.int _ b),some { sh:=.sl e,.. }=>match lk B e with
    |some i=>.p (.imm (.sl (h.take b.toNat))) ((C->0<=b/\b<=h.length)::(∀c∈h,c.length=i.size)::Lb o ob)
    |none=>.no
   |_,_=>.no
  |_,_,_=>.no
 |.build t ⟨parts⟩=>match lk B t with
  |some { sh:=.struct p,zero:=z,.. }=>match RJ B env z parts 0 0 p,PC p.length parts with
   |some (.v D,o),true=>.p (.imm (.agg D)) o
   |some (.d ds,o),true=>.p (.agg ds) o
   |some (.e,o),true=>.p (.imm (.agg [])) o
   |_,_=>.no
  |_=>.no
 |.buildSlice t n ⟨parts⟩=>match lk B t with
  |some { sh:=.sl e,.. }=>match lk B e with
   |some i=>match JT C env i.size 0 parts,Nat.beq n parts.length,Nat.ble (n*i.size) 16777216,Nat.blt 0 i.size with
    |some (h,o),true,true,true=>.p (bsD h) o
    |_,_,_,_=>.no
   |none=>.no
  |_=>.no
 |.makeInterface t x=>Fk C env x λd o=>match lk B t with
  |some { sh:=.iface,.. }|some { sh:=.other,.. }|none=>.no
  |_=>match d with
   |.imm x=>.p (.imm (.iface t x)) o
   |d=>.p (.iface t d) o
 |.makeFunc f ⟨a⟩ ⟨b⟩=>match qC env a,qC env b with
  |some [],some []=>.p (.imm (.fn f)) []
  |some E,some G=>.p (.fn f E G) []
  |_,_=>.no
 |.call { callee:=.builtin .len,args:=⟨[x]⟩,argTypes:=⟨[t]⟩ }=>Fk C env x λd o=>match d,lk B t with
  |.imm (.sl h),some { sh:=.sl _,.. }=>.p (.imm (.int .i64 h.length)) o
  |.imm (.str s),some { sh:=.str,.. }=>.p (.imm (.int .i64 s.length)) o
  |.nils,some { sh:=.sl _,.. }=>.p (.imm (.int .i64 0)) o
  |.own _ n,some { sh:=.sl _,.. }=>.p (.imm (.int .i64 n)) o
  |.raw (.slice _ n _),some { sh:=.sl _,.. }=>.p (.imm (.int .i64 n)) o
  |.mapr id,some { sh:=.map _ _,.. }=>match lk st id with
   |some (some (.map j))=>.r (.imm (.int .i64 j.length)) o
   |_=>.no
  |_,_=>.no
 |.call { callee:=.builtin .max,args:=⟨[x,y]⟩,.. }=>Fk C env x λdx q=>Fk C env y λJ u=>match dx,J with
  |.imm (.int k a),.imm (.int _ b)=>.p (.imm (.int k (if b > a then b else a))) (Lb q u)
  |_,_=>.no
 |.call { callee:=.builtin .min,args:=⟨[x,y]⟩,.. }=>Fk C env x λdx q=>Fk C env y λJ u=>match dx,J with
  |.imm (.int k a),.imm (.int _ b)=>.p (.imm (.int k (if b<a then b else a))) (Lb q u)
  |_,_=>.no
 |_=>.no
def qE (B:TT) (env:Env) (st:St) (aa:L1 Nat) (op:Op):EE :=
 match op with
 |.box t x=>RT env x λd=>match lk B t,aa with
  |some i,id::aa=>match zb5 t i.size d with
   |some (q,ob)=>.e (.ref id 0) ((id,some q)::st) aa ob
   |none=>.no
  |_,_=>.no
 |.alloc t=>match lk B t,aa with
  |some i,id::aa=>match Nat.beq i.zero.length i.size with
   |true=>.e (.ref id 0) ((id,some (Sx t i.size i.zero))::st) aa []
   |false=>.no
  |_,_=>.no
 |.store t a x=>RT env a λu=>RT env x λd=>match u,lk B t with
  |.ref id off,some i=>match lk st id with
   |some (some (.immb h sz z))=>match Nat.beq sz i.size,off,d with
    |true,0,.imm (.agg p)=>.e .undef ((id,some (.immb h sz p))::st) aa [p.length=sz]
    |_,off,d=>match Nf d with
     |some cs=>match splice (z.map .imm) off cs,Nat.beq cs.length i.size with
      |some l,true=>.e .undef ((id,some (Sx h sz l))::st) aa []
      |_,_=>.no
     |none=>.no
   |some (some (.cells h sz ds))=>match Nat.beq sz i.size,off,d with
    |true,0,.imm (.agg p)=>.e .undef ((id,some (.immb h sz p))::st) aa [p.length=sz]
    |_,off,d=>match Nf d with
     |some cs=>match splice ds off cs,Nat.beq cs.length i.size with
      |some l,true=>.e .undef ((id,some (Sx h sz l))::st) aa []
      |_,_=>.no
     |none=>.no
   |_=>.no
  |_,_=>.no
 |_=>.no
inductive DI where
 |code (c:Code)
 |inBlock (id:Nat)
 |inLoop (c:Code)
 |inScope (c:Code)
 |ops (all rest:List Oper)
 |dops (all rest:List Oper) (fs:List (List Nat×List Nat))
def MN (id:Nat):L1 DI->Option (L1 DI)
 |.inBlock h::k=>match Nat.beq h id with
  |true=>some k
  |false=>MN id k
 |_::k=>MN id k
 |[]=>none
inductive S1 where
 |y (read:Bool) (env:Env) (ob:List Prop)
 |e (env:Env) (st:St) (aa:List Nat) (ob:List Prop)
 |no
def Rc (n:Nat) (dst:Option Nat) (d:D) (env:Env) (k:Env->S1):S1:=match dst with
 |some t=>match Nat.blt t n with
  |true=>k ((t,d)::env)
  |false=>.no
 |none=>k env
def ctl:Option D->Bool->Option Bool
 |some (.imm (.bool c)),_=>some c
 |some (.guard h w' (.imm (.bool b))),w=>some (bif h==w' then b else !w)
 |_,_=>none
def GW (B:TT) (n:Nat) (all:L1 Oper) (o:Oper) (env:Env) (st:St) (aa:L1 Nat):S1 :=
 match o.guard with
 |none=>match Ix B True env st o.op with
  |.p d ob=>Rc n o.dst d env λenv=>.y false env ob
  |.r d ob=>Rc n o.dst d env λenv=>.y true env ob
  |.no=>match qE B env st aa o.op with
   |.e d au ids' ob=>Rc n o.dst d env λenv=>.e env au ids' ob
   |.no=>.no
 |some (j,w)=>match OM all j with
  |some { dst:=some g,.. }=>match ctl (lk env g) w with
   |some c=>match Ix B (c=w) env st o.op with
    |.p d ob=>Rc n o.dst (.guard c w d) env λenv=>.y false env ob
    |.r d ob=>Rc n o.dst (.guard c w d) env λenv=>.y true env ob
    |.no=>.no
   |_=>.no
  |_=>.no
def A8:L1 Prop->Prop
 |[]=>True
 |p::r=>p/\A8 r
def dn:=@and_assoc
def W3:∀(a b:L1 Prop),A8 (Lb a b)↔A8 a/\A8 b
 |[],b=>by simp[Lb,A8]
 |p::a,b=>by simp[Lb,A8,W3 a b,dn]
def W9 (P:Program) (t:TypeId):Sh->Prop
 |.bool=>P.underlying t=some .bool
 |.int k=>P.underlying t=some (.int k)
 |.str=>P.underlying t=some .string
 |.ptr e=>P.underlying t=some (.pointer e)
 |.sl e=>P.underlying t=some (.slice e)
 |.map k e=>P.underlying t=some (.map k e)
 |.struct p=>∃h,P.underlying t=some (.struct h)/\h.toList.map (λf=>(f.offset,f.type))=p/\∀f∈h.toList,0<P.cellsOf f.type
 |.arr n e=>P.underlying t=some (.array n e)
 |.func=>∃a b c,P.underlying t=some (.func a b c)
 |.iface=>∃q,P.underlying t=some (.interface q)
 |.other=>True
structure TyOk (P:Program) (t:TypeId) (i:TyI):Prop where
 info:∃inf z,P.info? t=some inf/\inf.size=i.size/\inf.bytes=i.bytes/\inf.zero=some z /\
  (∀I μ,RepL I μ z.cells.toList i.zero)/\(∀v∈z.cells.toList,v.oneCell'=true)
 agg:(Go.isAgg t).run P=λw=>.ok i.agg w
 sh:W9 P t i.sh
def TTok (P:Program) (B:TT):Prop:=∀t i,lk B t=some i->TyOk P t i
def TyOk.sizeOf {i:TyI} (h:TyOk P t i) (w:World):(Go.sizeOf t).run P w=.ok i.size w:=by obtain⟨p,z,q,u,_⟩:=h.info;simp[Go.sizeOf,typeInfo,q,u]
def TyOk.cellsOf {i:TyI} (h:TyOk P t i):P.cellsOf t=i.size:=by obtain⟨p,z,q,u,_⟩:=h.info;simp[Program.cellsOf,q,u]
def TyOk.isAgg {i:TyI} (h:TyOk P t i) (w:World):(Go.isAgg t).run P w=.ok i.agg w:=by have:=congrFun h.agg w;exact this
def LR (h:L1 Nat) (I:U) (μ:Mu) (env:Env) (a:Act):Prop:=∀t∈h,∀d,lk env t=some d->X I μ (a.tmps.getD t undef) d
def valR (P:Program) (r:Result Next) (K:Value->World->Prop):Prop :=
 match r with
 |.ok (.value v) w=>K v w
 |.ok .skip w=>K undef w
 |.ok (.enter f h) w=>Calls P f h w λe w'=>match e with
  |.returned v=>K v w'
  |_=>False
 |_=>False
def bc:=@Calls.mono
def valR.mono (p:∀v w,K v w->K' v w) (h:valR P r K):valR P r K':=by unfold valR at *;split at h;exact p _ _ h;exact p _ _ h;{exact bc h (λe w' q=>by cases e<;>first|exact p _ _ q|exact q)};exact h.elim
def YD (P:Program) (all:L1 Oper) (o:Oper) (env:Env) (st:St) (d:D):Prop :=
 ∀I μ aa a w,StRep I μ st aa w->LR (o.looksAt all.toArray) I μ env a ->
  (Region.wanted o (yielded all.toArray a.tmps)=true ->
   valR P ((execOp a.eval o).run P w) λv w'=>∃h,StRep h μ st aa w'/\X h μ v d/\Ext I μ st w h μ st w') /\
  (Region.wanted o (yielded all.toArray a.tmps)=false->X I μ undef d)
def ED (P:Program) (all:L1 Oper) (o:Oper) (env:Env) (st:St) (aa:L1 Nat) (d:D) (au:St) (ids':L1 Nat):Prop :=
 ∀I μ a w,StRep I μ st aa w->LR (o.looksAt all.toArray) I μ env a->Region.wanted o (yielded all.toArray a.tmps)=true /\
   valR P ((execOp a.eval o).run P w) λv w'=>∃p h,StRep p h au ids' w'/\X p h v d/\μ.le h/\Ext I μ st w p h au w'
def zjb {x:V} (h:of1 v=some x) (I:U):M I v x/\v.oneCell'=true:=by
 unfold of1 at h
 split at h<;>first
  |(cases h;exact⟨.str _ _ O,rfl⟩)
  |(cases h;exact⟨.bool _,rfl⟩)
  |(cases h;exact⟨.int _ _,rfl⟩)
  |(cases h;exact⟨.slnil,rfl⟩)
  |cases h
def eS:∀{cs:L1 Value} {xs:L1 V},zd2 cs=some xs->∀I:U,cs.length=xs.length/\(∀c∈cs,c.oneCell'=true)/\∀(i:Nat) (c:Value) (x:V),cs[i]?=some c->xs[i]?=some x->M I c x
 |[],xs,h,I=>by simp only[zd2,Ci]at h;subst h;exact⟨rfl,(λ_ u=>nomatch u),(λi c x u _=>by simp at u)⟩
 |c::r,xs,h,I=>by simp only[zd2]at h;split at h;rename_i x A B C;cases h;let⟨D,E,G⟩:=eS C I;let⟨H,J⟩:=zjb B I;refine⟨by simp[D],λy p=>(Ck.1 p).elim (λe=>e▸J) (E y),λi y z p q=>?_⟩;match i,p,q with|0,p,q=>cases p;cases q;exact H|i+1,p,q=>{exact G i y z (by simpa using p) (by simpa using q)};cases h
def XZ {d:D} (h:tL v=some d) (I:U) (μ:Mu):X I μ v d:=by
 unfold tL at h
 split at h<;>first
  |(cases h;exact .imm _ _ (.str _ _ O))
  |(cases h;exact .nils)
  |(cases h;exact .imm _ _ (.bool _))
  |(cases h;exact .imm _ _ (.int _ _))
  |(cases h;exact .imm _ _ .nilp)
  |(cases h;exact .imm _ _ .nilmap)
  |(cases h;exact .imm _ _ .nilfn)
  |(cases h;exact .imm _ _ .niliface)
  | (split at h
     ·rename_i p;cases h;let⟨q,u,z⟩:=eS p I;exact .imm _ _ (.agg _ _ (by simpa using q) (by simpa using u) λi c x A B=>z i c x (by simpa using A) B)
     ·cases h)
  |cases h
def bE {I:U} {μ:Mu} {env:Env} {x:Operand} {d:D} (h:EM env x=some d) (p:∀t,x=.tmp t->∀d,lk env t=some d->X I μ (a.tmps.getD t undef) d):X I μ (a.eval x) d:=by cases x with|tmp t=>exact p t O d h|const v=>exact XZ h I μ|func f=>cases h;exact .imm _ _ (.fn _)|global g=>{cases h}
def EN (I:U) (μ:Mu) (env:Env) (a:Act) (op:Op):Prop:=∀x∈op.operands.toList,∀d,EM env x=some d->X I μ (a.eval x) d
def dw:=@List.mem_filterMap
def Bx {all:Array Oper} {I:U} {μ:Mu} {env:Env} (h:LR (o.looksAt all) I μ env a):EN I μ env a o.op:=by intro x p d q;refine bE q λt u d z=>h t ?_ d z;unfold Oper.looksAt;refine B2.2 (.inl (dw.2 ⟨x,p,by rw[u]⟩))
def Ge:EP->Option (D×L1 Prop)
 |.p d ob=>some (d,ob)
 |.r d ob=>some (d,ob)
 |.no=>none
def zbw {env:Env} {x:Operand} {k:D->L1 Prop->EP} {q:D×L1 Prop} (h:Ge (Fk C env x k)=some q):∃d z o,EM env x=some z/\Ge (k d o)=some q/\∀I μ v,X I μ v z->A8 o->C->X I μ v d:=by unfold Fk at h;split at h;rename_i c w d p;refine⟨d,_,_,p,h,λI μ v u A B=>?_⟩;cases u with|guard _ _ _ _ E=>{exact E (A.1 B)};rename_i d G p;exact⟨d,d,[],p,h,λI μ v u _ _=>u⟩;cases h
section
variable {B:TT}
def X.immInv {I:U} {μ:Mu} {x:V} (h:X I μ v (.imm x)):M I v x:=by cases h;assumption
def M.intInv {I:U} {k:IntKind} {n:Int} (h:M I v (.int k n)):v=.int k n:=by cases h;rfl
def M.boolInv {I:U} {b:Bool} (h:M I v (.bool b)):v=.bool b:=by cases h;rfl
def M.strInv {I:U} {l:L1 UInt8} (h:M I v (.str l)):∃s:ByteArray,v=.string s/\s.data.toList=l:=by cases h;exact⟨_,rfl,by assumption⟩
def E1 (op:BinOp) (t:TypeId) (x y:Operand) (a b:Value) (h:∀cs,a≠.agg cs) (p:a≠.nilIface):(eqGuard op t x y a b).run P w=.ok () w:=by
 unfold eqGuard;cases op<;>simp
 all_goals
  cases a<;>first
   |rfl
   |exact absurd rfl p
   |exact absurd rfl (h _)
def aj:=@Sem.run_bind
def ah:=@Result.andThen_ok
def aw:=@if_false
def am:=@Sem.run_pure
def zhh {op:BinOp} {a b x:V} {u z:Value} {I:U} (t:TypeId) (A B:Operand) (G:M I u a) (H:M I z b) (J:zco a b=true) (h:zn9 op a b=some (x,ob)) (p:A8 ob) :
  ∃v,(do eqGuard op t A B u z;binOp op t u z:Sem Value).run P w=.ok v w/\M I v x:=by
 unfold zn9 at h
 split at h
 ·rename_i k n L m;have C:k=L:=by simpa[zco]using J
  subst C;obtain rfl:=G.intInv;obtain rfl:=H.intInv;have D:=E1 (P:=P) (w:=w) op t A B (.int k n) (.int k m) (by simp) (by simp)
  split at h<;>simp only[Ci,AN,reduceCtorEq]at h
  all_goals
   obtain⟨rfl,rfl⟩:=h;simp only[aj,D,ah]
  case h_4=>have E:m≠0:=p.1;exact⟨_,by simp[binOp,Op.intDiv,E],.int _ _⟩
  case h_5=>have E:m≠0:=p.1;exact⟨_,by simp[binOp,Op.intDiv,E],.int _ _⟩
  all_goals first
   |(refine⟨_,?_,.int _ _⟩;simp[binOp,Op.intArith];done)
   |(refine⟨_,?_,.bool _⟩;simp[binOp,Op.intCmp];done)
 ·rename_i l m;obtain⟨s,rfl,rfl⟩:=G.strInv;obtain⟨q,rfl,rfl⟩:=H.strInv;have D:=E1 (P:=P) (w:=w) op t A B (.string s) (.string q) (by simp) (by simp)
  split at h<;>simp only[Ci,AN,reduceCtorEq]at h
  all_goals
   obtain⟨rfl,rfl⟩:=h;simp only[aj,D,ah]
  ·have N:s.data.toList.length+q.data.toList.length<=9223372036854775807:=p.1;refine⟨_,?_,.str (s++q) _ (by simp[ByteArray.data_append])⟩;have:¬((s.size+q.size:Nat):Int) > IntKind.i64.max:=by
    simp only[PV]at N;have T:s.size=s.data.size:=rfl;have W:q.size=q.data.size:=rfl;simp only[IntKind.max,T,W];simp[IntKind.signed,IntKind.bits];omega
   simp only[binOp,Op.stringOp,this,aw,am]
  all_goals (refine⟨_,?_,.bool _⟩;simp[binOp,Op.stringOp,ByteArray.toList_eq])
 ·cases h
end
section
variable {B:TT} {I:U} {μ:Mu} {st:St}
def Jx (b o n:Nat):(⟨b,o,none⟩:Addr).add n=⟨b,o+n,none⟩:=by unfold Addr.add;split;rename_i h;subst h;rfl;rfl
def RepVL.cons {x:V} {xs:L1 V} (h:RepVL I (v::vs) (x::xs)):M I v x/\RepVL I vs xs:=⟨h.2 0 v x O O,by simpa using h.1,λi v x p q=>h.2 (i+1) v x (by simpa using p) (by simpa using q)⟩
def RepL.cons {x:D} {xs:L1 D} (h:RepL I μ (v::vs) (x::xs)):X I μ v x/\RepL I μ vs xs:=⟨h.2 0 v x O O,by simpa using h.1,λi v x p q=>h.2 (i+1) v x (by simpa using p) (by simpa using q)⟩
def RepVL.mk {x:V} {xs:L1 V} (h:M I v x) (z:RepVL I vs xs):RepVL I (v::vs) (x::xs) :=
 ⟨by simp[z.1],λi u y p q=>by
  cases i with
  |zero=>simp at p q;subst p;subst q;exact h
  |succ i=>exact z.2 i u y (by simpa using p) (by simpa using q)⟩
def RepL.mk {x:D} {xs:L1 D} (h:X I μ v x) (z:RepL I μ vs xs):RepL I μ (v::vs) (x::xs) :=
 ⟨by simp[z.1],λi u y p q=>by
  cases i with
  |zero=>simp at p q;subst p;subst q;exact h
  |succ i=>exact z.2 i u y (by simpa using p) (by simpa using q)⟩
def RepVL.nil:RepVL I [] []:=⟨rfl,λi v x h=>by simp at h⟩
def RepL.nil:RepL I μ [] []:=⟨rfl,λi v x h=>by simp at h⟩
def RepVL.append {p:L1 Value} {xs ys:L1 V} (h:RepVL I vs xs) (k:RepVL I p ys):RepVL I (vs++p) (xs++ys):=by induction vs generalizing xs with|nil=>{cases xs with|nil=>exact k|cons=>{simp[RepVL]at h}}|cons v vs q=>{cases xs with|nil=>simp[RepVL]at h|cons x xs=>{exact .mk h.cons.1 (q h.cons.2)}}
def RepVL.imm {xs:L1 V} (h:RepVL I vs xs):RepL I μ vs (xs.map .imm):=⟨by simpa using h.1,λi v d q p=>by{simp only[Ct,EV]at p;obtain⟨x,u,rfl⟩:=p;exact .imm _ _ (h.2 i v x q u)}⟩
def L0:∀{ds:L1 D} {xs:L1 V},ME ds=some xs->RepL I μ vs ds->RepVL I vs xs:=by induction vs with|nil=>{intro ds xs h p;cases ds with|nil=>cases h;exact .nil|cons d ds=>{simp[RepL]at p}}|cons v vs u=>{intro ds xs h p;cases ds with|nil=>simp[RepL]at p|cons d ds=>{obtain⟨x,z⟩:=p.cons;cases d<;>simp only[ME,reduceCtorEq]at h;split at h;rename_i A q;cases h;exact .mk x.immInv (u q z);cases h}}
def IP {ds:L1 D} (h:RepL I μ vs ds) (p:∀v∈vs,v.oneCell'=true):X I μ (.agg vs.toArray) (JJ ds):=by unfold JJ;split;rename_i u q;have:=L0 q h;exact .imm _ _ (.agg _ _ (by simpa using this.1) (by simpa using p) (λi c x a b=>this.2 i c x (by simpa using a) b));exact .agg _ _ (by simpa using h.1) (by simpa using p) (λi c x a b=>h.2 i c x (by simpa using a) b)
def Kz {α:Type}:∀{l:L1 α} {o n:Nat} {r:L1 α},sub l o n=some r->r=(l.drop o).take n/\o+n<=l.length
 |_,0,0,r,h=>by simp[sub]at h;simp[h]
 |x::l,0,n+1,r,h=>by simp only[sub]at h;split at h;rename_i q p;cases h;have:=Kz p;simp at this;simp only[this.1];exact⟨by simp,by simp;omega⟩;cases h
 |x::l,o+1,n,r,h=>by simp only[sub]at h;have:=Kz h;simp[this.1];omega
 |[],0,n+1,r,h=>by simp[sub]at h
 |[],o+1,n,r,h=>by cases n<;>simp[sub]at h
def ar:=@if_true
def Nt {i:TyI} (q:TyOk P t i) (b o:Nat) (f:Nat->Value) (h:∀j,j<i.size->w.cell? ⟨b,o+j,none⟩=some (f j)) (u:i.agg=false->w.cell? ⟨b,o,none⟩=some (f 0)):(Instr.loadAt t (.pointer (some ⟨b,o,none⟩))).run P w=.ok (if i.agg then .agg ((List.range i.size).map f).toArray else f 0) w:=by simp only[Instr.loadAt,Instr.sureAddr,aj,am,ah,loadVar,q.isAgg w];cases p:i.agg with|true=>simp only[ar,aj,q.sizeOf w,ah];rw[run_loadCells w ⟨b,o,none⟩ i.size f (λj x=>by rw[Jx];exact h j x)];rfl|false=>{have:=u p;simp[run_load,this]}
def HP {f:Nat->Value} {c:Value} (h:((List.range n).map f)[i]?=some c):i<n/\c=f i:=by simp only[Ct,EV]at h;obtain⟨a,q,rfl⟩:=h;by_cases p:i<n;rw[List.getElem?_range p]at q;cases q;exact⟨p,rfl⟩;rw[Og (by simp;omega)]at q;cases q
def S9 {i:TyI} {same:Bool} {xs:L1 V} {d:D} (h:PY i same xs off=some d):(i.agg=true/\same=true/\off=0/\d=.imm (.agg xs))\/(i.agg=true/\∃l,sub xs off i.size=some l/\d=.imm (.agg l))\/(i.agg=false/\∃x,xs[off]?=some x/\d=.imm x):=by unfold PY at h;cases q:i.agg with|true=>{rw[q]at h;by_cases p:same=true/\off=0;obtain⟨rfl,rfl⟩:=p;cases h;exact .inl ⟨rfl,rfl,rfl,rfl⟩;refine .inr (.inl ⟨rfl,?_⟩);cases u:sub xs off i.size with|none=>cases same<;>cases off<;>simp[u]at h p|some l=>{cases same<;>cases off<;>simp[u]at h p<;>exact⟨l,rfl,h.symm⟩}}|false=>{rw[q]at h;refine .inr (.inr ⟨rfl,?_⟩);simp only at h;split at h;rename_i x z;cases h;exact⟨x,by rw[<- HB];exact z,rfl⟩;cases h}
def SC {i:TyI} {same:Bool} {xs:L1 D} {d:D} (h:Iv i same xs off=some d):(i.agg=true/\same=true/\off=0/\d=JJ xs)\/(i.agg=true/\∃l,sub xs off i.size=some l/\d=JJ l)\/(i.agg=false/\xs[off]?=some d):=by unfold Iv at h;cases q:i.agg with|true=>{rw[q]at h;by_cases p:same=true/\off=0;obtain⟨rfl,rfl⟩:=p;cases h;exact .inl ⟨rfl,rfl,rfl,rfl⟩;refine .inr (.inl ⟨rfl,?_⟩);cases u:sub xs off i.size with|none=>cases same<;>cases off<;>simp[u]at h p|some l=>{cases same<;>cases off<;>simp[u]at h p<;>exact⟨l,rfl,h.symm⟩}}|false=>{rw[q]at h;refine .inr (.inr ⟨rfl,?_⟩);rw[<- HB];exact h}
def ae:=@if_pos
def PX {i:TyI} (T:TyOk P t i) {o:Nat} {xs:L1 V} {d:D} {vs:Nat->Value} {same:Bool} (p:∀j x,xs[j]?=some x->w.cell? ⟨b,o+j,none⟩=some (vs j)/\(vs j).oneCell'=true) (z:∀j x,xs[j]?=some x->M I (vs j) x) (a:i.agg=true->same=true->off=0->xs.length=i.size) (h:PY i same xs off=some d):∃v,(Instr.loadAt t (.pointer (some ⟨b,o+off,none⟩))).run P w=.ok v w/\X I μ v d:=by have C:∀n,off+n<=xs.length->∀j,j<n->∃x,xs[off+j]?=some x:=λn f j G=>⟨_,Bq (by omega)⟩;have A:∀n,n=i.size->i.agg=true->off+n<=xs.length->(∀x:D,x=.imm (.agg ((xs.drop off).take n))->∃v,(Instr.loadAt t (.pointer (some ⟨b,o+off,none⟩))).run P w=.ok v w/\X I μ v x):=by{rintro n rfl q E x rfl;refine⟨_,Nt T b (o+off) (λj=>vs (off+j)) (λj G=>?_) (λe=>by simp[q]at e),?_⟩;let⟨x,u⟩:=C _ E j G;have:=(p _ _ u).1;rw[<- Yo]at this;exact this;rw[ae q];refine .imm _ _ (.agg _ _ ?_ ?_ ?_);simp;omega;intro c B;simp only[C7,Of]at B;obtain⟨j,G,rfl⟩:=B;let⟨x,u⟩:=C _ E j G;exact(p _ _ u).2;intro j c x B u;have J:((List.range i.size).map λj=>vs (off+j))[j]?=some c:=by{simpa using B};obtain⟨L,rfl⟩:=HP J;rw[DO,ae L,EU]at u;exact z _ _ u};rcases S9 h with⟨q,N,H,rfl⟩|⟨q,l,W,rfl⟩|⟨q,x,u,rfl⟩;have W:=a q N H;subst H;exact A _ O q (by omega) _ (by rw[Yn,CA (by omega)]);let⟨N,H⟩:=Kz W;exact A _ O q H _ (by rw[N]);have B:=p _ _ u;refine⟨vs off,?_,.imm _ _ (z _ _ u)⟩;simp only[Instr.loadAt,Instr.sureAddr,aj,am,ah,loadVar,T.isAgg w,q];simp[run_load,B.1]
def fQ {i:TyI} (G:TyOk P t i) {cs:L1 D} {d:D} {same:Bool} (p:∀j v,vs[j]?=some v->w.cell? ⟨b,j,none⟩=some v) (A:∀v∈vs,v.oneCell'=true) (q:RepL I μ vs cs) (L:i.agg=true->same=true->off=0->cs.length=i.size) (h:Iv i same cs off=some d):∃v,(Instr.loadAt t (.pointer (some ⟨b,off,none⟩))).run P w=.ok v w/\X I μ v d:=by have H:=q.1;have z:∀n,n=i.size->i.agg=true->off+n<=cs.length->∃v,(Instr.loadAt t (.pointer (some ⟨b,off,none⟩))).run P w=.ok v w/\X I μ v (JJ ((cs.drop off).take n)):=by{rintro n rfl x N;refine⟨_,Nt G b off (λj=>vs.getD (off+j) undef) (λj B=>?_) (λT=>by simp[x]at T),?_⟩;have u:off+j<vs.length:=by{omega};rw[p _ _ (Bq u)];simp[List.getD,u];rw[ae x];have e:(List.range i.size).map (λj=>vs.getD (off+j) undef)=(vs.drop off).take i.size:=by{apply S7;intro j;by_cases B:j<i.size;have u:off+j<vs.length:=by{omega};simp[B,EU,List.getD,u];rw[Og (by simp;omega),Og (by simp;omega)]};rw[e];refine IP ⟨by simp;omega,λj v d a b=>?_⟩ (λv C=>A v (Vk (PU C)));rw[DO]at a b;split at a;rename_i B;rw[ae B,EU]at b;rw[EU]at a;exact q.2 _ _ _ a b;cases a};rcases SC h with⟨x,A,E,rfl⟩|⟨x,l,J,rfl⟩|⟨x,h⟩;have J:=L x A E;subst E;have:=z _ O x (by omega);rw[Yn,CA (by omega)]at this;exact this;let⟨A,E⟩:=Kz J;have:=z _ O x E;rw[<- A]at this;exact this;have u:off<cs.length:=(A9.1 h).1;have C:vs[off]?=some (vs[off]'(by omega)):=Bq (by omega);refine⟨_,?_,q.2 _ _ _ C h⟩;have V:=p _ _ C;simp only[Instr.loadAt,Instr.sureAddr,aj,am,ah,loadVar,G.isAgg w,x];simp[run_load,V]
def FX {vs:Array Value} {fr:Nat×Nat} (h:w.heap[b]?=some (.cells vs t fr)) (j:Nat) (v:Value) (p:vs.toList[j]?=some v):w.cell? ⟨b,j,none⟩=some v:=by simp[World.cell?,h];simpa using p
def tE {i:TyI} (p:TyOk P t i) {vs:Array Value} (h:i.agg=false->∃v,vs[off]?=some v):∃v,(Go.part t vs off).run P w=.ok v w/\v=(if i.agg then .agg (vs.extract off (off+i.size))else(vs[off]?).getD undef):=by unfold Go.part;simp only[aj,p.isAgg w,ah];cases q:i.agg with|true=>simp[p.sizeOf w]|false=>{let⟨v,u⟩:=h q;simp[u]}
def fy:=@Array.ext'
def zdu {i:TyI} (E:TyOk P t i) {vs:Array Value} {cs:L1 D} {d:D} (A:∀v∈vs.toList,v.oneCell'=true) (p:RepL I μ vs.toList cs) (h:Iv i false cs off=some d):∃v,(Go.part t vs off).run P w=.ok v w/\X I μ v d:=by rcases SC h with⟨x,A,V,rfl⟩|⟨x,l,H,rfl⟩|⟨x,h⟩;cases A;let⟨e,J⟩:=Kz H;let⟨v,u,B⟩:=tE (w:=w) E (vs:=vs) (off:=off) (λG=>by rw[x]at G;cases G);refine⟨v,u,?_⟩;rw[B,ae x,e];have L:vs.extract off (off+i.size)=((vs.toList.drop off).take i.size).toArray:=by{apply fy;simp[zeq]};rw[L];have q:=p.1;refine IP ⟨by simp at q ⊢;omega,λj v d a b=>?_⟩ (λv u=>A v (Vk (PU u)));rw[DO]at a b;split at a;rename_i N;rw[ae N,EU]at b;rw[EU]at a;exact p.2 _ _ _ a b;cases a;have T:off<cs.length:=(A9.1 h).1;have q:=p.1;have u:vs.toList[off]?=some (vs.toList[off]'(by omega)):=Bq (by omega);have z:vs[off]?=some (vs.toList[off]'(by omega)):=by{rw[<- Vi];exact u};let⟨v,C,B⟩:=tE (w:=w) E (vs:=vs) (off:=off) (λ_=>⟨_,z⟩);refine⟨v,C,?_⟩;rw[B,x,z];exact p.2 _ _ _ u h
def fP {i:TyI} {xs:L1 V} {d:D} (h:PY i false xs off=some d):∃C,Iv i false (xs.map .imm) off=some C/\(∀v,X I μ v C->X I μ v d):=by have q:∀l:L1 V,ME (l.map D.imm)=some l:=by{intro l;induction l with|nil=>rfl|cons x l z=>{simp[ME,z]}};rcases S9 h with⟨u,E,J,rfl⟩|⟨u,l,p,rfl⟩|⟨u,x,G,rfl⟩;cases E;have H:sub (xs.map D.imm) off i.size=some (l.map D.imm):=by{clear u h;generalize i.size=n at p;induction xs generalizing off n l with|nil=>cases off<;>cases n<;>simp[sub]at p;simp[p,sub]|cons x xs z=>{cases off with|zero=>{cases n with|zero=>simp[sub]at p;simp[p,sub]|succ n=>{simp only[sub]at p;split at p;rename_i L A;cases p;simp[sub,z _ _ A];cases p}}|succ o=>{simp only[sub]at p;simp[sub,z _ _ p]}}};refine⟨JJ (l.map .imm),by simp[Iv,u,H],λv B=>?_⟩;simpa[JJ,q]using B;exact⟨.imm x,by simp[Iv,u,HB,G],λv B=>B⟩
end
section
variable {B:TT} {I:U} {μ:Mu} {st:St}
def IJ (P:Program) (I:U) (μ:Mu) (st:St) (aa:L1 Nat) (w:World) (d:D) (r:Result Next):Prop :=
 valR P r λv w'=>∃h,StRep h μ st aa w'/\X h μ v d/\Ext I μ st w h μ st w'
def Bi {e:Sem Next} {d:D} (p:StRep I μ st aa w) (h:e.run P w=.ok (.value v) w) (q:X I μ v d):IJ P I μ st aa w d (e.run P w):=by rw[h];exact⟨I,p,q,Ext.refl _ _ _ _⟩
def AE {s:Sem Value} (h:s.run P w=.ok v w):(do pure (.value (<- s)):Sem Next).run P w=.ok (.value v) w:=by simp[h]
def TTok.sh {i:TyI} (p:TTok P B) (h:lk B t=some i):W9 P t i.sh:=(p t i h).sh
def ak:=@run_underlying
def L9 {fs:L1 (Nat×TypeId)} (H:W9 P t (.struct fs)) {D:Nat} {J:TypeId} (E:OM fs f=some (D,J)) (b o:Nat):(Instr.fieldAt t (.pointer (some ⟨b,o,none⟩)) f).run P w=.ok (.pointer (some ⟨b,o+D,none⟩)) w:=by obtain⟨q,L,N,T⟩:=H;rw[HB,<- N,Ct,EV]at E;obtain⟨u,x,G⟩:=E;simp only[AN]at G;obtain⟨V,W⟩:=G;have z:q[f]?=some u:=by{rw[<- Vi];exact x};have h:=T u (AF x);have B:∃p,P.info? u.type=some p/\p.size≠0:=by{unfold Program.cellsOf at h;cases A:P.info? u.type with|none=>simp[A]at h|some p=>{exact⟨p,rfl,by simp[A]at h;omega⟩}};obtain⟨p,A,C⟩:=B;simp[Instr.fieldAt,ak L,z,Instr.sureAddr,fieldPlace,sizeOf,typeInfo,A,C,Jx,V]
def FZ (a b:Nat):El a b=a+b:=by cases a<;>simp[El]
def Wl {i:TyI} (h:TyOk P t i) (z:i.sh≠.iface) (A:i.sh≠.other) (x:Value):(Instr.makeInterface t x).run P w=.ok (.iface t x) w:=by
 have u:=h.sh;cases p:i.sh<;>rw[p]at u<;>first
  |exact absurd p z
  |exact absurd p A
  |(obtain⟨a,q,_⟩:=u;simp[Instr.makeInterface,ak q];done)
  |(obtain⟨a,b,c,q⟩:=u;simp[Instr.makeInterface,ak q];done)
  |(have q:P.underlying t=some _:=u;simp[Instr.makeInterface,ak q];done)
def VU {env:Env} {a:Act}:∀{l:L1 Operand} {ds:L1 D},qC env l=some ds->(∀x∈l,∀d,EM env x=some d->X I μ (a.eval x) d)->RepL I μ (l.map a.eval) ds
 |[],ds,h,_=>by cases h;exact .nil
 |x::r,ds,h,p=>by simp only[qC]at h;split at h;cases h;rename_i d q u z A;cases h;exact .mk (p x (by simp) d z) (VU A (λy B=>p y (by simp[B])));cases h
def JA {α:Type}:∀{l:L1 α} {o:Nat} {ys r:L1 α},splice l o ys=some r->r=l.take o++ys++l.drop (o+ys.length)/\o+ys.length<=l.length
 |l,0,[],r,h=>by simp[splice]at h;simp[h]
 |x::l,0,y::ys,r,h=>by simp only[splice]at h;split at h;rename_i q p;cases h;have:=JA p;simp only[this.1];refine⟨by simp,?_⟩;have:=this.2;simp at this ⊢;omega;cases h
 |x::l,o+1,ys,r,h=>by simp only[splice]at h;split at h;rename_i q p;cases h;have:=JA p;simp only[this.1];refine⟨?_,?_⟩;simp[Nat.add_right_comm];have:=this.2;simp at this ⊢;omega;cases h
 |[],0,y::ys,r,h=>by simp[splice]at h
 |[],o+1,ys,r,h=>by cases ys<;>simp[splice]at h
def Y1 {d:D} (h:Y2 d=true) (p:X I μ v d):∃ad,v=.pointer (some ad):=by cases p<;>first|(simp[Y2]at h;done)|exact⟨_,rfl⟩|(rename_i q;cases v<;>first|(simp[Y2]at h;done)|(rename_i o;cases o<;>first|(simp[Y2]at h;done)|exact⟨_,rfl⟩))
def T8 (n:Nat) (h:P.underlying t=some (.pointer e)) (ad:Addr):(Op.equalIn (n+1) t (.pointer (some ad)) (.pointer none)).run P w=.ok false w:=by simp[Op.equalIn,ak h]
def Ot (h:P.underlying t=some (.pointer e)) (ad:Addr):(Op.equal t (.pointer (some ad)) (.pointer none)).run P w=.ok false w:=T8 9999 h ad
def iX (h:P.underlying t=some (.pointer e)) (p q:Operand) (ad:Addr):(do eqGuard .eql t p q (.pointer (some ad)) (.pointer none);binOp .eql t (.pointer (some ad)) (.pointer none):Sem Value).run P w=.ok (.bool false) w:=by simp only[aj,E1 .eql t p q (.pointer (some ad)) (.pointer none) (by simp) (by simp),ah,binOp,Ot h,am]
def fC (h:P.underlying t=some (.pointer e)) (p q:Operand) (ad:Addr):(do eqGuard .neq t p q (.pointer (some ad)) (.pointer none);binOp .neq t (.pointer (some ad)) (.pointer none):Sem Value).run P w=.ok (.bool true) w:=by simp only[aj,E1 .neq t p q (.pointer (some ad)) (.pointer none) (by simp) (by simp),ah,binOp,Ot h,am,Bool.not_false]
def T9 (n:Nat) (h:P.underlying t=some (.pointer e)):(Op.equalIn (n+1) t (.pointer none) (.pointer none)).run P w=.ok true w:=by simp[Op.equalIn,ak h]
def Ou (h:P.underlying t=some (.pointer e)):(Op.equal t (.pointer none) (.pointer none)).run P w=.ok true w:=T9 9999 h
def iY (h:P.underlying t=some (.pointer e)) (p q:Operand):(do eqGuard .eql t p q (.pointer none) (.pointer none);binOp .eql t (.pointer none) (.pointer none):Sem Value).run P w=.ok (.bool true) w:=by simp only[aj,E1 .eql t p q (.pointer none) (.pointer none) (by simp) (by simp),ah,binOp,Ou h,am]
def fD (h:P.underlying t=some (.pointer e)) (p q:Operand):(do eqGuard .neq t p q (.pointer none) (.pointer none);binOp .neq t (.pointer none) (.pointer none):Sem Value).run P w=.ok (.bool false) w:=by simp only[aj,E1 .neq t p q (.pointer none) (.pointer none) (by simp) (by simp),ah,binOp,Ou h,am,Bool.not_true]
def BL {a b:L1 Prop} (h:A8 (Lb a b)):A8 a/\A8 b:=(W3 a b).1 h
def zhp {l:L1 Prop} (h:A8 (l.map (C->·))) (q:C):A8 l:=by induction l with|nil=>trivial|cons p l u=>{exact⟨h.1 q,u h.2⟩}
def BC {env:Env} {x:Operand} {k:D->L1 Prop->EP} {q:D×L1 Prop} (h:Ge (Fk C env x k)=some q) (p:C) (u:∀d,EM env x=some d->X I μ (a.eval x) d):∃d o,Ge (k d o)=some q/\(A8 o->X I μ (a.eval x) d):=by let⟨d,G,o,z,A,B⟩:=zbw h;exact⟨d,o,A,λE=>B I μ _ (u _ z) E p⟩
abbrev G1:=L1 (L1 V)
def SZ {I:U}:∀{es:G1} {l:L1 UInt8},TZ es=some l->∃ns:L1 Int,es=ns.map (λn=>[V.int .u8 n])/\l=ns.map (λn=>UInt8.ofNat n.toNat)
 |[],l,h=>by cases h;exact⟨[],rfl,rfl⟩
 |e::r,l,h=>by unfold TZ at h;split at h;rename_i p;cases p;rename_i n z p;cases p;split at h;rename_i A q;cases h;let⟨ns,u,x⟩:=SZ (I:=I) q;exact⟨n::ns,by simp[u],by simp[x]⟩;cases h;cases h
def UK:∀(ns:L1 Int) (s:ByteArray),(ns.foldl (λr n=>r.push (UInt8.ofNat n.toNat)) s).data.toList=s.data.toList++ns.map (λn=>UInt8.ofNat n.toNat)
 |[],s=>by simp
 |n::ns,s=>by simp only[LP,UK ns,C0];simp[ByteArray.push]
def Ma (D:P.underlying t=some .string) (s:ByteArray) (p q:Option Value) (l h:Nat) (u:l<=h) (E:h<=s.size) (z:p=none/\l=0\/∃k,p=some (.int k l)) (A:q=none/\h=s.size\/∃k,q=some (.int k h)):(Instr.sliceAt t (.string s) p q none).run P w=.ok (.string (s.extract l h)) w:=by have C:∀(k:IntKind) (x y:Nat) (c:BoundsCode),x<=y->(Instr.sliceBound (.int k x) y c).run P w=.ok x w:=by{intro k x y c B;simp[Instr.sliceBound,asIntOf,B]};rcases z with⟨rfl,rfl⟩|⟨k,rfl⟩<;>rcases A with⟨rfl,rfl⟩|⟨G,rfl⟩<;>simp[Instr.sliceAt,ak D,Instr.slice,Instr.sliceBounds,C _ _ _ _ u,C _ _ _ _ E]
end
section
variable {B:TT} {I:U} {μ:Mu} {st:St} {env:Env} {d:D}
def X.tupInv {xs:L1 V} (h:X I μ v (.imm (.tup xs))):∃cs:Array Value,v=.tuple cs/\RepVL I cs.toList xs:=by cases h with|imm _ _ h=>{cases h with|tup cs _ p h=>{exact⟨cs,rfl,by simpa using p,λi v x a b=>h i v x (by simpa using a) b⟩}}
def X.tupDInv {xs:L1 D} (h:X I μ v (.tup xs)):∃cs:Array Value,v=.tuple cs/\RepL I μ cs.toList xs:=by cases h with|tup cs _ p h=>{exact⟨cs,rfl,by simpa using p,λi v x a b=>h i v x (by simpa using a) b⟩}
def X.aggInv {xs:L1 V} (h:X I μ v (.imm (.agg xs))):∃cs:Array Value,v=.agg cs/\RepVL I cs.toList xs/\∀c∈cs.toList,c.oneCell'=true:=by cases h with|imm _ _ h=>{cases h with|agg cs _ p q h=>{exact⟨cs,rfl,⟨by simpa using p,λi v x a b=>h i v x (by simpa using a) b⟩,q⟩}}
def X.aggDInv {xs:L1 D} (h:X I μ v (.agg xs)):∃cs:Array Value,v=.agg cs/\RepL I μ cs.toList xs/\∀c∈cs.toList,c.oneCell'=true:=by cases h with|agg cs _ p q h=>{exact⟨cs,rfl,⟨by simpa using p,λi v x a b=>h i v x (by simpa using a) b⟩,q⟩}
def X.guardInv {c w:Bool} {d:D} (h:X I μ v (.guard c w d)) (p:c=w):X I μ v d:=by cases h with|guard _ _ _ _ q _=>{exact q p}
def X.fnInv {f:Fn} {p dc:L1 D} (h:X I μ v (.fn f p dc)):∃x y,v=.func f x y:=by cases h;exact⟨_,_,rfl⟩
def X.fn0Inv {f:Fn} (h:X I μ v (.imm (.fn f))):v=.func f #[] #[]:=by have:=h.immInv;cases this;rfl
def X.nilpInv (h:X I μ v (.imm .nilp)):v=.pointer none:=by have:=h.immInv;cases this;rfl
def zkl (N:StRep I μ st aa w) {c x y:Operand} (e:o.op=.pick c x y) (G:EN I μ env a o.op) (L:C) (h:Ge (Ix B C env st o.op)=some (d,ob)) (u:A8 ob):IJ P I μ st aa w d ((execOp a.eval o).run P w):=by rw[e]at G h;have z:=G c (by simp[Op.operands]);have A:=G x (by simp[Op.operands]);have D:=G y (by simp[Op.operands]);simp only[execOp,e];have E:∀(b p q:Bool),X I μ (a.eval c) (.imm (.bool b))->(b=true->X I μ (a.eval x) (.imm (.bool p)))->(b=false->X I μ (a.eval y) (.imm (.bool q)))->IJ P I μ st aa w (.imm (.bool (bif b then p else q))) ((do pure (.value (if <- asBool (a.eval c)then a.eval x else a.eval y)):Sem Next).run P w):=by{intro b p q T f g;have H:=T.immInv.boolInv;rw[H];cases b with|true=>exact Bi N (v:=a.eval x) (by simp[asBool]) (f O)|false=>{exact Bi N (v:=a.eval y) (by simp[asBool]) (g O)}};simp only[Ix]at h;split at h<;>simp only[Ge,Ci,AN,reduceCtorEq]at h;(all_goals(rename_i H V W;obtain⟨rfl,rfl⟩:=h));exact E _ _ _ (z _ H) (λ_=>A _ V) (λ_=>D _ W);refine E _ _ _ (z _ H) (λ_=>A _ V) (λJ=>?_);exact(D _ W).guardInv (u.1 L J);refine E _ _ _ (z _ H) (λJ=>?_) (λ_=>D _ W);exact(A _ V).guardInv (u.1 L J);have T:=z _ H;refine E _ _ _ (T.guardInv (u.1 L)) (λ_=>A _ V) (λJ=>?_);exact(D _ W).guardInv (u.2.1 L J);have T:=z _ H;refine E _ _ _ (T.guardInv (u.1 L)) (λJ=>?_) (λ_=>D _ W);exact(A _ V).guardInv (u.2.1 L J)
def zgs (E:TTok P B) (z:StRep I μ st aa w) {op:BinOp} {g:TypeId} {x y:Operand} (f:o.op=.binOp op t x y g) (H:EN I μ env a o.op) (e:C) (h:Ge (Ix B C env st o.op)=some (d,ob)) (A:A8 ob):IJ P I μ st aa w d ((execOp a.eval o).run P w):=by rw[f]at H h;simp only[execOp,f];simp only[Ix]at h;let⟨F,i,G,b⟩:=BC h e (H x (by simp[Op.operands]));clear h;let⟨K,j,h,c⟩:=BC G e (H y (by simp[Op.operands]));clear G;split at h;rename_i p q;have N:A8 (Lb i j)->W9 P t .bool->IJ P I μ st aa w (.imm (.bool (p==q))) ((do pure (.value (<- (do eqGuard .eql t x y (a.eval x) (a.eval y);binOp .eql t (a.eval x) (a.eval y)))):Sem Next).run P w)/\IJ P I μ st aa w (.imm (.bool (!(p==q)))) ((do pure (.value (<- (do eqGuard .neq t x y (a.eval x) (a.eval y);binOp .neq t (a.eval x) (a.eval y)))):Sem Next).run P w):=by{intro T D;have V:=(b (BL T).1).immInv.boolInv;have W:=(c (BL T).2).immInv.boolInv;rw[V,W];have D:P.underlying t=some .bool:=D;constructor;refine Bi z (AE (v:=.bool (p==q)) ?_) (.imm _ _ (.bool _));simp only[aj,E1 .eql t x y (.bool p) (.bool q) (by simp) (by simp),ah,run_eql_bool w t p q D];refine Bi z (AE (v:=.bool (!(p==q))) ?_) (.imm _ _ (.bool _));simp only[aj,E1 .neq t x y (.bool p) (.bool q) (by simp) (by simp),ah,run_neq_bool w t p q D]};split at h<;>simp only[Ge,Ci,AN,reduceCtorEq]at h;rename_i J;obtain⟨rfl,rfl⟩:=h;exact(N A (E.sh J)).1;rename_i J;obtain⟨rfl,rfl⟩:=h;exact(N A (E.sh J)).2;{split at h<;>simp only[Ge,Ci,AN,reduceCtorEq]at h;(all_goals(rename_i J;obtain⟨rfl,rfl⟩:=h;let⟨G,L⟩:=BL A;have V:a.eval x=.pointer none:=(b G).nilpInv;have W:a.eval y=.pointer none:=(c L).nilpInv;have D:P.underlying t=some (.pointer _):=E.sh J;rw[V,W]));exact Bi z (AE (iY D x y)) (.imm _ _ (.bool _));exact Bi z (AE (fD D x y)) (.imm _ _ (.bool _))};rename_i p q _ _;split at h<;>simp only[Ge,Ci,AN,reduceCtorEq]at h;rename_i v Q k l;obtain⟨rfl,rfl⟩:=h;let⟨G,L⟩:=BL A;let⟨L,m⟩:=BL L;let⟨u,n,r⟩:=zhh (P:=P) (w:=w) t x y (b L).immInv (c m).immInv k l (zhp G e);exact Bi z (AE n) (.imm _ _ r);{split at h<;>simp only[Ge,Ci,AN,reduceCtorEq]at h;(all_goals(rename_i s J;obtain⟨rfl,rfl⟩:=h;let⟨G,L⟩:=BL A;let⟨ad,V⟩:=Y1 s (b G);have W:a.eval y=.pointer none:=(c L).nilpInv;have D:P.underlying t=some (.pointer _):=E.sh J;rw[V,W]));exact Bi z (AE (iX D x y ad)) (.imm _ _ (.bool _));exact Bi z (AE (fC D x y ad)) (.imm _ _ (.bool _))};cases h
def iO (z:StRep I μ st aa w) {x:Operand} (L:o.op=.nilCheck x) (E:EN I μ env a o.op) (T:C) (h:Ge (Ix B C env st o.op)=some (d,ob)) (A:A8 ob):IJ P I μ st aa w d ((execOp a.eval o).run P w):=by rw[L]at E h;simp only[execOp,L];simp only[Ix]at h;let⟨c,e,N,J⟩:=BC h T (E x (by simp[Op.operands]));clear h;have h:=N;clear N;split at h;rename_i V;simp only[Ge,Ci,AN]at h;obtain⟨rfl,rfl⟩:=h;let⟨ad,G⟩:=Y1 V (J A);have:=J A;rw[G]at this ⊢;exact Bi z (by simp) this;{split at h<;>simp only[Ge,Ci,AN,reduceCtorEq]at h;(all_goals(obtain⟨rfl,rfl⟩:=h;have u:=J A));obtain⟨p,q,G⟩:=u.fnInv;rw[G]at u ⊢;exact Bi z (by simp) u;have G:=u.fn0Inv;rw[G]at u ⊢;exact Bi z (by simp) u;have u:=u.immInv;generalize a.eval x=v at u ⊢;cases u with|ip b W _ _ _ vs D H=>{exact Bi z (by simp) (.ip b W _ _ _ vs D H)}}
def zkk (p:StRep I μ st aa w) {u:UnOp} {x:Operand} (A:o.op=.unOp u t x) (q:EN I μ env a o.op) (G:C) (h:Ge (Ix B C env st o.op)=some (d,ob)) (z:A8 ob):IJ P I μ st aa w d ((execOp a.eval o).run P w):=by
 rw[A]at q h;simp only[execOp,A];cases u<;>simp only[Ix]at h<;>first
  |(cases h;done)
  | (let ⟨H,J,D,E⟩:=BC h G (q x (by simp [Op.operands]))
     clear h;have h:=D;clear D
     split at h<;>simp only[Ge,Ci,AN,reduceCtorEq]at h
     obtain⟨rfl,rfl⟩:=h
     first
      |(have e:=(E z).immInv;have e:=e.boolInv;rw[e];refine Bi p (AE (v:=.bool _) ?_) (.imm _ _ (.bool _));simp[Op.unary])
      | (have e:=(E z).immInv;have e:=e.intInv;rw [e];refine Bi p (AE (v:=.int _ _) ?_) (.imm _ _ (.int _ _));simp only [Op.unary,Op.intArith,am]))
def ck:=@run_convert_bytes_string
def qB (p:TTok P B) (q:StRep I μ st aa w) {x:Operand} (R:o.op=.convert s t x) (L:EN I μ env a o.op) (S:C) (h:Ge (Ix B C env st o.op)=some (d,ob)) (z:A8 ob):IJ P I μ st aa w d ((execOp a.eval o).run P w):=by rw[R]at L h;simp only[execOp,R];simp only[Ix]at h;let⟨dx,ox,J,g⟩:=BC h S (L x (by simp[Op.operands]));clear h;have h:=J;clear J;split at h;rename_i N T;simp only[Ge,Ci,AN]at h;obtain⟨rfl,rfl⟩:=h;rw[(g z).immInv.intInv];have D:P.underlying s=some (.int _):=p.sh N;have E:P.underlying t=some (.int _):=p.sh T;refine Bi q (AE (v:=.int _ _) ?_) (.imm _ _ (.int _ _));simp[convert,ak D,ak E,Conv.intToInt];rename_i es N T;split at h<;>simp only[Ge,Ci,AN,reduceCtorEq]at h;rename_i l he hb;obtain⟨rfl,rfl⟩:=h;have D:P.underlying s=some (.slice _):=p.sh N;have E:P.underlying t=some .string:=p.sh T;have i:P.underlying _=some (.int .u8):=p.sh he;obtain⟨u,rfl,rfl⟩:=SZ (I:=I) hb;have k:=(g z).immInv;generalize G:(u.map λn=>[V.int .u8 n])=es at k;generalize a.eval x=v at k ⊢;cases k with|slnil=>have:u=[]:=by{simpa using G};subst this;refine Bi q (AE (v:=.string .empty) ?_) (.imm _ _ (.str _ _ O));rw[ck w s t _ none 0 0 D i E];rfl|sl0 ad=>have:u=[]:=by{simpa using G};subst this;refine Bi q (AE (v:=.string .empty) ?_) (.imm _ _ (.str _ _ O));rw[ck w s t _ (some ad) 0 0 D i E];rfl|sl b o A W sz _ vs hl _ _ y H c=>{subst G;have e:A=u.length:=by{simpa using hl};refine Bi q (AE (v:=.string (u.foldl (λr n=>r.push (UInt8.ofNat n.toNat)) .empty)) ?_) (.imm _ _ (.str _ _ (by rw[UK];rfl)));rw[ck w s t _ (some ⟨b,o,none⟩) A W D i E];refine run_bytesToString w ⟨b,o,none⟩ A W u ?_;rw[run_loadCells w ⟨b,o,none⟩ A (λj=>vs j 0) (λj F=>?_)];congr 2;apply S7;intro j;by_cases F:j<u.length;have J:=c j [V.int .u8 u[j]] 0 (.int .u8 u[j]) (by simp[F]) O;simp[e,F,J.intInv];rw[Og (by simp;omega),Og (by simp;omega)];have K:j<u.length:=by{omega};have J:=H j [V.int .u8 u[j]] 0 (.int .u8 u[j]) (by simp[K]) O;have h2:sz=1:=(y [V.int .u8 u[j]] (by simp)).symm;rw[Jx];have:=U.cell_world q.imm J.1;simpa[h2]using this};rename_i n N T;simp only[Ge,Ci,AN]at h;obtain⟨rfl,rfl⟩:=h;obtain⟨hn,z⟩:=z;let⟨Q,hn2⟩:=hn S;obtain⟨m,rfl⟩:=Int.eq_ofNat_of_zero_le Q;have D:P.underlying s=some (.int _):=p.sh N;have E:P.underlying t=some .string:=p.sh T;rw[(g z).immInv.intInv];have hm:m<128:=by{omega};have f:Utf8.encode (Int.ofNat m)=⟨#[UInt8.ofNat m]⟩:=by{have hv:Utf8.valid (m:Int)=true:=by{simp[Utf8.valid];omega};simp[Utf8.encode,hv,hm]};refine Bi q (AE (v:=.string (Utf8.encode (Int.ofNat m))) ?_) (.imm _ _ (.str _ _ (by rw[f];rfl)));simp[convert,ak D,ak E,Conv.intToString];cases h
end
section
variable {B:TT} {I:U} {μ:Mu} {st:St} {env:Env} {d:D}
def X.refInv {id:Nat} (h:X I μ v (.ref id off)):∃b,v=.pointer (some ⟨b,off,none⟩)/\μ id=some (.pointer (some ⟨b,0,none⟩)):=by cases h with|ref b _ _ h=>{exact⟨b,rfl,h⟩}
def X.ipInv {cs:L1 V} (h:X I μ v (.ip t cs off)):∃(b o:Nat) (vs:Nat->Value),v=.pointer (some ⟨b,o+off,none⟩)/\(∀(j:Nat) (x:V),cs[j]?=some x->I.cell b (o+j)=some (vs j)/\(vs j).oneCell'=true)/\(∀(j:Nat) (x:V),cs[j]?=some x->M I (vs j) x):=by cases h with|ip b o _ _ _ vs p q=>{exact⟨b,o,vs,rfl,p,q⟩}
def bD (q:TTok P B) (u:StRep I μ st aa w) {x:Operand} (c:o.op=.fieldAddr s x f) (H:EN I μ env a o.op) (j:C) (h:Ge (Ix B C env st o.op)=some (d,ob)) (z:A8 ob):IJ P I μ st aa w d ((execOp a.eval o).run P w):=by rw[c]at H h;simp only[execOp,c];simp only[Ix]at h;let⟨m,n,e,L⟩:=BC h j (H x (by simp[Op.operands]));clear h;have h:=e;clear e;split at h;rename_i id off A _ _ _ _ D;split at h<;>simp only[Ge,Ci,AN,reduceCtorEq]at h;rename_i G _ E;obtain⟨rfl,rfl⟩:=h;obtain⟨b,N,T⟩:=(L z).refInv;rw[N,FZ];have p:W9 P s (.struct A):=q.sh D;exact Bi u (AE (L9 p E b off)) (.ref b id (off+G) T);rename_i t cs off A _ _ _ _ D;split at h<;>simp only[Ge,Ci,AN,reduceCtorEq]at h;rename_i G _ E;obtain⟨rfl,rfl⟩:=h;obtain⟨b,g,vs,N,T,k⟩:=(L z).ipInv;rw[N,FZ];have p:W9 P s (.struct A):=q.sh D;refine Bi u (AE (L9 p E b (g+off))) ?_;rw[Yo];exact .ip b g t cs (off+G) vs T k;rename_i id i sz off A _ _ _ _ D;split at h<;>simp only[Ge,Ci,AN,reduceCtorEq]at h;rename_i G _ E;obtain⟨rfl,rfl⟩:=h;have J:=L z;generalize a.eval x=v at J;cases J with|elp b _ V W _ _ _ l=>{rw[FZ];have p:W9 P s (.struct A):=q.sh D;refine Bi u (AE (L9 p E b (i*sz+off))) ?_;rw[Yo];exact .elp b id V W i sz (off+G) l};rename_i b off A _ _ _ _ D;split at h<;>simp only[Ge,Ci,AN,reduceCtorEq]at h;rename_i G _ E;obtain⟨rfl,rfl⟩:=h;have J:=L z;generalize a.eval x=v at J;cases J with|raw _ _=>{rw[FZ];have p:W9 P s (.struct A):=q.sh D;exact Bi u (AE (L9 p E b off)) (.raw _ O)};cases h
def zkm (T:TTok P B) (u:StRep I μ st aa w) {x:Operand} (S:o.op=.load t x) (V:EN I μ env a o.op) (hc:C) (h:Ge (Ix B C env st o.op)=some (d,ob)) (A:A8 ob):IJ P I μ st aa w d ((execOp a.eval o).run P w):=by rw[S]at V h;simp only[execOp,S];simp only[Ix]at h;let⟨dx,ox,n,s⟩:=BC h hc (V x (by simp[Op.operands]));clear h;have h:=n;clear n;split at h;rename_i id off i y;have H:=T t i y;split at h;rename_i r sz xs F;split at h<;>simp only[Ge,Ci,AN,reduceCtorEq]at h;rename_i K W;obtain⟨rfl,rfl⟩:=h;obtain⟨b,c,N⟩:=(s A).refInv;let⟨g,f,D,b',vs,L,q,p,E⟩:=u.blk id _ F;rw[N]at f;cases f;cases L;rw[c];have:=PX (P:=P) (w:=w) (I:=I) (μ:=μ) H (b:=b) (o:=0) (off:=off) (xs:=xs) (vs:=λj=>vs.toList.getD j undef) (same:=Nat.beq sz i.size) (λj x J=>by{have G:j<xs.length:=(A9.1 J).1;have z:vs.toList[j]?=some (vs.toList[j]'(by rw[p.1];exact G)):=Bq _;rw[BS];have e:vs.toList.getD j undef=vs.toList[j]'(by rw[p.1];exact G):=by{simp[List.getD,z]};rw[e];exact⟨FX q j _ z,E _ (KG _)⟩}) (λj x J=>by{have G:j<xs.length:=(A9.1 J).1;have z:vs.toList[j]?=some (vs.toList[j]'(by rw[p.1];exact G)):=Bq _;have e:vs.toList.getD j undef=vs.toList[j]'(by rw[p.1];exact G):=by{simp[List.getD,z]};rw[e];exact p.2 j _ _ z J}) (λ_ k _=>by rw[D];exact CU k) W;obtain⟨v,z,l⟩:=this;rw[BS]at z;exact Bi u (AE z) l;rename_i r sz cs F;split at h<;>simp only[Ge,Ci,AN,reduceCtorEq]at h;rename_i K W;obtain⟨rfl,rfl⟩:=h;obtain⟨b,c,N⟩:=(s A).refInv;let⟨g,f,D,b',vs,L,q,p,E⟩:=u.blk id _ F;rw[N]at f;cases f;cases L;rw[c];let⟨v,z,l⟩:=fQ (P:=P) (w:=w) (I:=I) (μ:=μ) H (b:=b) (off:=off) (cs:=cs) (vs:=vs.toList) (same:=Nat.beq sz i.size) (λj v J=>FX q j v J) E p (λ_ k _=>by rw[D];exact CU k) W;exact Bi u (AE z) l;cases h;rename_i r cs off i y;have H:=T t i y;split at h;rename_i K W;have m:(i.agg=true->Nat.beq t r=true->off=0->cs.length=i.size)->A8 ox->IJ P I μ st aa w K ((do pure (.value (<- Instr.loadAt t (a.eval x))):Sem Next).run P w):=by{intro k Q;obtain⟨b,o',vs,c,N,e3⟩:=(s Q).ipInv;rw[c];let⟨v,z,l⟩:=PX (P:=P) (w:=w) (I:=I) (μ:=μ) H (b:=b) (o:=o') (off:=off) (xs:=cs) (vs:=vs) (same:=Nat.beq t r) (λj x J=>⟨U.cell_world u.imm (N j x J).1,(N j x J).2⟩) e3 k W;exact Bi u (AE z) l};split at h<;>simp only[Ge,Ci,AN]at h;obtain⟨rfl,rfl⟩:=h;exact m (λ_ _ _=>A.1 hc) A.2;rename_i R;obtain⟨rfl,rfl⟩:=h;exact m (λn h2 h3=>absurd h3 (R n h2)) A;cases h;cases h
def zgq (q:TTok P B) (H:StRep I μ st aa w) {x:Operand} (F:o.op=.field t x f) (J:EN I μ env a o.op) (R:C) (h:Ge (Ix B C env st o.op)=some (d,ob)) (L:A8 ob):IJ P I μ st aa w d ((execOp a.eval o).run P w):=by rw[F]at J h;simp only[execOp,F];simp only[Ix]at h;let⟨dx,ox,z,K⟩:=BC h R (J x (by simp[Op.operands]));clear h;have h:=z;clear z;have N:∀{T:L1 (Nat×TypeId)} {V:Nat} {A:TypeId} {i:TyI} {cs:L1 D} {vs:Array Value} {W:D},W9 P t (.struct T)->OM T f=some (V,A)->TyOk P A i->Iv i false cs V=some W->RepL I μ vs.toList cs->(∀c∈vs.toList,c.oneCell'=true)->∃v,(Instr.field t (.agg vs) f).run P w=.ok v w/\X I μ v W:=by{intro T V A i cs vs W b G e g j z;obtain⟨u,S,k,_⟩:=b;rw[HB,<- k,Ct,EV]at G;obtain⟨r,s,Q⟩:=G;simp only[AN]at Q;obtain⟨l,e2⟩:=Q;have m:u[f]?=some r:=by{rw[<- Vi];exact s};let⟨v,n,p⟩:=zdu (P:=P) (w:=w) e z j g;refine⟨v,?_,p⟩;simp only[Instr.field,aj,ak S,ah,m,asAgg,am,l,e2,n]};split at h;rename_i xs T _ _ _ _ b;split at h;rename_i V A G;split at h;rename_i i e;split at h<;>simp only[Ge,Ci,AN,reduceCtorEq]at h;rename_i W g;obtain⟨rfl,rfl⟩:=h;obtain⟨cs,l,j,z⟩:=(K L).aggInv;let⟨d2,y,E⟩:=fP (I:=I) (μ:=μ) g;let⟨v,n,p⟩:=N (q.sh b) G (q A i e) y j.imm z;rw[l];exact Bi H (AE n) (E v p);cases h;cases h;rename_i xs T _ _ _ _ b;split at h;rename_i V A G;split at h;rename_i i e;split at h<;>simp only[Ge,Ci,AN,reduceCtorEq]at h;rename_i W g;obtain⟨rfl,rfl⟩:=h;obtain⟨cs,l,j,z⟩:=(K L).aggDInv;let⟨v,n,p⟩:=N (q.sh b) G (q A i e) g j z;rw[l];exact Bi H (AE n) p;cases h;cases h;cases h
def qA (A:StRep I μ st aa w) {x:Operand} (J:o.op=.extract x n) (D:EN I μ env a o.op) (T:C) (h:Ge (Ix B C env st o.op)=some (d,ob)) (E:A8 ob):IJ P I μ st aa w d ((execOp a.eval o).run P w):=by rw[J]at D h;simp only[execOp,J];simp only[Ix]at h;let⟨W,b,L,N⟩:=BC h T (D x (by simp[Op.operands]));clear h;have h:=L;clear L;split at h;rename_i V;unfold zdy at h;split at h<;>simp only[Ge,Ci,AN,reduceCtorEq]at h;rename_i y u;obtain⟨rfl,rfl⟩:=h;obtain⟨cs,H,q⟩:=(N E).tupInv;rw[HB]at u;have p:n<V.length:=(A9.1 u).1;have G:cs.toList[n]?=some (cs.toList[n]'(by rw[q.1];exact p)):=Bq _;have z:cs[n]?=some (cs.toList[n]'(by rw[q.1];exact p)):=by{rw[<- Vi];exact G};rw[H];refine Bi A (AE (v:=cs.toList[n]'(by rw[q.1];exact p)) ?_) (.imm _ _ (q.2 n _ _ G u));simp only[Instr.extract,z,am];rename_i ds;split at h<;>simp only[Ge,Ci,AN,reduceCtorEq]at h;rename_i y u;obtain⟨rfl,rfl⟩:=h;obtain⟨cs,H,q⟩:=(N E).tupDInv;rw[HB]at u;have p:n<ds.length:=(A9.1 u).1;have G:cs.toList[n]?=some (cs.toList[n]'(by rw[q.1];exact p)):=Bq _;have z:cs[n]?=some (cs.toList[n]'(by rw[q.1];exact p)):=by{rw[<- Vi];exact G};rw[H];refine Bi A (AE (v:=cs.toList[n]'(by rw[q.1];exact p)) ?_) (q.2 n _ _ G u);simp only[Instr.extract,z,am];cases h
def RA (D:TTok P B) (q:StRep I μ st aa w) {x:Operand} (E:o.op=.makeInterface t x) (u:EN I μ env a o.op) (J:C) (h:Ge (Ix B C env st o.op)=some (d,ob)) (z:A8 ob):IJ P I μ st aa w d ((execOp a.eval o).run P w):=by rw[E]at u h;simp only[execOp,E];simp only[Ix]at h;let⟨V,W,G,H⟩:=BC h J (u x (by simp[Op.operands]));clear h;have h:=G;clear G;(split at h<;>first|(cases h;done)|skip);rename_i L N T;cases A:lk B t with|none=>exact absurd A T|some i=>{have p:=Wl (w:=w) (D t i A) (λe=>by cases i;cases e;exact L _ _ _ _ A) (λe=>by cases i;cases e;exact N _ _ _ _ A) (a.eval x);split at h<;>simp only[Ge,Ci,AN]at h;obtain⟨rfl,rfl⟩:=h;exact Bi q (AE p) (.imm _ _ (.iface _ _ _ (H z).immInv));obtain⟨rfl,rfl⟩:=h;exact Bi q (AE p) (.iface _ _ _ (H z))}
def iP (A:StRep I μ st aa w) {f:Fn} {xs ys:Array Operand} (J:o.op=.makeFunc f xs ys) (u:EN I μ env a o.op) (h:Ge (Ix B C env st o.op)=some (d,ob)):IJ P I μ st aa w d ((execOp a.eval o).run P w):=by rw[J]at u h;simp only[execOp,J];obtain⟨xs⟩:=xs;obtain⟨ys⟩:=ys;simp only[Ix]at h;have L:∀ds,qC env xs=some ds->RepL I μ (xs.map a.eval) ds:=λds D=>VU D λx z=>u x (by simp[Op.operands,z]);have N:∀ds,qC env ys=some ds->RepL I μ (ys.map a.eval) ds:=λds D=>VU D λx z=>u x (by simp[Op.operands,z]);split at h<;>simp only[Ge,Ci,AN,reduceCtorEq]at h;rename_i z E;obtain⟨rfl,rfl⟩:=h;have G:=(L _ z).1;have H:=(N _ E).1;have G:xs=[]:=by{simpa using G};have H:ys=[]:=by{simpa using H};subst G;subst H;exact Bi A (AE (v:=.func f #[] #[]) (by simp[Instr.makeFunc])) (.imm _ _ (.fn _));rename_i W b e z E;obtain⟨rfl,rfl⟩:=h;have T:=L _ z;have V:=N _ E;exact Bi A (AE (v:=.func f (xs.map a.eval).toArray (ys.map a.eval).toArray) (by simp[Instr.makeFunc]))<|.fn f _ _ W b (by simpa using T.1) (by simpa using V.1) (λi c x p q=>T.2 i c x (by simpa using p) q) (λi c x p q=>V.2 i c x (by simpa using p) q)
end
section
variable {B:TT} {I:U} {μ:Mu} {st:St} {env:Env} {d:D}
def EA (s:ByteArray):s.size=s.data.toList.length:=by rw[PV];rfl
def Jn (s:ByteArray) (l h:Nat):(s.extract l h).data.toList=(s.data.toList.drop l).take (h-l):=by simp[ByteArray.data_extract,zeq]
def zgp (A:TTok P B) (D:StRep I μ st aa w) {x y:Operand} (H:o.op=.index t x y) (p:EN I μ env a o.op) (E:C) (h:Ge (Ix B C env st o.op)=some (d,ob)) (q:A8 ob):IJ P I μ st aa w d ((execOp a.eval o).run P w):=by rw[H]at p h;simp only[execOp,H];simp only[Ix]at h;let⟨j,l,z,J⟩:=BC h E (p x (by simp[Op.operands]));clear h;let⟨m,n,h,L⟩:=BC z E (p y (by simp[Op.operands]));clear z;split at h<;>simp only[Ge,Ci,AN,reduceCtorEq]at h;rename_i s k i _ _ _ _ N;obtain⟨rfl,rfl⟩:=h;obtain⟨T,q⟩:=q;let⟨z,V⟩:=BL q;obtain⟨s,W,rfl⟩:=(J z).immInv.strInv;have b:=(L V).immInv.intInv;have c:P.underlying t=some .string:=A.sh N;let⟨G,e⟩:=T E;rw[W,b];refine Bi D (AE (v:=.int _ _) ?_) (.imm _ _ (.int _ _));have u:i.toNat<s.size:=by{rw[EA];omega};have f:s[i.toNat]?=some s[i.toNat]:=ByteArray.getElem?_lt' s _ u;simp only[Instr.index,aj,asIntOf,am,ah,ak c,G,ar,f];congr 3;have:s.data.toList.getD i.toNat 0=s[i.toNat]:=by{have g:i.toNat<s.data.toList.length:=by{rw[<- EA];exact u};simp only[List.getD,Bq g,KF];simp;rfl};rw[this]
def ac:=@if_neg
def Lz {es:G1} (h:M I v (.sl es)) (l m:Nat) (hl:l<=m) (Q:m<=es.length) (d:P.underlying t=some (.slice e)) {i:TyI} (f:TyOk P e i) (R:∀c∈es,c.length=i.size) (a B:Option Value) (C:a=none/\l=0\/∃k,a=some (.int k l)) (D:B=none/\m=es.length\/∃k,B=some (.int k m)):∃u,(Instr.sliceAt t v a B none).run P w=.ok u w/\M I u (.sl ((es.drop l).take (m-l))):=by have S:∀(k:IntKind) (x y:Nat) (c:BoundsCode),x<=y->(Instr.sliceBound (.int k x) y c).run P w=.ok x w:=by{intro k x y c g;simp[Instr.sliceBound,asIntOf,g]};cases h with|slnil=>{have E:m=0:=by{simpa using Q};have G:l=0:=by{omega};subst E;subst G;refine⟨.slice none 0 0,?_,by simpa using M.slnil⟩;rcases C with⟨rfl,_⟩|⟨k,rfl⟩<;>rcases D with⟨rfl,_⟩|⟨k',rfl⟩<;>simp[Instr.sliceAt,ak d,Instr.slice,Instr.sliceBounds,Instr.sliceBound,asIntOf,f.sizeOf w]}|sl0 ad=>{have E:m=0:=by{simpa using Q};have G:l=0:=by{omega};subst E;subst G;refine⟨.slice (some ad) 0 0,?_,by simpa using M.sl0 ad⟩;rcases C with⟨rfl,_⟩|⟨k,rfl⟩<;>rcases D with⟨rfl,_⟩|⟨k',rfl⟩<;>simp[Instr.sliceAt,ak d,Instr.slice,Instr.sliceBounds,Instr.sliceBound,asIntOf,f.sizeOf w]}|sl b o J z sz _ vs hlen j hmx n H L=>{have r:m<=z:=by{omega};have N:(Instr.sliceAt t (.slice (some ⟨b,o,none⟩) J z) a B none).run P w=.ok (.slice (if z=l then some ⟨b,o,none⟩else some ((⟨b,o,none⟩:Addr).add (l*i.size))) (m-l) (z-l)) w:=by{have s:m=es.length->m=J:=by{omega};rcases C with⟨rfl,rfl⟩|⟨k,rfl⟩<;>rcases D with⟨rfl,h2⟩|⟨k',rfl⟩;all_goals((try have h3:=s h2;subst h3);simp[Instr.sliceAt,ak d,Instr.slice,Instr.sliceBounds,S _ _ _ _ hl,S _ _ _ _ r,f.sizeOf w])};refine⟨_,N,?_⟩;by_cases T:z=l;have:m-l=0:=by{omega};rw[ae T,this];rw[fN];exact .sl b o 0 (z-l) 0 [] (λ_ _=>undef) O (by omega) (by omega) (by simp) (by simp) (by simp);rw[ac T,Jx];have F:∀c∈es,sz=i.size:=λc j=>by{rw[<- n c j,R c j]};refine .sl b (o+l*i.size) (m-l) (z-l) i.size _ (λp q=>vs (l+p) q) (by simp;omega) (by omega) (by omega) (λe he=>R e (Vk (PU he))) ?_ ?_;intro p e q x A K;rw[DO]at A;split at A;rw[EU]at A;have W:e∈es:=AF A;have:=H (l+p) e q x A K;rw[F e W,Vh]at this;rwa [show o+l*i.size+p*i.size+q=o+(l*i.size+p*i.size)+q by omega];cases A;intro p e q x A K;rw[DO]at A;split at A;rw[EU]at A;exact L (l+p) e q x A K;cases A}
def iQ (z:TTok P B) (N:StRep I μ st aa w) {c:Call} (F:o.op=.call c) (A:EN I μ env a o.op) (W:C) (h:Ge (Ix B C env st o.op)=some (d,ob)) (p:A8 ob):IJ P I μ st aa w d ((execOp a.eval o).run P w):=by
 rw[F]at A h;simp only[execOp,F];simp only[Ix]at h
 split at h
 all_goals first
  |(rename_i u;cases u;done)
  |skip
 ·rename_i x t u;cases u;let⟨K,Q,G,L⟩:=BC h W (A x (by simp[Op.operands,Call.operands]));clear h;have h:=G;clear G;have D:∀(n:Int) (v:Value),a.eval x=v->(Builtin.len_ #[t] o.type #[v]).run P w=.ok (.int .i64 n) w->IJ P I μ st aa w (.imm (.int .i64 n))
    ((do let d <- resolve a.eval { callee:=.builtin .len,args:=⟨[x]⟩,argTypes:=⟨[t]⟩ } o.type;invoke d.target d.args:Sem Next).run P w):=by
   intro n v H q;refine Bi N (v:=.int .i64 n) ?_ (.imm _ _ (.int _ _));simp[resolve,invoke,builtin,H,q]
  split at h
  ·rename_i J;simp only[Ge,Ci,AN]at h;obtain⟨rfl,rfl⟩:=h;have E:P.underlying t=some (.slice _):=z.sh J;have q:=(L p).immInv;generalize H:a.eval x=v at q;refine D _ v H ?_;cases q with
   |slnil=>simp[Builtin.len_,ak E,goInt]
   |sl0=>simp[Builtin.len_,ak E,goInt]
   |sl b o' S cap sz _ vs j=>simp[Builtin.len_,ak E,goInt,j]
  ·rename_i J;simp only[Ge,Ci,AN]at h;obtain⟨rfl,rfl⟩:=h;have E:P.underlying t=some .string:=z.sh J;obtain⟨s,e,rfl⟩:=(L p).immInv.strInv;refine D _ _ e ?_;simp[Builtin.len_,ak E,goInt]
  ·rename_i J;simp only[Ge,Ci,AN]at h;obtain⟨rfl,rfl⟩:=h;have E:P.underlying t=some (.slice _):=z.sh J;have q:=L p;generalize H:a.eval x=v at q;refine D _ v H ?_;cases q;simp[Builtin.len_,ak E,goInt]
  ·rename_i J;simp only[Ge,Ci,AN]at h;obtain⟨rfl,rfl⟩:=h;have E:P.underlying t=some (.slice _):=z.sh J;have q:=L p;generalize H:a.eval x=v at q;refine D _ v H ?_;cases q;simp[Builtin.len_,ak E,goInt]
  ·rename_i J;simp only[Ge,Ci,AN]at h;obtain⟨rfl,rfl⟩:=h;have E:P.underlying t=some (.slice _):=z.sh J;have q:=L p;generalize H:a.eval x=v at q;refine D _ v H ?_;cases q;simp[Builtin.len_,ak E,goInt]
  ·rename_i id _ _ _ _ _ _ J
   split at h<;>simp only[Ge,Ci,AN,reduceCtorEq]at h
   rename_i kv j;obtain⟨rfl,rfl⟩:=h;have E:P.underlying t=some (.map _ _):=z.sh J;have q:=L p;let⟨g,R,b,es,T,k,V,f,_⟩:=N.blk id _ j;generalize H:a.eval x=v at q;refine D _ v H ?_;cases q with
   |mapr _ b' hm=>
    rw[hm]at R;cases R;cases k;have i:(getObj b).run P w=.ok (.map es T) w:=by simp[getObj,Sem.run,V]
    simp[Builtin.len_,ak E,goInt,i,f]
  ·cases h
 ·rename_i x y ts u;cases u;let⟨K,Q,G,L⟩:=BC h W (A x (by simp[Op.operands,Call.operands]));clear h;let⟨dy,oy,h,l⟩:=BC G W (A y (by simp[Op.operands,Call.operands]));clear G
  split at h<;>simp only[Ge,Ci,AN,reduceCtorEq]at h
  obtain⟨rfl,rfl⟩:=h;let⟨G,m⟩:=BL p;have e:=(L G).immInv.intInv;have r:=(l m).immInv.intInv;refine Bi N (v:=.int _ _) ?_ (.imm _ _ (.int _ _));simp[resolve,invoke,builtin,e,r,run_max_int2]
 ·rename_i x y ts u;cases u;let⟨K,Q,G,L⟩:=BC h W (A x (by simp[Op.operands,Call.operands]));clear h;let⟨dy,oy,h,l⟩:=BC G W (A y (by simp[Op.operands,Call.operands]));clear G
  split at h<;>simp only[Ge,Ci,AN,reduceCtorEq]at h
  obtain⟨rfl,rfl⟩:=h;let⟨G,m⟩:=BL p;have e:=(L G).immInv.intInv;have r:=(l m).immInv.intInv;refine Bi N (v:=.int _ _) ?_ (.imm _ _ (.int _ _));simp[resolve,invoke,builtin,e,r,run_min_int2]
 ·cases h
end
section
variable {B:TT} {I:U} {μ:Mu} {st:St} {env:Env} {d:D}
def YC (off:Nat):∀(l:L1 Value) (k:Nat) (q:Array Value),off+k+l.length<=q.size->((l.zipIdx k).foldl (λcs (p:Value×Nat)=>cs.setIfInBounds (off+p.2) p.1) q).toList=q.toList.take (off+k)++l++q.toList.drop (off+k+l.length)
 |[],k,q,h=>by simp
 |v::l,k,q,h=>by simp only[zen,LP];simp only[Co]at h;rw[YC off l (k+1) _ (by simp;omega)];have u:off+k<q.toList.length:=by{simp;omega};simp only[Array.toList_setIfInBounds];rw[lqq47,ae u];have x:List.take (off+(k+1)) (List.take (off+k) q.toList++v::List.drop (off+k+1) q.toList)=List.take (off+k) q.toList++[v]:=by{rw[PT];simp only[Gt,Vg];have:off+(k+1)-min (off+k) q.toList.length=1:=by{omega};rw[this,tS (by omega)];simp};have z:List.drop (off+(k+1)+l.length) (List.take (off+k) q.toList++v::List.drop (off+k+1) q.toList)=List.drop (off+k+(l.length+1)) q.toList:=by{rw[List.drop_append];simp only[Gt];have A:off+(k+1)+l.length-min (off+k) q.toList.length=l.length+1:=by{omega};rw[A,Bu (by simp;omega),HZ];simp only[List.drop_succ_cons,Ym];congr 1;omega};rw[x,z];simp
abbrev K1:=L1 (L1 Value)
def N8 (z:Nat->Option (Nat×Nat)):∀(parts:L1 (Nat×Value)) (h:K1),(∀i u,h[i]?=some u->z i=some ((h.take i).flatten.length,u.length))->(∀p∈parts,∃u,h[p.1]?=some u/\p.2.cells.size=u.length)->Instr.fill z h.flatten.toArray parts=some ((parts.foldl (λs p=>s.set p.1 p.2.cells.toList) h).flatten.toArray)
 |[],h,_,_=>rfl
 |(i,v)::J,h,e,f=>by let⟨u,L,W⟩:=f (i,v) (by simp);simp only at L W;have N:i<h.length:=(A9.1 L).1;obtain⟨A,B,q,a⟩:∃A B,h=A++u::B/\A.length=i:=by{refine⟨h.take i,h.drop (i+1),?_,by simp;omega⟩;have:h[i]=u:=(A9.1 L).2;rw[<- this];simp};have H:h.take i=A:=by{rw[q,<- a];simp};have D:h.set i v.cells.toList=A++v.cells.toList::B:=by{rw[q,<- a];simp};have T:z i=some (A.flatten.length,u.length):=by{rw[e i u L,H]};have E:v.cells.toList.length=u.length:=by{simpa using W};unfold Instr.fill;simp only[T,W];rw[ac (by rw[q];simp[-List.length_flatten,AZ])];have b:v.cells.zipIdx.foldl (λcs (x:Value×Nat)=>cs.setIfInBounds (A.flatten.length+x.2) x.1) h.flatten.toArray=(h.set i v.cells.toList).flatten.toArray:=by{apply fy;have:=YC A.flatten.length v.cells.toList 0 h.flatten.toArray (by rw[q,E];simp[-List.length_flatten,AZ]);rw[<- Array.foldl_toList,Array.toList_zipIdx];simp only[Gs]at this;rw[this,D,q,E];simp[-List.length_flatten]};have k:=N8 z J (h.set i v.cells.toList) ?_ ?_;rw[LP,<- k];congr 1;intro j G V;by_cases C:i=j;subst C;rw[HY N]at V;cases V;rw[T,D,<- a,E];simp[-List.length_flatten];rw[KE C]at V;rw[e j G V];congr 2;by_cases l:j<i;rw[List.take_set,List.set_eq_of_length_le (by simp;omega)];rw[D,q,PT,PT,CA (by omega)];obtain⟨n,m⟩:∃n,j-A.length=n+1:=⟨j-A.length-1,by omega⟩;rw[m];simp[-List.length_flatten,AZ,E];intro p c;let⟨G,d,g⟩:=f p (by simp[c]);by_cases C:i=p.1;rw[<- C,HY N];rw[<- C,L]at d;cases d;exact⟨_,rfl,by rw[E];exact g⟩;rw[KE C];exact⟨G,d,g⟩
def JR:∀(parts:L1 (Nat×Value)) (q:K1) (i:Nat) (z:L1 Value),(parts.foldl (λs p=>s.set p.1 p.2.cells.toList) q)[i]?=some z->(∀v,(i,v)∈parts->(∀u,(i,u)∈parts->u=v)->z=v.cells.toList)/\((∀v,(i,v)∉parts)->q[i]?=some z)
 |[],q,i,z,h=>⟨λv E=>by simp at E,λ_=>h⟩
 |(j,u)::B,q,i,z,h=>by rw[LP]at h;have G:=JR B _ i z h;refine⟨λv E A=>?_,λC=>?_⟩;by_cases H:(∃x,(i,x)∈B);obtain⟨x,N⟩:=H;have:=A x (by simp[N]);subst this;exact G.1 x N (λy D=>A y (by simp[D]));have J:i=j/\v=u:=by{rcases Ck.1 E with e|e;simpa using e;exact absurd ⟨v,e⟩ H};obtain⟨rfl,rfl⟩:=J;have:=G.2 (λy D=>H ⟨y,D⟩);simp only at this;by_cases T:i<q.length;rw[HY T]at this;cases this;rfl;rw[Og (by simp;omega)]at this;cases this;have:=G.2 (λy D=>C y (by simp[D]));have L:j≠i:=λe=>C u (by simp[e]);rwa [KE L]at this
end
section
variable {B:TT} {I:U} {μ:Mu} {st:St} {env:Env} {d:D}
def RL (I:U) (μ:Mu) (vs:L1 Value):Acc->Prop
 |.e=>vs=[]
 |.v h=>RepVL I vs h
 |.d ds=>RepL I μ vs ds
def kM (I:U) (μ:Mu) (vs:L1 Value):Ch->Prop
 |.v1 x=>RepVL I vs [x]
 |.vs h=>RepVL I vs h
 |.d1 d=>RepL I μ vs [d]
 |.ds ds=>RepL I μ vs ds
def RepL.append {p:L1 Value} {xs ys:L1 D} (h:RepL I μ vs xs) (k:RepL I μ p ys):RepL I μ (vs++p) (xs++ys):=by induction vs generalizing xs with|nil=>{cases xs with|nil=>exact k|cons=>{simp[RepL]at h}}|cons v vs q=>{cases xs with|nil=>simp[RepL]at h|cons x xs=>{exact .mk h.cons.1 (q h.cons.2)}}
def pS {q:L1 Value} {c:Ch} {p:Acc} (h:kM I μ vs c) (k:RL I μ q p):RL I μ (vs++q) (V9 c p):=by
 cases c<;>cases p<;>simp only[kM,RL,V9]at *
 case v1.e=>subst k;simpa using h
 case v1.v=>exact RepVL.append h k
 case v1.d=>exact RepL.append h.imm k
 case vs.e=>subst k;simpa using h
 case vs.v=>exact RepVL.append h k
 case vs.d=>exact RepL.append h.imm k
 case d1.e=>subst k;simpa using h
 case d1.v=>exact RepL.append h k.imm
 case d1.d=>exact RepL.append h k
 case ds.e=>subst k;simpa using h
 case ds.v=>exact RepL.append h k.imm
 case ds.d=>exact RepL.append h k
def HH (h:v.oneCell'=true):v.cells = #[v]:=by cases v<;>simp_all [Value.cells,Value.oneCell']
def zha {c:Ch} {o:L1 Prop} (h:zn4 sz d=some (c,o)) (q:X I μ v d) (L:A8 o) :
  kM I μ v.cells.toList c/\v.cells.size=sz/\∀u∈v.cells.toList,u.oneCell'=true:=by
 have one:∀{N:D},X I μ v N->v.oneCell'=true->Nat.beq sz 1=true->v.cells.size=sz/\(∀u∈v.cells.toList,u.oneCell'=true)/\v.cells.toList=[v]:=by
  intro N _ p A;have:=CU A;rw[HH p];exact⟨by simp[this],by simpa using p,rfl⟩
 unfold zn4 at h
 split at h
 ·cases h;obtain⟨cs,rfl,p,z⟩:=q.aggInv;have B:_=sz:=L.1;exact⟨p,by simp[Value.cells];rw[<- B,<- p.1];simp,z⟩
 ·cases h
 ·rename_i x C E
  split at h
  ·rename_i A;cases h;have G:x.one=true:=by
    cases x<;>first|rfl|exact absurd rfl (C _)|exact absurd rfl (E _)
   let⟨p,z,H⟩:=one q (q.immInv.one G) A;exact⟨by rw[H];exact .mk q.immInv .nil,p,z⟩
  ·cases h
 ·cases h;obtain⟨cs,rfl,p,z⟩:=q.aggDInv;have B:_=sz:=L.1;exact⟨p,by simp[Value.cells];rw[<- B,<- p.1];simp,z⟩
 ·cases h
 ·cases h
 ·cases h
 ·rename_i e f T V W a b
  split at h
  ·rename_i A;cases h;have J:d.one=true:=by
    cases d<;>first
     |rfl
     |exact absurd rfl (T _)
     |exact absurd rfl (V _)
     |exact absurd rfl (W _)
     |exact absurd rfl (a _ _ _)
     |exact absurd rfl b
   let⟨p,z,H⟩:=one q (q.one J) A;exact⟨by rw[H];exact .mk q .nil,p,z⟩
  ·cases h
def qX {ds:L1 D} (h:RepL I μ vs ds):kM I μ vs (qY ds):=by unfold qY;split;rename_i x p;exact L0 p h;rename_i q _ p;exact L0 p h;split;exact h;exact h
def Ez (B:TT) (h:L1 Value):Nat->L1 (Nat×TypeId)->L1 (L1 Value)
 |_,[]=>[]
 |off,(_,p)::r=>match lk B p with
  |some ti=>(h.drop off).take ti.size::Ez B h (off+ti.size) r
  |none=>[]
def RepL.dropTake {ds:L1 D} (h:RepL I μ vs ds) (o n:Nat):RepL I μ ((vs.drop o).take n) ((ds.drop o).take n):=by refine⟨by simp[h.1],λj v d a b=>?_⟩;rw[DO]at a b;split at a;rename_i p;rw[ae p,EU]at b;rw[EU]at a;exact h.2 _ _ _ a b;cases a
abbrev R0:=L1 (Nat×Operand)
def Ws {z:L1 D} {q:L1 Value} {parts:R0} (l:RepL I μ q z) (N:∀v∈q,v.oneCell'=true)
  (T:∀i x,CP parts i=some x->∀d,EM env x=some d->X I μ (a.eval x) d) :
  ∀(fs:L1 (Nat×TypeId)) (i off:Nat) (G:Acc) (o:L1 Prop),RJ B env z parts i off fs=some (G,o)->A8 o ->
  (∀S:K1,S.length=fs.length ->
   (∀k p,S[k]?=some p->(∀x,CP parts (i+k)=some x->p=(a.eval x).cells.toList)/\(CP parts (i+k)=none->(Ez B q off fs)[k]?=some p)) ->
   RL I μ S.flatten G/\∀u∈S.flatten,u.oneCell'=true) /\
  (Ez B q off fs).flatten=q.drop off/\(Ez B q off fs).length=fs.length/\off<=q.length /\
  (∀k f p,fs[k]?=some f->(Ez B q off fs)[k]?=some p->f.1=off+((Ez B q off fs).take k).flatten.length/\(∃ti,lk B f.2=some ti/\p.length=ti.size)) /\
  (∀k x,k<fs.length->CP parts (i+k)=some x->∃f ti,fs[k]?=some f/\lk B f.2=some ti/\(a.eval x).cells.size=ti.size)
 |[],i,off,G,o,h,s=>by
  simp only[RJ]at h
  split at h
  ·rename_i t;cases h;have:=CU t;refine⟨λS m _=>?_,?_,rfl,by rw[l.1];omega,by simp,by simp⟩
   ·have:S=[]:=Iu (by simpa using m);subst this;exact⟨rfl,by simp⟩
   ·simp[Ez,l.1,this]
  ·cases h
 |(C,E)::r,i,off,G,o,h,s=>by
  simp only[RJ]at h
  split at h
  ·rename_i ti t w;have F:=CU t
   split at h
   ·rename_i H o1 V;have W:Ez B q off ((C,E)::r)=(q.drop off).take ti.size::Ez B q (off+ti.size) r:=by simp[Ez,w]
    have J:A8 o1->∀(c:Ch),(∀p:L1 Value,((∀x,CP parts i=some x->p=(a.eval x).cells.toList)/\(CP parts i=none->(q.drop off).take ti.size=p))->kM I μ p c/\∀u∈p,u.oneCell'=true) ->
      (∀x,CP parts i=some x->(a.eval x).cells.size=ti.size)->_:=λK c hc P=>by
     let⟨h1,h2,h3,h4,h5,h6⟩:=Ws l N T r (i+1) (off+ti.size) H o1 V K;exact(show(∀S:K1,S.length=((C,E)::r).length ->
       (∀k p,S[k]?=some p->(∀x,CP parts (i+k)=some x->p=(a.eval x).cells.toList)/\(CP parts (i+k)=none->(Ez B q off ((C,E)::r))[k]?=some p)) ->
       RL I μ S.flatten (V9 c H)/\∀u∈S.flatten,u.oneCell'=true) /\
      (Ez B q off ((C,E)::r)).flatten=q.drop off/\(Ez B q off ((C,E)::r)).length=((C,E)::r).length/\off<=q.length /\
      (∀k f p,((C,E)::r)[k]?=some f->(Ez B q off ((C,E)::r))[k]?=some p->f.1=off+((Ez B q off ((C,E)::r)).take k).flatten.length/\(∃ti,lk B f.2=some ti/\p.length=ti.size)) /\
      (∀k x,k<((C,E)::r).length->CP parts (i+k)=some x->∃f ti,((C,E)::r)[k]?=some f/\lk B f.2=some ti/\(a.eval x).cells.size=ti.size) by
      rw[W];refine⟨λS m n=>?_,?_,by simp[h3],by omega,λk f p Q L=>?_,λk x n T=>?_⟩
      ·cases S with
       |nil=>simp at m
       |cons p S=>
        have h0:=n 0 p O;simp only[Gs,zem,Ci]at h0;let⟨r1,r2⟩:=hc p h0;let⟨r3,r4⟩:=h1 S (by simpa using m) (λR b hs'=>by
         have:=n (R+1) b (by simpa using hs');rw[show i+(R+1)=i+1+R by omega]at this;simpa using this)
        refine⟨by rw[LO];exact pS r1 r3,λu hu=>?_⟩;rw[LO]at hu;rcases B2.1 hu with hu|hu
        ·exact r2 u hu
        ·exact r4 u hu
      ·rw[LO,h2,<- Ym,fM]
      ·cases k with
       |zero=>
        simp at Q L;subst Q;subst L;exact⟨by simp[F],ti,w,by simp;omega⟩
       |succ k=>
        let⟨e,g⟩:=h5 k f p (by simpa using Q) (by simpa using L);refine⟨?_,g⟩;rw[e,List.take_succ_cons,LO,AZ];simp only[Gt,Jg];omega
      ·cases k with
       |zero=>exact⟨(C,E),ti,rfl,w,P x (by simpa using T)⟩
       |succ k=>
        let⟨f,ti',e,g,q3⟩:=h6 k x (by simpa using n) (by rw[show i+1+k=i+(k+1) by omega];exact T);exact⟨f,ti',by simpa using e,g,q3⟩)
    split at h
    ·rename_i x A
     split at h
     ·rename_i d hd
      split at h
      ·rename_i c o' hch;cases h;let⟨hp1,hp2⟩:=BL s;let⟨e,g,q3⟩:=zha hch (T i x A d hd) hp1;exact J hp2 c (λp L=>by rw[L.1 x A];exact⟨e,q3⟩) (λy j=>by rw[A]at j;cases j;exact g)
      ·cases h
     ·cases h
    ·rename_i A
     split at h
     ·rename_i ds hds;cases h;let⟨e1,e2⟩:=Kz hds;refine J s _ (λp L=>?_) (λy j=>by rw[A]at j;cases j);rw[<- L.2 A,e1];exact⟨qX (l.dropTake off ti.size),λu hu=>N u (Vk (PU hu))⟩
     ·cases h
   ·cases h
  ·cases h
def Hl:∀{parts:R0} {i:Nat} {x:Operand},CP parts i=some x->(i,x)∈parts
 |[],_,_,h=>by simp[CP]at h
 |(j,y)::r,i,x,h=>by simp only[CP]at h;split at h;rename_i p;cases h;have:=CU p;simp[this];exact Gr _ (Hl h)
def HS:∀{parts:R0} {i:Nat},CP parts i=none->∀x,(i,x)∉parts
 |[],_,_,x=>by simp
 |(j,y)::r,i,h,x=>by simp only[CP]at h;split at h;cases h;rename_i p;intro q;rcases Ck.1 q with e|e;cases e;simp at p;exact HS h x e
def P9 {n:Nat}:∀{parts:R0},PC n parts=true->(∀p∈parts,p.1<n)/\(∀i x y,(i,x)∈parts->(i,y)∈parts->x=y)
 |[],_=>⟨by simp,by simp⟩
 |(j,z)::r,h=>by simp only[PC]at h;split at h;rename_i A B;let⟨C,D⟩:=P9 h;have u:j<n:=by{simpa[JO]using A};have q:=HS B;refine⟨λp E=>?_,λi x y G H=>?_⟩;rcases Ck.1 E with e|e;subst e;exact u;exact C p e;rcases Ck.1 G with e|e<;>rcases Ck.1 H with e'|e';cases e;cases e';rfl;cases e;exact absurd e' (q y);cases e';exact absurd e (q x);exact D i x y e e';cases h
end
section
variable {B:TT} {I:U} {μ:Mu} {st:St} {env:Env} {d:D}
def Od {α β:Type} (f:α->Sem β) (g:α->β):∀l:L1 α,(∀x∈l,(f x).run P w=.ok (g x) w)->(l.mapM f).run P w=.ok (l.map g) w
 |[],_=>by simp
 |x::l,h=>by rw[zel];simp only[aj,h x (by simp),ah,Od f g l (λy p=>h y (by simp[p])),am,C0]
def UA (f:α->Sem β) (g:α->β) (l:Array α) (h:∀x∈l.toList,(f x).run P w=.ok (g x) w):(l.mapM f).run P w=.ok (l.map g) w:=by obtain⟨l⟩:=l;rw[List.mapM_toArray];simp only[Sem.run_map,Od f g l h,ah,PS]
def WJ (h:0<P.cellsOf t):(sizeOf t).run P w=.ok (P.cellsOf t) w:=by unfold Program.cellsOf at *;cases p:P.info? t with|none=>simp[p]at h|some q=>{simp[sizeOf,typeInfo,p]}
def FS:∀(parts:L1 (Nat×Value)) (h:K1),(parts.foldl (λs p=>s.set p.1 p.2.cells.toList) h).length=h.length
 |[],_=>rfl
 |p::r,h=>by rw[LP,FS r];simp
def cm:=@run_program
def af:=@congrArg
def zgr (m:TTok P B) (n:StRep I μ st aa w) (ho:o.op=.build t ps) (hop:EN I μ env a o.op) (h:Ge (Ix B C env st o.op)=some (d,ob)) (r:A8 ob):IJ P I μ st aa w d ((execOp a.eval o).run P w):=by rw[ho]at hop h;simp only[execOp,ho];obtain⟨parts⟩:=ps;simp only[Ix]at h;split at h;rename_i J agg size bytes z hl;have hty:=m t _ hl;obtain⟨inf,W,hi1,_,_,hi4,hi5,hi6⟩:=hty.info;let⟨D,hu,hmap,hpos⟩:=m.sh hl;have hz:=hi5 I μ;have F:∀i x,CP parts i=some x->∀d,EM env x=some d->X I μ (a.eval x) d:=λi x hx=>hop x (by{have:=Hl hx;simp only[Op.operands];exact C7.2 ⟨(i,x),this,rfl⟩});have L:∀b K,RJ B env z parts 0 0 J=some (b,K)->PC J.length parts=true->A8 K->∃A:Array Value,(Instr.build t (parts.toArray.map λ(p:Nat×Operand)=>(p.1,a.eval p.2))).run P w=.ok (.agg A) w/\RL I μ A.toList b/\∀u∈A.toList,u.oneCell'=true:=by{intro b K Q G ho';let⟨h1,h2,h3,_,h5,h6⟩:=Ws (a:=a) hz hi6 F J 0 0 b K Q ho';let⟨hp1,hp2⟩:=P9 G;have R:(Ez B W.cells.toList 0 J).flatten=W.cells.toList:=by{rw[h2];rfl};have hsz:∀f∈D.toList,(do pure (f.offset,<- sizeOf f.type):Sem (Nat×Nat)).run P w=.ok (f.offset,P.cellsOf f.type) w:=λf hf=>by{simp only[aj,WJ (hpos f hf),ah,am]};have N:=UA (P:=P) (w:=w) (λf:Field=>(do pure (f.offset,<- sizeOf f.type):Sem (Nat×Nat))) (λf=>(f.offset,P.cellsOf f.type)) D hsz;have e:∀i E,(Ez B W.cells.toList 0 J)[i]?=some E->(D.map λf=>(f.offset,P.cellsOf f.type))[i]?=some (((Ez B W.cells.toList 0 J).take i).flatten.length,E.length):=by{intro i E hs;have T:i<J.length:=by{rw[<- h3];exact(A9.1 hs).1};obtain⟨f0,hf0⟩:∃f,J[i]?=some f:=⟨_,Bq T⟩;let⟨g,ti,H,S⟩:=h5 i f0 E hf0 hs;have hf:=hf0;rw[<- hmap,Ct,EV]at hf;obtain⟨fld,R,j⟩:=hf;rw[Array.getElem?_map,<- Vi,R,HX];have e1:f0.1=fld.offset:=by{rw[<- j]};have e2:f0.2=fld.type:=by{rw[<- j]};rw[e2]at H;rw[BS]at g;rw[<- e1,g,(m _ _ H).cellsOf,S]};have hq:∀p∈(parts.map λ(p:Nat×Operand)=>(p.1,a.eval p.2)),∃E,(Ez B W.cells.toList 0 J)[p.1]?=some E/\p.2.cells.size=E.length:=by{intro p hp;obtain⟨⟨i,x⟩,hm,rfl⟩:=C7.1 hp;have T:=hp1 _ hm;simp only at T ⊢;have l:i<(Ez B W.cells.toList 0 J).length:=by{rw[h3];exact T};refine⟨_,Bq l,?_⟩;cases hfp:CP parts i with|none=>exact absurd hm (HS hfp x)|some y=>{have:=hp2 i x y hm (Hl hfp);subst this;let⟨f,ti,r1,r2,r3⟩:=h6 i x T (by rw[BS];exact hfp);let⟨_,ti',r4,r5⟩:=h5 i f _ r1 (Bq l);rw[r2]at r4;cases r4;rw[r3,r5]}};have V:=N8 (λi=>(D.map λf=>(f.offset,P.cellsOf f.type))[i]?) (parts.map λ(p:Nat×Operand)=>(p.1,a.eval p.2)) _ e hq;rw[R]at V;refine⟨(((parts.map λ(p:Nat×Operand)=>(p.1,a.eval p.2)).foldl (λs p=>s.set p.1 p.2.cells.toList) (Ez B W.cells.toList 0 J)).flatten).toArray,?_,?_⟩;simp only[Instr.build,aj,zeroValue,typeInfo,cm,ah,hi1,hi4,am,ak hu,N];simp only[PS];rw[show W.cells=W.cells.toList.toArray from rfl,V];rfl;rw[Mt];refine h1 _ (by rw[FS,h3]) λk E hs=>?_;let⟨r1,r2⟩:=JR _ _ k E hs;rw[BS];refine⟨λx hx=>?_,λhx=>?_⟩;refine r1 (a.eval x) (C7.2 ⟨(k,x),Hl hx,rfl⟩) λu hu=>?_;let⟨⟨k',y⟩,hm,j⟩:=C7.1 hu;simp only[AN]at j;obtain⟨rfl,rfl⟩:=j;rw[hp2 k' x y (Hl hx) hm];refine r2 λv hv=>?_;let⟨⟨k',y⟩,hm,j⟩:=C7.1 hv;simp only[AN]at j;obtain⟨rfl,rfl⟩:=j;exact HS hx y hm};split at h<;>simp only[Ge,Ci,AN,reduceCtorEq]at h;rename_i xs K Q G;obtain⟨rfl,rfl⟩:=h;let⟨A,g,H,S⟩:=L _ _ Q G r;exact Bi n (AE g) (.imm _ _ (.agg _ _ (by simpa using H.1) S (λi c x p q=>H.2 i c x (by simpa using p) q)));rename_i ds K Q G;obtain⟨rfl,rfl⟩:=h;let⟨A,g,H,S⟩:=L _ _ Q G r;exact Bi n (AE g) (.agg _ _ (by simpa using H.1) S (λi c x p q=>H.2 i c x (by simpa using p) q));rename_i K Q G;obtain⟨rfl,rfl⟩:=h;let⟨A,g,H,S⟩:=L _ _ Q G r;have H:A.toList=[]:=H;exact Bi n (AE g) (.imm _ _ (.agg _ _ (by have:=af List.length H;simpa using this) S (λi c x p q=>by simp at q)));cases h
def VY {e:L1 V} {o:L1 Prop} (h:Hk.elemOf sz d=some (e,o)) (p:X I μ v d) (L:A8 o):RepVL I v.cells.toList e/\v.cells.size=sz/\e.length=sz/\∀u∈v.cells.toList,u.oneCell'=true:=by unfold Hk.elemOf at h;split at h;cases h;obtain⟨cs,rfl,q,A⟩:=p.aggInv;have B:_=sz:=L.1;exact⟨q,by simp[Value.cells];rw[<- B,<- q.1];simp,B,A⟩;cases h;{rename_i x E G;split at h;{rename_i H;cases h;(have J:x.one=true:=by{cases x<;>first|rfl|exact absurd rfl (E _)|exact absurd rfl (G _)});have q:=p.immInv.one J;have:=CU H;rw[HH q];exact⟨.mk p.immInv .nil,by simp[this],by simp[this],by simpa using q⟩};cases h};split at h;rename_i H;cases h;have:=CU H;cases p;exact⟨.mk .slnil .nil,by simp[this,Value.cells],by simp[this],by simp[Value.cells,Value.oneCell']⟩;cases h;rename_i ds;split at h;rename_i C W;cases h;obtain⟨cs,rfl,q,A⟩:=p.aggDInv;have B:_=sz:=L.1;have a:∀{vs:L1 Value} {ds:L1 D} {C:L1 V},H2 ds=some C->RepL I μ vs ds->RepVL I vs C:=by{intro vs;induction vs with|nil=>{intro ds C h p;cases ds with|nil=>cases h;exact .nil|cons d ds=>{simp[RepL]at p}}|cons v vs N=>{intro ds C h p;cases ds with|nil=>simp[RepL]at p|cons d ds=>{obtain⟨q,A⟩:=p.cons;cases d<;>simp only[H2,reduceCtorEq]at h;split at h;rename_i b z;cases h;exact .mk q.immInv (N z A);cases h;split at h;rename_i b z;cases h;cases q;exact .mk .slnil (N z A);cases h}}};have T:=a W q;exact⟨T,by simp[Value.cells];rw[<- B,<- T.1];simp,B,A⟩;cases h;cases h
def MK {sz:Nat} (m:C):∀(parts:R0) (i:Nat) (es:G1) (o:L1 Prop),JT C env sz i parts=some (es,o)->A8 o->(∀p∈parts,∀d,EM env p.2=some d->X I μ (a.eval p.2) d)->es.length=parts.length/\(∀(k:Nat) (p:Nat×Operand),parts[k]?=some p->p.1=i+k)/\(∀(k:Nat) (p:Nat×Operand) (e:L1 V),parts[k]?=some p->es[k]?=some e->RepVL I (a.eval p.2).cells.toList e/\(a.eval p.2).cells.size=sz/\e.length=sz/\∀u∈(a.eval p.2).cells.toList,u.oneCell'=true)
 |[],i,es,o,h,_,_=>by cases h;exact⟨rfl,by simp,by simp⟩
 |(j,x)::r,i,es,o,h,n,W=>by simp only[JT]at h;have G:∀d e D q B,Nat.beq i j=true->Hk.elemOf sz d=some (e,D)->JT C env sz (i+1) r=some (q,B)->X I μ (a.eval x) d->A8 D->A8 B->(e::q).length=((j,x)::r).length/\(∀(k:Nat) (p:Nat×Operand),((j,x)::r)[k]?=some p->p.1=i+k)/\(∀(k:Nat) (p:Nat×Operand) (H:L1 V),((j,x)::r)[k]?=some p->(e::q)[k]?=some H->RepVL I (a.eval p.2).cells.toList H/\(a.eval p.2).cells.size=sz/\H.length=sz/\∀u∈(a.eval p.2).cells.toList,u.oneCell'=true):=by{intro d e D q B J L z s N T;let⟨t,v,w⟩:=MK m r (i+1) q B z T (λp A=>W p (by simp[A]));have b:=CU J;refine⟨by simp[t],λk p A=>?_,λk p H A E=>?_⟩;cases k with|zero=>simp at A;subst A;simp[b]|succ k=>{have:=v k p (by simpa using A);omega};cases k with|zero=>simp at A E;subst A;subst E;exact VY L s N|succ k=>{exact w k p H (by simpa using A) (by simpa using E)}};split at h;rename_i c w' f J g;split at h;rename_i e D q B L z;cases h;obtain⟨y,l⟩:=n;let⟨N,T⟩:=BL l;exact G f e D q B J L z ((W (j,x) (by simp) _ g).guardInv (y m)) N T;cases h;rename_i f F J g;split at h;rename_i e D q B L z;cases h;let⟨N,T⟩:=BL n;exact G f e D q B J L z (W (j,x) (by simp) _ g) N T;cases h;cases h
end
section
variable {B:TT} {I:U} {μ:Mu} {st:St} {env:Env} {d:D}
def StRep.allocI (p:StRep I μ st aa w) (o:Obj):∃B,B  w.heap.size=some o/\I.le B/\StRep B μ st aa (w.alloc o)/\Ext I μ st w B μ st (w.alloc o):=by have z:I w.heap.size=none:=by{cases h:I w.heap.size with|none=>rfl|some A=>{have:=p.imm _ _ h;rw[Array.getElem?_eq_none (BO _)]at this;cases this}};have q:∀b,b<w.heap.size->(w.alloc o).heap[b]?=w.heap[b]?:=λb u=>DB w o u;have E:∀b A,w.heap[b]?=some A->b<w.heap.size:=λb A h=>(GS.1 h).1;have x:I.le (λb=>if b=w.heap.size then some o else I b):=λb A h=>by{have:b≠w.heap.size:=λe=>by{rw[e,z]at h;cases h};simp[this,h]};refine⟨λb=>if b=w.heap.size then some o else I b,by simp,x,?_,?_⟩;refine { imm:=λb A h=>?_,blk:=λid blk C=>?_,apart:=λid blk g b C H u=>?_,inj:=p.inj,nodup:=p.nodup,idsFree:=p.idsFree };by_cases u:b=w.heap.size;subst u;simp at h;subst h;exact Fi w o;simp[u]at h;have:=p.imm _ _ h;rw[q b (E b _ this)];exact this;let⟨g,D,G⟩:=p.blk id blk C;exact⟨g,D,(G.mono x (Mu.le_refl μ)).world (λb u=>q b (p.apart id blk g b C D u).2)⟩;let⟨D,G⟩:=p.apart id blk g b C H u;have:b≠w.heap.size:=by{omega};exact⟨by simp[this,D],by simp;omega⟩;have J:∀b,b<w.heap.size->¬AX μ st b->(if b=w.heap.size then some o else I b)=I b:=λb u _=>ac (by omega);exact { imm:=x,os:=rfl,tape:=rfl,output:=rfl,size:=by simp,block:=λb u _=>q b u,fresh:=λb _ h=>h,old:=J }
def CO {α:Type} {sz:Nat}:∀{es:L1 (L1 α)},(∀e∈es,e.length=sz)->∀i e j x,es[i]?=some e->e[j]?=some x->es.flatten[i*sz+j]?=some x
 |[],_,i,e,j,x,h,_=>by simp at h
 |c::es,q,i,e,j,x,h,p=>by have u:=q c (by simp);cases i with|zero=>simp at h;subst h;rw[Nat.zero_mul,BS,LO,KD (A9.1 p).1];exact p|succ i=>{rw[LO,Jf (by rw[JN];omega),u,JN];rw[show i*sz+sz+j-sz=i*sz+j by omega];exact CO (λe z=>q e (by simp[z])) i e j x (by simpa using h) p}
def Ig {α:Type} (sz:Nat):Nat->L1 α->L1 (L1 α)
 |0,_=>[]
 |n+1,l=>l.take sz::Ig sz n (l.drop sz)
def Pe {α:Type} (sz:Nat):∀(n:Nat) (l:L1 α),l.length=n*sz->(Ig sz n l).flatten=l/\(Ig sz n l).length=n/\(∀c∈Ig sz n l,c.length=sz)
 |0,l,h=>by have:l=[]:=Iu (by simpa using h);subst this;exact⟨rfl,rfl,by simp[Ig]⟩
 |n+1,l,h=>by rw[JN]at h;let⟨p,q,u⟩:=Pe sz n (l.drop sz) (by simp;omega);refine⟨by simp[Ig,p],by simp[Ig,q],λc x=>?_⟩;rcases Ck.1 x with e|e;subst e;simp;omega;exact u c e
def BF {α:Type} {sz:Nat}:∀{es:L1 (L1 α)},(∀e∈es,e.length=sz)->es.flatten.length=es.length*sz
 |[],_=>by simp
 |c::es,h=>by have p:=h c (by simp);rw[LO,AZ,p,BF (λe q=>h e (by simp[q])),Co,JN];omega
def zm1 (J:StRep I μ st aa w) (e:TypeId) (sz:Nat) (R:K1) (es:G1) (T:R.length=es.length) (W:∀c∈R,c.length=sz) (L:∀c∈es,c.length=sz) (z:∀(k:Nat) (c:L1 Value) (x:L1 V),R[k]?=some c->es[k]?=some x->RepVL I c x/\∀u∈c,u.oneCell'=true) (cap:Nat) (B:es.length<=cap) (b:cap<=maxLen) (h:L1 Value):∃C,StRep C μ st aa (w.alloc (.cells (R.flatten++h).toArray e))/\X C μ (.slice (some ⟨w.heap.size,0,none⟩) es.length cap) (.imm (.sl es))/\Ext I μ st w C μ st (w.alloc (.cells (R.flatten++h).toArray e)):=by let⟨C,d,f,g,l⟩:=J.allocI (.cells (R.flatten++h).toArray e);refine⟨C,g,.imm _ _ (.sl w.heap.size 0 es.length cap sz es (λi j=>(R.flatten)[i*sz+j]?.getD undef) O B b L ?_ ?_),l⟩;intro i N j x D G;have A:i<R.length:=by{rw[T];exact(A9.1 D).1};have p:R[i]?=some R[i]:=Bq A;let⟨H,a⟩:=z i R[i] N p D;have q:j<R[i].length:=by{rw[H.1];exact(A9.1 G).1};have E:=CO W i R[i] j R[i][j] p (Bq q);rw[E];refine⟨?_,a _ (KG q)⟩;unfold U.cell;rw[d];simp only[BS];rw[List.getElem?_toArray,KD (A9.1 E).1,E];rfl;intro i N j x D G;have A:i<R.length:=by{rw[T];exact(A9.1 D).1};have p:R[i]?=some R[i]:=Bq A;let⟨H,a⟩:=z i R[i] N p D;have q:j<R[i].length:=by{rw[H.1];exact(A9.1 G).1};have E:=CO W i R[i] j R[i][j] p (Bq q);rw[E];exact(H.2 j _ x (Bq q) G).mono f
def dh:=@run_newObj
def Xe (l:TTok P B) (hst:StRep I μ st aa w) (ho:o.op=.buildSlice t n ps) (m:EN I μ env a o.op) (hc:C) (h:Ge (Ix B C env st o.op)=some (d,ob)) (hob:A8 ob):IJ P I μ st aa w d ((execOp a.eval o).run P w):=by rw[ho]at m h;simp only[execOp,ho];obtain⟨parts⟩:=ps;simp only[Ix]at h;split at h;rename_i e agg size bytes z hl;split at h;rename_i i hi;split at h<;>simp only[Ge,Ci,AN,reduceCtorEq]at h;rename_i f o' hel hn r v;obtain⟨rfl,rfl⟩:=h;have j:=l e i hi;obtain⟨inf,zv,hi1,hi2,_,hi4,hi5,hi6⟩:=j.info;have hu:P.underlying t=some (.slice e):=l.sh hl;have y:n=parts.length:=CU hn;have hsz:0<i.size:=by{simpa[JO]using v};have hbig':n*i.size<=16777216:=zek r;let⟨q1,q2,q3⟩:=MK (a:=a) (I:=I) (μ:=μ) hc parts 0 f o' hel hob (λp L=>m p.2 (by simp only[Op.operands];exact C7.2 ⟨p,L,rfl⟩));obtain⟨A,hA,hA0,hA1⟩:∃A:L1 Value,A.length=n*i.size/\(n*i.size=0->(Array.range (n*i.size)).map (λk=>(#[]:Array Value)[k % (#[]:Array Value).size]!)=A.toArray)/\(n*i.size≠0->(Array.range (n*i.size)).map (λk=>zv.cells[k % zv.cells.size]!)=A.toArray):=by{by_cases G:n*i.size=0;exact⟨((Array.range (n*i.size)).map (λk=>(#[]:Array Value)[k % (#[]:Array Value).size]!)).toList,by simp,λ_=>rfl,λh=>absurd G h⟩;exact⟨((Array.range (n*i.size)).map (λk=>zv.cells[k % zv.cells.size]!)).toList,by simp,λh=>absurd h G,λ_=>rfl⟩};let⟨c1,c2,c3⟩:=Pe i.size n A hA;have hq:∀p∈(parts.map λ(p:Nat×Operand)=>(p.1,a.eval p.2)),∃H,(Ig i.size n A)[p.1]?=some H/\p.2.cells.size=H.length:=by{intro p L;obtain⟨q,hm,rfl⟩:=C7.1 L;let⟨k,J⟩:=HW hm;have h1:=q2 k q J;have N:k<parts.length:=(A9.1 J).1;have E:k<f.length:=by{rw[q1];exact N};let⟨_,r2,_,_⟩:=q3 k q f[k] J (Bq E);have g:q.1<(Ig i.size n A).length:=by{rw[c2];omega};exact⟨_,Bq g,by rw[r2,c3 _ (KG g)]⟩};have b:∀k H,(Ig i.size n A)[k]?=some H->some (k*i.size,i.size)=some (((Ig i.size n A).take k).flatten.length,H.length):=by{intro k H hs;have N:k<n:=by{rw[<- c2];exact(A9.1 hs).1};rw[BF (sz:=i.size) (λc T=>c3 c (PU T)),c3 H (AF hs)];rw[Gt,c2,PR (by omega)]};have D:=N8 (λk=>some (k*i.size,i.size)) (parts.map λ(p:Nat×Operand)=>(p.1,a.eval p.2)) _ b hq;rw[c1]at D;obtain⟨R,hR⟩:∃R,(parts.map λ(p:Nat×Operand)=>(p.1,a.eval p.2)).foldl (λs p=>s.set p.1 p.2.cells.toList) (Ig i.size n A)=R:=⟨_,rfl⟩;rw[hR]at D;have F:R.length=n:=by{rw[<- hR,FS,c2]};have K:∀(k:Nat) (c:L1 Value),R[k]?=some c->∃p,parts[k]?=some p/\c=(a.eval p.2).cells.toList:=by{intro k c J;have N:k<parts.length:=by{rw[<- y,<- F];exact(A9.1 J).1};have L:parts[k]?=some parts[k]:=Bq N;have h1:(parts[k]).1=k:=by{have:=q2 k _ L;omega};rw[<- hR]at J;let⟨r1,_⟩:=JR _ _ k c J;refine⟨_,L,r1 _ (C7.2 ⟨parts[k],KG N,by rw[h1]⟩) λu hu=>?_⟩;let⟨q,hm,he⟩:=C7.1 hu;simp only[AN]at he;let⟨k',V⟩:=HW hm;have:=q2 k' q V;have e:k'=k:=by{omega};subst e;rw[L]at V;have V:=JM V;rw[V,<- he.2]};have hRs:∀c∈R,c.length=i.size:=by{intro c T;let⟨k,J⟩:=HW T;obtain⟨p,L,rfl⟩:=K k c J;have E:k<f.length:=by{rw[q1];exact(A9.1 L).1};let⟨_,r2,_,_⟩:=q3 k p _ L (Bq E);simpa using r2};have W:n=f.length:=by{rw[q1,y]};let⟨I',s1,s2,s3⟩:=zm1 hst e i.size R f (by rw[F,W]) hRs (λc T=>by{let⟨k,J⟩:=HW T;have E:k<parts.length:=by{rw[<- q1];exact(A9.1 J).1};exact(q3 k _ c (Bq E) J).2.2.1}) (λk c x J hx=>by{obtain⟨p,L,rfl⟩:=K k c J;let⟨r1,_,_,r4⟩:=q3 k p x L hx;exact⟨r1,r4⟩}) f.length (BO _) (by{rw[<- W];have h1:n*1<=n*i.size:=zl4 n hsz;unfold maxLen;omega}) [];rw[JL]at s1 s3;have Q:(do pure (.value (<- Instr.buildSlice t n (parts.toArray.map λ(p:Nat×Operand)=>(p.1,a.eval p.2)))):Sem Next).run P w=.ok (.value (.slice (some ⟨w.heap.size,0,none⟩) n n)) (w.alloc (.cells R.flatten.toArray e)):=by{have S:¬n*i.size > 2 ^ 24:=by{omega};by_cases G:n*i.size=0;simp only[Instr.buildSlice,aj,ak hu,j.sizeOf w,ah,S,aw,am,ae G];rw[hA0 G,PS,D];simp only[newRow,aj,dh,ah,am];rfl;simp only[Instr.buildSlice,aj,ak hu,j.sizeOf w,ah,S,aw,am,ac G,zeroValue,typeInfo,cm,hi1,hi4];rw[hA1 G,PS,D];simp only[newRow,aj,dh,ah,am];rfl};unfold IJ;rw[Q];refine⟨I',s1,?_,s3⟩;rw[W];cases f with|nil=>exact .clip _ _ _ s2.immInv|cons=>{exact s2};cases h;cases h
end
section
variable {B:TT} {I:U} {μ:Mu} {st:St} {env:Env} {d:D}
def zgo (A:TTok P B) (J:StRep I μ st aa w) {x:Operand} {f g mx:Option Operand} (ho:o.op=.slice t x f g mx) (j:EN I μ env a o.op) (H:C) (h:Ge (Ix B C env st o.op)=some (d,ob)) (p:A8 ob):IJ P I μ st aa w d ((execOp a.eval o).run P w):=by rw[ho]at j h;simp only[execOp,ho];cases mx with|some m=>simp[Ix,Ge]at h|none=>{have n:=j x (by simp[Op.operands]);have D:∀y,f=some y->∀d,EM env y=some d->X I μ (a.eval y) d:=λy hy=>j y (by simp[Op.operands,hy]);have G:∀y,g=some y->∀d,EM env y=some d->X I μ (a.eval y) d:=λy hy=>j y (by simp[Op.operands,hy]);simp only[Ix]at h;let⟨dx,ox,q,k⟩:=BC h H n;clear h;have h:=q;clear q;split at h;rename_i s f g;let⟨r,v,q,L⟩:=BC h H (D _ rfl);clear h;let⟨db,E,h,hb⟩:=BC q H (G _ rfl);clear q;split at h<;>simp only[Ge,Ci,AN,reduceCtorEq]at h;rename_i l _ m _ _ _ _ N;obtain⟨rfl,rfl⟩:=h;obtain⟨z,p⟩:=p;let⟨q,p⟩:=BL p;let⟨T,h3⟩:=BL p;let⟨V,F,b3⟩:=z H;obtain⟨s,K,rfl⟩:=(k q).immInv.strInv;have W:=(L T).immInv.intInv;have e3:=(hb h3).immInv.intInv;have b:P.underlying t=some .string:=A.sh N;have:=Ma (P:=P) (w:=w) b s (some (a.eval f)) (some (a.eval g)) l.toNat m.toNat (by omega) (by rw[EA];omega) (.inr ⟨_,by rw[W,Sz V]⟩) (.inr ⟨_,by rw[e3,Sz (by omega)]⟩);rw[K];refine Bi J (AE (v:=.string (s.extract l.toNat m.toNat)) ?_) (.imm _ _ (.str _ _ (Jn _ _ _)));simpa using this;rename_i s f;let⟨r,v,q,L⟩:=BC h H (D _ rfl);clear h;have h:=q;clear q;split at h<;>simp only[Ge,Ci,AN,reduceCtorEq]at h;rename_i l _ _ _ _ N;obtain⟨rfl,rfl⟩:=h;obtain⟨z,p⟩:=p;let⟨q,T⟩:=BL p;let⟨V,F⟩:=z H;obtain⟨s,K,rfl⟩:=(k q).immInv.strInv;have W:=(L T).immInv.intInv;have b:P.underlying t=some .string:=A.sh N;have:=Ma (P:=P) (w:=w) b s (some (a.eval f)) none l.toNat s.size (by rw[EA];omega) (BO _) (.inr ⟨_,by rw[W,Sz V]⟩) (.inl ⟨rfl,rfl⟩);rw[K];refine Bi J (AE (v:=.string (s.extract l.toNat s.size)) ?_) (.imm _ _ (.str _ _ ?_));simpa using this;rw[Jn,CA];rw[Jg,EA];omega;rename_i s g;let⟨r,v,q,L⟩:=BC h H (G _ rfl);clear h;have h:=q;clear q;split at h<;>simp only[Ge,Ci,AN,reduceCtorEq]at h;rename_i l _ _ _ _ N;obtain⟨rfl,rfl⟩:=h;obtain⟨z,p⟩:=p;let⟨q,T⟩:=BL p;let⟨V,F⟩:=z H;obtain⟨s,K,rfl⟩:=(k q).immInv.strInv;have W:=(L T).immInv.intInv;have b:P.underlying t=some .string:=A.sh N;have:=Ma (P:=P) (w:=w) b s none (some (a.eval g)) 0 l.toNat (AK _) (by rw[EA];omega) (.inl ⟨rfl,rfl⟩) (.inr ⟨_,by rw[W,Sz V]⟩);rw[K];refine Bi J (AE (v:=.string (s.extract 0 l.toNat)) ?_) (.imm _ _ (.str _ _ ?_));simpa using this;rw[Jn];simp;rename_i es f g;let⟨r,v,q,L⟩:=BC h H (D _ rfl);clear h;let⟨db,E,h,hb⟩:=BC q H (G _ rfl);clear q;split at h;rename_i l _ m e _ _ _ _ N;split at h<;>simp only[Ge,Ci,AN,reduceCtorEq]at h;rename_i i c;obtain⟨rfl,rfl⟩:=h;obtain⟨z,Q,p⟩:=p;let⟨q,p⟩:=BL p;let⟨T,h3⟩:=BL p;let⟨V,F,b3⟩:=z H;have W:=(L T).immInv.intInv;have e3:=(hb h3).immInv.intInv;have b:P.underlying t=some (.slice e):=A.sh N;let⟨u,R,S⟩:=Lz (P:=P) (w:=w) (k q).immInv l.toNat m.toNat (by omega) (by omega) b (A e i c) Q (some (a.eval f)) (some (a.eval g)) (.inr ⟨_,by rw[W,Sz V]⟩) (.inr ⟨_,by rw[e3,Sz (by omega)]⟩);exact Bi J (AE (by simpa using R)) (.imm _ _ S);cases h;rename_i es f;let⟨r,v,q,L⟩:=BC h H (D _ rfl);clear h;have h:=q;clear q;split at h;rename_i l e _ _ _ _ N;split at h<;>simp only[Ge,Ci,AN,reduceCtorEq]at h;rename_i i c;obtain⟨rfl,rfl⟩:=h;obtain⟨z,Q,p⟩:=p;let⟨q,T⟩:=BL p;let⟨V,F⟩:=z H;have W:=(L T).immInv.intInv;have b:P.underlying t=some (.slice e):=A.sh N;let⟨u,R,S⟩:=Lz (P:=P) (w:=w) (k q).immInv l.toNat es.length (by omega) (BO _) b (A e i c) Q (some (a.eval f)) none (.inr ⟨_,by rw[W,Sz V]⟩) (.inl ⟨rfl,rfl⟩);refine Bi J (AE (by simpa using R)) (.imm _ _ ?_);rwa [CA (by simp)]at S;cases h;rename_i es g;let⟨r,v,q,L⟩:=BC h H (G _ rfl);clear h;have h:=q;clear q;split at h;rename_i l e _ _ _ _ N;split at h<;>simp only[Ge,Ci,AN,reduceCtorEq]at h;rename_i i c;obtain⟨rfl,rfl⟩:=h;obtain⟨z,Q,p⟩:=p;let⟨q,T⟩:=BL p;let⟨V,F⟩:=z H;have W:=(L T).immInv.intInv;have b:P.underlying t=some (.slice e):=A.sh N;let⟨u,R,S⟩:=Lz (P:=P) (w:=w) (k q).immInv 0 l.toNat (AK _) (by omega) b (A e i c) Q none (some (a.eval g)) (.inl ⟨rfl,rfl⟩) (.inr ⟨_,by rw[W,Sz V]⟩);refine Bi J (AE (by simpa using R)) (.imm _ _ ?_);simpa using S;cases h;cases h}
def zgt (A:TTok P B) (q:StRep I μ st aa w) (p:EN I μ env a o.op) (E:C) (h:Ge (Ix B C env st o.op)=some (d,ob)) (z:A8 ob):IJ P I μ st aa w d ((execOp a.eval o).run P w):=by cases D:o.op with|move x=>rw[D]at p h;simp only[execOp,D];simp only[Ix]at h;let⟨H,J,h,G⟩:=BC h E (p x (by simp[Op.operands]));simp only[Ge,Ci,AN]at h;obtain⟨rfl,rfl⟩:=h;exact Bi q (by simp) (G z)|assign x=>rw[D]at p h;simp only[execOp,D];simp only[Ix]at h;let⟨H,J,h,G⟩:=BC h E (p x (by simp[Op.operands]));simp only[Ge,Ci,AN]at h;obtain⟨rfl,rfl⟩:=h;exact Bi q (by simp) (G z)|pick c x y=>exact zkl q D p E h z|build t ps=>exact zgr A q D p h z|buildSlice t n ps=>exact Xe A q D p E h z|load t x=>exact zkm A q D p E h z|nilCheck x=>exact iO q D p E h z|binOp L t x y N=>exact zgs A q D p E h z|unOp u t x=>exact zkk q D p E h z|convert s t x=>exact qB A q D p E h z|makeInterface t x=>exact RA A q D p E h z|makeFunc f T V=>exact iP q D p h|slice t x W b e=>exact zgo A q D p E h z|fieldAddr s x f=>exact bD A q D p E h z|field t x f=>exact zgq A q D p E h z|index t x y=>exact zgp A q D p E h z|extract x n=>exact qA q D p E h z|call c=>exact iQ A q D p E h z|_=>{rw[D]at h;simp[Ix,Ge]at h}
end
section
variable {B:TT} {I:U} {μ:Mu} {st au:St} {env:Env} {d:D}
def A1 {id:Nat} {blk p:Blk}:Aw ((id,some blk)::st) i p↔(i=id/\p=blk)\/(i≠id/\Aw st i p):=by unfold Aw;by_cases h:id=i;subst h;rw[A7];constructor;intro h;cases h;exact .inl ⟨rfl,rfl⟩;rintro (⟨_,rfl⟩|⟨h,_⟩);rfl;exact absurd rfl h;rw[AB _ _ h];constructor;intro q;exact .inr ⟨λe=>h e.symm,q⟩;rintro (⟨e,_⟩|⟨_,q⟩);exact absurd e.symm h;exact q
def B3 {id:Nat} {p:Blk}:Aw ((id,none)::st) i p↔i≠id/\Aw st i p:=by unfold Aw;by_cases h:id=i;subst h;rw[A7];constructor;intro h;cases h;rintro ⟨h,_⟩;exact absurd rfl h;rw[AB _ _ h];exact⟨λq=>⟨λe=>h e.symm,q⟩,λh=>h.2⟩
def Cx {o:Obj} (h:w.heap[b]?=some o):b<w.heap.size:=(GS.1 h).1
def StRep.allocO {id:Nat} (u:StRep I μ st (id::aa) w) (o:Obj) (g:Value) (a:∀k,Ek g k->k=w.heap.size) (blk:Blk) (N:∀B,μ.le B->BlkRep I B (w.alloc o) g blk):∃B,B id=some g/\μ.le B/\StRep I B ((id,some blk)::st) aa (w.alloc o)/\Ext I μ st w I B ((id,some blk)::st) (w.alloc o):=by have m:μ id=none:=u.idsFree id (by simp);have T:μ.le (λi=>if i=id then some g else μ i):=λi v h=>by{have:i≠id:=λe=>by{rw[e,m]at h;cases h};simp[this,h]};have E:∀b,b<w.heap.size->(w.alloc o).heap[b]?=w.heap[b]?:=λb N=>DB w o N;have p:∀i C A,i≠id->Aw st i C->(if i=id then some g else μ i)=some A->μ i=some A:=λi _ A z _ h=>by{rwa [ac z]at h};refine⟨λi=>if i=id then some g else μ i,by simp,T,?_,?_⟩;refine { imm:=λb r h=>?_,blk:=λi C D=>?_,apart:=λi C A b D x q=>?_,inj:=λi j C c A d b f s x H q G=>?_,nodup:=(Fr.1 u.nodup).2,idsFree:=λi f=>?_ };have:=u.imm _ _ h;rw[E b (Cx this)];exact this;rcases A1.1 D with⟨rfl,rfl⟩|⟨z,D⟩;exact⟨g,by simp,N _ T⟩;let⟨A,l,n⟩:=u.blk i C D;exact⟨A,by simp[z,l],(n.mono (U.le_refl I) T).world (λb N=>E b (u.apart i C A b D l N).2)⟩;rcases A1.1 D with⟨rfl,rfl⟩|⟨z,D⟩;simp at x;subst x;have q:=a _ q;subst q;refine⟨?_,by simp⟩;cases h:I w.heap.size with|none=>rfl|some r=>{have:=Cx (u.imm _ _ h);omega};let⟨l,n⟩:=u.apart i C A b D (p i C A z D x) q;exact⟨l,by simp;omega⟩;rcases A1.1 f with⟨rfl,rfl⟩|⟨V,J⟩<;>rcases A1.1 s with⟨rfl,rfl⟩|⟨W,L⟩;rfl;simp at x;subst x;have q:=a _ q;subst q;have:=(u.apart j c d _ L (p j c d W L H) G).2;omega;simp at H;subst H;have G:=a _ G;subst G;have:=(u.apart i C A _ J (p i C A V J x) q).2;omega;exact u.inj i j C c A d b J L (p i C A V J x) (p j c d W L H) q G;have z:i≠id:=λe=>(Fr.1 u.nodup).1 (e▸f);simp[z,u.idsFree i (by simp[f])];refine { imm:=U.le_refl I,os:=rfl,tape:=rfl,output:=rfl,size:=by simp,block:=λb N _=>E b N,fresh:=λb N t=>?_,old:=λ_ _ _=>rfl };obtain⟨i,C,A,D,x,q⟩:=t;rcases A1.1 D with⟨rfl,rfl⟩|⟨z,D⟩;simp at x;subst x;have:=a _ q;omega;exact⟨i,C,A,D,p i C A z D x,q⟩
def StRep.update (u:StRep I μ st aa w) {id:Nat} {blk blk':Blk} (H:Aw st id blk) (J:μ id=some g) (N:Ek g b) (s:w'.heap.size=w.heap.size) (T:w'.os=w.os) (V:w'.tape=w.tape) (D:w'.output=w.output) (p:∀k,k≠b->w'.heap[k]?=w.heap[k]?) (t:BlkRep I μ w' g blk'):StRep I μ ((id,some blk')::st) aa w'/\Ext I μ st w I μ ((id,some blk')::st) w':=by have E:AX μ st b:=⟨id,blk,g,H,J,N⟩;have q:∀i z,Aw ((id,some blk')::st) i z->∃x,Aw st i x:=λi z h=>by{rcases A1.1 h with⟨rfl,rfl⟩|⟨_,h⟩;exact⟨blk,H⟩;exact⟨z,h⟩};refine⟨{ imm:=λk o h=>?_,blk:=λi z h=>?_,apart:=λi z B k h A G=>?_,inj:=λi j z v B y k F K A W a c=>?_,nodup:=u.nodup,idsFree:=u.idsFree },?_⟩;have C:k≠b:=λe=>by{have:=(u.apart id blk g b H J N).1;rw[<- e,h]at this;cases this};rw[p k C];exact u.imm k o h;rcases A1.1 h with⟨rfl,rfl⟩|⟨C,h⟩;exact⟨g,J,t⟩;let⟨B,L,r⟩:=u.blk i z h;refine⟨B,L,r.world λk G=>p k λe=>?_⟩;exact C (u.inj i id z blk B g k h H L J G (e▸N));let⟨x,d⟩:=q i z h;let⟨L,r⟩:=u.apart i x B k d A G;exact⟨L,by omega⟩;let⟨x,f⟩:=q i z F;let⟨l,m⟩:=q j v K;exact u.inj i j x l B y k f m A W a c;refine { imm:=U.le_refl I,os:=T,tape:=V,output:=D,size:=by omega,block:=λk _ n=>p k λe=>n (e▸E),fresh:=λk _ P=>?_,old:=λ_ _ _=>rfl };obtain⟨i,z,B,h,A,G⟩:=P;let⟨x,d⟩:=q i z h;exact⟨i,x,B,d,A,G⟩
def kO (P:Program) (I:U) (μ:Mu) (st:St) (w:World) (d:D) (au:St) (ids':L1 Nat) (r:Result Next):Prop :=
 valR P r λv w'=>∃p h,StRep p h au ids' w'/\X p h v d/\μ.le h/\Ext I μ st w p h au w'
def QO {x:Operand} {k:D->EE} {q:EE} (h:RT env x k=q) (p:q≠.no) (u:∀d,EM env x=some d->X I μ (a.eval x) d):∃d,k d=q/\X I μ (a.eval x) d:=by unfold RT at h;split at h;exact absurd h.symm p;rename_i d z A;exact⟨d,h,u d A⟩;exact absurd h.symm p
def IO {cs:L1 D} {vs:Array Value} (h:w'.heap[b]?=some (.cells vs t (0,0))) (p:RepL I μ vs.toList cs) (q:∀v∈vs.toList,v.oneCell'=true) (u:cs.length=sz):BlkRep I μ w' (.pointer (some ⟨b,0,none⟩)) (Sx t sz cs):=by unfold Sx;split;rename_i z x;have:=L0 x p;exact⟨by rw[<- u,<- p.1,this.1],b,vs,rfl,h,this,q⟩;exact⟨u,b,vs,rfl,h,p,q⟩
def wN {blk:Blk} (h:zb5 t sz d=some (blk,ob)) (A:A8 ob) (u:X I μ v d) (p:w'.heap[b]?=some (.cells v.cells t (0,0))) :
  BlkRep I μ w' (.pointer (some ⟨b,0,none⟩)) blk:=by
 unfold zb5 at h
 split at h
 ·cases h;obtain⟨cs,rfl,q,B⟩:=u.aggInv;exact⟨A.1,b,cs,rfl,p,q,B⟩
 ·cases h
 ·rename_i x C D
  split at h
  ·rename_i z;cases h;have E:x.one=true:=by
    cases x<;>first|rfl|exact absurd rfl (C _)|exact absurd rfl (D _)
   have q:=u.immInv.one E;rw[HH q]at p;exact⟨by simp[CU z],b,_,rfl,p,.mk u.immInv .nil,by simpa using q⟩
  ·cases h
 ·split at h
  ·rename_i z;cases h;obtain⟨cs,rfl,q,B⟩:=u.aggDInv;exact IO p q B (CU z)
  ·cases h
 ·cases h
 ·cases h
 ·cases h
 ·rename_i V W H J L N T
  split at h
  ·rename_i z;cases h;have G:d.one=true:=by
    cases d<;>first
     |rfl
     |exact absurd rfl (H _)
     |exact absurd rfl (J _)
     |exact absurd rfl (L _)
     |exact absurd rfl (N _ _ _)
     |exact absurd rfl T
   have q:=u.one G;rw[HH q]at p;exact⟨by simp[CU z],b,_,rfl,p,.mk u .nil,by simpa using q⟩
  ·cases h
def J8 {cs:L1 D} (h:Nf d=some cs) (q:X I μ v d):RepL I μ v.cells.toList cs/\∀u∈v.cells.toList,u.oneCell'=true:=by unfold Nf at h;split at h;cases h;obtain⟨A,rfl,p,z⟩:=q.aggInv;exact⟨p.imm,z⟩;cases h;cases h;obtain⟨A,rfl,p,z⟩:=q.aggDInv;exact⟨p,z⟩;cases h;cases h;cases h;{rename_i B C E G H J;cases h;(have p:v.oneCell'=true:=by{cases d with|imm x=>{refine q.immInv.one ?_;cases x<;>first|rfl|exact absurd rfl (B _)|exact absurd rfl (C _)}|agg ds=>exact absurd rfl (E _)|tup ds=>exact absurd rfl (G _)|guard c w d=>exact absurd rfl (H _ _ _)|undef=>exact absurd rfl J|_=>{exact q.one O}});rw[HH p];exact⟨.mk q .nil,by simpa using p⟩}
end
section
variable {B:TT} {I:U} {μ:Mu} {st au:St} {env:Env} {d:D}
def H4 {i:TyI} (x:TyOk P t i) {vs:Array Value} {p:TypeId} (h:w.heap[b]?=some (.cells vs p (0,0))) (z:v.cells.size=i.size) (A:∀u∈v.cells.toList,u.oneCell'=true) (q:off+v.cells.toList.length<=vs.size):(Instr.storeAt t (.pointer (some ⟨b,off,none⟩)) v).run P w=.ok () (w.setRow b (vs.toList.take off++v.cells.toList++vs.toList.drop (off+v.cells.toList.length)).toArray):=by have:=run_storeCells_at (P:=P) b off p v.cells.toList 0 vs w h (by omega) A;simp only[Gs]at this;simp only[Instr.storeAt,Instr.sureAddr,aj,am,ah,storeVar,x.sizeOf w,z,ne_eq,not_true_eq_false,aw];simpa using this
def cw:=@Eq.symm
def br:=@setRow_size
def az:=@setRow_other
def b8:=@setRow_heap
def qD (htt:TTok P B) (r:StRep I μ st aa w) (T:EN I μ env a o.op) (h:qE B env st aa o.op=.e d au ids' ob) (F:A8 ob):kO P I μ st w d au ids' ((execOp a.eval o).run P w):=by
 have alloc:∀(id:Nat) (H:L1 Nat) (blk:Blk) (t:TypeId) (cs:Array Value),aa=id::H ->
   (∀G,μ.le G->BlkRep I G (w.alloc (.cells cs t)) (.pointer (some ⟨w.heap.size,0,none⟩)) blk) ->
   ∃I' G,StRep I' G ((id,some blk)::st) H (w.alloc (.cells cs t))/\X I' G (.pointer (some ⟨w.heap.size,0,none⟩)) (.ref id 0)/\μ.le G /\
    Ext I μ st w I' G ((id,some blk)::st) (w.alloc (.cells cs t)):=by
  intro id H blk t cs he hb;subst he;let⟨G,q1,q2,q3,q4⟩:=r.allocO (.cells cs t) (.pointer (some ⟨w.heap.size,0,none⟩)) (λ_ h=>cw h) blk hb;exact⟨I,G,q3,.ref _ _ _ q1,q2,q4⟩
 cases K:o.op with
 |box t x=>
  rw[K]at T h;simp only[qE]at h;let⟨d',h',hx⟩:=QO h (by simp) (T x (by simp[Op.operands]));clear h;have h:=h';clear h'
  split at h
  ·rename_i i id H s
   split at h<;>simp only[EE.e.injEq,reduceCtorEq]at h
   rename_i blk E hb;obtain⟨rfl,rfl,rfl,rfl⟩:=h;have L:(execOp a.eval o).run P w=.ok (.value (.pointer (some ⟨w.heap.size,0,none⟩))) (w.alloc (.cells (a.eval x).cells t)):=by
    simp[execOp,K,Instr.box,newVar,newRow]
   unfold kO;rw[L];exact alloc id H blk t _ O λG hle=>wN hb F (hx.mono (U.le_refl I) hle) (Fi w _)
  ·cases h
 |alloc t=>
  rw[K]at T h;simp only[qE]at h
  split at h
  ·rename_i i id H s
   split at h<;>simp only[EE.e.injEq,reduceCtorEq]at h
   rename_i V;obtain⟨rfl,rfl,rfl,rfl⟩:=h;obtain⟨inf,zv,hi1,_,_,hi4,hi5,hi6⟩:=(htt t i s).info;have L:(execOp a.eval o).run P w=.ok (.value (.pointer (some ⟨w.heap.size,0,none⟩))) (w.alloc (.cells zv.cells t)):=by
    simp[execOp,K,Instr.alloc,newVar,newRow,zeroValue,typeInfo,hi1,hi4]
   unfold kO;rw[L];exact alloc id H _ t _ O λG _=>IO (Fi w _) (hi5 I G) hi6 (CU V)
  ·cases h
 |store t p x=>
  rw[K]at T h;simp only[qE]at h;let⟨dp,h',hp⟩:=QO h (by simp) (T p (by simp[Op.operands]));clear h;let⟨dx,h,hx⟩:=QO h' (by simp) (T x (by simp[Op.operands]));clear h';have y:∀(id off:Nat) (i:TyI) (blk blk':Blk) (b:Nat) (vs:Array Value) (n:TypeId),Aw st id blk->μ id=some (.pointer (some ⟨b,0,none⟩))->lk B t=some i ->
    w.heap[b]?=some (.cells vs n (0,0))->a.eval p=.pointer (some ⟨b,off,none⟩)->(a.eval x).cells.size=i.size->(∀u∈(a.eval x).cells.toList,u.oneCell'=true)->off+(a.eval x).cells.toList.length<=vs.size ->
    (∀w',w'.heap[b]?=some (.cells (vs.toList.take off++(a.eval x).cells.toList++vs.toList.drop (off+(a.eval x).cells.toList.length)).toArray n (0,0))->BlkRep I μ w' (.pointer (some ⟨b,0,none⟩)) blk') ->
    kO P I μ st w .undef ((id,some blk')::st) aa ((execOp a.eval o).run P w):=by
   intro id off i blk blk' b vs n V hm s A hpv hsz h1 hfit hblk;have L:(execOp a.eval o).run P w=.ok .skip (w.setRow b (vs.toList.take off++(a.eval x).cells.toList++vs.toList.drop (off+(a.eval x).cells.toList.length)).toArray):=by
    simp only[execOp,K,hpv,aj,H4 (htt t i s) A hsz h1 hfit,ah,am]
   unfold kO;rw[L];let⟨q1,q2⟩:=r.update (id:=id) (blk:=blk) (blk':=blk') (g:=.pointer (some ⟨b,0,none⟩)) (b:=b) V hm rfl (w':=w.setRow b _) (br w b _) rfl rfl rfl (λk hk=>az w b k _ hk)
    (hblk _ (b8 w b vs _ n _ A))
   exact⟨I,μ,q1,.undef _,Mu.le_refl μ,q2⟩
  split at h
  ·rename_i id off i s;obtain⟨b,e1,e2⟩:=hp.refInv
   split at h
   ·rename_i n sz xs V;let⟨g,hg,W,b',vs,Q,A,C,N⟩:=r.blk id _ V;rw[e2]at hg;cases hg;cases Q;have R:vs.size=sz:=by rw[<- W,<- C.1];simp
    split at h
    ·rename_i ys hs;simp only[EE.e.injEq]at h;obtain⟨rfl,rfl,rfl,rfl⟩:=h;obtain⟨cs,ex,c,e⟩:=hx.aggInv;have f:ys.length=sz:=F.1;have S:sz=i.size:=CU hs;have J:cs.toList.length=sz:=by rw[c.1,f]
     have z:(a.eval x).cells=cs:=by rw[ex];rfl
     refine y id 0 i _ _ b vs n V e2 s A e1 (by rw[z,<- S,<- J];simp) (by rw[z];exact e) (by rw[z];omega) λw' D=>?_;rw[z]at D;have e3:(vs.toList.take 0++cs.toList++vs.toList.drop (0+cs.toList.length)).toArray=cs:=by
      rw[fN,Bu (by simp at J ⊢;omega)];simp
     rw[e3]at D;exact⟨f,b,cs,rfl,D,c,e⟩
    ·split at h
     ·rename_i cs J
      split at h<;>simp only[EE.e.injEq,reduceCtorEq]at h
      rename_i l hsp hlc;obtain⟨rfl,rfl,rfl,rfl⟩:=h;let⟨c,e⟩:=J8 J hx;let⟨s1,s2⟩:=JA hsp;have m:(a.eval x).cells.toList.length=cs.length:=c.1;rw[C6]at s2;refine y id _ i _ _ b vs n V e2 s A e1 (by have:=CU hlc;rw[<- this,<- m];simp) e (by omega) λw' D=>?_;rw[m]at D;refine IO D ?_ ?_ (by rw[s1];simp;omega)
      ·rw[Mt,s1];refine RepL.append (RepL.append ?_ c) ?_
       ·have:=C.imm (μ:=μ);exact⟨by simp[this.1,C.1],λj v d p q=>by
         rw[DO]at p q
         split at p
         ·rename_i hj;rw[ae hj]at q;exact this.2 j v d p q
         ·cases p⟩
       ·have:=C.imm (μ:=μ);exact⟨by simp at R ⊢;omega,λj v d p q=>by
         rw[EU]at p q;exact this.2 _ v d p q⟩
      ·intro u hu;rw[Mt]at hu;rcases B2.1 hu with hu|hu
       ·rcases B2.1 hu with hu|hu
        ·exact N u (PU hu)
        ·exact e u hu
       ·exact N u (Vk hu)
     ·cases h
   ·rename_i n sz ds V;let⟨g,hg,W,b',vs,Q,A,C,N⟩:=r.blk id _ V;rw[e2]at hg;cases hg;cases Q;have R:vs.size=sz:=by rw[<- W,<- C.1];simp
    split at h
    ·rename_i ys hs;simp only[EE.e.injEq]at h;obtain⟨rfl,rfl,rfl,rfl⟩:=h;obtain⟨cs,ex,c,e⟩:=hx.aggInv;have f:ys.length=sz:=F.1;have S:sz=i.size:=CU hs;have J:cs.toList.length=sz:=by rw[c.1,f]
     have z:(a.eval x).cells=cs:=by rw[ex];rfl
     refine y id 0 i _ _ b vs n V e2 s A e1 (by rw[z,<- S,<- J];simp) (by rw[z];exact e) (by rw[z];omega) λw' D=>?_;rw[z]at D;have e3:(vs.toList.take 0++cs.toList++vs.toList.drop (0+cs.toList.length)).toArray=cs:=by
      rw[fN,Bu (by simp at J ⊢;omega)];simp
     rw[e3]at D;exact⟨f,b,cs,rfl,D,c,e⟩
    ·split at h
     ·rename_i cs J
      split at h<;>simp only[EE.e.injEq,reduceCtorEq]at h
      rename_i l hsp hlc;obtain⟨rfl,rfl,rfl,rfl⟩:=h;let⟨c,e⟩:=J8 J hx;let⟨s1,s2⟩:=JA hsp;have m:(a.eval x).cells.toList.length=cs.length:=c.1;refine y id _ i _ _ b vs n V e2 s A e1 (by have:=CU hlc;rw[<- this,<- m];simp) e (by omega) λw' D=>?_;rw[m]at D;refine IO D ?_ ?_ (by rw[s1];simp;omega)
      ·rw[Mt,s1];refine RepL.append (RepL.append ?_ c) ?_
       ·exact⟨by simp[<- C.1],λj v d p q=>by
         rw[DO]at p q
         split at p
         ·rename_i hj;rw[ae hj]at q;exact C.2 j v d p q
         ·cases p⟩
       ·exact⟨by simp at R ⊢;omega,λj v d p q=>by
         rw[EU]at p q;exact C.2 _ v d p q⟩
      ·intro u hu;rw[Mt]at hu;rcases B2.1 hu with hu|hu
       ·rcases B2.1 hu with hu|hu
        ·exact N u (PU hu)
        ·exact e u hu
       ·exact N u (Vk hu)
     ·cases h
   ·cases h
  ·cases h
 |_=>rw[K]at h;simp[qE]at h
end
def Zb (P:Program):L1 Deferred->World->World->Prop
 |[],w,w'=>w'=w
 |d::ds,w,w'=>∃r h,d.target=.collected r/\(Instr.takeDeferred r).run P w=.ok [] h/\Zb P ds h w'
section
variable {b:Frame}
def JK:∀(ds:L1 Deferred) (w w':World) (fr:Frame),fr.mode≠.run->fr.defers=ds->Zb P ds w w'->Steps P (lone fr cs w) (lone { fr with defers:=[] } cs w')
 |[],w,w',fr,p,q,h=>by subst h;have:({ fr with defers:=[] }:Frame)=fr:=by{rw[<- q]};rw[this];exact Steps.refl _ _
 |d::ds,w,w',fr,p,q,⟨r,u,x,z,A⟩=>by have B:=step_collected (cs:=cs) p q x z;exact .head B (JK ds u w' { fr with defers:=[]++ds } p O A)
def Yj:∀(u:L1 Nat) (w:World),u.Nodup->(∀r∈u,w.heap[r]?=some (.deferred (some [])))->∃p,Zb P (u.map mkD) w p/\p.os=w.os/\p.tape=w.tape/\p.output=w.output/\p.heap.size=w.heap.size/\∀b,b∉u->p.heap[b]?=w.heap[b]?
 |[],w,_,_=>⟨w,rfl,rfl,rfl,rfl,rfl,λ_ _=>rfl⟩
 |r::u,w,G,h=>by let⟨A,B⟩:=Fr.1 G;have H:=h r (by simp);have C:=run_takeDeferred (P:=P) (b:=r) (ds:=[]) H;have J:w.putObj r (.deferred none)={ w with heap:=w.heap.setIfInBounds r (.deferred none) }:=by{unfold World.putObj;by_cases D:r<w.heap.size;simp[D];simp[D]};rw[J]at C;let⟨p,L,N,T,V,W,a⟩:=Yj u { w with heap:=w.heap.setIfInBounds r (.deferred none) } B (λE x=>by{have q:r≠E:=λe=>A (e▸x);rw[Hd q];exact h E (by simp[x])});refine⟨p,⟨r,_,rfl,C,L⟩,N,T,V,by rw[W];simp,λb z=>?_⟩;have q:r≠b:=λe=>z (by rw[e];simp);rw[a b (λc=>z (by simp[c])),Hd q]
def zgz (P:Program) (fc:Func) (R:Ending->World->Prop):Exit->Act->World->Prop
 |.normal,a,w|.ret,a,w=>∃w' v,Zb P a.defers w w'/\(results fc a.tmps).run P w'=.ok v w'/\R (.returned v) w'
 |.panic h,a,w=>∃w',Zb P a.defers w w'/\R (.panicked h) w'
 |_,_,_=>False
def bw:=@Steps.trans
def TH {f:FuncId} {fc:Func} {args:Array Value} (H:P.funcs[f]?=some fc) (T:fc.body=some c) (h:∀(b:Frame) (cs:L1 Frame),b.fn=f->b.kind=.normal->b.roundOf=none->Reach P b cs (zgz P fc R) [.code c] { tmps:=args++Array.replicate (fc.ntmps-args.size) undef,defers:=[] } w):Calls P f args w R:=by intro cs;obtain⟨b,z⟩:∃b:Frame,b={ (default:Frame)with fn:=f,kind:=.normal }:=⟨_,rfl⟩;have A:Frame.enter P f args .normal=b.atR { tmps:=args++Array.replicate (fc.ntmps-args.size) undef,defers:=[] } [.code c]:=by{subst z;simp[Frame.enter,Frame.atR,H,T];rfl};have u:b.fn=f:=by{rw[z]};have J:b.kind=.normal:=by{rw[z]};have C:b.roundOf=none:=by{rw[z];rfl};let⟨e,a',w',D,x⟩:=h b cs u J C;rw[<- A]at x;cases e with|normal=>{obtain⟨B,v,E,L,G⟩:=D;refine⟨.returned v,B,{ ({ b.atR a' []with mode:=.returning }:Frame)with defers:=[] },G,bw x (.head (stepR_end C) (JK a'.defers w' B { b.atR a' []with mode:=.returning } (by simp) O E)),u,rfl,rfl,J,fc,by rw[show({ ({ b.atR a' []with mode:=.returning }:Frame)with defers:=[] }:Frame).fn=f from u];exact H,L⟩}|ret=>{obtain⟨B,v,E,L,G⟩:=D;obtain⟨p,N⟩:=x;refine⟨.returned v,B,{ ({ b.atR a' (.code .ret::p)with mode:=.returning }:Frame)with defers:=[] },G,bw N (.head (stepR_ret C) (JK a'.defers w' B { b.atR a' (.code .ret::p)with mode:=.returning } (by simp) O E)),u,rfl,rfl,J,fc,by rw[show({ ({ b.atR a' (.code .ret::p)with mode:=.returning }:Frame)with defers:=[] }:Frame).fn=f from u];exact H,L⟩}|panic q=>{obtain⟨B,E,G⟩:=D;obtain⟨p,N⟩:=x;exact⟨.panicked q,B,{ ({ b.atR a' p with mode:=.panicking q }:Frame)with defers:=[] },G,bw N (JK a'.defers w' B { b.atR a' p with mode:=.panicking q } (by simp) O E),u,rfl,rfl,fc,by rw[show({ ({ b.atR a' p with mode:=.panicking q }:Frame)with defers:=[] }:Frame).fn=f from u];exact H⟩}|exit id=>exact D.elim|goto l=>exact D.elim|outgrown=>{exact D.elim}
def Tq {g:Operand} {ps:Array Tmp} {H D:Code} {mark:L1 Deferred} {E A G:World} {W:Deferred} {f:FuncId} {args:Array Value} (d:(Instr.enterLoop b.fn a.tmps ps H D b.roundOf).run P w=.ok (l,mark) E) (J:(resolve a.eval (rangeCall g l) 0).run P E=.ok W A) (L:(invoke W.target W.args).run P A=.ok (.enter f args) G) (h:Calls P f args G λe q=>match e with
   |.returned _=>∃B C,(Instr.endLoop l).run P q=.ok B C/\Reach P b cs Q ((B.map Item.code).toList++k) { a with defers:=mark++a.defers } C
   |.panicked p=>Q (.panic p) { a with defers:=mark++a.defers } q
   |.outgrown=>False):Reach P b cs Q (.code (.rangeFunc g ps H D)::k) a w:=by
 have u:=stepR_rangeFunc (P:=P) (b:=b) (a:=a) (k:=k) (cs:=cs) (w:=w) d J L;let⟨e,q,fr,c,x,_,z⟩:=h (b.atR { a with defers:=mark++a.defers } (.inRangeFunc l::k)::cs);cases e with
 |returned v=>
  obtain⟨B,C,N,i,a',T,j,V⟩:=c;refine⟨i,a',T,j,.of_steps (.head u (bw x (.head ?_ (.one (stepR_endRangeFunc N))))) V⟩;rw[<- finish_atR_inRangeFunc l v];exact dt z
 |panicked p=>
  refine⟨.panic p,_,q,c,.inRangeFunc l::k,.head u (bw x (.one ?_))⟩;rw[<- ct];exact cu z
 |outgrown=>exact c.elim
def zm5 (P:Program) (l:Nat) (R:Ending->World->Prop):Exit->Act->World->Prop
 |.normal,_,w=>∃v w',(Instr.endRound l none).run P w=.ok v w'/\R (.returned v) w'
 |.ret,_,w=>∃v w',(Instr.endRound l (some .ret)).run P w=.ok v w'/\R (.returned v) w'
 |.exit id,_,w=>∃v w',(Instr.endRound l (some (.exit id))).run P w=.ok v w'/\R (.returned v) w'
 |.goto t,_,w=>∃v w',(Instr.endRound l (some (.goto t))).run P w=.ok v w'/\R (.returned v) w'
 |.panic h,a,w=>a.defers=[]/\R (.panicked h) w
 |.outgrown,_,_=>False
def K7 {f:FuncId} {fc:Func} {tmps:Array Value} {z q:Code} (V:P.funcs[f]?=some fc) (h:∀(b:Frame) (cs:L1 Frame),b.fn=f->b.roundOf=some l->Reach P b cs (zm5 P l R) [.code z,.beginRound,.code q] { tmps:=tmps,defers:=[] } w):RoundIn Fence.wide 0 P l f tmps z q w R:=by refine⟨ab,λc cs _=>?_⟩;obtain⟨b,D⟩:∃b:Frame,b={ (default:Frame)with fn:=f,kind:=.normal,roundOf:=some l }:=⟨_,rfl⟩;have E:Frame.round l f tmps z q .normal=b.atR { tmps:=tmps,defers:=[] } [.code z,.beginRound,.code q]:=by{subst D;simp[Frame.round,Frame.atR]};have J:b.fn=f:=by{rw[D]};have N:b.kind=.normal:=by{rw[D]};have B:b.roundOf=some l:=by{rw[D]};let⟨e,a',w',H,u⟩:=h b (c::cs) J B;rw[<- E]at u;have ok:∀v A,R (.returned v) A->Steps P (lone (Frame.round l f tmps z q .normal) (c::cs) w) (lone (c.finish v) cs A)->∃e w',R e w'/\ComesIn (Machine.fenced P Fence.wide) P (lone (Frame.round l f tmps z q .normal) (c::cs) w) (match e with|.returned v=>lone (c.finish v) cs w'|.panicked x=>lone (c.raise x) cs w'|.outgrown=>lone c cs w') e:=λv A C G=>⟨.returned v,A,C,comesIn_wide.2 G⟩;cases e with|normal=>obtain⟨v,A,p,C⟩:=H;exact ok v A C (bw u (.one (stepR_round_end B N p)))|ret=>obtain⟨v,A,p,C⟩:=H;obtain⟨k,G⟩:=u;exact ok v A C (bw G (.one (stepR_round_ret B N p)))|exit id=>obtain⟨v,A,p,C⟩:=H;obtain⟨k,T,G⟩:=u;exact ok v A C (bw G (.one (stepR_round_exit B N T p)))|goto t=>obtain⟨v,A,p,C⟩:=H;obtain⟨k,T,G⟩:=u;exact ok v A C (bw G (.one (stepR_round_goto B N T p)))|panic x=>{obtain⟨W,C⟩:=H;obtain⟨L,G⟩:=u;exact⟨.panicked x,w',C,comesIn_wide.2 (bw G (.one (cu ⟨rfl,W,fc,by rw[show({ b.atR a' L with mode:=.panicking x }:Frame).fn=f from J];exact V⟩)))⟩}|outgrown=>{exact H.elim}
end
def TF:DI->Item->Prop
 |.code c,.code p=>p=c
 |.inBlock id,.inBlock q=>q=id
 |.inLoop c,.inLoop p=>p=c
 |.inScope c,.inScope p=>p=c
 |.ops all h,.inRegion u l=>u=all.toArray/\∃k,h=all.drop k/\l=List.range' k h.length
 |_,_=>False
def bW:L1 DI->L1 Item->Prop
 |[],[]=>True
 |d::ds,i::h=>TF d i/\bW ds h
 |_,_=>False
inductive DX where
 |norm
 |ret
 |exit (id:Nat)
 |goto (l:Nat)
 |panic (x:V)
def LJ (I:U):Exit->DX->Prop
 |.normal,.norm=>True
 |.ret,.ret=>True
 |.exit id,.exit p=>id=p
 |.goto l,.goto q=>l=q
 |.panic h,.panic x=>∃v,h=[{ v,recovered:=false }]/\M I v x
 |_,_=>False
abbrev DQ:=DX->Env->St->L1 Nat->Prop
def Pin (F:L1 Nat) (μ h:Mu):Prop:=∀i∈F,∀v,μ i=some v->h i=some v
def Pin.refl (F:L1 Nat) (μ:Mu):Pin F μ μ:=λ_ _ _ h=>h
def Pin.trans {a b c:Mu} (h:Pin F a b) (k:Pin F b c):Pin F a c:=λi p v q=>k i p v (h i p v q)
def Pin.of_le {a b:Mu} (h:a.le b):Pin F a b:=λi _ v p=>h i v p
def MG (h:L1 Deferred) (w:World) (ds:L1 Deferred):Prop:=∀r,mkD r∈ds->mkD r∈h\/w.heap.size<=r
def MG.refl (p:L1 Deferred) (w:World):MG p w p:=λ_ h=>.inl h
def Post (n:Nat) (F:L1 Nat) (Q:DQ) (h:L1 Deferred) (I:U) (μ:Mu) (st:St) (w:World) (e:Exit) (a':Act) (w':World):Prop :=
 ∃x q au ids' u p,LJ u e x/\Q x q au ids'/\Conc n u p q au ids' a' w'/\Pin F μ p/\Ext I μ st w u p au w'/\MG h w a'.defers
def XM:Nat:=1000000007
def FrO (P:Program) (F:L1 Nat):Type:={ b:Frame // XM∈F\/(b.roundOf=none/\∃h,P.funcs[b.fn]?=some h) }
def DGo (P:Program) (n:Nat) (F:L1 Nat) (Q:DQ) (p:L1 DI) (env:Env) (st:St) (aa:L1 Nat):Prop :=
 ∀(b:FrO P F) cs I μ a w h,bW p h->Conc n I μ env st aa a w->Reach P b.1 cs (Post n F Q a.defers I μ st w) h a w
section
variable {Q:DQ} {B:TT} {env:Env} {st:St} {k:L1 DI}
def Post.back {p:L1 Deferred} {I J:U} {μ ν:Mu} {st t:St} {x:World} {e:Exit} (A:Pin F μ ν) (z:Ext I μ st w J ν t x) (h:Post n F Q p J ν t x e a' w'):Post n F Q p I μ st w e a' w':=by obtain⟨B,q,au,ids',C,u,D,E,G,H,L,N⟩:=h;exact⟨B,q,au,ids',C,u,D,E,G,A.trans H,z.trans L,λr T=>(N r T).imp id λh=>zjq z.size h⟩
def DGo.mono {A:DQ} {p:L1 DI} (B:∀x env st aa,Q x env st aa->A x env st aa) (h:DGo P n F Q p env st aa):DGo P n F A p env st aa:=λb cs I μ a w u C D=>(h b cs I μ a w u C D).mono λ_ _ _ ⟨x,q,au,ids',E,z,G,H,J⟩=>⟨x,q,au,ids',E,z,G,B _ _ _ _ H,J⟩
def Jr {d:DI} {ds:L1 DI} {p:L1 Item} (h:bW (d::ds) p):∃i q,p=i::q/\TF d i/\bW ds q:=by cases p with|nil=>exact h.elim|cons i q=>{exact⟨i,q,rfl,h.1,h.2⟩}
def KU {ds:L1 DI} {p:L1 Item} (h:bW (.code c::ds) p):∃q,p=.code c::q/\bW ds q:=by obtain⟨i,q,rfl,u,x⟩:=Jr h;cases i<;>simp only[TF]at u;subst u;exact⟨q,rfl,x⟩
def jH {id:Nat} {ds:L1 DI} {p:L1 Item} (h:bW (.inBlock id::ds) p):∃q,p=.inBlock id::q/\bW ds q:=by obtain⟨i,q,rfl,u,x⟩:=Jr h;cases i<;>simp only[TF]at u;subst u;exact⟨q,rfl,x⟩
def jG {ds:L1 DI} {p:L1 Item} (h:bW (.inScope c::ds) p):∃q,p=.inScope c::q/\bW ds q:=by obtain⟨i,q,rfl,u,x⟩:=Jr h;cases i<;>simp only[TF]at u;subst u;exact⟨q,rfl,x⟩
def qO {ds:L1 DI} {p:L1 Item} (h:bW (.inLoop c::ds) p):∃q,p=.inLoop c::q/\bW ds q:=by obtain⟨i,q,rfl,u,x⟩:=Jr h;cases i<;>simp only[TF]at u;subst u;exact⟨q,rfl,x⟩
def JX {all rest:L1 Oper} {ds:L1 DI} {p:L1 Item} (h:bW (.ops all rest::ds) p):∃k q,p=.inRegion all.toArray (List.range' k rest.length)::q/\rest=all.drop k/\bW ds q:=by obtain⟨i,q,rfl,u,x⟩:=Jr h;cases i<;>simp only[TF]at u;obtain⟨rfl,k,z,rfl⟩:=u;exact⟨k,q,rfl,z,x⟩
def IU {id:Nat}:∀{ds q:L1 DI} {A:L1 Item},MN id ds=some q->bW ds A->∃p,exitTo id A=some p/\bW q p
 |[],q,A,h,_=>by simp[MN]at h
 |d::ds,q,A,h,J=>by obtain⟨i,A,rfl,u,B⟩:=Jr J;cases d with|inBlock E=>{cases i with|inBlock C=>have u:C=E:=u;subst u;simp only[MN]at h;split at h;rename_i G;cases h;have:=CU G;exact⟨A,by simp[exitTo,this],B⟩;rename_i G;have H:C≠id:=λe=>by{subst e;simp at G};let⟨p,x,z⟩:=IU h B;exact⟨p,by simp[exitTo,H,x],z⟩|_=>{exact u.elim}}|code c=>simp only[MN]at h;let⟨p,x,z⟩:=IU h B;cases i<;>simp only[TF]at u;exact⟨p,by simp[exitTo,x],z⟩|inLoop c=>simp only[MN]at h;let⟨p,x,z⟩:=IU h B;cases i<;>simp only[TF]at u;exact⟨p,by simp[exitTo,x],z⟩|inScope c=>simp only[MN]at h;let⟨p,x,z⟩:=IU h B;cases i<;>simp only[TF]at u;exact⟨p,by simp[exitTo,x],z⟩|ops all D=>simp only[MN]at h;let⟨p,x,z⟩:=IU h B;cases i<;>simp only[TF]at u;exact⟨p,by simp[exitTo,x],z⟩|dops all D L=>{cases i<;>simp only[TF]at u}
def Jq {k':L1 DI} (h:DGo P n F Q k' env st aa) (z:∀(b:Frame) cs I μ a w q,bW k q->Conc n I μ env st aa a w->∃p,bW k' p/\(Reach P b cs (Post n F Q a.defers I μ st w) p a w->Reach P b cs (Post n F Q a.defers I μ st w) (.code c::q) a w)):DGo P n F Q (.code c::k) env st aa:=by intro b cs I μ a w u A x;obtain⟨q,rfl,B⟩:=KU A;let⟨p,C,D⟩:=z b.1 cs I μ a w q B x;exact D (h b cs I μ a w p C x)
def zkv {x:Code} (h:DGo P n F Q (.code x::.code y::k) env st aa):DGo P n F Q (.code (.seq x y)::k) env st aa:=Jq h λ_ _ _ _ _ _ p q _=>⟨.code x::.code y::p,⟨rfl,rfl,q⟩,xT⟩
def Gu (h:DGo P n F Q k env st aa):DGo P n F Q (.code .skip::k) env st aa:=Jq h λ_ _ _ _ _ _ p q _=>⟨p,q,mF⟩
def zau (h:DGo P n F Q k env st aa):DGo P n F Q (.code (.label l)::k) env st aa:=Jq h λ_ _ _ _ _ _ p q _=>⟨p,q,eC⟩
def zav {id:Nat} (h:DGo P n F Q (.code c::.inBlock id::k) env st aa):DGo P n F Q (.code (.block id c)::k) env st aa:=Jq h λ_ _ _ _ _ _ p q _=>⟨.code c::.inBlock id::p,⟨rfl,rfl,q⟩,eD⟩
def zat (h:DGo P n F Q (.code c::.inScope c::k) env st aa):DGo P n F Q (.code (.scope c)::k) env st aa:=Jq h λ_ _ _ _ _ _ p q _=>⟨.code c::.inScope c::p,⟨rfl,rfl,q⟩,eB⟩
def qM (h:DGo P n F Q (.code c::.inLoop c::k) env st aa):DGo P n F Q (.inLoop c::k) env st aa:=by intro b cs I μ a w p q u;obtain⟨z,rfl,x⟩:=qO q;exact Z9 (h b cs I μ a w _ ⟨rfl,rfl,x⟩ u)
def Xh (h:DGo P n F Q (.inLoop c::k) env st aa):DGo P n F Q (.code (.loop c)::k) env st aa:=by intro b cs I μ a w G T V;obtain⟨B,rfl,W⟩:=KU T;have:=h b cs I μ a w (.inLoop c::B) ⟨rfl,W⟩ V;obtain⟨e,a',w',d,q⟩:=this;refine mG ?_;have f:step P (lone (b.1.atR a (.inLoop c::B)) cs w)=.next (lone (b.1.atR a (.code c::.inLoop c::B)) cs w):=stepR_inLoop;refine⟨e,a',w',d,?_⟩;have u:∀D,Steps P (lone (b.1.atR a (.inLoop c::B)) cs w) D->(D=lone (b.1.atR a (.inLoop c::B)) cs w)\/Steps P (lone (b.1.atR a (.code c::.inLoop c::B)) cs w) D:=by{rintro D ⟨j,E⟩;cases j with|zero=>simp[runN]at E;exact .inl E.symm|succ j=>{simp only[runN,f]at E;exact .inr ⟨j,E⟩}};have p:∀L N A,lone (b.1.atR L A) cs N=lone (b.1.atR a (.inLoop c::B)) cs w->A=.inLoop c::B:=by{intro L N A z;have:=af (λm:Machine=>(m.gs[0]?).map (·.frame.todo)) z;simpa[lone,Frame.atR]using this};cases e with|normal=>rcases u _ q with z|h';have:=p a' w' [] z;cases this;exact h'|ret=>obtain⟨A,x⟩:=q;rcases u _ x with z|h';have:=p _ _ _ z;cases this;exact⟨A,h'⟩|exit id=>obtain⟨A,H,x⟩:=q;rcases u _ x with z|h';have:=p _ _ _ z;cases this;exact⟨A,H,h'⟩|goto l=>obtain⟨A,H,x⟩:=q;rcases u _ x with z|h';have:=p _ _ _ z;cases this;exact⟨A,H,h'⟩|panic J=>obtain⟨C,x⟩:=q;rcases u _ x with z|h';have:=af (λm:Machine=>(m.gs[0]?).map (λg=>match g.frame.mode with|.run=>true|_=>false)) z;simp[lone,Frame.atR]at this;exact⟨C,h'⟩|outgrown=>{exact q.elim}
def ST {id:Nat} (h:DGo P n F Q k env st aa):DGo P n F Q (.inBlock id::k) env st aa:=by intro b cs I μ a w p q u;obtain⟨z,rfl,x⟩:=jH q;exact WR (h b cs I μ a w _ x u)
def jF (h:DGo P n F Q k env st aa):DGo P n F Q (.inScope c::k) env st aa:=by intro b cs I μ a w p q u;obtain⟨z,rfl,x⟩:=jG q;exact WQ (h b cs I μ a w _ x u)
def Az {id:Nat} {k':L1 DI} (q:MN id k=some k') (h:DGo P n F Q k' env st aa):DGo P n F Q (.code (.exit id)::k) env st aa:=Jq h λ_ _ _ _ _ _ _ u _=>let⟨p,x,z⟩:=IU q u;⟨p,z,mH x⟩
def qL {id:Nat} {ops:L1 Oper} (h:DGo P n F Q (.ops ops ops::k) env st aa):DGo P n F Q (.code (.region id ⟨ops⟩ false)::k) env st aa:=Jq h λ_ _ _ _ _ _ p q _=>⟨.inRegion ops.toArray (List.range' 0 ops.length)::p,⟨⟨rfl,0,rfl,rfl⟩,q⟩,λu=>Ll (by simpa[Yl]using u)⟩
def Wc {all:L1 Oper} (h:DGo P n F Q k env st aa):DGo P n F Q (.ops all []::k) env st aa:=by intro b cs I μ a w p q u;obtain⟨j,z,rfl,_,x⟩:=JX q;exact Gz (h b cs I μ a w _ x u)
def Aa {c:Operand} {x:Code} {t:Bool} (u:EM env c=some (.imm (.bool t))) (z:t=true->DGo P n F Q (.code x::k) env st aa) (A:t=false->DGo P n F Q (.code y::k) env st aa):DGo P n F Q (.code (.cond c x y)::k) env st aa:=by intro b cs I μ a w h B p;obtain⟨G,rfl,q⟩:=KU B;have C:a.eval c=.bool t:=(bE u (λD _ d E=>p.env D d E)).immInv.boolInv;refine mJ C ?_;cases t with|true=>exact z O b cs I μ a w _ ⟨rfl,q⟩ p|false=>{exact A O b cs I μ a w _ ⟨rfl,q⟩ p}
def Ag {c:Operand} {x:Code} {t:Bool} (p:EM env c=some (.imm (.bool t))) (q:t=false->DGo P n F Q (.code y::k) env st aa) (u:¬t=true:=by intro h;simp at h):DGo P n F Q (.code (.cond c x y)::k) env st aa:=Aa p (λh=>absurd h u) q
def Aq {c:Operand} {x:Code} {t:Bool} (p:EM env c=some (.imm (.bool t))) (q:t=true->DGo P n F Q (.code x::k) env st aa) (u:¬t=false:=by intro h;simp at h):DGo P n F Q (.code (.cond c x y)::k) env st aa:=Aa p q (λh=>absurd h u)
def Af (h:Q .ret env st aa):DGo P n F Q (.code .ret::k) env st aa:=by intro b cs I μ a w p q u;obtain⟨x,rfl,z⟩:=KU q;exact xU ⟨.ret,env,st,aa,I,μ,ab,h,u,.refl _ _,.refl _ _ _ _,.refl _ _⟩
def Bw (h:Q .norm env st aa):DGo P n F Q [] env st aa:=by intro b cs I μ a w p q u;cases p with|nil=>exact xV ⟨.norm,env,st,aa,I,μ,ab,h,u,.refl _ _,.refl _ _ _ _,.refl _ _⟩|cons=>{exact q.elim}
def EW {all rest:L1 Oper} (h:o::rest=all.drop j):all.toArray[j]?=some o/\rest=all.drop (j+1):=by have p:(all.drop j)[0]?=some o:=by{rw[<- h];rfl};rw[EU]at p;refine⟨by simpa using p,?_⟩;have:=af List.tail h;simpa[List.tail_drop]using this
def HN {I:U} {μ:Mu} {w:World} {d:D} (A:∀t d,lk env t=some d->X I μ (a.tmps.getD t undef) d) (u:a.tmps.size=n) (B:∀t,dst=some t->t<n) (C:X I μ v d):(∀t p,lk (match dst with|some t=>(t,d)::env|none=>env) t=some p->X I μ ((a.put dst v).tmps.getD t undef) p)/\(a.put dst v).tmps.size=n/\(a.put dst v).defers=a.defers:=by cases dst with|none=>exact⟨A,u,rfl⟩|some t=>{refine⟨λq p h=>?_,by simp[Act.put,u],rfl⟩;have x:=B t O;by_cases z:t=q;subst z;simp only[A7]at h;cases h;have:((a.tmps.setIfInBounds t v)[t]?.getD undef)=v:=by{simp[u,x]};simpa[Act.put,this]using C;simp only[AB _ _ z]at h;have:=A q p h;have e:(a.tmps.setIfInBounds t v)[q]?=a.tmps[q]?:=by{rw[Hd z]};simpa[Act.put,e]using this}
def Ca (dst:Option Nat) (d:D) (env:Env):Env:=match dst with
 |some t=>(t,d)::env
 |none=>env
def zpo {all rest:L1 Oper} {d:D} (J:∀c,o.op≠.defer c) (y:YD P all o env st d) (K:∀t,o.dst=some t->t<n) (h:DGo P n F Q (.ops all rest::k) (Ca o.dst d env) st aa):DGo P n F Q (.ops all (o::rest)::k) env st aa:=by intro b cs I μ a w L R A;obtain⟨j,l,rfl,S,hk⟩:=JX R;let⟨m,N⟩:=EW S;have T:LR (o.looksAt all.toArray) I μ env a:=λt _ d V=>A.env t d V;let⟨h1,h2⟩:=y I μ aa a w A.toStRep T;have cont:∀v w' q,StRep q μ st aa w'->X q μ v d->Ext I μ st w q μ st w'->Reach P b.1 cs (Post n F Q a.defers I μ st w) (.inRegion all.toArray (List.range' (j+1) rest.length)::l) (a.put o.dst v) w':=by{intro v w' q x z u;let⟨p1,p2,r⟩:=HN (n:=n) (w:=w') (dst:=o.dst) (λt d V=>(A.env t d V).mono u.imm (Mu.le_refl μ)) A.size K z;have:=h b cs q μ (a.put o.dst v) w' (.inRegion all.toArray (List.range' (j+1) rest.length)::l) ⟨⟨rfl,j+1,N,rfl⟩,hk⟩ {x with size:=p2,env:=by cases C:o.dst<;>simpa[Ca,C]using p1,defers:=by rw[r];exact A.defers.ext u };rw[r]at this;exact this.mono λe a' E hp=>hp.back (.refl _ _) u};have G:(o::rest).length=rest.length+1:=rfl;rw[G,Ms];by_cases W:Region.wanted o (yielded all.toArray a.tmps)=true;have B:=h1 W;refine Gq m W J ?_;unfold valR at B;unfold RU;split at B;rename_i v w' p;rw[p];obtain⟨q,x,z,u⟩:=B;exact cont v w' q x z u;rename_i w' p;rw[p];obtain⟨q,x,z,u⟩:=B;exact cont _ w' q x z u;rename_i f s w' p;rw[p];refine bc B λe E g=>?_;cases e with|returned v=>obtain⟨q,x,z,u⟩:=g;exact cont v E q x z u|panicked i=>exact g.elim|outgrown=>{exact g.elim};exact B.elim;have H:Region.wanted o (yielded all.toArray a.tmps)=false:=by{simpa using W};exact Lm m H<|cont undef w I A.toStRep (h2 H) (Ext.refl _ _ _ _)
def zpq {all rest:L1 Oper} {d:D} {au:St} (N:∀c,o.op≠.defer c) (y:ED P all o env st aa d au ids') (K:∀t,o.dst=some t->t<n) (h:DGo P n F Q (.ops all rest::k) (Ca o.dst d env) au ids'):DGo P n F Q (.ops all (o::rest)::k) env st aa:=by intro b cs I μ a w T R G;obtain⟨j,m,rfl,S,hk⟩:=JX R;let⟨hj,V⟩:=EW S;have W:LR (o.looksAt all.toArray) I μ env a:=λt _ d g=>G.env t d g;let⟨hw,E⟩:=y I μ a w G.toStRep W;have u:∀v w' x p,StRep x p au ids' w'->X x p v d->μ.le p->Ext I μ st w x p au w'->Reach P b.1 cs (Post n F Q a.defers I μ st w) (.inRegion all.toArray (List.range' (j+1) rest.length)::m) (a.put o.dst v) w':=by{intro v w' x p B C A z;let⟨p1,p2,r⟩:=HN (n:=n) (w:=w') (dst:=o.dst) (λt d g=>(G.env t d g).mono z.imm A) G.size K C;have:=h b cs x p (a.put o.dst v) w' (.inRegion all.toArray (List.range' (j+1) rest.length)::m) ⟨⟨rfl,j+1,V,rfl⟩,hk⟩ {B with size:=p2,env:=by cases H:o.dst<;>simpa[Ca,H]using p1,defers:=by rw[r];exact G.defers.ext z };rw[r]at this;exact this.mono λe a' J hp=>hp.back (.of_le A) z};have L:(o::rest).length=rest.length+1:=rfl;rw[L,Ms];refine Gq hj hw N ?_;unfold valR at E;unfold RU;split at E;rename_i v w' q;rw[q];obtain⟨x,p,B,C,z,A⟩:=E;exact u v w' x p B C z A;rename_i w' q;rw[q];obtain⟨x,p,B,C,z,A⟩:=E;exact u _ w' x p B C z A;rename_i f s w' q;rw[q];refine bc E λe J i=>?_;cases e with|returned v=>obtain⟨x,p,B,C,z,A⟩:=i;exact u v J x p B C z A|panicked l=>exact i.elim|outgrown=>{exact i.elim};exact E.elim
end
section
variable {Q:DQ} {B:TT} {env q:Env} {st au:St} {k:L1 DI} {d:D}
def zbv {x:Operand} {f g:D->L1 Prop->EP} (h:Fk C env x f=.p d ob) (p:∀q o,f q o=.p d ob->g q o=.p d ob):Fk C env x g=.p d ob:=by unfold Fk at *;split at h;exact p _ _ h;exact p _ _ h;cases h
def zmd {op:Op} (h:Ix B C env st op=.p d ob) (au:St):Ix B C env au op=.p d ob:=by cases op with|load t x=>simp only[Ix]at h ⊢;refine zbv h λE o p=>?_;split at p;split at p;split at p<;>cases p;split at p<;>cases p;cases p;exact p;cases p|unOp u t x=>cases u<;>exact h|slice t x G H m=>cases m<;>exact h|call c=>{rcases c with⟨A,⟨D⟩,⟨q⟩⟩;cases A with|builtin b=>(cases b<;>first|exact h|skip);(all_goals (rcases D with _|⟨x,_|⟨y,_|⟨z,r⟩⟩⟩<;>rcases q with _|⟨t,_|⟨t2,J⟩⟩<;>first|exact h|skip));simp only[Ix]at h ⊢;refine zbv h λE o p=>?_;split at p;exact p;exact p;exact p;exact p;exact p;split at p<;>cases p;cases p|_=>{exact h}}|_=>{exact h}
def AJ {all:Array Oper} {tmps:Array Value} (h:o.guard=none):Region.wanted o (yielded all tmps)=true:=by simp[Region.wanted,h]
def QL (p:TTok P B) {all:L1 Oper} (A:o.guard=none) (h:Ge (Ix B True env st o.op)=some (d,ob)) (q:A8 ob):YD P all o env st d:=by intro I μ aa a w u x;refine⟨λ_=>zgt p u (Bx x) ab h q,λz=>?_⟩;rw[AJ A]at z;cases z
def Wj {I:U} {μ:Mu} {all:L1 Oper} {C:Oper} {g:Nat} {c:Bool} (D:o.guard=some (j,w0)) (G:all[j]?=some C) (H:C.dst=some g) (p:ctl (lk env g) w0=some c) (J:∀t∈o.looksAt all.toArray,∀d,lk env t=some d->X I μ (a.tmps.getD t undef) d):Region.wanted o (yielded all.toArray a.tmps)=true↔c=w0:=by have z:g∈o.looksAt all.toArray:=by{unfold Oper.looksAt;refine B2.2 (.inr ?_);simp[D,G,H]};have A:∀b,a.tmps.getD g undef=.bool b->yielded all.toArray a.tmps j=some b:=by{intro b q;unfold yielded;have u:all.toArray[j]?=some C:=by{simpa using G};simp only[u,Ep,H];have:a.tmps[g]?=some (.bool b):=by{cases E:a.tmps[g]? with|none=>simp[E,undef]at q|some v=>{simp[E]at q;rw[q]}};simp[this]};cases L:lk env g with|none=>rw[L]at p;cases p|some d=>{rw[L]at p;have N:=J g z _ L;unfold ctl at p;split at p;rename_i T e;cases e;cases p;have B:=A _ N.immInv.boolInv;simp[Region.wanted,D,B];rename_i T w' b e;cases e;cases p;generalize x:a.tmps.getD g undef=i at N;cases N with|guard _ _ _ _ V W=>{by_cases h:T=w';have q:=(V h).immInv.boolInv;have B:=A _ (x.trans q);subst h;simp[Region.wanted,D,B];have q:=W h;have B:yielded all.toArray a.tmps j=none:=by{unfold yielded;have u:all.toArray[j]?=some C:=by{simpa using G};simp only[u,Ep,H];cases E:a.tmps[g]? with|none=>rfl|some v=>{simp[E]at x;rw[x,q];rfl}};have f:(T==w')=false:=by{simpa using h};simp[Region.wanted,D,B,f]};cases p}
def Ij (z:TTok P B) {all:L1 Oper} {D:Oper} {g:Nat} {c:Bool} (E:o.guard=some (j,w0)) (G:all[j]?=some D) (H:D.dst=some g) (J:ctl (lk env g) w0=some c) (h:Ge (Ix B (c=w0) env st o.op)=some (d,ob)) (A:A8 ob):YD P all o env st (.guard c w0 d):=by intro I μ aa a w C q;have p:=Wj E G H J q;refine⟨λu=>?_,λu=>?_⟩;have x:=p.1 u;have:=zgt z C (Bx q) x h A;exact this.mono λv w' ⟨L,N,T,V⟩=>⟨L,N,.guard _ _ _ _ (λ_=>T) (λW=>absurd x W),V⟩;exact .guard _ _ _ _ (λx=>by rw[p.2 x]at u;cases u) (λ_=>rfl)
def ZD {d:D} {rd p:Bool} (h:Rc n dst d env (λenv=>.y rd env ob)=.y p q E):rd=p/\ob=E/\q=Ca dst d env/\∀t,dst=some t->t<n:=by unfold Rc at h;split at h;rename_i t;split at h;rename_i B;simp only[S1.y.injEq]at h;obtain⟨u,x,z⟩:=h;exact⟨u,z,by rw[<- x];rfl,λC A=>by cases A;simpa[JO]using B⟩;cases h;simp only[S1.y.injEq]at h;obtain⟨u,x,z⟩:=h;exact⟨u,z,by rw[<- x];rfl,λC A=>by cases A⟩
def zdh {d:D} {s:St} {i:L1 Nat} (h:Rc n dst d env (λenv=>.e env s i ob)=.e q au ids' E):s=au/\i=ids'/\ob=E/\q=Ca dst d env/\∀t,dst=some t->t<n:=by unfold Rc at h;split at h;rename_i t;split at h;rename_i B;simp only[S1.e.injEq]at h;obtain⟨p,u,x,z⟩:=h;exact⟨u,x,z,by rw[<- p];rfl,λC A=>by cases A;simpa[JO]using B⟩;cases h;simp only[S1.e.injEq]at h;obtain⟨p,u,x,z⟩:=h;exact⟨u,x,z,by rw[<- p];rfl,λC A=>by cases A⟩
def JF {d:D} {rd:Bool} {s:St} {i:L1 Nat}:Rc n dst d env (λenv=>.y rd env ob)≠.e q s i E:=by unfold Rc;split;split<;>simp;simp
def eH {d:D} {rd:Bool} {s:St} {i:L1 Nat}:Rc n dst d env (λenv=>.e env s i ob)≠.y rd q E:=by unfold Rc;split;split<;>simp;simp
def N9 {c:Call}:Ix B C env st (.defer c)=.no:=rfl
def YH {c:Call}:qE B env st aa (.defer c)=.no:=rfl
def TM (u:TTok P B) {all:L1 Oper} {rd:Bool} (h:GW B n all o env st aa=.y rd q ob) (x:A8 ob):∃d,q=Ca o.dst d env/\(∀t,o.dst=some t->t<n)/\(∀c,o.op≠.defer c)/\YD P all o env st d/\(rd=false->∀au,YD P all o env au d):=by unfold GW at h;split at h;rename_i z;split at h;rename_i d E p;obtain⟨rfl,rfl,A,C⟩:=ZD h;exact⟨d,A,C,(λc D=>by rw[D,N9]at p;cases p),QL u z (by rw[p];rfl) x,λ_ au=>QL u z (by rw[zmd p au];rfl) x⟩;rename_i d E p;obtain⟨rfl,rfl,A,C⟩:=ZD h;exact⟨d,A,C,(λc D=>by rw[D,N9]at p;cases p),QL u z (by rw[p];rfl) x,λH=>by cases H⟩;split at h;exact absurd h eH;cases h;rename_i j w0 z;split at h;rename_i g _ _ _ _ _ G;rw[HB]at G;split at h;rename_i c J;split at h;rename_i d E p;obtain⟨rfl,rfl,A,C⟩:=ZD h;exact⟨_,A,C,(λL D=>by rw[D,N9]at p;cases p),Ij u z G rfl J (by rw[p];rfl) x,λ_ au=>Ij u z G O J (by rw[zmd p au];rfl) x⟩;rename_i d E p;obtain⟨rfl,rfl,A,C⟩:=ZD h;exact⟨_,A,C,(λL D=>by rw[D,N9]at p;cases p),Ij u z G rfl J (by rw[p];rfl) x,λH=>by cases H⟩;cases h;cases h;cases h
def zir (p:TTok P B) {all:L1 Oper} (h:GW B n all o env st aa=.e q au ids' ob) (u:A8 ob):∃d,q=Ca o.dst d env/\(∀t,o.dst=some t->t<n)/\(∀c,o.op≠.defer c)/\ED P all o env st aa d au ids':=by unfold GW at h;split at h;rename_i C;split at h;exact absurd h JF;exact absurd h JF;split at h;rename_i d s i E x;obtain⟨rfl,rfl,rfl,D,G⟩:=zdh h;refine⟨d,D,G,(λc H=>by rw[H,YH]at x;cases x),λI μ a w z A=>⟨AJ C,?_⟩⟩;exact qD p z (Bx A) x u;cases h;split at h;split at h;split at h;exact absurd h JF;exact absurd h JF;cases h;cases h;cases h
end
def Sj:Option D->L1 Nat
 |some (.ref id _)=>[id]
 |some (.mapr id)=>[id]
 |some (.guard _ _ (.ref id _))=>[id]
 |some (.guard _ _ (.mapr id))=>[id]
 |_=>[]
def UI (env:Env):Op->L1 Nat
 |.load _ x=>Sj (EM env x)
 |.store _ x _=>Sj (EM env x)
 |.call c=>match c.args.toList with
  |[x]=>Sj (EM env x)
  |_=>[]
 |_=>[]
def Agree (rd:L1 Nat) (st au:St):Prop:=∀i∈rd,lk au i=lk st i
section
variable {B:TT} {env q:Env} {st au:St} {d:D}
def Xy {x:Operand} {f g:D->L1 Prop->EP} (h:∀p o,(EM env x=some p\/∃c w,EM env x=some (.guard c w p))->f p o=g p o):Fk C env x f=Fk C env x g:=by unfold Fk;split;rename_i c w d q;exact h _ _ (.inr ⟨c,w,q⟩);rename_i d u q;exact h _ _ (.inl q);rfl
def xO {x:Option D} {id:Nat} (h:x=some (.ref id off)\/∃c w,x=some (.guard c w (.ref id off))):id∈Sj x:=by rcases h with h|⟨c,w,h⟩<;>simp[h,Sj]
def xP {x:Option D} {id:Nat} (h:x=some (.mapr id)\/∃c w,x=some (.guard c w (.mapr id))):id∈Sj x:=by rcases h with h|⟨c,w,h⟩<;>simp[h,Sj]
def YF {op:Op} (h:Agree (UI env op) st au):Ix B C env au op=Ix B C env st op:=by
 cases op with
 |load t x=>
  simp only[Ix];refine Xy λE o G=>?_;cases E with
  |ref id off=>
   have H:=h id (xO G);cases lk B t with
   |none=>rfl
   |some i=>simp only[H]
  |_=>cases lk B t<;>rfl
 |unOp u t x=>cases u<;>rfl
 |slice t x J L m=>cases m<;>rfl
 |call c=>
  rcases c with⟨q,⟨D⟩,⟨p⟩⟩
  cases q with
  |builtin b=>
   cases b<;>first|rfl|skip
   all_goals (rcases D with _|⟨x,_|⟨y,_|⟨z,r⟩⟩⟩<;>rcases p with _|⟨t,_|⟨t2,N⟩⟩<;>first|rfl|skip)
   simp only[Ix];refine Xy λE o G=>?_;cases E with
   |mapr id=>
    have H:=h id (xP G);cases lk B t with
    |none=>rfl
    |some i=>rcases i with⟨A,_,_,_,_⟩;cases A<;>first|rfl|simp only[H]
   |imm v=>cases v<;>(cases lk B t with
    |none=>rfl
    |some i=>rcases i with⟨A,_,_,_,_⟩;cases A<;>rfl)
   |raw v=>cases v<;>(cases lk B t with
    |none=>rfl
    |some i=>rcases i with⟨A,_,_,_,_⟩;cases A<;>rfl)
   |_=>cases lk B t with
    |none=>rfl
    |some i=>rcases i with⟨A,_,_,_,_⟩;cases A<;>rfl
  |_=>rfl
 |_=>rfl
def YG {op:Op} (h:qE B env st aa op=.e d au ids' ob):∃(fr:L1 Nat) (wr:St),aa=fr++ids'/\au=wr++st/\(∀i∈wr.map (·.1),i∈fr\/i∈UI env op)/\∀a8 q,Agree (UI env op) st a8->qE B env a8 (fr++q) op=.e d (wr++a8) q ob:=by cases op with|box t x=>simp only[qE,RT]at h ⊢;split at h;cases h;rename_i d0 T c;split at h;rename_i i id H A;split at h<;>simp only[EE.e.injEq,reduceCtorEq]at h;rename_i V E W;obtain⟨rfl,rfl,rfl,rfl⟩:=h;exact⟨[id],[(id,some V)],rfl,rfl,by simp,λa8 q _=>by simp[c,A,W]⟩;cases h;cases h|alloc t=>simp only[qE]at h ⊢;split at h;rename_i i id H A;split at h<;>simp only[EE.e.injEq,reduceCtorEq]at h;rename_i W;obtain⟨rfl,rfl,rfl,rfl⟩:=h;exact⟨[id],[(id,_)],rfl,rfl,by simp,λa8 q _=>by simp[A,W]⟩;cases h|store t p x=>simp only[qE]at h ⊢;unfold RT at h ⊢;split at h;cases h;rename_i j T J;split at h;cases h;rename_i k b N;dsimp only at h ⊢;split at h;rename_i id off i A;have u:id∈UI env (.store t p x):=by{simp[UI,J,Sj]};split at h;rename_i e sz m L;split at h;rename_i f a;simp only[EE.e.injEq]at h;obtain⟨rfl,rfl,rfl,rfl⟩:=h;exact⟨[],[(id,_)],rfl,rfl,by simpa using u,λa8 q z=>by simp[J,N,A,z id u,L,a]⟩;rename_i d0 g;split at h;rename_i cs C;split at h<;>simp only[EE.e.injEq,reduceCtorEq]at h;rename_i l D G;obtain⟨rfl,rfl,rfl,rfl⟩:=h;exact⟨[],[(id,_)],rfl,rfl,by simpa using u,λa8 q z=>by simp[J,N,A,z id u,L,C,D,G]⟩;cases h;rename_i e sz ds L;split at h;rename_i f a;simp only[EE.e.injEq]at h;obtain⟨rfl,rfl,rfl,rfl⟩:=h;exact⟨[],[(id,_)],rfl,rfl,by simpa using u,λa8 q z=>by simp[J,N,A,z id u,L,a]⟩;split at h;rename_i cs C;split at h<;>simp only[EE.e.injEq,reduceCtorEq]at h;rename_i l D G;obtain⟨rfl,rfl,rfl,rfl⟩:=h;exact⟨[],[(id,_)],rfl,rfl,by simpa using u,λa8 q z=>by simp[J,N,A,z id u,L,C,D,G]⟩;cases h;cases h;cases h;cases h;cases h|_=>{simp[qE]at h}
end
def valX (P:Program) (r:Result Next) (K:Value->World->Prop) (z:L1 PanicEntry->World->Prop):Prop :=
 match r with
 |.ok (.value v) w=>K v w
 |.ok .skip w=>K undef w
 |.ok (.enter f q) w=>Calls P f q w λe w'=>match e with
  |.returned v=>K v w'
  |.panicked h=>z h w'
  |.outgrown=>False
 |.ok (.round l f u p x) w=>RoundIn Fence.wide 0 P l f u p x w λe w'=>match e with
  |.returned v=>K v w'
  |.panicked h=>z h w'
  |.outgrown=>False
 |.halt (.panic v) w=>z [{ v,recovered:=false }] w
 |_=>False
def valR.x {q:L1 PanicEntry->World->Prop} (h:valR P r K):valX P r K q:=by unfold valR at h;unfold valX;split at h;exact h;exact h;{exact bc h (λe w' p=>by cases e<;>first|exact p|exact p.elim)};exact h.elim
def valX.mono {z q:L1 PanicEntry->World->Prop} (u:∀v w,K v w->K' v w) (x:∀c w,z c w->q c w) (h:valX P r K z):valX P r K' q:=by unfold valX at *;split at h;exact u _ _ h;exact u _ _ h;{exact bc h (λe w' p=>by cases e<;>first|exact u _ _ p|exact x _ _ p|exact p)};{exact RoundIn.mono h (λe w' p=>by cases e<;>first|exact u _ _ p|exact x _ _ p|exact p)};exact x _ _ h;exact h.elim
def valX.upon {next:Act->World->Prop} {pan:L1 PanicEntry->World->Prop} (h:valX P r (λv w=>next (a.put o.dst v) w) pan):RU P o a next pan r:=by unfold valX at h;unfold RU;split at h;exact h;exact h;exact h;exact h;exact h;exact h.elim
def NS (Pn:V->Prop) (I:U) (μ:Mu) (st:St) (w:World) (h:L1 PanicEntry) (w':World):Prop :=
 ∃v x p,h=[{ v,recovered:=false }]/\Pn x/\M p v x/\p.ok w'/\Ext I μ st w p μ [] w'
def LD (P:Program) (Pn:V->Prop) (all:L1 Oper) (o:Oper) (env:Env) (st:St) (rd fr:L1 Nat) (wr:St) (d:D):Prop :=
 ∀I μ h q a w,Agree rd st h->StRep I μ h (fr++q) w->LR (o.looksAt all.toArray) I μ env a ->
  (Region.wanted o (yielded all.toArray a.tmps)=true ->
   valX P ((execOp a.eval o).run P w) (λv w'=>∃u p,StRep u p (wr++h) q w'/\X u p v d/\μ.le p/\Ext I μ h w u p (wr++h) w') (NS Pn I μ h w)) /\
  (Region.wanted o (yielded all.toArray a.tmps)=false->wr=[]/\fr=[]/\X I μ undef d)
structure Stp where
 rd:List Nat
 fr:List Nat
 wr:St
 d:D
structure OI where
 dst:Option Nat
 looks:List Nat
 rd:List Nat
 wr:List Nat
def Gg:L1 Nat->Nat->Bool
 |[],_=>false
 |x::r,t=>bif Nat.beq x t then true else Gg r t
def Q0:L1 Nat->L1 Nat->Bool
 |[],_=>true
 |x::r,l=>bif Gg l x then false else Q0 r l
def RF (d:Option Nat) (l:L1 Nat):Bool:=match d with
 |some t=>!Gg l t
 |none=>true
def rI (x y:OI):Bool :=
 RF x.dst y.looks&&RF y.dst x.looks&&RF x.dst (match y.dst with|some t=>[t]|none=>[]) &&
 Q0 x.wr y.rd&&Q0 y.wr x.rd&&Q0 x.wr y.wr
def Ow (e:Edge):Bool:=match e.ground with
 |.textOnly _=>false
 |.gcOnly _=>false
 |_=>true
def Rm (h:L1 Nat):L1 Edge->Nat->Nat
 |[],m=>m
 |e::p,m=>Rm h p (bif Ow e then Nat.lor (Nat.lor m (2 ^ e.on)) (match OM h e.on with|some k=>k|none=>0)else m)
def TY (i:Nat):L1 Edge->Bool
 |[]=>true
 |e::h=>(!Ow e||Nat.blt e.on i)&&TY i h
def NI (m:Nat) (x:OI):L1 OI->Nat->Bool
 |[],_=>true
 |y::r,i=>(Nat.testBit m i||rI y x)&&NI m x r (i+1)
def NJ:L1 Oper->L1 OI->Nat->L1 Nat->L1 OI->Bool
 |o::q,x::u,i,p,h=>
  let m:=Rm p o.after.toList 0
  TY i o.after.toList&&NI m x h 0&&NJ q u (i+1) (p++[m]) (h++[x])
 |[],[],_,_,_=>true
 |_,_,_,_,_=>false
def Rv (all:Array Oper) (o:Oper) (s:L1 Nat×L1 Nat):OI:={ dst:=o.dst,looks:=o.looksAt all,rd:=s.1,wr:=s.2 }
def gP (all:Array Oper):L1 Oper->L1 (L1 Nat×L1 Nat)->L1 OI
 |o::h,s::p=>Rv all o s::gP all h p
 |_,_=>[]
def Q8 (all:L1 Oper) (fs:L1 (L1 Nat×L1 Nat)):Bool:=NJ all (gP all.toArray all fs) 0 [] []&&Nat.beq fs.length all.length
def bh:=@cond_false
def Cp {l:L1 Nat} {t:Nat}:Gg l t=true↔t∈l:=by induction l with|nil=>simp[Gg]|cons x r q=>{simp only[Gg,Ck];cases p:Nat.beq x t with|true=>simp[CU p]|false=>{have:x≠t:=λe=>by{subst e;simp at p};simp only[bh,q];constructor;exact .inr;rintro (h|h);exact absurd h.symm this;exact h}}
def NE {a b:L1 Nat}:Q0 a b=true↔∀x∈a,x∉b:=by induction a with|nil=>simp[Q0]|cons x r q=>{simp only[Q0];cases p:Gg b x with|true=>have:=Cp.1 p;simp[this]|false=>{have:x∉b:=λh=>by{rw[Cp.2 h]at p;cases p};simp only[bh,q,Ck,forall_eq_or_imp];exact⟨λh=>⟨this,h⟩,λh=>h.2⟩}}
def OZ {d:Option Nat} {l:L1 Nat}:RF d l=true↔∀t,d=some t->t∉l:=by cases d with|none=>simp[RF]|some t=>{simp only[RF,Kq,Ci,forall_eq'];constructor;intro h p;rw[Cp.2 p]at h;cases h;intro h;cases p:Gg l t with|true=>exact absurd (Cp.1 p) h|false=>{rfl}}
structure ApartOI (x y:OI):Prop where
 a:∀t,x.dst=some t->t∉y.looks
 b:∀t,y.dst=some t->t∉x.looks
 c:∀t,x.dst=some t->y.dst≠some t
 d:∀i∈x.wr,i∉y.rd
 e:∀i∈y.wr,i∉x.rd
 f:∀i∈x.wr,i∉y.wr
def ApartOI.symm {x y:OI} (h:ApartOI x y):ApartOI y x:=⟨h.b,h.a,λt p q=>h.c t q p,h.e,h.d,λi p q=>h.f i q p⟩
def kG {x y:OI} (h:rI x y=true):ApartOI x y:=by simp only[rI,Am]at h;obtain⟨⟨⟨⟨⟨p,q⟩,u⟩,z⟩,A⟩,B⟩:=h;refine⟨OZ.1 p,OZ.1 q,λt C D=>?_,NE.1 z,NE.1 A,NE.1 B⟩;exact OZ.1 u t C (by simp[D])
def YL {e:Edge}:Ow e=Region.binds .any e:=by rcases e with⟨h,g⟩;cases g<;>simp[Ow,Region.binds]<;>rfl
def Jz (all:L1 Oper) (S:Nat->Bool):Prop:=∀j o,all[j]?=some o->S j=true->∀e∈o.after.toList,Ow e=true->S e.on=true
def bg:=@cond_true
def Sy {p:L1 Nat} {S:Nat->Bool} (q:∀k m i,OM p k=some m->m.testBit i=true->S k=true->S i=true):∀(es:L1 Edge) (m:Nat) (i:Nat),(∀e∈es,Ow e=true->S e.on=true)->(Rm p es m).testBit i=true->m.testBit i=true\/S i=true
 |[],m,i,_,h=>.inl h
 |e::es,m,i,B,h=>by simp only[Rm]at h;rcases Sy q es _ i (λC x=>B C (Gr _ x)) h with h1|h1;cases z:Ow e with|false=>simp only[z,bh]at h1;exact .inl h1|true=>{have u:=B e (by simp) z;simp only[z,bg]at h1;have h1':((m ||| 2 ^ e.on) ||| (match OM p e.on with|some k=>k|none=>0)).testBit i=true:=h1;rw[Nat.testBit_or,Nat.testBit_or,Fg,Fg,Nat.testBit_two_pow]at h1';rcases h1' with(h1'|h1')|h1';exact .inl h1';have:e.on=i:=by{simpa using h1'};exact .inr (this▸u);cases A:OM p e.on with|none=>simp[A]at h1'|some k=>{simp only[A]at h1';exact .inr (q _ _ _ A h1' u)}};exact .inr h1
def MT {m:Nat} {x:OI}:∀{q:L1 OI} {i:Nat},NI m x q i=true->∀k y,q[k]?=some y->Nat.testBit m (i+k)=true\/ApartOI y x
 |[],_,_,k,y,u=>by simp at u
 |p::r,i,h,k,y,u=>by simp only[NI,Am,Fg]at h;cases k with|zero=>simp at u;subst u;exact h.1.imp id kG|succ k=>{have:=MT h.2 k y (by simpa using u);rwa [show i+1+k=i+(k+1) by omega]at this}
def Qx {i:Nat}:∀{es:L1 Edge},TY i es=true->∀e∈es,Ow e=true->e.on<i
 |[],_,e,he=>by simp at he
 |e'::es,h,e,he=>by simp only[TY,Am,Fg,Kq]at h;rcases Ck.1 he with rfl|he;intro p;rcases h.1 with h1|h1;rw[h1]at p;cases p;rwa [JO]at h1;exact Qx h.2 e he
def UU {p:L1 Nat} {k v:Nat} (h:OM (p++[m]) k=some v):OM p k=some v\/(k=p.length/\v=m):=by rw[HB]at h ⊢;rw[OV]at h;split at h;exact .inl h;rename_i u;right;cases q:k-p.length with|zero=>rw[q]at h;simp at h;exact⟨by omega,h.symm⟩|succ j=>{rw[q]at h;simp at h}
def Q7 {all:L1 Oper} {S:Nat->Bool} (a:Jz all S):∀(os:L1 Oper) (xs:L1 OI) (i:Nat) (u:L1 Nat) (q:L1 OI),NJ os xs i u q=true->os=all.drop i->q.length=i->u.length=i->(∀k m j,OM u k=some m->m.testBit j=true->S k=true->S j=true)->(∀j o,os[j]?=some o->∀e∈o.after.toList,Ow e=true->e.on<i+j)/\(∀j x,xs[j]?=some x->S (i+j)=true->(∀k y,q[k]?=some y->S k=false->ApartOI y x)/\(∀k y,k<j->xs[k]?=some y->S (i+k)=false->ApartOI y x))
 |[],[],_,_,_,_,_,_,_,_=>⟨λj o h=>by simp at h,λj x h=>by simp at h⟩
 |[],_::_,_,_,_,h,_,_,_,_=>by simp[NJ]at h
 |_::_,[],_,_,_,h,_,_,_,_=>by simp[NJ]at h
 |o::os,x::xs,i,u,q,h,E,b,G,A=>by simp only[NJ,Am]at h;obtain⟨⟨f,g⟩,l⟩:=h;have n:all[i]?=some o:=by{have:(all.drop i)[0]?=some o:=by{rw[<- E];rfl};rw[EU]at this;simpa using this};have H:os=all.drop (i+1):=by{have:=af List.tail E;simpa[List.tail_drop]using this};have c:∀j,(Rm u o.after.toList 0).testBit j=true->S i=true->S j=true:=by{intro j z T;rcases Sy A o.after.toList 0 j (λe L N=>a i o n T e L N) z with h|h;simp at h;exact h};have C:∀k m j,OM (u++[Rm u o.after.toList 0]) k=some m->m.testBit j=true->S k=true->S j=true:=by{intro k m j B z p;rcases UU B with h|⟨rfl,rfl⟩;exact A k m j h z p;rw[G]at p;exact c j z p};let⟨r,s⟩:=Q7 a os xs (i+1) _ _ l H (by simp[b]) (by simp[G]) C;refine⟨λj t z e L N=>?_,λj v z V=>?_⟩;cases j with|zero=>simp at z;subst z;exact Qx f e L N|succ j=>{have:=r j t (by simpa using z) e L N;omega};cases j with|zero=>simp at z;subst z;refine⟨λk y B p=>?_,λk y B=>by omega⟩;rcases MT g k y B with h|h;have:=c _ h (by simpa using V);simp at this;rw[this]at p;cases p;exact h|succ j=>{have J:S (i+1+j)=true:=by{rwa [show i+1+j=i+(j+1) by omega]};let⟨d,w⟩:=s j v (by simpa using z) J;refine⟨λk y B p=>?_,λk y B D p=>?_⟩;have W:k<q.length:=(A9.1 B).1;exact d k y (by rw[KD W];exact B) p;cases k with|zero=>simp at D;subst D;exact d i x (by rw[Jf (by omega)];simp[b]) (by simpa using p)|succ k=>{exact w k y (by omega) (by simpa using D) (by rwa [show i+1+k=i+(k+1) by omega])}}
section
variable {Q:DQ} {all:L1 Oper} {env q:Env} {st au:St} {k:L1 DI} {Pn:V->Prop}
def HE (h:∀i,lk st i=lk au i) {id:Nat} {blk:Blk}:Aw st id blk↔Aw au id blk:=by unfold Aw;rw[h]
def HV (h:∀i,lk st i=lk au i) {μ:Mu}:AX μ st b↔AX μ au b:=by unfold AX;constructor<;>rintro ⟨id,p,g,q,u⟩;exact⟨id,p,g,(HE h).1 q,u⟩;exact⟨id,p,g,(HE h).2 q,u⟩
def StRep.congr {I:U} {μ:Mu} (p:StRep I μ st aa w) (h:∀i,lk st i=lk au i):StRep I μ au aa w:={imm:=p.imm,blk:=λid blk q=>p.blk id blk ((HE h).2 q),apart:=λid blk g b q=>p.apart id blk g b ((HE h).2 q),inj:=λi j u x z A b B C=>p.inj i j u x z A b ((HE h).2 B) ((HE h).2 C),nodup:=p.nodup,idsFree:=p.idsFree }
def StRep.perm {I:U} {μ:Mu} (p:StRep I μ st aa w) (h:aa.Perm ids'):StRep I μ st ids' w:={p with nodup:=h.nodup_iff.1 p.nodup,idsFree:=λi q=>p.idsFree i (h.mem_iff.2 q) }
def Ext.congr {I J:U} {μ ν:Mu} {a8 p:St} (h:Ext I μ st w J ν au w') (x:∀i,lk st i=lk a8 i) (A:∀i,lk au i=lk p i):Ext I μ a8 w J ν p w':={h with block:=λb q u=>h.block b q (λz=>u ((HV x).1 z)),fresh:=λb q u=>(HV x).1 (h.fresh b q ((HV A).2 u)),old:=λb q u=>h.old b q (λz=>u ((HV x).1 z)) }
def MarksOk.congr {I:U} {μ:Mu} {a8:St} (h:MarksOk I μ st w ds) (u:∀i,lk st i=lk a8 i):MarksOk I μ a8 w ds:=by obtain⟨x,z,A,p⟩:=h;exact⟨x,z,A,λr q=>⟨(p r q).1,(p r q).2.1,λB=>(p r q).2.2 ((HV u).2 B)⟩⟩
def MS {I:U} {μ:Mu} (hI:I.ok w) (hs:a.tmps.size=n) (hd:MarksOk I μ [] w a.defers):Conc n I μ [] [] [] a w where
 imm:=hI
 blk:=λ_ _ h=>by simp[Aw,lk]at h
 apart:=λ_ _ _ _ h=>by simp[Aw,lk]at h
 inj:=λ_ _ _ _ _ _ _ h=>by simp[Aw,lk]at h
 nodup:=.nil
 idsFree:=λ_ h=>by simp at h
 size:=hs
 env:=λ_ _ h=>by simp[lk]at h
 defers:=hd
def Pk (P:Program) (Pn:V->Prop) (n:Nat) (all:L1 Oper):L1 Oper->L1 Stp->Env->St->Prop
 |[],[],_,_=>True
 |o::h,s::p,env,st=>LD P Pn all o env st s.rd s.fr s.wr s.d/\(∀t,o.dst=some t->t<n)/\(∀c,o.op≠.defer c)/\Pk P Pn n all h p (Ca o.dst s.d env) (s.wr++st)
 |_,_,_,_=>False
def Eh (S:Nat->Bool):L1 Oper->L1 Stp->Nat->Env->Env
 |o::h,s::p,i,env=>Eh S h p (i+1) (bif S i then Ca o.dst s.d env else env)
 |_,_,_,env=>env
def Gm (S:Nat->Bool):L1 Stp->Nat->St->St
 |s::h,i,st=>Gm S h (i+1) (bif S i then s.wr++st else st)
 |[],_,st=>st
def Hh (S:Nat->Bool):L1 Stp->Nat->L1 Nat->L1 Nat
 |s::h,i,l=>(bif S i then[]else s.fr)++Hh S h (i+1) l
 |[],_,l=>l
def Vz {d:D} {t:Nat} (h:dst≠some t):lk (Ca dst d env) t=lk env t:=by cases dst with|none=>rfl|some s=>{exact AB _ _ (λe=>h (by rw[e]))}
def Lw {d:D} {t:Nat} (h:dst=some t):lk (Ca dst d env) t=some d:=by subst h;exact A7 _ _ _
def ga:=@not_or
def KH:∀{wr:St} {i:Nat},i∉wr.map (·.1)->lk (wr++st) i=lk st i
 |[],_,_=>rfl
 |(k,x)::r,i,h=>by simp only[C0,Ck,ga]at h;rw[Dj,AB _ _ (λe=>h.1 e.symm)];exact KH h.2
def GC:∀{wr:St} {i:Nat},i∈wr.map (·.1)->lk (wr++st) i=lk wr i
 |[],_,h=>by simp at h
 |(k,x)::r,i,h=>by by_cases p:k=i;subst p;rw[Dj,A7,A7];rw[Dj,AB _ _ p,AB _ _ p];simp only[C0,Ck]at h;exact GC (h.resolve_left λe=>p e.symm)
def If {S S':Nat->Bool} {t:Nat}:∀(os:L1 Oper) (p:L1 Stp) (i:Nat) (env q:Env),lk env t=lk q t->(∀j o,os[j]?=some o->o.dst=some t->S (i+j)=S' (i+j))->lk (Eh S os p i env) t=lk (Eh S' os p i q) t
 |[],p,i,env,q,h,_=>by cases p<;>simpa[Eh]using h
 |o::os,[],i,env,q,h,_=>by simpa[Eh]using h
 |o::os,s::p,i,env,q,h,x=>by simp only[Eh];refine If os p (i+1) _ _ ?_ λj A B u=>by{have:=x (j+1) A (by simpa using B) u;rwa [show i+1+j=i+(j+1) by omega]};by_cases u:o.dst=some t;have:=x 0 o O u;simp only[Gs]at this;rw[this];cases S' i with|true=>simp[Lw u]|false=>{simpa using h};have z:∀(c:Bool) (e:Env),lk (bif c then Ca o.dst s.d e else e) t=lk e t:=λc e=>by{cases c<;>simp[Vz u]};rw[z,z,h]
def Ja {S S':Nat->Bool} {t:Nat}:∀(p:L1 Stp) (i:Nat) (st au:St),lk st t=lk au t->(∀j s,p[j]?=some s->t∈s.wr.map (·.1)->S (i+j)=S' (i+j))->lk (Gm S p i st) t=lk (Gm S' p i au) t
 |[],i,st,au,h,_=>by simpa[Gm]using h
 |s::p,i,st,au,h,u=>by simp only[Gm];refine Ja p (i+1) _ _ ?_ λj z A q=>by{have:=u (j+1) z (by simpa using A) q;rwa [show i+1+j=i+(j+1) by omega]};by_cases q:t∈s.wr.map (·.1);have:=u 0 s O q;simp only[Gs]at this;rw[this];cases S' i with|true=>simp[GC q]|false=>{simpa using h};have x:∀(c:Bool) (e:St),lk (bif c then s.wr++e else e) t=lk e t:=λc e=>by{cases c<;>simp[KH q]};rw[x,x,h]
def LB {S:Nat->Bool}:∀(os:L1 Oper) (p:L1 Stp) (i:Nat) (env:Env),(∀j,i<=j->S j=false)->Eh S os p i env=env
 |[],p,i,env,_=>by cases p<;>rfl
 |o::os,[],i,env,_=>rfl
 |o::os,s::p,i,env,h=>by simp only[Eh,h i (BO i),bh];exact LB os p (i+1) env λj q=>h j (by omega)
def K0 {S:Nat->Bool}:∀(p:L1 Stp) (i:Nat) (st:St),(∀j,i<=j->S j=false)->Gm S p i st=st
 |[],i,st,_=>rfl
 |s::p,i,st,h=>by simp only[Gm,h i (BO i),bh];exact K0 p (i+1) st λj q=>h j (by omega)
def YJ {S:Nat->Bool} {t:Nat}:∀(os:L1 Oper) (p:L1 Stp) (k:Nat) (env:Env) (i:Nat) (o:Oper) (s:Stp),os[i]?=some o->p[i]?=some s->o.dst=some t->S (k+i)=true->(∀j x,i<j->os[j]?=some x->x.dst=some t->S (k+j)=false)->lk (Eh S os p k env) t=some s.d
 |[],p,k,env,i,o,s,h,_,_,_,_=>by simp at h
 |o1::os,[],k,env,i,o,s,_,h,_,_,_=>by simp at h
 |o1::os,B::p,k,env,0,o,s,z,A,C,D,q=>by simp at z A;subst z;subst A;simp only[Eh];have:=If (S:=S) (S':=λ_=>false) (t:=t) os p (k+1) (bif S k then Ca o1.dst B.d env else env) (bif S k then Ca o1.dst B.d env else env) O λj x G u=>by{have:=q (j+1) x (by omega) (by simpa using G) u;rwa [show k+1+j=k+(j+1) by omega]};rw[this,LB _ _ _ _ λ_ _=>rfl];simp only[Gs]at D;simp[D,Lw C]
 |o1::os,B::p,k,env,i+1,o,s,z,A,C,D,q=>by simp only[Eh];exact YJ os p (k+1) _ i o s (by simpa using z) (by simpa using A) C (by rwa [show k+1+i=k+(i+1) by omega]) λj x G E u=>by{have:=q (j+1) x (by omega) (by simpa using E) u;rwa [show k+1+j=k+(j+1) by omega]}
def cW {S:Nat->Bool} {t:Nat}:∀(p:L1 Stp) (k:Nat) (st:St) (i:Nat) (s:Stp),p[i]?=some s->t∈s.wr.map (·.1)->S (k+i)=true->(∀j D,i<j->p[j]?=some D->t∈D.wr.map (·.1)->S (k+j)=false)->lk (Gm S p k st) t=lk s.wr t
 |[],k,st,i,s,h,_,_,_=>by simp at h
 |s1::p,k,st,0,s,x,z,A,q=>by simp at x;subst x;simp only[Gm];have:=Ja (S:=S) (S':=λ_=>false) (t:=t) p (k+1) (bif S k then s1.wr++st else st) (bif S k then s1.wr++st else st) O λj B E u=>by{have:=q (j+1) B (by omega) (by simpa using E) u;rwa [show k+1+j=k+(j+1) by omega]};rw[this,K0 _ _ _ λ_ _=>rfl];simp only[Gs]at A;simp only[A,bg];exact GC z
 |s1::p,k,st,i+1,s,x,z,A,q=>by simp only[Gm];exact cW p (k+1) _ i s (by simpa using x) z (by rwa [show k+1+i=k+(i+1) by omega]) λj B E C u=>by{have:=q (j+1) B (by omega) (by simpa using C) u;rwa [show k+1+j=k+(j+1) by omega]}
def VH {S S':Nat->Bool}:∀(p:L1 Stp) (k:Nat) (l:L1 Nat) (i:Nat) (s:Stp),p[i]?=some s->S (k+i)=false->S' (k+i)=true->(∀j,j≠k+i->S' j=S j)->(Hh S p k l).Perm (s.fr++Hh S' p k l)
 |[],k,l,i,s,h,_,_,_=>by simp at h
 |s1::p,k,l,0,s,x,z,u,q=>by simp at x;subst x;simp only[Gs]at z u q;simp only[Hh,z,u,bh,bg,HZ];have:∀(p:L1 Stp) (j:Nat),k<j->Hh S p j l=Hh S' p j l:=by{intro p;induction p with|nil=>intro j _;rfl|cons s p A=>{intro j B;simp only[Hh,q j (by omega),A (j+1) (by omega)]}};rw[this p (k+1) (by omega)]
 |s1::p,k,l,i+1,s,x,z,u,q=>by simp only[Hh,q k (by omega)];have:=VH (S:=S) (S':=S') p (k+1) l i s (by simpa using x) (by rwa [show k+1+i=k+(i+1) by omega]) (by rwa [show k+1+i=k+(i+1) by omega]) (λj B=>q j (by omega));exact(List.Perm.append_left _ this).trans (by{rw[<- Cl,<- Cl];exact List.Perm.append_right _ List.perm_append_comm})
def jR:∀(os:L1 Oper) (p:L1 Stp) (k:Nat) (env:Env) (st:St),Pk P Pn n all os p env st->∀(i:Nat) (o:Oper),os[i]?=some o->∃s,p[i]?=some s/\LD P Pn all o (Eh (λj=>decide (j<k+i)) os p k env) (Gm (λj=>decide (j<k+i)) p k st) s.rd s.fr s.wr s.d/\(∀t,o.dst=some t->t<n)/\(∀c,o.op≠.defer c)
 |[],_,_,_,_,_,i,o,h=>by simp at h
 |o1::os,[],_,_,_,h,_,_,_=>by simp[Pk]at h
 |o1::os,u::p,k,env,st,h,0,o,q=>by simp at q;subst q;obtain⟨z,A,B,_⟩:=h;refine⟨u,rfl,?_,A,B⟩;rw[LB _ _ _ _ (λj C=>by simp;omega),K0 _ _ _ (λj C=>by simp;omega)];exact z
 |o1::os,u::p,k,env,st,h,i+1,o,q=>by obtain⟨_,_,_,D⟩:=h;let⟨s,E,x,G⟩:=jR os p (k+1) _ _ D i o (by simpa using q);refine⟨s,by simpa using E,?_,G⟩;have e:k+1+i=k+(i+1):=by{omega};have H:decide (k<k+(i+1))=true:=by{simp};rw[e]at x;simp only[Eh,Gm,H,bg];exact x
def Q9:∀(os:L1 Oper) (p:L1 Stp) (env:Env) (st:St),Pk P Pn n all os p env st->p.length=os.length
 |[],[],_,_,_=>rfl
 |[],_::_,_,_,h=>by simp[Pk]at h
 |_::_,[],_,_,h=>by simp[Pk]at h
 |_::os,_::p,_,_,h=>by simp[Q9 os p _ _ h.2.2.2]
def VB {A:Array Oper}:∀{os:L1 Oper} {fs:L1 (L1 Nat×L1 Nat)} {i:Nat} {o:Oper} {f:L1 Nat×L1 Nat},os[i]?=some o->fs[i]?=some f->(gP A os fs)[i]?=some (Rv A o f)
 |[],_,i,o,f,h,_=>by simp at h
 |_::_,[],i,o,f,_,h=>by simp at h
 |_::_,_::_,0,o,f,p,q=>by simp at p q;simp[gP,p,q]
 |_::os,_::fs,i+1,o,f,p,q=>by simp only[gP,Vv];exact VB (by simpa using p) (by simpa using q)
def cD (S:Nat->Bool):Nat->Nat
 |0=>0
 |m+1=>cD S m+(bif S m then 0 else 1)
def jL {S:Nat->Bool}:∀{m:Nat},cD S m=0->∀j,j<m->S j=true
 |0,_,j,h=>by omega
 |m+1,h,j,p=>by simp only[cD,Nat.add_eq_zero_iff]at h;rcases zez.1 p with q|rfl;exact jL h.1 j q;cases u:S j with|true=>rfl|false=>{simp[u]at h}
def jM {S S':Nat->Bool}:∀{m:Nat},(∀j,j<m->S' j=S j)->cD S' m=cD S m
 |0,_=>rfl
 |m+1,h=>by have:=jM (S:=S) (S':=S') (m:=m) λj p=>h j (by omega);simp only[cD,h m (by omega),this]
def vI {S S':Nat->Bool} {i:Nat} (q:S i=false) (u:S' i=true) (p:∀j,j≠i->S' j=S j):∀{m:Nat},i<m->cD S' m+1=cD S m
 |0,h=>by omega
 |m+1,h=>by rcases zez.1 h with x|rfl;have:=vI q u p x;simp only[cD,p m (by omega)];omega;have:=jM (S:=S) (S':=S') (m:=i) λj z=>p j (by omega);simp only[cD,q,u,bh,bg];omega
def Ku (s:Stp):L1 Nat×L1 Nat:=(s.rd,s.wr.map (·.1))
def tt1:Nat->Bool:=λ_=>true
def NR (Q:DQ) (x:V):Prop:=Q (.panic x) [] [] []
def DD (P:Program) (n:Nat) (F:L1 Nat) (Q:DQ) (all rest:L1 Oper) (fs:L1 (L1 Nat×L1 Nat)) (k:L1 DI) (env:Env) (st:St) (aa:L1 Nat):Prop :=
 ∃p h,aa=Hh (λ_=>false) p 0 h/\Pk P (NR Q) n all rest p env st/\Q8 all (fs++p.map Ku)=true/\DGo P n F Q k (Eh tt1 rest p 0 env) (Gm tt1 p 0 st) h
def Po {S S':Nat->Bool}:∀(os:L1 Oper) (p:L1 Stp) (i j:Nat) (env:Env) (st:St) (l:L1 Nat),(∀m,S (i+m)=S' (j+m))->Eh S os p i env=Eh S' os p j env/\Gm S p i st=Gm S' p j st/\Hh S p i l=Hh S' p j l
 |os,[],i,j,env,st,l,_=>by cases os<;>exact⟨rfl,rfl,rfl⟩
 |os,s::p,i,j,env,st,l,h=>by have q:=h 0;simp only[Gs]at q;have z:∀m,S (i+1+m)=S' (j+1+m):=λm=>by{have:=h (m+1);rwa [show i+(m+1)=i+1+m by omega,show j+(m+1)=j+1+m by omega]at this};cases os with|nil=>obtain⟨_,u,x⟩:=Po [] p (i+1) (j+1) env (bif S' j then s.wr++st else st) l z;exact⟨rfl,by simp only[Gm,q,u],by simp only[Hh,q,x]⟩|cons o os=>{let⟨A,u,x⟩:=Po os p (i+1) (j+1) (bif S' j then Ca o.dst s.d env else env) (bif S' j then s.wr++st else st) l z;exact⟨by simp only[Eh,q,A],by simp only[Gm,q,u],by simp only[Hh,q,x]⟩}
def bJ {rest:L1 Oper} {fs:L1 (L1 Nat×L1 Nat)} {rd:L1 Nat} {wr:St} {d:D} (x:LD P (NR Q) all o env st rd fr wr d) (z:∀t,o.dst=some t->t<n) (q:∀c,o.op≠.defer c) (h:DD P n F Q all rest (fs++[(rd,wr.map (·.1))]) k (Ca o.dst d env) (wr++st) ids'):DD P n F Q all (o::rest) fs k env st (fr++ids'):=by obtain⟨u,p,A,B,C,E⟩:=h;refine⟨⟨rd,fr,wr,d⟩::u,p,?_,⟨x,z,q,B⟩,?_,?_⟩;simp only[Hh,bh,A];rw[(Po (S:=λ_=>false) (S':=λ_=>false) [] u 0 1 env st p λ_=>rfl).2.2];simpa[Ku]using C;have:=Po (S:=tt1) (S':=tt1) rest u 0 1 (Ca o.dst d env) (wr++st) p λ_=>rfl;simp only[Eh,Gm,tt1,bg]at this ⊢;rw[<- this.1,<- this.2.1];exact E
def zn0 {fs:L1 (L1 Nat×L1 Nat)} (p:Q8 all fs=true) (h:DGo P n F Q k env st aa):DD P n F Q all [] fs k env st aa:=⟨[],aa,rfl,ab,by simpa using p,h⟩
def gc:=@Nat.mod_lt
def b7:=@Ne.symm
def ap:=@of_decide_eq_true
def cl:=@of_decide_eq_false
def zg3 {id:Nat} (hm:P.follows .mixedOrders=true) (h:DD P n F Q all all [] k env st aa):DGo P n F Q (.code (.region id ⟨all⟩ true)::k) env st aa:=by
 obtain⟨q,D,hids,hch,hck,hfin⟩:=h;intro b cs I μ a w items V hc;obtain⟨is,rfl,hk⟩:=KU V;refine mI λt=>?_;simp only[Region.schedule,hm,Bool.true_or,ar];simp only[Q8,Am,HZ]at hck;obtain⟨hck,_⟩:=hck;have K:=Q9 _ _ _ _ hch;have hsp:=λ(S:Nat->Bool) (hS:Jz all S)=>Q7 hS all _ 0 [] [] hck O O O (by simp[OM]);have hedge:∀j o,all[j]?=some o->∀e∈o.after.toList,Ow e=true->e.on<j:=by
  intro j o u e he hb;have:=(hsp (λ_=>false) (λ_ _ _ h=>by cases h)).1 j o u e he hb;omega
 have hap:∀(S:Nat->Bool),Jz all S->∀i j oi C si J,all[i]?=some oi->all[j]?=some C->q[i]?=some si->q[j]?=some J->i<j->S i=false->S j=true ->
   ApartOI (Rv all.toArray oi (Ku si)) (Rv all.toArray C (Ku J)):=by
  intro S hS i j oi C si J h1 h2 h3 h4 hij W R;have hx:=VB (A:=all.toArray) h2 (f:=Ku J) (fs:=q.map Ku) (by simp[h4]);have hy:=VB (A:=all.toArray) h1 (f:=Ku si) (fs:=q.map Ku) (by simp[h3]);exact((hsp S hS).2 j _ hx (by simpa using R)).2 i _ hij hy (by simpa using W)
 suffices H:∀(E t:Nat) (p:Array Bool) (a':Act) (w':World) (c:U) (z:Mu),p.size=all.length->Jz all (λj=>p.getD j false)->cD (λj=>p.getD j false) all.length<=E ->
   Conc n c z (Eh (λj=>p.getD j false) all q 0 env) (Gm (λj=>p.getD j false) q 0 st) (Hh (λj=>p.getD j false) q 0 D) a' w'->Pin F μ z->a'.defers=a.defers ->
   Ext I μ st w c z (Gm (λj=>p.getD j false) q 0 st) w' ->
   Reach P b.1 cs (Post n F Q a.defers I μ st w) (.inRegion all.toArray (Region.linearise.go .any all.toArray E t p [])::is) a' w' by
  have hf:(λj=>(Array.replicate all.length false).getD j false)=λ_=>false:=by
   funext j;by_cases u:j<all.length<;>simp[u]
  refine H all.length t (Array.replicate all.length false) a { w with drawn:=w.drawn+1 } I μ (by simp) ?_ ?_ ?_ (.refl _ _) O ?_
  ·rw[hf];intro j o _ h;cases h
  ·rw[hf];have:∀m,cD (λ_=>false) m<=m:=λm=>by induction m with
    |zero=>simp[cD]
    |succ m ih=>simp only[cD,bh];omega
   exact this _
  ·rw[hf,LB _ _ _ _ λ_ _=>rfl,K0 _ _ _ λ_ _=>rfl,<- hids];exact hc.drew
  ·rw[hf,K0 _ _ _ λ_ _=>rfl];exact .drew I μ st w
 have hdone:∀(S:Nat->Bool) (a':Act) (w':World) (c:U) (z:Mu),(∀j,j<all.length->S j=true)->Conc n c z (Eh S all q 0 env) (Gm S q 0 st) (Hh S q 0 D) a' w'->Pin F μ z->a'.defers=a.defers ->
   Ext I μ st w c z (Gm S q 0 st) w'->Reach P b.1 cs (Post n F Q a.defers I μ st w) (.inRegion all.toArray []::is) a' w':=by
  intro S a' w' c z L N hp f hE;have he:∀t,lk (Eh S all q 0 env) t=lk (Eh tt1 all q 0 env) t:=λt=>If _ _ _ _ _ O λj o u _=>by
   have:=L j (A9.1 u).1;simpa[tt1]using this
  have hs:∀t,lk (Gm S q 0 st) t=lk (Gm tt1 q 0 st) t:=λt=>Ja _ _ _ _ O λj s u _=>by
   have:=L j (by rw[<- K];exact(A9.1 u).1);simpa[tt1]using this
  have hi:∀(q:L1 Stp) (k:Nat),(∀j,j<k+q.length->S j=true)->Hh S q k D=D:=by
   intro q
   induction q with
   |nil=>intro k _;rfl
   |cons s q ih=>
    intro k hk;simp only[Hh,hk k (by simp),bg,HZ];exact ih (k+1) λj u=>hk j (by simp at u ⊢;omega)
  rw[hi q 0 (λj u=>L j (by omega))]at N;refine Gz ?_;have hC':Conc n c z (Eh tt1 all q 0 env) (Gm tt1 q 0 st) D a' w':={ N.toStRep.congr hs with size:=N.size,env:=λt d hl=>N.env t d (by rw[he];exact hl),defers:=N.defers.congr hs }
  have:=hfin b cs c z a' w' is hk hC';rw[f]at this;exact this.mono λe a2 w2 hq=>hq.back hp (hE.congr (λ_=>rfl) hs)
 intro E
 induction E with
 |zero=>
  intro t p a' w' c z hsz hdc hcnt N hp f hE;simp only[Region.linearise.go,List.reverse_nil];exact hdone _ a' w' c z (λj u=>jL (Nat.le_zero.1 hcnt) j u) N hp f hE
 |succ E ih=>
  intro t p a' w' c z hsz hdc hcnt N hp f hE;simp only[Region.linearise.go];change Reach P b.1 cs (Post n F Q a.defers I μ st w) (.inRegion all.toArray (match(Region.ready .any all.toArray p)[t % (Region.ready .any all.toArray p).length]? with
   |some i=>Region.linearise.go .any all.toArray E (t / (Region.ready .any all.toArray p).length) (p.setIfInBounds i true) [i]
   |none=>[].reverse)::is) a' w'
  have hgd:∀j,j<all.length->p.getD j true=p.getD j false:=λj u=>by simp[hsz,u]
  cases hi:(Region.ready .any all.toArray p)[t % (Region.ready .any all.toArray p).length]? with
  |none=>
   have hnil:Region.ready .any all.toArray p=[]:=by
    cases hr:Region.ready .any all.toArray p with
    |nil=>rfl
    |cons x xs=>
     rw[hr]at hi;have r:t % (x::xs).length<(x::xs).length:=gc _ (by simp);simp at hi;simp at r;omega
   have L:∀m j,j<m->j<all.length->p.getD j false=true:=by
    intro m
    induction m with
    |zero=>intro j u;omega
    |succ m ihm=>
     intro j u hja;cases hS:p.getD j false with
     |true=>rfl
     |false=>
      have l:j∈Region.ready .any all.toArray p:=by
       refine mem_ready.2 ⟨by rw[hgd j hja,hS],all[j],by simp[hja],λe he hb=>?_⟩;have r:=hedge j all[j] (by simp[hja]) e (by simpa using he) (by rw[YL];exact hb);exact ihm e.on (by omega) (by omega)
      rw[hnil]at l;cases l
   exact hdone _ a' w' c z (λj u=>L (j+1) j (by omega) u) N hp f hE
  |some i=>
   simp only[];rw[linearise_go_acc,List.reverse_singleton,Lv];have l:=AF hi;let⟨hun,o,ho,hbef⟩:=mem_ready.1 l;have hil:i<all.length:=by
    have:=(GS.1 ho).1;simpa using this
   have W:p.getD i false=false:=by rw[<- hgd i hil];exact hun
   have y:all[i]?=some o:=by simpa using ho
   let⟨s,hs,hLD,hn,hnd⟩:=jR all q 0 env st hch i o y;simp only[BS]at hLD;have hS':∀j,(p.setIfInBounds i true).getD j false=(bif Nat.beq j i then true else p.getD j false):=by
    intro j;by_cases u:j=i
    ·subst u;simp[hsz,hil]
    ·have:Nat.beq j i=false:=by
      cases hb:Nat.beq j i with
      |false=>rfl
      |true=>exact absurd (CU hb) u
     simp[this,Hd (b7 u)]
   have G:(p.setIfInBounds i true).getD i false=true:=by rw[hS'];simp
   have A:∀j,j≠i->(p.setIfInBounds i true).getD j false=p.getD j false:=by
    intro j u;rw[hS'];have:Nat.beq j i=false:=by
     cases hb:Nat.beq j i with
     |false=>rfl
     |true=>exact absurd (CU hb) u
    simp[this]
   have hdc':Jz all (λj=>(p.setIfInBounds i true).getD j false):=by
    intro j C u R e he hb;by_cases B:j=i
    ·subst B;rw[y]at u;cases u;have:=hbef e (by simpa using he) (by rw[<- YL];exact hb);by_cases hei:e.on=j
     ·rw[hei];exact G
     ·exact(A _ hei).trans this
    ·have hSj':p.getD j false=true:=by have:=A j B;simp only at R;rw[this]at R;exact R
     have:=hdc j C u hSj' e he hb;by_cases hei:e.on=i
     ·rw[hei];exact G
     ·exact(A _ hei).trans this
   have hA:∀j C J,all[j]?=some C->q[j]?=some J->j≠i->p.getD j false≠decide (j<i)->ApartOI (Rv all.toArray o (Ku s)) (Rv all.toArray C (Ku J)):=by
    intro j C J h1 h2 B hne;by_cases r:j<i
    ·have hf:p.getD j false=false:=by
      cases h:p.getD j false with
      |false=>rfl
      |true=>exact absurd (by rw[h];simp[r]) hne
     exact(hap _ hdc' j i C o J s h1 y h2 hs r ((A j B).trans hf) G).symm
    ·have hf:p.getD j false=true:=by
      cases h:p.getD j false with
      |true=>rfl
      |false=>exact absurd (by rw[h];simp[r]) hne
     exact hap _ hdc i j o C s J y h1 hs h2 (by omega) W hf
   have hss:∀j C,all[j]?=some C->∃J,q[j]?=some J:=λj C h=>by
    have:j<q.length:=by rw[K];exact(A9.1 h).1
    exact⟨_,Bq this⟩
   have hoo:∀j J,q[j]?=some J->∃C,all[j]?=some C:=λj C h=>by
    have:j<all.length:=by rw[<- K];exact(A9.1 h).1
    exact⟨_,Bq this⟩
   have hag:Agree s.rd (Gm (λj=>decide (j<i)) q 0 st) (Gm (λj=>p.getD j false) q 0 st):=by
    intro id hid;refine Ja _ _ _ _ O λj J u hw=>?_;rw[BS];by_cases B:j=i
    ·subst B;rw[W];simp
    ·let⟨C,hoj⟩:=hoo j J u;cases hq:decide (p.getD j false=decide (j<i))with
     |true=>exact ap hq
     |false=>exact absurd hid ((hA j C J hoj u B (cl hq)).e id hw)
   have hel:∀t∈o.looksAt all.toArray,lk (Eh (λj=>p.getD j false) all q 0 env) t=lk (Eh (λj=>decide (j<i)) all q 0 env) t:=by
    intro t ht;refine If _ _ _ _ _ O λj C u V=>?_;rw[BS];by_cases B:j=i
    ·subst B;rw[W];simp
    ·let⟨J,hsj⟩:=hss j C u;cases hq:decide (p.getD j false=decide (j<i))with
     |true=>exact ap hq
     |false=>exact absurd ht ((hA j C J u hsj B (cl hq)).b t V)
   have hperm:=VH (S:=λj=>p.getD j false) (S':=λj=>(p.setIfInBounds i true).getD j false) q 0 D i s hs (by simpa using W) (by simpa using G) (λj u=>A j (by omega));have hEnv:∀t,lk (Ca o.dst s.d (Eh (λj=>p.getD j false) all q 0 env)) t=lk (Eh (λj=>(p.setIfInBounds i true).getD j false) all q 0 env) t:=by
    intro t;by_cases V:o.dst=some t
    ·rw[Lw V];refine(YJ all q 0 env i o s y hs V (by simpa using G) λj o' hij u g=>?_).symm;let⟨J,hsj⟩:=hss j o' u;simp only[BS];rw[A j (by omega)];cases hq:p.getD j false with
     |false=>rfl
     |true=>exact absurd g ((hA j o' J u hsj (by omega) (by rw[hq];simp;omega)).c t V)
    ·rw[Vz V];refine If _ _ _ _ _ O λj C u g=>?_;simp only[BS];have B:j≠i:=λe=>by subst e;rw[y]at u;cases u;exact V g
     rw[A j B]
   have hSt:∀t,lk (s.wr++Gm (λj=>p.getD j false) q 0 st) t=lk (Gm (λj=>(p.setIfInBounds i true).getD j false) q 0 st) t:=by
    intro t;by_cases V:t∈s.wr.map (·.1)
    ·rw[GC V];refine(cW q 0 st i s hs V (by simpa using G) λj s' hij u g=>?_).symm;let⟨C,hoj⟩:=hoo j s' u;simp only[BS];rw[A j (by omega)];cases hq:p.getD j false with
     |false=>rfl
     |true=>exact absurd g ((hA j C s' hoj u (by omega) (by rw[hq];simp;omega)).f t V)
    ·rw[KH V];refine Ja _ _ _ _ O λj J u g=>?_;simp only[BS];have B:j≠i:=λe=>by subst e;rw[hs]at u;cases u;exact V g
     rw[A j B]
   let⟨hl1,hl2⟩:=hLD c z _ _ a' w' hag (N.toStRep.perm hperm) (λt ht d hl=>N.env t d (by rw[hel t ht];exact hl));have cont:∀v w2 I2 T,StRep I2 T (s.wr++Gm (λj=>p.getD j false) q 0 st) (Hh (λj=>(p.setIfInBounds i true).getD j false) q 0 D) w2->X I2 T v s.d->z.le T ->
     Ext c z (Gm (λj=>p.getD j false) q 0 st) w' I2 T (s.wr++Gm (λj=>p.getD j false) q 0 st) w2 ->
     Reach P b.1 cs (Post n F Q a.defers I μ st w) (.inRegion all.toArray (Region.linearise.go .any all.toArray E (t / (Region.ready .any all.toArray p).length) (p.setIfInBounds i true) [])::is) (a'.put o.dst v) w2:=by
    intro v w2 I2 T q1 q2 q3 q4;let⟨p1,p2,p3⟩:=HN (n:=n) (w:=w2) (dst:=o.dst) (λt d hl=>(N.env t d hl).mono q4.imm q3) N.size hn q2;refine ih _ (p.setIfInBounds i true) _ w2 I2 T (by simp[hsz]) hdc' ?_ ?_ (hp.trans (.of_le q3)) (p3.trans f) (hE.trans (q4.congr (λ_=>rfl) hSt))
    ·have:=vI (S:=λj=>p.getD j false) (S':=λj=>(p.setIfInBounds i true).getD j false) W G A hil;omega
    ·refine { q1.congr hSt with size:=p2,env:=λt d hl=>?_,defers:=by rw[p3];exact(N.defers.ext q4).congr hSt };rw[<- hEnv t]at hl;have:Ca o.dst s.d (Eh (λj=>p.getD j false) all q 0 env)=(match o.dst with|some t=>(t,s.d)::Eh (λj=>p.getD j false) all q 0 env|none=>Eh (λj=>p.getD j false) all q 0 env):=by
      cases o.dst<;>rfl
     rw[this]at hl;exact p1 t d hl
   by_cases hw:Region.wanted o (yielded all.toArray a'.tmps)=true
   ·refine Gq ho hw hnd (valX.upon ((hl1 hw).mono (λv w2 ⟨I2,T,q1,q2,q3,q4⟩=>cont v w2 I2 T q1 q2 q3 q4) λchain w2 hx=>?_));obtain⟨v,x,I2,q1,q2,q3,q4,q5⟩:=hx;refine⟨.panic x,[],[],[],I2,z,⟨v,q1,q3⟩,q2,?_,hp,hE.trans q5,by rw[f];exact .refl _ _⟩;exact MS q4 N.size (N.defers.ext q5)
   ·have hw':Region.wanted o (yielded all.toArray a'.tmps)=false:=by simpa using hw
    let⟨e1,e2,e3⟩:=hl2 hw';refine Lm ho hw'<|cont undef w' c z ?_ e3 (Mu.le_refl z) ?_
    ·rw[e1];have:=N.toStRep.perm hperm;rw[e2]at this;exact this
    ·rw[e1];exact Ext.refl _ _ _ _
def zpp {all rest:L1 Oper} {d:D} {rd:L1 Nat} {wr:St} (A:LD P (NR Q) all o env st rd fr wr d) (hn:∀t,o.dst=some t->t<n) (L:∀c,o.op≠.defer c) (h:DGo P n F Q (.ops all rest::k) (Ca o.dst d env) (wr++st) ids'):DGo P n F Q (.ops all (o::rest)::k) env st (fr++ids'):=by intro b cs I μ a w N hd q;obtain⟨j,r,rfl,hr,hk⟩:=JX hd;let⟨s,T⟩:=EW hr;have V:LR (o.looksAt all.toArray) I μ env a:=λt _ d A=>q.env t d A;let⟨W,f⟩:=A I μ st ids' a w (λ_ _=>rfl) q.toStRep V;have cont:∀v w' B p,StRep B p (wr++st) ids' w'->X B p v d->μ.le p->Ext I μ st w B p (wr++st) w'->Reach P b.1 cs (Post n F Q a.defers I μ st w) (.inRegion all.toArray (List.range' (j+1) rest.length)::r) (a.put o.dst v) w':=by{intro v w' B p C E z u;let⟨p1,p2,y⟩:=HN (n:=n) (w:=w') (dst:=o.dst) (λt d A=>(q.env t d A).mono u.imm z) q.size hn E;have:=h b cs B p (a.put o.dst v) w' (.inRegion all.toArray (List.range' (j+1) rest.length)::r) ⟨⟨rfl,j+1,T,rfl⟩,hk⟩ {C with size:=p2,env:=by cases G:o.dst<;>simpa[Ca,G]using p1,defers:=by rw[y];exact q.defers.ext u };rw[y]at this;exact this.mono λe a' w'' hp=>hp.back (.of_le z) u};have H:(o::rest).length=rest.length+1:=rfl;rw[H,Ms];by_cases g:Region.wanted o (yielded all.toArray a.tmps)=true;refine Gq s g L (valX.upon ((W g).mono (λv K ⟨i,l,C,E,u,z⟩=>cont v K i l C E u z) λm K hx=>?_));obtain⟨v,x,i,C,E,u,z,R⟩:=hx;refine⟨.panic x,[],[],[],i,μ,⟨v,C,u⟩,E,?_,.refl _ _,R,.refl _ _⟩;exact MS z q.size (q.defers.ext R);have J:Region.wanted o (yielded all.toArray a.tmps)=false:=by{simpa using g};let⟨S,e2,e3⟩:=f J;refine Lm s J<|cont undef w I μ ?_ e3 (Mu.le_refl μ) ?_;rw[S];have:=q.toStRep;rw[e2]at this;exact this;rw[S];exact Ext.refl _ _ _ _
end
end Go.Hk
