/- Regions whose order is drawn: any order leads where the order of index leads. (And what it stands on.) -/
import Derived.Orders
import Derived.Laws.Concat
import Derived.Laws.BytesString
import Derived.Laws.Slices
import Derived.Laws.Strings3
import Derived.RangeFuncNested
set_option linter.all false
set_option maxRecDepth 100000
set_option maxHeartbeats 4000000
namespace Go.Hk
abbrev L1.{u} (α:Type u):Type u:=List α
def O.{u} {α:Sort u} {a:α}:a=a:=rfl
variable {P:Program} {w w':World} {v g:Value} {t e s:TypeId} {a a':Act} {o:Oper} {aa Kr F fr:L1 Nat} {ob E:L1 Prop} {C:Prop} {u H L M N T α U W α9 β:Type} {vs:L1 Value} {c y:Code} {off n b i sz l f j m:Nat} {S S':Nat->Bool} {dst:Option Nat} {cs:L1 Frame} {Q:Exit->Act->World->Prop} {k:L1 Item} {r:Result Next} {K K':Value->World->Prop} {ds:L1 Deferred} {ps:Array (Nat×Operand)} {R:Ending->World->Prop} {w0:Bool}
def ab:=@trivial
def AD {h:u}:h=h/\True:=⟨rfl,ab⟩
def AB {h:u} {p:H} {q:L}:h=h/\p=p/\q=q/\True:=⟨rfl,rfl,rfl,ab⟩
def AL {h:u} {p:H}:h=h/\p=p/\True:=⟨rfl,rfl,ab⟩
def BA {h:u} {p:H} {q:L} {x:M} {z:N}:h=h/\p=p/\q=q/\x=x/\z=z/\True:=⟨rfl,rfl,rfl,rfl,rfl,ab⟩
def B9 {h:u} {p:H} {q:L} {x:M}:h=h/\p=p/\q=q/\x=x/\True:=⟨rfl,rfl,rfl,rfl,ab⟩
def Az {h:u} {p:H} {q:L}:(h=h/\p=p/\q=q)/\True:=⟨⟨rfl,rfl,rfl⟩,ab⟩
def oO {h:u} {p:H} {q:L} {x:M} {z:N} {A:T}:(h=h/\p=p/\q=q)/\(x=x/\z=z/\A=A)/\True:=⟨⟨rfl,rfl,rfl⟩,⟨rfl,rfl,rfl⟩,ab⟩
def IR {h p q:Type} {B:u} {C:H} {D:L} {E:M} {G:N} {J:T} {V:U} {a:W} {b:α9} {x:h} {z:p} {A:q}:(B=B/\C=C/\D=D)/\(E=E/\G=G/\J=J)/\(V=V/\a=a/\b=b)/\(x=x/\z=z/\A=A)/\True:=⟨⟨rfl,rfl,rfl⟩,⟨rfl,rfl,rfl⟩,⟨rfl,rfl,rfl⟩,⟨rfl,rfl,rfl⟩,ab⟩
def GW {h:u} {p:H} {q:L} {x:M} {z:N} {A:T}:h=h/\p=p/\q=q/\x=x/\z=z/\A=A/\True:=⟨rfl,rfl,rfl,rfl,rfl,rfl,ab⟩
def MT {h:u} {p:H} {q:L} {x:M} {z:N} {A:T} {B:U}:h=h/\p=p/\q=q/\x=x/\z=z/\A=A/\B=B/\True:=⟨rfl,rfl,rfl,rfl,rfl,rfl,rfl,ab⟩
def JG {h:u} {p:H} {q:L} {x:M} {z:N} {A:T} {B:U} {C:W}:h=h/\p=p/\q=q/\x=x/\z=z/\A=A/\B=B/\C=C/\True:=⟨rfl,rfl,rfl,rfl,rfl,rfl,rfl,rfl,ab⟩
def VF {h:u} {p:H} {q:L} {x:M} {z:N} {A:T} {B:U} {C:W} {D:α9}:h=h/\p=p/\q=q/\x=x/\z=z/\A=A/\B=B/\C=C/\D=D/\True:=⟨rfl,rfl,rfl,rfl,rfl,rfl,rfl,rfl,rfl,ab⟩
def gQ {h p q x z A B C D E G J:Type} {m:u} {n:H} {o:L} {r:M} {s:N} {t:T} {v:U} {w:W} {y:α9} {V:h} {a:p} {b:q} {c:x} {d:z} {e:A} {f:B} {g:C} {i:D} {j:E} {k:G} {l:J}:(m=m/\n=n/\o=o)/\(r=r/\s=s/\t=t)/\(v=v/\w=w/\y=y)/\(V=V/\a=a/\b=b)/\(c=c/\d=d/\e=e)/\(f=f/\g=g/\i=i)/\(j=j/\k=k/\l=l)/\True:=⟨⟨rfl,rfl,rfl⟩,⟨rfl,rfl,rfl⟩,⟨rfl,rfl,rfl⟩,⟨rfl,rfl,rfl⟩,⟨rfl,rfl,rfl⟩,⟨rfl,rfl,rfl⟩,⟨rfl,rfl,rfl⟩,ab⟩
def A4 {h:u} {p:H} {q:L} {x:M} {z:N} {A:T} {B:U} {C:W} {D:α9}:(h=h/\p=p/\q=q)/\(x=x/\z=z/\A=A)/\(B=B/\C=C/\D=D)/\True:=⟨⟨rfl,rfl,rfl⟩,⟨rfl,rfl,rfl⟩,⟨rfl,rfl,rfl⟩,ab⟩
def F1 {h:u} {p:H} {q:L} {x:M} {z:N} {A:T}:(h=h/\p=p)/\(q=q/\x=x)/\(z=z/\A=A)/\True:=⟨⟨rfl,rfl⟩,⟨rfl,rfl⟩,⟨rfl,rfl⟩,ab⟩
def gP {h p q x z A:Type} {V:u} {a:H} {b:L} {c:M} {d:N} {e:T} {f:U} {g:W} {i:α9} {B:h} {C:p} {D:q} {E:x} {G:z} {J:A}:(V=V/\a=a/\b=b)/\(c=c/\d=d/\e=e)/\(f=f/\g=g/\i=i)/\(B=B/\C=C/\D=D)/\(E=E/\G=G/\J=J)/\True:=⟨⟨rfl,rfl,rfl⟩,⟨rfl,rfl,rfl⟩,⟨rfl,rfl,rfl⟩,⟨rfl,rfl,rfl⟩,⟨rfl,rfl,rfl⟩,ab⟩
def Si:=@Array.getElem?_eq_getElem
def Dm:=@Nat.eq_of_beq_eq_true
def CC:=@List.mem_map
def B6:=@Nat.le_refl
def zks:=@Nat.le_trans
def Yj:=@Nat.lt_of_lt_of_le
def Ht:=@Array.getElem?_eq_some_iff
def Co:=@Option.some.injEq
def Cu:=@List.mem_cons
def AT:=@List.mem_append
def AP:=@Prod.mk.injEq
def QJ:=@Array.length_toList
def Cx:=@List.getElem?_map
def E9:=@Option.map_eq_some_iff
def M4:=@List.getElem?_eq_none
def Bi:=@List.getElem?_eq_getElem
def Z6:=@Nat.add_assoc
def OW:=@List.mem_range
def Ea:=@List.getElem?_take
def F7:=@List.getElem?_drop
def jK:=@List.drop_zero
def Df:=@List.take_of_length_le
def QI:=@List.ext_getElem?
def TK:=@List.mem_of_mem_drop
def OV:=@List.mem_of_mem_take
def A9:=@List.getElem?_eq_some_iff
def zft:=@List.extract_eq_take_drop
def Wr:=@Array.getElem?_toList
def AE:=@List.mem_of_getElem?
def M3:=@List.foldl_cons
def CK:=@List.map_cons
def BU:=@Nat.zero_add
def K0:=@List.getElem_mem
def ID:=@Option.getD_some
def zfs:=@List.take_zero
def Wq:=@Nat.add_mul
def zfr:=@List.zipIdx_cons
def C1:=@List.length_cons
def jJ:=@List.take_append
def HR:=@List.length_take
def zfq:=@List.take_take
def Bt:=@List.drop_eq_nil_of_le
def JJ:=@List.nil_append
def wR:=@List.drop_drop
def Bo:=@List.length_append
def Jd:=@Nat.add_zero
def Jc:=@List.getElem?_set_self
def HQ:=@List.getElem?_set_ne
def Jb:=@List.eq_nil_of_length_eq_zero
def zna:=@List.getElem?_cons_zero
def QH:=@List.flatten_cons
def wQ:=@List.take_append_drop
def JI:=@List.length_drop
def H4:=@List.mem_cons_of_mem
def Kz:=@Nat.blt_eq
def zfp:=@List.mapM_cons
def OU:=@List.map_toArray
def FQ:=@Option.map_some
def QG:=@List.toList_toArray
def M2:=@List.getElem?_append_left
def Ky:=@List.getElem?_append_right
def Kx:=@Nat.succ_mul
def zfo:=@Nat.le_of_ble_eq_true
def H3:=@List.getElem?_of_mem
def jI:=@Nat.min_eq_left
def Lk:=@Option.some.inj
def zm9:=@Nat.mul_le_mul_left
def M1:=@List.append_nil
def TJ:=@Int.toNat_of_nonneg
def AK:=@Nat.zero_le
def GI:=@List.nodup_cons
def CD:=@List.length_map
def H2:=@Array.getElem?_setIfInBounds_ne
def Z5:=@List.range_eq_range'
def OT:=@List.range'_succ
def E8:=@Option.bind_some
def KN:=@Bool.not_eq_true'
def Am:=@Bool.and_eq_true
def EJ:=@Bool.or_eq_true
def PH:=@List.getElem?_append
def DV:=@List.cons_append
def CV:=@List.append_assoc
def Nm:=@List.getElem?_cons_succ
def zf4:=@Nat.lt_succ_iff_lt_or_eq
def PG:=@List.singleton_append
def Cr:=@List.cons.injEq
def rB:=@List.reverse_cons
def Im:=@List.mem_append_left
def Il:=@List.mem_append_right
def D2:=@List.nodup_append
def Nl:=@Array.toList_append
def EI:=@List.mem_iff_getElem?
def zf3:=@Nat.div_lt_of_lt_mul
def W0:=@Nat.mul_comm
def rA:=@Nat.div_add_mod
def KM:=@List.map_nil
def zf2:=@List.flatten_append
def dG:=@List.size_toArray
def qZ:=@List.take_left
def IW:=@Nat.mul_le_mul_right
def zf1:=@List.length_pos_iff
def Du:=@List.all_eq_true
def Wz:=@List.mem_map_of_mem
def AJ:=@List.mem_singleton
def qY:=@List.filter_cons
def En:=@Bool.false_eq_true
def qX:=@Int.le_total
def qW:=@Int.max_eq_right
def qV:=@Int.max_eq_left
def qU:=@Int.min_eq_left
def qT:=@Int.min_eq_right
def PF:=@Int.le_refl
def Mc:=@List.map_congr_left
def CG:=@List.map_append
def dF:=@Option.map_none
def Wy:=@List.map_map
def PE:=@Bool.and_assoc
def C8:=@List.sizeOf_lt_of_mem
def Em:=@List.all_cons
def Mb:=@Bool.or_eq_false_iff
def qS:=@List.map_take
def qR:=@Array.ext_getElem?
def dE:=@Array.getElem?_modify
def Wx:=@Array.getElem?_push
def dD:=@Nat.lt_irrefl
def dC:=@Array.eq_empty_of_size_eq_zero
def dB:=@Bool.and_eq_true_iff
def PD:=@Bool.and_eq_false_iff
def dA:=@List.getElem?_set
def Ga:=@Bool.eq_iff_iff
def Nk:=@Bool.true_and
def qQ:=@List.any_eq_not_all_not
def Ww:=@Bool.not_eq_true
def Sg:=@List.all_map
def Ik:=@List.all_append
def JK:=@List.not_mem_nil
def Wv:=@List.mem_cons_self
def cZ:=@Bool.or_assoc
def Nj:=@Option.isSome_iff_exists
def Sf:=@List.set_cons_zero
def PC:=@List.set_cons_succ
def Wu:=@List.mem_or_eq_of_mem_set
def Cj:=@List.length_nil
def zf0:=@Nat.add_sub_cancel_left
def IV:=@List.length_set
def Wt:=@Bool.false_or
def IU:=@List.map_set
def Ij:=@List.length_singleton
def cY:=@List.length_eq_one_iff
def Ma:=@Nat.sub_self
def qP:=@List.mem_filter
def zfz:=@List.range'_append_1
def Ni:=@List.getElem?_eq_none_iff
def qO:=@List.set_append
def zfy:=@List.length_mergeSort
def Ws:=@Bool.and_self
def qN:=@List.foldl_append
def qM:=@List.foldl_nil
def zfx:=@Array.filter_eq_empty_iff
def zfw:=@Array.mem_of_getElem?
def qL:=@List.getElem?_inj
def qK:=@List.zip_cons_cons
def CN:=@Nat.lt_succ_self
def cX:=@List.range_succ
def P9:=@Nat.lt_trichotomy
def Nh:=@List.length_eq_zero_iff
def qJ:=@Bool.false_and
def KL:=@List.any_append
def P8:=@List.take_length
def Fb:=@List.any_eq_true
def Ng:=@List.all_nil
def P7:=@Bool.and_true
def qI:=@List.set_append_right
def zfv:=@Array.getElem?_setIfInBounds_self_of_lt
def qH:=@List.idxOf_lt_length_iff
def cW:=@Int.ofNat_inj
def zfu:=@Option.bind_eq_some_iff
def q8 (P:Program) (m:Machine) (b:Frame) (cs:L1 Frame):Exit->Act->World->Prop
 |.normal,a,w=>Steps P m (lone (b.atR a []) cs w)
 |.ret,a,w=>∃k,Steps P m (lone (b.atR a<|.code .ret::k) cs w)
 |.exit id,a,w=>∃k,exitTo id k=none/\Steps P m (lone (b.atR a<|.code (.exit id)::k) cs w)
 |.goto l,a,w=>∃k,gotoIn l k=none/\Steps P m (lone (b.atR a<|.code (.goto l)::k) cs w)
 |.panic h,a,w=>∃p,Steps P m (lone { b.atR a p with mode:=.panicking h } cs w)
 |.outgrown,_,_=>False
def q8.of_steps {m p:Machine} {b:Frame} {e:Exit} (h:Steps P m p) (u:q8 P p b cs e a w):q8 P m b cs e a w:=by cases e with|normal=>exact h.trans u|ret=>obtain⟨k,q⟩:=u;exact⟨k,h.trans q⟩|exit id=>obtain⟨k,z,q⟩:=u;exact⟨k,z,h.trans q⟩|goto l=>obtain⟨k,z,q⟩:=u;exact⟨k,z,h.trans q⟩|panic A=>obtain⟨x,q⟩:=u;exact⟨x,h.trans q⟩|outgrown=>{exact u}
def Reach (P:Program) (b:Frame) (cs:L1 Frame) (Q:Exit->Act->World->Prop) (h:L1 Item) (a:Act) (w:World):Prop :=
 ∃e a' w',Q e a' w'/\q8 P (lone (b.atR a h) cs w) b cs e a' w'
section
variable {b:Frame}
def Reach.mono {q:Exit->Act->World->Prop} {p:L1 Item} (u:∀e a w,Q e a w->q e a w) (h:Reach P b cs Q p a w):Reach P b cs q p a w:=let⟨e,a',w',x,z⟩:=h;⟨e,a',w',u _ _ _ x,z⟩
def Reach.step {q p:L1 Item} (u:step P (lone (b.atR a q) cs w)=.next (lone (b.atR a' p) cs w')) (h:Reach P b cs Q p a' w'):Reach P b cs Q q a w:=let⟨e,x,z,A,B⟩:=h;⟨e,x,z,A,.of_steps (.one u) B⟩
def pE (h:Reach P b cs Q k a w):Reach P b cs Q (.code .skip::k) a w:=h.step stepR_skip
def iC (h:Reach P b cs Q k a w):Reach P b cs Q (.code (.label l)::k) a w:=h.step stepR_label
def Yd {id:Nat} (h:Reach P b cs Q k a w):Reach P b cs Q (.inBlock id::k) a w:=h.step stepR_inBlock
def ck:=@step_lone_go
def Yc (h:Reach P b cs Q k a w):Reach P b cs Q (.inScope c::k) a w:=h.step<|ck (by simp[stepG,stepG.exec,Frame.atR])
def iB (h:Reach P b cs Q (.code c::.inScope c::k) a w):Reach P b cs Q (.code (.scope c)::k) a w:=h.step<|ck (by simp[stepG,stepG.exec,Frame.atR])
def zac {x:Code} (h:Reach P b cs Q (.code x::.code y::k) a w):Reach P b cs Q (.code (.seq x y)::k) a w:=h.step stepR_seq
def pI {c:Operand} {x:Code} {t:Bool} (p:a.eval c=.bool t) (h:Reach P b cs Q (.code (if t then x else y)::k) a w):Reach P b cs Q (.code (.cond c x y)::k) a w:=h.step<|stepR_cond p
def iD {id:Nat} (h:Reach P b cs Q (.code c::.inBlock id::k) a w):Reach P b cs Q (.code (.block id c)::k) a w:=h.step stepR_block
def pF (h:Reach P b cs Q (.code c::.inLoop c::k) a w):Reach P b cs Q (.code (.loop c)::k) a w:=h.step stepR_loop
def cK (h:Reach P b cs Q (.code c::.inLoop c::k) a w):Reach P b cs Q (.inLoop c::k) a w:=h.step stepR_inLoop
def pG {id:Nat} {k':L1 Item} (p:exitTo id k=some k') (h:Reach P b cs Q k' a w):Reach P b cs Q (.code (.exit id)::k) a w:=h.step<|stepR_exit p
def LQ {id:Nat} {ops:Array Oper} (h:Reach P b cs Q (.inRegion ops (List.range ops.size)::k) a w):Reach P b cs Q (.code (.region id ops false)::k) a w:=h.step stepR_region
def pH {id:Nat} {ops:Array Oper} (h:∀t,Reach P b cs Q (.inRegion ops (Region.schedule (P.follows .mixedOrders) ops t)::k) a { w with drawn:=w.drawn+1 }):Reach P b cs Q (.code (.region id ops true)::k) a w:=(h _).step stepR_region_draw
def GN {ops:Array Oper} (h:Reach P b cs Q k a w):Reach P b cs Q (.inRegion ops []::k) a w:=h.step stepR_region_end
abbrev K1:=L1 Nat
def LR {ops:Array Oper} {rest:K1} (p:ops[i]?=some o) (q:Region.wanted o (yielded ops a.tmps)=false) (h:Reach P b cs Q (.inRegion ops rest::k) (a.put o.dst undef) w):Reach P b cs Q (.inRegion ops (i::rest)::k) a w:=by refine Reach.step (a':=a.put o.dst undef) ?_ h;have:=stepR_op_skip (P:=P) (b:=b) (a:=a) (k:=k) (cs:=cs) (w:=w) (ops:=ops) (i:=i) (rest:=rest) (by simp[p,q]);simpa[p]using this
def zae (h:Q .normal a w):Reach P b cs Q [] a w:=⟨.normal,a,w,h,.refl _ _⟩
def zad (h:Q .ret a w):Reach P b cs Q (.code .ret::k) a w:=⟨.ret,a,w,h,k,.refl _ _⟩
def Td (P:Program) (o:Oper) (a:Act) (next:Act->World->Prop) (u:L1 PanicEntry->World->Prop):Result Next->Prop
 |.ok (.value v) w'=>next (a.put o.dst v) w'
 |.ok .skip w'=>next (a.put o.dst undef) w'
 |.ok (.enter f x) w'=>Calls P f x w' λe p=>match e with
   |.returned v=>next (a.put o.dst v) p
   |.panicked h=>u h p
   |.outgrown=>False
 |.ok (.round l f z q A) w'=>RoundIn Fence.wide 0 P l f z q A w' λe p=>match e with
   |.returned v=>next (a.put o.dst v) p
   |.panicked h=>u h p
   |.outgrown=>False
 |.halt (.panic v) w'=>u [{ v,recovered:=false }] w'
 |_=>False
def eo:=@step_leave_returned
def de:=@Frame.raise_atR
def dg:=@step_leave_panicked
def GF {ops:Array Oper} {rest:K1} (V:ops[i]?=some o) (W:Region.wanted o (yielded ops a.tmps)=true) (T:∀c,o.op≠.defer c) (h:Td P o a (λa' w'=>Reach P b cs Q (.inRegion ops rest::k) a' w') (λu w'=>Q (.panic u) a w')<|(execOp a.eval o).run P w):Reach P b cs Q (.inRegion ops (i::rest)::k) a w:=by have J:=stepGR_op (P:=P) (b:=b) (k:=k) (cs:=cs) (w:=w) (rest:=rest) V W;rw[Oper.semAt_eq b.roundOf a.eval o T]at J;have z:∀v,(b.atR a<|.inRegion ops (i::rest)::k).finish v=b.atR (a.put o.dst v) (.inRegion ops rest::k):=by{intro v;rw[Frame.finish_atR,V];rfl};cases E:(execOp a.eval o).run P w with|ok x w'=>{rw[E]at h;cases x with|value v=>refine Reach.step (ck ?_) h;rw[J,<- z];simp[stepG.apply,E]|skip=>refine Reach.step (ck ?_) h;rw[J,<- z];simp[stepG.apply,E]|enter f L=>{simp only[Td]at h;let⟨e,G,fr,H,p,_,A⟩:=h<|b.atR a (.inRegion ops (i::rest)::k)::cs;have q:step P (lone (b.atR a<|.inRegion ops (i::rest)::k) cs w)=.next (lone (Frame.enter P f L .normal) (b.atR a (.inRegion ops (i::rest)::k)::cs) w'):=ck (by rw[J];simp[stepG.apply,E,Frame.atR]);cases e with|returned v=>obtain⟨e,a',C,U,B⟩:=H;refine⟨e,a',C,U,.of_steps (.head q<|p.trans<|.one ?_) B⟩;rw[<- z];exact eo A|panicked u=>refine⟨.panic u,a,G,H,.inRegion ops (i::rest)::k,.head q<|p.trans<|.one ?_⟩;rw[<- de];exact dg A|outgrown=>{exact H.elim}}|round l f M D N=>{simp only[Td]at h;obtain⟨_,h⟩:=h;let⟨e,G,H,p⟩:=h (b.atR a<|.inRegion ops (i::rest)::k) cs<|room_wide _;have q:step P (lone (b.atR a<|.inRegion ops (i::rest)::k) cs w)=.next (lone (Frame.round l f M D N .normal) (b.atR a (.inRegion ops (i::rest)::k)::cs) w'):=ck (by rw[J];simp[stepG.apply,E,Frame.atR]);cases e with|returned v=>obtain⟨e,a',C,U,B⟩:=H;rw[<- z v]at B;exact⟨e,a',C,U,.of_steps (.head q<|StepsIn.steps p) B⟩|panicked u=>refine⟨.panic u,a,G,H,.inRegion ops (i::rest)::k,.head q ?_⟩;rw[<- de];exact StepsIn.steps p|outgrown=>{exact H.elim}}|_=>{exact h.elim}}|halt x w'=>{rw[E]at h;cases x with|panic v=>refine⟨.panic [{ v,recovered:=false }],a,w',h,.inRegion ops (i::rest)::k,.one<|ck ?_⟩;rw[J,<- de];simp[stepG.apply,E]|_=>{exact h.elim}}
end
def DO (w:World) (o:Obj) (h:i<w.heap.size):(w.alloc o).heap[i]?=w.heap[i]?:=by show(w.heap.push o)[i]?=_;rw[Array.getElem?_push_lt h,Si h]
def FR (w:World) (o:Obj):(w.alloc o).heap[w.heap.size]?=some o:=by show(w.heap.push o)[w.heap.size]?=some o;simp
inductive V where
 |bool (b:Bool)
 |int (k:IntKind) (n:Int)
 |str (s:List UInt8)
 |agg (cs:List V)
 |cg (cs:List V)
 |sl (es:List (List V))
 |iface (t:TypeId) (x:V)
 |ft
 |jc
 |gu
 |dn
 |fn (f:Fn)
 |ip (t:TypeId) (cs:List V) (off:Nat)
 |l8 (kv:List (V×V))
 |lj (f:Fn) (first cap:List V)
 |nl
inductive D where
 |undef
 |Kp (x:V)
 |NB
 |ref (id off:Nat)
 |ip (t:TypeId) (cs:List V) (off:Nat)
 |agg (cs:List D)
 |cg (cs:List D)
 |own (id len:Nat)
 |ky (id k sz f:Nat)
 |cf (id:Nat)
 |iter (id:Nat)
 |fn (f:Fn) (first cap:List D)
 |iface (t:TypeId) (d:D)
 |guard (c want:Bool) (d:D)
 |gt (es:List (List V))
 |ml (id off len cap:Nat)
 |jv (id:Nat)
 |eR (v:Value)
 |hv (id i:Nat)
abbrev TA:=Nat->Option Obj
def TA.le (I J:TA):Prop:=∀b o,I b=some o->J b=some o
structure jo where
 P:TA->World->Nat->List Nat->Prop
 mono:∀{I J:TA} {w:World} {b:Nat} {bs:List Nat},I.le J->P I w b bs->P J w b bs
 loc:∀{I:TA} {w w':World} {b:Nat} {bs:List Nat},(∀k∈bs,w'.heap[k]?=w.heap[k]?)->P I w b bs->P I w' b bs
structure jz where
 P:List Value->TA->World->List Nat->Prop
 mono:∀{vs:List Value} {I J:TA} {w:World} {bs:List Nat},I.le J->P vs I w bs->P vs J w bs
 loc:∀{vs:List Value} {I:TA} {w w':World} {bs:List Nat},(∀k∈bs,w'.heap[k]?=w.heap[k]?)->P vs I w bs->P vs I w' bs
def VQ (h:L1 Nat):Array Value:=(h.map λb=>.pointer<|some ⟨b,0,none⟩).toArray
def XT (vs:L1 Value) (h:L1 Nat):Value:=.tuple ⟨[.agg vs.toArray,.agg<|VQ h]⟩
inductive fp where
 |NA (t:TypeId) (sz:Nat) (xs:List V)
 |cells (t:TypeId) (sz:Nat) (cs:List D)
 |row (t:TypeId) (sz:Nat) (es:List (List V))
 |map (kv:List (V×V))
 |ie (s:List UInt8) (pos:Nat)
 |ig
 |hV (id:Nat) (S:jo)
 |hp (A:jz)
 |qy (id b:Nat)
 |gw (kv:List (V×V)) (b:Nat) (es:Array MapEntry) (clock:Nat)
 |ii (b wx:Nat) (seen:Array Nat) (c:Nat)
abbrev Env:=L1 (Nat×D)
abbrev St:=L1 (Nat×Option fp)
abbrev Mu:=Nat->Option Value
def lk {α:Type}:L1 (Nat×α)->Nat->Option α
 |[],_=>none
 |(k,x)::r,t=>match Nat.beq k t with
  |true=>some x
  |false=>lk r t
def PZ {α:Type}:L1 α->Nat->Option α
 |[],_=>none
 |x::_,0=>some x
 |_::r,n+1=>PZ r n
def Ih {α:Type}:∀(l:L1 α) (n:Nat),PZ l n=l[n]?
 |[],n=>by simp[PZ]
 |x::_,0=>by simp[PZ]
 |_::r,n+1=>by simp[PZ,Ih r n]
def A6 (k:Nat) (x:α) (r:L1<|Nat×α):lk ((k,x)::r) k=some x:=by simp[lk]
def AC {k t:Nat} (x:α) (r:L1<|Nat×α) (h:k≠t):lk ((k,x)::r) t=lk r t:=by have:Nat.beq k t=false:=by{cases p:Nat.beq k t with|false=>rfl|true=>{exact absurd (Dm p) h}};simp[lk,this]
def TA.ok (I:TA) (w:World):Prop:=∀b o,I b=some o->w.heap[b]?=some o
def TA.cell (I:TA) (b off:Nat):Option Value :=
 match I b with
 |some (.cells c _ _)=>c[off]?
 |_=>none
def Mu.le (μ ν:Mu):Prop:=∀i v,μ i=some v->ν i=some v
def TA.le_refl (I:TA):I.le I:=λ_ _ h=>h
def TA.le_trans {I J K:TA} (h:I.le J) (k:J.le K):I.le K:=λb o x=>k b o<|h b o x
def Mu.le_refl (μ:Mu):μ.le μ:=λ_ _ h=>h
def Mu.le_trans {I J K:Mu} (h:I.le J) (k:J.le K):I.le K:=λb o x=>k b o<|h b o x
def TA.l9 {I J:TA} (h:I.le J) (q:I.cell b off=some v):J.cell b off=some v:=by unfold TA.cell at *;cases p:I b with|none=>simp[p]at q|some o=>{rw[h b o p];simpa[p]using q}
def TA.kr {I:TA} (h:I.ok w) (p:I.cell b off=some v):w.cell? ⟨b,off,none⟩=some v:=by unfold TA.cell at p;unfold World.cell?;cases q:I b with|none=>simp[q]at p|some o=>{have:=h b o q;cases o<;>simp_all}
inductive PB (I:TA):Value->V->Prop where
 |bool (b:Bool):PB I (.bool b) (.bool b)
 |int (k:IntKind) (n:Int):PB I (.int k n) (.int k n)
 |str (s:ByteArray) (l:List UInt8) (h:s.data.toList=l):PB I (.string s) (.str l)
 |agg (cs:Array Value) (xs:List V) (hl:cs.size=xs.length) (h1:∀c∈cs.toList,c.oneCell'=true) (h:∀(i:Nat) (c:Value) (x:V),cs[i]?=some c->xs[i]?=some x->PB I c x):PB I (.agg cs) (.agg xs)
 |cg (cs:Array Value) (xs:List V) (hl:cs.size=xs.length) (h:∀(i:Nat) (c:Value) (x:V),cs[i]?=some c->xs[i]?=some x->PB I c x):PB I (.tuple cs) (.cg xs)
 |slnil:PB I (.slice none 0 0) (.sl [])
 |mq (a:Addr):PB I (.slice (some a) 0 0) (.sl [])
 |sl (b o len cap sz:Nat) (es:List (List V)) (vs:Nat->Nat->Value) (hl:len=es.length) (hc:len<=cap) (hm:cap<=maxLen)
   (kq:∀e∈es,e.length=sz)
   (np:∀(i:Nat) (e:List V) (j:Nat) (x:V),es[i]?=some e->e[j]?=some x->I.cell b (o+i*sz+j)=some (vs i j)/\(vs i j).oneCell'=true)
   (ta:∀(i:Nat) (e:List V) (j:Nat) (x:V),es[i]?=some e->e[j]?=some x->PB I (vs i j) x):PB I (.slice (some ⟨b,o,none⟩) len cap) (.sl es)
 |iface (t:TypeId) (v:Value) (x:V) (h:PB I v x):PB I (.iface t v) (.iface t x)
 |ft:PB I .nilIface .ft
 |jc:PB I (.pointer none) .jc
 |gu:PB I (.map none) .gu
 |nl:PB I (.slice none 0 0) .nl
 |dn:PB I .nilFunc .dn
 |fn (f:Fn):PB I (.func f #[] #[]) (.fn f)
 |ip (b o:Nat) (t:TypeId) (cs:List V) (off:Nat) (vs:Nat->Value)
   (np:∀(j:Nat) (x:V),cs[j]?=some x->I.cell b (o+j)=some (vs j)/\(vs j).oneCell'=true)
   (ta:∀(j:Nat) (x:V),cs[j]?=some x->PB I (vs j) x):PB I (.pointer (some ⟨b,o+off,none⟩)) (.ip t cs off)
 |l8 (b:Nat) (es:Array MapEntry) (clock:Nat) (kv:List (V×V)) (hI:I b=some (.map es clock)) (hl:es.size=kv.length) (hs:MapKept.Stamped es clock)
   (hk:∀(i:Nat) (e:MapEntry) (p:V×V),es[i]?=some e->kv[i]?=some p->PB I e.key p.1)
   (hv:∀(i:Nat) (e:MapEntry) (p:V×V),es[i]?=some e->kv[i]?=some p->PB I e.val p.2):PB I (.map (some b)) (.l8 kv)
 |lj (f:Fn) (first cap:Array Value) (xs ys:List V) (hf:first.size=xs.length) (hc:cap.size=ys.length)
   (h1:∀(i:Nat) (c:Value) (x:V),first[i]?=some c->xs[i]?=some x->PB I c x) (h2:∀(i:Nat) (c:Value) (x:V),cap[i]?=some c->ys[i]?=some x->PB I c x):PB I (.func f first cap) (.lj f xs ys)
def PB.mono {I J:TA} (h:I.le J) {x:V} (U:PB I v x):PB J v x:=by induction U with|bool b=>exact .bool b|int k n=>exact .int k n|str s l G=>exact .str s l G|agg cs E u z _ q=>exact .agg cs E u z q|cg cs E u _ q=>exact .cg cs E u q|slnil=>exact .slnil|mq a=>exact .mq a|sl b o H A sz L vs u M W N p _ q=>exact .sl b o H A sz L vs u M W N (λi e j x z T=>⟨TA.l9 h (p i e j x z T).1,(p i e j x z T).2⟩) q|iface t v x _ q=>exact .iface t v x q|ft=>exact .ft|jc=>exact .jc|gu=>exact .gu|nl=>exact .nl|dn=>exact .dn|fn f=>exact .fn f|ip b o t cs off vs p _ q=>exact .ip b o t cs off vs (λj x z=>⟨TA.l9 h (p j x z).1,(p j x z).2⟩) q|l8 b L B c d u G _ _ C D=>exact .l8 b L B c (h _ _ d) u G C D|lj f first A E g m M _ _ C D=>{exact .lj f first A E g m M C D}
def EY:Value->Nat->Prop
 |.pointer (some a),b=>a.block=b
 |.slice (some a) _ _,b=>a.block=b
 |.map (some c),b=>c=b
 |.agg cs,b=>∃a:Addr,.pointer (some a)∈cs.toList/\a.block=b
 |.tuple ⟨[_,.agg cs]⟩,b=>∃a:Addr,.pointer (some a)∈cs.toList/\a.block=b
 |_,_=>False
def D1 {p:K1} {k:Nat}:EY (.agg<|VQ p) k↔k∈p:=by simp only[EY,VQ];constructor;rintro ⟨a,q,u⟩;let⟨b,x,e⟩:=CC.1 q;cases e;exact u▸x;intro h;exact⟨⟨k,0,none⟩,CC.2 ⟨k,h,rfl⟩,rfl⟩
def BB {h:K1} {k:Nat}:EY (XT vs h) k↔k∈h:=D1
inductive X (I:TA) (μ:Mu):Value->D->Prop where
 |undef (v:Value):X I μ v .undef
 |Kp (v:Value) (x:V) (h:PB I v x):X I μ v (.Kp x)
 |NB:X I μ (.slice none 0 0) .NB
 |ref (b id off:Nat) (h:μ id=some (.pointer (some ⟨b,0,none⟩))):X I μ (.pointer (some ⟨b,off,none⟩)) (.ref id off)
 |ip (b o:Nat) (t:TypeId) (cs:List V) (off:Nat) (vs:Nat->Value)
   (np:∀(j:Nat) (x:V),cs[j]?=some x->I.cell b (o+j)=some (vs j)/\(vs j).oneCell'=true)
   (ta:∀(j:Nat) (x:V),cs[j]?=some x->PB I (vs j) x):X I μ (.pointer (some ⟨b,o+off,none⟩)) (.ip t cs off)
 |agg (cs:Array Value) (ds:List D) (hl:cs.size=ds.length) (h1:∀c∈cs.toList,c.oneCell'=true) (h:∀(i:Nat) (c:Value) (x:D),cs[i]?=some c->ds[i]?=some x->X I μ c x):X I μ (.agg cs) (.agg ds)
 |cg (cs:Array Value) (ds:List D) (hl:cs.size=ds.length) (h:∀(i:Nat) (c:Value) (x:D),cs[i]?=some c->ds[i]?=some x->X I μ c x):X I μ (.tuple cs) (.cg ds)
 |own (id len:Nat) (a:Option Addr) (cap:Nat) (h:μ id=some (.slice a len cap)):X I μ (.slice a len cap) (.own id len)
 |ky (b id len cap k sz f:Nat) (h:μ id=some (.slice (some ⟨b,0,none⟩) len cap)):X I μ (.pointer (some ⟨b,k*sz+f,none⟩)) (.ky id k sz f)
 |cf (id b:Nat) (h:μ id=some (.map (some b))):X I μ (.map (some b)) (.cf id)
 |iter (id b:Nat) (h:μ id=some (.pointer (some ⟨b,0,none⟩))):X I μ (.pointer (some ⟨b,0,none⟩)) (.iter id)
 |fn (f:Fn) (first cap:Array Value) (df dc:List D) (hf:first.size=df.length) (hc:cap.size=dc.length)
   (h1:∀(i:Nat) (c:Value) (x:D),first[i]?=some c->df[i]?=some x->X I μ c x) (h2:∀(i:Nat) (c:Value) (x:D),cap[i]?=some c->dc[i]?=some x->X I μ c x):X I μ (.func f first cap) (.fn f df dc)
 |iface (t:TypeId) (v:Value) (d:D) (h:X I μ v d):X I μ (.iface t v) (.iface t d)
 |guard (c want:Bool) (v:Value) (d:D) (h:c=want->X I μ v d) (hu:c≠want->v=Go.undef):X I μ v (.guard c want d)
 |gt (a:Option Addr) (len:Nat) (es:List (List V)) (h:PB I (.slice a len len) (.sl es)):X I μ (.slice a len len) (.gt es)
 |ml (b id off len cap:Nat) (h:μ id=some (.pointer (some ⟨b,0,none⟩))) (hl:len<=cap) (hm:cap<=maxLen):X I μ (.slice (some ⟨b,off,none⟩) len cap) (.ml id off len cap)
 |jv (b id:Nat) (h:μ id=some (.func (.yield b) #[] #[])):X I μ (.func (.yield b) #[] #[]) (.jv id)
 |eR (v:Value) (h:v.oneCell'=true):X I μ v (.eR v)
 |hv (v:Value) (id i:Nat) (vs:List Value) (bs:List Nat) (h:μ id=some (XT vs bs)) (hi:vs[i]?=some v) (h1:v.oneCell'=true):X I μ v (.hv id i)
def X.mono {I J:TA} {μ ν:Mu} (h:I.le J) (p:μ.le ν) {d:D} (L:X I μ v d):X J ν v d:=by induction L with|undef v=>exact .undef v|Kp v x M=>exact .Kp v x (M.mono h)|NB=>exact .NB|ref b id off q=>exact .ref b id off (p _ _ q)|ip b o t cs off vs A E=>exact .ip b o t cs off vs (λj x B=>⟨TA.l9 h (A j x B).1,(A j x B).2⟩) (λj x B=>(E j x B).mono h)|agg cs ds G B _ C=>exact .agg cs ds G B C|cg cs ds G _ C=>exact .cg cs ds G C|own id u a z q=>exact .own id u a z (p _ _ q)|ky b id u z k sz f q=>exact .ky b id u z k sz f (p _ _ q)|cf id b q=>exact .cf id b (p _ _ q)|iter id b q=>exact .iter id b (p _ _ q)|fn f first z U V W e _ _ N T=>{exact .fn f first z U V W e N T}|iface t v d _ C=>exact .iface t v d C|guard c H v d _ g C=>exact .guard c H v d C g|gt a u l L=>exact .gt a u l (L.mono h)|ml b id off u z q G M=>exact .ml b id off u z (p _ _ q) G M|jv b id q=>exact .jv b id (p _ _ q)|eR v h=>exact .eR v h|hv v id i vs m q n B=>{exact .hv v id i vs m (p _ _ q) n B}
def V.one:V->Bool
 |.agg _|.cg _=>false
 |_=>true
def D.one:D->Bool
 |.Kp x=>x.one
 |.NB|.ref ..|.ip ..|.own ..|.ky ..|.cf _|.iter _|.fn ..|.iface ..|.gt _|.ml ..|.jv _|.eR _|.hv ..=>true
 |_=>false
def PB.one {I:TA} {x:V} (h:PB I v x) (p:x.one=true):v.oneCell'=true:=by cases h<;>first|rfl|(simp[V.one]at p)
def X.one {I:TA} {μ:Mu} {d:D} (h:X I μ v d) (p:d.one=true):v.oneCell'=true:=by cases h<;>first|rfl|assumption|(simp[D.one]at p;done)|exact PB.one (by assumption) p
def TB (I:TA) (μ:Mu) (vs:L1 Value) (ds:L1 D):Prop:=vs.length=ds.length/\∀(i:Nat) (v:Value) (d:D),vs[i]?=some v->ds[i]?=some d->X I μ v d
def Ts (I:TA) (vs:L1 Value) (xs:L1 V):Prop:=vs.length=xs.length/\∀(i:Nat) (v:Value) (x:V),vs[i]?=some v->xs[i]?=some x->PB I v x
abbrev R1:=L1 D
def TB.mono {I J:TA} {μ ν:Mu} (h:I.le J) (p:μ.le ν) {ds:R1} (q:TB I μ vs ds):TB J ν vs ds:=⟨q.1,λi v d u x=>(q.2 i v d u x).mono h p⟩
abbrev G2:=L1 V
def Ts.mono {I J:TA} (h:I.le J) {xs:G2} (p:Ts I vs xs):Ts J vs xs:=⟨p.1,λi v d q u=>(p.2 i v d q u).mono h⟩
def eb (I:TA) (μ:Mu) (w:World) (g:Value):fp->Prop
 |.NA t sz B=>B.length=sz/\∃b vs,g=.pointer (some ⟨b,0,none⟩)/\w.heap[b]?=some (.cells vs t (0,0))/\Ts I vs.toList B/\∀v∈vs.toList,v.oneCell'=true
 |.cells t sz cs=>cs.length=sz/\∃b vs,g=.pointer (some ⟨b,0,none⟩)/\w.heap[b]?=some (.cells vs t (0,0))/\TB I μ vs.toList cs/\∀v∈vs.toList,v.oneCell'=true
 |.row t sz q=>∃B,w.ownsRow 0 t sz g q.length B/\Ts I B q.flatten/\(∀e∈q,e.length=sz)/\(∀e∈q,∀x∈e,V.one x=true)/\0<sz
 |.map C=>∃b q h,g=.map (some b)/\w.heap[b]?=some (.map q h)/\q.size=C.length/\MapKept.Stamped q h /\
   ∀(i:Nat) (e:MapEntry) (p:V×V),q[i]?=some e->C[i]?=some p->PB I e.key p.1/\PB I e.val p.2
 |.ie s D=>∃b u,g=.pointer (some ⟨b,0,none⟩)/\w.heap[b]?=some (.stringIter u D)/\u.data.toList=s
 |.ig=>∃b,g=.func (.yield b) #[] #[]
 |.hV id S=>∃b u,μ id=some (.func (.yield b) #[] #[])/\g=.agg (VQ u)/\S.P I w b u
 |.hp A=>∃vs u,g=XT vs u/\A.P vs I w u
 |.qy id b=>g=.bool true/\μ id=some (.pointer<|some ⟨b,0,none⟩)
 |.gw C b q h=>g=.map (some b)/\w.heap[b]?=some (.map q h)/\q.size=C.length/\MapKept.Stamped q h /\
   ∀(i:Nat) (e:MapEntry) (p:V×V),q[i]?=some e->C[i]?=some p->PB I e.key p.1/\PB I e.val p.2
 |.ii b z seen c=>∃r,g=.pointer (some ⟨r,0,none⟩)/\w.heap[r]?=some (.mapIter (some b) z seen c)
def eb.mono {I J:TA} {μ ν:Mu} (h:I.le J) (D:μ.le ν) {SB:fp} (x:eb I μ w g SB):eb J ν w g SB:=by cases SB with|NA t sz N=>obtain⟨G,b,vs,q,u,z,C⟩:=x;exact⟨G,b,vs,q,u,z.mono h,C⟩|cells t sz cs=>obtain⟨G,b,vs,q,u,z,C⟩:=x;exact⟨G,b,vs,q,u,z.mono h D,C⟩|row t sz H=>obtain⟨N,q,u,z,C,E⟩:=x;exact⟨N,q,u.mono h,z,C,E⟩|map T=>obtain⟨b,H,B,q,u,z,C,E⟩:=x;exact⟨b,H,B,q,u,z,C,λi e p a b=>⟨(E i e p a b).1.mono h,(E i e p a b).2.mono h⟩⟩|ie s U=>exact x|ig=>exact x|hV id S=>obtain⟨b,L,q,u,z⟩:=x;exact⟨b,L,D _ _ q,u,S.mono h z⟩|hp A=>obtain⟨vs,L,q,u⟩:=x;exact⟨vs,L,q,A.mono h u⟩|qy id b=>exact⟨x.1,D _ _ x.2⟩|gw T b H B=>obtain⟨q,u,z,C,E⟩:=x;exact⟨q,u,z,C,λi e p a b=>⟨(E i e p a b).1.mono h,(E i e p a b).2.mono h⟩⟩|ii b M seen c=>{exact x}
def eb.world {I:TA} {μ:Mu} {SB:fp} (u:eb I μ w g SB) (h:∀b,EY g b->w'.heap[b]?=w.heap[b]?):eb I μ w' g SB:=by cases SB with|NA t sz L=>obtain⟨C,b,vs,p,q,x⟩:=u;exact⟨C,b,vs,p,(h b (by rw[p];rfl)).trans q,x⟩|cells t sz cs=>obtain⟨C,b,vs,p,q,x⟩:=u;exact⟨C,b,vs,p,(h b (by rw[p];rfl)).trans q,x⟩|row t sz D=>obtain⟨L,⟨p,q⟩,x⟩:=u;refine⟨L,⟨p,q.imp id ?_⟩,x⟩;rintro ⟨b,E,G,rfl,M,N,u⟩;exact⟨b,E,G,rfl,M,(h b O).trans N,u⟩|map T=>obtain⟨b,D,z,p,q,x⟩:=u;exact⟨b,D,z,p,(h b (by rw[p];rfl)).trans q,x⟩|ie s U=>obtain⟨b,B,p,q,x⟩:=u;exact⟨b,B,p,(h b (by rw[p];rfl)).trans q,x⟩|ig=>exact u|hV id S=>obtain⟨b,B,p,q,x⟩:=u;exact⟨b,B,p,q,S.loc (λk H=>h k (by rw[q];exact D1.2 H)) x⟩|hp A=>obtain⟨vs,B,p,q⟩:=u;exact⟨vs,B,p,A.loc (λk H=>h k (by rw[p];exact BB.2 H)) q⟩|qy id b=>exact u|gw T b D z=>obtain⟨p,q,x⟩:=u;exact⟨p,(h b (by rw[p];rfl)).trans q,x⟩|ii b J seen c=>{obtain⟨r,p,q⟩:=u;exact⟨r,p,(h r (by rw[p];rfl)).trans q⟩}
def A2 (st:St) (id:Nat) (SB:fp):Prop:=lk st id=some (some SB)
structure No (I:TA) (μ:Mu) (st:St) (aa:List Nat) (w:World):Prop where
 Kp:I.ok w
 SB:∀id SB,A2 st id SB->∃g,μ id=some g/\eb I μ w g SB
 apart:∀id SB g b,A2 st id SB->μ id=some g->EY g b->I b=none/\b<w.heap.size
 inj:∀i j bi bj gi gj b,A2 st i bi->A2 st j bj->μ i=some gi->μ j=some gj->EY gi b->EY gj b->i=j
 nodup:aa.Nodup
 PA:∀id∈aa,μ id=none
def Ba (μ:Mu) (st:St) (b:Nat):Prop:=∃id h g,A2 st id h/\μ id=some g/\EY g b
def wy (r:Nat):Deferred:={ target:=.collected r,args:=#[] }
def fz (I:TA) (μ:Mu) (st:St) (w:World) (ds:L1 Deferred):Prop:=∃h:L1 Nat,ds=h.map wy/\h.Nodup/\∀r∈h,w.heap[r]?=some (.deferred<|some [])/\I r=none/\¬Ba μ st r
structure ij (n:Nat) (I:TA) (μ:Mu) (env:Env) (st:St) (aa:List Nat) (a:Act) (w:World):Prop extends No I μ st aa w where
 size:a.tmps.size=n
 env:∀t d,lk env t=some d->X I μ (a.tmps.getD t undef) d
 defers:fz I μ st w a.defers
structure fi (I:TA) (μ:Mu) (st:St) (w:World) (I':TA) (μ':Mu) (au:St) (w':World):Prop where
 Kp:I.le I'
 os:w'.os=w.os
 tape:w'.tape=w.tape
 output:w'.output=w.output
 size:w.heap.size<=w'.heap.size
 block:∀b,b<w.heap.size->¬Ba μ st b->w'.heap[b]?=w.heap[b]?
 fresh:∀b,b<w.heap.size->Ba μ' au b->Ba μ st b
 gz:∀b,b<w.heap.size->¬Ba μ st b->I' b=I b
def fi.refl (I:TA) (μ:Mu) (st:St) (w:World):fi I μ st w I μ st w:=⟨I.le_refl,rfl,rfl,rfl,B6 _,λ_ _ _=>rfl,λ_ _ h=>h,λ_ _ _=>rfl⟩
def fi.trans {I J K:TA} {μ ν ρ:Mu} {s t u:St} {x y:World} (h:fi I μ s w J ν t x) (k:fi J ν t x K ρ u y):fi I μ s w K ρ u y where
 Kp:=TA.le_trans h.Kp k.Kp
 os:=k.os.trans h.os
 tape:=k.tape.trans h.tape
 output:=k.output.trans h.output
 size:=zks h.size k.size
 block:=λb hb ho=>(k.block b (Yj hb h.size) λhx=>ho<|h.fresh b hb hx).trans (h.block b hb ho)
 fresh:=λb hb ho=>h.fresh b hb (k.fresh b (Yj hb h.size) ho)
 gz:=λb hb ho=>(k.gz b (Yj hb h.size) λhx=>ho<|h.fresh b hb hx).trans<|h.gz b hb ho
def fi.drew (I:TA) (μ:Mu) (st:St) (w:World):fi I μ st w I μ st { w with drawn:=w.drawn+1 }:=⟨I.le_refl,rfl,rfl,rfl,B6 _,λ_ _ _=>rfl,λ_ _ h=>h,λ_ _ _=>rfl⟩
def fz.nil (I:TA) (μ:Mu) (st:St) (w:World):fz I μ st w []:=⟨[],rfl,.nil,λ_ h=>by simp at h⟩
def fz.ext {I J:TA} {μ ν:Mu} {s t:St} {x:World} (h:fz I μ s w ds) (e:fi I μ s w J ν t x):fz J ν t x ds:=by obtain⟨z,A,B,C⟩:=h;refine⟨z,A,B,λr D=>?_⟩;let⟨u,E,q⟩:=C r D;have p:r<w.heap.size:=(Ht.1 u).1;exact⟨(e.block r p q).trans u,(e.gz r p q).trans E,λG=>q<|e.fresh r p G⟩
def ij.drew {I:TA} {μ:Mu} {env:Env} {st:St} (h:ij n I μ env st aa a w):ij n I μ env st aa a { w with drawn:=w.drawn+1 }:={Kp:=h.Kp,SB:=λid SB p=>let⟨g,q,u⟩:=h.SB id SB p;⟨g,q,u.world λ_ _=>rfl⟩,apart:=h.apart,inj:=h.inj,PA:=h.PA,nodup:=h.nodup,size:=h.size,env:=h.env,defers:=h.defers }
inductive Sh where
 |bool
 |int (k:IntKind)
 |str
 |ptr (e:TypeId)
 |sl (e:TypeId)
 |map (k e:TypeId)
 |struct (fs:List (Nat×TypeId))
 |wz (n:Nat) (e:TypeId)
 |func
 |iface
 |other
structure kh where
 sh:Sh
 agg:Bool
 size:Nat
 bytes:Nat
 zero:List D
abbrev TT:=L1 (Nat×kh)
inductive EP where
 |p (d:D) (ob:List Prop)
 |r (d:D) (ob:List Prop)
 |no
inductive EE where
 |e (d:D) (st:St) (aa:List Nat) (ob:List Prop)
 |no
def of1:Value->Option V
 |.bool b=>some (.bool b)
 |.int k n=>some (.int k n)
 |.string s=>some (.str s.data.toList)
 |.slice none 0 0=>some (.sl [])
 |_=>none
def wB:L1 Value->Option (L1 V)
 |[]=>some []
 |c::r=>match of1 c,wB r with
  |some x,some h=>some (x::h)
  |_,_=>none
def wJ:Value->Option D
 |.bool b=>some (.Kp<|.bool b)
 |.int k n=>some (.Kp<|.int k n)
 |.string s=>some (.Kp<|.str s.data.toList)
 |.pointer none=>some (.Kp .jc)
 |.slice none 0 0=>some .NB
 |.map none=>some (.Kp .gu)
 |.nilFunc=>some (.Kp .dn)
 |.nilIface=>some (.Kp .ft)
 |.agg ⟨cs⟩=>match wB cs with
  |some h=>some (.Kp<|.agg h)
  |none=>none
 |_=>none
def Fi (env:Env):Operand->Option D
 |.tmp t=>lk env t
 |.const v=>wJ v
 |.func f=>some (.Kp<|.fn<|.func f)
 |.global _=>none
def LC:L1 Prop->L1 Prop->L1 Prop
 |[],b=>b
 |p::a,b=>p::LC a b
def Fy (C:Prop) (env:Env) (x:Operand) (k:D->L1 Prop->EP):EP :=
 match Fi env x with
 |some (.guard c w d)=>k d [C->c=w]
 |some d=>k d []
 |none=>.no
def Tc (env:Env) (x:Operand) (k:D->EE):EE :=
 match Fi env x with
 |some (.guard _ _ _)=>.no
 |some d=>k d
 |none=>.no
def N5:L1 D->Option (L1 V)
 |[]=>some []
 |.Kp x::r=>match N5 r with
  |some h=>some (x::h)
  |none=>none
 |_=>none
def HY:L1 D->Option (L1 V)
 |[]=>some []
 |.Kp x::r=>match HY r with
  |some h=>some (x::h)
  |none=>none
 |.NB::r=>match HY r with
  |some h=>some (.sl []::h)
  |none=>none
 |_=>none
def Kv (ds:L1 D):D:=match N5 ds with
 |some h=>.Kp (.agg h)
 |none=>.agg ds
def TG (t:TypeId) (sz:Nat) (ds:L1 D):fp:=match N5 ds with
 |some h=>.NA t sz h
 |none=>.cells t sz ds
def zns:D->Option V
 |.Kp x=>some x
 |.NB=>some (.sl [])
 |.agg ds=>match HY ds with
  |some h=>some (.agg h)
  |none=>none
 |.ip t cs off=>some (.ip t cs off)
 |_=>none
def Pp:L1 D->Option (L1 V)
 |[]=>some []
 |d::r=>match zns d,Pp r with
  |some x,some h=>some (x::h)
  |_,_=>none
def toV:D->Option V
 |.Kp x=>some x
 |.NB=>some (.sl [])
 |.agg ds=>match HY ds with
  |some h=>some (.agg h)
  |none=>none
 |.cg ds=>match Pp ds with
  |some h=>some (.cg h)
  |none=>none
 |.ip t cs off=>some (.ip t cs off)
 |.gt p=>some (.sl p)
 |.fn f a b=>match Pp a,Pp b with
  |some h,some q=>some (.lj f h q)
  |_,_=>none
 |_=>none
def O9:L1 D->Option (L1 V)
 |[]=>some []
 |d::r=>match toV d,O9 r with
  |some x,some h=>some (x::h)
  |_,_=>none
def zdm (t:TypeId) (sz:Nat):D->Option (fp×L1 Prop)
 |.Kp (.agg h)=>some (.NA t sz h,[h.length=sz])
 |.Kp (.cg _)=>none
 |.Kp x=>match Nat.beq sz 1 with
  |true=>some (.NA t sz [x],[])
  |false=>none
 |.agg ds=>match Nat.beq ds.length sz with
  |true=>some (TG t sz ds,[])
  |false=>none
 |.cg _|.guard ..|.undef=>none
 |d=>match Nat.beq sz 1 with
  |true=>some (.cells t sz [d],[])
  |false=>none
def NW:D->Option (L1 D)
 |.Kp (.agg h)=>some (h.map .Kp)
 |.Kp (.cg _)=>none
 |.agg ds=>some ds
 |.cg _|.guard ..|.undef=>none
 |d=>some [d]
def sub {α:Type}:L1 α->Nat->Nat->Option (L1 α)
 |_,0,0=>some []
 |x::r,0,n+1=>match sub r 0 n with
  |some l=>some (x::l)
  |none=>none
 |_::r,o+1,n=>sub r o n
 |[],_,_=>none
def iq {α:Type}:L1 α->Nat->L1 α->Option (L1 α)
 |l,0,[]=>some l
 |_::r,0,y::h=>match iq r 0 h with
  |some l=>some (y::l)
  |none=>none
 |x::r,o+1,h=>match iq r o h with
  |some l=>some (x::l)
  |none=>none
 |[],_,_=>none
def zpa (op:BinOp):V->V->Option (V×L1 Prop)
 |.int k a,.int _ b=>match op with
  |.add=>some (.int k<|k.wrap<|a+b,[])
  |.sub=>some (.int k<|k.wrap<|a-b,[])
  |.mul=>some (.int k<|k.wrap<|a*b,[])
  |.quo=>some (.int k<|k.wrap<|a.tdiv b,[b≠0])
  |.rem=>some (.int k<|a.tmod b,[b≠0])
  |.eql=>some (.bool<|a==b,[])
  |.neq=>some (.bool<|a != b,[])
  |.lss=>some (.bool<|decide (a<b),[])
  |.leq=>some (.bool<|decide (a<=b),[])
  |.gtr=>some (.bool<|decide (a > b),[])
  |.geq=>some (.bool<|decide (a>=b),[])
  |_=>none
 |.str a,.str b=>match op with
  |.add=>some (.str<|a++b,[a.length+b.length<=9223372036854775807])
  |.eql=>some (.bool<|a==b,[])
  |.neq=>some (.bool (!(a==b)),[])
  |.lss=>some (.bool<|Op.bytesLess a b,[])
  |_=>none
 |_,_=>none
def ZO:D->Bool
 |.ref ..|.ip ..|.ky ..=>true
 |.eR (.pointer (some _))=>true
 |_=>false
def zd4:V->V->Bool
 |.int k _,.int h _=>decide (k=h)
 |.str _,.str _=>true
 |_,_=>false
def UU:L1 (L1 V)->Option (L1 UInt8)
 |[]=>some []
 |[.int .u8 n]::r=>match UU r with
  |some l=>some (UInt8.ofNat n.toNat::l)
  |none=>none
 |_=>none
def elemOf (sz:Nat):D->Option (L1 V×L1 Prop)
 |.Kp (.agg h)=>some (h,[h.length=sz])
 |.Kp (.cg _)=>none
 |.Kp x=>match Nat.beq sz 1 with
  |true=>some ([x],[])
  |false=>none
 |.NB=>match Nat.beq sz 1 with
  |true=>some ([.sl []],[])
  |false=>none
 |.agg ds=>match HY ds with
  |some h=>some (h,[h.length=sz])
  |none=>none
 |_=>none
def K6 (C:Prop) (env:Env) (sz:Nat):Nat->L1 (Nat×Operand)->Option (L1 (L1 V)×L1 Prop)
 |_,[]=>some ([],[])
 |i,(j,x)::r=>match Nat.beq i j,Fi env x with
  |true,some (.guard c w d)=>match elemOf sz d,K6 C env sz (i+1) r with
   |some (e,o),some (h,p)=>some (e::h,(C->c=w)::LC o p)
   |_,_=>none
  |true,some d=>match elemOf sz d,K6 C env sz (i+1) r with
   |some (e,o),some (h,p)=>some (e::h,LC o p)
   |_,_=>none
  |_,_=>none
inductive Ch where
 |v1 (x:V)
 |vs (xs:List V)
 |d1 (d:D)
 |ds (ds:List D)
inductive Acc where
 |e
 |v (xs:List V)
 |d (ds:List D)
def WG:Ch->Acc->Acc
 |.v1 x,.e=>.v [x]
 |.v1 x,.v h=>.v (x::h)
 |.v1 x,.d ds=>.d (.Kp x::ds)
 |.vs p,.e=>.v p
 |.vs p,.v h=>.v (p++h)
 |.vs p,.d ds=>.d (p.map .Kp++ds)
 |.d1 d,.e=>.d [d]
 |.d1 d,.v h=>.d (d::h.map .Kp)
 |.d1 d,.d ds=>.d (d::ds)
 |.ds l,.e=>.d l
 |.ds l,.v h=>.d (l++h.map .Kp)
 |.ds l,.d ds=>.d<|l++ds
def zo6 (sz:Nat):D->Option (Ch×L1 Prop)
 |.Kp (.agg h)=>some (.vs h,[h.length=sz])
 |.Kp (.cg _)=>none
 |.Kp x=>match Nat.beq sz 1 with
  |true=>some (.v1 x,[])
  |false=>none
 |.agg ds=>some (.ds ds,[ds.length=sz])
 |.cg _|.guard ..|.undef=>none
 |d=>match Nat.beq sz 1 with
  |true=>some (.d1 d,[])
  |false=>none
def tW (ds:L1 D):Ch:=match N5 ds with
 |some [x]=>.v1 x
 |some h=>.vs h
 |none=>match ds with
  |[d]=>.d1 d
  |ds=>.ds ds
def Dd:L1 (Nat×Operand)->Nat->Option Operand
 |[],_=>none
 |(i,x)::r,j=>match Nat.beq i j with
  |true=>some x
  |false=>Dd r j
def Q1 (n:Nat):L1 (Nat×Operand)->Bool
 |[]=>true
 |(i,_)::r=>match Nat.blt i n,Dd r i with
  |true,none=>Q1 n r
  |_,_=>false
def SP (B:TT) (env:Env) (z:L1 D) (parts:L1<|Nat×Operand):Nat->Nat->L1 (Nat×TypeId)->Option (Acc×L1 Prop)
 |_,off,[]=>match Nat.beq off z.length with
  |true=>some (.e,[])
  |false=>none
 |i,off,(p,q)::r=>match Nat.beq p off,lk B q with
  |true,some ti=>match SP B env z parts (i+1) (off+ti.size) r with
   |some (h,o)=>match Dd parts i with
    |some x=>match Fi env x with
     |some d=>match zo6 ti.size d with
      |some (c,u)=>some (WG c h,LC u o)
      |none=>none
     |none=>none
    |none=>match sub z off ti.size with
     |some ds=>some (WG (tW ds) h,o)
     |none=>none
   |none=>none
  |_,_=>none
def sY (env:Env):L1 Operand->Option (L1 D)
 |[]=>some []
 |x::r=>match Fi env x,sY env r with
  |some (.guard ..),_=>none
  |some d,some ds=>some (d::ds)
  |_,_=>none
def ze7 (x:Option V) (ob:L1 Prop) (f:D->L1 Prop->EP):EP:=match x with
 |some x=>f (.Kp x) ob
 |none=>.no
def QL (i:kh) (same:Bool) (xs:L1 V) (off:Nat):Option D :=
 match i.agg,same,off with
 |true,true,0=>some (.Kp<|.agg xs)
 |true,_,off=>match sub xs off i.size with
  |some l=>some (.Kp<|.agg l)
  |none=>none
 |false,_,off=>match PZ xs off with
  |some x=>some (.Kp x)
  |none=>none
def Je (i:kh) (same:Bool) (cs:L1 D) (off:Nat):Option D :=
 match i.agg,same,off with
 |true,true,0=>some (Kv cs)
 |true,_,off=>match sub cs off i.size with
  |some l=>some (Kv l)
  |none=>none
 |false,_,off=>PZ cs off
def Ez (a b:Nat):Nat:=match a with
 |0=>b
 |_=>a+b
def bsD:L1 (L1 V)->D
 |[]=>.gt []
 |es=>.Kp<|.sl es
def Jg (B:TT) (C:Prop) (env:Env) (st:St) (op:Op):EP :=
 match op with
 |.move x=>Fy C env x λd o=>.p d o
 |.assign x=>Fy C env x λd o=>.p d o
 |.nilCheck x=>Fy C env x λd o=>match ZO d with
  |true=>.p d o
  |false=>match d with
   |.fn (.func f) a b=>.p (.fn (.func f) a b) o
   |.Kp (.fn (.func f))=>.p (.Kp<|.fn<|.func f) o
   |.Kp (.ip t cs off)=>.p (.ip t cs off) o
   |_=>.no
 |.pick c a b=>match Fi env c,Fi env a,Fi env b with
  |some (.Kp (.bool c)),some (.Kp (.bool a)),some (.Kp (.bool b))=>.p (.Kp<|.bool<|bif c then a else b) []
  |some (.Kp (.bool c)),some (.Kp (.bool a)),some (.guard H w (.Kp (.bool b)))=>.p (.Kp<|.bool<|bif c then a else b) [C->c=false->H=w]
  |some (.Kp (.bool c)),some (.guard H w (.Kp (.bool a))),some (.Kp (.bool b))=>.p (.Kp<|.bool<|bif c then a else b) [C->c=true->H=w]
  |some (.guard g w (.Kp (.bool c))),some (.Kp (.bool a)),some (.guard H w' (.Kp (.bool b)))=>.p (.Kp<|.bool<|bif c then a else b) [C->g=w,C->c=false->H=w']
  |some (.guard g w (.Kp (.bool c))),some (.guard H w' (.Kp (.bool a))),some (.Kp (.bool b))=>.p (.Kp<|.bool<|bif c then a else b) [C->g=w,C->c=true->H=w']
  |_,_,_=>.no
 |.binOp op t x y _=>Fy C env x λdx q=>Fy C env y λJ u=>match dx,J with
  |.Kp (.bool a),.Kp (.bool b)=>match lk B t,op with
   |some { sh:=.bool,.. },.eql=>.p (.Kp<|.bool<|a==b) (LC q u)
   |some { sh:=.bool,.. },.neq=>.p (.Kp<|.bool (!(a==b))) (LC q u)
   |_,_=>.no
  |.Kp .jc,.Kp .jc=>match lk B t,op with
   |some { sh:=.ptr _,.. },.eql=>.p (.Kp<|.bool true) (LC q u)
   |some { sh:=.ptr _,.. },.neq=>.p (.Kp<|.bool false) (LC q u)
   |_,_=>.no
  |.Kp a,.Kp b=>match zd4 a b,zpa op a b with
   |true,some (v,o)=>.p (.Kp v) (LC (o.map (C->·))<|LC q u)
   |_,_=>.no
  |dx,.Kp .jc=>match ZO dx,lk B t,op with
   |true,some { sh:=.ptr _,.. },.eql=>.p (.Kp<|.bool false) (LC q u)
   |true,some { sh:=.ptr _,.. },.neq=>.p (.Kp<|.bool true) (LC q u)
   |_,_,_=>.no
  |_,_=>.no
 |.unOp .not _ x=>Fy C env x λd o=>match d with
  |.Kp (.bool b)=>.p (.Kp<|.bool (!b)) o
  |_=>.no
 |.unOp .neg _ x=>Fy C env x λd o=>match d with
  |.Kp (.int k n)=>.p (.Kp<|.int k<|k.wrap<|0-n) o
  |_=>.no
 |.convert s t x=>Fy C env x λd o=>match lk B s,lk B t,d with
  |some { sh:=.int _,.. },some { sh:=.int k,.. },.Kp (.int _ n)=>.p (.Kp<|.int k<|k.wrap n) o
  |some { sh:=.sl e,.. },some { sh:=.str,.. },.Kp (.sl h)=>match lk B e,UU h with
   |some { sh:=.int .u8,.. },some l=>.p (.Kp<|.str l) o
   |_,_=>.no
  |some { sh:=.int _,.. },some { sh:=.str,.. },.Kp (.int _ n)=>.p (.Kp<|.str [UInt8.ofNat n.toNat]) ((C->0<=n/\n<128)::o)
  |_,_,_=>.no
 |.fieldAddr s x f=>Fy C env x λd o=>match d,lk B s with
  |.ref id off,some { sh:=.struct p,.. }=>match PZ p f with
   |some (A,_)=>.p (.ref id<|Ez off A) o
   |none=>.no
  |.ip t cs off,some { sh:=.struct p,.. }=>match PZ p f with
   |some (A,_)=>.p (.ip t cs<|Ez off A) o
   |none=>.no
  |.ky id k sz off,some { sh:=.struct p,.. }=>match PZ p f with
   |some (A,_)=>.p (.ky id k sz<|Ez off A) o
   |none=>.no
  |.eR (.pointer (some ⟨b,off,none⟩)),some { sh:=.struct p,.. }=>match PZ p f with
   |some (A,_)=>.p (.eR<|.pointer<|some ⟨b,Ez off A,none⟩) o
   |none=>.no
  |_,_=>.no
 |.load t x=>Fy C env x λd o=>match d,lk B t with
  |.ref id off,some i=>match lk st id with
   |some (some (.NA _ sz D))=>match QL i (Nat.beq sz i.size) D off with
    |some d=>.r d o
    |none=>.no
   |some (some (.cells _ sz cs))=>match Je i (Nat.beq sz i.size) cs off with
    |some d=>.r d o
    |none=>.no
   |_=>.no
  |.ip N cs off,some i=>match QL i (Nat.beq t N) cs off with
   |some d=>match i.agg,Nat.beq t N,off with
    |true,true,0=>.p d ((C->cs.length=i.size)::o)
    |_,_,_=>.p d o
   |none=>.no
  |_,_=>.no
 |.field t x f=>Fy C env x λd o=>match d,lk B t with
  |.Kp (.agg D),some { sh:=.struct p,.. }=>match PZ p f with
   |some (A,M)=>match lk B M with
    |some i=>match QL i false D A with
     |some d=>.p d o
     |none=>.no
    |none=>.no
   |none=>.no
  |.agg D,some { sh:=.struct p,.. }=>match PZ p f with
   |some (A,M)=>match lk B M with
    |some i=>match Je i false D A with
     |some d=>.p d o
     |none=>.no
    |none=>.no
   |none=>.no
  |_,_=>.no
 |.extract x i=>Fy C env x λd o=>match d with
  |.Kp (.cg D)=>ze7 (PZ D i) o .p
  |.cg ds=>match PZ ds i with
   |some d=>.p d o
   |none=>.no
  |_=>.no
 |.index t x y=>Fy C env x λdx q=>Fy C env y λJ u=>match dx,J,lk B t with
  |.Kp (.str s),.Kp (.int _ i),some { sh:=.str,.. }=>.p (.Kp<|.int .u8 (s.getD i.toNat 0).toNat) ((C->0<=i/\i<s.length)::LC q u)
  |_,_,_=>.no
 |.slice t x T U none=>Fy C env x λd o=>match d,T,U with
  |.Kp (.str s),some a,some b=>Fy C env a λE L=>Fy C env b λG ob=>match E,G,lk B t with
   |.Kp (.int _ a),.Kp (.int _ b),some { sh:=.str,.. }=>.p (.Kp<|.str<|(s.drop a.toNat).take<|b.toNat-a.toNat) ((C->0<=a/\a<=b/\b<=s.length)::LC o (LC L ob))
   |_,_,_=>.no
  |.Kp (.str s),some a,none=>Fy C env a λE L=>match E,lk B t with
   |.Kp (.int _ a),some { sh:=.str,.. }=>.p (.Kp<|.str<|s.drop a.toNat) ((C->0<=a/\a<=s.length)::LC o L)
   |_,_=>.no
  |.Kp (.str s),none,some b=>Fy C env b λG ob=>match G,lk B t with
   |.Kp (.int _ b),some { sh:=.str,.. }=>.p (.Kp<|.str<|s.take b.toNat) ((C->0<=b/\b<=s.length)::LC o ob)
   |_,_=>.no
  |.Kp (.sl h),some a,some b=>Fy C env a λE L=>Fy C env b λG ob=>match E,G,lk B t with
   |.Kp (.int _ a),.Kp (.int _ b),some { sh:=.sl e,.. }=>match lk B e with
    |some i=>.p (.Kp<|.sl<|(h.drop a.toNat).take<|b.toNat-a.toNat) ((C->0<=a/\a<=b/\b<=h.length)::(∀c∈h,c.length=i.size)::LC o (LC L ob))
    |none=>.no
   |_,_,_=>.no
  |.Kp (.sl h),some a,none=>Fy C env a λE L=>match E,lk B t with
   |.Kp (.int _ a),some { sh:=.sl e,.. }=>match lk B e with
    |some i=>.p (.Kp<|.sl<|h.drop a.toNat) ((C->0<=a/\a<=h.length)::(∀c∈h,c.length=i.size)::LC o L)
    |none=>.no
   |_,_=>.no
  |.Kp (.sl h),none,some b=>Fy C env b λG ob=>match G,lk B t with
   |.Kp (.int _ b),some { sh:=.sl e,.. }=>match lk B e with
    |some i=>.p (.Kp<|.sl<|h.take b.toNat) ((C->0<=b/\b<=h.length)::(∀c∈h,c.length=i.size)::LC o ob)
    |none=>.no
   |_,_=>.no
  |_,_,_=>.no
 |.build t ⟨parts⟩=>match lk B t with
  |some { sh:=.struct p,zero:=z,.. }=>match SP B env z parts 0 0 p,Q1 p.length parts with
   |some (.v D,o),true=>.p (.Kp<|.agg D) o
   |some (.d ds,o),true=>.p (.agg ds) o
   |some (.e,o),true=>.p (.Kp<|.agg []) o
   |_,_=>.no
  |_=>.no
 |.buildSlice t n ⟨parts⟩=>match lk B t with
  |some { sh:=.sl e,.. }=>match lk B e with
   |some i=>match K6 C env i.size 0 parts,Nat.beq n parts.length,Nat.ble (n*i.size) 16777216,Nat.blt 0 i.size with
    |some (h,o),true,true,true=>.p (bsD h) o
    |_,_,_,_=>.no
   |none=>.no
  |_=>.no
 |.makeInterface t x=>Fy C env x λd o=>match lk B t with
  |some { sh:=.iface,.. }|some { sh:=.other,.. }|none=>.no
  |_=>match d with
   |.Kp x=>.p (.Kp<|.iface t x) o
   |d=>.p (.iface t d) o
 |.makeFunc f ⟨a⟩ ⟨b⟩=>match sY env a,sY env b with
  |some [],some []=>.p (.Kp<|.fn f) []
  |some E,some G=>.p (.fn f E G) []
  |_,_=>.no
 |.call { callee:=.builtin .len,args:=⟨[x]⟩,argTypes:=⟨[t]⟩ }=>Fy C env x λd o=>match d,lk B t with
  |.Kp (.sl h),some { sh:=.sl _,.. }=>.p (.Kp<|.int .i64 h.length) o
  |.Kp (.str s),some { sh:=.str,.. }=>.p (.Kp<|.int .i64 s.length) o
  |.NB,some { sh:=.sl _,.. }=>.p (.Kp<|.int .i64 0) o
  |.own _ n,some { sh:=.sl _,.. }=>.p (.Kp<|.int .i64 n) o
  |.eR (.slice _ n _),some { sh:=.sl _,.. }=>.p (.Kp<|.int .i64 n) o
  |.cf id,some { sh:=.map _ _,.. }=>match lk st id with
   |some (some (.map V))=>.r (.Kp<|.int .i64 V.length) o
   |_=>.no
  |_,_=>.no
 |.call { callee:=.builtin .max,args:=⟨[x,y]⟩,.. }=>Fy C env x λdx q=>Fy C env y λJ u=>match dx,J with
  |.Kp (.int k a),.Kp (.int _ b)=>.p (.Kp<|.int k (if b > a then b else a)) (LC q u)
  |_,_=>.no
 |.call { callee:=.builtin .min,args:=⟨[x,y]⟩,.. }=>Fy C env x λdx q=>Fy C env y λJ u=>match dx,J with
  |.Kp (.int k a),.Kp (.int _ b)=>.p (.Kp<|.int k (if b<a then b else a)) (LC q u)
  |_,_=>.no
 |_=>.no
def tA (B:TT) (env:Env) (st:St) (aa:L1 Nat) (op:Op):EE :=
 match op with
 |.box t x=>Tc env x λd=>match lk B t,aa with
  |some i,id::aa=>match zdm t i.size d with
   |some (q,ob)=>.e (.ref id 0) ((id,some q)::st) aa ob
   |none=>.no
  |_,_=>.no
 |.alloc t=>match lk B t,aa with
  |some i,id::aa=>match Nat.beq i.zero.length i.size with
   |true=>.e (.ref id 0) ((id,some<|TG t i.size i.zero)::st) aa []
   |false=>.no
  |_,_=>.no
 |.store t a x=>Tc env a λu=>Tc env x λd=>match u,lk B t with
  |.ref id off,some i=>match lk st id with
   |some (some (.NA h sz z))=>match Nat.beq sz i.size,off,d with
    |true,0,.Kp (.agg p)=>.e .undef ((id,some<|.NA h sz p)::st) aa [p.length=sz]
    |_,off,d=>match NW d with
     |some cs=>match iq (z.map .Kp) off cs,Nat.beq cs.length i.size with
      |some l,true=>.e .undef ((id,some<|TG h sz l)::st) aa []
      |_,_=>.no
     |none=>.no
   |some (some (.cells h sz ds))=>match Nat.beq sz i.size,off,d with
    |true,0,.Kp (.agg p)=>.e .undef ((id,some<|.NA h sz p)::st) aa [p.length=sz]
    |_,off,d=>match NW d with
     |some cs=>match iq ds off cs,Nat.beq cs.length i.size with
      |some l,true=>.e .undef ((id,some<|TG h sz l)::st) aa []
      |_,_=>.no
     |none=>.no
   |_=>.no
  |_,_=>.no
 |_=>.no
inductive DI where
 |code (c:Code)
 |inBlock (id:Nat)
 |inLoop (c:Code)
 |inScope (c:Code)
 |ops (all rest:List Oper)
 |je (all rest:List Oper) (fs:List (List Nat×List Nat))
def NJ (id:Nat):L1 DI->Option (L1 DI)
 |.inBlock h::k=>match Nat.beq h id with
  |true=>some k
  |false=>NJ id k
 |_::k=>NJ id k
 |[]=>none
inductive S1 where
 |y (read:Bool) (env:Env) (ob:List Prop)
 |e (env:Env) (st:St) (aa:List Nat) (ob:List Prop)
 |no
def RR (n:Nat) (dst:Option Nat) (d:D) (env:Env) (k:Env->S1):S1:=match dst with
 |some t=>match Nat.blt t n with
  |true=>k ((t,d)::env)
  |false=>.no
 |none=>k env
def x0:Option D->Bool->Option Bool
 |some (.Kp (.bool c)),_=>some c
 |some (.guard h w' (.Kp (.bool b))),w=>some (bif h==w' then b else !w)
 |_,_=>none
def Hz (B:TT) (n:Nat) (all:L1 Oper) (o:Oper) (env:Env) (st:St) (aa:L1 Nat):S1 :=
 match o.guard with
 |none=>match Jg B True env st o.op with
  |.p d ob=>RR n o.dst d env λenv=>.y false env ob
  |.r d ob=>RR n o.dst d env λenv=>.y true env ob
  |.no=>match tA B env st aa o.op with
   |.e d au Kr ob=>RR n o.dst d env λenv=>.e env au Kr ob
   |.no=>.no
 |some (j,w)=>match PZ all j with
  |some { dst:=some g,.. }=>match x0 (lk env g) w with
   |some c=>match Jg B (c=w) env st o.op with
    |.p d ob=>RR n o.dst (.guard c w d) env λenv=>.y false env ob
    |.r d ob=>RR n o.dst (.guard c w d) env λenv=>.y true env ob
    |.no=>.no
   |_=>.no
  |_=>.no
def A8:L1 Prop->Prop
 |[]=>True
 |p::r=>p/\A8 r
def ep:=@and_assoc
abbrev T0:=L1 Prop
def XE:∀(a b:T0),A8 (LC a b)↔A8 a/\A8 b
 |[],b=>by simp[LC,A8]
 |p::a,b=>by simp[LC,A8,XE a b,ep]
def XL (P:Program) (t:TypeId):Sh->Prop
 |.bool=>P.underlying t=some .bool
 |.int k=>P.underlying t=some (.int k)
 |.str=>P.underlying t=some .string
 |.ptr e=>P.underlying t=some (.pointer e)
 |.sl e=>P.underlying t=some (.slice e)
 |.map k e=>P.underlying t=some (.map k e)
 |.struct p=>∃h,P.underlying t=some (.struct h)/\h.toList.map (λf=>(f.offset,f.type))=p/\∀f∈h.toList,0<P.cellsOf f.type
 |.wz n e=>P.underlying t=some (.array n e)
 |.func=>∃a b c,P.underlying t=some (.func a b c)
 |.iface=>∃q,P.underlying t=some (.interface q)
 |.other=>True
structure jp (P:Program) (t:TypeId) (i:kh):Prop where
 lw:∃inf z,P.info? t=some inf/\inf.size=i.size/\inf.bytes=i.bytes/\inf.zero=some z /\
  (∀I μ,TB I μ z.cells.toList i.zero)/\(∀v∈z.cells.toList,v.oneCell'=true)
 agg:(Go.isAgg t).run P=λw=>.ok i.agg w
 sh:XL P t i.sh
def dv (P:Program) (B:TT):Prop:=∀t i,lk B t=some i->jp P t i
def jp.sizeOf {i:kh} (h:jp P t i) (w:World):(Go.sizeOf t).run P w=.ok i.size w:=by obtain⟨p,z,q,u,_⟩:=h.lw;simp[Go.sizeOf,typeInfo,q,u]
def jp.cellsOf {i:kh} (h:jp P t i):P.cellsOf t=i.size:=by obtain⟨p,z,q,u,_⟩:=h.lw;simp[Program.cellsOf,q,u]
def jp.isAgg {i:kh} (h:jp P t i) (w:World):(Go.isAgg t).run P w=.ok i.agg w:=by have:=congrFun h.agg w;exact this
def M8 (ts:L1 Nat) (I:TA) (μ:Mu) (env:Env) (a:Act):Prop:=∀t∈ts,∀d,lk env t=some d->X I μ (a.tmps.getD t undef) d
def la (P:Program) (r:Result Next) (K:Value->World->Prop):Prop :=
 match r with
 |.ok (.value v) w=>K v w
 |.ok .skip w=>K undef w
 |.ok (.enter f h) w=>Calls P f h w λe w'=>match e with
  |.returned v=>K v w'
  |_=>False
 |_=>False
def bc:=@Calls.mono
def la.mono (p:∀v w,K v w->K' v w) (h:la P r K):la P r K':=by unfold la at *;split at h;exact p _ _ h;exact p _ _ h;{exact bc h (λe w' q=>by cases e<;>first|exact p _ _ q|exact q)};exact h.elim
def YD (P:Program) (all:L1 Oper) (o:Oper) (env:Env) (st:St) (d:D):Prop :=
 ∀I μ aa a w,No I μ st aa w->M8 (o.looksAt all.toArray) I μ env a ->
  (Region.wanted o (yielded all.toArray a.tmps)=true ->
   la P ((execOp a.eval o).run P w) λv w'=>∃h,No h μ st aa w'/\X h μ v d/\fi I μ st w h μ st w') /\
  (Region.wanted o (yielded all.toArray a.tmps)=false->X I μ undef d)
def ED (P:Program) (all:L1 Oper) (o:Oper) (env:Env) (st:St) (aa:L1 Nat) (d:D) (au:St) (Kr:L1 Nat):Prop :=
 ∀I μ a w,No I μ st aa w->M8 (o.looksAt all.toArray) I μ env a->Region.wanted o (yielded all.toArray a.tmps)=true /\
   la P ((execOp a.eval o).run P w) λv w'=>∃p h,No p h au Kr w'/\X p h v d/\μ.le h/\fi I μ st w p h au w'
def zkd {x:V} (h:of1 v=some x) (I:TA):PB I v x/\v.oneCell'=true:=by
 unfold of1 at h
 split at h<;>first
  |(cases h;exact⟨.str _ _ O,rfl⟩)
  |(cases h;exact⟨.bool _,rfl⟩)
  |(cases h;exact⟨.int _ _,rfl⟩)
  |(cases h;exact⟨.slnil,rfl⟩)
  |cases h
abbrev R0:=L1 Value
def iQ:∀{cs:R0} {xs:G2},wB cs=some xs->∀I:TA,cs.length=xs.length/\(∀c∈cs,c.oneCell'=true)/\∀(i:Nat) (c:Value) (x:V),cs[i]?=some c->xs[i]?=some x->PB I c x
 |[],xs,h,I=>by simp only[wB,Co]at h;subst h;exact⟨rfl,(λ_ u=>nomatch u),(λi c x u _=>by simp at u)⟩
 |c::r,xs,h,I=>by simp only[wB]at h;split at h;rename_i x A B C;cases h;let⟨D,E,G⟩:=iQ C I;let⟨H,J⟩:=zkd B I;refine⟨by simp[D],λy p=>(Cu.1 p).elim (λe=>e▸J)<|E y,λi y z p q=>?_⟩;match i,p,q with|0,p,q=>cases p;cases q;exact H|i+1,p,q=>{exact G i y z (by simpa using p)<|by simpa using q};cases h
def Zs {d:D} (h:wJ v=some d) (I:TA) (μ:Mu):X I μ v d:=by
 unfold wJ at h
 split at h<;>first
  |(cases h;exact .Kp _ _<|.str _ _ O)
  |(cases h;exact .NB)
  |(cases h;exact .Kp _ _<|.bool _)
  |(cases h;exact .Kp _ _<|.int _ _)
  |(cases h;exact .Kp _ _ .jc)
  |(cases h;exact .Kp _ _ .gu)
  |(cases h;exact .Kp _ _ .dn)
  |(cases h;exact .Kp _ _ .ft)
  | (split at h
     ·rename_i p;cases h;let⟨q,u,z⟩:=iQ p I;exact .Kp _ _<|.agg _ _ (by simpa using q) (by simpa using u) λi c x A B=>z i c x (by simpa using A) B
     ·cases h)
  |cases h
def eI {I:TA} {μ:Mu} {env:Env} {x:Operand} {d:D} (h:Fi env x=some d) (p:∀t,x=.tmp t->∀d,lk env t=some d->X I μ (a.tmps.getD t undef) d):X I μ (a.eval x) d:=by cases x with|tmp t=>exact p t O d h|const v=>exact Zs h I μ|func f=>cases h;exact .Kp _ _ (.fn _)|global g=>{cases h}
def Fg (I:TA) (μ:Mu) (env:Env) (a:Act) (op:Op):Prop:=∀x∈op.operands.toList,∀d,Fi env x=some d->X I μ (a.eval x) d
def ez:=@List.mem_filterMap
def B3 {all:Array Oper} {I:TA} {μ:Mu} {env:Env} (h:M8 (o.looksAt all) I μ env a):Fg I μ env a o.op:=by intro x p d q;refine eI q λt u d z=>h t ?_ d z;unfold Oper.looksAt;refine AT.2<|.inl<|ez.2 ⟨x,p,by rw[u]⟩
def G4:EP->Option (D×L1 Prop)
 |.p d ob=>some (d,ob)
 |.r d ob=>some (d,ob)
 |.no=>none
def zdd {env:Env} {x:Operand} {k:D->T0->EP} {q:D×T0} (h:G4 (Fy C env x k)=some q):∃d z o,Fi env x=some z/\G4 (k d o)=some q/\∀I μ v,X I μ v z->A8 o->C->X I μ v d:=by unfold Fy at h;split at h;rename_i c w d p;refine⟨d,_,_,p,h,λI μ v u A B=>?_⟩;cases u with|guard _ _ _ _ E=>{exact E<|A.1 B};rename_i d G p;exact⟨d,d,[],p,h,λI μ v u _ _=>u⟩;cases h
section
variable {B:TT}
def X.Ks {I:TA} {μ:Mu} {x:V} (h:X I μ v<|.Kp x):PB I v x:=by cases h;assumption
def PB.da {I:TA} {k:IntKind} {n:Int} (h:PB I v<|.int k n):v=.int k n:=by cases h;rfl
def PB.jr {I:TA} {b:Bool} (h:PB I v<|.bool b):v=.bool b:=by cases h;rfl
def PB.jl {I:TA} {l:L1 UInt8} (h:PB I v<|.str l):∃s:ByteArray,v=.string s/\s.data.toList=l:=by cases h;exact⟨_,rfl,by assumption⟩
def EL (op:BinOp) (t:TypeId) (x y:Operand) (a b:Value) (h:∀cs,a≠.agg cs) (p:a≠.nilIface):(eqGuard op t x y a b).run P w=.ok () w:=by
 unfold eqGuard;cases op<;>simp
 all_goals
  cases a<;>first
   |rfl
   |exact absurd rfl p
   |exact absurd rfl (h _)
def ak:=@Sem.run_bind
def ah:=@Result.andThen_ok
def aq:=@if_false
def al:=@Sem.run_pure
def zik {op:BinOp} {a b x:V} {u z:Value} {I:TA} (t:TypeId) (A B:Operand) (G:PB I u a) (H:PB I z b) (J:zd4 a b=true) (h:zpa op a b=some (x,ob)) (p:A8 ob) :
  ∃v,(do eqGuard op t A B u z;binOp op t u z:Sem Value).run P w=.ok v w/\PB I v x:=by
 unfold zpa at h
 split at h
 ·rename_i k n L m;have C:k=L:=by simpa[zd4]using J
  subst C;obtain rfl:=G.da;obtain rfl:=H.da;have D:=EL (P:=P) (w:=w) op t A B (.int k n) (.int k m) (by simp) (by simp)
  split at h<;>simp only[Co,AP,reduceCtorEq]at h
  all_goals
   obtain⟨rfl,rfl⟩:=h;simp only[ak,D,ah]
  case h_4=>have E:m≠0:=p.1;exact⟨_,by simp[binOp,Op.intDiv,E],.int _ _⟩
  case h_5=>have E:m≠0:=p.1;exact⟨_,by simp[binOp,Op.intDiv,E],.int _ _⟩
  all_goals first
   |(refine⟨_,?_,.int _ _⟩;simp[binOp,Op.intArith];done)
   |(refine⟨_,?_,.bool _⟩;simp[binOp,Op.intCmp];done)
 ·rename_i l m;obtain⟨s,rfl,rfl⟩:=G.jl;obtain⟨q,rfl,rfl⟩:=H.jl;have D:=EL (P:=P) (w:=w) op t A B (.string s) (.string q) (by simp) (by simp)
  split at h<;>simp only[Co,AP,reduceCtorEq]at h
  all_goals
   obtain⟨rfl,rfl⟩:=h;simp only[ak,D,ah]
  ·have M:s.data.toList.length+q.data.toList.length<=9223372036854775807:=p.1;refine⟨_,?_,.str (s++q) _<|by simp[ByteArray.data_append]⟩;have:¬((s.size+q.size:Nat):Int) > IntKind.i64.max:=by
    simp only[QJ]at M;have N:s.size=s.data.size:=rfl;have T:q.size=q.data.size:=rfl;simp only[IntKind.max,N,T];simp[IntKind.signed,IntKind.bits];omega
   simp only[binOp,Op.stringOp,this,aq,al]
  all_goals (refine⟨_,?_,.bool _⟩;simp[binOp,Op.stringOp,ByteArray.toList_eq])
 ·cases h
end
section
variable {B:TT} {I:TA} {μ:Mu} {st:St}
def JV (b o n:Nat):(⟨b,o,none⟩:Addr).add n=⟨b,o+n,none⟩:=by unfold Addr.add;split;rename_i h;subst h;rfl;rfl
def Ts.cons {x:V} {xs:G2} (h:Ts I (v::vs)<|x::xs):PB I v x/\Ts I vs xs:=⟨h.2 0 v x O O,by simpa using h.1,λi v x p q=>h.2 (i+1) v x (by simpa using p)<|by simpa using q⟩
def TB.cons {x:D} {xs:R1} (h:TB I μ (v::vs)<|x::xs):X I μ v x/\TB I μ vs xs:=⟨h.2 0 v x O O,by simpa using h.1,λi v x p q=>h.2 (i+1) v x (by simpa using p)<|by simpa using q⟩
def Ts.mk {x:V} {xs:G2} (h:PB I v x) (z:Ts I vs xs):Ts I (v::vs) (x::xs) :=
 ⟨by simp[z.1],λi u y p q=>by
  cases i with
  |zero=>simp at p q;subst p;subst q;exact h
  |succ i=>exact z.2 i u y (by simpa using p)<|by simpa using q⟩
def TB.mk {x:D} {xs:R1} (h:X I μ v x) (z:TB I μ vs xs):TB I μ (v::vs) (x::xs) :=
 ⟨by simp[z.1],λi u y p q=>by
  cases i with
  |zero=>simp at p q;subst p;subst q;exact h
  |succ i=>exact z.2 i u y (by simpa using p)<|by simpa using q⟩
def Ts.nil:Ts I [] []:=⟨rfl,λi v x h=>by simp at h⟩
def TB.nil:TB I μ [] []:=⟨rfl,λi v x h=>by simp at h⟩
def Ts.append {p:R0} {xs ys:G2} (h:Ts I vs xs) (k:Ts I p ys):Ts I (vs++p)<|xs++ys:=by induction vs generalizing xs with|nil=>{cases xs with|nil=>exact k|cons=>{simp[Ts]at h}}|cons v vs q=>{cases xs with|nil=>simp[Ts]at h|cons x xs=>{exact .mk h.cons.1<|q h.cons.2}}
def Ts.Kp {xs:G2} (h:Ts I vs xs):TB I μ vs<|xs.map .Kp:=⟨by simpa using h.1,λi v d q p=>by{simp only[Cx,E9]at p;obtain⟨x,u,rfl⟩:=p;exact .Kp _ _<|h.2 i v x q u}⟩
def Mj:∀{ds:R1} {xs:G2},N5 ds=some xs->TB I μ vs ds->Ts I vs xs:=by induction vs with|nil=>{intro ds xs h p;cases ds with|nil=>cases h;exact .nil|cons d ds=>{simp[TB]at p}}|cons v vs u=>{intro ds xs h p;cases ds with|nil=>simp[TB]at p|cons d ds=>{obtain⟨x,z⟩:=p.cons;cases d<;>simp only[N5,reduceCtorEq]at h;split at h;rename_i A q;cases h;exact .mk x.Ks<|u q z;cases h}}
def J2 {ds:R1} (h:TB I μ vs ds) (p:∀v∈vs,v.oneCell'=true):X I μ (.agg vs.toArray)<|Kv ds:=by unfold Kv;split;rename_i u q;have:=Mj q h;exact .Kp _ _<|.agg _ _ (by simpa using this.1) (by simpa using p) λi c x a b=>this.2 i c x (by simpa using a) b;exact .agg _ _ (by simpa using h.1) (by simpa using p) λi c x a b=>h.2 i c x (by simpa using a) b
def KX {α:Type}:∀{l:L1 α} {o n:Nat} {r:L1 α},sub l o n=some r->r=(l.drop o).take n/\o+n<=l.length
 |_,0,0,r,h=>by simp[sub]at h;simp[h]
 |x::l,0,n+1,r,h=>by simp only[sub]at h;split at h;rename_i q p;cases h;have:=KX p;simp at this;simp only[this.1];exact⟨by simp,by simp;omega⟩;cases h
 |x::l,o+1,n,r,h=>by simp only[sub]at h;have:=KX h;simp[this.1];omega
 |[],0,n+1,r,h=>by simp[sub]at h
 |[],o+1,n,r,h=>by cases n<;>simp[sub]at h
def aw:=@if_true
def Oh {i:kh} (q:jp P t i) (b o:Nat) (f:Nat->Value) (h:∀j,j<i.size->w.cell? ⟨b,o+j,none⟩=some (f j)) (u:i.agg=false->w.cell? ⟨b,o,none⟩=some (f 0)):(Instr.loadAt t<|.pointer<|some ⟨b,o,none⟩).run P w=.ok (if i.agg then .agg ((List.range i.size).map f).toArray else f 0) w:=by simp only[Instr.loadAt,Instr.sureAddr,ak,al,ah,loadVar,q.isAgg w];cases p:i.agg with|true=>simp only[aw,ak,q.sizeOf w,ah];rw[run_loadCells w ⟨b,o,none⟩ i.size f (λj x=>by rw[JV];exact h j x)];rfl|false=>{have:=u p;simp[run_load,this]}
def Iy {f:Nat->Value} {c:Value} (h:((List.range n).map f)[i]?=some c):i<n/\c=f i:=by simp only[Cx,E9]at h;obtain⟨a,q,rfl⟩:=h;by_cases p:i<n;rw[List.getElem?_range p]at q;cases q;exact⟨p,rfl⟩;rw[M4 (by simp;omega)]at q;cases q
def TL {i:kh} {same:Bool} {xs:G2} {d:D} (h:QL i same xs off=some d):(i.agg=true/\same=true/\off=0/\d=.Kp (.agg xs))\/(i.agg=true/\∃l,sub xs off i.size=some l/\d=.Kp (.agg l))\/(i.agg=false/\∃x,xs[off]?=some x/\d=.Kp x):=by unfold QL at h;cases q:i.agg with|true=>{rw[q]at h;by_cases p:same=true/\off=0;obtain⟨rfl,rfl⟩:=p;cases h;exact .inl ⟨rfl,rfl,rfl,rfl⟩;refine .inr<|.inl ⟨rfl,?_⟩;cases u:sub xs off i.size with|none=>cases same<;>cases off<;>simp[u]at h p|some l=>{cases same<;>cases off<;>simp[u]at h p<;>exact⟨l,rfl,h.symm⟩}}|false=>{rw[q]at h;refine .inr<|.inr ⟨rfl,?_⟩;simp only at h;split at h;rename_i x z;cases h;exact⟨x,by rw[<- Ih];exact z,rfl⟩;cases h}
def TM {i:kh} {same:Bool} {xs:R1} {d:D} (h:Je i same xs off=some d):(i.agg=true/\same=true/\off=0/\d=Kv xs)\/(i.agg=true/\∃l,sub xs off i.size=some l/\d=Kv l)\/(i.agg=false/\xs[off]?=some d):=by unfold Je at h;cases q:i.agg with|true=>{rw[q]at h;by_cases p:same=true/\off=0;obtain⟨rfl,rfl⟩:=p;cases h;exact .inl ⟨rfl,rfl,rfl,rfl⟩;refine .inr<|.inl ⟨rfl,?_⟩;cases u:sub xs off i.size with|none=>cases same<;>cases off<;>simp[u]at h p|some l=>{cases same<;>cases off<;>simp[u]at h p<;>exact⟨l,rfl,h.symm⟩}}|false=>{rw[q]at h;refine .inr<|.inr ⟨rfl,?_⟩;rw[<- Ih];exact h}
def ae:=@if_pos
def QK {i:kh} (N:jp P t i) {o:Nat} {xs:G2} {d:D} {vs:Nat->Value} {same:Bool} (p:∀j x,xs[j]?=some x->w.cell? ⟨b,o+j,none⟩=some (vs j)/\(vs j).oneCell'=true) (z:∀j x,xs[j]?=some x->PB I (vs j) x) (U:i.agg=true->same=true->off=0->xs.length=i.size) (h:QL i same xs off=some d):∃v,(Instr.loadAt t<|.pointer<|some ⟨b,o+off,none⟩).run P w=.ok v w/\X I μ v d:=by have C:∀n,off+n<=xs.length->∀j,j<n->∃x,xs[off+j]?=some x:=λn a j G=>⟨_,Bi<|by omega⟩;have A:∀n,n=i.size->i.agg=true->off+n<=xs.length->(∀x:D,x=.Kp (.agg<|(xs.drop off).take n)->∃v,(Instr.loadAt t<|.pointer<|some ⟨b,o+off,none⟩).run P w=.ok v w/\X I μ v x):=by{rintro n rfl q E x rfl;refine⟨_,Oh N b (o+off) (λj=>vs<|off+j) (λj G=>?_) λW=>by simp[q]at W,?_⟩;let⟨x,u⟩:=C _ E j G;have:=(p _ _ u).1;rw[<- Z6]at this;exact this;rw[ae q];refine .Kp _ _<|.agg _ _ ?_ ?_ ?_;simp;omega;intro c B;simp only[CC,OW]at B;obtain⟨j,G,rfl⟩:=B;let⟨x,u⟩:=C _ E j G;exact(p _ _ u).2;intro j c x B u;have J:((List.range i.size).map λj=>vs<|off+j)[j]?=some c:=by{simpa using B};obtain⟨L,rfl⟩:=Iy J;rw[Ea,ae L,F7]at u;exact z _ _ u};rcases TL h with⟨q,M,H,rfl⟩|⟨q,l,T,rfl⟩|⟨q,x,u,rfl⟩;have T:=U q M H;subst H;exact A _ O q (by omega) _ (by rw[jK,Df<|by omega]);let⟨M,H⟩:=KX T;exact A _ O q H _ (by rw[M]);have B:=p _ _ u;refine⟨vs off,?_,.Kp _ _<|z _ _ u⟩;simp only[Instr.loadAt,Instr.sureAddr,ak,al,ah,loadVar,N.isAgg w,q];simp[run_load,B.1]
def jN {i:kh} (G:jp P t i) {cs:R1} {d:D} {same:Bool} (p:∀j v,vs[j]?=some v->w.cell? ⟨b,j,none⟩=some v) (A:∀v∈vs,v.oneCell'=true) (q:TB I μ vs cs) (L:i.agg=true->same=true->off=0->cs.length=i.size) (h:Je i same cs off=some d):∃v,(Instr.loadAt t<|.pointer<|some ⟨b,off,none⟩).run P w=.ok v w/\X I μ v d:=by have H:=q.1;have z:∀n,n=i.size->i.agg=true->off+n<=cs.length->∃v,(Instr.loadAt t<|.pointer<|some ⟨b,off,none⟩).run P w=.ok v w/\X I μ v (Kv<|(cs.drop off).take n):=by{rintro n rfl x M;refine⟨_,Oh G b off (λj=>vs.getD (off+j) undef) (λj B=>?_) λN=>by simp[x]at N,?_⟩;have u:off+j<vs.length:=by{omega};rw[p _ _<|Bi u];simp[List.getD,u];rw[ae x];have e:(List.range i.size).map (λj=>vs.getD (off+j) undef)=(vs.drop off).take i.size:=by{apply QI;intro j;by_cases B:j<i.size;have u:off+j<vs.length:=by{omega};simp[B,F7,List.getD,u];rw[M4 (by simp;omega),M4 (by simp;omega)]};rw[e];refine J2 ⟨by simp;omega,λj v d a b=>?_⟩ λv C=>A v<|TK<|OV C;rw[Ea]at a b;split at a;rename_i B;rw[ae B,F7]at b;rw[F7]at a;exact q.2 _ _ _ a b;cases a};rcases TM h with⟨x,A,E,rfl⟩|⟨x,l,J,rfl⟩|⟨x,h⟩;have J:=L x A E;subst E;have:=z _ O x (by omega);rw[jK,Df<|by omega]at this;exact this;let⟨A,E⟩:=KX J;have:=z _ O x E;rw[<- A]at this;exact this;have u:off<cs.length:=(A9.1 h).1;have C:vs[off]?=some (vs[off]'(by omega)):=Bi (by omega);refine⟨_,?_,q.2 _ _ _ C h⟩;have T:=p _ _ C;simp only[Instr.loadAt,Instr.sureAddr,ak,al,ah,loadVar,G.isAgg w,x];simp[run_load,T]
def Gx {vs:Array Value} {fr:Nat×Nat} (h:w.heap[b]?=some (.cells vs t fr)) (j:Nat) (v:Value) (p:vs.toList[j]?=some v):w.cell? ⟨b,j,none⟩=some v:=by simp[World.cell?,h];simpa using p
def wD {i:kh} (p:jp P t i) {vs:Array Value} (h:i.agg=false->∃v,vs[off]?=some v):∃v,(Go.part t vs off).run P w=.ok v w/\v=(if i.agg then .agg (vs.extract off<|off+i.size)else(vs[off]?).getD undef):=by unfold Go.part;simp only[ak,p.isAgg w,ah];cases q:i.agg with|true=>simp[p.sizeOf w]|false=>{let⟨v,u⟩:=h q;simp[u]}
def gd:=@Array.ext'
def ze2 {i:kh} (E:jp P t i) {vs:Array Value} {cs:R1} {d:D} (A:∀v∈vs.toList,v.oneCell'=true) (p:TB I μ vs.toList cs) (h:Je i false cs off=some d):∃v,(Go.part t vs off).run P w=.ok v w/\X I μ v d:=by rcases TM h with⟨x,A,T,rfl⟩|⟨x,l,H,rfl⟩|⟨x,h⟩;cases A;let⟨e,J⟩:=KX H;let⟨v,u,B⟩:=wD (w:=w) E (vs:=vs) (off:=off) (λG=>by rw[x]at G;cases G);refine⟨v,u,?_⟩;rw[B,ae x,e];have L:vs.extract off (off+i.size)=((vs.toList.drop off).take i.size).toArray:=by{apply gd;simp[zft]};rw[L];have q:=p.1;refine J2 ⟨by simp at q ⊢;omega,λj v d a b=>?_⟩ λv u=>A v<|TK<|OV u;rw[Ea]at a b;split at a;rename_i M;rw[ae M,F7]at b;rw[F7]at a;exact p.2 _ _ _ a b;cases a;have N:off<cs.length:=(A9.1 h).1;have q:=p.1;have u:vs.toList[off]?=some (vs.toList[off]'(by omega)):=Bi (by omega);have z:vs[off]?=some (vs.toList[off]'(by omega)):=by{rw[<- Wr];exact u};let⟨v,C,B⟩:=wD (w:=w) E (vs:=vs) (off:=off) λ_=>⟨_,z⟩;refine⟨v,C,?_⟩;rw[B,x,z];exact p.2 _ _ _ u h
def jM {i:kh} {xs:G2} {d:D} (h:QL i false xs off=some d):∃C,Je i false (xs.map .Kp) off=some C/\(∀v,X I μ v C->X I μ v d):=by have q:∀l:G2,N5 (l.map D.Kp)=some l:=by{intro l;induction l with|nil=>rfl|cons x l z=>{simp[N5,z]}};rcases TL h with⟨u,E,J,rfl⟩|⟨u,l,p,rfl⟩|⟨u,x,G,rfl⟩;cases E;have H:sub (xs.map D.Kp) off i.size=some (l.map D.Kp):=by{clear u h;generalize i.size=n at p;induction xs generalizing off n l with|nil=>cases off<;>cases n<;>simp[sub]at p;simp[p,sub]|cons x xs z=>{cases off with|zero=>{cases n with|zero=>simp[sub]at p;simp[p,sub]|succ n=>{simp only[sub]at p;split at p;rename_i L A;cases p;simp[sub,z _ _ A];cases p}}|succ o=>{simp only[sub]at p;simp[sub,z _ _ p]}}};refine⟨Kv<|l.map .Kp,by simp[Je,u,H],λv B=>?_⟩;simpa[Kv,q]using B;exact⟨.Kp x,by simp[Je,u,Ih,G],λv B=>B⟩
end
section
variable {B:TT} {I:TA} {μ:Mu} {st:St}
def Jw (P:Program) (I:TA) (μ:Mu) (st:St) (aa:L1 Nat) (w:World) (d:D) (r:Result Next):Prop :=
 la P r λv w'=>∃h,No h μ st aa w'/\X h μ v d/\fi I μ st w h μ st w'
def Bj {e:Sem Next} {d:D} (p:No I μ st aa w) (h:e.run P w=.ok (.value v) w) (q:X I μ v d):Jw P I μ st aa w d<|e.run P w:=by rw[h];exact⟨I,p,q,fi.refl _ _ _ _⟩
def AG {s:Sem Value} (h:s.run P w=.ok v w):(do pure (.value (<- s)):Sem Next).run P w=.ok (.value v) w:=by simp[h]
def dv.sh {i:kh} (p:dv P B) (h:lk B t=some i):XL P t i.sh:=(p t i h).sh
def aj:=@run_underlying
def Mo {fs:L1<|Nat×TypeId} (H:XL P t<|.struct fs) {D:Nat} {J:TypeId} (E:PZ fs f=some (D,J)) (b o:Nat):(Instr.fieldAt t (.pointer<|some ⟨b,o,none⟩) f).run P w=.ok (.pointer<|some ⟨b,o+D,none⟩) w:=by obtain⟨q,L,M,N⟩:=H;rw[Ih,<- M,Cx,E9]at E;obtain⟨u,x,G⟩:=E;simp only[AP]at G;obtain⟨T,U⟩:=G;have z:q[f]?=some u:=by{rw[<- Wr];exact x};have h:=N u<|AE x;have B:∃p,P.info? u.type=some p/\p.size≠0:=by{unfold Program.cellsOf at h;cases A:P.info? u.type with|none=>simp[A]at h|some p=>{exact⟨p,rfl,by simp[A]at h;omega⟩}};obtain⟨p,A,C⟩:=B;simp[Instr.fieldAt,aj L,z,Instr.sureAddr,fieldPlace,sizeOf,typeInfo,A,C,JV,T]
def Hs (a b:Nat):Ez a b=a+b:=by cases a<;>simp[Ez]
def Xx {i:kh} (h:jp P t i) (z:i.sh≠.iface) (A:i.sh≠.other) (x:Value):(Instr.makeInterface t x).run P w=.ok (.iface t x) w:=by
 have u:=h.sh;cases p:i.sh<;>rw[p]at u<;>first
  |exact absurd p z
  |exact absurd p A
  |(obtain⟨a,q,_⟩:=u;simp[Instr.makeInterface,aj q];done)
  |(obtain⟨a,b,c,q⟩:=u;simp[Instr.makeInterface,aj q];done)
  |(have q:P.underlying t=some _:=u;simp[Instr.makeInterface,aj q];done)
abbrev c8:=L1 Operand
def Xh {env:Env} {a:Act}:∀{l:c8} {ds:R1},sY env l=some ds->(∀x∈l,∀d,Fi env x=some d->X I μ (a.eval x) d)->TB I μ (l.map a.eval) ds
 |[],ds,h,_=>by cases h;exact .nil
 |x::r,ds,h,p=>by simp only[sY]at h;split at h;cases h;rename_i d q u z A;cases h;exact .mk (p x (by simp) d z)<|Xh A λy B=>p y (by simp[B]);cases h
def Ki {α:Type}:∀{l:L1 α} {o:Nat} {ys r:L1 α},iq l o ys=some r->r=l.take o++ys++l.drop (o+ys.length)/\o+ys.length<=l.length
 |l,0,[],r,h=>by simp[iq]at h;simp[h]
 |x::l,0,y::ys,r,h=>by simp only[iq]at h;split at h;rename_i q p;cases h;have:=Ki p;simp only[this.1];refine⟨by simp,?_⟩;have:=this.2;simp at this ⊢;omega;cases h
 |x::l,o+1,ys,r,h=>by simp only[iq]at h;split at h;rename_i q p;cases h;have:=Ki p;simp only[this.1];refine⟨?_,?_⟩;simp[Nat.add_right_comm];have:=this.2;simp at this ⊢;omega;cases h
 |[],0,y::ys,r,h=>by simp[iq]at h
 |[],o+1,ys,r,h=>by cases ys<;>simp[iq]at h
def ZN {d:D} (h:ZO d=true) (p:X I μ v d):∃ad,v=.pointer (some ad):=by cases p<;>first|(simp[ZO]at h;done)|exact⟨_,rfl⟩|(rename_i q;cases v<;>first|(simp[ZO]at h;done)|(rename_i o;cases o<;>first|(simp[ZO]at h;done)|exact⟨_,rfl⟩))
def UC (n:Nat) (h:P.underlying t=some (.pointer e)) (ad:Addr):(Op.equalIn (n+1) t (.pointer<|some ad)<|.pointer none).run P w=.ok false w:=by simp[Op.equalIn,aj h]
def Pe (h:P.underlying t=some (.pointer e)) (ad:Addr):(Op.equal t (.pointer<|some ad)<|.pointer none).run P w=.ok false w:=UC 9999 h ad
def mA (h:P.underlying t=some (.pointer e)) (p q:Operand) (ad:Addr):(do eqGuard .eql t p q (.pointer<|some ad) (.pointer none);binOp .eql t (.pointer<|some ad) (.pointer none):Sem Value).run P w=.ok (.bool false) w:=by simp only[ak,EL .eql t p q (.pointer<|some ad) (.pointer none) (by simp)<|by simp,ah,binOp,Pe h,al]
def jA (h:P.underlying t=some (.pointer e)) (p q:Operand) (ad:Addr):(do eqGuard .neq t p q (.pointer<|some ad) (.pointer none);binOp .neq t (.pointer<|some ad) (.pointer none):Sem Value).run P w=.ok (.bool true) w:=by simp only[ak,EL .neq t p q (.pointer<|some ad) (.pointer none) (by simp)<|by simp,ah,binOp,Pe h,al,Bool.not_false]
def UD (n:Nat) (h:P.underlying t=some (.pointer e)):(Op.equalIn (n+1) t (.pointer none)<|.pointer none).run P w=.ok true w:=by simp[Op.equalIn,aj h]
def Pf (h:P.underlying t=some (.pointer e)):(Op.equal t (.pointer none)<|.pointer none).run P w=.ok true w:=UD 9999 h
def mB (h:P.underlying t=some (.pointer e)) (p q:Operand):(do eqGuard .eql t p q (.pointer none) (.pointer none);binOp .eql t (.pointer none) (.pointer none):Sem Value).run P w=.ok (.bool true) w:=by simp only[ak,EL .eql t p q (.pointer none) (.pointer none) (by simp)<|by simp,ah,binOp,Pf h,al]
def jB (h:P.underlying t=some (.pointer e)) (p q:Operand):(do eqGuard .neq t p q (.pointer none) (.pointer none);binOp .neq t (.pointer none) (.pointer none):Sem Value).run P w=.ok (.bool false) w:=by simp only[ak,EL .neq t p q (.pointer none) (.pointer none) (by simp)<|by simp,ah,binOp,Pf h,al,Bool.not_true]
def BS {a b:T0} (h:A8<|LC a b):A8 a/\A8 b:=(XE a b).1 h
def ziu {l:T0} (h:A8 (l.map (C->·))) (q:C):A8 l:=by induction l with|nil=>trivial|cons p l u=>{exact⟨h.1 q,u h.2⟩}
def BF {env:Env} {x:Operand} {k:D->T0->EP} {q:D×T0} (h:G4 (Fy C env x k)=some q) (p:C) (u:∀d,Fi env x=some d->X I μ (a.eval x) d):∃d o,G4 (k d o)=some q/\(A8 o->X I μ (a.eval x) d):=by let⟨d,G,o,z,A,B⟩:=zdd h;exact⟨d,o,A,λE=>B I μ _ (u _ z) E p⟩
abbrev K2:=L1 Int
def Uk {I:TA}:∀{es:L1<|G2} {l:L1 UInt8},UU es=some l->∃q:K2,es=q.map (λn=>[V.int .u8 n])/\l=q.map (λn=>UInt8.ofNat n.toNat)
 |[],l,h=>by cases h;exact⟨[],rfl,rfl⟩
 |e::r,l,h=>by unfold UU at h;split at h;rename_i p;cases p;rename_i n A p;cases p;split at h;rename_i B u;cases h;let⟨q,x,z⟩:=Uk (I:=I) u;exact⟨n::q,by simp[x],by simp[z]⟩;cases h;cases h
def VP:∀(h:K2) (s:ByteArray),(h.foldl (λr n=>r.push<|UInt8.ofNat n.toNat) s).data.toList=s.data.toList++h.map (λn=>UInt8.ofNat n.toNat)
 |[],s=>by simp
 |n::h,s=>by simp only[M3,VP h,CK];simp[ByteArray.push]
def ML (D:P.underlying t=some .string) (s:ByteArray) (p q:Option Value) (l h:Nat) (u:l<=h) (E:h<=s.size) (z:p=none/\l=0\/∃k,p=some (.int k l)) (A:q=none/\h=s.size\/∃k,q=some (.int k h)):(Instr.sliceAt t (.string s) p q none).run P w=.ok (.string<|s.extract l h) w:=by have C:∀(k:IntKind) (x y:Nat) (c:BoundsCode),x<=y->(Instr.sliceBound (.int k x) y c).run P w=.ok x w:=by{intro k x y c B;simp[Instr.sliceBound,asIntOf,B]};rcases z with⟨rfl,rfl⟩|⟨k,rfl⟩<;>rcases A with⟨rfl,rfl⟩|⟨G,rfl⟩<;>simp[Instr.sliceAt,aj D,Instr.slice,Instr.sliceBounds,C _ _ _ _ u,C _ _ _ _ E]
end
section
variable {B:TT} {I:TA} {μ:Mu} {st:St} {env:Env} {d:D}
def X.tb {xs:G2} (h:X I μ v<|.Kp<|.cg xs):∃cs:Array Value,v=.tuple cs/\Ts I cs.toList xs:=by cases h with|Kp _ _ h=>{cases h with|cg cs _ p h=>{exact⟨cs,rfl,by simpa using p,λi v x a b=>h i v x (by simpa using a) b⟩}}
def X.q9 {xs:R1} (h:X I μ v<|.cg xs):∃cs:Array Value,v=.tuple cs/\TB I μ cs.toList xs:=by cases h with|cg cs _ p h=>{exact⟨cs,rfl,by simpa using p,λi v x a b=>h i v x (by simpa using a) b⟩}
def X.ku {xs:G2} (h:X I μ v<|.Kp<|.agg xs):∃cs:Array Value,v=.agg cs/\Ts I cs.toList xs/\∀c∈cs.toList,c.oneCell'=true:=by cases h with|Kp _ _ h=>{cases h with|agg cs _ p q h=>{exact⟨cs,rfl,⟨by simpa using p,λi v x a b=>h i v x (by simpa using a) b⟩,q⟩}}
def X.ju {xs:R1} (h:X I μ v<|.agg xs):∃cs:Array Value,v=.agg cs/\TB I μ cs.toList xs/\∀c∈cs.toList,c.oneCell'=true:=by cases h with|agg cs _ p q h=>{exact⟨cs,rfl,⟨by simpa using p,λi v x a b=>h i v x (by simpa using a) b⟩,q⟩}
def X.gy {c w:Bool} {d:D} (h:X I μ v<|.guard c w d) (p:c=w):X I μ v d:=by cases h with|guard _ _ _ _ q _=>{exact q p}
def X.nq {f:Fn} {p dc:R1} (h:X I μ v<|.fn f p dc):∃x y,v=.func f x y:=by cases h;exact⟨_,_,rfl⟩
def X.tc {f:Fn} (h:X I μ v<|.Kp<|.fn f):v=.func f #[] #[]:=by have:=h.Ks;cases this;rfl
def X.mm (h:X I μ v<|.Kp .jc):v=.pointer none:=by have:=h.Ks;cases this;rfl
def zln (M:No I μ st aa w) {c x y:Operand} (V:o.op=.pick c x y) (G:Fg I μ env a o.op) (L:C) (h:G4 (Jg B C env st o.op)=some (d,ob)) (u:A8 ob):Jw P I μ st aa w d<|(execOp a.eval o).run P w:=by rw[V]at G h;have z:=G c (by simp[Op.operands]);have A:=G x (by simp[Op.operands]);have D:=G y (by simp[Op.operands]);simp only[execOp,V];have E:∀(b p q:Bool),X I μ (a.eval c) (.Kp<|.bool b)->(b=true->X I μ (a.eval x) (.Kp<|.bool p))->(b=false->X I μ (a.eval y) (.Kp<|.bool q))->Jw P I μ st aa w (.Kp<|.bool<|bif b then p else q) ((do pure (.value (if <- asBool (a.eval c)then a.eval x else a.eval y)):Sem Next).run P w):=by{intro b p q N W e;have H:=N.Ks.jr;rw[H];cases b with|true=>exact Bj M (v:=a.eval x) (by simp[asBool]) (W O)|false=>{exact Bj M (v:=a.eval y) (by simp[asBool])<|e O}};simp only[Jg]at h;split at h<;>simp only[G4,Co,AP,reduceCtorEq]at h;(all_goals(rename_i H T U;obtain⟨rfl,rfl⟩:=h));exact E _ _ _ (z _ H) (λ_=>A _ T) λ_=>D _ U;refine E _ _ _ (z _ H) (λ_=>A _ T) λJ=>?_;exact(D _ U).gy<|u.1 L J;refine E _ _ _ (z _ H) (λJ=>?_) λ_=>D _ U;exact(A _ T).gy<|u.1 L J;have N:=z _ H;refine E _ _ _ (N.gy<|u.1 L) (λ_=>A _ T) λJ=>?_;exact(D _ U).gy<|u.2.1 L J;have N:=z _ H;refine E _ _ _ (N.gy<|u.1 L) (λJ=>?_) λ_=>D _ U;exact(A _ T).gy<|u.2.1 L J
def zhs (E:dv P B) (z:No I μ st aa w) {op:BinOp} {e:TypeId} {x y:Operand} (c:o.op=.binOp op t x y e) (H:Fg I μ env a o.op) (b:C) (h:G4 (Jg B C env st o.op)=some (d,ob)) (A:A8 ob):Jw P I μ st aa w d<|(execOp a.eval o).run P w:=by rw[c]at H h;simp only[execOp,c];simp only[Jg]at h;let⟨r,f,G,V⟩:=BF h b<|H x (by simp[Op.operands]);clear h;let⟨s,g,h,W⟩:=BF G b<|H y (by simp[Op.operands]);clear G;split at h;rename_i p q;have M:A8 (LC f g)->XL P t .bool->Jw P I μ st aa w (.Kp<|.bool<|p==q) ((do pure (.value (<- (do eqGuard .eql t x y (a.eval x) (a.eval y);binOp .eql t (a.eval x) (a.eval y)))):Sem Next).run P w)/\Jw P I μ st aa w (.Kp<|.bool (!(p==q))) ((do pure (.value (<- (do eqGuard .neq t x y (a.eval x) (a.eval y);binOp .neq t (a.eval x) (a.eval y)))):Sem Next).run P w):=by{intro N D;have T:=(V (BS N).1).Ks.jr;have U:=(W (BS N).2).Ks.jr;rw[T,U];have D:P.underlying t=some .bool:=D;constructor;refine Bj z (AG (v:=.bool<|p==q) ?_)<|.Kp _ _<|.bool _;simp only[ak,EL .eql t x y (.bool p) (.bool q) (by simp)<|by simp,ah,run_eql_bool w t p q D];refine Bj z (AG (v:=.bool (!(p==q))) ?_)<|.Kp _ _<|.bool _;simp only[ak,EL .neq t x y (.bool p) (.bool q) (by simp)<|by simp,ah,run_neq_bool w t p q D]};split at h<;>simp only[G4,Co,AP,reduceCtorEq]at h;rename_i J;obtain⟨rfl,rfl⟩:=h;exact(M A<|E.sh J).1;rename_i J;obtain⟨rfl,rfl⟩:=h;exact(M A<|E.sh J).2;{split at h<;>simp only[G4,Co,AP,reduceCtorEq]at h;(all_goals(rename_i J;obtain⟨rfl,rfl⟩:=h;let⟨G,L⟩:=BS A;have T:a.eval x=.pointer none:=(V G).mm;have U:a.eval y=.pointer none:=(W L).mm;have D:P.underlying t=some (.pointer _):=E.sh J;rw[T,U]));exact Bj z (AG<|mB D x y)<|.Kp _ _<|.bool _;exact Bj z (AG<|jB D x y)<|.Kp _ _<|.bool _};rename_i p q _ _;split at h<;>simp only[G4,Co,AP,reduceCtorEq]at h;rename_i v F i j;obtain⟨rfl,rfl⟩:=h;let⟨G,L⟩:=BS A;let⟨L,k⟩:=BS L;let⟨u,l,m⟩:=zik (P:=P) (w:=w) t x y (V L).Ks (W k).Ks i j<|ziu G b;exact Bj z (AG l)<|.Kp _ _ m;{split at h<;>simp only[G4,Co,AP,reduceCtorEq]at h;(all_goals(rename_i n J;obtain⟨rfl,rfl⟩:=h;let⟨G,L⟩:=BS A;let⟨ad,T⟩:=ZN n<|V G;have U:a.eval y=.pointer none:=(W L).mm;have D:P.underlying t=some (.pointer _):=E.sh J;rw[T,U]));exact Bj z (AG<|mA D x y ad)<|.Kp _ _<|.bool _;exact Bj z (AG<|jA D x y ad)<|.Kp _ _<|.bool _};cases h
def lQ (z:No I μ st aa w) {x:Operand} (L:o.op=.nilCheck x) (E:Fg I μ env a o.op) (N:C) (h:G4 (Jg B C env st o.op)=some (d,ob)) (A:A8 ob):Jw P I μ st aa w d<|(execOp a.eval o).run P w:=by rw[L]at E h;simp only[execOp,L];simp only[Jg]at h;let⟨V,W,M,J⟩:=BF h N<|E x (by simp[Op.operands]);clear h;have h:=M;clear M;split at h;rename_i T;simp only[G4,Co,AP]at h;obtain⟨rfl,rfl⟩:=h;let⟨ad,G⟩:=ZN T<|J A;have:=J A;rw[G]at this ⊢;exact Bj z (by simp) this;{split at h<;>simp only[G4,Co,AP,reduceCtorEq]at h;(all_goals(obtain⟨rfl,rfl⟩:=h;have u:=J A));obtain⟨p,q,G⟩:=u.nq;rw[G]at u ⊢;exact Bj z (by simp) u;have G:=u.tc;rw[G]at u ⊢;exact Bj z (by simp) u;have u:=u.Ks;generalize a.eval x=v at u ⊢;cases u with|ip b U _ _ _ vs D H=>{exact Bj z (by simp)<|.ip b U _ _ _ vs D H}}
def zlm (p:No I μ st aa w) {u:UnOp} {x:Operand} (A:o.op=.unOp u t x) (q:Fg I μ env a o.op) (G:C) (h:G4 (Jg B C env st o.op)=some (d,ob)) (z:A8 ob):Jw P I μ st aa w d<|(execOp a.eval o).run P w:=by
 rw[A]at q h;simp only[execOp,A];cases u<;>simp only[Jg]at h<;>first
  |(cases h;done)
  | (let ⟨H,J,D,E⟩:=BF h G (q x<|by simp [Op.operands])
     clear h;have h:=D;clear D
     split at h<;>simp only[G4,Co,AP,reduceCtorEq]at h
     obtain⟨rfl,rfl⟩:=h
     first
      |(have e:=(E z).Ks;have e:=e.jr;rw[e];refine Bj p (AG (v:=.bool _) ?_)<|.Kp _ _<|.bool _;simp[Op.unary])
      | (have e:=(E z).Ks;have e:=e.da;rw [e];refine Bj p (AG (v:=.int _ _) ?_)<|.Kp _ _<|.int _ _;simp only [Op.unary,Op.intArith,al]))
def cr:=@run_convert_bytes_string
def sX (p:dv P B) (q:No I μ st aa w) {x:Operand} (K:o.op=.convert s t x) (L:Fg I μ env a o.op) (Q:C) (h:G4 (Jg B C env st o.op)=some (d,ob)) (z:A8 ob):Jw P I μ st aa w d<|(execOp a.eval o).run P w:=by rw[K]at L h;simp only[execOp,K];simp only[Jg]at h;let⟨dx,ox,J,e⟩:=BF h Q<|L x (by simp[Op.operands]);clear h;have h:=J;clear J;split at h;rename_i M N;simp only[G4,Co,AP]at h;obtain⟨rfl,rfl⟩:=h;rw[(e z).Ks.da];have D:P.underlying s=some (.int _):=p.sh M;have E:P.underlying t=some (.int _):=p.sh N;refine Bj q (AG (v:=.int _ _) ?_)<|.Kp _ _<|.int _ _;simp[convert,aj D,aj E,Conv.intToInt];rename_i R M N;split at h<;>simp only[G4,Co,AP,reduceCtorEq]at h;rename_i l S hb;obtain⟨rfl,rfl⟩:=h;have D:P.underlying s=some (.slice _):=p.sh M;have E:P.underlying t=some .string:=p.sh N;have f:P.underlying _=some (.int .u8):=p.sh S;obtain⟨u,rfl,rfl⟩:=Uk (I:=I) hb;have g:=(e z).Ks;generalize G:(u.map λn=>[V.int .u8 n])=R at g;generalize a.eval x=v at g ⊢;cases g with|slnil=>have:u=[]:=by{simpa using G};subst this;refine Bj q (AG (v:=.string .empty) ?_)<|.Kp _ _<|.str _ _ O;rw[cr w s t _ none 0 0 D f E];rfl|mq ad=>have:u=[]:=by{simpa using G};subst this;refine Bj q (AG (v:=.string .empty) ?_)<|.Kp _ _<|.str _ _ O;rw[cr w s t _ (some ad) 0 0 D f E];rfl|sl b o A T sz _ vs hl _ _ i H U=>{subst G;have W:A=u.length:=by{simpa using hl};refine Bj q (AG (v:=.string<|u.foldl (λr n=>r.push<|UInt8.ofNat n.toNat) .empty) ?_)<|.Kp _ _<|.str _ _ (by rw[VP];rfl);rw[cr w s t _ (some ⟨b,o,none⟩) A T D f E];refine run_bytesToString w ⟨b,o,none⟩ A T u ?_;rw[run_loadCells w ⟨b,o,none⟩ A (λj=>vs j 0) λj k=>?_];congr 2;apply QI;intro j;by_cases k:j<u.length;have J:=U j [V.int .u8 u[j]] 0 (.int .u8 u[j]) (by simp[k]) O;simp[W,k,J.da];rw[M4 (by simp;omega),M4 (by simp;omega)];have y:j<u.length:=by{omega};have J:=H j [V.int .u8 u[j]] 0 (.int .u8 u[j]) (by simp[y]) O;have h2:sz=1:=(i [V.int .u8 u[j]]<|by simp).symm;rw[JV];have:=TA.kr q.Kp J.1;simpa[h2]using this};rename_i n M N;simp only[G4,Co,AP]at h;obtain⟨rfl,rfl⟩:=h;obtain⟨hn,z⟩:=z;let⟨F,hn2⟩:=hn Q;obtain⟨m,rfl⟩:=Int.eq_ofNat_of_zero_le F;have D:P.underlying s=some (.int _):=p.sh M;have E:P.underlying t=some .string:=p.sh N;rw[(e z).Ks.da];have hm:m<128:=by{omega};have c:Utf8.encode (Int.ofNat m)=⟨#[UInt8.ofNat m]⟩:=by{have hv:Utf8.valid (m:Int)=true:=by{simp[Utf8.valid];omega};simp[Utf8.encode,hv,hm]};refine Bj q (AG (v:=.string<|Utf8.encode<|Int.ofNat m) ?_)<|.Kp _ _<|.str _ _ (by rw[c];rfl);simp[convert,aj D,aj E,Conv.intToString];cases h
end
section
variable {B:TT} {I:TA} {μ:Mu} {st:St} {env:Env} {d:D}
def X.lx {id:Nat} (h:X I μ v<|.ref id off):∃b,v=.pointer (some ⟨b,off,none⟩)/\μ id=some (.pointer<|some ⟨b,0,none⟩):=by cases h with|ref b _ _ h=>{exact⟨b,rfl,h⟩}
def X.qz {cs:G2} (h:X I μ v<|.ip t cs off):∃(b o:Nat) (vs:Nat->Value),v=.pointer (some ⟨b,o+off,none⟩)/\(∀(j:Nat) (x:V),cs[j]?=some x->I.cell b (o+j)=some (vs j)/\(vs j).oneCell'=true)/\(∀(j:Nat) (x:V),cs[j]?=some x->PB I (vs j) x):=by cases h with|ip b o _ _ _ vs p q=>{exact⟨b,o,vs,rfl,p,q⟩}
def eH (q:dv P B) (u:No I μ st aa w) {x:Operand} (V:o.op=.fieldAddr s x f) (H:Fg I μ env a o.op) (g:C) (h:G4 (Jg B C env st o.op)=some (d,ob)) (z:A8 ob):Jw P I μ st aa w d<|(execOp a.eval o).run P w:=by rw[V]at H h;simp only[execOp,V];simp only[Jg]at h;let⟨k,l,W,L⟩:=BF h g<|H x (by simp[Op.operands]);clear h;have h:=W;clear W;split at h;rename_i id off A _ _ _ _ D;split at h<;>simp only[G4,Co,AP,reduceCtorEq]at h;rename_i G _ E;obtain⟨rfl,rfl⟩:=h;obtain⟨b,M,N⟩:=(L z).lx;rw[M,Hs];have p:XL P s<|.struct A:=q.sh D;exact Bj u (AG<|Mo p E b off)<|.ref b id (off+G) N;rename_i t cs off A _ _ _ _ D;split at h<;>simp only[G4,Co,AP,reduceCtorEq]at h;rename_i G _ E;obtain⟨rfl,rfl⟩:=h;obtain⟨b,c,vs,M,N,i⟩:=(L z).qz;rw[M,Hs];have p:XL P s<|.struct A:=q.sh D;refine Bj u (AG<|Mo p E b<|c+off) ?_;rw[Z6];exact .ip b c t cs (off+G) vs N i;rename_i id e sz off A _ _ _ _ D;split at h<;>simp only[G4,Co,AP,reduceCtorEq]at h;rename_i G _ E;obtain⟨rfl,rfl⟩:=h;have J:=L z;generalize a.eval x=v at J;cases J with|ky b _ T U _ _ _ j=>{rw[Hs];have p:XL P s<|.struct A:=q.sh D;refine Bj u (AG<|Mo p E b<|e*sz+off) ?_;rw[Z6];exact .ky b id T U e sz (off+G) j};rename_i b off A _ _ _ _ D;split at h<;>simp only[G4,Co,AP,reduceCtorEq]at h;rename_i G _ E;obtain⟨rfl,rfl⟩:=h;have J:=L z;generalize a.eval x=v at J;cases J with|eR _ _=>{rw[Hs];have p:XL P s<|.struct A:=q.sh D;exact Bj u (AG<|Mo p E b off)<|.eR _ O};cases h
def zlo (N:dv P B) (u:No I μ st aa w) {x:Operand} (Q:o.op=.load t x) (T:Fg I μ env a o.op) (R:C) (h:G4 (Jg B C env st o.op)=some (d,ob)) (A:A8 ob):Jw P I μ st aa w d<|(execOp a.eval o).run P w:=by rw[Q]at T h;simp only[execOp,Q];simp only[Jg]at h;let⟨dx,S,l,n⟩:=BF h R<|T x (by simp[Op.operands]);clear h;have h:=l;clear l;split at h;rename_i id off i r;have H:=N t i r;split at h;rename_i m sz xs s;split at h<;>simp only[G4,Co,AP,reduceCtorEq]at h;rename_i y U;obtain⟨rfl,rfl⟩:=h;obtain⟨b,V,M⟩:=(n A).lx;let⟨g,W,D,b',vs,L,q,p,E⟩:=u.SB id _ s;rw[M]at W;cases W;cases L;rw[V];have:=QK (P:=P) (w:=w) (I:=I) (μ:=μ) H (b:=b) (o:=0) (off:=off) (xs:=xs) (vs:=λj=>vs.toList.getD j undef) (same:=Nat.beq sz i.size) (λj x J=>by{have G:j<xs.length:=(A9.1 J).1;have z:vs.toList[j]?=some (vs.toList[j]'(by rw[p.1];exact G)):=Bi _;rw[BU];have e:vs.toList.getD j undef=vs.toList[j]'(by rw[p.1];exact G):=by{simp[List.getD,z]};rw[e];exact⟨Gx q j _ z,E _<|K0 _⟩}) (λj x J=>by{have G:j<xs.length:=(A9.1 J).1;have z:vs.toList[j]?=some (vs.toList[j]'(by rw[p.1];exact G)):=Bi _;have e:vs.toList.getD j undef=vs.toList[j]'(by rw[p.1];exact G):=by{simp[List.getD,z]};rw[e];exact p.2 j _ _ z J}) (λ_ c _=>by rw[D];exact Dm c) U;obtain⟨v,z,f⟩:=this;rw[BU]at z;exact Bj u (AG z) f;rename_i m sz cs s;split at h<;>simp only[G4,Co,AP,reduceCtorEq]at h;rename_i y U;obtain⟨rfl,rfl⟩:=h;obtain⟨b,V,M⟩:=(n A).lx;let⟨g,W,D,b',vs,L,q,p,E⟩:=u.SB id _ s;rw[M]at W;cases W;cases L;rw[V];let⟨v,z,f⟩:=jN (P:=P) (w:=w) (I:=I) (μ:=μ) H (b:=b) (off:=off) (cs:=cs) (vs:=vs.toList) (same:=Nat.beq sz i.size) (λj v J=>Gx q j v J) E p (λ_ c _=>by rw[D];exact Dm c) U;exact Bj u (AG z) f;cases h;rename_i m cs off i r;have H:=N t i r;split at h;rename_i y U;have k:(i.agg=true->Nat.beq t m=true->off=0->cs.length=i.size)->A8 S->Jw P I μ st aa w y ((do pure (.value (<- Instr.loadAt t (a.eval x))):Sem Next).run P w):=by{intro c F;obtain⟨b,o',vs,V,M,e3⟩:=(n F).qz;rw[V];let⟨v,z,f⟩:=QK (P:=P) (w:=w) (I:=I) (μ:=μ) H (b:=b) (o:=o') (off:=off) (xs:=cs) (vs:=vs) (same:=Nat.beq t m) (λj x J=>⟨TA.kr u.Kp (M j x J).1,(M j x J).2⟩) e3 c U;exact Bj u (AG z) f};split at h<;>simp only[G4,Co,AP]at h;obtain⟨rfl,rfl⟩:=h;exact k (λ_ _ _=>A.1 R) A.2;rename_i K;obtain⟨rfl,rfl⟩:=h;exact k (λl h2 h3=>absurd h3 (K l h2)) A;cases h;cases h
def zhq (q:dv P B) (H:No I μ st aa w) {x:Operand} (s:o.op=.field t x f) (J:Fg I μ env a o.op) (K:C) (h:G4 (Jg B C env st o.op)=some (d,ob)) (L:A8 ob):Jw P I μ st aa w d<|(execOp a.eval o).run P w:=by rw[s]at J h;simp only[execOp,s];simp only[Jg]at h;let⟨dx,ox,z,y⟩:=BF h K<|J x (by simp[Op.operands]);clear h;have h:=z;clear z;have M:∀{N:L1<|Nat×TypeId} {T:Nat} {A:TypeId} {i:kh} {cs:R1} {vs:Array Value} {U:D},XL P t (.struct N)->PZ N f=some (T,A)->jp P A i->Je i false cs T=some U->TB I μ vs.toList cs->(∀c∈vs.toList,c.oneCell'=true)->∃v,(Instr.field t (.agg vs) f).run P w=.ok v w/\X I μ v U:=by{intro N T A i cs vs U V G W b e z;obtain⟨u,Q,g,_⟩:=V;rw[Ih,<- g,Cx,E9]at G;obtain⟨m,n,F⟩:=G;simp only[AP]at F;obtain⟨j,R⟩:=F;have k:u[f]?=some m:=by{rw[<- Wr];exact n};let⟨v,l,p⟩:=ze2 (P:=P) (w:=w) W z e b;refine⟨v,?_,p⟩;simp only[Instr.field,ak,aj Q,ah,k,asAgg,al,j,R,l]};split at h;rename_i S N _ _ _ _ V;split at h;rename_i T A G;split at h;rename_i i W;split at h<;>simp only[G4,Co,AP,reduceCtorEq]at h;rename_i U b;obtain⟨rfl,rfl⟩:=h;obtain⟨cs,j,e,z⟩:=(y L).ku;let⟨d2,r,E⟩:=jM (I:=I) (μ:=μ) b;let⟨v,l,p⟩:=M (q.sh V) G (q A i W) r e.Kp z;rw[j];exact Bj H (AG l)<|E v p;cases h;cases h;rename_i S N _ _ _ _ V;split at h;rename_i T A G;split at h;rename_i i W;split at h<;>simp only[G4,Co,AP,reduceCtorEq]at h;rename_i U b;obtain⟨rfl,rfl⟩:=h;obtain⟨cs,j,e,z⟩:=(y L).ju;let⟨v,l,p⟩:=M (q.sh V) G (q A i W) b e z;rw[j];exact Bj H (AG l) p;cases h;cases h;cases h
def sW (A:No I μ st aa w) {x:Operand} (J:o.op=.extract x n) (D:Fg I μ env a o.op) (N:C) (h:G4 (Jg B C env st o.op)=some (d,ob)) (E:A8 ob):Jw P I μ st aa w d<|(execOp a.eval o).run P w:=by rw[J]at D h;simp only[execOp,J];simp only[Jg]at h;let⟨U,V,L,M⟩:=BF h N<|D x (by simp[Op.operands]);clear h;have h:=L;clear L;split at h;rename_i T;unfold ze7 at h;split at h<;>simp only[G4,Co,AP,reduceCtorEq]at h;rename_i y u;obtain⟨rfl,rfl⟩:=h;obtain⟨cs,H,q⟩:=(M E).tb;rw[Ih]at u;have p:n<T.length:=(A9.1 u).1;have G:cs.toList[n]?=some (cs.toList[n]'(by rw[q.1];exact p)):=Bi _;have z:cs[n]?=some (cs.toList[n]'(by rw[q.1];exact p)):=by{rw[<- Wr];exact G};rw[H];refine Bj A (AG (v:=cs.toList[n]'(by rw[q.1];exact p)) ?_)<|.Kp _ _<|q.2 n _ _ G u;simp only[Instr.extract,z,al];rename_i ds;split at h<;>simp only[G4,Co,AP,reduceCtorEq]at h;rename_i y u;obtain⟨rfl,rfl⟩:=h;obtain⟨cs,H,q⟩:=(M E).q9;rw[Ih]at u;have p:n<ds.length:=(A9.1 u).1;have G:cs.toList[n]?=some (cs.toList[n]'(by rw[q.1];exact p)):=Bi _;have z:cs[n]?=some (cs.toList[n]'(by rw[q.1];exact p)):=by{rw[<- Wr];exact G};rw[H];refine Bj A (AG (v:=cs.toList[n]'(by rw[q.1];exact p)) ?_)<|q.2 n _ _ G u;simp only[Instr.extract,z,al];cases h
def SG (D:dv P B) (q:No I μ st aa w) {x:Operand} (E:o.op=.makeInterface t x) (u:Fg I μ env a o.op) (J:C) (h:G4 (Jg B C env st o.op)=some (d,ob)) (z:A8 ob):Jw P I μ st aa w d<|(execOp a.eval o).run P w:=by rw[E]at u h;simp only[execOp,E];simp only[Jg]at h;let⟨T,U,G,H⟩:=BF h J<|u x (by simp[Op.operands]);clear h;have h:=G;clear G;(split at h<;>first|(cases h;done)|skip);rename_i L M N;cases A:lk B t with|none=>exact absurd A N|some i=>{have p:=Xx (w:=w) (D t i A) (λe=>by cases i;cases e;exact L _ _ _ _ A) (λe=>by cases i;cases e;exact M _ _ _ _ A)<|a.eval x;split at h<;>simp only[G4,Co,AP]at h;obtain⟨rfl,rfl⟩:=h;exact Bj q (AG p)<|.Kp _ _<|.iface _ _ _ (H z).Ks;obtain⟨rfl,rfl⟩:=h;exact Bj q (AG p)<|.iface _ _ _<|H z}
def lS (A:No I μ st aa w) {f:Fn} {xs ys:Array Operand} (J:o.op=.makeFunc f xs ys) (u:Fg I μ env a o.op) (h:G4 (Jg B C env st o.op)=some (d,ob)):Jw P I μ st aa w d<|(execOp a.eval o).run P w:=by rw[J]at u h;simp only[execOp,J];obtain⟨xs⟩:=xs;obtain⟨ys⟩:=ys;simp only[Jg]at h;have L:∀ds,sY env xs=some ds->TB I μ (xs.map a.eval) ds:=λds D=>Xh D λx z=>u x (by simp[Op.operands,z]);have M:∀ds,sY env ys=some ds->TB I μ (ys.map a.eval) ds:=λds D=>Xh D λx z=>u x (by simp[Op.operands,z]);split at h<;>simp only[G4,Co,AP,reduceCtorEq]at h;rename_i z E;obtain⟨rfl,rfl⟩:=h;have G:=(L _ z).1;have H:=(M _ E).1;have G:xs=[]:=by{simpa using G};have H:ys=[]:=by{simpa using H};subst G;subst H;exact Bj A (AG (v:=.func f #[] #[])<|by simp[Instr.makeFunc])<|.Kp _ _<|.fn _;rename_i U V W z E;obtain⟨rfl,rfl⟩:=h;have N:=L _ z;have T:=M _ E;exact Bj A (AG (v:=.func f (xs.map a.eval).toArray (ys.map a.eval).toArray)<|by simp[Instr.makeFunc])<|.fn f _ _ U V (by simpa using N.1) (by simpa using T.1) (λi c x p q=>N.2 i c x (by simpa using p) q) λi c x p q=>T.2 i c x (by simpa using p) q
end
section
variable {B:TT} {I:TA} {μ:Mu} {st:St} {env:Env} {d:D}
def EU (s:ByteArray):s.size=s.data.toList.length:=by rw[QJ];rfl
def JN (s:ByteArray) (l h:Nat):(s.extract l h).data.toList=(s.data.toList.drop l).take (h-l):=by simp[ByteArray.data_extract,zft]
def zhp (A:dv P B) (D:No I μ st aa w) {x y:Operand} (H:o.op=.index t x y) (p:Fg I μ env a o.op) (E:C) (h:G4 (Jg B C env st o.op)=some (d,ob)) (q:A8 ob):Jw P I μ st aa w d<|(execOp a.eval o).run P w:=by rw[H]at p h;simp only[execOp,H];simp only[Jg]at h;let⟨f,g,z,J⟩:=BF h E<|p x (by simp[Op.operands]);clear h;let⟨j,l,h,L⟩:=BF z E<|p y (by simp[Op.operands]);clear z;split at h<;>simp only[G4,Co,AP,reduceCtorEq]at h;rename_i s k i _ _ _ _ M;obtain⟨rfl,rfl⟩:=h;obtain⟨N,q⟩:=q;let⟨z,T⟩:=BS q;obtain⟨s,U,rfl⟩:=(J z).Ks.jl;have V:=(L T).Ks.da;have W:P.underlying t=some .string:=A.sh M;let⟨G,b⟩:=N E;rw[U,V];refine Bj D (AG (v:=.int _ _) ?_)<|.Kp _ _<|.int _ _;have u:i.toNat<s.size:=by{rw[EU];omega};have c:s[i.toNat]?=some s[i.toNat]:=ByteArray.getElem?_lt' s _ u;simp only[Instr.index,ak,asIntOf,al,ah,aj W,G,aw,c];congr 3;have:s.data.toList.getD i.toNat 0=s[i.toNat]:=by{have e:i.toNat<s.data.toList.length:=by{rw[<- EU];exact u};simp only[List.getD,Bi e,ID];simp;rfl};rw[this]
def ac:=@if_neg
def Mi {es:L1<|G2} (h:PB I v<|.sl es) (l m:Nat) (hl:l<=m) (F:m<=es.length) (W:P.underlying t=some (.slice e)) {i:kh} (a:jp P e i) (K:∀c∈es,c.length=i.size) (U B:Option Value) (C:U=none/\l=0\/∃k,U=some (.int k l)) (D:B=none/\m=es.length\/∃k,B=some (.int k m)):∃u,(Instr.sliceAt t v U B none).run P w=.ok u w/\PB I u (.sl<|(es.drop l).take<|m-l):=by have Q:∀(k:IntKind) (x y:Nat) (c:BoundsCode),x<=y->(Instr.sliceBound (.int k x) y c).run P w=.ok x w:=by{intro k x y c d;simp[Instr.sliceBound,asIntOf,d]};cases h with|slnil=>{have E:m=0:=by{simpa using F};have G:l=0:=by{omega};subst E;subst G;refine⟨.slice none 0 0,?_,by simpa using PB.slnil⟩;rcases C with⟨rfl,_⟩|⟨k,rfl⟩<;>rcases D with⟨rfl,_⟩|⟨R,rfl⟩<;>simp[Instr.sliceAt,aj W,Instr.slice,Instr.sliceBounds,Instr.sliceBound,asIntOf,a.sizeOf w]}|mq ad=>{have E:m=0:=by{simpa using F};have G:l=0:=by{omega};subst E;subst G;refine⟨.slice (some ad) 0 0,?_,by simpa using PB.mq ad⟩;rcases C with⟨rfl,_⟩|⟨k,rfl⟩<;>rcases D with⟨rfl,_⟩|⟨R,rfl⟩<;>simp[Instr.sliceAt,aj W,Instr.slice,Instr.sliceBounds,Instr.sliceBound,asIntOf,a.sizeOf w]}|sl b o J z sz _ vs S f hmx g H L=>{have j:m<=z:=by{omega};have M:(Instr.sliceAt t (.slice (some ⟨b,o,none⟩) J z) U B none).run P w=.ok (.slice (if z=l then some ⟨b,o,none⟩else some<|(⟨b,o,none⟩:Addr).add<|l*i.size) (m-l)<|z-l) w:=by{have n:m=es.length->m=J:=by{omega};rcases C with⟨rfl,rfl⟩|⟨k,rfl⟩<;>rcases D with⟨rfl,h2⟩|⟨R,rfl⟩;all_goals((try have h3:=n h2;subst h3);simp[Instr.sliceAt,aj W,Instr.slice,Instr.sliceBounds,Q _ _ _ _ hl,Q _ _ _ _ j,a.sizeOf w])};refine⟨_,M,?_⟩;by_cases N:z=l;have:m-l=0:=by{omega};rw[ae N,this];rw[zfs];exact .sl b o 0 (z-l) 0 [] (λ_ _=>undef) O (by omega) (by omega) (by simp) (by simp) (by simp);rw[ac N,JV];have r:∀c∈es,sz=i.size:=λc f=>by{rw[<- g c f,K c f]};refine .sl b (o+l*i.size) (m-l) (z-l) i.size _ (λp q=>vs (l+p) q) (by simp;omega) (by omega) (by omega) (λe he=>K e<|TK<|OV he) ?_ ?_;intro p e q x A s;rw[Ea]at A;split at A;rw[F7]at A;have T:e∈es:=AE A;have:=H (l+p) e q x A s;rw[r e T,Wq]at this;rwa [show o+l*i.size+p*i.size+q=o+(l*i.size+p*i.size)+q by omega];cases A;intro p e q x A s;rw[Ea]at A;split at A;rw[F7]at A;exact L (l+p) e q x A s;cases A}
def lT (z:dv P B) (M:No I μ st aa w) {c:Call} (m:o.op=.call c) (A:Fg I μ env a o.op) (U:C) (h:G4 (Jg B C env st o.op)=some (d,ob)) (p:A8 ob):Jw P I μ st aa w d<|(execOp a.eval o).run P w:=by
 rw[m]at A h;simp only[execOp,m];simp only[Jg]at h
 split at h
 all_goals first
  |(rename_i u;cases u;done)
  |skip
 ·rename_i x t u;cases u;let⟨r,F,G,L⟩:=BF h U<|A x (by simp[Op.operands,Call.operands]);clear h;have h:=G;clear G;have D:∀(n:Int) (v:Value),a.eval x=v->(Builtin.len_ #[t] o.type #[v]).run P w=.ok (.int .i64 n) w->Jw P I μ st aa w (.Kp<|.int .i64 n)
    ((do let d <- resolve a.eval { callee:=.builtin .len,args:=⟨[x]⟩,argTypes:=⟨[t]⟩ } o.type;invoke d.target d.args:Sem Next).run P w):=by
   intro n v H q;refine Bj M (v:=.int .i64 n) ?_<|.Kp _ _<|.int _ _;simp[resolve,invoke,builtin,H,q]
  split at h
  ·rename_i J;simp only[G4,Co,AP]at h;obtain⟨rfl,rfl⟩:=h;have E:P.underlying t=some (.slice _):=z.sh J;have q:=(L p).Ks;generalize H:a.eval x=v at q;refine D _ v H ?_;cases q with
   |slnil=>simp[Builtin.len_,aj E,goInt]
   |mq=>simp[Builtin.len_,aj E,goInt]
   |sl b o' Q R sz _ vs f=>simp[Builtin.len_,aj E,goInt,f]
  ·rename_i J;simp only[G4,Co,AP]at h;obtain⟨rfl,rfl⟩:=h;have E:P.underlying t=some .string:=z.sh J;obtain⟨s,V,rfl⟩:=(L p).Ks.jl;refine D _ _ V ?_;simp[Builtin.len_,aj E,goInt]
  ·rename_i J;simp only[G4,Co,AP]at h;obtain⟨rfl,rfl⟩:=h;have E:P.underlying t=some (.slice _):=z.sh J;have q:=L p;generalize H:a.eval x=v at q;refine D _ v H ?_;cases q;simp[Builtin.len_,aj E,goInt]
  ·rename_i J;simp only[G4,Co,AP]at h;obtain⟨rfl,rfl⟩:=h;have E:P.underlying t=some (.slice _):=z.sh J;have q:=L p;generalize H:a.eval x=v at q;refine D _ v H ?_;cases q;simp[Builtin.len_,aj E,goInt]
  ·rename_i J;simp only[G4,Co,AP]at h;obtain⟨rfl,rfl⟩:=h;have E:P.underlying t=some (.slice _):=z.sh J;have q:=L p;generalize H:a.eval x=v at q;refine D _ v H ?_;cases q;simp[Builtin.len_,aj E,goInt]
  ·rename_i id _ _ _ _ _ _ J
   split at h<;>simp only[G4,Co,AP,reduceCtorEq]at h
   rename_i kv f;obtain⟨rfl,rfl⟩:=h;have E:P.underlying t=some (.map _ _):=z.sh J;have q:=L p;let⟨g,K,b,S,N,i,T,W,_⟩:=M.SB id _ f;generalize H:a.eval x=v at q;refine D _ v H ?_;cases q with
   |cf _ b' hm=>
    rw[hm]at K;cases K;cases i;have e:(getObj b).run P w=.ok (.map S N) w:=by simp[getObj,Sem.run,T]
    simp[Builtin.len_,aj E,goInt,e,W]
  ·cases h
 ·rename_i x y ts u;cases u;let⟨r,F,G,L⟩:=BF h U<|A x (by simp[Op.operands,Call.operands]);clear h;let⟨dy,oy,h,j⟩:=BF G U<|A y (by simp[Op.operands,Call.operands]);clear G
  split at h<;>simp only[G4,Co,AP,reduceCtorEq]at h
  obtain⟨rfl,rfl⟩:=h;let⟨G,k⟩:=BS p;have V:=(L G).Ks.da;have l:=(j k).Ks.da;refine Bj M (v:=.int _ _) ?_<|.Kp _ _<|.int _ _;simp[resolve,invoke,builtin,V,l,run_max_int2]
 ·rename_i x y ts u;cases u;let⟨r,F,G,L⟩:=BF h U<|A x (by simp[Op.operands,Call.operands]);clear h;let⟨dy,oy,h,j⟩:=BF G U<|A y (by simp[Op.operands,Call.operands]);clear G
  split at h<;>simp only[G4,Co,AP,reduceCtorEq]at h
  obtain⟨rfl,rfl⟩:=h;let⟨G,k⟩:=BS p;have V:=(L G).Ks.da;have l:=(j k).Ks.da;refine Bj M (v:=.int _ _) ?_<|.Kp _ _<|.int _ _;simp[resolve,invoke,builtin,V,l,run_min_int2]
 ·cases h
end
section
variable {B:TT} {I:TA} {μ:Mu} {st:St} {env:Env} {d:D}
def ZZ (off:Nat):∀(l:R0) (k:Nat) (q:Array Value),off+k+l.length<=q.size->((l.zipIdx k).foldl (λcs (p:Value×Nat)=>cs.setIfInBounds (off+p.2) p.1) q).toList=q.toList.take (off+k)++l++q.toList.drop (off+k+l.length)
 |[],k,q,h=>by simp
 |v::l,k,q,h=>by simp only[zfr,M3];simp only[C1]at h;rw[ZZ off l (k+1) _ (by simp;omega)];have u:off+k<q.toList.length:=by{simp;omega};simp only[Array.toList_setIfInBounds];rw[List.set_eq_take_append_cons_drop,ae u];have x:List.take (off+(k+1)) (List.take (off+k) q.toList++v::List.drop (off+k+1) q.toList)=List.take (off+k) q.toList++[v]:=by{rw[jJ];simp only[HR,zfq];have:off+(k+1)-min (off+k) q.toList.length=1:=by{omega};rw[this,Nat.min_eq_right<|by omega];simp};have z:List.drop (off+(k+1)+l.length) (List.take (off+k) q.toList++v::List.drop (off+k+1) q.toList)=List.drop (off+k+(l.length+1)) q.toList:=by{rw[List.drop_append];simp only[HR];have A:off+(k+1)+l.length-min (off+k) q.toList.length=l.length+1:=by{omega};rw[A,Bt (by simp;omega),JJ];simp only[List.drop_succ_cons,wR];congr 1;omega};rw[x,z];simp
def Ow (z:Nat->Option (Nat×Nat)):∀(parts:L1<|Nat×Value) (h:L1<|R0),(∀i u,h[i]?=some u->z i=some ((h.take i).flatten.length,u.length))->(∀p∈parts,∃u,h[p.1]?=some u/\p.2.cells.size=u.length)->Instr.fill z h.flatten.toArray parts=some ((parts.foldl (λs p=>s.set p.1 p.2.cells.toList) h).flatten.toArray)
 |[],h,_,_=>rfl
 |(i,v)::J,h,c,d=>by let⟨u,L,U⟩:=d (i,v) (by simp);simp only at L U;have M:i<h.length:=(A9.1 L).1;obtain⟨A,B,q,V⟩:∃A B,h=A++u::B/\A.length=i:=by{refine⟨h.take i,h.drop<|i+1,?_,by simp;omega⟩;have:h[i]=u:=(A9.1 L).2;rw[<- this];simp};have H:h.take i=A:=by{rw[q,<- V];simp};have D:h.set i v.cells.toList=A++v.cells.toList::B:=by{rw[q,<- V];simp};have N:z i=some (A.flatten.length,u.length):=by{rw[c i u L,H]};have E:v.cells.toList.length=u.length:=by{simpa using U};unfold Instr.fill;simp only[N,U];rw[ac (by rw[q];simp[-List.length_flatten,Bo])];have W:v.cells.zipIdx.foldl (λcs (x:Value×Nat)=>cs.setIfInBounds (A.flatten.length+x.2) x.1) h.flatten.toArray=(h.set i v.cells.toList).flatten.toArray:=by{apply gd;have:=ZZ A.flatten.length v.cells.toList 0 h.flatten.toArray (by rw[q,E];simp[-List.length_flatten,Bo]);rw[<- Array.foldl_toList,Array.toList_zipIdx];simp only[Jd]at this;rw[this,D,q,E];simp[-List.length_flatten]};have f:=Ow z J (h.set i v.cells.toList) ?_ ?_;rw[M3,<- f];congr 1;intro j G T;by_cases C:i=j;subst C;rw[Jc M]at T;cases T;rw[N,D,<- V,E];simp[-List.length_flatten];rw[HQ C]at T;rw[c j G T];congr 2;by_cases g:j<i;rw[List.take_set,List.set_eq_of_length_le (by simp;omega)];rw[D,q,jJ,jJ,Df<|by omega];obtain⟨n,k⟩:∃n,j-A.length=n+1:=⟨j-A.length-1,by omega⟩;rw[k];simp[-List.length_flatten,Bo,E];intro p a;let⟨G,b,e⟩:=d p (by simp[a]);by_cases C:i=p.1;rw[<- C,Jc M];rw[<- C,L]at b;cases b;exact⟨_,rfl,by rw[E];exact e⟩;rw[HQ C];exact⟨G,b,e⟩
def K4:∀(parts:L1<|Nat×Value) (q:L1<|R0) (i:Nat) (z:R0),(parts.foldl (λs p=>s.set p.1 p.2.cells.toList) q)[i]?=some z->(∀v,(i,v)∈parts->(∀u,(i,u)∈parts->u=v)->z=v.cells.toList)/\((∀v,(i,v)∉parts)->q[i]?=some z)
 |[],q,i,z,h=>⟨λv E=>by simp at E,λ_=>h⟩
 |(j,u)::B,q,i,z,h=>by rw[M3]at h;have G:=K4 B _ i z h;refine⟨λv E A=>?_,λC=>?_⟩;by_cases H:(∃x,(i,x)∈B);obtain⟨x,M⟩:=H;have:=A x (by simp[M]);subst this;exact G.1 x M λy D=>A y (by simp[D]);have J:i=j/\v=u:=by{rcases Cu.1 E with e|e;simpa using e;exact absurd ⟨v,e⟩ H};obtain⟨rfl,rfl⟩:=J;have:=G.2 λy D=>H ⟨y,D⟩;simp only at this;by_cases N:i<q.length;rw[Jc N]at this;cases this;rfl;rw[M4 (by simp;omega)]at this;cases this;have:=G.2 λy D=>C y (by simp[D]);have L:j≠i:=λe=>C u (by simp[e]);rwa [HQ L]at this
end
section
variable {B:TT} {I:TA} {μ:Mu} {st:St} {env:Env} {d:D}
def SU (I:TA) (μ:Mu) (vs:L1 Value):Acc->Prop
 |.e=>vs=[]
 |.v h=>Ts I vs h
 |.d ds=>TB I μ vs ds
def nK (I:TA) (μ:Mu) (vs:L1 Value):Ch->Prop
 |.v1 x=>Ts I vs [x]
 |.vs h=>Ts I vs h
 |.d1 d=>TB I μ vs [d]
 |.ds ds=>TB I μ vs ds
def TB.append {p:R0} {xs ys:R1} (h:TB I μ vs xs) (k:TB I μ p ys):TB I μ (vs++p)<|xs++ys:=by induction vs generalizing xs with|nil=>{cases xs with|nil=>exact k|cons=>{simp[TB]at h}}|cons v vs q=>{cases xs with|nil=>simp[TB]at h|cons x xs=>{exact .mk h.cons.1<|q h.cons.2}}
def sQ {q:R0} {c:Ch} {p:Acc} (h:nK I μ vs c) (k:SU I μ q p):SU I μ (vs++q)<|WG c p:=by
 cases c<;>cases p<;>simp only[nK,SU,WG]at *
 case v1.e=>subst k;simpa using h
 case v1.v=>exact Ts.append h k
 case v1.d=>exact TB.append h.Kp k
 case vs.e=>subst k;simpa using h
 case vs.v=>exact Ts.append h k
 case vs.d=>exact TB.append h.Kp k
 case d1.e=>subst k;simpa using h
 case d1.v=>exact TB.append h k.Kp
 case d1.d=>exact TB.append h k
 case ds.e=>subst k;simpa using h
 case ds.v=>exact TB.append h k.Kp
 case ds.d=>exact TB.append h k
def J8 (h:v.oneCell'=true):v.cells = #[v]:=by cases v<;>simp_all [Value.cells,Value.oneCell']
def zh9 {c:Ch} {o:T0} (h:zo6 sz d=some (c,o)) (q:X I μ v d) (L:A8 o) :
  nK I μ v.cells.toList c/\v.cells.size=sz/\∀u∈v.cells.toList,u.oneCell'=true:=by
 have one:∀{M:D},X I μ v M->v.oneCell'=true->Nat.beq sz 1=true->v.cells.size=sz/\(∀u∈v.cells.toList,u.oneCell'=true)/\v.cells.toList=[v]:=by
  intro M _ p A;have:=Dm A;rw[J8 p];exact⟨by simp[this],by simpa using p,rfl⟩
 unfold zo6 at h
 split at h
 ·cases h;obtain⟨cs,rfl,p,z⟩:=q.ku;have B:_=sz:=L.1;exact⟨p,by simp[Value.cells];rw[<- B,<- p.1];simp,z⟩
 ·cases h
 ·rename_i x C E
  split at h
  ·rename_i A;cases h;have G:x.one=true:=by
    cases x<;>first|rfl|exact absurd rfl (C _)|exact absurd rfl (E _)
   let⟨p,z,H⟩:=one q (q.Ks.one G) A;exact⟨by rw[H];exact .mk q.Ks .nil,p,z⟩
  ·cases h
 ·cases h;obtain⟨cs,rfl,p,z⟩:=q.ju;have B:_=sz:=L.1;exact⟨p,by simp[Value.cells];rw[<- B,<- p.1];simp,z⟩
 ·cases h
 ·cases h
 ·cases h
 ·rename_i a b N T U V W
  split at h
  ·rename_i A;cases h;have J:d.one=true:=by
    cases d<;>first
     |rfl
     |exact absurd rfl (N _)
     |exact absurd rfl (T _)
     |exact absurd rfl (U _)
     |exact absurd rfl (V _ _ _)
     |exact absurd rfl W
   let⟨p,z,H⟩:=one q (q.one J) A;exact⟨by rw[H];exact .mk q .nil,p,z⟩
  ·cases h
def tU {ds:R1} (h:TB I μ vs ds):nK I μ vs<|tW ds:=by unfold tW;split;rename_i x p;exact Mj p h;rename_i q _ p;exact Mj p h;split;exact h;exact h
def EG (B:TT) (h:L1 Value):Nat->L1 (Nat×TypeId)->L1 (L1 Value)
 |_,[]=>[]
 |off,(_,p)::r=>match lk B p with
  |some ti=>(h.drop off).take ti.size::EG B h (off+ti.size) r
  |none=>[]
def TB.om {ds:R1} (h:TB I μ vs ds) (o n:Nat):TB I μ ((vs.drop o).take n)<|(ds.drop o).take n:=by refine⟨by simp[h.1],λj v d a b=>?_⟩;rw[Ea]at a b;split at a;rename_i p;rw[ae p,F7]at b;rw[F7]at a;exact h.2 _ _ _ a b;cases a
abbrev c9:=L1 (Nat×Operand)
def X3 {z:R1} {q:R0} {parts:c9} (g:TB I μ q z) (M:∀v∈q,v.oneCell'=true)
  (N:∀i x,Dd parts i=some x->∀d,Fi env x=some d->X I μ (a.eval x) d) :
  ∀(fs:L1<|Nat×TypeId) (i off:Nat) (G:Acc) (o:T0),SP B env z parts i off fs=some (G,o)->A8 o ->
  (∀S:L1<|R0,S.length=fs.length ->
   (∀k p,S[k]?=some p->(∀x,Dd parts (i+k)=some x->p=(a.eval x).cells.toList)/\(Dd parts (i+k)=none->(EG B q off fs)[k]?=some p)) ->
   SU I μ S.flatten G/\∀u∈S.flatten,u.oneCell'=true) /\
  (EG B q off fs).flatten=q.drop off/\(EG B q off fs).length=fs.length/\off<=q.length /\
  (∀k f p,fs[k]?=some f->(EG B q off fs)[k]?=some p->f.1=off+((EG B q off fs).take k).flatten.length/\(∃ti,lk B f.2=some ti/\p.length=ti.size)) /\
  (∀k x,k<fs.length->Dd parts (i+k)=some x->∃f ti,fs[k]?=some f/\lk B f.2=some ti/\(a.eval x).cells.size=ti.size)
 |[],i,off,G,o,h,m=>by
  simp only[SP]at h
  split at h
  ·rename_i n;cases h;have:=Dm n;refine⟨λS j _=>?_,?_,rfl,by rw[g.1];omega,by simp,by simp⟩
   ·have:S=[]:=Jb (by simpa using j);subst this;exact⟨rfl,by simp⟩
   ·simp[EG,g.1,this]
  ·cases h
 |(C,E)::r,i,off,G,o,h,m=>by
  simp only[SP]at h
  split at h
  ·rename_i ti n s;have t:=Dm n
   split at h
   ·rename_i H o1 T;have U:EG B q off ((C,E)::r)=(q.drop off).take ti.size::EG B q (off+ti.size) r:=by simp[EG,s]
    have J:A8 o1->∀(c:Ch),(∀p:R0,((∀x,Dd parts i=some x->p=(a.eval x).cells.toList)/\(Dd parts i=none->(q.drop off).take ti.size=p))->nK I μ p c/\∀u∈p,u.oneCell'=true) ->
      (∀x,Dd parts i=some x->(a.eval x).cells.size=ti.size)->_:=λw c hc F=>by
     let⟨h1,h2,h3,h4,h5,h6⟩:=X3 g M N r (i+1) (off+ti.size) H o1 T w;exact(show(∀S:L1<|R0,S.length=((C,E)::r).length ->
       (∀k p,S[k]?=some p->(∀x,Dd parts (i+k)=some x->p=(a.eval x).cells.toList)/\(Dd parts (i+k)=none->(EG B q off<|(C,E)::r)[k]?=some p)) ->
       SU I μ S.flatten (WG c H)/\∀u∈S.flatten,u.oneCell'=true) /\
      (EG B q off<|(C,E)::r).flatten=q.drop off/\(EG B q off<|(C,E)::r).length=((C,E)::r).length/\off<=q.length /\
      (∀k f p,((C,E)::r)[k]?=some f->(EG B q off<|(C,E)::r)[k]?=some p->f.1=off+((EG B q off<|(C,E)::r).take k).flatten.length/\(∃ti,lk B f.2=some ti/\p.length=ti.size)) /\
      (∀k x,k<((C,E)::r).length->Dd parts (i+k)=some x->∃f ti,((C,E)::r)[k]?=some f/\lk B f.2=some ti/\(a.eval x).cells.size=ti.size) by
      rw[U];refine⟨λS j l=>?_,?_,by simp[h3],by omega,λk f p K L=>?_,λk x l N=>?_⟩
      ·cases S with
       |nil=>simp at j
       |cons p S=>
        have h0:=l 0 p O;simp only[Jd,zna,Co]at h0;let⟨r1,r2⟩:=hc p h0;let⟨r3,r4⟩:=h1 S (by simpa using j) (λP V Q=>by
         have:=l (P+1) V (by simpa using Q);rw[show i+(P+1)=i+1+P by omega]at this;simpa using this)
        refine⟨by rw[QH];exact sQ r1 r3,λu hu=>?_⟩;rw[QH]at hu;rcases AT.1 hu with hu|hu
        ·exact r2 u hu
        ·exact r4 u hu
      ·rw[QH,h2,<- wR,wQ]
      ·cases k with
       |zero=>
        simp at K L;subst K;subst L;exact⟨by simp[t],ti,s,by simp;omega⟩
       |succ k=>
        let⟨W,b⟩:=h5 k f p (by simpa using K) (by simpa using L);refine⟨?_,b⟩;rw[W,List.take_succ_cons,QH,Bo];simp only[HR,JI];omega
      ·cases k with
       |zero=>exact⟨(C,E),ti,rfl,s,F x<|by simpa using N⟩
       |succ k=>
        let⟨f,R,W,b,q3⟩:=h6 k x (by simpa using l) (by rw[show i+1+k=i+(k+1) by omega];exact N);exact⟨f,R,by simpa using W,b,q3⟩)
    split at h
    ·rename_i x A
     split at h
     ·rename_i d hd
      split at h
      ·rename_i c o' vd;cases h;let⟨hp1,te⟩:=BS m;let⟨W,b,q3⟩:=zh9 vd (N i x A d hd) hp1;exact J te c (λp L=>by rw[L.1 x A];exact⟨W,q3⟩) (λy e=>by rw[A]at e;cases e;exact b)
      ·cases h
     ·cases h
    ·rename_i A
     split at h
     ·rename_i ds hds;cases h;let⟨e1,e2⟩:=KX hds;refine J m _ (λp L=>?_) (λy e=>by rw[A]at e;cases e);rw[<- L.2 A,e1];exact⟨tU<|g.om off ti.size,λu hu=>M u<|TK<|OV hu⟩
     ·cases h
   ·cases h
  ·cases h
def HD:∀{parts:c9} {i:Nat} {x:Operand},Dd parts i=some x->(i,x)∈parts
 |[],_,_,h=>by simp[Dd]at h
 |(j,y)::r,i,x,h=>by simp only[Dd]at h;split at h;rename_i p;cases h;have:=Dm p;simp[this];exact H4 _<|HD h
def I3:∀{parts:c9} {i:Nat},Dd parts i=none->∀x,(i,x)∉parts
 |[],_,_,x=>by simp
 |(j,y)::r,i,h,x=>by simp only[Dd]at h;split at h;cases h;rename_i p;intro q;rcases Cu.1 q with e|e;cases e;simp at p;exact I3 h x e
def Q0 {n:Nat}:∀{parts:c9},Q1 n parts=true->(∀p∈parts,p.1<n)/\(∀i x y,(i,x)∈parts->(i,y)∈parts->x=y)
 |[],_=>⟨by simp,by simp⟩
 |(j,z)::r,h=>by simp only[Q1]at h;split at h;rename_i A B;let⟨C,D⟩:=Q0 h;have u:j<n:=by{simpa[Kz]using A};have q:=I3 B;refine⟨λp E=>?_,λi x y G H=>?_⟩;rcases Cu.1 E with e|e;subst e;exact u;exact C p e;rcases Cu.1 G with e|e<;>rcases Cu.1 H with e'|e';cases e;cases e';rfl;cases e;exact absurd e' (q y);cases e';exact absurd e (q x);exact D i x y e e';cases h
end
section
variable {B:TT} {I:TA} {μ:Mu} {st:St} {env:Env} {d:D}
def OP {α β:Type} (f:α->Sem β) (g:α->β):∀l:L1 α,(∀x∈l,(f x).run P w=.ok (g x) w)->(l.mapM f).run P w=.ok (l.map g) w
 |[],_=>by simp
 |x::l,h=>by rw[zfp];simp only[ak,h x<|by simp,ah,OP f g l λy p=>h y<|by simp[p],al,CK]
def VD (f:α->Sem β) (g:α->β) (l:Array α) (h:∀x∈l.toList,(f x).run P w=.ok (g x) w):(l.mapM f).run P w=.ok (l.map g) w:=by obtain⟨l⟩:=l;rw[List.mapM_toArray];simp only[Sem.run_map,OP f g l h,ah,OU]
def XX (h:0<P.cellsOf t):(sizeOf t).run P w=.ok (P.cellsOf t) w:=by unfold Program.cellsOf at *;cases p:P.info? t with|none=>simp[p]at h|some q=>{simp[sizeOf,typeInfo,p]}
def Gs:∀(parts:L1<|Nat×Value) (h:L1<|R0),(parts.foldl (λs p=>s.set p.1 p.2.cells.toList) h).length=h.length
 |[],_=>rfl
 |p::r,h=>by rw[M3,Gs r];simp
def cu:=@run_program
def af:=@congrArg
def zhr (j:dv P B) (l:No I μ st aa w) (ho:o.op=.build t ps) (x6:Fg I μ env a o.op) (h:G4 (Jg B C env st o.op)=some (d,ob)) (m:A8 ob):Jw P I μ st aa w d<|(execOp a.eval o).run P w:=by rw[ho]at x6 h;simp only[execOp,ho];obtain⟨parts⟩:=ps;simp only[Jg]at h;split at h;rename_i J agg size bytes z hl;have hty:=j t _ hl;obtain⟨inf,U,nr,_,_,x7,th,ve⟩:=hty.lw;let⟨D,hu,hmap,tj⟩:=j.sh hl;have hz:=th I μ;have n:∀i x,Dd parts i=some x->∀d,Fi env x=some d->X I μ (a.eval x) d:=λi x hx=>x6 x (by{have:=HD hx;simp only[Op.operands];exact CC.2 ⟨(i,x),this,rfl⟩});have L:∀V r,SP B env z parts 0 0 J=some (V,r)->Q1 J.length parts=true->A8 r->∃A:Array Value,(Instr.build t<|parts.toArray.map λ(p:Nat×Operand)=>(p.1,a.eval p.2)).run P w=.ok (.agg A) w/\SU I μ A.toList V/\∀u∈A.toList,u.oneCell'=true:=by{intro V r F G tk;let⟨h1,h2,h3,_,h5,h6⟩:=X3 (a:=a) hz ve n J 0 0 V r F tk;let⟨hp1,te⟩:=Q0 G;have K:(EG B U.cells.toList 0 J).flatten=U.cells.toList:=by{rw[h2];rfl};have kq:∀f∈D.toList,(do pure (f.offset,<- sizeOf f.type):Sem<|Nat×Nat).run P w=.ok (f.offset,P.cellsOf f.type) w:=λf hf=>by{simp only[ak,XX<|tj f hf,ah,al]};have M:=VD (P:=P) (w:=w) (λf:Field=>(do pure (f.offset,<- sizeOf f.type):Sem<|Nat×Nat)) (λf=>(f.offset,P.cellsOf f.type)) D kq;have W:∀i E,(EG B U.cells.toList 0 J)[i]?=some E->(D.map λf=>(f.offset,P.cellsOf f.type))[i]?=some (((EG B U.cells.toList 0 J).take i).flatten.length,E.length):=by{intro i E hs;have N:i<J.length:=by{rw[<- h3];exact(A9.1 hs).1};obtain⟨f0,hf0⟩:∃f,J[i]?=some f:=⟨_,Bi N⟩;let⟨b,ti,H,Q⟩:=h5 i f0 E hf0 hs;have hf:=hf0;rw[<- hmap,Cx,E9]at hf;obtain⟨fld,K,e⟩:=hf;rw[Array.getElem?_map,<- Wr,K,FQ];have e1:f0.1=fld.offset:=by{rw[<- e]};have e2:f0.2=fld.type:=by{rw[<- e]};rw[e2]at H;rw[BU]at b;rw[<- e1,b,(j _ _ H).cellsOf,Q]};have hq:∀p∈(parts.map λ(p:Nat×Operand)=>(p.1,a.eval p.2)),∃E,(EG B U.cells.toList 0 J)[p.1]?=some E/\p.2.cells.size=E.length:=by{intro p hp;obtain⟨⟨i,x⟩,R,rfl⟩:=CC.1 hp;have N:=hp1 _ R;simp only at N ⊢;have g:i<(EG B U.cells.toList 0 J).length:=by{rw[h3];exact N};refine⟨_,Bi g,?_⟩;cases S:Dd parts i with|none=>exact absurd R (I3 S x)|some y=>{have:=te i x y R<|HD S;subst this;let⟨f,ti,r1,r2,r3⟩:=h6 i x N (by rw[BU];exact S);let⟨_,ti',r4,r5⟩:=h5 i f _ r1<|Bi g;rw[r2]at r4;cases r4;rw[r3,r5]}};have T:=Ow (λi=>(D.map λf=>(f.offset,P.cellsOf f.type))[i]?) (parts.map λ(p:Nat×Operand)=>(p.1,a.eval p.2)) _ W hq;rw[K]at T;refine⟨(((parts.map λ(p:Nat×Operand)=>(p.1,a.eval p.2)).foldl (λs p=>s.set p.1 p.2.cells.toList)<|EG B U.cells.toList 0 J).flatten).toArray,?_,?_⟩;simp only[Instr.build,ak,zeroValue,typeInfo,cu,ah,nr,x7,al,aj hu,M];simp only[OU];rw[show U.cells=U.cells.toList.toArray from rfl,T];rfl;rw[QG];refine h1 _ (by rw[Gs,h3]) λk E hs=>?_;let⟨r1,r2⟩:=K4 _ _ k E hs;rw[BU];refine⟨λx hx=>?_,λhx=>?_⟩;refine r1 (a.eval x) (CC.2 ⟨(k,x),HD hx,rfl⟩) λu hu=>?_;let⟨⟨k',y⟩,R,e⟩:=CC.1 hu;simp only[AP]at e;obtain⟨rfl,rfl⟩:=e;rw[te k' x y (HD hx) R];refine r2 λv hv=>?_;let⟨⟨k',y⟩,R,e⟩:=CC.1 hv;simp only[AP]at e;obtain⟨rfl,rfl⟩:=e;exact I3 hx y R};split at h<;>simp only[G4,Co,AP,reduceCtorEq]at h;rename_i xs r F G;obtain⟨rfl,rfl⟩:=h;let⟨A,b,H,Q⟩:=L _ _ F G m;exact Bj l (AG b)<|.Kp _ _<|.agg _ _ (by simpa using H.1) Q λi c x p q=>H.2 i c x (by simpa using p) q;rename_i ds r F G;obtain⟨rfl,rfl⟩:=h;let⟨A,b,H,Q⟩:=L _ _ F G m;exact Bj l (AG b)<|.agg _ _ (by simpa using H.1) Q λi c x p q=>H.2 i c x (by simpa using p) q;rename_i r F G;obtain⟨rfl,rfl⟩:=h;let⟨A,b,H,Q⟩:=L _ _ F G m;have H:A.toList=[]:=H;exact Bj l (AG b)<|.Kp _ _<|.agg _ _ (by have:=af List.length H;simpa using this) Q (λi c x p q=>by simp at q);cases h
def Xl {e:G2} {o:T0} (h:Hk.elemOf sz d=some (e,o)) (p:X I μ v d) (L:A8 o):Ts I v.cells.toList e/\v.cells.size=sz/\e.length=sz/\∀u∈v.cells.toList,u.oneCell'=true:=by unfold Hk.elemOf at h;split at h;cases h;obtain⟨cs,rfl,q,A⟩:=p.ku;have B:_=sz:=L.1;exact⟨q,by simp[Value.cells];rw[<- B,<- q.1];simp,B,A⟩;cases h;{rename_i x E G;split at h;{rename_i H;cases h;(have J:x.one=true:=by{cases x<;>first|rfl|exact absurd rfl (E _)|exact absurd rfl (G _)});have q:=p.Ks.one J;have:=Dm H;rw[J8 q];exact⟨.mk p.Ks .nil,by simp[this],by simp[this],by simpa using q⟩};cases h};split at h;rename_i H;cases h;have:=Dm H;cases p;exact⟨.mk .slnil .nil,by simp[this,Value.cells],by simp[this],by simp[Value.cells,Value.oneCell']⟩;cases h;rename_i ds;split at h;rename_i C T;cases h;obtain⟨cs,rfl,q,A⟩:=p.ju;have B:_=sz:=L.1;have U:∀{vs:R0} {ds:R1} {C:G2},HY ds=some C->TB I μ vs ds->Ts I vs C:=by{intro vs;induction vs with|nil=>{intro ds C h p;cases ds with|nil=>cases h;exact .nil|cons d ds=>{simp[TB]at p}}|cons v vs M=>{intro ds C h p;cases ds with|nil=>simp[TB]at p|cons d ds=>{obtain⟨q,A⟩:=p.cons;cases d<;>simp only[HY,reduceCtorEq]at h;split at h;rename_i W z;cases h;exact .mk q.Ks<|M z A;cases h;split at h;rename_i W z;cases h;cases q;exact .mk .slnil<|M z A;cases h}}};have N:=U T q;exact⟨N,by simp[Value.cells];rw[<- B,<- N.1];simp,B,A⟩;cases h;cases h
def NG {sz:Nat} (g:C):∀(parts:c9) (i:Nat) (es:L1<|G2) (o:T0),K6 C env sz i parts=some (es,o)->A8 o->(∀p∈parts,∀d,Fi env p.2=some d->X I μ (a.eval p.2) d)->es.length=parts.length/\(∀(k:Nat) (p:Nat×Operand),parts[k]?=some p->p.1=i+k)/\(∀(k:Nat) (p:Nat×Operand) (e:G2),parts[k]?=some p->es[k]?=some e->Ts I (a.eval p.2).cells.toList e/\(a.eval p.2).cells.size=sz/\e.length=sz/\∀u∈(a.eval p.2).cells.toList,u.oneCell'=true)
 |[],i,es,o,h,_,_=>by cases h;exact⟨rfl,by simp,by simp⟩
 |(j,x)::r,i,es,o,h,l,T=>by simp only[K6]at h;have G:∀d e D q B,Nat.beq i j=true->Hk.elemOf sz d=some (e,D)->K6 C env sz (i+1) r=some (q,B)->X I μ (a.eval x) d->A8 D->A8 B->(e::q).length=((j,x)::r).length/\(∀(k:Nat) (p:Nat×Operand),((j,x)::r)[k]?=some p->p.1=i+k)/\(∀(k:Nat) (p:Nat×Operand) (H:G2),((j,x)::r)[k]?=some p->(e::q)[k]?=some H->Ts I (a.eval p.2).cells.toList H/\(a.eval p.2).cells.size=sz/\H.length=sz/\∀u∈(a.eval p.2).cells.toList,u.oneCell'=true):=by{intro d e D q B J L z m M N;let⟨n,s,t⟩:=NG g r (i+1) q B z N λp A=>T p (by simp[A]);have U:=Dm J;refine⟨by simp[n],λk p A=>?_,λk p H A E=>?_⟩;cases k with|zero=>simp at A;subst A;simp[U]|succ k=>{have:=s k p (by simpa using A);omega};cases k with|zero=>simp at A E;subst A;subst E;exact Xl L m M|succ k=>{exact t k p H (by simpa using A)<|by simpa using E}};split at h;rename_i c w' W J b;split at h;rename_i e D q B L z;cases h;obtain⟨v,f⟩:=l;let⟨M,N⟩:=BS f;exact G W e D q B J L z ((T (j,x) (by simp) _ b).gy<|v g) M N;cases h;rename_i W w J b;split at h;rename_i e D q B L z;cases h;let⟨M,N⟩:=BS l;exact G W e D q B J L z (T (j,x) (by simp) _ b) M N;cases h;cases h
end
section
variable {B:TT} {I:TA} {μ:Mu} {st:St} {env:Env} {d:D}
def No.tl (p:No I μ st aa w) (o:Obj):∃B,B  w.heap.size=some o/\I.le B/\No B μ st aa (w.alloc o)/\fi I μ st w B μ st (w.alloc o):=by have z:I w.heap.size=none:=by{cases h:I w.heap.size with|none=>rfl|some A=>{have:=p.Kp _ _ h;rw[Array.getElem?_eq_none<|B6 _]at this;cases this}};have q:∀b,b<w.heap.size->(w.alloc o).heap[b]?=w.heap[b]?:=λb u=>DO w o u;have E:∀b A,w.heap[b]?=some A->b<w.heap.size:=λb A h=>(Ht.1 h).1;have x:I.le λb=>if b=w.heap.size then some o else I b:=λb A h=>by{have:b≠w.heap.size:=λe=>by{rw[e,z]at h;cases h};simp[this,h]};refine⟨λb=>if b=w.heap.size then some o else I b,by simp,x,?_,?_⟩;refine { Kp:=λb A h=>?_,SB:=λid SB C=>?_,apart:=λid SB g b C H u=>?_,inj:=p.inj,nodup:=p.nodup,PA:=p.PA };by_cases u:b=w.heap.size;subst u;simp at h;subst h;exact FR w o;simp[u]at h;have:=p.Kp _ _ h;rw[q b<|E b _ this];exact this;let⟨g,D,G⟩:=p.SB id SB C;exact⟨g,D,(G.mono x<|Mu.le_refl μ).world λb u=>q b (p.apart id SB g b C D u).2⟩;let⟨D,G⟩:=p.apart id SB g b C H u;have:b≠w.heap.size:=by{omega};exact⟨by simp[this,D],by simp;omega⟩;have J:∀b,b<w.heap.size->¬Ba μ st b->(if b=w.heap.size then some o else I b)=I b:=λb u _=>ac (by omega);exact { Kp:=x,os:=rfl,tape:=rfl,output:=rfl,size:=by simp,block:=λb u _=>q b u,fresh:=λb _ h=>h,gz:=J }
def Dc {α:Type} {sz:Nat}:∀{es:L1<|L1 α},(∀e∈es,e.length=sz)->∀i e j x,es[i]?=some e->e[j]?=some x->es.flatten[i*sz+j]?=some x
 |[],_,i,e,j,x,h,_=>by simp at h
 |c::es,q,i,e,j,x,h,p=>by have u:=q c (by simp);cases i with|zero=>simp at h;subst h;rw[Nat.zero_mul,BU,QH,M2 (A9.1 p).1];exact p|succ i=>{rw[QH,Ky (by rw[Kx];omega),u,Kx];rw[show i*sz+sz+j-sz=i*sz+j by omega];exact Dc (λe z=>q e<|by simp[z]) i e j x (by simpa using h) p}
def IL {α:Type} (sz:Nat):Nat->L1 α->L1 (L1 α)
 |0,_=>[]
 |n+1,l=>l.take sz::IL sz n (l.drop sz)
def PT {α:Type} (sz:Nat):∀(n:Nat) (l:L1 α),l.length=n*sz->(IL sz n l).flatten=l/\(IL sz n l).length=n/\(∀c∈IL sz n l,c.length=sz)
 |0,l,h=>by have:l=[]:=Jb (by simpa using h);subst this;exact⟨rfl,rfl,by simp[IL]⟩
 |n+1,l,h=>by rw[Kx]at h;let⟨p,q,u⟩:=PT sz n (l.drop sz) (by simp;omega);refine⟨by simp[IL,p],by simp[IL,q],λc x=>?_⟩;rcases Cu.1 x with e|e;subst e;simp;omega;exact u c e
def BL {α:Type} {sz:Nat}:∀{es:L1<|L1 α},(∀e∈es,e.length=sz)->es.flatten.length=es.length*sz
 |[],_=>by simp
 |c::es,h=>by have p:=h c (by simp);rw[QH,Bo,p,BL λe q=>h e<|by simp[q],C1,Kx];omega
def zn2 (J:No I μ st aa w) (e:TypeId) (sz:Nat) (R:L1<|R0) (es:L1<|G2) (N:R.length=es.length) (T:∀c∈R,c.length=sz) (L:∀c∈es,c.length=sz) (z:∀(k:Nat) (c:R0) (x:G2),R[k]?=some c->es[k]?=some x->Ts I c x/\∀u∈c,u.oneCell'=true) (cap:Nat) (B:es.length<=cap) (W:cap<=maxLen) (h:R0):∃C,No C μ st aa (w.alloc<|.cells (R.flatten++h).toArray e)/\X C μ (.slice (some ⟨w.heap.size,0,none⟩) es.length cap) (.Kp<|.sl es)/\fi I μ st w C μ st (w.alloc<|.cells (R.flatten++h).toArray e):=by let⟨C,a,b,d,f⟩:=J.tl<|.cells (R.flatten++h).toArray e;refine⟨C,d,.Kp _ _<|.sl w.heap.size 0 es.length cap sz es (λi j=>(R.flatten)[i*sz+j]?.getD undef) O B W L ?_ ?_,f⟩;intro i M j x D G;have A:i<R.length:=by{rw[N];exact(A9.1 D).1};have p:R[i]?=some R[i]:=Bi A;let⟨H,U⟩:=z i R[i] M p D;have q:j<R[i].length:=by{rw[H.1];exact(A9.1 G).1};have E:=Dc T i R[i] j R[i][j] p<|Bi q;rw[E];refine⟨?_,U _<|K0 q⟩;unfold TA.cell;rw[a];simp only[BU];rw[List.getElem?_toArray,M2 (A9.1 E).1,E];rfl;intro i M j x D G;have A:i<R.length:=by{rw[N];exact(A9.1 D).1};have p:R[i]?=some R[i]:=Bi A;let⟨H,U⟩:=z i R[i] M p D;have q:j<R[i].length:=by{rw[H.1];exact(A9.1 G).1};have E:=Dc T i R[i] j R[i][j] p<|Bi q;rw[E];exact(H.2 j _ x (Bi q) G).mono b
def dt:=@run_newObj
def Ys (g:dv P B) (lz:No I μ st aa w) (ho:o.op=.buildSlice t n ps) (j:Fg I μ env a o.op) (hc:C) (h:G4 (Jg B C env st o.op)=some (d,ob)) (kz:A8 ob):Jw P I μ st aa w d<|(execOp a.eval o).run P w:=by rw[ho]at j h;simp only[execOp,ho];obtain⟨parts⟩:=ps;simp only[Jg]at h;split at h;rename_i e agg size bytes z hl;split at h;rename_i i hi;split at h<;>simp only[G4,Co,AP,reduceCtorEq]at h;rename_i W o' to hn l m;obtain⟨rfl,rfl⟩:=h;have f:=g e i hi;obtain⟨inf,Q,nr,vf,_,x7,th,ve⟩:=f.lw;have S:P.underlying t=some (.slice e):=g.sh hl;have r:n=parts.length:=Dm hn;have kq:0<i.size:=by{simpa[Kz]using m};have hbig':n*i.size<=16777216:=zfo l;let⟨q1,q2,q3⟩:=NG (a:=a) (I:=I) (μ:=μ) hc parts 0 W o' to kz λp L=>j p.2 (by simp only[Op.operands];exact CC.2 ⟨p,L,rfl⟩);obtain⟨A,hA,hA0,hA1⟩:∃A:R0,A.length=n*i.size/\(n*i.size=0->(Array.range (n*i.size)).map (λk=>(#[]:Array Value)[k % (#[]:Array Value).size]!)=A.toArray)/\(n*i.size≠0->(Array.range (n*i.size)).map (λk=>Q.cells[k % Q.cells.size]!)=A.toArray):=by{by_cases G:n*i.size=0;exact⟨((Array.range<|n*i.size).map λk=>(#[]:Array Value)[k % (#[]:Array Value).size]!).toList,by simp,λ_=>rfl,λh=>absurd G h⟩;exact⟨((Array.range<|n*i.size).map λk=>Q.cells[k % Q.cells.size]!).toList,by simp,λh=>absurd h G,λ_=>rfl⟩};let⟨c1,c2,c3⟩:=PT i.size n A hA;have hq:∀p∈(parts.map λ(p:Nat×Operand)=>(p.1,a.eval p.2)),∃H,(IL i.size n A)[p.1]?=some H/\p.2.cells.size=H.length:=by{intro p L;obtain⟨q,hm,rfl⟩:=CC.1 L;let⟨k,J⟩:=H3 hm;have h1:=q2 k q J;have M:k<parts.length:=(A9.1 J).1;have E:k<W.length:=by{rw[q1];exact M};let⟨_,r2,_,_⟩:=q3 k q W[k] J<|Bi E;have b:q.1<(IL i.size n A).length:=by{rw[c2];omega};exact⟨_,Bi b,by rw[r2,c3 _<|K0 b]⟩};have V:∀k H,(IL i.size n A)[k]?=some H->some (k*i.size,i.size)=some (((IL i.size n A).take k).flatten.length,H.length):=by{intro k H hs;have M:k<n:=by{rw[<- c2];exact(A9.1 hs).1};rw[BL (sz:=i.size) λc N=>c3 c<|OV N,c3 H<|AE hs];rw[HR,c2,jI<|by omega]};have D:=Ow (λk=>some (k*i.size,i.size)) (parts.map λ(p:Nat×Operand)=>(p.1,a.eval p.2)) _ V hq;rw[c1]at D;obtain⟨R,hR⟩:∃R,(parts.map λ(p:Nat×Operand)=>(p.1,a.eval p.2)).foldl (λs p=>s.set p.1 p.2.cells.toList) (IL i.size n A)=R:=⟨_,rfl⟩;rw[hR]at D;have v:R.length=n:=by{rw[<- hR,Gs,c2]};have y:∀(k:Nat) (c:R0),R[k]?=some c->∃p,parts[k]?=some p/\c=(a.eval p.2).cells.toList:=by{intro k c J;have M:k<parts.length:=by{rw[<- r,<- v];exact(A9.1 J).1};have L:parts[k]?=some parts[k]:=Bi M;have h1:(parts[k]).1=k:=by{have:=q2 k _ L;omega};rw[<- hR]at J;let⟨r1,_⟩:=K4 _ _ k c J;refine⟨_,L,r1 _ (CC.2 ⟨parts[k],K0 M,by rw[h1]⟩) λu S=>?_⟩;let⟨q,hm,he⟩:=CC.1 S;simp only[AP]at he;let⟨k',T⟩:=H3 hm;have:=q2 k' q T;have e:k'=k:=by{omega};subst e;rw[L]at T;have T:=Lk T;rw[T,<- he.2]};have hRs:∀c∈R,c.length=i.size:=by{intro c N;let⟨k,J⟩:=H3 N;obtain⟨p,L,rfl⟩:=y k c J;have E:k<W.length:=by{rw[q1];exact(A9.1 L).1};let⟨_,r2,_,_⟩:=q3 k p _ L<|Bi E;simpa using r2};have U:n=W.length:=by{rw[q1,r]};let⟨I',s1,s2,s3⟩:=zn2 lz e i.size R W (by rw[v,U]) hRs (λc N=>by{let⟨k,J⟩:=H3 N;have E:k<parts.length:=by{rw[<- q1];exact(A9.1 J).1};exact(q3 k _ c (Bi E) J).2.2.1}) (λk c x J hx=>by{obtain⟨p,L,rfl⟩:=y k c J;let⟨r1,_,_,r4⟩:=q3 k p x L hx;exact⟨r1,r4⟩}) W.length (B6 _) (by{rw[<- U];have h1:n*1<=n*i.size:=zm9 n kq;unfold maxLen;omega}) [];rw[M1]at s1 s3;have F:(do pure (.value (<- Instr.buildSlice t n (parts.toArray.map λ(p:Nat×Operand)=>(p.1,a.eval p.2)))):Sem Next).run P w=.ok (.value<|.slice (some ⟨w.heap.size,0,none⟩) n n) (w.alloc<|.cells R.flatten.toArray e):=by{have K:¬n*i.size > 2 ^ 24:=by{omega};by_cases G:n*i.size=0;simp only[Instr.buildSlice,ak,aj S,f.sizeOf w,ah,K,aq,al,ae G];rw[hA0 G,OU,D];simp only[newRow,ak,dt,ah,al];rfl;simp only[Instr.buildSlice,ak,aj S,f.sizeOf w,ah,K,aq,al,ac G,zeroValue,typeInfo,cu,nr,x7];rw[hA1 G,OU,D];simp only[newRow,ak,dt,ah,al];rfl};unfold Jw;rw[F];refine⟨I',s1,?_,s3⟩;rw[U];cases W with|nil=>exact .gt _ _ _ s2.Ks|cons=>{exact s2};cases h;cases h
end
section
variable {B:TT} {I:TA} {μ:Mu} {st:St} {env:Env} {d:D}
def zho (A:dv P B) (J:No I μ st aa w) {x:Operand} {b c mx:Option Operand} (ho:o.op=.slice t x b c mx) (f:Fg I μ env a o.op) (H:C) (h:G4 (Jg B C env st o.op)=some (d,ob)) (p:A8 ob):Jw P I μ st aa w d<|(execOp a.eval o).run P w:=by rw[ho]at f h;simp only[execOp,ho];cases mx with|some m=>simp[Jg,G4]at h|none=>{have j:=f x (by simp[Op.operands]);have D:∀y,b=some y->∀d,Fi env y=some d->X I μ (a.eval y) d:=λy R=>f y (by simp[Op.operands,R]);have G:∀y,c=some y->∀d,Fi env y=some d->X I μ (a.eval y) d:=λy R=>f y (by simp[Op.operands,R]);simp only[Jg]at h;let⟨dx,ox,q,g⟩:=BF h H j;clear h;have h:=q;clear q;split at h;rename_i s b c;let⟨k,n,q,L⟩:=BF h H<|D _ rfl;clear h;let⟨db,E,h,S⟩:=BF q H<|G _ rfl;clear q;split at h<;>simp only[G4,Co,AP,reduceCtorEq]at h;rename_i l _ m _ _ _ _ M;obtain⟨rfl,rfl⟩:=h;obtain⟨z,p⟩:=p;let⟨q,p⟩:=BS p;let⟨N,h3⟩:=BS p;let⟨T,r,b3⟩:=z H;obtain⟨s,v,rfl⟩:=(g q).Ks.jl;have U:=(L N).Ks.da;have e3:=(S h3).Ks.da;have V:P.underlying t=some .string:=A.sh M;have:=ML (P:=P) (w:=w) V s (some<|a.eval b) (some<|a.eval c) l.toNat m.toNat (by omega) (by rw[EU];omega) (.inr ⟨_,by rw[U,TJ T]⟩)<|.inr ⟨_,by rw[e3,TJ<|by omega]⟩;rw[v];refine Bj J (AG (v:=.string<|s.extract l.toNat m.toNat) ?_)<|.Kp _ _<|.str _ _<|JN _ _ _;simpa using this;rename_i s b;let⟨k,n,q,L⟩:=BF h H<|D _ rfl;clear h;have h:=q;clear q;split at h<;>simp only[G4,Co,AP,reduceCtorEq]at h;rename_i l _ _ _ _ M;obtain⟨rfl,rfl⟩:=h;obtain⟨z,p⟩:=p;let⟨q,N⟩:=BS p;let⟨T,r⟩:=z H;obtain⟨s,v,rfl⟩:=(g q).Ks.jl;have U:=(L N).Ks.da;have V:P.underlying t=some .string:=A.sh M;have:=ML (P:=P) (w:=w) V s (some<|a.eval b) none l.toNat s.size (by rw[EU];omega) (B6 _) (.inr ⟨_,by rw[U,TJ T]⟩)<|.inl ⟨rfl,rfl⟩;rw[v];refine Bj J (AG (v:=.string<|s.extract l.toNat s.size) ?_)<|.Kp _ _<|.str _ _ ?_;simpa using this;rw[JN,Df];rw[JI,EU];omega;rename_i s c;let⟨k,n,q,L⟩:=BF h H<|G _ rfl;clear h;have h:=q;clear q;split at h<;>simp only[G4,Co,AP,reduceCtorEq]at h;rename_i l _ _ _ _ M;obtain⟨rfl,rfl⟩:=h;obtain⟨z,p⟩:=p;let⟨q,N⟩:=BS p;let⟨T,r⟩:=z H;obtain⟨s,v,rfl⟩:=(g q).Ks.jl;have U:=(L N).Ks.da;have V:P.underlying t=some .string:=A.sh M;have:=ML (P:=P) (w:=w) V s none (some<|a.eval c) 0 l.toNat (AK _) (by rw[EU];omega) (.inl ⟨rfl,rfl⟩)<|.inr ⟨_,by rw[U,TJ T]⟩;rw[v];refine Bj J (AG (v:=.string<|s.extract 0 l.toNat) ?_)<|.Kp _ _<|.str _ _ ?_;simpa using this;rw[JN];simp;rename_i es b c;let⟨k,n,q,L⟩:=BF h H<|D _ rfl;clear h;let⟨db,E,h,S⟩:=BF q H<|G _ rfl;clear q;split at h;rename_i l _ m e _ _ _ _ M;split at h<;>simp only[G4,Co,AP,reduceCtorEq]at h;rename_i i W;obtain⟨rfl,rfl⟩:=h;obtain⟨z,F,p⟩:=p;let⟨q,p⟩:=BS p;let⟨N,h3⟩:=BS p;let⟨T,r,b3⟩:=z H;have U:=(L N).Ks.da;have e3:=(S h3).Ks.da;have V:P.underlying t=some (.slice e):=A.sh M;let⟨u,K,Q⟩:=Mi (P:=P) (w:=w) (g q).Ks l.toNat m.toNat (by omega) (by omega) V (A e i W) F (some<|a.eval b) (some<|a.eval c) (.inr ⟨_,by rw[U,TJ T]⟩)<|.inr ⟨_,by rw[e3,TJ<|by omega]⟩;exact Bj J (AG<|by simpa using K)<|.Kp _ _ Q;cases h;rename_i es b;let⟨k,n,q,L⟩:=BF h H<|D _ rfl;clear h;have h:=q;clear q;split at h;rename_i l e _ _ _ _ M;split at h<;>simp only[G4,Co,AP,reduceCtorEq]at h;rename_i i W;obtain⟨rfl,rfl⟩:=h;obtain⟨z,F,p⟩:=p;let⟨q,N⟩:=BS p;let⟨T,r⟩:=z H;have U:=(L N).Ks.da;have V:P.underlying t=some (.slice e):=A.sh M;let⟨u,K,Q⟩:=Mi (P:=P) (w:=w) (g q).Ks l.toNat es.length (by omega) (B6 _) V (A e i W) F (some<|a.eval b) none (.inr ⟨_,by rw[U,TJ T]⟩)<|.inl ⟨rfl,rfl⟩;refine Bj J (AG<|by simpa using K)<|.Kp _ _ ?_;rwa [Df<|by simp]at Q;cases h;rename_i es c;let⟨k,n,q,L⟩:=BF h H<|G _ rfl;clear h;have h:=q;clear q;split at h;rename_i l e _ _ _ _ M;split at h<;>simp only[G4,Co,AP,reduceCtorEq]at h;rename_i i W;obtain⟨rfl,rfl⟩:=h;obtain⟨z,F,p⟩:=p;let⟨q,N⟩:=BS p;let⟨T,r⟩:=z H;have U:=(L N).Ks.da;have V:P.underlying t=some (.slice e):=A.sh M;let⟨u,K,Q⟩:=Mi (P:=P) (w:=w) (g q).Ks 0 l.toNat (AK _) (by omega) V (A e i W) F none (some<|a.eval c) (.inl ⟨rfl,rfl⟩)<|.inr ⟨_,by rw[U,TJ T]⟩;refine Bj J (AG<|by simpa using K)<|.Kp _ _ ?_;simpa using Q;cases h;cases h}
def zht (A:dv P B) (q:No I μ st aa w) (p:Fg I μ env a o.op) (E:C) (h:G4 (Jg B C env st o.op)=some (d,ob)) (z:A8 ob):Jw P I μ st aa w d<|(execOp a.eval o).run P w:=by cases D:o.op with|move x=>rw[D]at p h;simp only[execOp,D];simp only[Jg]at h;let⟨H,J,h,G⟩:=BF h E<|p x (by simp[Op.operands]);simp only[G4,Co,AP]at h;obtain⟨rfl,rfl⟩:=h;exact Bj q (by simp) (G z)|assign x=>rw[D]at p h;simp only[execOp,D];simp only[Jg]at h;let⟨H,J,h,G⟩:=BF h E<|p x (by simp[Op.operands]);simp only[G4,Co,AP]at h;obtain⟨rfl,rfl⟩:=h;exact Bj q (by simp) (G z)|pick c x y=>exact zln q D p E h z|build t ps=>exact zhr A q D p h z|buildSlice t n ps=>exact Ys A q D p E h z|load t x=>exact zlo A q D p E h z|nilCheck x=>exact lQ q D p E h z|binOp L t x y M=>exact zhs A q D p E h z|unOp u t x=>exact zlm q D p E h z|convert s t x=>exact sX A q D p E h z|makeInterface t x=>exact SG A q D p E h z|makeFunc f N T=>exact lS q D p h|slice t x U V W=>exact zho A q D p E h z|fieldAddr s x f=>exact eH A q D p E h z|field t x f=>exact zhq A q D p E h z|index t x y=>exact zhp A q D p E h z|extract x n=>exact sW q D p E h z|call c=>exact lT A q D p E h z|_=>{rw[D]at h;simp[Jg,G4]at h}
end
section
variable {B:TT} {I:TA} {μ:Mu} {st au:St} {env:Env} {d:D}
def A7 {id:Nat} {SB p:fp}:A2 ((id,some SB)::st) i p↔(i=id/\p=SB)\/(i≠id/\A2 st i p):=by unfold A2;by_cases h:id=i;subst h;rw[A6];constructor;intro h;cases h;exact .inl ⟨rfl,rfl⟩;rintro (⟨_,rfl⟩|⟨h,_⟩);rfl;exact absurd rfl h;rw[AC _ _ h];constructor;intro q;exact .inr ⟨λe=>h e.symm,q⟩;rintro (⟨e,_⟩|⟨_,q⟩);exact absurd e.symm h;exact q
def BX {id:Nat} {p:fp}:A2 ((id,none)::st) i p↔i≠id/\A2 st i p:=by unfold A2;by_cases h:id=i;subst h;rw[A6];constructor;intro h;cases h;rintro ⟨h,_⟩;exact absurd rfl h;rw[AC _ _ h];exact⟨λq=>⟨λe=>h e.symm,q⟩,λh=>h.2⟩
def C7 {o:Obj} (h:w.heap[b]?=some o):b<w.heap.size:=(Ht.1 h).1
def No.m0 {id:Nat} (u:No I μ st (id::aa) w) (o:Obj) (g:Value) (V:∀k,EY g k->k=w.heap.size) (SB:fp) (M:∀B,μ.le B->eb I B (w.alloc o) g SB):∃B,B id=some g/\μ.le B/\No I B ((id,some SB)::st) aa (w.alloc o)/\fi I μ st w I B ((id,some SB)::st) (w.alloc o):=by have f:μ id=none:=u.PA id (by simp);have N:μ.le λi=>if i=id then some g else μ i:=λi v h=>by{have:i≠id:=λe=>by{rw[e,f]at h;cases h};simp[this,h]};have E:∀b,b<w.heap.size->(w.alloc o).heap[b]?=w.heap[b]?:=λb M=>DO w o M;have p:∀i C A,i≠id->A2 st i C->(if i=id then some g else μ i)=some A->μ i=some A:=λi _ A z _ h=>by{rwa [ac z]at h};refine⟨λi=>if i=id then some g else μ i,by simp,N,?_,?_⟩;refine { Kp:=λb m h=>?_,SB:=λi C D=>?_,apart:=λi C A b D x q=>?_,inj:=λi j C W A a b c n x H q G=>?_,nodup:=(GI.1 u.nodup).2,PA:=λi c=>?_ };have:=u.Kp _ _ h;rw[E b<|C7 this];exact this;rcases A7.1 D with⟨rfl,rfl⟩|⟨z,D⟩;exact⟨g,by simp,M _ N⟩;let⟨A,d,l⟩:=u.SB i C D;exact⟨A,by simp[z,d],(l.mono (TA.le_refl I) N).world λb M=>E b (u.apart i C A b D d M).2⟩;rcases A7.1 D with⟨rfl,rfl⟩|⟨z,D⟩;simp at x;subst x;have q:=V _ q;subst q;refine⟨?_,by simp⟩;cases h:I w.heap.size with|none=>rfl|some m=>{have:=C7<|u.Kp _ _ h;omega};let⟨d,l⟩:=u.apart i C A b D (p i C A z D x) q;exact⟨d,by simp;omega⟩;rcases A7.1 c with⟨rfl,rfl⟩|⟨T,J⟩<;>rcases A7.1 n with⟨rfl,rfl⟩|⟨U,L⟩;rfl;simp at x;subst x;have q:=V _ q;subst q;have:=(u.apart j W a _ L (p j W a U L H) G).2;omega;simp at H;subst H;have G:=V _ G;subst G;have:=(u.apart i C A _ J (p i C A T J x) q).2;omega;exact u.inj i j C W A a b J L (p i C A T J x) (p j W a U L H) q G;have z:i≠id:=λe=>(GI.1 u.nodup).1 (e▸c);simp[z,u.PA i<|by simp[c]];refine { Kp:=TA.le_refl I,os:=rfl,tape:=rfl,output:=rfl,size:=by simp,block:=λb M _=>E b M,fresh:=λb M r=>?_,gz:=λ_ _ _=>rfl };obtain⟨i,C,A,D,x,q⟩:=r;rcases A7.1 D with⟨rfl,rfl⟩|⟨z,D⟩;simp at x;subst x;have:=V _ q;omega;exact⟨i,C,A,D,p i C A z D x,q⟩
def No.update (u:No I μ st aa w) {id:Nat} {SB it:fp} (H:A2 st id SB) (J:μ id=some g) (M:EY g b) (n:w'.heap.size=w.heap.size) (N:w'.os=w.os) (T:w'.tape=w.tape) (D:w'.output=w.output) (p:∀k,k≠b->w'.heap[k]?=w.heap[k]?) (r:eb I μ w' g it):No I μ ((id,some it)::st) aa w'/\fi I μ st w I μ ((id,some it)::st) w':=by have E:Ba μ st b:=⟨id,SB,g,H,J,M⟩;have q:∀i z,A2 ((id,some it)::st) i z->∃x,A2 st i x:=λi z h=>by{rcases A7.1 h with⟨rfl,rfl⟩|⟨_,h⟩;exact⟨SB,H⟩;exact⟨z,h⟩};refine⟨{ Kp:=λk o h=>?_,SB:=λi z h=>?_,apart:=λi z B k h A G=>?_,inj:=λi j z s B t k v y A U V W=>?_,nodup:=u.nodup,PA:=u.PA },?_⟩;have C:k≠b:=λe=>by{have:=(u.apart id SB g b H J M).1;rw[<- e,h]at this;cases this};rw[p k C];exact u.Kp k o h;rcases A7.1 h with⟨rfl,rfl⟩|⟨C,h⟩;exact⟨g,J,r⟩;let⟨B,L,m⟩:=u.SB i z h;refine⟨B,L,m.world λk G=>p k λe=>?_⟩;exact C<|u.inj i id z SB B g k h H L J G<|e▸M;let⟨x,a⟩:=q i z h;let⟨L,m⟩:=u.apart i x B k a A G;exact⟨L,by omega⟩;let⟨x,c⟩:=q i z v;let⟨d,f⟩:=q j s y;exact u.inj i j x d B t k c f A U V W;refine { Kp:=TA.le_refl I,os:=N,tape:=T,output:=D,size:=by omega,block:=λk _ l=>p k λe=>l<|e▸E,fresh:=λk _ F=>?_,gz:=λ_ _ _=>rfl };obtain⟨i,z,B,h,A,G⟩:=F;let⟨x,a⟩:=q i z h;exact⟨i,x,B,a,A,G⟩
def nL (P:Program) (I:TA) (μ:Mu) (st:St) (w:World) (d:D) (au:St) (Kr:L1 Nat) (r:Result Next):Prop :=
 la P r λv w'=>∃p h,No p h au Kr w'/\X p h v d/\μ.le h/\fi I μ st w p h au w'
def RC {x:Operand} {k:D->EE} {q:EE} (h:Tc env x k=q) (p:q≠.no) (u:∀d,Fi env x=some d->X I μ (a.eval x) d):∃d,k d=q/\X I μ (a.eval x) d:=by unfold Tc at h;split at h;exact absurd h.symm p;rename_i d z A;exact⟨d,h,u d A⟩;exact absurd h.symm p
def J1 {cs:R1} {vs:Array Value} (h:w'.heap[b]?=some (.cells vs t (0,0))) (p:TB I μ vs.toList cs) (q:∀v∈vs.toList,v.oneCell'=true) (u:cs.length=sz):eb I μ w' (.pointer<|some ⟨b,0,none⟩)<|TG t sz cs:=by unfold TG;split;rename_i z x;have:=Mj x p;exact⟨by rw[<- u,<- p.1,this.1],b,vs,rfl,h,this,q⟩;exact⟨u,b,vs,rfl,h,p,q⟩
def yY {SB:fp} (h:zdm t sz d=some (SB,ob)) (A:A8 ob) (u:X I μ v d) (p:w'.heap[b]?=some (.cells v.cells t (0,0))) :
  eb I μ w' (.pointer<|some ⟨b,0,none⟩) SB:=by
 unfold zdm at h
 split at h
 ·cases h;obtain⟨cs,rfl,q,B⟩:=u.ku;exact⟨A.1,b,cs,rfl,p,q,B⟩
 ·cases h
 ·rename_i x C D
  split at h
  ·rename_i z;cases h;have E:x.one=true:=by
    cases x<;>first|rfl|exact absurd rfl (C _)|exact absurd rfl (D _)
   have q:=u.Ks.one E;rw[J8 q]at p;exact⟨by simp[Dm z],b,_,rfl,p,.mk u.Ks .nil,by simpa using q⟩
  ·cases h
 ·split at h
  ·rename_i z;cases h;obtain⟨cs,rfl,q,B⟩:=u.ju;exact J1 p q B<|Dm z
  ·cases h
 ·cases h
 ·cases h
 ·cases h
 ·rename_i T U H J L M N
  split at h
  ·rename_i z;cases h;have G:d.one=true:=by
    cases d<;>first
     |rfl
     |exact absurd rfl (H _)
     |exact absurd rfl (J _)
     |exact absurd rfl (L _)
     |exact absurd rfl (M _ _ _)
     |exact absurd rfl N
   have q:=u.one G;rw[J8 q]at p;exact⟨by simp[Dm z],b,_,rfl,p,.mk u .nil,by simpa using q⟩
  ·cases h
def Kh {cs:R1} (h:NW d=some cs) (q:X I μ v d):TB I μ v.cells.toList cs/\∀u∈v.cells.toList,u.oneCell'=true:=by unfold NW at h;split at h;cases h;obtain⟨A,rfl,p,z⟩:=q.ku;exact⟨p.Kp,z⟩;cases h;cases h;obtain⟨A,rfl,p,z⟩:=q.ju;exact⟨p,z⟩;cases h;cases h;cases h;{rename_i B C E G H J;cases h;(have p:v.oneCell'=true:=by{cases d with|Kp x=>{refine q.Ks.one ?_;cases x<;>first|rfl|exact absurd rfl (B _)|exact absurd rfl (C _)}|agg ds=>exact absurd rfl (E _)|cg ds=>exact absurd rfl (G _)|guard c w d=>exact absurd rfl (H _ _ _)|undef=>exact absurd rfl J|_=>{exact q.one O}});rw[J8 p];exact⟨.mk q .nil,by simpa using p⟩}
end
section
variable {B:TT} {I:TA} {μ:Mu} {st au:St} {env:Env} {d:D}
def LI {i:kh} (x:jp P t i) {vs:Array Value} {p:TypeId} (h:w.heap[b]?=some (.cells vs p (0,0))) (z:v.cells.size=i.size) (A:∀u∈v.cells.toList,u.oneCell'=true) (q:off+v.cells.toList.length<=vs.size):(Instr.storeAt t (.pointer<|some ⟨b,off,none⟩) v).run P w=.ok () (w.setRow b (vs.toList.take off++v.cells.toList++vs.toList.drop (off+v.cells.toList.length)).toArray):=by have:=run_storeCells_at (P:=P) b off p v.cells.toList 0 vs w h (by omega) A;simp only[Jd]at this;simp only[Instr.storeAt,Instr.sureAddr,ak,al,ah,storeVar,x.sizeOf w,z,ne_eq,not_true_eq_false,aq];simpa using this
def dw:=@Eq.symm
def cd:=@setRow_size
def ay:=@setRow_other
def cv:=@setRow_heap
def sZ (jw:dv P B) (m:No I μ st aa w) (N:Fg I μ env a o.op) (h:tA B env st aa o.op=.e d au Kr ob) (s:A8 ob):nL P I μ st w d au Kr<|(execOp a.eval o).run P w:=by
 have alloc:∀(id:Nat) (H:K1) (SB:fp) (t:TypeId) (cs:Array Value),aa=id::H ->
   (∀G,μ.le G->eb I G (w.alloc<|.cells cs t) (.pointer<|some ⟨w.heap.size,0,none⟩) SB) ->
   ∃I' G,No I' G ((id,some SB)::st) H (w.alloc<|.cells cs t)/\X I' G (.pointer<|some ⟨w.heap.size,0,none⟩) (.ref id 0)/\μ.le G /\
    fi I μ st w I' G ((id,some SB)::st) (w.alloc<|.cells cs t):=by
  intro id H SB t cs he hb;subst he;let⟨G,q1,q2,q3,q4⟩:=m.m0 (.cells cs t) (.pointer<|some ⟨w.heap.size,0,none⟩) (λ_ h=>dw h) SB hb;exact⟨I,G,q3,.ref _ _ _ q1,q2,q4⟩
 cases y:o.op with
 |box t x=>
  rw[y]at N h;simp only[tA]at h;let⟨d',h',hx⟩:=RC h (by simp)<|N x (by simp[Op.operands]);clear h;have h:=h';clear h'
  split at h
  ·rename_i i id H n
   split at h<;>simp only[EE.e.injEq,reduceCtorEq]at h
   rename_i SB E hb;obtain⟨rfl,rfl,rfl,rfl⟩:=h;have L:(execOp a.eval o).run P w=.ok (.value<|.pointer<|some ⟨w.heap.size,0,none⟩) (w.alloc<|.cells (a.eval x).cells t):=by
    simp[execOp,y,Instr.box,newVar,newRow]
   unfold nL;rw[L];exact alloc id H SB t _ O λG hle=>yY hb s (hx.mono (TA.le_refl I) hle)<|FR w _
  ·cases h
 |alloc t=>
  rw[y]at N h;simp only[tA]at h
  split at h
  ·rename_i i id H n
   split at h<;>simp only[EE.e.injEq,reduceCtorEq]at h
   rename_i T;obtain⟨rfl,rfl,rfl,rfl⟩:=h;obtain⟨inf,zv,nr,_,_,x7,th,ve⟩:=(jw t i n).lw;have L:(execOp a.eval o).run P w=.ok (.value<|.pointer<|some ⟨w.heap.size,0,none⟩) (w.alloc<|.cells zv.cells t):=by
    simp[execOp,y,Instr.alloc,newVar,newRow,zeroValue,typeInfo,nr,x7]
   unfold nL;rw[L];exact alloc id H _ t _ O λG _=>J1 (FR w _) (th I G) ve<|Dm T
  ·cases h
 |store t p x=>
  rw[y]at N h;simp only[tA]at h;let⟨dp,h',hp⟩:=RC h (by simp)<|N p (by simp[Op.operands]);clear h;let⟨dx,h,hx⟩:=RC h' (by simp)<|N x (by simp[Op.operands]);clear h';have r:∀(id off:Nat) (i:kh) (SB it:fp) (b:Nat) (vs:Array Value) (f:TypeId),A2 st id SB->μ id=some (.pointer<|some ⟨b,0,none⟩)->lk B t=some i ->
    w.heap[b]?=some (.cells vs f (0,0))->a.eval p=.pointer (some ⟨b,off,none⟩)->(a.eval x).cells.size=i.size->(∀u∈(a.eval x).cells.toList,u.oneCell'=true)->off+(a.eval x).cells.toList.length<=vs.size ->
    (∀w',w'.heap[b]?=some (.cells (vs.toList.take off++(a.eval x).cells.toList++vs.toList.drop (off+(a.eval x).cells.toList.length)).toArray f (0,0))->eb I μ w' (.pointer<|some ⟨b,0,none⟩) it) ->
    nL P I μ st w .undef ((id,some it)::st) aa ((execOp a.eval o).run P w):=by
   intro id off i SB it b vs f T hm n A hpv kq h1 qa qb;have L:(execOp a.eval o).run P w=.ok .skip (w.setRow b (vs.toList.take off++(a.eval x).cells.toList++vs.toList.drop (off+(a.eval x).cells.toList.length)).toArray):=by
    simp only[execOp,y,hpv,ak,LI (jw t i n) A kq h1 qa,ah,al]
   unfold nL;rw[L];let⟨q1,q2⟩:=m.update (id:=id) (SB:=SB) (it:=it) (g:=.pointer<|some ⟨b,0,none⟩) (b:=b) T hm rfl (w':=w.setRow b _) (cd w b _) rfl rfl rfl (λk hk=>ay w b k _ hk)
    (qb _<|cv w b vs _ f _ A)
   exact⟨I,μ,q1,.undef _,Mu.le_refl μ,q2⟩
  split at h
  ·rename_i id off i n;obtain⟨b,e1,e2⟩:=hp.lx
   split at h
   ·rename_i f sz xs T;let⟨g,hg,U,b',vs,F,A,C,M⟩:=m.SB id _ T;rw[e2]at hg;cases hg;cases F;have K:vs.size=sz:=by rw[<- U,<- C.1];simp
    split at h
    ·rename_i ys hs;simp only[EE.e.injEq]at h;obtain⟨rfl,rfl,rfl,rfl⟩:=h;obtain⟨cs,ex,V,W⟩:=hx.ku;have c:ys.length=sz:=s.1;have Q:sz=i.size:=Dm hs;have J:cs.toList.length=sz:=by rw[V.1,c]
     have z:(a.eval x).cells=cs:=by rw[ex];rfl
     refine r id 0 i _ _ b vs f T e2 n A e1 (by rw[z,<- Q,<- J];simp) (by rw[z];exact W) (by rw[z];omega) λw' D=>?_;rw[z]at D;have e3:(vs.toList.take 0++cs.toList++vs.toList.drop (0+cs.toList.length)).toArray=cs:=by
      rw[zfs,Bt (by simp at J ⊢;omega)];simp
     rw[e3]at D;exact⟨c,b,cs,rfl,D,V,W⟩
    ·split at h
     ·rename_i cs J
      split at h<;>simp only[EE.e.injEq,reduceCtorEq]at h
      rename_i l R S;obtain⟨rfl,rfl,rfl,rfl⟩:=h;let⟨V,W⟩:=Kh J hx;let⟨s1,s2⟩:=Ki R;have e:(a.eval x).cells.toList.length=cs.length:=V.1;rw[CD]at s2;refine r id _ i _ _ b vs f T e2 n A e1 (by have:=Dm S;rw[<- this,<- e];simp) W (by omega) λw' D=>?_;rw[e]at D;refine J1 D ?_ ?_ (by rw[s1];simp;omega)
      ·rw[QG,s1];refine TB.append (TB.append ?_ V) ?_
       ·have:=C.Kp (μ:=μ);exact⟨by simp[this.1,C.1],λj v d p q=>by
         rw[Ea]at p q
         split at p
         ·rename_i hj;rw[ae hj]at q;exact this.2 j v d p q
         ·cases p⟩
       ·have:=C.Kp (μ:=μ);exact⟨by simp at K ⊢;omega,λj v d p q=>by
         rw[F7]at p q;exact this.2 _ v d p q⟩
      ·intro u hu;rw[QG]at hu;rcases AT.1 hu with hu|hu
       ·rcases AT.1 hu with hu|hu
        ·exact M u<|OV hu
        ·exact W u hu
       ·exact M u<|TK hu
     ·cases h
   ·rename_i f sz ds T;let⟨g,hg,U,b',vs,F,A,C,M⟩:=m.SB id _ T;rw[e2]at hg;cases hg;cases F;have K:vs.size=sz:=by rw[<- U,<- C.1];simp
    split at h
    ·rename_i ys hs;simp only[EE.e.injEq]at h;obtain⟨rfl,rfl,rfl,rfl⟩:=h;obtain⟨cs,ex,V,W⟩:=hx.ku;have c:ys.length=sz:=s.1;have Q:sz=i.size:=Dm hs;have J:cs.toList.length=sz:=by rw[V.1,c]
     have z:(a.eval x).cells=cs:=by rw[ex];rfl
     refine r id 0 i _ _ b vs f T e2 n A e1 (by rw[z,<- Q,<- J];simp) (by rw[z];exact W) (by rw[z];omega) λw' D=>?_;rw[z]at D;have e3:(vs.toList.take 0++cs.toList++vs.toList.drop (0+cs.toList.length)).toArray=cs:=by
      rw[zfs,Bt (by simp at J ⊢;omega)];simp
     rw[e3]at D;exact⟨c,b,cs,rfl,D,V,W⟩
    ·split at h
     ·rename_i cs J
      split at h<;>simp only[EE.e.injEq,reduceCtorEq]at h
      rename_i l R S;obtain⟨rfl,rfl,rfl,rfl⟩:=h;let⟨V,W⟩:=Kh J hx;let⟨s1,s2⟩:=Ki R;have e:(a.eval x).cells.toList.length=cs.length:=V.1;refine r id _ i _ _ b vs f T e2 n A e1 (by have:=Dm S;rw[<- this,<- e];simp) W (by omega) λw' D=>?_;rw[e]at D;refine J1 D ?_ ?_ (by rw[s1];simp;omega)
      ·rw[QG,s1];refine TB.append (TB.append ?_ V) ?_
       ·exact⟨by simp[<- C.1],λj v d p q=>by
         rw[Ea]at p q
         split at p
         ·rename_i hj;rw[ae hj]at q;exact C.2 j v d p q
         ·cases p⟩
       ·exact⟨by simp at K ⊢;omega,λj v d p q=>by
         rw[F7]at p q;exact C.2 _ v d p q⟩
      ·intro u hu;rw[QG]at hu;rcases AT.1 hu with hu|hu
       ·rcases AT.1 hu with hu|hu
        ·exact M u<|OV hu
        ·exact W u hu
       ·exact M u<|TK hu
     ·cases h
   ·cases h
  ·cases h
 |_=>rw[y]at h;simp[tA]at h
end
def bA (P:Program):L1 Deferred->World->World->Prop
 |[],w,w'=>w'=w
 |d::ds,w,w'=>∃r h,d.target=.collected r/\(Instr.takeDeferred r).run P w=.ok [] h/\bA P ds h w'
section
variable {b:Frame}
def Kw:∀(ds:L1 Deferred) (w w':World) (fr:Frame),fr.mode≠.run->fr.defers=ds->bA P ds w w'->Steps P (lone fr cs w) (lone { fr with defers:=[] } cs w')
 |[],w,w',fr,p,q,h=>by subst h;have:({ fr with defers:=[] }:Frame)=fr:=by{rw[<- q]};rw[this];exact Steps.refl _ _
 |d::ds,w,w',fr,p,q,⟨r,u,x,z,A⟩=>by have B:=step_collected (cs:=cs) p q x z;exact .head B<|Kw ds u w' { fr with defers:=[]++ds } p O A
def Z2:∀(u:K1) (w:World),u.Nodup->(∀r∈u,w.heap[r]?=some (.deferred<|some []))->∃p,bA P (u.map wy) w p/\p.os=w.os/\p.tape=w.tape/\p.output=w.output/\p.heap.size=w.heap.size/\∀b,b∉u->p.heap[b]?=w.heap[b]?
 |[],w,_,_=>⟨w,rfl,rfl,rfl,rfl,rfl,λ_ _=>rfl⟩
 |r::u,w,G,h=>by let⟨A,B⟩:=GI.1 G;have H:=h r (by simp);have C:=run_takeDeferred (P:=P) (b:=r) (ds:=[]) H;have J:w.putObj r (.deferred none)={ w with heap:=w.heap.setIfInBounds r (.deferred none) }:=by{unfold World.putObj;by_cases D:r<w.heap.size;simp[D];simp[D]};rw[J]at C;let⟨p,L,M,N,T,U,V⟩:=Z2 u { w with heap:=w.heap.setIfInBounds r (.deferred none) } B (λE x=>by{have q:r≠E:=λe=>A<|e▸x;rw[H2 q];exact h E<|by simp[x]});refine⟨p,⟨r,_,rfl,C,L⟩,M,N,T,by rw[U];simp,λb z=>?_⟩;have q:r≠b:=λe=>z (by rw[e];simp);rw[V b λW=>z<|by simp[W],H2 q]
def zhy (P:Program) (fc:Func) (R:Ending->World->Prop):Exit->Act->World->Prop
 |.normal,a,w|.ret,a,w=>∃w' v,bA P a.defers w w'/\(results fc a.tmps).run P w'=.ok v w'/\R (.returned v) w'
 |.panic h,a,w=>∃w',bA P a.defers w w'/\R (.panicked h) w'
 |_,_,_=>False
def bw:=@Steps.trans
def UG {f:FuncId} {fc:Func} {args:Array Value} (H:P.funcs[f]?=some fc) (N:fc.body=some c) (h:∀(b:Frame) (cs:L1 Frame),b.fn=f->b.kind=.normal->b.roundOf=none->Reach P b cs (zhy P fc R) [.code c] { tmps:=args++Array.replicate (fc.ntmps-args.size) undef,defers:=[] } w):Calls P f args w R:=by intro cs;obtain⟨b,z⟩:∃b:Frame,b={ (default:Frame)with fn:=f,kind:=.normal }:=⟨_,rfl⟩;have A:Frame.enter P f args .normal=b.atR { tmps:=args++Array.replicate (fc.ntmps-args.size) undef,defers:=[] } [.code c]:=by{subst z;simp[Frame.enter,Frame.atR,H,N];rfl};have u:b.fn=f:=by{rw[z]};have J:b.kind=.normal:=by{rw[z]};have C:b.roundOf=none:=by{rw[z];rfl};let⟨e,a',w',D,x⟩:=h b cs u J C;rw[<- A]at x;cases e with|normal=>{obtain⟨B,v,E,L,G⟩:=D;refine⟨.returned v,B,{ ({ b.atR a' []with mode:=.returning }:Frame)with defers:=[] },G,bw x<|.head (stepR_end C)<|Kw a'.defers w' B { b.atR a' []with mode:=.returning } (by simp) O E,u,rfl,rfl,J,fc,by rw[show({ ({ b.atR a' []with mode:=.returning }:Frame)with defers:=[] }:Frame).fn=f from u];exact H,L⟩}|ret=>{obtain⟨B,v,E,L,G⟩:=D;obtain⟨p,M⟩:=x;refine⟨.returned v,B,{ ({ b.atR a' (.code .ret::p)with mode:=.returning }:Frame)with defers:=[] },G,bw M<|.head (stepR_ret C)<|Kw a'.defers w' B { b.atR a' (.code .ret::p)with mode:=.returning } (by simp) O E,u,rfl,rfl,J,fc,by rw[show({ ({ b.atR a' (.code .ret::p)with mode:=.returning }:Frame)with defers:=[] }:Frame).fn=f from u];exact H,L⟩}|panic q=>{obtain⟨B,E,G⟩:=D;obtain⟨p,M⟩:=x;exact⟨.panicked q,B,{ ({ b.atR a' p with mode:=.panicking q }:Frame)with defers:=[] },G,bw M<|Kw a'.defers w' B { b.atR a' p with mode:=.panicking q } (by simp) O E,u,rfl,rfl,fc,by rw[show({ ({ b.atR a' p with mode:=.panicking q }:Frame)with defers:=[] }:Frame).fn=f from u];exact H⟩}|exit id=>exact D.elim|goto l=>exact D.elim|outgrown=>{exact D.elim}
def U2 {g:Operand} {ps:Array Tmp} {G body:Code} {mark:L1 Deferred} {D A E:World} {T:Deferred} {f:FuncId} {args:Array Value} (V:(Instr.enterLoop b.fn a.tmps ps G body b.roundOf).run P w=.ok (l,mark) D) (H:(resolve a.eval (rangeCall g l) 0).run P D=.ok T A) (J:(invoke T.target T.args).run P A=.ok (.enter f args) E) (h:Calls P f args E λe q=>match e with
   |.returned _=>∃B C,(Instr.endLoop l).run P q=.ok B C/\Reach P b cs Q ((B.map Item.code).toList++k) { a with defers:=mark++a.defers } C
   |.panicked p=>Q (.panic p) { a with defers:=mark++a.defers } q
   |.outgrown=>False):Reach P b cs Q (.code (.rangeFunc g ps G body)::k) a w:=by
 have u:=stepR_rangeFunc (P:=P) (b:=b) (a:=a) (k:=k) (cs:=cs) (w:=w) V H J;let⟨e,q,fr,U,x,_,z⟩:=h<|b.atR { a with defers:=mark++a.defers } (.inRangeFunc l::k)::cs;cases e with
 |returned v=>
  obtain⟨B,C,L,W,a',M,c,N⟩:=U;refine⟨W,a',M,c,.of_steps (.head u<|bw x<|.head ?_<|.one<|stepR_endRangeFunc L) N⟩;rw[<- finish_atR_inRangeFunc l v];exact eo z
 |panicked p=>
  refine⟨.panic p,_,q,U,.inRangeFunc l::k,.head u<|bw x<|.one ?_⟩;rw[<- de];exact dg z
 |outgrown=>exact U.elim
def zn6 (P:Program) (l:Nat) (R:Ending->World->Prop):Exit->Act->World->Prop
 |.normal,_,w=>∃v w',(Instr.endRound l none).run P w=.ok v w'/\R (.returned v) w'
 |.ret,_,w=>∃v w',(Instr.endRound l<|some .ret).run P w=.ok v w'/\R (.returned v) w'
 |.exit id,_,w=>∃v w',(Instr.endRound l<|some<|.exit id).run P w=.ok v w'/\R (.returned v) w'
 |.goto t,_,w=>∃v w',(Instr.endRound l<|some<|.goto t).run P w=.ok v w'/\R (.returned v) w'
 |.panic h,a,w=>a.defers=[]/\R (.panicked h) w
 |.outgrown,_,_=>False
def Lb {f:FuncId} {fc:Func} {tmps:Array Value} {x body:Code} (N:P.funcs[f]?=some fc) (h:∀(b:Frame) (cs:L1 Frame),b.fn=f->b.roundOf=some l->Reach P b cs (zn6 P l R) [.code x,.beginRound,.code body] { tmps:=tmps,defers:=[] } w):RoundIn Fence.wide 0 P l f tmps x body w R:=by refine⟨ab,λc cs _=>?_⟩;obtain⟨b,C⟩:∃b:Frame,b={ (default:Frame)with fn:=f,kind:=.normal,roundOf:=some l }:=⟨_,rfl⟩;have D:Frame.round l f tmps x body .normal=b.atR { tmps:=tmps,defers:=[] } [.code x,.beginRound,.code body]:=by{subst C;simp[Frame.round,Frame.atR]};have H:b.fn=f:=by{rw[C]};have L:b.kind=.normal:=by{rw[C]};have A:b.roundOf=some l:=by{rw[C]};let⟨e,a',w',G,q⟩:=h b (c::cs) H A;rw[<- D]at q;have ok:∀v z,R (.returned v) z->Steps P (lone (Frame.round l f tmps x body .normal) (c::cs) w) (lone (c.finish v) cs z)->∃e w',R e w'/\ComesIn (Machine.fenced P Fence.wide) P (lone (Frame.round l f tmps x body .normal) (c::cs) w) (match e with|.returned v=>lone (c.finish v) cs w'|.panicked u=>lone (c.raise u) cs w'|.outgrown=>lone c cs w') e:=λv z B E=>⟨.returned v,z,B,comesIn_wide.2 E⟩;cases e with|normal=>obtain⟨v,z,p,B⟩:=G;exact ok v z B (bw q<|.one<|stepR_round_end A L p)|ret=>obtain⟨v,z,p,B⟩:=G;obtain⟨k,E⟩:=q;exact ok v z B (bw E<|.one<|stepR_round_ret A L p)|exit id=>obtain⟨v,z,p,B⟩:=G;obtain⟨k,M,E⟩:=q;exact ok v z B (bw E<|.one<|stepR_round_exit A L M p)|goto t=>obtain⟨v,z,p,B⟩:=G;obtain⟨k,M,E⟩:=q;exact ok v z B (bw E<|.one<|stepR_round_goto A L M p)|panic u=>{obtain⟨T,B⟩:=G;obtain⟨J,E⟩:=q;exact⟨.panicked u,w',B,comesIn_wide.2<|bw E<|.one<|dg ⟨rfl,T,fc,by rw[show({ b.atR a' J with mode:=.panicking u }:Frame).fn=f from H];exact N⟩⟩}|outgrown=>{exact G.elim}
end
def UF:DI->Item->Prop
 |.code c,.code p=>p=c
 |.inBlock id,.inBlock q=>q=id
 |.inLoop c,.inLoop p=>p=c
 |.inScope c,.inScope p=>p=c
 |.ops all h,.inRegion u l=>u=all.toArray/\∃k,h=all.drop k/\l=List.range' k h.length
 |_,_=>False
def fD:L1 DI->L1 Item->Prop
 |[],[]=>True
 |d::ds,i::h=>UF d i/\fD ds h
 |_,_=>False
inductive DX where
 |norm
 |ret
 |exit (id:Nat)
 |goto (l:Nat)
 |panic (x:V)
def Mw (I:TA):Exit->DX->Prop
 |.normal,.norm=>True
 |.ret,.ret=>True
 |.exit id,.exit p=>id=p
 |.goto l,.goto q=>l=q
 |.panic h,.panic x=>∃v,h=[{ v,recovered:=false }]/\PB I v x
 |_,_=>False
abbrev DQ:=DX->Env->St->L1 Nat->Prop
def l4 (F:L1 Nat) (μ h:Mu):Prop:=∀i∈F,∀v,μ i=some v->h i=some v
def l4.refl (F:K1) (μ:Mu):l4 F μ μ:=λ_ _ _ h=>h
def l4.trans {a b c:Mu} (h:l4 F a b) (k:l4 F b c):l4 F a c:=λi p v q=>k i p v<|h i p v q
def l4.of_le {a b:Mu} (h:a.le b):l4 F a b:=λi _ v p=>h i v p
def MG (M:L1 Deferred) (w:World) (ds:L1 Deferred):Prop:=∀r,wy r∈ds->wy r∈M\/w.heap.size<=r
def MG.refl (M:L1 Deferred) (w:World):MG M w M:=λ_ h=>.inl h
def lb (n:Nat) (F:L1 Nat) (Q:DQ) (M:L1 Deferred) (I:TA) (μ:Mu) (st:St) (w:World) (e:Exit) (a':Act) (w':World):Prop :=
 ∃x q au Kr p h,Mw p e x/\Q x q au Kr/\ij n p h q au Kr a' w'/\l4 F μ h/\fi I μ st w p h au w'/\MG M w a'.defers
def Ze:Nat:=1000000007
def FrO (P:Program) (F:L1 Nat):Type:={ b:Frame // Ze∈F\/(b.roundOf=none/\∃h,P.funcs[b.fn]?=some h) }
def ek (P:Program) (n:Nat) (F:L1 Nat) (Q:DQ) (p:L1 DI) (env:Env) (st:St) (aa:L1 Nat):Prop :=
 ∀(b:FrO P F) cs I μ a w h,fD p h->ij n I μ env st aa a w->Reach P b.1 cs (lb n F Q a.defers I μ st w) h a w
section
variable {Q:DQ} {B:TT} {env:Env} {st:St} {k:L1 DI}
def lb.back {M:L1 Deferred} {I J:TA} {μ ν:Mu} {st t:St} {x:World} {e:Exit} (z:l4 F μ ν) (u:fi I μ st w J ν t x) (h:lb n F Q M J ν t x e a' w'):lb n F Q M I μ st w e a' w':=by obtain⟨A,q,au,Kr,B,p,C,D,E,G,H,L⟩:=h;exact⟨A,q,au,Kr,B,p,C,D,E,z.trans G,u.trans H,λr N=>(L r N).imp id λh=>zks u.size h⟩
abbrev S6:=L1 DI
def ek.mono {A:DQ} {p:S6} (B:∀x env st aa,Q x env st aa->A x env st aa) (h:ek P n F Q p env st aa):ek P n F A p env st aa:=λb cs I μ a w u C D=>(h b cs I μ a w u C D).mono λ_ _ _ ⟨x,q,au,Kr,E,z,G,H,J⟩=>⟨x,q,au,Kr,E,z,G,B _ _ _ _ H,J⟩
def JQ {d:DI} {ds:S6} {p:L1 Item} (h:fD (d::ds) p):∃i q,p=i::q/\UF d i/\fD ds q:=by cases p with|nil=>exact h.elim|cons i q=>{exact⟨i,q,rfl,h.1,h.2⟩}
def L3 {ds:S6} {p:L1 Item} (h:fD (.code c::ds) p):∃q,p=.code c::q/\fD ds q:=by obtain⟨i,q,rfl,u,x⟩:=JQ h;cases i<;>simp only[UF]at u;subst u;exact⟨q,rfl,x⟩
def mI {id:Nat} {ds:S6} {p:L1 Item} (h:fD (.inBlock id::ds) p):∃q,p=.inBlock id::q/\fD ds q:=by obtain⟨i,q,rfl,u,x⟩:=JQ h;cases i<;>simp only[UF]at u;subst u;exact⟨q,rfl,x⟩
def mH {ds:S6} {p:L1 Item} (h:fD (.inScope c::ds) p):∃q,p=.inScope c::q/\fD ds q:=by obtain⟨i,q,rfl,u,x⟩:=JQ h;cases i<;>simp only[UF]at u;subst u;exact⟨q,rfl,x⟩
def tL {ds:S6} {p:L1 Item} (h:fD (.inLoop c::ds) p):∃q,p=.inLoop c::q/\fD ds q:=by obtain⟨i,q,rfl,u,x⟩:=JQ h;cases i<;>simp only[UF]at u;subst u;exact⟨q,rfl,x⟩
def KA {all rest:L1 Oper} {ds:S6} {p:L1 Item} (h:fD (.ops all rest::ds) p):∃k q,p=.inRegion all.toArray (List.range' k rest.length)::q/\rest=all.drop k/\fD ds q:=by obtain⟨i,q,rfl,u,x⟩:=JQ h;cases i<;>simp only[UF]at u;obtain⟨rfl,k,z,rfl⟩:=u;exact⟨k,q,rfl,z,x⟩
def J7 {id:Nat}:∀{ds q:S6} {A:L1 Item},NJ id ds=some q->fD ds A->∃p,exitTo id A=some p/\fD q p
 |[],q,A,h,_=>by simp[NJ]at h
 |d::ds,q,A,h,J=>by obtain⟨i,A,rfl,u,B⟩:=JQ J;cases d with|inBlock E=>{cases i with|inBlock C=>have u:C=E:=u;subst u;simp only[NJ]at h;split at h;rename_i G;cases h;have:=Dm G;exact⟨A,by simp[exitTo,this],B⟩;rename_i G;have H:C≠id:=λe=>by{subst e;simp at G};let⟨p,x,z⟩:=J7 h B;exact⟨p,by simp[exitTo,H,x],z⟩|_=>{exact u.elim}}|code c=>simp only[NJ]at h;let⟨p,x,z⟩:=J7 h B;cases i<;>simp only[UF]at u;exact⟨p,by simp[exitTo,x],z⟩|inLoop c=>simp only[NJ]at h;let⟨p,x,z⟩:=J7 h B;cases i<;>simp only[UF]at u;exact⟨p,by simp[exitTo,x],z⟩|inScope c=>simp only[NJ]at h;let⟨p,x,z⟩:=J7 h B;cases i<;>simp only[UF]at u;exact⟨p,by simp[exitTo,x],z⟩|ops all D=>simp only[NJ]at h;let⟨p,x,z⟩:=J7 h B;cases i<;>simp only[UF]at u;exact⟨p,by simp[exitTo,x],z⟩|je all D L=>{cases i<;>simp only[UF]at u}
def JP {k':S6} (h:ek P n F Q k' env st aa) (z:∀(b:Frame) cs I μ a w q,fD k q->ij n I μ env st aa a w->∃p,fD k' p/\(Reach P b cs (lb n F Q a.defers I μ st w) p a w->Reach P b cs (lb n F Q a.defers I μ st w) (.code c::q) a w)):ek P n F Q (.code c::k) env st aa:=by intro b cs I μ a w u A x;obtain⟨q,rfl,B⟩:=L3 A;let⟨p,C,D⟩:=z b.1 cs I μ a w q B x;exact D<|h b cs I μ a w p C x
def zly {x:Code} (h:ek P n F Q (.code x::.code y::k) env st aa):ek P n F Q (.code (.seq x y)::k) env st aa:=JP h λ_ _ _ _ _ _ p q _=>⟨.code x::.code y::p,⟨rfl,rfl,q⟩,zac⟩
def Fe (h:ek P n F Q k env st aa):ek P n F Q (.code .skip::k) env st aa:=JP h λ_ _ _ _ _ _ p q _=>⟨p,q,pE⟩
def zcg (h:ek P n F Q k env st aa):ek P n F Q (.code (.label l)::k) env st aa:=JP h λ_ _ _ _ _ _ p q _=>⟨p,q,iC⟩
def zch {id:Nat} (h:ek P n F Q (.code c::.inBlock id::k) env st aa):ek P n F Q (.code (.block id c)::k) env st aa:=JP h λ_ _ _ _ _ _ p q _=>⟨.code c::.inBlock id::p,⟨rfl,rfl,q⟩,iD⟩
def zcf (h:ek P n F Q (.code c::.inScope c::k) env st aa):ek P n F Q (.code (.scope c)::k) env st aa:=JP h λ_ _ _ _ _ _ p q _=>⟨.code c::.inScope c::p,⟨rfl,rfl,q⟩,iB⟩
def tJ (h:ek P n F Q (.code c::.inLoop c::k) env st aa):ek P n F Q (.inLoop c::k) env st aa:=by intro b cs I μ a w p q u;obtain⟨z,rfl,x⟩:=tL q;exact cK<|h b cs I μ a w _ ⟨rfl,rfl,x⟩ u
def Yu (h:ek P n F Q (.inLoop c::k) env st aa):ek P n F Q (.code (.loop c)::k) env st aa:=by intro b cs I μ a w G N T;obtain⟨B,rfl,U⟩:=L3 N;have:=h b cs I μ a w (.inLoop c::B) ⟨rfl,U⟩ T;obtain⟨e,a',w',V,q⟩:=this;refine pF ?_;have W:step P (lone (b.1.atR a<|.inLoop c::B) cs w)=.next (lone (b.1.atR a<|.code c::.inLoop c::B) cs w):=stepR_inLoop;refine⟨e,a',w',V,?_⟩;have u:∀D,Steps P (lone (b.1.atR a<|.inLoop c::B) cs w) D->(D=lone (b.1.atR a<|.inLoop c::B) cs w)\/Steps P (lone (b.1.atR a<|.code c::.inLoop c::B) cs w) D:=by{rintro D ⟨j,E⟩;cases j with|zero=>simp[runN]at E;exact .inl E.symm|succ j=>{simp only[runN,W]at E;exact .inr ⟨j,E⟩}};have p:∀L M A,lone (b.1.atR L A) cs M=lone (b.1.atR a<|.inLoop c::B) cs w->A=.inLoop c::B:=by{intro L M A z;have:=af (λm:Machine=>(m.gs[0]?).map (·.frame.todo)) z;simpa[lone,Frame.atR]using this};cases e with|normal=>rcases u _ q with z|h';have:=p a' w' [] z;cases this;exact h'|ret=>obtain⟨A,x⟩:=q;rcases u _ x with z|h';have:=p _ _ _ z;cases this;exact⟨A,h'⟩|exit id=>obtain⟨A,H,x⟩:=q;rcases u _ x with z|h';have:=p _ _ _ z;cases this;exact⟨A,H,h'⟩|goto l=>obtain⟨A,H,x⟩:=q;rcases u _ x with z|h';have:=p _ _ _ z;cases this;exact⟨A,H,h'⟩|panic J=>obtain⟨C,x⟩:=q;rcases u _ x with z|h';have:=af (λm:Machine=>(m.gs[0]?).map λg=>match g.frame.mode with|.run=>true|_=>false) z;simp[lone,Frame.atR]at this;exact⟨C,h'⟩|outgrown=>{exact q.elim}
def Uf {id:Nat} (h:ek P n F Q k env st aa):ek P n F Q (.inBlock id::k) env st aa:=by intro b cs I μ a w p q u;obtain⟨z,rfl,x⟩:=mI q;exact Yd<|h b cs I μ a w _ x u
def mG (h:ek P n F Q k env st aa):ek P n F Q (.inScope c::k) env st aa:=by intro b cs I μ a w p q u;obtain⟨z,rfl,x⟩:=mH q;exact Yc<|h b cs I μ a w _ x u
def Aw {id:Nat} {k':S6} (q:NJ id k=some k') (h:ek P n F Q k' env st aa):ek P n F Q (.code (.exit id)::k) env st aa:=JP h λ_ _ _ _ _ _ _ u _=>let⟨p,x,z⟩:=J7 q u;⟨p,z,pG x⟩
def tI {id:Nat} {ops:L1 Oper} (h:ek P n F Q (.ops ops ops::k) env st aa):ek P n F Q (.code (.region id ⟨ops⟩ false)::k) env st aa:=JP h λ_ _ _ _ _ _ p q _=>⟨.inRegion ops.toArray (List.range' 0 ops.length)::p,⟨⟨rfl,0,rfl,rfl⟩,q⟩,λu=>LQ<|by simpa[Z5]using u⟩
def PP {all:L1 Oper} (h:ek P n F Q k env st aa):ek P n F Q (.ops all []::k) env st aa:=by intro b cs I μ a w p q u;obtain⟨j,z,rfl,_,x⟩:=KA q;exact GN<|h b cs I μ a w _ x u
def Aa {c:Operand} {x:Code} {t:Bool} (u:Fi env c=some (.Kp<|.bool t)) (z:t=true->ek P n F Q (.code x::k) env st aa) (A:t=false->ek P n F Q (.code y::k) env st aa):ek P n F Q (.code (.cond c x y)::k) env st aa:=by intro b cs I μ a w h B p;obtain⟨G,rfl,q⟩:=L3 B;have C:a.eval c=.bool t:=(eI u λD _ d E=>p.env D d E).Ks.jr;refine pI C ?_;cases t with|true=>exact z O b cs I μ a w _ ⟨rfl,q⟩ p|false=>{exact A O b cs I μ a w _ ⟨rfl,q⟩ p}
def Ag {c:Operand} {x:Code} {t:Bool} (p:Fi env c=some (.Kp<|.bool t)) (q:t=false->ek P n F Q (.code y::k) env st aa) (u:¬t=true:=by intro h;simp at h):ek P n F Q (.code (.cond c x y)::k) env st aa:=Aa p (λh=>absurd h u) q
def Ap {c:Operand} {x:Code} {t:Bool} (p:Fi env c=some (.Kp<|.bool t)) (q:t=true->ek P n F Q (.code x::k) env st aa) (u:¬t=false:=by intro h;simp at h):ek P n F Q (.code (.cond c x y)::k) env st aa:=Aa p q λh=>absurd h u
def Ah (h:Q .ret env st aa):ek P n F Q (.code .ret::k) env st aa:=by intro b cs I μ a w p q u;obtain⟨x,rfl,z⟩:=L3 q;exact zad ⟨.ret,env,st,aa,I,μ,ab,h,u,.refl _ _,.refl _ _ _ _,.refl _ _⟩
def Bq (h:Q .norm env st aa):ek P n F Q [] env st aa:=by intro b cs I μ a w p q u;cases p with|nil=>exact zae ⟨.norm,env,st,aa,I,μ,ab,h,u,.refl _ _,.refl _ _ _ _,.refl _ _⟩|cons=>{exact q.elim}
def Fm {all rest:L1 Oper} (h:o::rest=all.drop j):all.toArray[j]?=some o/\rest=all.drop (j+1):=by have p:(all.drop j)[0]?=some o:=by{rw[<- h];rfl};rw[F7]at p;refine⟨by simpa using p,?_⟩;have:=af List.tail h;simpa[List.tail_drop]using this
def Iw {I:TA} {μ:Mu} {w:World} {d:D} (A:∀t d,lk env t=some d->X I μ (a.tmps.getD t undef) d) (u:a.tmps.size=n) (B:∀t,dst=some t->t<n) (C:X I μ v d):(∀t p,lk (match dst with|some t=>(t,d)::env|none=>env) t=some p->X I μ ((a.put dst v).tmps.getD t undef) p)/\(a.put dst v).tmps.size=n/\(a.put dst v).defers=a.defers:=by cases dst with|none=>exact⟨A,u,rfl⟩|some t=>{refine⟨λq p h=>?_,by simp[Act.put,u],rfl⟩;have x:=B t O;by_cases z:t=q;subst z;simp only[A6]at h;cases h;have:((a.tmps.setIfInBounds t v)[t]?.getD undef)=v:=by{simp[u,x]};simpa[Act.put,this]using C;simp only[AC _ _ z]at h;have:=A q p h;have e:(a.tmps.setIfInBounds t v)[q]?=a.tmps[q]?:=by{rw[H2 z]};simpa[Act.put,e]using this}
def Cn (dst:Option Nat) (d:D) (env:Env):Env:=match dst with
 |some t=>(t,d)::env
 |none=>env
def zqo {all rest:L1 Oper} {d:D} (J:∀c,o.op≠.defer c) (r:YD P all o env st d) (s:∀t,o.dst=some t->t<n) (h:ek P n F Q (.ops all rest::k) (Cn o.dst d env) st aa):ek P n F Q (.ops all (o::rest)::k) env st aa:=by intro b cs I μ a w L y A;obtain⟨j,g,rfl,K,R⟩:=KA y;let⟨i,M⟩:=Fm K;have N:M8 (o.looksAt all.toArray) I μ env a:=λt _ d T=>A.env t d T;let⟨S,h2⟩:=r I μ aa a w A.toNo N;have cont:∀v w' q,No q μ st aa w'->X q μ v d->fi I μ st w q μ st w'->Reach P b.1 cs (lb n F Q a.defers I μ st w) (.inRegion all.toArray (List.range' (j+1) rest.length)::g) (a.put o.dst v) w':=by{intro v w' q x z u;let⟨p1,p2,l⟩:=Iw (n:=n) (w:=w') (dst:=o.dst) (λt d T=>(A.env t d T).mono u.Kp<|Mu.le_refl μ) A.size s z;have:=h b cs q μ (a.put o.dst v) w' (.inRegion all.toArray (List.range' (j+1) rest.length)::g) ⟨⟨rfl,j+1,M,rfl⟩,R⟩ {x with size:=p2,env:=by cases C:o.dst<;>simpa[Cn,C]using p1,defers:=by rw[l];exact A.defers.ext u };rw[l]at this;exact this.mono λe a' E hp=>hp.back (.refl _ _) u};have G:(o::rest).length=rest.length+1:=rfl;rw[G,OT];by_cases U:Region.wanted o (yielded all.toArray a.tmps)=true;have B:=S U;refine GF i U J ?_;unfold la at B;unfold Td;split at B;rename_i v w' p;rw[p];obtain⟨q,x,z,u⟩:=B;exact cont v w' q x z u;rename_i w' p;rw[p];obtain⟨q,x,z,u⟩:=B;exact cont _ w' q x z u;rename_i f m w' p;rw[p];refine bc B λe E V=>?_;cases e with|returned v=>obtain⟨q,x,z,u⟩:=V;exact cont v E q x z u|panicked W=>exact V.elim|outgrown=>{exact V.elim};exact B.elim;have H:Region.wanted o (yielded all.toArray a.tmps)=false:=by{simpa using U};exact LR i H<|cont undef w I A.toNo (h2 H) (fi.refl _ _ _ _)
def zqq {all rest:L1 Oper} {d:D} {au:St} (M:∀c,o.op≠.defer c) (r:ED P all o env st aa d au Kr) (s:∀t,o.dst=some t->t<n) (h:ek P n F Q (.ops all rest::k) (Cn o.dst d env) au Kr):ek P n F Q (.ops all (o::rest)::k) env st aa:=by intro b cs I μ a w N y G;obtain⟨j,i,rfl,K,R⟩:=KA y;let⟨S,T⟩:=Fm K;have U:M8 (o.looksAt all.toArray) I μ env a:=λt _ d V=>G.env t d V;let⟨hw,E⟩:=r I μ a w G.toNo U;have u:∀v w' x p,No x p au Kr w'->X x p v d->μ.le p->fi I μ st w x p au w'->Reach P b.1 cs (lb n F Q a.defers I μ st w) (.inRegion all.toArray (List.range' (j+1) rest.length)::i) (a.put o.dst v) w':=by{intro v w' x p B C A z;let⟨p1,p2,l⟩:=Iw (n:=n) (w:=w') (dst:=o.dst) (λt d V=>(G.env t d V).mono z.Kp A) G.size s C;have:=h b cs x p (a.put o.dst v) w' (.inRegion all.toArray (List.range' (j+1) rest.length)::i) ⟨⟨rfl,j+1,T,rfl⟩,R⟩ {B with size:=p2,env:=by cases H:o.dst<;>simpa[Cn,H]using p1,defers:=by rw[l];exact G.defers.ext z };rw[l]at this;exact this.mono λe a' J hp=>hp.back (.of_le A) z};have L:(o::rest).length=rest.length+1:=rfl;rw[L,OT];refine GF S hw M ?_;unfold la at E;unfold Td;split at E;rename_i v w' q;rw[q];obtain⟨x,p,B,C,z,A⟩:=E;exact u v w' x p B C z A;rename_i w' q;rw[q];obtain⟨x,p,B,C,z,A⟩:=E;exact u _ w' x p B C z A;rename_i f m w' q;rw[q];refine bc E λe J W=>?_;cases e with|returned v=>obtain⟨x,p,B,C,z,A⟩:=W;exact u v J x p B C z A|panicked g=>exact W.elim|outgrown=>{exact W.elim};exact E.elim
end
section
variable {Q:DQ} {B:TT} {env q:Env} {st au:St} {k:S6} {d:D}
def zdc {x:Operand} {f g:D->T0->EP} (h:Fy C env x f=.p d ob) (p:∀q o,f q o=.p d ob->g q o=.p d ob):Fy C env x g=.p d ob:=by unfold Fy at *;split at h;exact p _ _ h;exact p _ _ h;cases h
def znh {op:Op} (h:Jg B C env st op=.p d ob) (au:St):Jg B C env au op=.p d ob:=by cases op with|load t x=>simp only[Jg]at h ⊢;refine zdc h λE o p=>?_;split at p;split at p;split at p<;>cases p;split at p<;>cases p;cases p;exact p;cases p|unOp u t x=>cases u<;>exact h|slice t x G H m=>cases m<;>exact h|call c=>{rcases c with⟨A,⟨D⟩,⟨q⟩⟩;cases A with|builtin b=>(cases b<;>first|exact h|skip);(all_goals (rcases D with _|⟨x,_|⟨y,_|⟨z,r⟩⟩⟩<;>rcases q with _|⟨t,_|⟨t2,J⟩⟩<;>first|exact h|skip));simp only[Jg]at h ⊢;refine zdc h λE o p=>?_;split at p;exact p;exact p;exact p;exact p;exact p;split at p<;>cases p;cases p|_=>{exact h}}|_=>{exact h}
def AO {all:Array Oper} {tmps:Array Value} (h:o.guard=none):Region.wanted o (yielded all tmps)=true:=by simp[Region.wanted,h]
def R9 (p:dv P B) {all:L1 Oper} (A:o.guard=none) (h:G4 (Jg B True env st o.op)=some (d,ob)) (q:A8 ob):YD P all o env st d:=by intro I μ aa a w u x;refine⟨λ_=>zht p u (B3 x) ab h q,λz=>?_⟩;rw[AO A]at z;cases z
def Xv {I:TA} {μ:Mu} {all:L1 Oper} {C:Oper} {g:Nat} {c:Bool} (D:o.guard=some (j,w0)) (G:all[j]?=some C) (H:C.dst=some g) (p:x0 (lk env g) w0=some c) (J:∀t∈o.looksAt all.toArray,∀d,lk env t=some d->X I μ (a.tmps.getD t undef) d):Region.wanted o (yielded all.toArray a.tmps)=true↔c=w0:=by have z:g∈o.looksAt all.toArray:=by{unfold Oper.looksAt;refine AT.2<|.inr ?_;simp[D,G,H]};have A:∀b,a.tmps.getD g undef=.bool b->yielded all.toArray a.tmps j=some b:=by{intro b q;unfold yielded;have u:all.toArray[j]?=some C:=by{simpa using G};simp only[u,E8,H];have:a.tmps[g]?=some (.bool b):=by{cases E:a.tmps[g]? with|none=>simp[E,undef]at q|some v=>{simp[E]at q;rw[q]}};simp[this]};cases L:lk env g with|none=>rw[L]at p;cases p|some d=>{rw[L]at p;have M:=J g z _ L;unfold x0 at p;split at p;rename_i N e;cases e;cases p;have B:=A _ M.Ks.jr;simp[Region.wanted,D,B];rename_i N w' b e;cases e;cases p;generalize x:a.tmps.getD g undef=W at M;cases M with|guard _ _ _ _ T U=>{by_cases h:N=w';have q:=(T h).Ks.jr;have B:=A _<|x.trans q;subst h;simp[Region.wanted,D,B];have q:=U h;have B:yielded all.toArray a.tmps j=none:=by{unfold yielded;have u:all.toArray[j]?=some C:=by{simpa using G};simp only[u,E8,H];cases E:a.tmps[g]? with|none=>rfl|some v=>{simp[E]at x;rw[x,q];rfl}};have V:(N==w')=false:=by{simpa using h};simp[Region.wanted,D,B,V]};cases p}
def IP (z:dv P B) {all:L1 Oper} {D:Oper} {g:Nat} {c:Bool} (E:o.guard=some (j,w0)) (G:all[j]?=some D) (H:D.dst=some g) (J:x0 (lk env g) w0=some c) (h:G4 (Jg B (c=w0) env st o.op)=some (d,ob)) (A:A8 ob):YD P all o env st<|.guard c w0 d:=by intro I μ aa a w C q;have p:=Xv E G H J q;refine⟨λu=>?_,λu=>?_⟩;have x:=p.1 u;have:=zht z C (B3 q) x h A;exact this.mono λv w' ⟨L,M,N,T⟩=>⟨L,M,.guard _ _ _ _ (λ_=>N) λU=>absurd x U,T⟩;exact .guard _ _ _ _ (λx=>by rw[p.2 x]at u;cases u) λ_=>rfl
def cP {d:D} {rd p:Bool} (h:RR n dst d env (λenv=>.y rd env ob)=.y p q E):rd=p/\ob=E/\q=Cn dst d env/\∀t,dst=some t->t<n:=by unfold RR at h;split at h;rename_i t;split at h;rename_i B;simp only[S1.y.injEq]at h;obtain⟨u,x,z⟩:=h;exact⟨u,z,by rw[<- x];rfl,λC A=>by cases A;simpa[Kz]using B⟩;cases h;simp only[S1.y.injEq]at h;obtain⟨u,x,z⟩:=h;exact⟨u,z,by rw[<- x];rfl,λC A=>by cases A⟩
def zep {d:D} {s:St} {i:K1} (h:RR n dst d env (λenv=>.e env s i ob)=.e q au Kr E):s=au/\i=Kr/\ob=E/\q=Cn dst d env/\∀t,dst=some t->t<n:=by unfold RR at h;split at h;rename_i t;split at h;rename_i B;simp only[S1.e.injEq]at h;obtain⟨p,u,x,z⟩:=h;exact⟨u,x,z,by rw[<- p];rfl,λC A=>by cases A;simpa[Kz]using B⟩;cases h;simp only[S1.e.injEq]at h;obtain⟨p,u,x,z⟩:=h;exact⟨u,x,z,by rw[<- p];rfl,λC A=>by cases A⟩
def Km {d:D} {rd:Bool} {s:St} {i:K1}:RR n dst d env (λenv=>.y rd env ob)≠.e q s i E:=by unfold RR;split;split<;>simp;simp
def iG {d:D} {rd:Bool} {s:St} {i:K1}:RR n dst d env (λenv=>.e env s i ob)≠.y rd q E:=by unfold RR;split;split<;>simp;simp
def Ox {c:Call}:Jg B C env st (.defer c)=.no:=rfl
def aF {c:Call}:tA B env st aa (.defer c)=.no:=rfl
def UJ (u:dv P B) {all:L1 Oper} {rd:Bool} (h:Hz B n all o env st aa=.y rd q ob) (x:A8 ob):∃d,q=Cn o.dst d env/\(∀t,o.dst=some t->t<n)/\(∀c,o.op≠.defer c)/\YD P all o env st d/\(rd=false->∀au,YD P all o env au d):=by unfold Hz at h;split at h;rename_i z;split at h;rename_i d E p;obtain⟨rfl,rfl,A,C⟩:=cP h;exact⟨d,A,C,(λc D=>by rw[D,Ox]at p;cases p),R9 u z (by rw[p];rfl) x,λ_ au=>R9 u z (by rw[znh p au];rfl) x⟩;rename_i d E p;obtain⟨rfl,rfl,A,C⟩:=cP h;exact⟨d,A,C,(λc D=>by rw[D,Ox]at p;cases p),R9 u z (by rw[p];rfl) x,λH=>by cases H⟩;split at h;exact absurd h iG;cases h;rename_i j w0 z;split at h;rename_i g _ _ _ _ _ G;rw[Ih]at G;split at h;rename_i c J;split at h;rename_i d E p;obtain⟨rfl,rfl,A,C⟩:=cP h;exact⟨_,A,C,(λL D=>by rw[D,Ox]at p;cases p),IP u z G rfl J (by rw[p];rfl) x,λ_ au=>IP u z G O J (by rw[znh p au];rfl) x⟩;rename_i d E p;obtain⟨rfl,rfl,A,C⟩:=cP h;exact⟨_,A,C,(λL D=>by rw[D,Ox]at p;cases p),IP u z G rfl J (by rw[p];rfl) x,λH=>by cases H⟩;cases h;cases h;cases h
def zjt (p:dv P B) {all:L1 Oper} (h:Hz B n all o env st aa=.e q au Kr ob) (u:A8 ob):∃d,q=Cn o.dst d env/\(∀t,o.dst=some t->t<n)/\(∀c,o.op≠.defer c)/\ED P all o env st aa d au Kr:=by unfold Hz at h;split at h;rename_i C;split at h;exact absurd h Km;exact absurd h Km;split at h;rename_i d s i E x;obtain⟨rfl,rfl,rfl,D,G⟩:=zep h;refine⟨d,D,G,(λc H=>by rw[H,aF]at x;cases x),λI μ a w z A=>⟨AO C,?_⟩⟩;exact sZ p z (B3 A) x u;cases h;split at h;split at h;split at h;exact absurd h Km;exact absurd h Km;cases h;cases h;cases h
end
def Tw:Option D->L1 Nat
 |some (.ref id _)=>[id]
 |some (.cf id)=>[id]
 |some (.guard _ _ (.ref id _))=>[id]
 |some (.guard _ _ (.cf id))=>[id]
 |_=>[]
def VM (env:Env):Op->L1 Nat
 |.load _ x=>Tw (Fi env x)
 |.store _ x _=>Tw (Fi env x)
 |.call c=>match c.args.toList with
  |[x]=>Tw (Fi env x)
  |_=>[]
 |_=>[]
def jf (rd:L1 Nat) (st au:St):Prop:=∀i∈rd,lk au i=lk st i
section
variable {B:TT} {env q:Env} {st au:St} {d:D}
def YE {x:Operand} {f g:D->T0->EP} (h:∀p o,(Fi env x=some p\/∃c w,Fi env x=some (.guard c w p))->f p o=g p o):Fy C env x f=Fy C env x g:=by unfold Fy;split;rename_i c w d q;exact h _ _<|.inr ⟨c,w,q⟩;rename_i d u q;exact h _ _<|.inl q;rfl
def zX {x:Option D} {id:Nat} (h:x=some (.ref id off)\/∃c w,x=some (.guard c w<|.ref id off)):id∈Tw x:=by rcases h with h|⟨c,w,h⟩<;>simp[h,Tw]
def zY {x:Option D} {id:Nat} (h:x=some (.cf id)\/∃c w,x=some (.guard c w<|.cf id)):id∈Tw x:=by rcases h with h|⟨c,w,h⟩<;>simp[h,Tw]
def aD {op:Op} (h:jf (VM env op) st au):Jg B C env au op=Jg B C env st op:=by
 cases op with
 |load t x=>
  simp only[Jg];refine YE λE o G=>?_;cases E with
  |ref id off=>
   have H:=h id<|zX G;cases lk B t with
   |none=>rfl
   |some i=>simp only[H]
  |_=>cases lk B t<;>rfl
 |unOp u t x=>cases u<;>rfl
 |slice t x J L m=>cases m<;>rfl
 |call c=>
  rcases c with⟨q,⟨D⟩,⟨p⟩⟩
  cases q with
  |builtin b=>
   cases b<;>first|rfl|skip
   all_goals (rcases D with _|⟨x,_|⟨y,_|⟨z,r⟩⟩⟩<;>rcases p with _|⟨t,_|⟨t2,M⟩⟩<;>first|rfl|skip)
   simp only[Jg];refine YE λE o G=>?_;cases E with
   |cf id=>
    have H:=h id<|zY G;cases lk B t with
    |none=>rfl
    |some i=>rcases i with⟨A,_,_,_,_⟩;cases A<;>first|rfl|simp only[H]
   |Kp v=>cases v<;>(cases lk B t with
    |none=>rfl
    |some i=>rcases i with⟨A,_,_,_,_⟩;cases A<;>rfl)
   |eR v=>cases v<;>(cases lk B t with
    |none=>rfl
    |some i=>rcases i with⟨A,_,_,_,_⟩;cases A<;>rfl)
   |_=>cases lk B t with
    |none=>rfl
    |some i=>rcases i with⟨A,_,_,_,_⟩;cases A<;>rfl
  |_=>rfl
 |_=>rfl
def aE {op:Op} (h:tA B env st aa op=.e d au Kr ob):∃(fr:K1) (wr:St),aa=fr++Kr/\au=wr++st/\(∀i∈wr.map (·.1),i∈fr\/i∈VM env op)/\∀a7 q,jf (VM env op) st a7->tA B env a7 (fr++q) op=.e d (wr++a7) q ob:=by cases op with|box t x=>simp only[tA,Tc]at h ⊢;split at h;cases h;rename_i d0 N a;split at h;rename_i i id H A;split at h<;>simp only[EE.e.injEq,reduceCtorEq]at h;rename_i T E U;obtain⟨rfl,rfl,rfl,rfl⟩:=h;exact⟨[id],[(id,some T)],rfl,rfl,by simp,λa7 q _=>by simp[a,A,U]⟩;cases h;cases h|alloc t=>simp only[tA]at h ⊢;split at h;rename_i i id H A;split at h<;>simp only[EE.e.injEq,reduceCtorEq]at h;rename_i U;obtain⟨rfl,rfl,rfl,rfl⟩:=h;exact⟨[id],[(id,_)],rfl,rfl,by simp,λa7 q _=>by simp[A,U]⟩;cases h|store t p x=>simp only[tA]at h ⊢;unfold Tc at h ⊢;split at h;cases h;rename_i f N J;split at h;cases h;rename_i g W M;dsimp only at h ⊢;split at h;rename_i id off i A;have u:id∈VM env (.store t p x):=by{simp[VM,J,Tw]};split at h;rename_i b sz j L;split at h;rename_i c V;simp only[EE.e.injEq]at h;obtain⟨rfl,rfl,rfl,rfl⟩:=h;exact⟨[],[(id,_)],rfl,rfl,by simpa using u,λa7 q z=>by simp[J,M,A,z id u,L,V]⟩;rename_i d0 e;split at h;rename_i cs C;split at h<;>simp only[EE.e.injEq,reduceCtorEq]at h;rename_i l D G;obtain⟨rfl,rfl,rfl,rfl⟩:=h;exact⟨[],[(id,_)],rfl,rfl,by simpa using u,λa7 q z=>by simp[J,M,A,z id u,L,C,D,G]⟩;cases h;rename_i b sz ds L;split at h;rename_i c V;simp only[EE.e.injEq]at h;obtain⟨rfl,rfl,rfl,rfl⟩:=h;exact⟨[],[(id,_)],rfl,rfl,by simpa using u,λa7 q z=>by simp[J,M,A,z id u,L,V]⟩;split at h;rename_i cs C;split at h<;>simp only[EE.e.injEq,reduceCtorEq]at h;rename_i l D G;obtain⟨rfl,rfl,rfl,rfl⟩:=h;exact⟨[],[(id,_)],rfl,rfl,by simpa using u,λa7 q z=>by simp[J,M,A,z id u,L,C,D,G]⟩;cases h;cases h;cases h;cases h;cases h|_=>{simp[tA]at h}
end
def hG (P:Program) (r:Result Next) (K:Value->World->Prop) (z:L1 PanicEntry->World->Prop):Prop :=
 match r with
 |.ok (.value v) w=>K v w
 |.ok .skip w=>K undef w
 |.ok (.enter f q) w=>Calls P f q w λe w'=>match e with
  |.returned v=>K v w'
  |.panicked h=>z h w'
  |.outgrown=>False
 |.ok (.round l f u p x) w=>RoundIn Fence.wide 0 P l f u p x w λe w'=>match e with
  |.returned v=>K v w'
  |.panicked h=>z h w'
  |.outgrown=>False
 |.halt (.panic v) w=>z [{ v,recovered:=false }] w
 |_=>False
def la.x {q:L1 PanicEntry->World->Prop} (h:la P r K):hG P r K q:=by unfold la at h;unfold hG;split at h;exact h;exact h;{exact bc h (λe w' p=>by cases e<;>first|exact p|exact p.elim)};exact h.elim
def hG.mono {z q:L1 PanicEntry->World->Prop} (u:∀v w,K v w->K' v w) (x:∀c w,z c w->q c w) (h:hG P r K z):hG P r K' q:=by unfold hG at *;split at h;exact u _ _ h;exact u _ _ h;{exact bc h (λe w' p=>by cases e<;>first|exact u _ _ p|exact x _ _ p|exact p)};{exact RoundIn.mono h (λe w' p=>by cases e<;>first|exact u _ _ p|exact x _ _ p|exact p)};exact x _ _ h;exact h.elim
def hG.upon {next:Act->World->Prop} {ix:L1 PanicEntry->World->Prop} (h:hG P r (λv w=>next (a.put o.dst v) w) ix):Td P o a next ix r:=by unfold hG at h;unfold Td;split at h;exact h;exact h;exact h;exact h;exact h;exact h.elim
def OF (Pn:V->Prop) (I:TA) (μ:Mu) (st:St) (w:World) (h:L1 PanicEntry) (w':World):Prop :=
 ∃v x p,h=[{ v,recovered:=false }]/\Pn x/\PB p v x/\p.ok w'/\fi I μ st w p μ [] w'
def LD (P:Program) (Pn:V->Prop) (all:L1 Oper) (o:Oper) (env:Env) (st:St) (rd fr:L1 Nat) (wr:St) (d:D):Prop :=
 ∀I μ h q a w,jf rd st h->No I μ h (fr++q) w->M8 (o.looksAt all.toArray) I μ env a ->
  (Region.wanted o (yielded all.toArray a.tmps)=true ->
   hG P ((execOp a.eval o).run P w) (λv w'=>∃u p,No u p (wr++h) q w'/\X u p v d/\μ.le p/\fi I μ h w u p (wr++h) w') (OF Pn I μ h w)) /\
  (Region.wanted o (yielded all.toArray a.tmps)=false->wr=[]/\fr=[]/\X I μ undef d)
structure qc where
 rd:List Nat
 fr:List Nat
 wr:St
 d:D
structure OI where
 dst:Option Nat
 looks:List Nat
 rd:List Nat
 wr:List Nat
def F6:L1 Nat->Nat->Bool
 |[],_=>false
 |x::r,t=>bif Nat.beq x t then true else F6 r t
def Rl:L1 Nat->L1 Nat->Bool
 |[],_=>true
 |x::r,l=>bif F6 l x then false else Rl r l
def SK (d:Option Nat) (l:L1 Nat):Bool:=match d with
 |some t=>!F6 l t
 |none=>true
def uE (x y:OI):Bool :=
 SK x.dst y.looks&&SK y.dst x.looks&&SK x.dst (match y.dst with|some t=>[t]|none=>[]) &&
 Rl x.wr y.rd&&Rl y.wr x.rd&&Rl x.wr y.wr
def Ph (e:Edge):Bool:=match e.ground with
 |.textOnly _=>false
 |.gcOnly _=>false
 |_=>true
def Se (h:L1 Nat):L1 Edge->Nat->Nat
 |[],m=>m
 |e::p,m=>Se h p<|bif Ph e then Nat.lor (Nat.lor m<|2 ^ e.on) (match PZ h e.on with|some k=>k|none=>0)else m
def US (i:Nat):L1 Edge->Bool
 |[]=>true
 |e::h=>(!Ph e||Nat.blt e.on i)&&US i h
def O5 (m:Nat) (x:OI):L1 OI->Nat->Bool
 |[],_=>true
 |y::r,i=>(Nat.testBit m i||uE y x)&&O5 m x r (i+1)
def O6:L1 Oper->L1 OI->Nat->L1 Nat->L1 OI->Bool
 |o::q,x::u,i,p,h=>
  let m:=Se p o.after.toList 0
  US i o.after.toList&&O5 m x h 0&&O6 q u (i+1) (p++[m]) (h++[x])
 |[],[],_,_,_=>true
 |_,_,_,_,_=>false
def Sp (all:Array Oper) (o:Oper) (s:L1 Nat×L1 Nat):OI:={ dst:=o.dst,looks:=o.looksAt all,rd:=s.1,wr:=s.2 }
def kM (all:Array Oper):L1 Oper->L1 (L1 Nat×L1 Nat)->L1 OI
 |o::h,s::p=>Sp all o s::kM all h p
 |_,_=>[]
def Rw (all:L1 Oper) (fs:L1<|L1 Nat×L1 Nat):Bool:=O6 all (kM all.toArray all fs) 0 [] []&&Nat.beq fs.length all.length
def bf:=@cond_false
def BK {l:K1} {t:Nat}:F6 l t=true↔t∈l:=by induction l with|nil=>simp[F6]|cons x r q=>{simp only[F6,Cu];cases p:Nat.beq x t with|true=>simp[Dm p]|false=>{have:x≠t:=λe=>by{subst e;simp at p};simp only[bf,q];constructor;exact .inr;rintro (h|h);exact absurd h.symm this;exact h}}
def O0 {a b:K1}:Rl a b=true↔∀x∈a,x∉b:=by induction a with|nil=>simp[Rl]|cons x r q=>{simp only[Rl];cases p:F6 b x with|true=>have:=BK.1 p;simp[this]|false=>{have:x∉b:=λh=>by{rw[BK.2 h]at p;cases p};simp only[bf,q,Cu,forall_eq_or_imp];exact⟨λh=>⟨this,h⟩,λh=>h.2⟩}}
abbrev g6:=Option Nat
def PN {d:g6} {l:K1}:SK d l=true↔∀t,d=some t->t∉l:=by cases d with|none=>simp[SK]|some t=>{simp only[SK,KN,Co,forall_eq'];constructor;intro h p;rw[BK.2 p]at h;cases h;intro h;cases p:F6 l t with|true=>exact absurd (BK.1 p) h|false=>{rfl}}
structure iy (x y:OI):Prop where
 a:∀t,x.dst=some t->t∉y.looks
 b:∀t,y.dst=some t->t∉x.looks
 c:∀t,x.dst=some t->y.dst≠some t
 d:∀i∈x.wr,i∉y.rd
 e:∀i∈y.wr,i∉x.rd
 f:∀i∈x.wr,i∉y.wr
def iy.symm {x y:OI} (h:iy x y):iy y x:=⟨h.b,h.a,λt p q=>h.c t q p,h.e,h.d,λi p q=>h.f i q p⟩
def nD {x y:OI} (h:uE x y=true):iy x y:=by simp only[uE,Am]at h;obtain⟨⟨⟨⟨⟨p,q⟩,u⟩,z⟩,A⟩,B⟩:=h;refine⟨PN.1 p,PN.1 q,λt C D=>?_,O0.1 z,O0.1 A,O0.1 B⟩;exact PN.1 u t C (by simp[D])
def aL {e:Edge}:Ph e=Region.binds .any e:=by rcases e with⟨h,g⟩;cases g<;>simp[Ph,Region.binds]<;>rfl
def JX (all:L1 Oper) (S:Nat->Bool):Prop:=∀j o,all[j]?=some o->S j=true->∀e∈o.after.toList,Ph e=true->S e.on=true
def az:=@cond_true
def TI {p:K1} {S:Nat->Bool} (q:∀k m i,PZ p k=some m->m.testBit i=true->S k=true->S i=true):∀(es:L1 Edge) (m:Nat) (i:Nat),(∀e∈es,Ph e=true->S e.on=true)->(Se p es m).testBit i=true->m.testBit i=true\/S i=true
 |[],m,i,_,h=>.inl h
 |e::es,m,i,B,h=>by simp only[Se]at h;rcases TI q es _ i (λC x=>B C<|H4 _ x) h with h1|h1;cases z:Ph e with|false=>simp only[z,bf]at h1;exact .inl h1|true=>{have u:=B e (by simp) z;simp only[z,az]at h1;have nw:((m ||| 2 ^ e.on) ||| (match PZ p e.on with|some k=>k|none=>0)).testBit i=true:=h1;rw[Nat.testBit_or,Nat.testBit_or,EJ,EJ,Nat.testBit_two_pow]at nw;rcases nw with(nw|nw)|nw;exact .inl nw;have:e.on=i:=by{simpa using nw};exact .inr<|this▸u;cases A:PZ p e.on with|none=>simp[A]at nw|some k=>{simp only[A]at nw;exact .inr<|q _ _ _ A nw u}};exact .inr h1
def NO {m:Nat} {x:OI}:∀{q:L1 OI} {i:Nat},O5 m x q i=true->∀k y,q[k]?=some y->Nat.testBit m (i+k)=true\/iy y x
 |[],_,_,k,y,u=>by simp at u
 |p::r,i,h,k,y,u=>by simp only[O5,Am,EJ]at h;cases k with|zero=>simp at u;subst u;exact h.1.imp id nD|succ k=>{have:=NO h.2 k y (by simpa using u);rwa [show i+1+k=i+(k+1) by omega]at this}
def Ri {i:Nat}:∀{es:L1 Edge},US i es=true->∀e∈es,Ph e=true->e.on<i
 |[],_,e,he=>by simp at he
 |e'::es,h,e,he=>by simp only[US,Am,EJ,KN]at h;rcases Cu.1 he with rfl|he;intro p;rcases h.1 with h1|h1;rw[h1]at p;cases p;rwa [Kz]at h1;exact Ri h.2 e he
def VY {p:K1} {k v:Nat} (h:PZ (p++[m]) k=some v):PZ p k=some v\/(k=p.length/\v=m):=by rw[Ih]at h ⊢;rw[PH]at h;split at h;exact .inl h;rename_i u;right;cases q:k-p.length with|zero=>rw[q]at h;simp at h;exact⟨by omega,h.symm⟩|succ j=>{rw[q]at h;simp at h}
def Rv {all:L1 Oper} {S:Nat->Bool} (V:JX all S):∀(os:L1 Oper) (xs:L1 OI) (i:Nat) (u:K1) (q:L1 OI),O6 os xs i u q=true->os=all.drop i->q.length=i->u.length=i->(∀k m j,PZ u k=some m->m.testBit j=true->S k=true->S j=true)->(∀j o,os[j]?=some o->∀e∈o.after.toList,Ph e=true->e.on<i+j)/\(∀j x,xs[j]?=some x->S (i+j)=true->(∀k y,q[k]?=some y->S k=false->iy y x)/\(∀k y,k<j->xs[k]?=some y->S (i+k)=false->iy y x))
 |[],[],_,_,_,_,_,_,_,_=>⟨λj o h=>by simp at h,λj x h=>by simp at h⟩
 |[],_::_,_,_,_,h,_,_,_,_=>by simp[O6]at h
 |_::_,[],_,_,_,h,_,_,_,_=>by simp[O6]at h
 |o::os,x::xs,i,u,q,h,E,W,G,A=>by simp only[O6,Am]at h;obtain⟨⟨c,d⟩,f⟩:=h;have g:all[i]?=some o:=by{have:(all.drop i)[0]?=some o:=by{rw[<- E];rfl};rw[F7]at this;simpa using this};have H:os=all.drop (i+1):=by{have:=af List.tail E;simpa[List.tail_drop]using this};have a:∀j,(Se u o.after.toList 0).testBit j=true->S i=true->S j=true:=by{intro j z N;rcases TI A o.after.toList 0 j (λe L M=>V i o g N e L M) z with h|h;simp at h;exact h};have C:∀k m j,PZ (u++[Se u o.after.toList 0]) k=some m->m.testBit j=true->S k=true->S j=true:=by{intro k m j B z p;rcases VY B with h|⟨rfl,rfl⟩;exact A k m j h z p;rw[G]at p;exact a j z p};let⟨l,n⟩:=Rv V os xs (i+1) _ _ f H (by simp[W]) (by simp[G]) C;refine⟨λj r z e L M=>?_,λj s z T=>?_⟩;cases j with|zero=>simp at z;subst z;exact Ri c e L M|succ j=>{have:=l j r (by simpa using z) e L M;omega};cases j with|zero=>simp at z;subst z;refine⟨λk y B p=>?_,λk y B=>by omega⟩;rcases NO d k y B with h|h;have:=a _ h (by simpa using T);simp at this;rw[this]at p;cases p;exact h|succ j=>{have J:S (i+1+j)=true:=by{rwa [show i+1+j=i+(j+1) by omega]};let⟨b,t⟩:=n j s (by simpa using z) J;refine⟨λk y B p=>?_,λk y B D p=>?_⟩;have U:k<q.length:=(A9.1 B).1;exact b k y (by rw[M2 U];exact B) p;cases k with|zero=>simp at D;subst D;exact b i x (by rw[Ky<|by omega];simp[W]) (by simpa using p)|succ k=>{exact t k y (by omega) (by simpa using D)<|by rwa [show i+1+k=i+(k+1) by omega]}}
section
variable {Q:DQ} {all:L1 Oper} {env q:Env} {st au:St} {k:S6} {Pn:V->Prop}
def In (h:∀i,lk st i=lk au i) {id:Nat} {SB:fp}:A2 st id SB↔A2 au id SB:=by unfold A2;rw[h]
def IC (h:∀i,lk st i=lk au i) {μ:Mu}:Ba μ st b↔Ba μ au b:=by unfold Ba;constructor<;>rintro ⟨id,p,g,q,u⟩;exact⟨id,p,g,(In h).1 q,u⟩;exact⟨id,p,g,(In h).2 q,u⟩
def No.congr {I:TA} {μ:Mu} (p:No I μ st aa w) (h:∀i,lk st i=lk au i):No I μ au aa w:={Kp:=p.Kp,SB:=λid SB q=>p.SB id SB<|(In h).2 q,apart:=λid SB g b q=>p.apart id SB g b<|(In h).2 q,inj:=λi j u x z A b B C=>p.inj i j u x z A b ((In h).2 B)<|(In h).2 C,nodup:=p.nodup,PA:=p.PA }
def No.perm {I:TA} {μ:Mu} (p:No I μ st aa w) (h:aa.Perm Kr):No I μ st Kr w:={p with nodup:=h.nodup_iff.1 p.nodup,PA:=λi q=>p.PA i (h.mem_iff.2 q) }
def fi.congr {I J:TA} {μ ν:Mu} {a7 p:St} (h:fi I μ st w J ν au w') (x:∀i,lk st i=lk a7 i) (A:∀i,lk au i=lk p i):fi I μ a7 w J ν p w':={h with block:=λb q u=>h.block b q λz=>u<|(IC x).1 z,fresh:=λb q u=>(IC x).1 (h.fresh b q<|(IC A).2 u),gz:=λb q u=>h.gz b q (λz=>u<|(IC x).1 z) }
def fz.congr {I:TA} {μ:Mu} {a7:St} (h:fz I μ st w ds) (u:∀i,lk st i=lk a7 i):fz I μ a7 w ds:=by obtain⟨x,z,A,p⟩:=h;exact⟨x,z,A,λr q=>⟨(p r q).1,(p r q).2.1,λB=>(p r q).2.2 ((IC u).2 B)⟩⟩
def NN {I:TA} {μ:Mu} (hI:I.ok w) (hs:a.tmps.size=n) (hd:fz I μ [] w a.defers):ij n I μ [] [] [] a w where
 Kp:=hI
 SB:=λ_ _ h=>by simp[A2,lk]at h
 apart:=λ_ _ _ _ h=>by simp[A2,lk]at h
 inj:=λ_ _ _ _ _ _ _ h=>by simp[A2,lk]at h
 nodup:=.nil
 PA:=λ_ h=>by simp at h
 size:=hs
 env:=λ_ _ h=>by simp[lk]at h
 defers:=hd
def PY (P:Program) (Pn:V->Prop) (n:Nat) (all:L1 Oper):L1 Oper->L1 qc->Env->St->Prop
 |[],[],_,_=>True
 |o::h,s::p,env,st=>LD P Pn all o env st s.rd s.fr s.wr s.d/\(∀t,o.dst=some t->t<n)/\(∀c,o.op≠.defer c)/\PY P Pn n all h p (Cn o.dst s.d env) (s.wr++st)
 |_,_,_,_=>False
def Ew (S:Nat->Bool):L1 Oper->L1 qc->Nat->Env->Env
 |o::h,s::p,i,env=>Ew S h p (i+1) (bif S i then Cn o.dst s.d env else env)
 |_,_,_,env=>env
def GD (S:Nat->Bool):L1 qc->Nat->St->St
 |s::h,i,st=>GD S h (i+1) (bif S i then s.wr++st else st)
 |[],_,st=>st
def H7 (S:Nat->Bool):L1 qc->Nat->L1 Nat->L1 Nat
 |s::h,i,l=>(bif S i then[]else s.fr)++H7 S h (i+1) l
 |[],_,l=>l
def W4 {d:D} {t:Nat} (h:dst≠some t):lk (Cn dst d env) t=lk env t:=by cases dst with|none=>rfl|some s=>{exact AC _ _ λe=>h<|by rw[e]}
def Me {d:D} {t:Nat} (h:dst=some t):lk (Cn dst d env) t=some d:=by subst h;exact A6 _ _ _
def ge:=@not_or
def Ll:∀{wr:St} {i:Nat},i∉wr.map (·.1)->lk (wr++st) i=lk st i
 |[],_,_=>rfl
 |(k,x)::r,i,h=>by simp only[CK,Cu,ge]at h;rw[DV,AC _ _ λe=>h.1 e.symm];exact Ll h.2
def GZ:∀{wr:St} {i:Nat},i∈wr.map (·.1)->lk (wr++st) i=lk wr i
 |[],_,h=>by simp at h
 |(k,x)::r,i,h=>by by_cases p:k=i;subst p;rw[DV,A6,A6];rw[DV,AC _ _ p,AC _ _ p];simp only[CK,Cu]at h;exact GZ<|h.resolve_left λe=>p e.symm
abbrev c6:=L1 qc
def IJ {S S':Nat->Bool} {t:Nat}:∀(os:L1 Oper) (p:c6) (i:Nat) (env q:Env),lk env t=lk q t->(∀j o,os[j]?=some o->o.dst=some t->S (i+j)=S' (i+j))->lk (Ew S os p i env) t=lk (Ew S' os p i q) t
 |[],p,i,env,q,h,_=>by cases p<;>simpa[Ew]using h
 |o::os,[],i,env,q,h,_=>by simpa[Ew]using h
 |o::os,s::p,i,env,q,h,x=>by simp only[Ew];refine IJ os p (i+1) _ _ ?_ λj A B u=>by{have:=x (j+1) A (by simpa using B) u;rwa [show i+1+j=i+(j+1) by omega]};by_cases u:o.dst=some t;have:=x 0 o O u;simp only[Jd]at this;rw[this];cases S' i with|true=>simp[Me u]|false=>{simpa using h};have z:∀(c:Bool) (e:Env),lk (bif c then Cn o.dst s.d e else e) t=lk e t:=λc e=>by{cases c<;>simp[W4 u]};rw[z,z,h]
def JE {S S':Nat->Bool} {t:Nat}:∀(p:c6) (i:Nat) (st au:St),lk st t=lk au t->(∀j s,p[j]?=some s->t∈s.wr.map (·.1)->S (i+j)=S' (i+j))->lk (GD S p i st) t=lk (GD S' p i au) t
 |[],i,st,au,h,_=>by simpa[GD]using h
 |s::p,i,st,au,h,u=>by simp only[GD];refine JE p (i+1) _ _ ?_ λj z A q=>by{have:=u (j+1) z (by simpa using A) q;rwa [show i+1+j=i+(j+1) by omega]};by_cases q:t∈s.wr.map (·.1);have:=u 0 s O q;simp only[Jd]at this;rw[this];cases S' i with|true=>simp[GZ q]|false=>{simpa using h};have x:∀(c:Bool) (e:St),lk (bif c then s.wr++e else e) t=lk e t:=λc e=>by{cases c<;>simp[Ll q]};rw[x,x,h]
def Mq {S:Nat->Bool}:∀(os:L1 Oper) (p:c6) (i:Nat) (env:Env),(∀j,i<=j->S j=false)->Ew S os p i env=env
 |[],p,i,env,_=>by cases p<;>rfl
 |o::os,[],i,env,_=>rfl
 |o::os,s::p,i,env,h=>by simp only[Ew,h i<|B6 i,bf];exact Mq os p (i+1) env λj q=>h j (by omega)
def KY {S:Nat->Bool}:∀(p:c6) (i:Nat) (st:St),(∀j,i<=j->S j=false)->GD S p i st=st
 |[],i,st,_=>rfl
 |s::p,i,st,h=>by simp only[GD,h i<|B6 i,bf];exact KY p (i+1) st λj q=>h j (by omega)
def aI {S:Nat->Bool} {t:Nat}:∀(os:L1 Oper) (p:c6) (k:Nat) (env:Env) (i:Nat) (o:Oper) (s:qc),os[i]?=some o->p[i]?=some s->o.dst=some t->S (k+i)=true->(∀j x,i<j->os[j]?=some x->x.dst=some t->S (k+j)=false)->lk (Ew S os p k env) t=some s.d
 |[],p,k,env,i,o,s,h,_,_,_,_=>by simp at h
 |o1::os,[],k,env,i,o,s,_,h,_,_,_=>by simp at h
 |o1::os,B::p,k,env,0,o,s,z,A,C,D,q=>by simp at z A;subst z;subst A;simp only[Ew];have:=IJ (S:=S) (S':=λ_=>false) (t:=t) os p (k+1) (bif S k then Cn o1.dst B.d env else env) (bif S k then Cn o1.dst B.d env else env) O λj x G u=>by{have:=q (j+1) x (by omega) (by simpa using G) u;rwa [show k+1+j=k+(j+1) by omega]};rw[this,Mq _ _ _ _ λ_ _=>rfl];simp only[Jd]at D;simp[D,Me C]
 |o1::os,B::p,k,env,i+1,o,s,z,A,C,D,q=>by simp only[Ew];exact aI os p (k+1) _ i o s (by simpa using z) (by simpa using A) C (by rwa [show k+1+i=k+(i+1) by omega]) λj x G E u=>by{have:=q (j+1) x (by omega) (by simpa using E) u;rwa [show k+1+j=k+(j+1) by omega]}
def fY {S:Nat->Bool} {t:Nat}:∀(p:c6) (k:Nat) (st:St) (i:Nat) (s:qc),p[i]?=some s->t∈s.wr.map (·.1)->S (k+i)=true->(∀j D,i<j->p[j]?=some D->t∈D.wr.map (·.1)->S (k+j)=false)->lk (GD S p k st) t=lk s.wr t
 |[],k,st,i,s,h,_,_,_=>by simp at h
 |s1::p,k,st,0,s,x,z,A,q=>by simp at x;subst x;simp only[GD];have:=JE (S:=S) (S':=λ_=>false) (t:=t) p (k+1) (bif S k then s1.wr++st else st) (bif S k then s1.wr++st else st) O λj B E u=>by{have:=q (j+1) B (by omega) (by simpa using E) u;rwa [show k+1+j=k+(j+1) by omega]};rw[this,KY _ _ _ λ_ _=>rfl];simp only[Jd]at A;simp only[A,az];exact GZ z
 |s1::p,k,st,i+1,s,x,z,A,q=>by simp only[GD];exact fY p (k+1) _ i s (by simpa using x) z (by rwa [show k+1+i=k+(i+1) by omega]) λj B E C u=>by{have:=q (j+1) B (by omega) (by simpa using C) u;rwa [show k+1+j=k+(j+1) by omega]}
def WP {S S':Nat->Bool}:∀(p:c6) (k:Nat) (l:K1) (i:Nat) (s:qc),p[i]?=some s->S (k+i)=false->S' (k+i)=true->(∀j,j≠k+i->S' j=S j)->(H7 S p k l).Perm (s.fr++H7 S' p k l)
 |[],k,l,i,s,h,_,_,_=>by simp at h
 |s1::p,k,l,0,s,x,z,u,q=>by simp at x;subst x;simp only[Jd]at z u q;simp only[H7,z,u,bf,az,JJ];have:∀(p:c6) (j:Nat),k<j->H7 S p j l=H7 S' p j l:=by{intro p;induction p with|nil=>intro j _;rfl|cons s p A=>{intro j B;simp only[H7,q j<|by omega,A (j+1)<|by omega]}};rw[this p (k+1)<|by omega]
 |s1::p,k,l,i+1,s,x,z,u,q=>by simp only[H7,q k<|by omega];have:=WP (S:=S) (S':=S') p (k+1) l i s (by simpa using x) (by rwa [show k+1+i=k+(i+1) by omega]) (by rwa [show k+1+i=k+(i+1) by omega]) λj B=>q j (by omega);exact(List.Perm.append_left _ this).trans (by{rw[<- CV,<- CV];exact List.Perm.append_right _ List.perm_append_comm})
def mS:∀(os:L1 Oper) (p:c6) (k:Nat) (env:Env) (st:St),PY P Pn n all os p env st->∀(i:Nat) (o:Oper),os[i]?=some o->∃s,p[i]?=some s/\LD P Pn all o (Ew (λj=>decide (j<k+i)) os p k env) (GD (λj=>decide (j<k+i)) p k st) s.rd s.fr s.wr s.d/\(∀t,o.dst=some t->t<n)/\(∀c,o.op≠.defer c)
 |[],_,_,_,_,_,i,o,h=>by simp at h
 |o1::os,[],_,_,_,h,_,_,_=>by simp[PY]at h
 |o1::os,u::p,k,env,st,h,0,o,q=>by simp at q;subst q;obtain⟨z,A,B,_⟩:=h;refine⟨u,rfl,?_,A,B⟩;rw[Mq _ _ _ _ (λj C=>by simp;omega),KY _ _ _ (λj C=>by simp;omega)];exact z
 |o1::os,u::p,k,env,st,h,i+1,o,q=>by obtain⟨_,_,_,D⟩:=h;let⟨s,E,x,G⟩:=mS os p (k+1) _ _ D i o (by simpa using q);refine⟨s,by simpa using E,?_,G⟩;have e:k+1+i=k+(i+1):=by{omega};have H:decide (k<k+(i+1))=true:=by{simp};rw[e]at x;simp only[Ew,GD,H,az];exact x
def Rx:∀(os:L1 Oper) (p:c6) (env:Env) (st:St),PY P Pn n all os p env st->p.length=os.length
 |[],[],_,_,_=>rfl
 |[],_::_,_,_,h=>by simp[PY]at h
 |_::_,[],_,_,h=>by simp[PY]at h
 |_::os,_::p,_,_,h=>by simp[Rx os p _ _ h.2.2.2]
def WI {A:Array Oper}:∀{os:L1 Oper} {fs:L1<|K1×K1} {i:Nat} {o:Oper} {f:K1×K1},os[i]?=some o->fs[i]?=some f->(kM A os fs)[i]?=some (Sp A o f)
 |[],_,i,o,f,h,_=>by simp at h
 |_::_,[],i,o,f,_,h=>by simp at h
 |_::_,_::_,0,o,f,p,q=>by simp at p q;simp[kM,p,q]
 |_::os,_::fs,i+1,o,f,p,q=>by simp only[kM,Nm];exact WI (by simpa using p) (by simpa using q)
def fH (S:Nat->Bool):Nat->Nat
 |0=>0
 |m+1=>fH S m+(bif S m then 0 else 1)
def mM {S:Nat->Bool}:∀{m:Nat},fH S m=0->∀j,j<m->S j=true
 |0,_,j,h=>by omega
 |m+1,h,j,p=>by simp only[fH,Nat.add_eq_zero_iff]at h;rcases zf4.1 p with q|rfl;exact mM h.1 j q;cases u:S j with|true=>rfl|false=>{simp[u]at h}
def mN {S S':Nat->Bool}:∀{m:Nat},(∀j,j<m->S' j=S j)->fH S' m=fH S m
 |0,_=>rfl
 |m+1,h=>by have:=mN (S:=S) (S':=S') (m:=m) λj p=>h j (by omega);simp only[fH,h m<|by omega,this]
def yA {S S':Nat->Bool} {i:Nat} (q:S i=false) (u:S' i=true) (p:∀j,j≠i->S' j=S j):∀{m:Nat},i<m->fH S' m+1=fH S m
 |0,h=>by omega
 |m+1,h=>by rcases zf4.1 h with x|rfl;have:=yA q u p x;simp only[fH,p m<|by omega];omega;have:=mN (S:=S) (S':=S') (m:=i) λj z=>p j (by omega);simp only[fH,q,u,bf,az];omega
def KP (s:qc):L1 Nat×L1 Nat:=(s.rd,s.wr.map (·.1))
def oo:Nat->Bool:=λ_=>true
def OE (Q:DQ) (x:V):Prop:=Q (.panic x) [] [] []
def DD (P:Program) (n:Nat) (F:L1 Nat) (Q:DQ) (all rest:L1 Oper) (fs:L1<|L1 Nat×L1 Nat) (k:L1 DI) (env:Env) (st:St) (aa:L1 Nat):Prop :=
 ∃p h,aa=H7 (λ_=>false) p 0 h/\PY P (OE Q) n all rest p env st/\Rw all (fs++p.map KP)=true/\ek P n F Q k (Ew oo rest p 0 env) (GD oo p 0 st) h
def Qc {S S':Nat->Bool}:∀(os:L1 Oper) (p:c6) (i j:Nat) (env:Env) (st:St) (l:K1),(∀m,S (i+m)=S' (j+m))->Ew S os p i env=Ew S' os p j env/\GD S p i st=GD S' p j st/\H7 S p i l=H7 S' p j l
 |os,[],i,j,env,st,l,_=>by cases os<;>exact⟨rfl,rfl,rfl⟩
 |os,s::p,i,j,env,st,l,h=>by have q:=h 0;simp only[Jd]at q;have z:∀m,S (i+1+m)=S' (j+1+m):=λm=>by{have:=h<|m+1;rwa [show i+(m+1)=i+1+m by omega,show j+(m+1)=j+1+m by omega]at this};cases os with|nil=>obtain⟨_,u,x⟩:=Qc [] p (i+1) (j+1) env (bif S' j then s.wr++st else st) l z;exact⟨rfl,by simp only[GD,q,u],by simp only[H7,q,x]⟩|cons o os=>{let⟨A,u,x⟩:=Qc os p (i+1) (j+1) (bif S' j then Cn o.dst s.d env else env) (bif S' j then s.wr++st else st) l z;exact⟨by simp only[Ew,q,A],by simp only[GD,q,u],by simp only[H7,q,x]⟩}
def eL {rest:L1 Oper} {fs:L1<|K1×K1} {rd:K1} {wr:St} {d:D} (x:LD P (OE Q) all o env st rd fr wr d) (z:∀t,o.dst=some t->t<n) (q:∀c,o.op≠.defer c) (h:DD P n F Q all rest (fs++[(rd,wr.map (·.1))]) k (Cn o.dst d env) (wr++st) Kr):DD P n F Q all (o::rest) fs k env st<|fr++Kr:=by obtain⟨u,p,A,B,C,E⟩:=h;refine⟨⟨rd,fr,wr,d⟩::u,p,?_,⟨x,z,q,B⟩,?_,?_⟩;simp only[H7,bf,A];rw[(Qc (S:=λ_=>false) (S':=λ_=>false) [] u 0 1 env st p λ_=>rfl).2.2];simpa[KP]using C;have:=Qc (S:=oo) (S':=oo) rest u 0 1 (Cn o.dst d env) (wr++st) p λ_=>rfl;simp only[Ew,GD,oo,az]at this ⊢;rw[<- this.1,<- this.2.1];exact E
def zo3 {fs:L1<|K1×K1} (p:Rw all fs=true) (h:ek P n F Q k env st aa):DD P n F Q all [] fs k env st aa:=⟨[],aa,rfl,ab,by simpa using p,h⟩
def gf:=@Nat.mod_lt
def b9:=@Ne.symm
def ao:=@of_decide_eq_true
def ct:=@of_decide_eq_false
def zh2 {id:Nat} (hm:P.follows .mixedOrders=true) (h:DD P n F Q all all [] k env st aa):ek P n F Q (.code (.region id ⟨all⟩ true)::k) env st aa:=by
 obtain⟨q,D,hids,vd,hck,tp⟩:=h;intro b cs I μ a w x8 T hc;obtain⟨is,rfl,hk⟩:=L3 T;refine pH λt=>?_;simp only[Region.schedule,hm,Bool.true_or,aw];simp only[Rw,Am,JJ]at hck;obtain⟨hck,_⟩:=hck;have r:=Rx _ _ _ _ vd;have hsp:=λ(S:Nat->Bool) (hS:JX all S)=>Rv hS all _ 0 [] [] hck O O O (by simp[PZ]);have x9:∀j o,all[j]?=some o->∀e∈o.after.toList,Ph e=true->e.on<j:=by
  intro j o u e he hb;have:=(hsp (λ_=>false) λ_ _ _ h=>by cases h).1 j o u e he hb;omega
 have hap:∀(S:Nat->Bool),JX all S->∀i j oi C si J,all[i]?=some oi->all[j]?=some C->q[i]?=some si->q[j]?=some J->i<j->S i=false->S j=true ->
   iy (Sp all.toArray oi<|KP si) (Sp all.toArray C<|KP J):=by
  intro S hS i j oi C si J h1 h2 h3 h4 hij U y;have hx:=WI (A:=all.toArray) h2 (f:=KP J) (fs:=q.map KP) (by simp[h4]);have hy:=WI (A:=all.toArray) h1 (f:=KP si) (fs:=q.map KP) (by simp[h3]);exact((hsp S hS).2 j _ hx<|by simpa using y).2 i _ hij hy (by simpa using U)
 suffices H:∀(E t:Nat) (p:Array Bool) (a':Act) (w':World) (V:TA) (z:Mu),p.size=all.length->JX all (λj=>p.getD j false)->fH (λj=>p.getD j false) all.length<=E ->
   ij n V z (Ew (λj=>p.getD j false) all q 0 env) (GD (λj=>p.getD j false) q 0 st) (H7 (λj=>p.getD j false) q 0 D) a' w'->l4 F μ z->a'.defers=a.defers ->
   fi I μ st w V z (GD (λj=>p.getD j false) q 0 st) w' ->
   Reach P b.1 cs (lb n F Q a.defers I μ st w) (.inRegion all.toArray (Region.linearise.go .any all.toArray E t p [])::is) a' w' by
  have hf:(λj=>(Array.replicate all.length false).getD j false)=λ_=>false:=by
   funext j;by_cases u:j<all.length<;>simp[u]
  refine H all.length t (Array.replicate all.length false) a { w with drawn:=w.drawn+1 } I μ (by simp) ?_ ?_ ?_ (.refl _ _) O ?_
  ·rw[hf];intro j o _ h;cases h
  ·rw[hf];have:∀m,fH (λ_=>false) m<=m:=λm=>by induction m with
    |zero=>simp[fH]
    |succ m ih=>simp only[fH,bf];omega
   exact this _
  ·rw[hf,Mq _ _ _ _ λ_ _=>rfl,KY _ _ _ λ_ _=>rfl,<- hids];exact hc.drew
  ·rw[hf,KY _ _ _ λ_ _=>rfl];exact .drew I μ st w
 have K:∀(S:Nat->Bool) (a':Act) (w':World) (V:TA) (z:Mu),(∀j,j<all.length->S j=true)->ij n V z (Ew S all q 0 env) (GD S q 0 st) (H7 S q 0 D) a' w'->l4 F μ z->a'.defers=a.defers ->
   fi I μ st w V z (GD S q 0 st) w'->Reach P b.1 cs (lb n F Q a.defers I μ st w) (.inRegion all.toArray []::is) a' w':=by
  intro S a' w' V z L M hp W hE;have he:∀t,lk (Ew S all q 0 env) t=lk (Ew oo all q 0 env) t:=λt=>IJ _ _ _ _ _ O λj o u _=>by
   have:=L j (A9.1 u).1;simpa[oo]using this
  have hs:∀t,lk (GD S q 0 st) t=lk (GD oo q 0 st) t:=λt=>JE _ _ _ _ O λj s u _=>by
   have:=L j (by rw[<- r];exact(A9.1 u).1);simpa[oo]using this
  have hi:∀(q:c6) (k:Nat),(∀j,j<k+q.length->S j=true)->H7 S q k D=D:=by
   intro q
   induction q with
   |nil=>intro k _;rfl
   |cons s q ih=>
    intro k hk;simp only[H7,hk k<|by simp,az,JJ];exact ih (k+1) λj u=>hk j (by simp at u ⊢;omega)
  rw[hi q 0 λj u=>L j<|by omega]at M;refine GN ?_;have hC':ij n V z (Ew oo all q 0 env) (GD oo q 0 st) D a' w':={ M.toNo.congr hs with size:=M.size,env:=λt d hl=>M.env t d (by rw[he];exact hl),defers:=M.defers.congr hs }
  have:=tp b cs V z a' w' is hk hC';rw[W]at this;exact this.mono λe a2 w2 R=>R.back hp<|hE.congr (λ_=>rfl) hs
 intro E
 induction E with
 |zero=>
  intro t p a' w' V z kq hdc xa M hp W hE;simp only[Region.linearise.go,List.reverse_nil];exact K _ a' w' V z (λj u=>mM (Nat.le_zero.1 xa) j u) M hp W hE
 |succ E ih=>
  intro t p a' w' V z kq hdc xa M hp W hE;simp only[Region.linearise.go];change Reach P b.1 cs (lb n F Q a.defers I μ st w) (.inRegion all.toArray (match(Region.ready .any all.toArray p)[t % (Region.ready .any all.toArray p).length]? with
   |some i=>Region.linearise.go .any all.toArray E (t / (Region.ready .any all.toArray p).length) (p.setIfInBounds i true) [i]
   |none=>[].reverse)::is) a' w'
  have ns:∀j,j<all.length->p.getD j true=p.getD j false:=λj u=>by simp[kq,u]
  cases hi:(Region.ready .any all.toArray p)[t % (Region.ready .any all.toArray p).length]? with
  |none=>
   have tq:Region.ready .any all.toArray p=[]:=by
    cases hr:Region.ready .any all.toArray p with
    |nil=>rfl
    |cons x xs=>
     rw[hr]at hi;have g:t % (x::xs).length<(x::xs).length:=gf _ (by simp);simp at hi;simp at g;omega
   have L:∀m j,j<m->j<all.length->p.getD j false=true:=by
    intro m
    induction m with
    |zero=>intro j u;omega
    |succ m ihm=>
     intro j u hja;cases hS:p.getD j false with
     |true=>rfl
     |false=>
      have f:j∈Region.ready .any all.toArray p:=by
       refine mem_ready.2 ⟨by rw[ns j hja,hS],all[j],by simp[hja],λe he hb=>?_⟩;have g:=x9 j all[j] (by simp[hja]) e (by simpa using he) (by rw[aL];exact hb);exact ihm e.on (by omega) (by omega)
      rw[tq]at f;cases f
   exact K _ a' w' V z (λj u=>L (j+1) j (by omega) u) M hp W hE
  |some i=>
   simp only[];rw[linearise_go_acc,List.reverse_singleton,PG];have f:=AE hi;let⟨hun,o,ho,hbef⟩:=mem_ready.1 f;have hil:i<all.length:=by
    have:=(Ht.1 ho).1;simpa using this
   have U:p.getD i false=false:=by rw[<- ns i hil];exact hun
   have l:all[i]?=some o:=by simpa using ho
   let⟨s,hs,hLD,hn,xe⟩:=mS all q 0 env st vd i o l;simp only[BU]at hLD;have hS':∀j,(p.setIfInBounds i true).getD j false=(bif Nat.beq j i then true else p.getD j false):=by
    intro j;by_cases u:j=i
    ·subst u;simp[kq,hil]
    ·have:Nat.beq j i=false:=by
      cases hb:Nat.beq j i with
      |false=>rfl
      |true=>exact absurd (Dm hb) u
     simp[this,H2<|b9 u]
   have G:(p.setIfInBounds i true).getD i false=true:=by rw[hS'];simp
   have A:∀j,j≠i->(p.setIfInBounds i true).getD j false=p.getD j false:=by
    intro j u;rw[hS'];have:Nat.beq j i=false:=by
     cases hb:Nat.beq j i with
     |false=>rfl
     |true=>exact absurd (Dm hb) u
    simp[this]
   have xf:JX all λj=>(p.setIfInBounds i true).getD j false:=by
    intro j C u y e he hb;by_cases B:j=i
    ·subst B;rw[l]at u;cases u;have:=hbef e (by simpa using he) (by rw[<- aL];exact hb);by_cases xh:e.on=j
     ·rw[xh];exact G
     ·exact(A _ xh).trans this
    ·have hSj':p.getD j false=true:=by have:=A j B;simp only at y;rw[this]at y;exact y
     have:=hdc j C u hSj' e he hb;by_cases xh:e.on=i
     ·rw[xh];exact G
     ·exact(A _ xh).trans this
   have hA:∀j C J,all[j]?=some C->q[j]?=some J->j≠i->p.getD j false≠decide (j<i)->iy (Sp all.toArray o<|KP s) (Sp all.toArray C<|KP J):=by
    intro j C J h1 h2 B od;by_cases g:j<i
    ·have hf:p.getD j false=false:=by
      cases h:p.getD j false with
      |false=>rfl
      |true=>exact absurd (by rw[h];simp[g]) od
     exact(hap _ xf j i C o J s h1 l h2 hs g ((A j B).trans hf) G).symm
    ·have hf:p.getD j false=true:=by
      cases h:p.getD j false with
      |true=>rfl
      |false=>exact absurd (by rw[h];simp[g]) od
     exact hap _ hdc i j o C s J l h1 hs h2 (by omega) U hf
   have hss:∀j C,all[j]?=some C->∃J,q[j]?=some J:=λj C h=>by
    have:j<q.length:=by rw[r];exact(A9.1 h).1
    exact⟨_,Bi this⟩
   have hoo:∀j J,q[j]?=some J->∃C,all[j]?=some C:=λj C h=>by
    have:j<all.length:=by rw[<- r];exact(A9.1 h).1
    exact⟨_,Bi this⟩
   have lr:jf s.rd (GD (λj=>decide (j<i)) q 0 st)<|GD (λj=>p.getD j false) q 0 st:=by
    intro id hid;refine JE _ _ _ _ O λj J u hw=>?_;rw[BU];by_cases B:j=i
    ·subst B;rw[U];simp
    ·let⟨C,hoj⟩:=hoo j J u;cases R:decide (p.getD j false=decide (j<i))with
     |true=>exact ao R
     |false=>exact absurd hid ((hA j C J hoj u B<|ct R).e id hw)
   have to:∀t∈o.looksAt all.toArray,lk (Ew (λj=>p.getD j false) all q 0 env) t=lk (Ew (λj=>decide (j<i)) all q 0 env) t:=by
    intro t ht;refine IJ _ _ _ _ _ O λj C u T=>?_;rw[BU];by_cases B:j=i
    ·subst B;rw[U];simp
    ·let⟨J,hsj⟩:=hss j C u;cases R:decide (p.getD j false=decide (j<i))with
     |true=>exact ao R
     |false=>exact absurd ht ((hA j C J u hsj B<|ct R).b t T)
   have r0:=WP (S:=λj=>p.getD j false) (S':=λj=>(p.setIfInBounds i true).getD j false) q 0 D i s hs (by simpa using U) (by simpa using G) λj u=>A j (by omega);have tr:∀t,lk (Cn o.dst s.d<|Ew (λj=>p.getD j false) all q 0 env) t=lk (Ew (λj=>(p.setIfInBounds i true).getD j false) all q 0 env) t:=by
    intro t;by_cases T:o.dst=some t
    ·rw[Me T];refine(aI all q 0 env i o s l hs T (by simpa using G) λj o' hij u c=>?_).symm;let⟨J,hsj⟩:=hss j o' u;simp only[BU];rw[A j<|by omega];cases R:p.getD j false with
     |false=>rfl
     |true=>exact absurd c ((hA j o' J u hsj (by omega) (by rw[R];simp;omega)).c t T)
    ·rw[W4 T];refine IJ _ _ _ _ _ O λj C u c=>?_;simp only[BU];have B:j≠i:=λe=>by subst e;rw[l]at u;cases u;exact T c
     rw[A j B]
   have hSt:∀t,lk (s.wr++GD (λj=>p.getD j false) q 0 st) t=lk (GD (λj=>(p.setIfInBounds i true).getD j false) q 0 st) t:=by
    intro t;by_cases T:t∈s.wr.map (·.1)
    ·rw[GZ T];refine(fY q 0 st i s hs T (by simpa using G) λj s' hij u c=>?_).symm;let⟨C,hoj⟩:=hoo j s' u;simp only[BU];rw[A j<|by omega];cases R:p.getD j false with
     |false=>rfl
     |true=>exact absurd c ((hA j C s' hoj u (by omega) (by rw[R];simp;omega)).f t T)
    ·rw[Ll T];refine JE _ _ _ _ O λj J u c=>?_;simp only[BU];have B:j≠i:=λe=>by subst e;rw[hs]at u;cases u;exact T c
     rw[A j B]
   let⟨mf,tu⟩:=hLD V z _ _ a' w' lr (M.toNo.perm r0) λt ht d hl=>M.env t d (by rw[to t ht];exact hl);have cont:∀v w2 I2 N,No I2 N (s.wr++GD (λj=>p.getD j false) q 0 st) (H7 (λj=>(p.setIfInBounds i true).getD j false) q 0 D) w2->X I2 N v s.d->z.le N ->
     fi V z (GD (λj=>p.getD j false) q 0 st) w' I2 N (s.wr++GD (λj=>p.getD j false) q 0 st) w2 ->
     Reach P b.1 cs (lb n F Q a.defers I μ st w) (.inRegion all.toArray (Region.linearise.go .any all.toArray E (t / (Region.ready .any all.toArray p).length) (p.setIfInBounds i true) [])::is) (a'.put o.dst v) w2:=by
    intro v w2 I2 N q1 q2 q3 q4;let⟨p1,p2,p3⟩:=Iw (n:=n) (w:=w2) (dst:=o.dst) (λt d hl=>(M.env t d hl).mono q4.Kp q3) M.size hn q2;refine ih _ (p.setIfInBounds i true) _ w2 I2 N (by simp[kq]) xf ?_ ?_ (hp.trans<|.of_le q3) (p3.trans W)<|hE.trans<|q4.congr (λ_=>rfl) hSt
    ·have:=yA (S:=λj=>p.getD j false) (S':=λj=>(p.setIfInBounds i true).getD j false) U G A hil;omega
    ·refine { q1.congr hSt with size:=p2,env:=λt d hl=>?_,defers:=by rw[p3];exact(M.defers.ext q4).congr hSt };rw[<- tr t]at hl;have:Cn o.dst s.d (Ew (λj=>p.getD j false) all q 0 env)=(match o.dst with|some t=>(t,s.d)::Ew (λj=>p.getD j false) all q 0 env|none=>Ew (λj=>p.getD j false) all q 0 env):=by
      cases o.dst<;>rfl
     rw[this]at hl;exact p1 t d hl
   by_cases hw:Region.wanted o (yielded all.toArray a'.tmps)=true
   ·refine GF ho hw xe<|hG.upon<|(mf hw).mono (λv w2 ⟨I2,N,q1,q2,q3,q4⟩=>cont v w2 I2 N q1 q2 q3 q4) λchain w2 hx=>?_;obtain⟨v,x,I2,q1,q2,q3,q4,q5⟩:=hx;refine⟨.panic x,[],[],[],I2,z,⟨v,q1,q3⟩,q2,?_,hp,hE.trans q5,by rw[W];exact .refl _ _⟩;exact NN q4 M.size<|M.defers.ext q5
   ·have hw':Region.wanted o (yielded all.toArray a'.tmps)=false:=by simpa using hw
    let⟨e1,e2,e3⟩:=tu hw';refine LR ho hw'<|cont undef w' V z ?_ e3 (Mu.le_refl z) ?_
    ·rw[e1];have:=M.toNo.perm r0;rw[e2]at this;exact this
    ·rw[e1];exact fi.refl _ _ _ _
def zqp {all rest:L1 Oper} {d:D} {rd:K1} {wr:St} (A:LD P (OE Q) all o env st rd fr wr d) (R:∀t,o.dst=some t->t<n) (L:∀c,o.op≠.defer c) (h:ek P n F Q (.ops all rest::k) (Cn o.dst d env) (wr++st) Kr):ek P n F Q (.ops all (o::rest)::k) env st<|fr++Kr:=by intro b cs I μ a w M S q;obtain⟨j,l,rfl,hr,hk⟩:=KA S;let⟨m,N⟩:=Fm hr;have T:M8 (o.looksAt all.toArray) I μ env a:=λt _ d A=>q.env t d A;let⟨U,V⟩:=A I μ st Kr a w (λ_ _=>rfl) q.toNo T;have cont:∀v w' B p,No B p (wr++st) Kr w'->X B p v d->μ.le p->fi I μ st w B p (wr++st) w'->Reach P b.1 cs (lb n F Q a.defers I μ st w) (.inRegion all.toArray (List.range' (j+1) rest.length)::l) (a.put o.dst v) w':=by{intro v w' B p C E z u;let⟨p1,p2,r⟩:=Iw (n:=n) (w:=w') (dst:=o.dst) (λt d A=>(q.env t d A).mono u.Kp z) q.size R E;have:=h b cs B p (a.put o.dst v) w' (.inRegion all.toArray (List.range' (j+1) rest.length)::l) ⟨⟨rfl,j+1,N,rfl⟩,hk⟩ {C with size:=p2,env:=by cases G:o.dst<;>simpa[Cn,G]using p1,defers:=by rw[r];exact q.defers.ext u };rw[r]at this;exact this.mono λe a' qe hp=>hp.back (.of_le z) u};have H:(o::rest).length=rest.length+1:=rfl;rw[H,OT];by_cases W:Region.wanted o (yielded all.toArray a.tmps)=true;refine GF m W L<|hG.upon<|(U W).mono (λv s ⟨f,g,C,E,u,z⟩=>cont v s f g C E u z) λi s hx=>?_;obtain⟨v,x,f,C,E,u,z,y⟩:=hx;refine⟨.panic x,[],[],[],f,μ,⟨v,C,u⟩,E,?_,.refl _ _,y,.refl _ _⟩;exact NN z q.size<|q.defers.ext y;have J:Region.wanted o (yielded all.toArray a.tmps)=false:=by{simpa using W};let⟨K,e2,e3⟩:=V J;refine LR m J<|cont undef w I μ ?_ e3 (Mu.le_refl μ) ?_;rw[K];have:=q.toNo;rw[e2]at this;exact this;rw[K];exact fi.refl _ _ _ _
end
end Go.Hk
