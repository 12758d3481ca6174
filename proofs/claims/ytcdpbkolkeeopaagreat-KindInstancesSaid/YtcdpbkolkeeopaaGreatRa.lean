/- Regions whose order is drawn: any order leads where the order of index leads. (And what it stands on.) -/
import Derived.CallsIn
import Derived.Orders
import Derived.MapKept
import Derived.AtR
import Derived.Laws.AppendOwn
import Derived.Laws.Strings
import Derived.Laws.Small
import Derived.Laws.Cells
import Derived.Laws.Concat
import Derived.Laws.BytesString
import Derived.Laws.Slices
import Derived.Laws.Strings3
import Derived.Laws.CopyRow
import Derived.RangeFuncLeaves
import Derived.RangeFuncNested
set_option linter.all false
set_option maxRecDepth 100000
set_option maxHeartbeats 4000000
namespace Go.Hk
variable {P:Program} {w w':World} {v g:Value} {t e s:TypeId} {a a':Act} {o:Oper} {ids ids' F fr:List Nat} {ob ob':List Prop} {cx:Prop} {α1 α2 α3 α4 α5 α6 α α7 α8 α9 β:Type} {vs:List Value} {c y:Code} {off n b i sz l f j m:Nat} {S S':Nat->Bool} {dst:Option Nat} {cs:List Frame} {Q:Exit->Act->World->Prop} {k:List Item} {r:Result Next} {K K':Value->World->Prop} {ds:List Deferred} {ps:Array (Nat×Operand)} {R:Ending->World->Prop} {w0:Bool}
theorem A9 {x1:α1}:x1=x1/\True:=⟨rfl,trivial⟩
theorem AC {x1:α1} {x2:α2} {x3:α3}:x1=x1/\x2=x2/\x3=x3/\True:=⟨rfl,rfl,rfl,trivial⟩
theorem AK {x1:α1} {x2:α2}:x1=x1/\x2=x2/\True:=⟨rfl,rfl,trivial⟩
theorem B6 {x1:α1} {x2:α2} {x3:α3} {x4:α4} {x5:α5}:x1=x1/\x2=x2/\x3=x3/\x4=x4/\x5=x5/\True:=⟨rfl,rfl,rfl,rfl,rfl,trivial⟩
theorem Cb {x1:α1} {x2:α2} {x3:α3} {x4:α4}:x1=x1/\x2=x2/\x3=x3/\x4=x4/\True:=⟨rfl,rfl,rfl,rfl,trivial⟩
theorem Ax {x1:α1} {x2:α2} {x3:α3}:(x1=x1/\x2=x2/\x3=x3)/\True:=⟨⟨rfl,rfl,rfl⟩,trivial⟩
theorem nX {x1:α1} {x2:α2} {x3:α3} {x4:α4} {x5:α5} {x6:α6}:(x1=x1/\x2=x2/\x3=x3)/\(x4=x4/\x5=x5/\x6=x6)/\True:=⟨⟨rfl,rfl,rfl⟩,⟨rfl,rfl,rfl⟩,trivial⟩
theorem GU {x1:α1} {x2:α2} {x3:α3} {x4:α4} {x5:α5} {x6:α6}:x1=x1/\x2=x2/\x3=x3/\x4=x4/\x5=x5/\x6=x6/\True:=⟨rfl,rfl,rfl,rfl,rfl,rfl,trivial⟩
theorem Kc {α10 α11 α12:Type} {x1:α1} {x2:α2} {x3:α3} {x4:α4} {x5:α5} {x6:α6} {x7:α7} {x8:α8} {x9:α9} {x10:α10} {x11:α11} {x12:α12}:(x1=x1/\x2=x2/\x3=x3)/\(x4=x4/\x5=x5/\x6=x6)/\(x7=x7/\x8=x8/\x9=x9)/\(x10=x10/\x11=x11/\x12=x12)/\True:=⟨⟨rfl,rfl,rfl⟩,⟨rfl,rfl,rfl⟩,⟨rfl,rfl,rfl⟩,⟨rfl,rfl,rfl⟩,trivial⟩
theorem iN {x1:α1} {x2:α2} {x3:α3} {x4:α4} {x5:α5} {x6:α6} {x7:α7} {x8:α8} {x9:α9}:x1=x1/\x2=x2/\x3=x3/\x4=x4/\x5=x5/\x6=x6/\x7=x7/\x8=x8/\x9=x9/\True:=⟨rfl,rfl,rfl,rfl,rfl,rfl,rfl,rfl,rfl,trivial⟩
theorem GD {x1:α1} {x2:α2} {x3:α3} {x4:α4} {x5:α5} {x6:α6} {x7:α7}:x1=x1/\x2=x2/\x3=x3/\x4=x4/\x5=x5/\x6=x6/\x7=x7/\True:=⟨rfl,rfl,rfl,rfl,rfl,rfl,rfl,trivial⟩
theorem W2 {α10 α11 α12 α13 α14 α15 α16 α17 α18 α19 α20 α21:Type} {x1:α1} {x2:α2} {x3:α3} {x4:α4} {x5:α5} {x6:α6} {x7:α7} {x8:α8} {x9:α9} {x10:α10} {x11:α11} {x12:α12} {x13:α13} {x14:α14} {x15:α15} {x16:α16} {x17:α17} {x18:α18} {x19:α19} {x20:α20} {x21:α21}:(x1=x1/\x2=x2/\x3=x3)/\(x4=x4/\x5=x5/\x6=x6)/\(x7=x7/\x8=x8/\x9=x9)/\(x10=x10/\x11=x11/\x12=x12)/\(x13=x13/\x14=x14/\x15=x15)/\(x16=x16/\x17=x17/\x18=x18)/\(x19=x19/\x20=x20/\x21=x21)/\True:=⟨⟨rfl,rfl,rfl⟩,⟨rfl,rfl,rfl⟩,⟨rfl,rfl,rfl⟩,⟨rfl,rfl,rfl⟩,⟨rfl,rfl,rfl⟩,⟨rfl,rfl,rfl⟩,⟨rfl,rfl,rfl⟩,trivial⟩
theorem Ay {x1:α1} {x2:α2} {x3:α3} {x4:α4} {x5:α5} {x6:α6} {x7:α7} {x8:α8} {x9:α9}:(x1=x1/\x2=x2/\x3=x3)/\(x4=x4/\x5=x5/\x6=x6)/\(x7=x7/\x8=x8/\x9=x9)/\True:=⟨⟨rfl,rfl,rfl⟩,⟨rfl,rfl,rfl⟩,⟨rfl,rfl,rfl⟩,trivial⟩
theorem El {x1:α1} {x2:α2} {x3:α3} {x4:α4} {x5:α5} {x6:α6}:(x1=x1/\x2=x2)/\(x3=x3/\x4=x4)/\(x5=x5/\x6=x6)/\True:=⟨⟨rfl,rfl⟩,⟨rfl,rfl⟩,⟨rfl,rfl⟩,trivial⟩
theorem OK {x1:α1} {x2:α2} {x3:α3} {x4:α4} {x5:α5} {x6:α6} {x7:α7} {x8:α8}:x1=x1/\x2=x2/\x3=x3/\x4=x4/\x5=x5/\x6=x6/\x7=x7/\x8=x8/\True:=⟨rfl,rfl,rfl,rfl,rfl,rfl,rfl,rfl,trivial⟩
theorem W1 {α10 α11 α12 α13 α14 α15:Type} {x1:α1} {x2:α2} {x3:α3} {x4:α4} {x5:α5} {x6:α6} {x7:α7} {x8:α8} {x9:α9} {x10:α10} {x11:α11} {x12:α12} {x13:α13} {x14:α14} {x15:α15}:(x1=x1/\x2=x2/\x3=x3)/\(x4=x4/\x5=x5/\x6=x6)/\(x7=x7/\x8=x8/\x9=x9)/\(x10=x10/\x11=x11/\x12=x12)/\(x13=x13/\x14=x14/\x15=x15)/\True:=⟨⟨rfl,rfl,rfl⟩,⟨rfl,rfl,rfl⟩,⟨rfl,rfl,rfl⟩,⟨rfl,rfl,rfl⟩,⟨rfl,rfl,rfl⟩,trivial⟩
def PB:=@Array.getElem?_eq_getElem
def CD:=@Nat.eq_of_beq_eq_true
def C2:=@List.mem_map
def BQ:=@Nat.le_refl
def wM:=@Nat.le_trans
def Z5:=@Nat.lt_of_lt_of_le
def GY:=@Array.getElem?_eq_some_iff
def Ce:=@Option.some.injEq
def Cy:=@List.mem_cons
def BN:=@List.mem_append
def Bc:=@Prod.mk.injEq
def TP:=@Array.length_toList
def Ep:=@List.getElem?_map
def Pe:=@Option.map_eq_some_iff
def JK:=@List.getElem?_eq_none
def Br:=@List.getElem?_eq_getElem
def Xh:=@Nat.add_assoc
def TO:=@List.mem_range
def D6:=@List.getElem?_take
def Fj:=@List.getElem?_drop
def Xg:=@List.drop_zero
def Db:=@List.take_of_length_le
def qM:=@List.ext_getElem?
def Pd:=@List.mem_of_mem_drop
def LA:=@List.mem_of_mem_take
def AL:=@List.getElem?_eq_some_iff
def qJ:=@List.extract_eq_take_drop
def QW:=@Array.getElem?_toList
def AF:=@List.mem_of_getElem?
def qI:=@Bool.not_false
def Pc:=@List.foldl_cons
def C6:=@List.map_cons
def Dh:=@Nat.zero_add
def IP:=@List.getElem_mem
def MV:=@Option.getD_some
def qH:=@List.take_zero
def QV:=@Nat.add_mul
def qG:=@List.zipIdx_cons
def Da:=@List.length_cons
def Xf:=@List.take_append
def HH:=@List.length_take
def qF:=@List.take_take
def Bo:=@List.drop_eq_nil_of_le
def IO:=@List.nil_append
def qE:=@List.drop_drop
def B5:=@List.length_append
def Iq:=@Nat.add_zero
def L9:=@List.getElem?_set_self
def L8:=@List.getElem?_set_ne
def L7:=@List.eq_nil_of_length_eq_zero
def zS:=@List.getElem?_cons_zero
def Ki:=@List.flatten_cons
def eP:=@List.take_append_drop
def JJ:=@List.length_drop
def Ip:=@List.mem_cons_of_mem
def HG:=@Nat.blt_eq
def qD:=@List.mapM_cons
def MU:=@List.map_toArray
def TN:=@Option.map_some
def MT:=@List.toList_toArray
def Pb:=@List.getElem?_append_left
def Pa:=@List.getElem?_append_right
def QU:=@Nat.succ_mul
def qC:=@Nat.le_of_ble_eq_true
def IN:=@List.getElem?_of_mem
def Xe:=@Nat.min_eq_left
def OZ:=@Option.some.inj
def zR:=@Nat.mul_le_mul_left
def JI:=@List.append_nil
def OY:=@Int.toNat_of_nonneg
def AJ:=@Nat.zero_le
def L6:=@List.nodup_cons
def Dn:=@List.length_map
def Gj:=@Array.getElem?_setIfInBounds_ne
def zQ:=@List.range_eq_range'
def OX:=@List.range'_succ
def Dy:=@Option.bind_some
def HN:=@Bool.not_eq_true'
def Ap:=@Bool.and_eq_true
def Ha:=@Bool.or_eq_true
def Mg:=@List.getElem?_append
def De:=@List.cons_append
def CF:=@List.append_assoc
def ZW:=@List.getElem?_cons_succ
def qW:=@Nat.lt_succ_iff_lt_or_eq
def Vq:=@Nat.mod_lt
def qV:=@List.singleton_append
def DM:=@List.cons.injEq
def ZV:=@List.reverse_cons
def Mf:=@List.mem_append_left
def ZU:=@List.mem_append_right
def HM:=@List.nodup_append
def Km:=@Array.toList_append
def DL:=@List.mem_iff_getElem?
def qU:=@Nat.div_lt_of_lt_mul
def Rd:=@Nat.mul_comm
def ZT:=@Nat.div_add_mod
def HL:=@List.map_nil
def ZS:=@List.flatten_append
def ZR:=@List.size_toArray
def ZQ:=@List.take_left
def ZP:=@Nat.mul_le_mul_right
def qT:=@List.length_pos_iff
def CS:=@List.all_eq_true
def Vp:=@List.mem_map_of_mem
def Me:=@Bool.and_assoc
def AP:=@List.mem_singleton
def ZO:=@List.filter_cons
def DK:=@Bool.false_eq_true
def ZN:=@Int.le_total
def ZM:=@Int.max_eq_right
def ZL:=@Int.max_eq_left
def ZK:=@Int.min_eq_left
def ZJ:=@Int.min_eq_right
def Kl:=@Int.le_refl
def HK:=@List.map_congr_left
def CE:=@List.map_append
def Oc:=@Option.map_none
def Vo:=@List.map_id
def Rc:=@List.map_map
def Rb:=@List.range_succ
def Mc:=@Nat.lt_trichotomy
def Kk:=@Bool.or_eq_false_iff
def ZI:=@Array.ext_getElem?
def Vn:=@Array.getElem?_modify
def Ra:=@Array.getElem?_push
def Vm:=@Nat.lt_irrefl
def ZH:=@Array.eq_empty_of_size_eq_zero
def Vl:=@List.getElem?_set
def ZG:=@Int.toNat_natCast
def Mb:=@Nat.sub_self
def qS:=@List.getElem?_replicate
def Cj:=@List.sizeOf_lt_of_mem
def Dd:=@List.all_cons
def ZF:=@List.map_take
def Vk:=@Bool.and_eq_true_iff
def Ma:=@Bool.and_eq_false_iff
def Fq:=@Bool.eq_iff_iff
def Jx:=@Bool.true_and
def Vj:=@List.any_cons
def ZE:=@List.any_eq_not_all_not
def QZ:=@Bool.not_eq_true
def Ob:=@List.all_map
def HJ:=@List.all_append
def ZD:=@Bool.not_eq_false'
def QY:=@List.mem_cons_self
def Vi:=@Bool.or_assoc
def qR:=@List.take_append_of_le_length
def qQ:=@List.mem_or_eq_of_mem_set
def LZ:=@List.not_mem_nil
def Cz:=@List.length_nil
def qP:=@Nat.add_sub_cancel_left
def qO:=@List.eq_of_mem_replicate
def qN:=@List.length_replicate
def Vh:=@Int.ofNat_inj
def CC:=@Nat.lt_succ_self
def ZC:=@List.getElem?_eq_none_iff
def DJ:=@List.any_eq_true
def ZB:=@List.getD_eq_getElem?_getD
def GZ:=@List.any_append
def QX:=@Bool.false_or
def Jw:=@List.take_length
def Kj:=@List.length_eq_zero_iff
def Jv:=@List.all_nil
def HI:=@Bool.and_true
def ZA:=@List.set_append_right
def Z9:=@List.length_eq_one_iff
def Vg:=@List.length_singleton
def Vf:=@List.length_set
def qL:=@Array.getElem?_setIfInBounds_self_of_lt
def Z8:=@List.idxOf_lt_length_iff
def Z7:=@List.foldl_nil
def Z6:=@List.foldl_append
def Ve:=@Option.isSome_iff_exists
def qK:=@Option.bind_eq_some_iff
def ArrR (P:Program) (m:Machine) (b:Frame) (cs:List Frame):Exit->Act->World->Prop
 | .normal,a,w=>Steps P m (lone (b.atR a []) cs w)
 | .ret,a,w=>∃k,Steps P m (lone (b.atR a (.code .ret::k)) cs w)
 | .exit id,a,w=>∃k,exitTo id k=none/\Steps P m (lone (b.atR a (.code (.exit id)::k)) cs w)
 | .goto l,a,w=>∃k,gotoIn l k=none/\Steps P m (lone (b.atR a (.code (.goto l)::k)) cs w)
 | .panic chain,a,w=>∃todo,Steps P m (lone { b.atR a todo with mode:=.panicking chain } cs w)
 | .outgrown,_,_=>False
theorem ArrR.of_steps {m m₁:Machine} {b:Frame} {e:Exit} (h:Steps P m m₁) (h':ArrR P m₁ b cs e a w) :
  ArrR P m b cs e a w:=by
 cases e with
 | normal=>exact h.trans h'
 | ret=>obtain ⟨k,hs⟩:=h';exact ⟨k,h.trans hs⟩
 | exit id=>obtain ⟨k,hk,hs⟩:=h';exact ⟨k,hk,h.trans hs⟩
 | goto l=>obtain ⟨k,hk,hs⟩:=h';exact ⟨k,hk,h.trans hs⟩
 | panic chain=>obtain ⟨todo,hs⟩:=h';exact ⟨todo,h.trans hs⟩
 | outgrown=>exact h'
def Reach (P:Program) (b:Frame) (cs:List Frame) (Q:Exit->Act->World->Prop) (items:List Item) (a:Act) (w:World):Prop :=
 ∃e a' w',Q e a' w'/\ArrR P (lone (b.atR a items) cs w) b cs e a' w'
section
variable {b:Frame}
theorem Reach.mono {Q':Exit->Act->World->Prop} {items:List Item} (hq:∀e a w,Q e a w->Q' e a w) (h:Reach P b cs Q items a w):Reach P b cs Q' items a w :=
 let ⟨e,a',w',h1,h2⟩:=h;⟨e,a',w',hq _ _ _ h1,h2⟩
theorem Reach.step {items items':List Item} (hs:step P (lone (b.atR a items) cs w) = .next (lone (b.atR a' items') cs w')) (h:Reach P b cs Q items' a' w'):Reach P b cs Q items a w :=
 let ⟨e,a2,w2,h1,h2⟩:=h;⟨e,a2,w2,h1,.of_steps (.one hs) h2⟩
theorem Zc (h:Reach P b cs Q k a w):Reach P b cs Q (.code .skip::k) a w:=h.step stepR_skip
theorem WE (h:Reach P b cs Q k a w):Reach P b cs Q (.code (.label l)::k) a w:=h.step stepR_label
theorem Sv {id:Nat} (h:Reach P b cs Q k a w):Reach P b cs Q (.inBlock id::k) a w:=h.step stepR_inBlock
theorem Su (h:Reach P b cs Q k a w):Reach P b cs Q (.inScope c::k) a w :=
 h.step (step_lone_go (by simp [stepG,stepG.exec,Frame.atR]))
theorem WD (h:Reach P b cs Q (.code c :: .inScope c::k) a w):Reach P b cs Q (.code (.scope c)::k) a w :=
 h.step (step_lone_go (by simp [stepG,stepG.exec,Frame.atR]))
theorem iV {x:Code} (h:Reach P b cs Q (.code x :: .code y::k) a w):Reach P b cs Q (.code (.seq x y)::k) a w:=h.step stepR_seq
theorem Zg {c:Operand} {x:Code} {t:Bool} (hc:a.eval c = .bool t) (h:Reach P b cs Q (.code (if t then x else y)::k) a w) :
  Reach P b cs Q (.code (.cond c x y)::k) a w:=h.step (stepR_cond hc)
theorem WF {id:Nat} (h:Reach P b cs Q (.code c :: .inBlock id::k) a w):Reach P b cs Q (.code (.block id c)::k) a w:=h.step stepR_block
theorem Zd (h:Reach P b cs Q (.code c :: .inLoop c::k) a w):Reach P b cs Q (.code (.loop c)::k) a w:=h.step stepR_loop
theorem UQ (h:Reach P b cs Q (.code c :: .inLoop c::k) a w):Reach P b cs Q (.inLoop c::k) a w:=h.step stepR_inLoop
theorem Ze {id:Nat} {k':List Item} (he:exitTo id k=some k') (h:Reach P b cs Q k' a w):Reach P b cs Q (.code (.exit id)::k) a w:=h.step (stepR_exit he)
theorem M7 {id:Nat} {ops:Array Oper} (h:Reach P b cs Q (.inRegion ops (List.range ops.size)::k) a w) :
  Reach P b cs Q (.code (.region id ops false)::k) a w:=h.step stepR_region
theorem Zf {id:Nat} {ops:Array Oper} (h:∀t,Reach P b cs Q (.inRegion ops (Region.schedule (P.follows .mixedOrders) ops t)::k) a { w with drawn:=w.drawn+1 }) :
  Reach P b cs Q (.code (.region id ops true)::k) a w:=(h _).step stepR_region_draw
theorem GV {ops:Array Oper} (h:Reach P b cs Q k a w):Reach P b cs Q (.inRegion ops []::k) a w:=h.step stepR_region_end
theorem Jo {ops:Array Oper} {rest:List Nat} (ho:ops[i]?=some o) (hw:Region.wanted o (yielded ops a.tmps)=false) (h:Reach P b cs Q (.inRegion ops rest::k) (a.put o.dst undef) w):Reach P b cs Q (.inRegion ops (i::rest)::k) a w:=by
 refine Reach.step (a':=a.put o.dst undef) ?_ h;have:=stepR_op_skip (P:=P) (b:=b) (a:=a) (k:=k) (cs:=cs) (w:=w) (ops:=ops) (i:=i) (rest:=rest) (by simp [ho,hw]);simpa [ho] using this
theorem iX (h:Q .normal a w):Reach P b cs Q [] a w:=⟨.normal,a,w,h,.refl _ _⟩
theorem iW (h:Q .ret a w):Reach P b cs Q (.code .ret::k) a w:=⟨.ret,a,w,h,k,.refl _ _⟩
def O9 (P:Program) (o:Oper) (a:Act) (next:Act->World->Prop) (pan:List PanicEntry->World->Prop):Result Next->Prop
 | .ok (.value v) w'=>next (a.put o.dst v) w'
 | .ok .skip w'=>next (a.put o.dst undef) w'
 | .ok (.enter f args) w'=>Calls P f args w' λe w''=>match e with
   | .returned v=>next (a.put o.dst v) w''
   | .panicked chain=>pan chain w''
   | .outgrown=>False
 | .ok (.round l f tmps assign body) w'=>RoundIn Fence.wide 0 P l f tmps assign body w' λe w''=>match e with
   | .returned v=>next (a.put o.dst v) w''
   | .panicked chain=>pan chain w''
   | .outgrown=>False
 | .halt (.panic v) w'=>pan [{ v,recovered:=false }] w'
 | _=>False
theorem FN {ops:Array Oper} {rest:List Nat} (ho:ops[i]?=some o) (hw:Region.wanted o (yielded ops a.tmps)=true) (hnd:∀c,o.op ≠ .defer c) (h:O9 P o a (λa' w'=>Reach P b cs Q (.inRegion ops rest::k) a' w') (λchain w'=>Q (.panic chain) a w') ((execOp a.eval o).run P w)) :
  Reach P b cs Q (.inRegion ops (i::rest)::k) a w:=by
 have hg:=stepGR_op (P:=P) (b:=b) (k:=k) (cs:=cs) (w:=w) (rest:=rest) ho hw;rw [Oper.semAt_eq b.roundOf a.eval o hnd] at hg;have hfin:∀v,(b.atR a (.inRegion ops (i::rest)::k)).finish v=b.atR (a.put o.dst v) (.inRegion ops rest::k):=by
  intro v;rw [Frame.finish_atR,ho];rfl
 cases hr:(execOp a.eval o).run P w with
 | ok x w' =>
  rw [hr] at h;cases x with
  | value v =>
   refine Reach.step (step_lone_go ?_) h;rw [hg,<- hfin];simp [stepG.apply,hr]
  | skip =>
   refine Reach.step (step_lone_go ?_) h;rw [hg,<- hfin];simp [stepG.apply,hr]
  | enter f args =>
   simp only [O9] at h;obtain ⟨e,w'',fr,hR,hsteps,_,hleave⟩:=h (b.atR a (.inRegion ops (i::rest)::k)::cs);have henter:step P (lone (b.atR a (.inRegion ops (i::rest)::k)) cs w) =
     .next (lone (Frame.enter P f args .normal) (b.atR a (.inRegion ops (i::rest)::k)::cs) w') :=
    step_lone_go (by rw [hg];simp [stepG.apply,hr,Frame.atR])
   cases e with
   | returned v =>
    obtain ⟨e,a',w₃,hq,harr⟩:=hR;refine ⟨e,a',w₃,hq,.of_steps (.head henter (hsteps.trans (.one ?_))) harr⟩;rw [<- hfin];exact step_leave_returned hleave
   | panicked chain =>
    refine ⟨.panic chain,a,w'',hR,.inRegion ops (i::rest)::k,.head henter (hsteps.trans (.one ?_))⟩;rw [<- Frame.raise_atR];exact step_leave_panicked hleave
   | outgrown=>exact hR.elim
  | round l f tmps assign body =>
   simp only [O9] at h;obtain ⟨_,h⟩:=h;obtain ⟨e,w'',hR,hsteps⟩:=h (b.atR a (.inRegion ops (i::rest)::k)) cs (room_wide _);have henter:step P (lone (b.atR a (.inRegion ops (i::rest)::k)) cs w) =
     .next (lone (Frame.round l f tmps assign body .normal) (b.atR a (.inRegion ops (i::rest)::k)::cs) w') :=
    step_lone_go (by rw [hg];simp [stepG.apply,hr,Frame.atR])
   cases e with
   | returned v =>
    obtain ⟨e,a',w₃,hq,harr⟩:=hR;rw [<- hfin v] at harr;exact ⟨e,a',w₃,hq,.of_steps (.head henter (StepsIn.steps hsteps)) harr⟩
   | panicked chain =>
    refine ⟨.panic chain,a,w'',hR,.inRegion ops (i::rest)::k,.head henter ?_⟩;rw [<- Frame.raise_atR];exact StepsIn.steps hsteps
   | outgrown=>exact hR.elim
  | _=>exact h.elim
 | halt x w' =>
  rw [hr] at h;cases x with
  | panic v =>
   refine ⟨.panic [{ v,recovered:=false }],a,w',h,.inRegion ops (i::rest)::k,.one (step_lone_go ?_)⟩;rw [hg,<- Frame.raise_atR];simp [stepG.apply,hr]
  | _=>exact h.elim
end
theorem CW (w:World) (o:Obj) (h:i<w.heap.size):(w.alloc o).heap[i]?=w.heap[i]?:=by
 show (w.heap.push o)[i]?=_;rw [Array.getElem?_push_lt h,PB h]
theorem EC (w:World) (o:Obj):(w.alloc o).heap[w.heap.size]?=some o:=by
 show (w.heap.push o)[w.heap.size]?=some o;simp
inductive V where
 | bool (b:Bool)
 | int (k:IntKind) (n:Int)
 | str (s:List UInt8)
 | agg (cs:List V)
 | tup (cs:List V)
 | sl (es:List (List V))
 | iface (t:TypeId) (x:V)
 | niliface
 | nilp
 | nilmap
 | nilfn
 | fn (f:Fn)
 | ip (t:TypeId) (cs:List V) (off:Nat)
 | mapv (kv:List (V×V))
 | clo (f:Fn) (first cap:List V)
 | nilsl
inductive D where
 | undef
 | imm (x:V)
 | nils
 | ref (id off:Nat)
 | ip (t:TypeId) (cs:List V) (off:Nat)
 | agg (cs:List D)
 | tup (cs:List D)
 | own (id len:Nat)
 | elp (id k sz f:Nat)
 | mapr (id:Nat)
 | iter (id:Nat)
 | fn (f:Fn) (first cap:List D)
 | iface (t:TypeId) (d:D)
 | guard (c want:Bool) (d:D)
 | clip (es:List (List V))
 | slc (id off len cap:Nat)
 | yld (id:Nat)
 | raw (v:Value)
 | hv (id i:Nat)
abbrev Imm:=Nat->Option Obj
def Imm.le (I J:Imm):Prop:=∀b o,I b=some o->J b=some o
structure Bun where
 P:Imm->World->Nat->List Nat->Prop
 mono:∀{I J:Imm} {w:World} {b:Nat} {bs:List Nat},I.le J->P I w b bs->P J w b bs
 loc:∀{I:Imm} {w w':World} {b:Nat} {bs:List Nat},(∀k∈bs,w'.heap[k]?=w.heap[k]?)->P I w b bs->P I w' b bs
structure Asn where
 P:List Value->Imm->World->List Nat->Prop
 mono:∀{vs:List Value} {I J:Imm} {w:World} {bs:List Nat},I.le J->P vs I w bs->P vs J w bs
 loc:∀{vs:List Value} {I:Imm} {w w':World} {bs:List Nat},(∀k∈bs,w'.heap[k]?=w.heap[k]?)->P vs I w bs->P vs I w' bs
def UU (bs:List Nat):Array Value:=(bs.map λb=>.pointer (some ⟨b,0,none⟩)).toArray
def X9 (vs:List Value) (bs:List Nat):Value:=.tuple ⟨[.agg vs.toArray,.agg (UU bs)]⟩
inductive Blk where
 | immb (t:TypeId) (sz:Nat) (xs:List V)
 | cells (t:TypeId) (sz:Nat) (cs:List D)
 | row (t:TypeId) (sz:Nat) (es:List (List V))
 | map (kv:List (V×V))
 | siter (s:List UInt8) (pos:Nat)
 | pin
 | bun (id:Nat) (S:Bun)
 | hp (A:Asn)
 | adr (id b:Nat)
 | mapx (kv:List (V×V)) (b:Nat) (es:Array MapEntry) (clock:Nat)
 | miter (b since:Nat) (seen:Array Nat) (c:Nat)
abbrev Env:=List (Nat×D)
abbrev St:=List (Nat×Option Blk)
abbrev Mu:=Nat->Option Value
def lk {α:Type}:List (Nat×α)->Nat->Option α
 | [],_=>none
 | (k,x)::r,t=>match Nat.beq k t with
  | true=>some x
  | false=>lk r t
def Ms {α:Type}:List α->Nat->Option α
 | [],_=>none
 | x::_,0=>some x
 | _::r,n+1=>Ms r n
theorem Gv {α:Type}:∀(l:List α) (n:Nat),Ms l n=l[n]?
 | [],n=>by simp [Ms]
 | x::_,0=>by simp [Ms]
 | _::r,n+1=>by simp [Ms,Gv r n]
theorem A0 (k:Nat) (x:α) (r:List (Nat×α)):lk ((k,x)::r) k=some x:=by simp [lk]
theorem A6 {k t:Nat} (x:α) (r:List (Nat×α)) (h:k≠t):lk ((k,x)::r) t=lk r t:=by
 have:Nat.beq k t=false:=by
  cases hb:Nat.beq k t with
  | false=>rfl
  | true=>exact absurd (CD hb) h
 simp [lk,this]
def Imm.ok (I:Imm) (w:World):Prop:=∀b o,I b=some o->w.heap[b]?=some o
def Imm.cell (I:Imm) (b off:Nat):Option Value :=
 match I b with
 | some (.cells c _ _)=>c[off]?
 | _=>none
def Mu.le (μ ν:Mu):Prop:=∀i v,μ i=some v->ν i=some v
theorem Imm.le_refl (I:Imm):I.le I:=λ_ _ h=>h
theorem Imm.le_trans {I J K:Imm} (h:I.le J) (k:J.le K):I.le K:=λb o x=>k b o (h b o x)
theorem Mu.le_refl (μ:Mu):μ.le μ:=λ_ _ h=>h
theorem Mu.le_trans {I J K:Mu} (h:I.le J) (k:J.le K):I.le K:=λb o x=>k b o (h b o x)
theorem Imm.cell_mono {I J:Imm} (h:I.le J) (hc:I.cell b off=some v):J.cell b off=some v:=by
 unfold Imm.cell at *;cases hI:I b with
 | none=>simp [hI] at hc
 | some o=>rw [h b o hI];simpa [hI] using hc
theorem Imm.cell_world {I:Imm} (h:I.ok w) (hc:I.cell b off=some v):w.cell? ⟨b,off,none⟩=some v:=by
 unfold Imm.cell at hc;unfold World.cell?;cases hI:I b with
 | none=>simp [hI] at hc
 | some o =>
  have:=h b o hI;cases o <;> simp_all
inductive RepV (I:Imm):Value->V->Prop where
 | bool (b:Bool):RepV I (.bool b) (.bool b)
 | int (k:IntKind) (n:Int):RepV I (.int k n) (.int k n)
 | str (s:ByteArray) (l:List UInt8) (h:s.data.toList=l):RepV I (.string s) (.str l)
 | agg (cs:Array Value) (xs:List V) (hl:cs.size=xs.length) (h1:∀c∈cs.toList,c.oneCell'=true) (h:∀(i:Nat) (c:Value) (x:V),cs[i]?=some c->xs[i]?=some x->RepV I c x):RepV I (.agg cs) (.agg xs)
 | tup (cs:Array Value) (xs:List V) (hl:cs.size=xs.length) (h:∀(i:Nat) (c:Value) (x:V),cs[i]?=some c->xs[i]?=some x->RepV I c x):RepV I (.tuple cs) (.tup xs)
 | slnil:RepV I (.slice none 0 0) (.sl [])
 | sl0 (a:Addr):RepV I (.slice (some a) 0 0) (.sl [])
 | sl (b o len cap sz:Nat) (es:List (List V)) (vs:Nat->Nat->Value) (hl:len=es.length) (hc:len<=cap) (hm:cap<=maxLen)
   (hsz:∀e∈es,e.length=sz)
   (hcell:∀(i:Nat) (e:List V) (j:Nat) (x:V),es[i]?=some e->e[j]?=some x->I.cell b (o+i*sz+j)=some (vs i j)/\(vs i j).oneCell'=true)
   (hrep:∀(i:Nat) (e:List V) (j:Nat) (x:V),es[i]?=some e->e[j]?=some x->RepV I (vs i j) x):RepV I (.slice (some ⟨b,o,none⟩) len cap) (.sl es)
 | iface (t:TypeId) (v:Value) (x:V) (h:RepV I v x):RepV I (.iface t v) (.iface t x)
 | niliface:RepV I .nilIface .niliface
 | nilp:RepV I (.pointer none) .nilp
 | nilmap:RepV I (.map none) .nilmap
 | nilsl:RepV I (.slice none 0 0) .nilsl
 | nilfn:RepV I .nilFunc .nilfn
 | fn (f:Fn):RepV I (.func f #[] #[]) (.fn f)
 | ip (b o:Nat) (t:TypeId) (cs:List V) (off:Nat) (vs:Nat->Value)
   (hcell:∀(j:Nat) (x:V),cs[j]?=some x->I.cell b (o+j)=some (vs j)/\(vs j).oneCell'=true)
   (hrep:∀(j:Nat) (x:V),cs[j]?=some x->RepV I (vs j) x):RepV I (.pointer (some ⟨b,o+off,none⟩)) (.ip t cs off)
 | mapv (b:Nat) (es:Array MapEntry) (clock:Nat) (kv:List (V×V)) (hI:I b=some (.map es clock)) (hl:es.size=kv.length) (hs:MapKept.Stamped es clock)
   (hk:∀(i:Nat) (e:MapEntry) (p:V×V),es[i]?=some e->kv[i]?=some p->RepV I e.key p.1)
   (hv:∀(i:Nat) (e:MapEntry) (p:V×V),es[i]?=some e->kv[i]?=some p->RepV I e.val p.2):RepV I (.map (some b)) (.mapv kv)
 | clo (f:Fn) (first cap:Array Value) (xs ys:List V) (hf:first.size=xs.length) (hc:cap.size=ys.length)
   (h1:∀(i:Nat) (c:Value) (x:V),first[i]?=some c->xs[i]?=some x->RepV I c x) (h2:∀(i:Nat) (c:Value) (x:V),cap[i]?=some c->ys[i]?=some x->RepV I c x):RepV I (.func f first cap) (.clo f xs ys)
theorem RepV.mono {I J:Imm} (h:I.le J) {x:V} (hr:RepV I v x):RepV J v x:=by
 induction hr with
 | bool b=>exact .bool b
 | int k n=>exact .int k n
 | str s l hs=>exact .str s l hs
 | agg cs xs hl h1 _ ih=>exact .agg cs xs hl h1 ih
 | tup cs xs hl _ ih=>exact .tup cs xs hl ih
 | slnil=>exact .slnil
 | sl0 a=>exact .sl0 a
 | sl b o len cap sz es vs hl hc hm hsz hcell _ ih =>
  exact .sl b o len cap sz es vs hl hc hm hsz (λi e j x h1 h2=>⟨Imm.cell_mono h (hcell i e j x h1 h2).1,(hcell i e j x h1 h2).2⟩) ih
 | iface t v x _ ih=>exact .iface t v x ih
 | niliface=>exact .niliface
 | nilp=>exact .nilp
 | nilmap=>exact .nilmap
 | nilsl=>exact .nilsl
 | nilfn=>exact .nilfn
 | fn f=>exact .fn f
 | ip b o t cs off vs hcell _ ih=>exact .ip b o t cs off vs (λj x h1=>⟨Imm.cell_mono h (hcell j x h1).1,(hcell j x h1).2⟩) ih
 | mapv b es clock kv hI hl hs _ _ ih1 ih2=>exact .mapv b es clock kv (h _ _ hI) hl hs ih1 ih2
 | clo f first cap xs ys hf hc _ _ ih1 ih2=>exact .clo f first cap xs ys hf hc ih1 ih2
def E6:Value->Nat->Prop
 | .pointer (some a),b=>a.block=b
 | .slice (some a) _ _,b=>a.block=b
 | .map (some c),b=>c=b
 | .agg cs,b=>∃a:Addr,.pointer (some a)∈cs.toList/\a.block=b
 | .tuple ⟨[_,.agg cs]⟩,b=>∃a:Addr,.pointer (some a)∈cs.toList/\a.block=b
 | _,_=>False
theorem DF {bs:List Nat} {k:Nat}:E6 (.agg (UU bs)) k↔k∈bs:=by
 simp only [E6,UU];constructor
 ·rintro ⟨a,h1,h2⟩;obtain ⟨b,hb,e⟩:=C2.1 h1;cases e;exact h2 ▸ hb
 ·intro h;exact ⟨⟨k,0,none⟩,C2.2 ⟨k,h,rfl⟩,rfl⟩
theorem C4 {bs:List Nat} {k:Nat}:E6 (X9 vs bs) k↔k∈bs:=DF
inductive RepD (I:Imm) (μ:Mu):Value->D->Prop where
 | undef (v:Value):RepD I μ v .undef
 | imm (v:Value) (x:V) (h:RepV I v x):RepD I μ v (.imm x)
 | nils:RepD I μ (.slice none 0 0) .nils
 | ref (b id off:Nat) (h:μ id=some (.pointer (some ⟨b,0,none⟩))):RepD I μ (.pointer (some ⟨b,off,none⟩)) (.ref id off)
 | ip (b o:Nat) (t:TypeId) (cs:List V) (off:Nat) (vs:Nat->Value)
   (hcell:∀(j:Nat) (x:V),cs[j]?=some x->I.cell b (o+j)=some (vs j)/\(vs j).oneCell'=true)
   (hrep:∀(j:Nat) (x:V),cs[j]?=some x->RepV I (vs j) x):RepD I μ (.pointer (some ⟨b,o+off,none⟩)) (.ip t cs off)
 | agg (cs:Array Value) (ds:List D) (hl:cs.size=ds.length) (h1:∀c∈cs.toList,c.oneCell'=true) (h:∀(i:Nat) (c:Value) (x:D),cs[i]?=some c->ds[i]?=some x->RepD I μ c x):RepD I μ (.agg cs) (.agg ds)
 | tup (cs:Array Value) (ds:List D) (hl:cs.size=ds.length) (h:∀(i:Nat) (c:Value) (x:D),cs[i]?=some c->ds[i]?=some x->RepD I μ c x):RepD I μ (.tuple cs) (.tup ds)
 | own (id len:Nat) (a:Option Addr) (cap:Nat) (h:μ id=some (.slice a len cap)):RepD I μ (.slice a len cap) (.own id len)
 | elp (b id len cap k sz f:Nat) (h:μ id=some (.slice (some ⟨b,0,none⟩) len cap)):RepD I μ (.pointer (some ⟨b,k*sz+f,none⟩)) (.elp id k sz f)
 | mapr (id b:Nat) (h:μ id=some (.map (some b))):RepD I μ (.map (some b)) (.mapr id)
 | iter (id b:Nat) (h:μ id=some (.pointer (some ⟨b,0,none⟩))):RepD I μ (.pointer (some ⟨b,0,none⟩)) (.iter id)
 | fn (f:Fn) (first cap:Array Value) (df dc:List D) (hf:first.size=df.length) (hc:cap.size=dc.length)
   (h1:∀(i:Nat) (c:Value) (x:D),first[i]?=some c->df[i]?=some x->RepD I μ c x) (h2:∀(i:Nat) (c:Value) (x:D),cap[i]?=some c->dc[i]?=some x->RepD I μ c x):RepD I μ (.func f first cap) (.fn f df dc)
 | iface (t:TypeId) (v:Value) (d:D) (h:RepD I μ v d):RepD I μ (.iface t v) (.iface t d)
 | guard (c want:Bool) (v:Value) (d:D) (h:c=want->RepD I μ v d) (hu:c≠want->v=Go.undef):RepD I μ v (.guard c want d)
 | clip (a:Option Addr) (len:Nat) (es:List (List V)) (h:RepV I (.slice a len len) (.sl es)):RepD I μ (.slice a len len) (.clip es)
 | slc (b id off len cap:Nat) (h:μ id=some (.pointer (some ⟨b,0,none⟩))) (hl:len<=cap) (hm:cap<=maxLen):RepD I μ (.slice (some ⟨b,off,none⟩) len cap) (.slc id off len cap)
 | yld (b id:Nat) (h:μ id=some (.func (.yield b) #[] #[])):RepD I μ (.func (.yield b) #[] #[]) (.yld id)
 | raw (v:Value) (h:v.oneCell'=true):RepD I μ v (.raw v)
 | hv (v:Value) (id i:Nat) (vs:List Value) (bs:List Nat) (h:μ id=some (X9 vs bs)) (hi:vs[i]?=some v) (h1:v.oneCell'=true):RepD I μ v (.hv id i)
theorem RepD.mono {I J:Imm} {μ ν:Mu} (h:I.le J) (hμ:μ.le ν) {d:D} (hr:RepD I μ v d):RepD J ν v d:=by
 induction hr with
 | undef v=>exact .undef v
 | imm v x hx=>exact .imm v x (hx.mono h)
 | nils=>exact .nils
 | ref b id off hm=>exact .ref b id off (hμ _ _ hm)
 | ip b o t cs off vs hcell hrep=>exact .ip b o t cs off vs (λj x h1=>⟨Imm.cell_mono h (hcell j x h1).1,(hcell j x h1).2⟩) (λj x h1=>(hrep j x h1).mono h)
 | agg cs ds hl h1 _ ih=>exact .agg cs ds hl h1 ih
 | tup cs ds hl _ ih=>exact .tup cs ds hl ih
 | own id len a cap hm=>exact .own id len a cap (hμ _ _ hm)
 | elp b id len cap k sz f hm=>exact .elp b id len cap k sz f (hμ _ _ hm)
 | mapr id b hm=>exact .mapr id b (hμ _ _ hm)
 | iter id b hm=>exact .iter id b (hμ _ _ hm)
 | fn f first cap df dc hf hc _ _ ih1 ih2=>exact .fn f first cap df dc hf hc ih1 ih2
 | iface t v d _ ih=>exact .iface t v d ih
 | guard c want v d _ hu ih=>exact .guard c want v d ih hu
 | clip a len es hr=>exact .clip a len es (hr.mono h)
 | slc b id off len cap hm hl hx=>exact .slc b id off len cap (hμ _ _ hm) hl hx
 | yld b id hm=>exact .yld b id (hμ _ _ hm)
 | raw v h=>exact .raw v h
 | hv v id i vs bs hm hi h1=>exact .hv v id i vs bs (hμ _ _ hm) hi h1
def V.one:V->Bool
 | .agg _ | .tup _=>false
 | _=>true
def D.one:D->Bool
 | .imm x=>x.one
 | .nils | .ref .. | .ip .. | .own .. | .elp .. | .mapr _ | .iter _ | .fn .. | .iface .. | .clip _ | .slc .. | .yld _ | .raw _ | .hv ..=>true
 | _=>false
theorem RepV.one {I:Imm} {x:V} (h:RepV I v x) (hx:x.one=true):v.oneCell'=true:=by
 cases h <;> first | rfl | (simp [V.one] at hx)
theorem RepD.one {I:Imm} {μ:Mu} {d:D} (h:RepD I μ v d) (hx:d.one=true):v.oneCell'=true:=by
 cases h <;> first | rfl | assumption | (simp [D.one] at hx;done) | exact RepV.one (by assumption) hx
def RepL (I:Imm) (μ:Mu) (vs:List Value) (ds:List D):Prop:=vs.length=ds.length/\∀(i:Nat) (v:Value) (d:D),vs[i]?=some v->ds[i]?=some d->RepD I μ v d
def RepVL (I:Imm) (vs:List Value) (xs:List V):Prop:=vs.length=xs.length/\∀(i:Nat) (v:Value) (x:V),vs[i]?=some v->xs[i]?=some x->RepV I v x
theorem RepL.mono {I J:Imm} {μ ν:Mu} (h:I.le J) (hμ:μ.le ν) {ds:List D} (hr:RepL I μ vs ds):RepL J ν vs ds :=
 ⟨hr.1,λi v d h1 h2=>(hr.2 i v d h1 h2).mono h hμ⟩
theorem RepVL.mono {I J:Imm} (h:I.le J) {xs:List V} (hr:RepVL I vs xs):RepVL J vs xs :=
 ⟨hr.1,λi v d h1 h2=>(hr.2 i v d h1 h2).mono h⟩
def BlkRep (I:Imm) (μ:Mu) (w:World) (g:Value):Blk->Prop
 | .immb t sz xs=>xs.length=sz/\∃b vs,g = .pointer (some ⟨b,0,none⟩)/\w.heap[b]?=some (.cells vs t (0,0))/\RepVL I vs.toList xs/\∀v∈vs.toList,v.oneCell'=true
 | .cells t sz cs=>cs.length=sz/\∃b vs,g = .pointer (some ⟨b,0,none⟩)/\w.heap[b]?=some (.cells vs t (0,0))/\RepL I μ vs.toList cs/\∀v∈vs.toList,v.oneCell'=true
 | .row t sz es=>∃xs,w.ownsRow 0 t sz g es.length xs/\RepVL I xs es.flatten/\(∀e∈es,e.length=sz)/\(∀e∈es,∀x∈e,V.one x=true)/\0<sz
 | .map kv=>∃b es clock,g = .map (some b)/\w.heap[b]?=some (.map es clock)/\es.size=kv.length/\MapKept.Stamped es clock /\
   ∀(i:Nat) (e:MapEntry) (p:V×V),es[i]?=some e->kv[i]?=some p->RepV I e.key p.1/\RepV I e.val p.2
 | .siter s pos=>∃b bs,g = .pointer (some ⟨b,0,none⟩)/\w.heap[b]?=some (.stringIter bs pos)/\bs.data.toList=s
 | .pin=>∃b,g = .func (.yield b) #[] #[]
 | .bun id S=>∃b bs,μ id=some (.func (.yield b) #[] #[])/\g = .agg (UU bs)/\S.P I w b bs
 | .hp A=>∃vs bs,g=X9 vs bs/\A.P vs I w bs
 | .adr id b=>g = .bool true/\μ id=some (.pointer (some ⟨b,0,none⟩))
 | .mapx kv b es clock=>g = .map (some b)/\w.heap[b]?=some (.map es clock)/\es.size=kv.length/\MapKept.Stamped es clock /\
   ∀(i:Nat) (e:MapEntry) (p:V×V),es[i]?=some e->kv[i]?=some p->RepV I e.key p.1/\RepV I e.val p.2
 | .miter b since seen c=>∃r,g = .pointer (some ⟨r,0,none⟩)/\w.heap[r]?=some (.mapIter (some b) since seen c)
theorem BlkRep.mono {I J:Imm} {μ ν:Mu} (h:I.le J) (hμ:μ.le ν) {blk:Blk} (hr:BlkRep I μ w g blk):BlkRep J ν w g blk:=by
 cases blk with
 | immb t sz xs=>obtain ⟨hs,b,vs,h1,h2,h3,h4⟩:=hr;exact ⟨hs,b,vs,h1,h2,h3.mono h,h4⟩
 | cells t sz cs=>obtain ⟨hs,b,vs,h1,h2,h3,h4⟩:=hr;exact ⟨hs,b,vs,h1,h2,h3.mono h hμ,h4⟩
 | row t sz es=>obtain ⟨xs,h1,h2,h3,h4,h5⟩:=hr;exact ⟨xs,h1,h2.mono h,h3,h4,h5⟩
 | map kv=>obtain ⟨b,es,clock,h1,h2,h3,h4,h5⟩:=hr;exact ⟨b,es,clock,h1,h2,h3,h4,λi e p a b=>⟨(h5 i e p a b).1.mono h,(h5 i e p a b).2.mono h⟩⟩
 | siter s pos=>exact hr
 | pin=>exact hr
 | bun id S=>obtain ⟨b,bs,h1,h2,h3⟩:=hr;exact ⟨b,bs,hμ _ _ h1,h2,S.mono h h3⟩
 | hp A=>obtain ⟨vs,bs,h1,h2⟩:=hr;exact ⟨vs,bs,h1,A.mono h h2⟩
 | adr id b=>exact ⟨hr.1,hμ _ _ hr.2⟩
 | mapx kv b es clock=>obtain ⟨h1,h2,h3,h4,h5⟩:=hr;exact ⟨h1,h2,h3,h4,λi e p a b=>⟨(h5 i e p a b).1.mono h,(h5 i e p a b).2.mono h⟩⟩
 | miter b since seen c=>exact hr
theorem BlkRep.world {I:Imm} {μ:Mu} {blk:Blk} (hr:BlkRep I μ w g blk) (h:∀b,E6 g b->w'.heap[b]?=w.heap[b]?):BlkRep I μ w' g blk:=by
 cases blk with
 | immb t sz xs=>obtain ⟨hs,b,vs,h1,h2,h3⟩:=hr;exact ⟨hs,b,vs,h1,(h b (by rw [h1];rfl)).trans h2,h3⟩
 | cells t sz cs=>obtain ⟨hs,b,vs,h1,h2,h3⟩:=hr;exact ⟨hs,b,vs,h1,(h b (by rw [h1];rfl)).trans h2,h3⟩
 | row t sz es =>
  obtain ⟨xs,⟨h1,h2⟩,h3⟩:=hr;refine ⟨xs,⟨h1,h2.imp id ?_⟩,h3⟩;rintro ⟨b,cap,cur,rfl,hb,hc,hr⟩;exact ⟨b,cap,cur,rfl,hb,(h b rfl).trans hc,hr⟩
 | map kv=>obtain ⟨b,es,clock,h1,h2,h3⟩:=hr;exact ⟨b,es,clock,h1,(h b (by rw [h1];rfl)).trans h2,h3⟩
 | siter s pos=>obtain ⟨b,bs,h1,h2,h3⟩:=hr;exact ⟨b,bs,h1,(h b (by rw [h1];rfl)).trans h2,h3⟩
 | pin=>exact hr
 | bun id S=>obtain ⟨b,bs,h1,h2,h3⟩:=hr;exact ⟨b,bs,h1,h2,S.loc (λk hk=>h k (by rw [h2];exact DF.2 hk)) h3⟩
 | hp A=>obtain ⟨vs,bs,h1,h2⟩:=hr;exact ⟨vs,bs,h1,A.loc (λk hk=>h k (by rw [h1];exact C4.2 hk)) h2⟩
 | adr id b=>exact hr
 | mapx kv b es clock=>obtain ⟨h1,h2,h3⟩:=hr;exact ⟨h1,(h b (by rw [h1];rfl)).trans h2,h3⟩
 | miter b since seen c=>obtain ⟨r,h1,h2⟩:=hr;exact ⟨r,h1,(h r (by rw [h1];rfl)).trans h2⟩
def A1 (st:St) (id:Nat) (blk:Blk):Prop:=lk st id=some (some blk)
structure StRep (I:Imm) (μ:Mu) (st:St) (ids:List Nat) (w:World):Prop where
 imm:I.ok w
 blk:∀id blk,A1 st id blk->∃g,μ id=some g/\BlkRep I μ w g blk
 apart:∀id blk g b,A1 st id blk->μ id=some g->E6 g b->I b=none/\b<w.heap.size
 inj:∀i j bi bj gi gj b,A1 st i bi->A1 st j bj->μ i=some gi->μ j=some gj->E6 gi b->E6 gj b->i=j
 nodup:ids.Nodup
 idsFree:∀id∈ids,μ id=none
def Bq (μ:Mu) (st:St) (b:Nat):Prop:=∃id blk g,A1 st id blk/\μ id=some g/\E6 g b
def mkD (r:Nat):Deferred:={ target:=.collected r,args:=#[] }
def MarksOk (I:Imm) (μ:Mu) (st:St) (w:World) (ds:List Deferred):Prop:=∃rs:List Nat,ds=rs.map mkD/\rs.Nodup/\∀r∈rs,w.heap[r]?=some (.deferred (some []))/\I r=none/\¬Bq μ st r
structure Conc (n:Nat) (I:Imm) (μ:Mu) (env:Env) (st:St) (ids:List Nat) (a:Act) (w:World):Prop extends StRep I μ st ids w where
 size:a.tmps.size=n
 env:∀t d,lk env t=some d->RepD I μ (a.tmps.getD t undef) d
 defers:MarksOk I μ st w a.defers
structure Ext (I:Imm) (μ:Mu) (st:St) (w:World) (I':Imm) (μ':Mu) (st':St) (w':World):Prop where
 imm:I.le I'
 os:w'.os=w.os
 tape:w'.tape=w.tape
 output:w'.output=w.output
 size:w.heap.size<=w'.heap.size
 block:∀b,b<w.heap.size->¬Bq μ st b->w'.heap[b]?=w.heap[b]?
 fresh:∀b,b<w.heap.size->Bq μ' st' b->Bq μ st b
 old:∀b,b<w.heap.size->¬Bq μ st b->I' b=I b
theorem Ext.refl (I:Imm) (μ:Mu) (st:St) (w:World):Ext I μ st w I μ st w :=
 ⟨I.le_refl,rfl,rfl,rfl,BQ _,λ_ _ _=>rfl,λ_ _ h=>h,λ_ _ _=>rfl⟩
theorem Ext.trans {I J K:Imm} {μ ν ρ:Mu} {s t u:St} {x y:World} (h:Ext I μ s w J ν t x) (k:Ext J ν t x K ρ u y):Ext I μ s w K ρ u y where
 imm:=Imm.le_trans h.imm k.imm
 os:=k.os.trans h.os
 tape:=k.tape.trans h.tape
 output:=k.output.trans h.output
 size:=wM h.size k.size
 block:=λb hb ho=>(k.block b (Z5 hb h.size) (λhx=>ho (h.fresh b hb hx))).trans (h.block b hb ho)
 fresh:=λb hb ho=>h.fresh b hb (k.fresh b (Z5 hb h.size) ho)
 old:=λb hb ho=>(k.old b (Z5 hb h.size) (λhx=>ho (h.fresh b hb hx))).trans (h.old b hb ho)
theorem Ext.drew (I:Imm) (μ:Mu) (st:St) (w:World):Ext I μ st w I μ st { w with drawn:=w.drawn+1 } :=
 ⟨I.le_refl,rfl,rfl,rfl,BQ _,λ_ _ _=>rfl,λ_ _ h=>h,λ_ _ _=>rfl⟩
theorem MarksOk.nil (I:Imm) (μ:Mu) (st:St) (w:World):MarksOk I μ st w []:=⟨[],rfl,.nil,λ_ h=>by simp at h⟩
theorem MarksOk.ext {I J:Imm} {μ ν:Mu} {s t:St} {x:World} (h:MarksOk I μ s w ds) (e:Ext I μ s w J ν t x):MarksOk J ν t x ds:=by
 obtain ⟨rs,h1,h2,h3⟩:=h;refine ⟨rs,h1,h2,λr hr=>?_⟩;obtain ⟨q1,q2,q3⟩:=h3 r hr;have hlt:r<w.heap.size:=(GY.1 q1).1;exact ⟨(e.block r hlt q3).trans q1,(e.old r hlt q3).trans q2,λho=>q3 (e.fresh r hlt ho)⟩
theorem Conc.drew {I:Imm} {μ:Mu} {env:Env} {st:St} (h:Conc n I μ env st ids a w) :
  Conc n I μ env st ids a { w with drawn:=w.drawn+1 } :=
 {imm:=h.imm,blk:=λid blk hl=>let ⟨g,h1,h2⟩:=h.blk id blk hl;⟨g,h1,h2.world (λ_ _=>rfl)⟩,apart:=h.apart,inj:=h.inj,idsFree:=h.idsFree,nodup:=h.nodup,
  size:=h.size,env:=h.env,defers:=h.defers }
inductive Sh where
 | bool
 | int (k:IntKind)
 | str
 | ptr (e:TypeId)
 | sl (e:TypeId)
 | map (k e:TypeId)
 | struct (fs:List (Nat×TypeId))
 | arr (n:Nat) (e:TypeId)
 | func
 | iface
 | other
structure TyI where
 sh:Sh
 agg:Bool
 size:Nat
 bytes:Nat
 zero:List D
abbrev TT:=List (Nat×TyI)
inductive EP where
 | p (d:D) (ob:List Prop)
 | r (d:D) (ob:List Prop)
 | no
inductive EE where
 | e (d:D) (st:St) (ids:List Nat) (ob:List Prop)
 | no
def of1:Value->Option V
 | .bool b=>some (.bool b)
 | .int k n=>some (.int k n)
 | .string s=>some (.str s.data.toList)
 | .slice none 0 0=>some (.sl [])
 | _=>none
def pL:List Value->Option (List V)
 | []=>some []
 | c::r=>match of1 c,pL r with
  | some x,some xs=>some (x::xs)
  | _,_=>none
def eG:Value->Option D
 | .bool b=>some (.imm (.bool b))
 | .int k n=>some (.imm (.int k n))
 | .string s=>some (.imm (.str s.data.toList))
 | .pointer none=>some (.imm .nilp)
 | .slice none 0 0=>some .nils
 | .map none=>some (.imm .nilmap)
 | .nilFunc=>some (.imm .nilfn)
 | .nilIface=>some (.imm .niliface)
 | .agg ⟨cs⟩=>match pL cs with
  | some xs=>some (.imm (.agg xs))
  | none=>none
 | _=>none
def Eg (env:Env):Operand->Option D
 | .tmp t=>lk env t
 | .const v=>eG v
 | .func f=>some (.imm (.fn (.func f)))
 | .global _=>none
def Jh:List Prop->List Prop->List Prop
 | [],b=>b
 | p::a,b=>p::Jh a b
def Ei (cx:Prop) (env:Env) (x:Operand) (k:D->List Prop->EP):EP :=
 match Eg env x with
 | some (.guard c w d)=>k d [cx->c=w]
 | some d=>k d []
 | none=>.no
def O8 (env:Env) (x:Operand) (k:D->EE):EE :=
 match Eg env x with
 | some (.guard _ _ _)=>.no
 | some d=>k d
 | none=>.no
def Ky:List D->Option (List V)
 | []=>some []
 | .imm x::r=>match Ky r with
  | some xs=>some (x::xs)
  | none=>none
 | _=>none
def FJ:List D->Option (List V)
 | []=>some []
 | .imm x::r=>match FJ r with
  | some xs=>some (x::xs)
  | none=>none
 | .nils::r=>match FJ r with
  | some xs=>some (.sl []::xs)
  | none=>none
 | _=>none
def In (ds:List D):D:=match Ky ds with
 | some xs=>.imm (.agg xs)
 | none=>.agg ds
def OV (t:TypeId) (sz:Nat) (ds:List D):Blk:=match Ky ds with
 | some xs=>.immb t sz xs
 | none=>.cells t sz ds
def zal:D->Option V
 | .imm x=>some x
 | .nils=>some (.sl [])
 | .agg ds=>match FJ ds with
  | some xs=>some (.agg xs)
  | none=>none
 | .ip t cs off=>some (.ip t cs off)
 | _=>none
def LP:List D->Option (List V)
 | []=>some []
 | d::r=>match zal d,LP r with
  | some x,some xs=>some (x::xs)
  | _,_=>none
def vI:D->Option V
 | .imm x=>some x
 | .nils=>some (.sl [])
 | .agg ds=>match FJ ds with
  | some xs=>some (.agg xs)
  | none=>none
 | .tup ds=>match LP ds with
  | some xs=>some (.tup xs)
  | none=>none
 | .ip t cs off=>some (.ip t cs off)
 | .clip es=>some (.sl es)
 | .fn f a b=>match LP a,LP b with
  | some xs,some ys=>some (.clo f xs ys)
  | _,_=>none
 | _=>none
def LR:List D->Option (List V)
 | []=>some []
 | d::r=>match vI d,LR r with
  | some x,some xs=>some (x::xs)
  | _,_=>none
def nC (t:TypeId) (sz:Nat):D->Option (Blk×List Prop)
 | .imm (.agg xs)=>some (.immb t sz xs,[xs.length=sz])
 | .imm (.tup _)=>none
 | .imm x=>match Nat.beq sz 1 with
  | true=>some (.immb t sz [x],[])
  | false=>none
 | .agg ds=>match Nat.beq ds.length sz with
  | true=>some (OV t sz ds,[])
  | false=>none
 | .tup _ | .guard .. | .undef=>none
 | d=>match Nat.beq sz 1 with
  | true=>some (.cells t sz [d],[])
  | false=>none
def Mz:D->Option (List D)
 | .imm (.agg xs)=>some (xs.map .imm)
 | .imm (.tup _)=>none
 | .agg ds=>some ds
 | .tup _ | .guard .. | .undef=>none
 | d=>some [d]
def sub {α:Type}:List α->Nat->Nat->Option (List α)
 | _,0,0=>some []
 | x::r,0,n+1=>match sub r 0 n with
  | some l=>some (x::l)
  | none=>none
 | _::r,o+1,n=>sub r o n
 | [],_,_=>none
def splice {α:Type}:List α->Nat->List α->Option (List α)
 | l,0,[]=>some l
 | _::r,0,y::ys=>match splice r 0 ys with
  | some l=>some (y::l)
  | none=>none
 | x::r,o+1,ys=>match splice r o ys with
  | some l=>some (x::l)
  | none=>none
 | [],_,_=>none
def zbu (op:BinOp):V->V->Option (V×List Prop)
 | .int k a,.int _ b=>match op with
  | .add=>some (.int k (k.wrap (a+b)),[])
  | .sub=>some (.int k (k.wrap (a-b)),[])
  | .mul=>some (.int k (k.wrap (a*b)),[])
  | .quo=>some (.int k (k.wrap (a.tdiv b)),[b≠0])
  | .rem=>some (.int k (a.tmod b),[b≠0])
  | .eql=>some (.bool (a == b),[])
  | .neq=>some (.bool (a != b),[])
  | .lss=>some (.bool (decide (a<b)),[])
  | .leq=>some (.bool (decide (a<=b)),[])
  | .gtr=>some (.bool (decide (a > b)),[])
  | .geq=>some (.bool (decide (a>=b)),[])
  | _=>none
 | .str a,.str b=>match op with
  | .add=>some (.str (a++b),[a.length+b.length<=9223372036854775807])
  | .eql=>some (.bool (a == b),[])
  | .neq=>some (.bool (!(a == b)),[])
  | .lss=>some (.bool (Op.bytesLess a b),[])
  | _=>none
 | _,_=>none
def Uc:D->Bool
 | .ref .. | .ip .. | .elp ..=>true
 | .raw (.pointer (some _))=>true
 | _=>false
def nR:V->V->Bool
 | .int k _,.int k' _=>decide (k=k')
 | .str _,.str _=>true
 | _,_=>false
def Qb:List (List V)->Option (List UInt8)
 | []=>some []
 | [.int .u8 n]::r=>match Qb r with
  | some l=>some (UInt8.ofNat n.toNat::l)
  | none=>none
 | _=>none
def elemOf (sz:Nat):D->Option (List V×List Prop)
 | .imm (.agg xs)=>some (xs,[xs.length=sz])
 | .imm (.tup _)=>none
 | .imm x=>match Nat.beq sz 1 with
  | true=>some ([x],[])
  | false=>none
 | .nils=>match Nat.beq sz 1 with
  | true=>some ([.sl []],[])
  | false=>none
 | .agg ds=>match FJ ds with
  | some xs=>some (xs,[xs.length=sz])
  | none=>none
 | _=>none
def Iu (cx:Prop) (env:Env) (sz:Nat):Nat->List (Nat×Operand)->Option (List (List V)×List Prop)
 | _,[]=>some ([],[])
 | i,(j,x)::r=>match Nat.beq i j,Eg env x with
  | true,some (.guard c w d)=>match elemOf sz d,Iu cx env sz (i+1) r with
   | some (e,o),some (es,o')=>some (e::es,(cx->c=w)::Jh o o')
   | _,_=>none
  | true,some d=>match elemOf sz d,Iu cx env sz (i+1) r with
   | some (e,o),some (es,o')=>some (e::es,Jh o o')
   | _,_=>none
  | _,_=>none
inductive Ch where
 | v1 (x:V)
 | vs (xs:List V)
 | d1 (d:D)
 | ds (ds:List D)
inductive Acc where
 | e
 | v (xs:List V)
 | d (ds:List D)
def Rr:Ch->Acc->Acc
 | .v1 x,.e=>.v [x]
 | .v1 x,.v ys=>.v (x::ys)
 | .v1 x,.d ds=>.d (.imm x::ds)
 | .vs xs,.e=>.v xs
 | .vs xs,.v ys=>.v (xs++ys)
 | .vs xs,.d ds=>.d (xs.map .imm++ds)
 | .d1 d,.e=>.d [d]
 | .d1 d,.v ys=>.d (d::ys.map .imm)
 | .d1 d,.d ds=>.d (d::ds)
 | .ds l,.e=>.d l
 | .ds l,.v ys=>.d (l++ys.map .imm)
 | .ds l,.d ds=>.d (l++ds)
def zbr (sz:Nat):D->Option (Ch×List Prop)
 | .imm (.agg xs)=>some (.vs xs,[xs.length=sz])
 | .imm (.tup _)=>none
 | .imm x=>match Nat.beq sz 1 with
  | true=>some (.v1 x,[])
  | false=>none
 | .agg ds=>some (.ds ds,[ds.length=sz])
 | .tup _ | .guard .. | .undef=>none
 | d=>match Nat.beq sz 1 with
  | true=>some (.d1 d,[])
  | false=>none
def cJ (ds:List D):Ch:=match Ky ds with
 | some [x]=>.v1 x
 | some xs=>.vs xs
 | none=>match ds with
  | [d]=>.d1 d
  | ds=>.ds ds
def Cv:List (Nat×Operand)->Nat->Option Operand
 | [],_=>none
 | (i,x)::r,j=>match Nat.beq i j with
  | true=>some x
  | false=>Cv r j
def MD (n:Nat):List (Nat×Operand)->Bool
 | []=>true
 | (i,_)::r=>match Nat.blt i n,Cv r i with
  | true,none=>MD n r
  | _,_=>false
def Oy (tt:TT) (env:Env) (z:List D) (parts:List (Nat×Operand)):Nat->Nat->List (Nat×TypeId)->Option (Acc×List Prop)
 | _,off,[]=>match Nat.beq off z.length with
  | true=>some (.e,[])
  | false=>none
 | i,off,(fo,ft)::r=>match Nat.beq fo off,lk tt ft with
  | true,some ti=>match Oy tt env z parts (i+1) (off+ti.size) r with
   | some (acc,o)=>match Cv parts i with
    | some x=>match Eg env x with
     | some d=>match zbr ti.size d with
      | some (c,o')=>some (Rr c acc,Jh o' o)
      | none=>none
     | none=>none
    | none=>match sub z off ti.size with
     | some ds=>some (Rr (cJ ds) acc,o)
     | none=>none
   | none=>none
  | _,_=>none
def bS (env:Env):List Operand->Option (List D)
 | []=>some []
 | x::r=>match Eg env x,bS env r with
  | some (.guard ..),_=>none
  | some d,some ds=>some (d::ds)
  | _,_=>none
def pK (x:Option V) (ob:List Prop) (f:D->List Prop->EP):EP:=match x with
 | some x=>f (.imm x) ob
 | none=>.no
def MX (i:TyI) (same:Bool) (xs:List V) (off:Nat):Option D :=
 match i.agg,same,off with
 | true,true,0=>some (.imm (.agg xs))
 | true,_,off=>match sub xs off i.size with
  | some l=>some (.imm (.agg l))
  | none=>none
 | false,_,off=>match Ms xs off with
  | some x=>some (.imm x)
  | none=>none
def HO (i:TyI) (same:Bool) (cs:List D) (off:Nat):Option D :=
 match i.agg,same,off with
 | true,true,0=>some (In cs)
 | true,_,off=>match sub cs off i.size with
  | some l=>some (In l)
  | none=>none
 | false,_,off=>Ms cs off
def Oz (a b:Nat):Nat:=match a with
 | 0=>b
 | _=>a+b
def bsD:List (List V)->D
 | []=>.clip []
 | es=>.imm (.sl es)
def Hd (tt:TT) (cx:Prop) (env:Env) (st:St) (op:Op):EP :=
 match op with
 | .move x=>Ei cx env x λd o=>.p d o
 | .assign x=>Ei cx env x λd o=>.p d o
 | .nilCheck x=>Ei cx env x λd o=>match Uc d with
  | true=>.p d o
  | false=>match d with
   | .fn (.func f) a b=>.p (.fn (.func f) a b) o
   | .imm (.fn (.func f))=>.p (.imm (.fn (.func f))) o
   | .imm (.ip t cs off)=>.p (.ip t cs off) o
   | _=>.no
 | .pick c a b=>match Eg env c,Eg env a,Eg env b with
  | some (.imm (.bool c)),some (.imm (.bool a)),some (.imm (.bool b))=>.p (.imm (.bool (bif c then a else b))) []
  | some (.imm (.bool c)),some (.imm (.bool a)),some (.guard c' w (.imm (.bool b)))=>.p (.imm (.bool (bif c then a else b))) [cx->c=false->c'=w]
  | some (.imm (.bool c)),some (.guard c' w (.imm (.bool a))),some (.imm (.bool b))=>.p (.imm (.bool (bif c then a else b))) [cx->c=true->c'=w]
  | some (.guard g w (.imm (.bool c))),some (.imm (.bool a)),some (.guard c' w' (.imm (.bool b)))=>.p (.imm (.bool (bif c then a else b))) [cx->g=w,cx->c=false->c'=w']
  | some (.guard g w (.imm (.bool c))),some (.guard c' w' (.imm (.bool a))),some (.imm (.bool b))=>.p (.imm (.bool (bif c then a else b))) [cx->g=w,cx->c=true->c'=w']
  | _,_,_=>.no
 | .binOp op t x y _=>Ei cx env x λdx ox=>Ei cx env y λdy oy=>match dx,dy with
  | .imm (.bool a),.imm (.bool b)=>match lk tt t,op with
   | some { sh:=.bool,.. },.eql=>.p (.imm (.bool (a == b))) (Jh ox oy)
   | some { sh:=.bool,.. },.neq=>.p (.imm (.bool (!(a == b)))) (Jh ox oy)
   | _,_=>.no
  | .imm .nilp,.imm .nilp=>match lk tt t,op with
   | some { sh:=.ptr _,.. },.eql=>.p (.imm (.bool true)) (Jh ox oy)
   | some { sh:=.ptr _,.. },.neq=>.p (.imm (.bool false)) (Jh ox oy)
   | _,_=>.no
  | .imm a,.imm b=>match nR a b,zbu op a b with
   | true,some (v,o)=>.p (.imm v) (Jh (o.map (cx -> ·)) (Jh ox oy))
   | _,_=>.no
  | dx,.imm .nilp=>match Uc dx,lk tt t,op with
   | true,some { sh:=.ptr _,.. },.eql=>.p (.imm (.bool false)) (Jh ox oy)
   | true,some { sh:=.ptr _,.. },.neq=>.p (.imm (.bool true)) (Jh ox oy)
   | _,_,_=>.no
  | _,_=>.no
 | .unOp .not _ x=>Ei cx env x λd o=>match d with
  | .imm (.bool b)=>.p (.imm (.bool (!b))) o
  | _=>.no
 | .unOp .neg _ x=>Ei cx env x λd o=>match d with
  | .imm (.int k n)=>.p (.imm (.int k (k.wrap (0-n)))) o
  | _=>.no
 | .convert s t x=>Ei cx env x λd o=>match lk tt s,lk tt t,d with
  | some { sh:=.int _,.. },some { sh:=.int k,.. },.imm (.int _ n)=>.p (.imm (.int k (k.wrap n))) o
  | some { sh:=.sl e,.. },some { sh:=.str,.. },.imm (.sl es)=>match lk tt e,Qb es with
   | some { sh:=.int .u8,.. },some l=>.p (.imm (.str l)) o
   | _,_=>.no
  | some { sh:=.int _,.. },some { sh:=.str,.. },.imm (.int _ n)=>.p (.imm (.str [UInt8.ofNat n.toNat])) ((cx->0<=n/\n<128)::o)
  | _,_,_=>.no
 | .fieldAddr s x f=>Ei cx env x λd o=>match d,lk tt s with
  | .ref id off,some { sh:=.struct fs,.. }=>match Ms fs f with
   | some (fo,_)=>.p (.ref id (Oz off fo)) o
   | none=>.no
  | .ip t cs off,some { sh:=.struct fs,.. }=>match Ms fs f with
   | some (fo,_)=>.p (.ip t cs (Oz off fo)) o
   | none=>.no
  | .elp id k sz off,some { sh:=.struct fs,.. }=>match Ms fs f with
   | some (fo,_)=>.p (.elp id k sz (Oz off fo)) o
   | none=>.no
  | .raw (.pointer (some ⟨b,off,none⟩)),some { sh:=.struct fs,.. }=>match Ms fs f with
   | some (fo,_)=>.p (.raw (.pointer (some ⟨b,Oz off fo,none⟩))) o
   | none=>.no
  | _,_=>.no
 | .load t x=>Ei cx env x λd o=>match d,lk tt t with
  | .ref id off,some i=>match lk st id with
   | some (some (.immb _ sz xs))=>match MX i (Nat.beq sz i.size) xs off with
    | some d=>.r d o
    | none=>.no
   | some (some (.cells _ sz cs))=>match HO i (Nat.beq sz i.size) cs off with
    | some d=>.r d o
    | none=>.no
   | _=>.no
  | .ip bt cs off,some i=>match MX i (Nat.beq t bt) cs off with
   | some d=>match i.agg,Nat.beq t bt,off with
    | true,true,0=>.p d ((cx->cs.length=i.size)::o)
    | _,_,_=>.p d o
   | none=>.no
  | _,_=>.no
 | .field t x f=>Ei cx env x λd o=>match d,lk tt t with
  | .imm (.agg xs),some { sh:=.struct fs,.. }=>match Ms fs f with
   | some (fo,ft)=>match lk tt ft with
    | some i=>match MX i false xs fo with
     | some d=>.p d o
     | none=>.no
    | none=>.no
   | none=>.no
  | .agg xs,some { sh:=.struct fs,.. }=>match Ms fs f with
   | some (fo,ft)=>match lk tt ft with
    | some i=>match HO i false xs fo with
     | some d=>.p d o
     | none=>.no
    | none=>.no
   | none=>.no
  | _,_=>.no
 | .extract x i=>Ei cx env x λd o=>match d with
  | .imm (.tup xs)=>pK (Ms xs i) o .p
  | .tup ds=>match Ms ds i with
   | some d=>.p d o
   | none=>.no
  | _=>.no
 | .index t x y=>Ei cx env x λdx ox=>Ei cx env y λdy oy=>match dx,dy,lk tt t with
  | .imm (.str s),.imm (.int _ i),some { sh:=.str,.. }=>.p (.imm (.int .u8 (s.getD i.toNat 0).toNat)) ((cx->0<=i/\i<s.length)::Jh ox oy)
  | _,_,_=>.no
 | .slice t x lo hi none=>Ei cx env x λd o=>match d,lo,hi with
  | .imm (.str s),some a,some b=>Ei cx env a λda oa=>Ei cx env b λdb ob=>match da,db,lk tt t with
   | .imm (.int _ a),.imm (.int _ b),some { sh:=.str,.. }=>.p (.imm (.str ((s.drop a.toNat).take (b.toNat-a.toNat)))) ((cx->0<=a/\a<=b/\b<=s.length)::Jh o (Jh oa ob))
   | _,_,_=>.no
  | .imm (.str s),some a,none=>Ei cx env a λda oa=>match da,lk tt t with
   | .imm (.int _ a),some { sh:=.str,.. }=>.p (.imm (.str (s.drop a.toNat))) ((cx->0<=a/\a<=s.length)::Jh o oa)
   | _,_=>.no
  | .imm (.str s),none,some b=>Ei cx env b λdb ob=>match db,lk tt t with
   | .imm (.int _ b),some { sh:=.str,.. }=>.p (.imm (.str (s.take b.toNat))) ((cx->0<=b/\b<=s.length)::Jh o ob)
   | _,_=>.no
  | .imm (.sl es),some a,some b=>Ei cx env a λda oa=>Ei cx env b λdb ob=>match da,db,lk tt t with
   | .imm (.int _ a),.imm (.int _ b),some { sh:=.sl e,.. }=>match lk tt e with
    | some i=>.p (.imm (.sl ((es.drop a.toNat).take (b.toNat-a.toNat)))) ((cx->0<=a/\a<=b/\b<=es.length)::(∀c∈es,c.length=i.size)::Jh o (Jh oa ob))
    | none=>.no
   | _,_,_=>.no
  | .imm (.sl es),some a,none=>Ei cx env a λda oa=>match da,lk tt t with
   | .imm (.int _ a),some { sh:=.sl e,.. }=>match lk tt e with
    | some i=>.p (.imm (.sl (es.drop a.toNat))) ((cx->0<=a/\a<=es.length)::(∀c∈es,c.length=i.size)::Jh o oa)
    | none=>.no
   | _,_=>.no
  | .imm (.sl es),none,some b=>Ei cx env b λdb ob=>match db,lk tt t with
   | .imm (.int _ b),some { sh:=.sl e,.. }=>match lk tt e with
    | some i=>.p (.imm (.sl (es.take b.toNat))) ((cx->0<=b/\b<=es.length)::(∀c∈es,c.length=i.size)::Jh o ob)
    | none=>.no
   | _,_=>.no
  | _,_,_=>.no
 | .build t ⟨parts⟩=>match lk tt t with
  | some { sh:=.struct fs,zero:=z,.. }=>match Oy tt env z parts 0 0 fs,MD fs.length parts with
   | some (.v xs,o),true=>.p (.imm (.agg xs)) o
   | some (.d ds,o),true=>.p (.agg ds) o
   | some (.e,o),true=>.p (.imm (.agg [])) o
   | _,_=>.no
  | _=>.no
 | .buildSlice t n ⟨parts⟩=>match lk tt t with
  | some { sh:=.sl e,.. }=>match lk tt e with
   | some i=>match Iu cx env i.size 0 parts,Nat.beq n parts.length,Nat.ble (n*i.size) 16777216,Nat.blt 0 i.size with
    | some (es,o),true,true,true=>.p (bsD es) o
    | _,_,_,_=>.no
   | none=>.no
  | _=>.no
 | .makeInterface t x=>Ei cx env x λd o=>match lk tt t with
  | some { sh:=.iface,.. } | some { sh:=.other,.. } | none=>.no
  | _=>match d with
   | .imm x=>.p (.imm (.iface t x)) o
   | d=>.p (.iface t d) o
 | .makeFunc f ⟨a⟩ ⟨b⟩=>match bS env a,bS env b with
  | some [],some []=>.p (.imm (.fn f)) []
  | some da,some db=>.p (.fn f da db) []
  | _,_=>.no
 | .call { callee:=.builtin .len,args:=⟨[x]⟩,argTypes:=⟨[t]⟩ }=>Ei cx env x λd o=>match d,lk tt t with
  | .imm (.sl es),some { sh:=.sl _,.. }=>.p (.imm (.int .i64 es.length)) o
  | .imm (.str s),some { sh:=.str,.. }=>.p (.imm (.int .i64 s.length)) o
  | .nils,some { sh:=.sl _,.. }=>.p (.imm (.int .i64 0)) o
  | .own _ n,some { sh:=.sl _,.. }=>.p (.imm (.int .i64 n)) o
  | .raw (.slice _ n _),some { sh:=.sl _,.. }=>.p (.imm (.int .i64 n)) o
  | .mapr id,some { sh:=.map _ _,.. }=>match lk st id with
   | some (some (.map kv))=>.r (.imm (.int .i64 kv.length)) o
   | _=>.no
  | _,_=>.no
 | .call { callee:=.builtin .max,args:=⟨[x,y]⟩,.. }=>Ei cx env x λdx ox=>Ei cx env y λdy oy=>match dx,dy with
  | .imm (.int k a),.imm (.int _ b)=>.p (.imm (.int k (if b > a then b else a))) (Jh ox oy)
  | _,_=>.no
 | .call { callee:=.builtin .min,args:=⟨[x,y]⟩,.. }=>Ei cx env x λdx ox=>Ei cx env y λdy oy=>match dx,dy with
  | .imm (.int k a),.imm (.int _ b)=>.p (.imm (.int k (if b<a then b else a))) (Jh ox oy)
  | _,_=>.no
 | _=>.no
def bU (tt:TT) (env:Env) (st:St) (ids:List Nat) (op:Op):EE :=
 match op with
 | .box t x=>O8 env x λd=>match lk tt t,ids with
  | some i,id::ids=>match nC t i.size d with
   | some (blk,ob)=>.e (.ref id 0) ((id,some blk)::st) ids ob
   | none=>.no
  | _,_=>.no
 | .alloc t=>match lk tt t,ids with
  | some i,id::ids=>match Nat.beq i.zero.length i.size with
   | true=>.e (.ref id 0) ((id,some (OV t i.size i.zero))::st) ids []
   | false=>.no
  | _,_=>.no
 | .store t a x=>O8 env a λda=>O8 env x λd=>match da,lk tt t with
  | .ref id off,some i=>match lk st id with
   | some (some (.immb bt sz xs))=>match Nat.beq sz i.size,off,d with
    | true,0,.imm (.agg ys)=>.e .undef ((id,some (.immb bt sz ys))::st) ids [ys.length=sz]
    | _,off,d=>match Mz d with
     | some cs=>match splice (xs.map .imm) off cs,Nat.beq cs.length i.size with
      | some l,true=>.e .undef ((id,some (OV bt sz l))::st) ids []
      | _,_=>.no
     | none=>.no
   | some (some (.cells bt sz ds))=>match Nat.beq sz i.size,off,d with
    | true,0,.imm (.agg ys)=>.e .undef ((id,some (.immb bt sz ys))::st) ids [ys.length=sz]
    | _,off,d=>match Mz d with
     | some cs=>match splice ds off cs,Nat.beq cs.length i.size with
      | some l,true=>.e .undef ((id,some (OV bt sz l))::st) ids []
      | _,_=>.no
     | none=>.no
   | _=>.no
  | _,_=>.no
 | _=>.no
inductive DI where
 | code (c:Code)
 | inBlock (id:Nat)
 | inLoop (c:Code)
 | inScope (c:Code)
 | ops (all rest:List Oper)
 | dops (all rest:List Oper) (fs:List (List Nat×List Nat))
def KA (id:Nat):List DI->Option (List DI)
 | .inBlock id'::k=>match Nat.beq id' id with
  | true=>some k
  | false=>KA id k
 | _::k=>KA id k
 | []=>none
inductive S1 where
 | y (read:Bool) (env:Env) (ob:List Prop)
 | e (env:Env) (st:St) (ids:List Nat) (ob:List Prop)
 | no
def NQ (n:Nat) (dst:Option Nat) (d:D) (env:Env) (k:Env->S1):S1:=match dst with
 | some t=>match Nat.blt t n with
  | true=>k ((t,d)::env)
  | false=>.no
 | none=>k env
def ctl:Option D->Bool->Option Bool
 | some (.imm (.bool c)),_=>some c
 | some (.guard c' w' (.imm (.bool b))),w=>some (bif c' == w' then b else !w)
 | _,_=>none
def FL (tt:TT) (n:Nat) (all:List Oper) (o:Oper) (env:Env) (st:St) (ids:List Nat):S1 :=
 match o.guard with
 | none=>match Hd tt True env st o.op with
  | .p d ob=>NQ n o.dst d env λenv=>.y false env ob
  | .r d ob=>NQ n o.dst d env λenv=>.y true env ob
  | .no=>match bU tt env st ids o.op with
   | .e d st' ids' ob=>NQ n o.dst d env λenv=>.e env st' ids' ob
   | .no=>.no
 | some (j,w)=>match Ms all j with
  | some { dst:=some g,.. }=>match ctl (lk env g) w with
   | some c=>match Hd tt (c=w) env st o.op with
    | .p d ob=>NQ n o.dst (.guard c w d) env λenv=>.y false env ob
    | .r d ob=>NQ n o.dst (.guard c w d) env λenv=>.y true env ob
    | .no=>.no
   | _=>.no
  | _=>.no
def A4:List Prop->Prop
 | []=>True
 | p::r=>p/\A4 r
theorem RZ:∀(a b:List Prop),A4 (Jh a b)↔A4 a/\A4 b
 | [],b=>by simp [Jh,A4]
 | p::a,b=>by simp [Jh,A4,RZ a b,and_assoc]
def PL (P:Program) (t:TypeId):Sh->Prop
 | .bool=>P.underlying t=some .bool
 | .int k=>P.underlying t=some (.int k)
 | .str=>P.underlying t=some .string
 | .ptr e=>P.underlying t=some (.pointer e)
 | .sl e=>P.underlying t=some (.slice e)
 | .map k e=>P.underlying t=some (.map k e)
 | .struct fs=>∃fields,P.underlying t=some (.struct fields)/\fields.toList.map (λf=>(f.offset,f.type))=fs/\∀f∈fields.toList,0<P.cellsOf f.type
 | .arr n e=>P.underlying t=some (.array n e)
 | .func=>∃a b c,P.underlying t=some (.func a b c)
 | .iface=>∃ms,P.underlying t=some (.interface ms)
 | .other=>True
structure TyOk (P:Program) (t:TypeId) (i:TyI):Prop where
 info:∃inf z,P.info? t=some inf/\inf.size=i.size/\inf.bytes=i.bytes/\inf.zero=some z /\
  (∀I μ,RepL I μ z.cells.toList i.zero)/\(∀v∈z.cells.toList,v.oneCell'=true)
 agg:(Go.isAgg t).run P=λw=>.ok i.agg w
 sh:PL P t i.sh
def TTok (P:Program) (tt:TT):Prop:=∀t i,lk tt t=some i->TyOk P t i
theorem TyOk.sizeOf {i:TyI} (h:TyOk P t i) (w:World):(Go.sizeOf t).run P w = .ok i.size w:=by
 obtain ⟨inf,z,h1,h2,_⟩:=h.info;simp [Go.sizeOf,typeInfo,h1,h2]
theorem TyOk.cellsOf {i:TyI} (h:TyOk P t i):P.cellsOf t=i.size:=by
 obtain ⟨inf,z,h1,h2,_⟩:=h.info;simp [Program.cellsOf,h1,h2]
theorem TyOk.isAgg {i:TyI} (h:TyOk P t i) (w:World):(Go.isAgg t).run P w = .ok i.agg w:=by
 have:=congrFun h.agg w;exact this
def JN (ts:List Nat) (I:Imm) (μ:Mu) (env:Env) (a:Act):Prop:=∀t∈ts,∀d,lk env t=some d->RepD I μ (a.tmps.getD t undef) d
def valR (P:Program) (r:Result Next) (K:Value->World->Prop):Prop :=
 match r with
 | .ok (.value v) w=>K v w
 | .ok .skip w=>K undef w
 | .ok (.enter f args) w=>Calls P f args w λe w'=>match e with
  | .returned v=>K v w'
  | _=>False
 | _=>False
theorem valR.mono (hk:∀v w,K v w->K' v w) (h:valR P r K):valR P r K':=by
 unfold valR at *
 split at h
 ·exact hk _ _ h
 ·exact hk _ _ h
 ·exact Calls.mono h (λe w' he=>by cases e <;> first | exact hk _ _ he | exact he)
 ·exact h.elim
def YD (P:Program) (all:List Oper) (o:Oper) (env:Env) (st:St) (d:D):Prop :=
 ∀I μ ids a w,StRep I μ st ids w->JN (o.looksAt all.toArray) I μ env a ->
  (Region.wanted o (yielded all.toArray a.tmps)=true ->
   valR P ((execOp a.eval o).run P w) λv w'=>∃I',StRep I' μ st ids w'/\RepD I' μ v d/\Ext I μ st w I' μ st w') /\
  (Region.wanted o (yielded all.toArray a.tmps)=false->RepD I μ undef d)
def ED (P:Program) (all:List Oper) (o:Oper) (env:Env) (st:St) (ids:List Nat) (d:D) (st':St) (ids':List Nat):Prop :=
 ∀I μ a w,StRep I μ st ids w->JN (o.looksAt all.toArray) I μ env a->Region.wanted o (yielded all.toArray a.tmps)=true /\
   valR P ((execOp a.eval o).run P w) λv w'=>∃I' μ',StRep I' μ' st' ids' w'/\RepD I' μ' v d/\μ.le μ'/\Ext I μ st w I' μ' st' w'
theorem vZ {x:V} (h:of1 v=some x) (I:Imm):RepV I v x/\v.oneCell'=true:=by
 unfold of1 at h
 split at h <;> first
  | (cases h;exact ⟨.str _ _ rfl,rfl⟩)
  | (cases h;exact ⟨.bool _,rfl⟩)
  | (cases h;exact ⟨.int _ _,rfl⟩)
  | (cases h;exact ⟨.slnil,rfl⟩)
  | cases h
theorem WP:∀{cs:List Value} {xs:List V},pL cs=some xs->∀I:Imm,cs.length=xs.length/\(∀c∈cs,c.oneCell'=true)/\∀(i:Nat) (c:Value) (x:V),cs[i]?=some c->xs[i]?=some x->RepV I c x
 | [],xs,h,I=>by
  simp only [pL,Ce] at h;subst h;exact ⟨rfl,(λ_ hc=>nomatch hc),(λi c x hc _=>by simp at hc)⟩
 | c::r,xs,h,I=>by
  simp only [pL] at h
  split at h
  ·rename_i x xs' h1 h2;cases h;obtain ⟨q1,q2,q3⟩:=WP h2 I;obtain ⟨p1,p2⟩:=vZ h1 I;refine ⟨by simp [q1],λy hy=>(Cy.1 hy).elim (λe=>e ▸ p2) (q2 y),λi y z hy hz=>?_⟩
   match i,hy,hz with
   | 0,hy,hz=>cases hy;cases hz;exact p1
   | i+1,hy,hz=>exact q3 i y z (by simpa using hy) (by simpa using hz)
  ·cases h
theorem TF {d:D} (h:eG v=some d) (I:Imm) (μ:Mu):RepD I μ v d:=by
 unfold eG at h
 split at h <;> first
  | (cases h;exact .imm _ _ (.str _ _ rfl))
  | (cases h;exact .nils)
  | (cases h;exact .imm _ _ (.bool _))
  | (cases h;exact .imm _ _ (.int _ _))
  | (cases h;exact .imm _ _ .nilp)
  | (cases h;exact .imm _ _ .nilmap)
  | (cases h;exact .imm _ _ .nilfn)
  | (cases h;exact .imm _ _ .niliface)
  | (split at h
     ·rename_i h1;cases h;obtain ⟨q1,q2,q3⟩:=WP h1 I;exact .imm _ _ (.agg _ _ (by simpa using q1) (by simpa using q2) λi c x hc hx=>q3 i c x (by simpa using hc) hx)
     ·cases h)
  | cases h
theorem VE {I:Imm} {μ:Mu} {env:Env} {x:Operand} {d:D} (h:Eg env x=some d) (hx:∀t,x = .tmp t->∀d,lk env t=some d->RepD I μ (a.tmps.getD t undef) d):RepD I μ (a.eval x) d:=by
 cases x with
 | tmp t=>exact hx t rfl d h
 | const v=>exact TF h I μ
 | func f=>cases h;exact .imm _ _ (.fn _)
 | global g=>cases h
def DR (I:Imm) (μ:Mu) (env:Env) (a:Act) (op:Op):Prop:=∀x∈op.operands.toList,∀d,Eg env x=some d->RepD I μ (a.eval x) d
theorem Bj {all:Array Oper} {I:Imm} {μ:Mu} {env:Env} (h:JN (o.looksAt all) I μ env a):DR I μ env a o.op:=by
 intro x hx d hd;refine VE hd λt ht d hl=>h t ?_ d hl;unfold Oper.looksAt;refine BN.2 (.inl (List.mem_filterMap.2 ⟨x,hx,by rw [ht]⟩))
def Fk:EP->Option (D×List Prop)
 | .p d ob=>some (d,ob)
 | .r d ob=>some (d,ob)
 | .no=>none
theorem mU {env:Env} {x:Operand} {k:D->List Prop->EP} {q:D×List Prop} (h:Fk (Ei cx env x k)=some q) :
  ∃d dx o,Eg env x=some dx/\Fk (k d o)=some q/\∀I μ v,RepD I μ v dx->A4 o->cx->RepD I μ v d:=by
 unfold Ei at h
 split at h
 ·rename_i c w d hd;refine ⟨d,_,_,hd,h,λI μ v hv ho hc=>?_⟩;cases hv with
  | guard _ _ _ _ hg=>exact hg (ho.1 hc)
 ·rename_i d hne hd;exact ⟨d,d,[],hd,h,λI μ v hv _ _=>hv⟩
 ·cases h
section
variable {tt:TT}
theorem RepD.immInv {I:Imm} {μ:Mu} {x:V} (h:RepD I μ v (.imm x)):RepV I v x:=by cases h;assumption
theorem RepV.intInv {I:Imm} {k:IntKind} {n:Int} (h:RepV I v (.int k n)):v = .int k n:=by cases h;rfl
theorem RepV.boolInv {I:Imm} {b:Bool} (h:RepV I v (.bool b)):v = .bool b:=by cases h;rfl
theorem RepV.strInv {I:Imm} {l:List UInt8} (h:RepV I v (.str l)):∃s:ByteArray,v = .string s/\s.data.toList=l:=by cases h;exact ⟨_,rfl,by assumption⟩
theorem D4 (op:BinOp) (t:TypeId) (x y:Operand) (a b:Value) (h:∀cs,a ≠ .agg cs) (h':a ≠ .nilIface):(eqGuard op t x y a b).run P w = .ok () w:=by
 unfold eqGuard;cases op <;> simp
 all_goals
  cases a <;> first
   | rfl
   | exact absurd rfl h'
   | exact absurd rfl (h _)
theorem tY {op:BinOp} {a b x:V} {va vb:Value} {I:Imm} (t:TypeId) (xo yo:Operand) (ha:RepV I va a) (hb:RepV I vb b) (hk:nR a b=true) (h:zbu op a b=some (x,ob)) (hob:A4 ob) :
  ∃v,(do eqGuard op t xo yo va vb;binOp op t va vb:Sem Value).run P w = .ok v w/\RepV I v x:=by
 unfold zbu at h
 split at h
 ·rename_i k n k' m;have hkk:k=k':=by simpa [nR] using hk
  subst hkk;obtain rfl:=ha.intInv;obtain rfl:=hb.intInv;have hg:=D4 (P:=P) (w:=w) op t xo yo (.int k n) (.int k m) (by simp) (by simp)
  split at h <;> simp only [Ce,Bc,reduceCtorEq] at h
  all_goals
   obtain ⟨rfl,rfl⟩:=h;simp only [Sem.run_bind,hg,Result.andThen_ok]
  case h_4=>have hm:m≠0:=hob.1;exact ⟨_,by simp [binOp,Op.intDiv,hm],.int _ _⟩
  case h_5=>have hm:m≠0:=hob.1;exact ⟨_,by simp [binOp,Op.intDiv,hm],.int _ _⟩
  all_goals first
   | (refine ⟨_,?_,.int _ _⟩;simp [binOp,Op.intArith];done)
   | (refine ⟨_,?_,.bool _⟩;simp [binOp,Op.intCmp];done)
 ·rename_i l m;obtain ⟨s,rfl,rfl⟩:=ha.strInv;obtain ⟨s',rfl,rfl⟩:=hb.strInv;have hg:=D4 (P:=P) (w:=w) op t xo yo (.string s) (.string s') (by simp) (by simp)
  split at h <;> simp only [Ce,Bc,reduceCtorEq] at h
  all_goals
   obtain ⟨rfl,rfl⟩:=h;simp only [Sem.run_bind,hg,Result.andThen_ok]
  ·have hl:s.data.toList.length+s'.data.toList.length<=9223372036854775807:=hob.1;refine ⟨_,?_,.str (s++s') _ (by simp [ByteArray.data_append])⟩;have:¬((s.size+s'.size:Nat):Int) > IntKind.i64.max:=by
    simp only [TP] at hl;have h1:s.size=s.data.size:=rfl;have h2:s'.size=s'.data.size:=rfl;simp only [IntKind.max,h1,h2];simp [IntKind.signed,IntKind.bits];omega
   simp only [binOp,Op.stringOp,this,if_false,Sem.run_pure]
  all_goals (refine ⟨_,?_,.bool _⟩;simp [binOp,Op.stringOp,ByteArray.toList_eq])
 ·cases h
end
section
variable {tt:TT} {I:Imm} {μ:Mu} {st:St}
theorem HY (b o n:Nat):(⟨b,o,none⟩:Addr).add n=⟨b,o+n,none⟩:=by
 unfold Addr.add
 split
 ·rename_i h;subst h;rfl
 ·rfl
theorem RepVL.cons {x:V} {xs:List V} (h:RepVL I (v::vs) (x::xs)):RepV I v x/\RepVL I vs xs :=
 ⟨h.2 0 v x rfl rfl,by simpa using h.1,λi v x h1 h2=>h.2 (i+1) v x (by simpa using h1) (by simpa using h2)⟩
theorem RepL.cons {x:D} {xs:List D} (h:RepL I μ (v::vs) (x::xs)):RepD I μ v x/\RepL I μ vs xs :=
 ⟨h.2 0 v x rfl rfl,by simpa using h.1,λi v x h1 h2=>h.2 (i+1) v x (by simpa using h1) (by simpa using h2)⟩
theorem RepVL.mk {x:V} {xs:List V} (h:RepV I v x) (hs:RepVL I vs xs):RepVL I (v::vs) (x::xs) :=
 ⟨by simp [hs.1],λi u y h1 h2=>by
  cases i with
  | zero=>simp at h1 h2;subst h1;subst h2;exact h
  | succ i=>exact hs.2 i u y (by simpa using h1) (by simpa using h2)⟩
theorem RepL.mk {x:D} {xs:List D} (h:RepD I μ v x) (hs:RepL I μ vs xs):RepL I μ (v::vs) (x::xs) :=
 ⟨by simp [hs.1],λi u y h1 h2=>by
  cases i with
  | zero=>simp at h1 h2;subst h1;subst h2;exact h
  | succ i=>exact hs.2 i u y (by simpa using h1) (by simpa using h2)⟩
theorem RepVL.nil:RepVL I [] []:=⟨rfl,λi v x h=>by simp at h⟩
theorem RepL.nil:RepL I μ [] []:=⟨rfl,λi v x h=>by simp at h⟩
theorem RepVL.append {us:List Value} {xs ys:List V} (h:RepVL I vs xs) (k:RepVL I us ys):RepVL I (vs++us) (xs++ys):=by
 induction vs generalizing xs with
 | nil=>cases xs with
  | nil=>exact k
  | cons=>simp [RepVL] at h
 | cons v vs ih=>cases xs with
  | nil=>simp [RepVL] at h
  | cons x xs=>exact .mk h.cons.1 (ih h.cons.2)
theorem RepVL.imm {xs:List V} (h:RepVL I vs xs):RepL I μ vs (xs.map .imm) :=
 ⟨by simpa using h.1,λi v d h1 h2=>by
  simp only [Ep,Pe] at h2;obtain ⟨x,hx,rfl⟩:=h2;exact .imm _ _ (h.2 i v x h1 hx)⟩
theorem J1:∀{ds:List D} {xs:List V},Ky ds=some xs->RepL I μ vs ds->RepVL I vs xs:=by
 induction vs with
 | nil =>
  intro ds xs h hr;cases ds with
  | nil=>cases h;exact .nil
  | cons d ds=>simp [RepL] at hr
 | cons v vs ih =>
  intro ds xs h hr;cases ds with
  | nil=>simp [RepL] at hr
  | cons d ds =>
   obtain ⟨h1,h2⟩:=hr.cons;cases d <;> simp only [Ky,reduceCtorEq] at h
   split at h
   ·rename_i ys hys;cases h;exact .mk h1.immInv (ih hys h2)
   ·cases h
theorem H1 {ds:List D} (h:RepL I μ vs ds) (h1:∀v∈vs,v.oneCell'=true):RepD I μ (.agg vs.toArray) (In ds):=by
 unfold In
 split
 ·rename_i xs hx;have:=J1 hx h;exact .imm _ _ (.agg _ _ (by simpa using this.1) (by simpa using h1) (λi c x a b=>this.2 i c x (by simpa using a) b))
 ·exact .agg _ _ (by simpa using h.1) (by simpa using h1) (λi c x a b=>h.2 i c x (by simpa using a) b)
theorem IE {α:Type}:∀{l:List α} {o n:Nat} {r:List α},sub l o n=some r->r=(l.drop o).take n/\o+n<=l.length
 | _,0,0,r,h=>by simp [sub] at h;simp [h]
 | x::l,0,n+1,r,h=>by
  simp only [sub] at h
  split at h
  ·rename_i r' hr;cases h;have:=IE hr;simp at this;simp only [this.1];exact ⟨by simp,by simp;omega⟩
  ·cases h
 | x::l,o+1,n,r,h=>by
  simp only [sub] at h;have:=IE h;simp [this.1];omega
 | [],0,n+1,r,h=>by simp [sub] at h
 | [],o+1,n,r,h=>by cases n <;> simp [sub] at h
theorem KW {i:TyI} (hi:TyOk P t i) (b o:Nat) (f:Nat->Value) (h:∀j,j<i.size->w.cell? ⟨b,o+j,none⟩=some (f j)) (h0:i.agg=false->w.cell? ⟨b,o,none⟩=some (f 0)) :
  (Instr.loadAt t (.pointer (some ⟨b,o,none⟩))).run P w = .ok (if i.agg then .agg ((List.range i.size).map f).toArray else f 0) w:=by
 simp only [Instr.loadAt,Instr.sureAddr,Sem.run_bind,Sem.run_pure,Result.andThen_ok,loadVar,hi.isAgg w];cases hagg:i.agg with
 | true =>
  simp only [if_true,Sem.run_bind,hi.sizeOf w,Result.andThen_ok];rw [run_loadCells w ⟨b,o,none⟩ i.size f (λj hj=>by rw [HY];exact h j hj)];rfl
 | false =>
  have:=h0 hagg;simp [run_load,this]
theorem G9 {f:Nat->Value} {c:Value} (h:((List.range n).map f)[i]?=some c):i<n/\c=f i:=by
 simp only [Ep,Pe] at h;obtain ⟨a,ha,rfl⟩:=h;by_cases hlt:i<n
 ·rw [List.getElem?_range hlt] at ha;cases ha;exact ⟨hlt,rfl⟩
 ·rw [JK (by simp;omega)] at ha;cases ha
theorem Pf {i:TyI} {same:Bool} {xs:List V} {d:D} (h:MX i same xs off=some d) :
  (i.agg=true/\same=true/\off=0/\d = .imm (.agg xs))\/(i.agg=true/\∃l,sub xs off i.size=some l/\d = .imm (.agg l))\/(i.agg=false/\∃x,xs[off]?=some x/\d = .imm x):=by
 unfold MX at h;cases ha:i.agg with
 | true =>
  rw [ha] at h;by_cases hc:same=true/\off=0
  ·obtain ⟨rfl,rfl⟩:=hc;cases h;exact .inl ⟨rfl,rfl,rfl,rfl⟩
  ·refine .inr (.inl ⟨rfl,?_⟩);cases hs:sub xs off i.size with
   | none =>
    cases same <;> cases off <;> simp [hs] at h hc
   | some l =>
    cases same <;> cases off <;> simp [hs] at h hc <;> exact ⟨l,rfl,h.symm⟩
 | false =>
  rw [ha] at h;refine .inr (.inr ⟨rfl,?_⟩);simp only at h
  split at h
  ·rename_i x hx;cases h;exact ⟨x,by rw [<- Gv];exact hx,rfl⟩
  ·cases h
theorem Pg {i:TyI} {same:Bool} {xs:List D} {d:D} (h:HO i same xs off=some d) :
  (i.agg=true/\same=true/\off=0/\d=In xs)\/(i.agg=true/\∃l,sub xs off i.size=some l/\d=In l)\/(i.agg=false/\xs[off]?=some d):=by
 unfold HO at h;cases ha:i.agg with
 | true =>
  rw [ha] at h;by_cases hc:same=true/\off=0
  ·obtain ⟨rfl,rfl⟩:=hc;cases h;exact .inl ⟨rfl,rfl,rfl,rfl⟩
  ·refine .inr (.inl ⟨rfl,?_⟩);cases hs:sub xs off i.size with
   | none =>
    cases same <;> cases off <;> simp [hs] at h hc
   | some l =>
    cases same <;> cases off <;> simp [hs] at h hc <;> exact ⟨l,rfl,h.symm⟩
 | false =>
  rw [ha] at h;refine .inr (.inr ⟨rfl,?_⟩);rw [<- Gv];exact h
theorem MW {i:TyI} (hi:TyOk P t i) {o:Nat} {xs:List V} {d:D} {vs:Nat->Value} {same:Bool} (hcell:∀j x,xs[j]?=some x->w.cell? ⟨b,o+j,none⟩=some (vs j)/\(vs j).oneCell'=true) (hrep:∀j x,xs[j]?=some x->RepV I (vs j) x) (hs:i.agg=true->same=true->off=0->xs.length=i.size) (h:MX i same xs off=some d) :
  ∃v,(Instr.loadAt t (.pointer (some ⟨b,o+off,none⟩))).run P w = .ok v w/\RepD I μ v d:=by
 have key:∀n,off+n<=xs.length->∀j,j<n->∃x,xs[off+j]?=some x:=λn hn j hj=>⟨_,Br (by omega)⟩
 have hagg:∀n,n=i.size->i.agg=true->off+n<=xs.length->(∀x:D,x = .imm (.agg ((xs.drop off).take n)) ->
   ∃v,(Instr.loadAt t (.pointer (some ⟨b,o+off,none⟩))).run P w = .ok v w/\RepD I μ v x):=by
  rintro n rfl ha hle x rfl;refine ⟨_,KW hi b (o+off) (λj=>vs (off+j)) (λj hj=>?_) (λhf=>by simp [ha] at hf),?_⟩
  ·obtain ⟨x,hx⟩:=key _ hle j hj;have:=(hcell _ _ hx).1;rw [<- Xh] at this;exact this
  ·rw [if_pos ha];refine .imm _ _ (.agg _ _ ?_ ?_ ?_)
   ·simp;omega
   ·intro c hc;simp only [C2,TO] at hc;obtain ⟨j,hj,rfl⟩:=hc;obtain ⟨x,hx⟩:=key _ hle j hj;exact (hcell _ _ hx).2
   ·intro j c x hc hx;have hc':((List.range i.size).map λj=>vs (off+j))[j]?=some c:=by simpa using hc
    obtain ⟨hlt,rfl⟩:=G9 hc';rw [D6,if_pos hlt,Fj] at hx;exact hrep _ _ hx
 rcases Pf h with ⟨ha,h1,h2,rfl⟩ | ⟨ha,l,hl,rfl⟩ | ⟨ha,x,hx,rfl⟩
 ·have hl:=hs ha h1 h2;subst h2;exact hagg _ rfl ha (by omega) _ (by rw [Xg,Db (by omega)])
 ·obtain ⟨h1,h2⟩:=IE hl;exact hagg _ rfl ha h2 _ (by rw [h1])
 ·have hc:=hcell _ _ hx;refine ⟨vs off,?_,.imm _ _ (hrep _ _ hx)⟩;simp only [Instr.loadAt,Instr.sureAddr,Sem.run_bind,Sem.run_pure,Result.andThen_ok,loadVar,hi.isAgg w,ha];simp [run_load,hc.1]
theorem Xk {i:TyI} (hi:TyOk P t i) {cs:List D} {d:D} {same:Bool} (hcell:∀j v,vs[j]?=some v->w.cell? ⟨b,j,none⟩=some v) (h1:∀v∈vs,v.oneCell'=true) (hrep:RepL I μ vs cs) (hs:i.agg=true->same=true->off=0->cs.length=i.size) (h:HO i same cs off=some d) :
  ∃v,(Instr.loadAt t (.pointer (some ⟨b,off,none⟩))).run P w = .ok v w/\RepD I μ v d:=by
 have hlen:=hrep.1;have hagg:∀n,n=i.size->i.agg=true->off+n<=cs.length ->
   ∃v,(Instr.loadAt t (.pointer (some ⟨b,off,none⟩))).run P w = .ok v w/\RepD I μ v (In ((cs.drop off).take n)):=by
  rintro n rfl ha hle;refine ⟨_,KW hi b off (λj=>vs.getD (off+j) undef) (λj hj=>?_) (λhf=>by simp [ha] at hf),?_⟩
  ·have hlt:off+j<vs.length:=by omega
   rw [hcell _ _ (Br hlt)];simp [List.getD,hlt]
  ·rw [if_pos ha];have e:(List.range i.size).map (λj=>vs.getD (off+j) undef)=(vs.drop off).take i.size:=by
    apply qM;intro j;by_cases hj:j<i.size
    ·have hlt:off+j<vs.length:=by omega
     simp [hj,Fj,List.getD,hlt]
    ·rw [JK (by simp;omega),JK (by simp;omega)]
   rw [e];refine H1 ⟨by simp;omega,λj v d a b=>?_⟩ (λv hv=>h1 v (Pd (LA hv)));rw [D6] at a b
   split at a
   ·rename_i hj;rw [if_pos hj,Fj] at b;rw [Fj] at a;exact hrep.2 _ _ _ a b
   ·cases a
 rcases Pg h with ⟨ha,h1,h2,rfl⟩ | ⟨ha,l,hl,rfl⟩ | ⟨ha,h⟩
 ·have hl:=hs ha h1 h2;subst h2;have:=hagg _ rfl ha (by omega);rw [Xg,Db (by omega)] at this;exact this
 ·obtain ⟨h1,h2⟩:=IE hl;have:=hagg _ rfl ha h2;rw [<- h1] at this;exact this
 ·have hlt:off<cs.length:=(AL.1 h).1;have hv:vs[off]?=some (vs[off]'(by omega)):=Br (by omega);refine ⟨_,?_,hrep.2 _ _ _ hv h⟩;have hc:=hcell _ _ hv;simp only [Instr.loadAt,Instr.sureAddr,Sem.run_bind,Sem.run_pure,Result.andThen_ok,loadVar,hi.isAgg w,ha];simp [run_load,hc]
theorem Fb {vs:Array Value} {fr:Nat×Nat} (h:w.heap[b]?=some (.cells vs t fr)) (j:Nat) (v:Value) (hv:vs.toList[j]?=some v) :
  w.cell? ⟨b,j,none⟩=some v:=by
 simp [World.cell?,h];simpa using hv
theorem eA {i:TyI} (hi:TyOk P t i) {vs:Array Value} (h:i.agg=false->∃v,vs[off]?=some v) :
  ∃v,(Go.part t vs off).run P w = .ok v w/\v=(if i.agg then .agg (vs.extract off (off+i.size)) else (vs[off]?).getD undef):=by
 unfold Go.part;simp only [Sem.run_bind,hi.isAgg w,Result.andThen_ok];cases ha:i.agg with
 | true=>simp [hi.sizeOf w]
 | false =>
  obtain ⟨v,hv⟩:=h ha;simp [hv]
theorem pG {i:TyI} (hi:TyOk P t i) {vs:Array Value} {cs:List D} {d:D} (h1:∀v∈vs.toList,v.oneCell'=true) (hrep:RepL I μ vs.toList cs) (h:HO i false cs off=some d) :
  ∃v,(Go.part t vs off).run P w = .ok v w/\RepD I μ v d:=by
 rcases Pg h with ⟨ha,h1,h2,rfl⟩ | ⟨ha,l,hl,rfl⟩ | ⟨ha,h⟩
 ·cases h1
 ·obtain ⟨e,hle⟩:=IE hl
  ·obtain ⟨v,hv,he⟩:=eA (w:=w) hi (vs:=vs) (off:=off) (λhf=>by rw [ha] at hf;cases hf);refine ⟨v,hv,?_⟩;rw [he,if_pos ha,e];have e2:vs.extract off (off+i.size)=((vs.toList.drop off).take i.size).toArray:=by
    apply Array.ext';simp [qJ]
   rw [e2];have hlen:=hrep.1;refine H1 ⟨by simp at hlen ⊢;omega,λj v d a b=>?_⟩ (λv hv=>h1 v (Pd (LA hv)));rw [D6] at a b
   split at a
   ·rename_i hj;rw [if_pos hj,Fj] at b;rw [Fj] at a;exact hrep.2 _ _ _ a b
   ·cases a
 ·have hlt:off<cs.length:=(AL.1 h).1;have hlen:=hrep.1;have hv:vs.toList[off]?=some (vs.toList[off]'(by omega)):=Br (by omega);have hv':vs[off]?=some (vs.toList[off]'(by omega)):=by rw [<- QW];exact hv
  obtain ⟨v,hv2,he⟩:=eA (w:=w) hi (vs:=vs) (off:=off) (λ_=>⟨_,hv'⟩);refine ⟨v,hv2,?_⟩;rw [he,ha,hv'];exact hrep.2 _ _ _ hv h
theorem Xj {i:TyI} {xs:List V} {d:D} (h:MX i false xs off=some d):∃d',HO i false (xs.map .imm) off=some d'/\(∀v,RepD I μ v d'->RepD I μ v d):=by
 have himm:∀l:List V,Ky (l.map D.imm)=some l:=by
  intro l;induction l with
  | nil=>rfl
  | cons x l ih=>simp [Ky,ih]
 rcases Pf h with ⟨ha,h1,h2,rfl⟩ | ⟨ha,l,hl,rfl⟩ | ⟨ha,x,hx,rfl⟩
 ·cases h1
 ·have hs:sub (xs.map D.imm) off i.size=some (l.map D.imm):=by
   clear ha h;generalize i.size=n at hl
   induction xs generalizing off n l with
   | nil=>cases off <;> cases n <;> simp [sub] at hl;simp [hl,sub]
   | cons x xs ih =>
    cases off with
    | zero=>cases n with
     | zero=>simp [sub] at hl;simp [hl,sub]
     | succ n =>
      simp only [sub] at hl
      split at hl
      ·rename_i l' hl';cases hl;simp [sub,ih _ _ hl']
      ·cases hl
    | succ o=>simp only [sub] at hl;simp [sub,ih _ _ hl]
  refine ⟨In (l.map .imm),by simp [HO,ha,hs],λv hv=>?_⟩;simpa [In,himm] using hv
 ·exact ⟨.imm x,by simp [HO,ha,Gv,hx],λv hv=>hv⟩
end
section
variable {tt:TT} {I:Imm} {μ:Mu} {st:St}
def Hx (P:Program) (I:Imm) (μ:Mu) (st:St) (ids:List Nat) (w:World) (d:D) (r:Result Next):Prop :=
 valR P r λv w'=>∃I',StRep I' μ st ids w'/\RepD I' μ v d/\Ext I μ st w I' μ st w'
theorem Ba {e:Sem Next} {d:D} (hst:StRep I μ st ids w) (h:e.run P w = .ok (.value v) w) (hr:RepD I μ v d):Hx P I μ st ids w d (e.run P w):=by
 rw [h];exact ⟨I,hst,hr,Ext.refl _ _ _ _⟩
theorem A7 {s:Sem Value} (h:s.run P w = .ok v w):(do pure (.value (<- s)):Sem Next).run P w = .ok (.value v) w:=by simp [h]
theorem TTok.sh {i:TyI} (htt:TTok P tt) (h:lk tt t=some i):PL P t i.sh:=(htt t i h).sh
theorem J6 {fs:List (Nat×TypeId)} (hs:PL P t (.struct fs)) {fo:Nat} {ft:TypeId} (hf:Ms fs f=some (fo,ft)) (b o:Nat) :
  (Instr.fieldAt t (.pointer (some ⟨b,o,none⟩)) f).run P w = .ok (.pointer (some ⟨b,o+fo,none⟩)) w:=by
 obtain ⟨fields,h1,h2,h3⟩:=hs;rw [Gv,<- h2,Ep,Pe] at hf;obtain ⟨fld,hfl,he⟩:=hf;simp only [Bc] at he;obtain ⟨e1,e2⟩:=he;have hfl':fields[f]?=some fld:=by rw [<- QW];exact hfl
 have hpos:=h3 fld (AF hfl);have hsz:∃inf,P.info? fld.type=some inf/\inf.size≠0:=by
  unfold Program.cellsOf at hpos;cases hi:P.info? fld.type with
  | none=>simp [hi] at hpos
  | some inf=>exact ⟨inf,rfl,by simp [hi] at hpos;omega⟩
 obtain ⟨inf,hi,hne⟩:=hsz;simp [Instr.fieldAt,run_underlying h1,hfl',Instr.sureAddr,fieldPlace,sizeOf,typeInfo,hi,hne,HY,e1]
theorem Lr (a b:Nat):Oz a b=a+b:=by cases a <;> simp [Oz]
theorem RR {i:TyI} (h:TyOk P t i) (h1:i.sh ≠ .iface) (h2:i.sh ≠ .other) (x:Value):(Instr.makeInterface t x).run P w = .ok (.iface t x) w:=by
 have hs:=h.sh;cases hsh:i.sh <;> rw [hsh] at hs <;> first
  | exact absurd hsh h1
  | exact absurd hsh h2
  | (obtain ⟨a,hu,_⟩:=hs;simp [Instr.makeInterface,run_underlying hu];done)
  | (obtain ⟨a,b,c,hu⟩:=hs;simp [Instr.makeInterface,run_underlying hu];done)
  | (have hu:P.underlying t=some _:=hs;simp [Instr.makeInterface,run_underlying hu];done)
theorem RB {env:Env} {a:Act}:∀{l:List Operand} {ds:List D},bS env l=some ds->(∀x∈l,∀d,Eg env x=some d->RepD I μ (a.eval x) d)->RepL I μ (l.map a.eval) ds
 | [],ds,h,_=>by cases h;exact .nil
 | x::r,ds,h,hx=>by
  simp only [bS] at h
  split at h
  ·cases h
  ·rename_i d ds' hne hd hr;cases h;exact .mk (hx x (by simp) d hd) (RB hr (λy hy=>hx y (by simp [hy])))
  ·cases h
theorem Ig {α:Type}:∀{l:List α} {o:Nat} {ys r:List α},splice l o ys=some r->r=l.take o++ys++l.drop (o+ys.length)/\o+ys.length<=l.length
 | l,0,[],r,h=>by simp [splice] at h;simp [h]
 | x::l,0,y::ys,r,h=>by
  simp only [splice] at h
  split at h
  ·rename_i r' hr;cases h;have:=Ig hr;simp only [this.1];refine ⟨by simp,?_⟩;have:=this.2;simp at this ⊢;omega
  ·cases h
 | x::l,o+1,ys,r,h=>by
  simp only [splice] at h
  split at h
  ·rename_i r' hr;cases h;have:=Ig hr;simp only [this.1];refine ⟨?_,?_⟩
   ·simp [Nat.add_right_comm]
   ·have:=this.2;simp at this ⊢;omega
  ·cases h
 | [],0,y::ys,r,h=>by simp [splice] at h
 | [],o+1,ys,r,h=>by cases ys <;> simp [splice] at h
theorem Ub {d:D} (h:Uc d=true) (hr:RepD I μ v d):∃ad,v = .pointer (some ad):=by
 cases hr <;> first | (simp [Uc] at h;done) | exact ⟨_,rfl⟩ | (rename_i hv;cases v <;> first | (simp [Uc] at h;done) | (rename_i o;cases o <;> first | (simp [Uc] at h;done) | exact ⟨_,rfl⟩))
theorem PF (n:Nat) (h:P.underlying t=some (.pointer e)) (ad:Addr) :
  (Op.equalIn (n+1) t (.pointer (some ad)) (.pointer none)).run P w = .ok false w:=by
 simp [Op.equalIn,run_underlying h]
theorem LJ (h:P.underlying t=some (.pointer e)) (ad:Addr):(Op.equal t (.pointer (some ad)) (.pointer none)).run P w = .ok false w :=
 PF 9999 h ad
theorem Yb (h:P.underlying t=some (.pointer e)) (xo yo:Operand) (ad:Addr) :
  (do eqGuard .eql t xo yo (.pointer (some ad)) (.pointer none);binOp .eql t (.pointer (some ad)) (.pointer none):Sem Value).run P w = .ok (.bool false) w:=by
 simp only [Sem.run_bind,D4 .eql t xo yo (.pointer (some ad)) (.pointer none) (by simp) (by simp),Result.andThen_ok,binOp,LJ h,Sem.run_pure]
theorem WY (h:P.underlying t=some (.pointer e)) (xo yo:Operand) (ad:Addr) :
  (do eqGuard .neq t xo yo (.pointer (some ad)) (.pointer none);binOp .neq t (.pointer (some ad)) (.pointer none):Sem Value).run P w = .ok (.bool true) w:=by
 simp only [Sem.run_bind,D4 .neq t xo yo (.pointer (some ad)) (.pointer none) (by simp) (by simp),Result.andThen_ok,binOp,LJ h,Sem.run_pure,qI]
theorem PG (n:Nat) (h:P.underlying t=some (.pointer e)):(Op.equalIn (n+1) t (.pointer none) (.pointer none)).run P w = .ok true w:=by
 simp [Op.equalIn,run_underlying h]
theorem LK (h:P.underlying t=some (.pointer e)):(Op.equal t (.pointer none) (.pointer none)).run P w = .ok true w:=PG 9999 h
theorem Yc (h:P.underlying t=some (.pointer e)) (xo yo:Operand) :
  (do eqGuard .eql t xo yo (.pointer none) (.pointer none);binOp .eql t (.pointer none) (.pointer none):Sem Value).run P w = .ok (.bool true) w:=by
 simp only [Sem.run_bind,D4 .eql t xo yo (.pointer none) (.pointer none) (by simp) (by simp),Result.andThen_ok,binOp,LK h,Sem.run_pure]
theorem WZ (h:P.underlying t=some (.pointer e)) (xo yo:Operand) :
  (do eqGuard .neq t xo yo (.pointer none) (.pointer none);binOp .neq t (.pointer none) (.pointer none):Sem Value).run P w = .ok (.bool false) w:=by
 simp only [Sem.run_bind,D4 .neq t xo yo (.pointer none) (.pointer none) (by simp) (by simp),Result.andThen_ok,binOp,LK h,Sem.run_pure,Bool.not_true]
theorem B4 {a b:List Prop} (h:A4 (Jh a b)):A4 a/\A4 b:=(RZ a b).1 h
theorem uG {l:List Prop} (h:A4 (l.map (cx -> ·))) (hc:cx):A4 l:=by
 induction l with
 | nil=>trivial
 | cons p l ih=>exact ⟨h.1 hc,ih h.2⟩
theorem By {env:Env} {x:Operand} {k:D->List Prop->EP} {q:D×List Prop} (h:Fk (Ei cx env x k)=some q) (hc:cx) (hx:∀d,Eg env x=some d->RepD I μ (a.eval x) d):∃d o,Fk (k d o)=some q/\(A4 o->RepD I μ (a.eval x) d):=by
 obtain ⟨d,dx,o,h1,h2,h3⟩:=mU h;exact ⟨d,o,h2,λho=>h3 I μ _ (hx _ h1) ho hc⟩
theorem Pw {I:Imm}:∀{es:List (List V)} {l:List UInt8},Qb es=some l->∃ns:List Int,es=ns.map (λn=>[V.int .u8 n])/\l=ns.map (λn=>UInt8.ofNat n.toNat)
 | [],l,h=>by cases h;exact ⟨[],rfl,rfl⟩
 | e::r,l,h=>by
  unfold Qb at h
  split at h
  ·rename_i heq;cases heq
  ·rename_i n r' heq;cases heq
   split at h
   ·rename_i l' hl';cases h;obtain ⟨ns,h1,h2⟩:=Pw (I:=I) hl';exact ⟨n::ns,by simp [h1],by simp [h2]⟩
   ·cases h
  ·cases h
theorem QE:∀(ns:List Int) (s:ByteArray),(ns.foldl (λr n=>r.push (UInt8.ofNat n.toNat)) s).data.toList=s.data.toList++ns.map (λn=>UInt8.ofNat n.toNat)
 | [],s=>by simp
 | n::ns,s=>by
  simp only [Pc,QE ns,C6];simp [ByteArray.push]
theorem JZ (hu:P.underlying t=some .string) (s:ByteArray) (lo hi:Option Value) (l h:Nat) (hlh:l<=h) (hh:h<=s.size) (hlo:lo=none/\l=0\/∃k,lo=some (.int k l)) (hhi:hi=none/\h=s.size\/∃k,hi=some (.int k h)) :
  (Instr.sliceAt t (.string s) lo hi none).run P w = .ok (.string (s.extract l h)) w:=by
 have hb:∀(k:IntKind) (x y:Nat) (c:BoundsCode),x<=y->(Instr.sliceBound (.int k x) y c).run P w = .ok x w:=by
  intro k x y c hxy;simp [Instr.sliceBound,asIntOf,hxy]
 rcases hlo with ⟨rfl,rfl⟩ | ⟨k,rfl⟩ <;> rcases hhi with ⟨rfl,rfl⟩ | ⟨k',rfl⟩ <;>
  simp [Instr.sliceAt,run_underlying hu,Instr.slice,Instr.sliceBounds,hb _ _ _ _ hlh,hb _ _ _ _ hh]
end
section
variable {tt:TT} {I:Imm} {μ:Mu} {st:St} {env:Env} {d:D}
theorem RepD.tupInv {xs:List V} (h:RepD I μ v (.imm (.tup xs))):∃cs:Array Value,v = .tuple cs/\RepVL I cs.toList xs:=by
 cases h with
 | imm _ _ h=>cases h with
  | tup cs _ hl h=>exact ⟨cs,rfl,by simpa using hl,λi v x a b=>h i v x (by simpa using a) b⟩
theorem RepD.tupDInv {xs:List D} (h:RepD I μ v (.tup xs)):∃cs:Array Value,v = .tuple cs/\RepL I μ cs.toList xs:=by
 cases h with
 | tup cs _ hl h=>exact ⟨cs,rfl,by simpa using hl,λi v x a b=>h i v x (by simpa using a) b⟩
theorem RepD.aggInv {xs:List V} (h:RepD I μ v (.imm (.agg xs))):∃cs:Array Value,v = .agg cs/\RepVL I cs.toList xs/\∀c∈cs.toList,c.oneCell'=true:=by
 cases h with
 | imm _ _ h=>cases h with
  | agg cs _ hl h1 h=>exact ⟨cs,rfl,⟨by simpa using hl,λi v x a b=>h i v x (by simpa using a) b⟩,h1⟩
theorem RepD.aggDInv {xs:List D} (h:RepD I μ v (.agg xs)):∃cs:Array Value,v = .agg cs/\RepL I μ cs.toList xs/\∀c∈cs.toList,c.oneCell'=true:=by
 cases h with
 | agg cs _ hl h1 h=>exact ⟨cs,rfl,⟨by simpa using hl,λi v x a b=>h i v x (by simpa using a) b⟩,h1⟩
theorem RepD.guardInv {c w:Bool} {d:D} (h:RepD I μ v (.guard c w d)) (hc:c=w):RepD I μ v d:=by
 cases h with
 | guard _ _ _ _ hg _=>exact hg hc
theorem RepD.fnInv {f:Fn} {da dc:List D} (h:RepD I μ v (.fn f da dc)):∃x y,v = .func f x y:=by cases h;exact ⟨_,_,rfl⟩
theorem RepD.fn0Inv {f:Fn} (h:RepD I μ v (.imm (.fn f))):v = .func f #[] #[]:=by have:=h.immInv;cases this;rfl
theorem RepD.nilpInv (h:RepD I μ v (.imm .nilp)):v = .pointer none:=by have:=h.immInv;cases this;rfl
theorem xN (hst:StRep I μ st ids w) {c x y:Operand} (ho:o.op = .pick c x y) (hop:DR I μ env a o.op) (hc:cx) (h:Fk (Hd tt cx env st o.op)=some (d,ob)) (hob:A4 ob):Hx P I μ st ids w d ((execOp a.eval o).run P w):=by
 rw [ho] at hop h;have hcO:=hop c (by simp [Op.operands]);have hxO:=hop x (by simp [Op.operands]);have hyO:=hop y (by simp [Op.operands]);simp only [execOp,ho];have fin:∀(b p q:Bool),RepD I μ (a.eval c) (.imm (.bool b))->(b=true->RepD I μ (a.eval x) (.imm (.bool p)))->(b=false->RepD I μ (a.eval y) (.imm (.bool q))) ->
   Hx P I μ st ids w (.imm (.bool (bif b then p else q))) ((do pure (.value (if <- asBool (a.eval c) then a.eval x else a.eval y)):Sem Next).run P w):=by
  intro b p q h1 h2 h3;have e1:=h1.immInv.boolInv;rw [e1];cases b with
  | true=>exact Ba hst (v:=a.eval x) (by simp [asBool]) (h2 rfl)
  | false=>exact Ba hst (v:=a.eval y) (by simp [asBool]) (h3 rfl)
 simp only [Hd] at h
 split at h <;> simp only [Fk,Ce,Bc,reduceCtorEq] at h
 all_goals
  rename_i e1 e2 e3;obtain ⟨rfl,rfl⟩:=h
 ·exact fin _ _ _ (hcO _ e1) (λ_=>hxO _ e2) (λ_=>hyO _ e3)
 ·refine fin _ _ _ (hcO _ e1) (λ_=>hxO _ e2) (λhf=>?_);exact (hyO _ e3).guardInv (hob.1 hc hf)
 ·refine fin _ _ _ (hcO _ e1) (λhf=>?_) (λ_=>hyO _ e3);exact (hxO _ e2).guardInv (hob.1 hc hf)
 ·have h1:=hcO _ e1;refine fin _ _ _ (h1.guardInv (hob.1 hc)) (λ_=>hxO _ e2) (λhf=>?_);exact (hyO _ e3).guardInv (hob.2.1 hc hf)
 ·have h1:=hcO _ e1;refine fin _ _ _ (h1.guardInv (hob.1 hc)) (λhf=>?_) (λ_=>hyO _ e3);exact (hxO _ e2).guardInv (hob.2.1 hc hf)
theorem tA (htt:TTok P tt) (hst:StRep I μ st ids w) {op:BinOp} {t':TypeId} {x y:Operand} (ho:o.op = .binOp op t x y t') (hop:DR I μ env a o.op) (hc:cx) (h:Fk (Hd tt cx env st o.op)=some (d,ob)) (hob:A4 ob):Hx P I μ st ids w d ((execOp a.eval o).run P w):=by
 rw [ho] at hop h;simp only [execOp,ho];simp only [Hd] at h;obtain ⟨dx,ox,h1,hx⟩:=By h hc (hop x (by simp [Op.operands]));clear h;obtain ⟨dy,oy,h,hy⟩:=By h1 hc (hop y (by simp [Op.operands]));clear h1
 split at h
 ·rename_i p q;have key:A4 (Jh ox oy)->PL P t .bool->Hx P I μ st ids w (.imm (.bool (p == q))) ((do pure (.value (<- (do eqGuard .eql t x y (a.eval x) (a.eval y);binOp .eql t (a.eval x) (a.eval y)))):Sem Next).run P w) /\
    Hx P I μ st ids w (.imm (.bool (!(p == q)))) ((do pure (.value (<- (do eqGuard .neq t x y (a.eval x) (a.eval y);binOp .neq t (a.eval x) (a.eval y)))):Sem Next).run P w):=by
   intro ho2 hs;have e1:=(hx (B4 ho2).1).immInv.boolInv;have e2:=(hy (B4 ho2).2).immInv.boolInv;rw [e1,e2];have hs:P.underlying t=some .bool:=hs;constructor
   ·refine Ba hst (A7 (v:=.bool (p == q)) ?_) (.imm _ _ (.bool _));simp only [Sem.run_bind,D4 .eql t x y (.bool p) (.bool q) (by simp) (by simp),Result.andThen_ok,run_eql_bool w t p q hs]
   ·refine Ba hst (A7 (v:=.bool (!(p == q))) ?_) (.imm _ _ (.bool _));simp only [Sem.run_bind,D4 .neq t x y (.bool p) (.bool q) (by simp) (by simp),Result.andThen_ok,run_neq_bool w t p q hs]
  split at h <;> simp only [Fk,Ce,Bc,reduceCtorEq] at h
  ·rename_i hl;obtain ⟨rfl,rfl⟩:=h;exact (key hob (htt.sh hl)).1
  ·rename_i hl;obtain ⟨rfl,rfl⟩:=h;exact (key hob (htt.sh hl)).2
 ·split at h <;> simp only [Fk,Ce,Bc,reduceCtorEq] at h
  all_goals
   rename_i hl;obtain ⟨rfl,rfl⟩:=h;obtain ⟨h1,h2⟩:=B4 hob;have e1:a.eval x = .pointer none:=(hx h1).nilpInv;have e2:a.eval y = .pointer none:=(hy h2).nilpInv;have hs:P.underlying t=some (.pointer _):=htt.sh hl;rw [e1,e2]
  ·exact Ba hst (A7 (Yc hs x y)) (.imm _ _ (.bool _))
  ·exact Ba hst (A7 (WZ hs x y)) (.imm _ _ (.bool _))
 ·rename_i p q _ _
  split at h <;> simp only [Fk,Ce,Bc,reduceCtorEq] at h
  rename_i v o' hk hb;obtain ⟨rfl,rfl⟩:=h;obtain ⟨h1,h2⟩:=B4 hob;obtain ⟨h2,h3⟩:=B4 h2;obtain ⟨u,hu,hr⟩:=tY (P:=P) (w:=w) t x y (hx h2).immInv (hy h3).immInv hk hb (uG h1 hc);exact Ba hst (A7 hu) (.imm _ _ hr)
 ·split at h <;> simp only [Fk,Ce,Bc,reduceCtorEq] at h
  all_goals
   rename_i hp hl;obtain ⟨rfl,rfl⟩:=h;obtain ⟨h1,h2⟩:=B4 hob;obtain ⟨ad,e1⟩:=Ub hp (hx h1);have e2:a.eval y = .pointer none:=(hy h2).nilpInv;have hs:P.underlying t=some (.pointer _):=htt.sh hl;rw [e1,e2]
  ·exact Ba hst (A7 (Yb hs x y ad)) (.imm _ _ (.bool _))
  ·exact Ba hst (A7 (WY hs x y ad)) (.imm _ _ (.bool _))
 ·cases h
theorem XT (hst:StRep I μ st ids w) {x:Operand} (ho:o.op = .nilCheck x) (hop:DR I μ env a o.op) (hc:cx) (h:Fk (Hd tt cx env st o.op)=some (d,ob)) (hob:A4 ob):Hx P I μ st ids w d ((execOp a.eval o).run P w):=by
 rw [ho] at hop h;simp only [execOp,ho];simp only [Hd] at h;obtain ⟨dx,ox,h1,hx⟩:=By h hc (hop x (by simp [Op.operands]));clear h;have h:=h1;clear h1
 split at h
 ·rename_i hp;simp only [Fk,Ce,Bc] at h;obtain ⟨rfl,rfl⟩:=h;obtain ⟨ad,e1⟩:=Ub hp (hx hob);have:=hx hob;rw [e1] at this ⊢;exact Ba hst (by simp) this
 ·split at h <;> simp only [Fk,Ce,Bc,reduceCtorEq] at h
  all_goals
   obtain ⟨rfl,rfl⟩:=h;have hr:=hx hob
  ·obtain ⟨p,q,e1⟩:=hr.fnInv;rw [e1] at hr ⊢;exact Ba hst (by simp) hr
  ·have e1:=hr.fn0Inv;rw [e1] at hr ⊢;exact Ba hst (by simp) hr
  ·have hr:=hr.immInv;generalize a.eval x=v at hr ⊢;cases hr with
   | ip b o' _ _ _ vs hcell hrep=>exact Ba hst (by simp) (.ip b o' _ _ _ vs hcell hrep)
theorem xM (hst:StRep I μ st ids w) {u:UnOp} {x:Operand} (ho:o.op = .unOp u t x) (hop:DR I μ env a o.op) (hc:cx) (h:Fk (Hd tt cx env st o.op)=some (d,ob)) (hob:A4 ob):Hx P I μ st ids w d ((execOp a.eval o).run P w):=by
 rw [ho] at hop h;simp only [execOp,ho];cases u <;> simp only [Hd] at h <;> first
  | (cases h;done)
  | (obtain ⟨dx,ox,h1,hx⟩:=By h hc (hop x (by simp [Op.operands]))
     clear h;have h:=h1;clear h1
     split at h <;> simp only [Fk,Ce,Bc,reduceCtorEq] at h
     obtain ⟨rfl,rfl⟩:=h
     first
      | (have e:=(hx hob).immInv;have e:=e.boolInv;rw [e];refine Ba hst (A7 (v:=.bool _) ?_) (.imm _ _ (.bool _));simp [Op.unary])
      | (have e:=(hx hob).immInv;have e:=e.intInv;rw [e];refine Ba hst (A7 (v:=.int _ _) ?_) (.imm _ _ (.int _ _));simp only [Op.unary,Op.intArith,Sem.run_pure]))
theorem bR (htt:TTok P tt) (hst:StRep I μ st ids w) {x:Operand} (ho:o.op = .convert s t x) (hop:DR I μ env a o.op) (hc:cx) (h:Fk (Hd tt cx env st o.op)=some (d,ob)) (hob:A4 ob):Hx P I μ st ids w d ((execOp a.eval o).run P w):=by
 rw [ho] at hop h;simp only [execOp,ho];simp only [Hd] at h;obtain ⟨dx,ox,h1,hx⟩:=By h hc (hop x (by simp [Op.operands]));clear h;have h:=h1;clear h1
 split at h
 ·rename_i hs ht;simp only [Fk,Ce,Bc] at h;obtain ⟨rfl,rfl⟩:=h;rw [(hx hob).immInv.intInv];have e1:P.underlying s=some (.int _):=htt.sh hs;have e2:P.underlying t=some (.int _):=htt.sh ht;refine Ba hst (A7 (v:=.int _ _) ?_) (.imm _ _ (.int _ _));simp [convert,run_underlying e1,run_underlying e2,Conv.intToInt]
 ·rename_i es hs ht
  split at h <;> simp only [Fk,Ce,Bc,reduceCtorEq] at h
  rename_i l he hb;obtain ⟨rfl,rfl⟩:=h;have e1:P.underlying s=some (.slice _):=htt.sh hs;have e2:P.underlying t=some .string:=htt.sh ht;have e3:P.underlying _=some (.int .u8):=htt.sh he;obtain ⟨ns,rfl,rfl⟩:=Pw (I:=I) hb;have hr:=(hx hob).immInv;generalize hes:(ns.map λn=>[V.int .u8 n])=es at hr;generalize a.eval x=v at hr ⊢;cases hr with
  | slnil =>
   have:ns=[]:=by simpa using hes
   subst this;refine Ba hst (A7 (v:=.string .empty) ?_) (.imm _ _ (.str _ _ rfl));rw [run_convert_bytes_string w s t _ none 0 0 e1 e3 e2];rfl
  | sl0 ad =>
   have:ns=[]:=by simpa using hes
   subst this;refine Ba hst (A7 (v:=.string .empty) ?_) (.imm _ _ (.str _ _ rfl));rw [run_convert_bytes_string w s t _ (some ad) 0 0 e1 e3 e2];rfl
  | sl b o len cap sz _ vs hl _ _ hsz hcell hrep =>
   subst hes;have hlen:len=ns.length:=by simpa using hl
   refine Ba hst (A7 (v:=.string (ns.foldl (λr n=>r.push (UInt8.ofNat n.toNat)) .empty)) ?_) (.imm _ _ (.str _ _ (by rw [QE];rfl)));rw [run_convert_bytes_string w s t _ (some ⟨b,o,none⟩) len cap e1 e3 e2];refine run_bytesToString w ⟨b,o,none⟩ len cap ns ?_;rw [run_loadCells w ⟨b,o,none⟩ len (λj=>vs j 0) (λj hj=>?_)]
   ·congr 2;apply qM;intro j;by_cases hj:j<ns.length
    ·have h1:=hrep j [V.int .u8 ns[j]] 0 (.int .u8 ns[j]) (by simp [hj]) rfl;simp [hlen,hj,h1.intInv]
    ·rw [JK (by simp;omega),JK (by simp;omega)]
   ·have hj':j<ns.length:=by omega
    have h1:=hcell j [V.int .u8 ns[j]] 0 (.int .u8 ns[j]) (by simp [hj']) rfl;have h2:sz=1:=(hsz [V.int .u8 ns[j]] (by simp)).symm;rw [HY];have:=Imm.cell_world hst.imm h1.1;simpa [h2] using this
 ·rename_i n hs ht;simp only [Fk,Ce,Bc] at h;obtain ⟨rfl,rfl⟩:=h;obtain ⟨hn,hob⟩:=hob;obtain ⟨hn1,hn2⟩:=hn hc;obtain ⟨m,rfl⟩:=Int.eq_ofNat_of_zero_le hn1;have e1:P.underlying s=some (.int _):=htt.sh hs;have e2:P.underlying t=some .string:=htt.sh ht;rw [(hx hob).immInv.intInv];have hm:m<128:=by omega
  have henc:Utf8.encode (Int.ofNat m)=⟨#[UInt8.ofNat m]⟩:=by
   have hv:Utf8.valid (m:Int)=true:=by simp [Utf8.valid];omega
   simp [Utf8.encode,hv,hm]
  refine Ba hst (A7 (v:=.string (Utf8.encode (Int.ofNat m))) ?_) (.imm _ _ (.str _ _ (by rw [henc];rfl)));simp [convert,run_underlying e1,run_underlying e2,Conv.intToString]
 ·cases h
end
section
variable {tt:TT} {I:Imm} {μ:Mu} {st:St} {env:Env} {d:D}
theorem RepD.refInv {id:Nat} (h:RepD I μ v (.ref id off)):∃b,v = .pointer (some ⟨b,off,none⟩)/\μ id=some (.pointer (some ⟨b,0,none⟩)):=by
 cases h with
 | ref b _ _ h=>exact ⟨b,rfl,h⟩
theorem RepD.ipInv {cs:List V} (h:RepD I μ v (.ip t cs off)):∃(b o:Nat) (vs:Nat->Value),v = .pointer (some ⟨b,o+off,none⟩) /\
  (∀(j:Nat) (x:V),cs[j]?=some x->I.cell b (o+j)=some (vs j)/\(vs j).oneCell'=true)/\(∀(j:Nat) (x:V),cs[j]?=some x->RepV I (vs j) x):=by
 cases h with
 | ip b o _ _ _ vs h1 h2=>exact ⟨b,o,vs,rfl,h1,h2⟩
theorem VD (htt:TTok P tt) (hst:StRep I μ st ids w) {x:Operand} (ho:o.op = .fieldAddr s x f) (hop:DR I μ env a o.op) (hc:cx) (h:Fk (Hd tt cx env st o.op)=some (d,ob)) (hob:A4 ob):Hx P I μ st ids w d ((execOp a.eval o).run P w):=by
 rw [ho] at hop h;simp only [execOp,ho];simp only [Hd] at h;obtain ⟨dx,ox,h1,hx⟩:=By h hc (hop x (by simp [Op.operands]));clear h;have h:=h1;clear h1
 split at h
 ·rename_i id off fs _ _ _ _ hs
  split at h <;> simp only [Fk,Ce,Bc,reduceCtorEq] at h
  rename_i fo _ hn;obtain ⟨rfl,rfl⟩:=h;obtain ⟨b,e1,e2⟩:=(hx hob).refInv;rw [e1,Lr];have hsh:PL P s (.struct fs):=htt.sh hs;exact Ba hst (A7 (J6 hsh hn b off)) (.ref b id (off+fo) e2)
 ·rename_i t cs off fs _ _ _ _ hs
  split at h <;> simp only [Fk,Ce,Bc,reduceCtorEq] at h
  rename_i fo _ hn;obtain ⟨rfl,rfl⟩:=h;obtain ⟨b,o',vs,e1,e2,e3⟩:=(hx hob).ipInv;rw [e1,Lr];have hsh:PL P s (.struct fs):=htt.sh hs;refine Ba hst (A7 (J6 hsh hn b (o'+off))) ?_;rw [Xh];exact .ip b o' t cs (off+fo) vs e2 e3
 ·rename_i id kk sz off fs _ _ _ _ hs
  split at h <;> simp only [Fk,Ce,Bc,reduceCtorEq] at h
  rename_i fo _ hn;obtain ⟨rfl,rfl⟩:=h;have hr:=hx hob;generalize a.eval x=v at hr;cases hr with
  | elp b _ len cap _ _ _ hm =>
  rw [Lr];have hsh:PL P s (.struct fs):=htt.sh hs;refine Ba hst (A7 (J6 hsh hn b (kk*sz+off))) ?_;rw [Xh];exact .elp b id len cap kk sz (off+fo) hm
 ·rename_i b off fs _ _ _ _ hs
  split at h <;> simp only [Fk,Ce,Bc,reduceCtorEq] at h
  rename_i fo _ hn;obtain ⟨rfl,rfl⟩:=h;have hr:=hx hob;generalize a.eval x=v at hr;cases hr with
  | raw _ _ =>
  rw [Lr];have hsh:PL P s (.struct fs):=htt.sh hs;exact Ba hst (A7 (J6 hsh hn b off)) (.raw _ rfl)
 ·cases h
theorem xO (htt:TTok P tt) (hst:StRep I μ st ids w) {x:Operand} (ho:o.op = .load t x) (hop:DR I μ env a o.op) (hc:cx) (h:Fk (Hd tt cx env st o.op)=some (d,ob)) (hob:A4 ob):Hx P I μ st ids w d ((execOp a.eval o).run P w):=by
 rw [ho] at hop h;simp only [execOp,ho];simp only [Hd] at h;obtain ⟨dx,ox,h1,hx⟩:=By h hc (hop x (by simp [Op.operands]));clear h;have h:=h1;clear h1
 split at h
 ·rename_i id off i hi;have hty:=htt t i hi
  split at h
  ·rename_i bt sz xs hl
   split at h <;> simp only [Fk,Ce,Bc,reduceCtorEq] at h
   rename_i d' hd;obtain ⟨rfl,rfl⟩:=h;obtain ⟨b,e1,e2⟩:=(hx hob).refInv;obtain ⟨g,hg,hlen,b',vs,hg2,hheap,hrep,hone⟩:=hst.blk id _ hl;rw [e2] at hg;cases hg;cases hg2;rw [e1];have:=MW (P:=P) (w:=w) (I:=I) (μ:=μ) hty (b:=b) (o:=0) (off:=off) (xs:=xs) (vs:=λj=>vs.toList.getD j undef) (same:=Nat.beq sz i.size)
    (λj x hj=>by
     have hlt:j<xs.length:=(AL.1 hj).1;have hv:vs.toList[j]?=some (vs.toList[j]'(by rw [hrep.1];exact hlt)):=Br _;rw [Dh];have e:vs.toList.getD j undef=vs.toList[j]'(by rw [hrep.1];exact hlt):=by simp [List.getD,hv]
     rw [e];exact ⟨Fb hheap j _ hv,hone _ (IP _)⟩)
    (λj x hj=>by
     have hlt:j<xs.length:=(AL.1 hj).1;have hv:vs.toList[j]?=some (vs.toList[j]'(by rw [hrep.1];exact hlt)):=Br _;have e:vs.toList.getD j undef=vs.toList[j]'(by rw [hrep.1];exact hlt):=by simp [List.getD,hv]
     rw [e];exact hrep.2 j _ _ hv hj)
    (λ_ hs _=>by rw [hlen];exact CD hs) hd
   obtain ⟨v,hv,hr⟩:=this;rw [Dh] at hv;exact Ba hst (A7 hv) hr
  ·rename_i bt sz cs hl
   split at h <;> simp only [Fk,Ce,Bc,reduceCtorEq] at h
   rename_i d' hd;obtain ⟨rfl,rfl⟩:=h;obtain ⟨b,e1,e2⟩:=(hx hob).refInv;obtain ⟨g,hg,hlen,b',vs,hg2,hheap,hrep,hone⟩:=hst.blk id _ hl;rw [e2] at hg;cases hg;cases hg2;rw [e1];obtain ⟨v,hv,hr⟩:=Xk (P:=P) (w:=w) (I:=I) (μ:=μ) hty (b:=b) (off:=off) (cs:=cs) (vs:=vs.toList) (same:=Nat.beq sz i.size)
    (λj v hj=>Fb hheap j v hj) hone hrep (λ_ hs _=>by rw [hlen];exact CD hs) hd
   exact Ba hst (A7 hv) hr
  ·cases h
 ·rename_i bt cs off i hi;have hty:=htt t i hi
  split at h
  ·rename_i d' hd;have key:(i.agg=true->Nat.beq t bt=true->off=0->cs.length=i.size)->A4 ox->Hx P I μ st ids w d' ((do pure (.value (<- Instr.loadAt t (a.eval x))):Sem Next).run P w):=by
    intro hs hox;obtain ⟨b,o',vs,e1,e2,e3⟩:=(hx hox).ipInv;rw [e1];obtain ⟨v,hv,hr⟩:=MW (P:=P) (w:=w) (I:=I) (μ:=μ) hty (b:=b) (o:=o') (off:=off) (xs:=cs) (vs:=vs) (same:=Nat.beq t bt)
     (λj x hj=>⟨Imm.cell_world hst.imm (e2 j x hj).1,(e2 j x hj).2⟩) e3 hs hd
    exact Ba hst (A7 hv) hr
   split at h <;> simp only [Fk,Ce,Bc] at h
   ·obtain ⟨rfl,rfl⟩:=h;exact key (λ_ _ _=>hob.1 hc) hob.2
   ·rename_i hno;obtain ⟨rfl,rfl⟩:=h;exact key (λh1 h2 h3=>absurd h3 (hno h1 h2)) hob
  ·cases h
 ·cases h
theorem sY (htt:TTok P tt) (hst:StRep I μ st ids w) {x:Operand} (ho:o.op = .field t x f) (hop:DR I μ env a o.op) (hc:cx) (h:Fk (Hd tt cx env st o.op)=some (d,ob)) (hob:A4 ob):Hx P I μ st ids w d ((execOp a.eval o).run P w):=by
 rw [ho] at hop h;simp only [execOp,ho];simp only [Hd] at h;obtain ⟨dx,ox,h1,hx⟩:=By h hc (hop x (by simp [Op.operands]));clear h;have h:=h1;clear h1;have key:∀{fs:List (Nat×TypeId)} {fo:Nat} {ft:TypeId} {i:TyI} {cs:List D} {vs:Array Value} {d':D},PL P t (.struct fs)->Ms fs f=some (fo,ft)->TyOk P ft i ->
   HO i false cs fo=some d'->RepL I μ vs.toList cs->(∀c∈vs.toList,c.oneCell'=true)->∃v,(Instr.field t (.agg vs) f).run P w = .ok v w/\RepD I μ v d':=by
  intro fs fo ft i cs vs d' hs hn hi hd hr h1;obtain ⟨fields,hu,hmap,_⟩:=hs;rw [Gv,<- hmap,Ep,Pe] at hn;obtain ⟨fld,hfl,he⟩:=hn;simp only [Bc] at he;obtain ⟨e1,e2⟩:=he;have hfl':fields[f]?=some fld:=by rw [<- QW];exact hfl
  obtain ⟨v,hv,hr'⟩:=pG (P:=P) (w:=w) hi h1 hr hd;refine ⟨v,?_,hr'⟩;simp only [Instr.field,Sem.run_bind,run_underlying hu,Result.andThen_ok,hfl',asAgg,Sem.run_pure,e1,e2,hv]
 split at h
 ·rename_i xs fs _ _ _ _ hs
  split at h
  ·rename_i fo ft hn
   split at h
   ·rename_i i hi
    split at h <;> simp only [Fk,Ce,Bc,reduceCtorEq] at h
    rename_i d' hd;obtain ⟨rfl,rfl⟩:=h;obtain ⟨cs,e1,hr,h1⟩:=(hx hob).aggInv;obtain ⟨d2,hd2,hback⟩:=Xj (I:=I) (μ:=μ) hd;obtain ⟨v,hv,hr'⟩:=key (htt.sh hs) hn (htt ft i hi) hd2 hr.imm h1;rw [e1];exact Ba hst (A7 hv) (hback v hr')
   ·cases h
  ·cases h
 ·rename_i xs fs _ _ _ _ hs
  split at h
  ·rename_i fo ft hn
   split at h
   ·rename_i i hi
    split at h <;> simp only [Fk,Ce,Bc,reduceCtorEq] at h
    rename_i d' hd;obtain ⟨rfl,rfl⟩:=h;obtain ⟨cs,e1,hr,h1⟩:=(hx hob).aggDInv;obtain ⟨v,hv,hr'⟩:=key (htt.sh hs) hn (htt ft i hi) hd hr h1;rw [e1];exact Ba hst (A7 hv) hr'
   ·cases h
  ·cases h
 ·cases h
theorem bQ (hst:StRep I μ st ids w) {x:Operand} (ho:o.op = .extract x n) (hop:DR I μ env a o.op) (hc:cx) (h:Fk (Hd tt cx env st o.op)=some (d,ob)) (hob:A4 ob):Hx P I μ st ids w d ((execOp a.eval o).run P w):=by
 rw [ho] at hop h;simp only [execOp,ho];simp only [Hd] at h;obtain ⟨dx,ox,h1,hx⟩:=By h hc (hop x (by simp [Op.operands]));clear h;have h:=h1;clear h1
 split at h
 ·rename_i xs;unfold pK at h
  split at h <;> simp only [Fk,Ce,Bc,reduceCtorEq] at h
  rename_i y hy;obtain ⟨rfl,rfl⟩:=h;obtain ⟨cs,e1,hr⟩:=(hx hob).tupInv;rw [Gv] at hy;have hlt:n<xs.length:=(AL.1 hy).1;have hv:cs.toList[n]?=some (cs.toList[n]'(by rw [hr.1];exact hlt)):=Br _;have hv':cs[n]?=some (cs.toList[n]'(by rw [hr.1];exact hlt)):=by rw [<- QW];exact hv
  rw [e1];refine Ba hst (A7 (v:=cs.toList[n]'(by rw [hr.1];exact hlt)) ?_) (.imm _ _ (hr.2 n _ _ hv hy));simp only [Instr.extract,hv',Sem.run_pure]
 ·rename_i ds
  split at h <;> simp only [Fk,Ce,Bc,reduceCtorEq] at h
  rename_i y hy;obtain ⟨rfl,rfl⟩:=h;obtain ⟨cs,e1,hr⟩:=(hx hob).tupDInv;rw [Gv] at hy;have hlt:n<ds.length:=(AL.1 hy).1;have hv:cs.toList[n]?=some (cs.toList[n]'(by rw [hr.1];exact hlt)):=Br _;have hv':cs[n]?=some (cs.toList[n]'(by rw [hr.1];exact hlt)):=by rw [<- QW];exact hv
  rw [e1];refine Ba hst (A7 (v:=cs.toList[n]'(by rw [hr.1];exact hlt)) ?_) (hr.2 n _ _ hv hy);simp only [Instr.extract,hv',Sem.run_pure]
 ·cases h
theorem On (htt:TTok P tt) (hst:StRep I μ st ids w) {x:Operand} (ho:o.op = .makeInterface t x) (hop:DR I μ env a o.op) (hc:cx) (h:Fk (Hd tt cx env st o.op)=some (d,ob)) (hob:A4 ob):Hx P I μ st ids w d ((execOp a.eval o).run P w):=by
 rw [ho] at hop h;simp only [execOp,ho];simp only [Hd] at h;obtain ⟨dx,ox,h1,hx⟩:=By h hc (hop x (by simp [Op.operands]));clear h;have h:=h1;clear h1
 split at h <;> first | (cases h;done) | skip
 rename_i n1 n2 n3;cases hl:lk tt t with
 | none=>exact absurd hl n3
 | some i =>
  have hrun:=RR (w:=w) (htt t i hl) (λe=>by cases i;cases e;exact n1 _ _ _ _ hl) (λe=>by cases i;cases e;exact n2 _ _ _ _ hl) (a.eval x)
  split at h <;> simp only [Fk,Ce,Bc] at h
  ·obtain ⟨rfl,rfl⟩:=h;exact Ba hst (A7 hrun) (.imm _ _ (.iface _ _ _ (hx hob).immInv))
  ·obtain ⟨rfl,rfl⟩:=h;exact Ba hst (A7 hrun) (.iface _ _ _ (hx hob))
theorem XU (hst:StRep I μ st ids w) {f:Fn} {xs ys:Array Operand} (ho:o.op = .makeFunc f xs ys) (hop:DR I μ env a o.op) (h:Fk (Hd tt cx env st o.op)=some (d,ob)):Hx P I μ st ids w d ((execOp a.eval o).run P w):=by
 rw [ho] at hop h;simp only [execOp,ho];obtain ⟨xs⟩:=xs;obtain ⟨ys⟩:=ys;simp only [Hd] at h;have hX:∀ds,bS env xs=some ds->RepL I μ (xs.map a.eval) ds:=λds hd=>RB hd λx hx=>hop x (by simp [Op.operands,hx]);have hY:∀ds,bS env ys=some ds->RepL I μ (ys.map a.eval) ds:=λds hd=>RB hd λx hx=>hop x (by simp [Op.operands,hx])
 split at h <;> simp only [Fk,Ce,Bc,reduceCtorEq] at h
 ·rename_i hx hy;obtain ⟨rfl,rfl⟩:=h;have e1:=(hX _ hx).1;have e2:=(hY _ hy).1;have e1:xs=[]:=by simpa using e1
  have e2:ys=[]:=by simpa using e2
  subst e1;subst e2;exact Ba hst (A7 (v:=.func f #[] #[]) (by simp [Instr.makeFunc])) (.imm _ _ (.fn _))
 ·rename_i da db hne hx hy;obtain ⟨rfl,rfl⟩:=h;have r1:=hX _ hx;have r2:=hY _ hy;exact Ba hst (A7 (v:=.func f (xs.map a.eval).toArray (ys.map a.eval).toArray) (by simp [Instr.makeFunc]))<|.fn f _ _ da db (by simpa using r1.1) (by simpa using r2.1) (λi c x p q=>r1.2 i c x (by simpa using p) q) (λi c x p q=>r2.2 i c x (by simpa using p) q)
end
section
variable {tt:TT} {I:Imm} {μ:Mu} {st:St} {env:Env} {d:D}
theorem DC (s:ByteArray):s.size=s.data.toList.length:=by rw [TP];rfl
theorem HQ (s:ByteArray) (l h:Nat):(s.extract l h).data.toList=(s.data.toList.drop l).take (h-l):=by
 simp [ByteArray.data_extract,qJ]
theorem sX (htt:TTok P tt) (hst:StRep I μ st ids w) {x y:Operand} (ho:o.op = .index t x y) (hop:DR I μ env a o.op) (hc:cx) (h:Fk (Hd tt cx env st o.op)=some (d,ob)) (hob:A4 ob):Hx P I μ st ids w d ((execOp a.eval o).run P w):=by
 rw [ho] at hop h;simp only [execOp,ho];simp only [Hd] at h;obtain ⟨dx,ox,h1,hx⟩:=By h hc (hop x (by simp [Op.operands]));clear h;obtain ⟨dy,oy,h,hy⟩:=By h1 hc (hop y (by simp [Op.operands]));clear h1
 split at h <;> simp only [Fk,Ce,Bc,reduceCtorEq] at h
 rename_i s k i _ _ _ _ hs;obtain ⟨rfl,rfl⟩:=h;obtain ⟨hb,hob⟩:=hob;obtain ⟨h1,h2⟩:=B4 hob;obtain ⟨s,e1,rfl⟩:=(hx h1).immInv.strInv;have e2:=(hy h2).immInv.intInv;have hu:P.underlying t=some .string:=htt.sh hs;obtain ⟨hb1,hb2⟩:=hb hc;rw [e1,e2];refine Ba hst (A7 (v:=.int _ _) ?_) (.imm _ _ (.int _ _));have hlt:i.toNat<s.size:=by rw [DC];omega
 have hg:s[i.toNat]?=some s[i.toNat]:=ByteArray.getElem?_lt' s _ hlt;simp only [Instr.index,Sem.run_bind,asIntOf,Sem.run_pure,Result.andThen_ok,run_underlying hu,hb1,if_true,hg];congr 3;have:s.data.toList.getD i.toNat 0=s[i.toNat]:=by
  have h3:i.toNat<s.data.toList.length:=by rw [<- DC];exact hlt
  simp only [List.getD,Br h3,MV];simp;rfl
 rw [this]
theorem J0 {es:List (List V)} (h:RepV I v (.sl es)) (l m:Nat) (hl:l<=m) (hm:m<=es.length) (hu:P.underlying t=some (.slice e)) {i:TyI} (hi:TyOk P e i) (hz:∀c∈es,c.length=i.size) (lo hi':Option Value) (hlo:lo=none/\l=0\/∃k,lo=some (.int k l)) (hhi:hi'=none/\m=es.length\/∃k,hi'=some (.int k m)) :
  ∃u,(Instr.sliceAt t v lo hi' none).run P w = .ok u w/\RepV I u (.sl ((es.drop l).take (m-l))):=by
 have hb:∀(k:IntKind) (x y:Nat) (c:BoundsCode),x<=y->(Instr.sliceBound (.int k x) y c).run P w = .ok x w:=by
  intro k x y c hxy;simp [Instr.sliceBound,asIntOf,hxy]
 cases h with
 | slnil =>
  have hm0:m=0:=by simpa using hm
  have hl0:l=0:=by omega
  subst hm0;subst hl0;refine ⟨.slice none 0 0,?_,by simpa using RepV.slnil⟩;rcases hlo with ⟨rfl,_⟩ | ⟨k,rfl⟩ <;> rcases hhi with ⟨rfl,_⟩ | ⟨k',rfl⟩ <;>
   simp [Instr.sliceAt,run_underlying hu,Instr.slice,Instr.sliceBounds,Instr.sliceBound,asIntOf,hi.sizeOf w]
 | sl0 ad =>
  have hm0:m=0:=by simpa using hm
  have hl0:l=0:=by omega
  subst hm0;subst hl0;refine ⟨.slice (some ad) 0 0,?_,by simpa using RepV.sl0 ad⟩;rcases hlo with ⟨rfl,_⟩ | ⟨k,rfl⟩ <;> rcases hhi with ⟨rfl,_⟩ | ⟨k',rfl⟩ <;>
   simp [Instr.sliceAt,run_underlying hu,Instr.slice,Instr.sliceBounds,Instr.sliceBound,asIntOf,hi.sizeOf w]
 | sl b o len cap sz _ vs hlen hc hmx hsz hcell hrep =>
  have hmc:m<=cap:=by omega
  have hrun:(Instr.sliceAt t (.slice (some ⟨b,o,none⟩) len cap) lo hi' none).run P w = .ok (.slice (if cap=l then some ⟨b,o,none⟩ else some ((⟨b,o,none⟩:Addr).add (l*i.size))) (m-l) (cap-l)) w:=by
   have hml:m=es.length->m=len:=by omega
   rcases hlo with ⟨rfl,rfl⟩ | ⟨k,rfl⟩ <;> rcases hhi with ⟨rfl,h2⟩ | ⟨k',rfl⟩
   all_goals
    try have h3:=hml h2;subst h3
    simp [Instr.sliceAt,run_underlying hu,Instr.slice,Instr.sliceBounds,hb _ _ _ _ hl,hb _ _ _ _ hmc,hi.sizeOf w]
  refine ⟨_,hrun,?_⟩;by_cases hcl:cap=l
  ·have:m-l=0:=by omega
   rw [if_pos hcl,this];rw [qH];exact .sl b o 0 (cap-l) 0 [] (λ_ _=>undef) rfl (by omega) (by omega) (by simp) (by simp) (by simp)
  ·rw [if_neg hcl,HY];have hzz:∀c∈es,sz=i.size:=λc hc=>by rw [<- hsz c hc,hz c hc]
   refine .sl b (o+l*i.size) (m-l) (cap-l) i.size _ (λp q=>vs (l+p) q) (by simp;omega) (by omega) (by omega) (λe he=>hz e (Pd (LA he))) ?_ ?_
   ·intro p e q x hp hq;rw [D6] at hp
    split at hp
    ·rw [Fj] at hp;have hmem:e∈es:=AF hp;have:=hcell (l+p) e q x hp hq;rw [hzz e hmem,QV] at this
     rwa [show o+l*i.size+p*i.size+q=o+(l*i.size+p*i.size)+q by omega]
    ·cases hp
   ·intro p e q x hp hq;rw [D6] at hp
    split at hp
    ·rw [Fj] at hp;exact hrep (l+p) e q x hp hq
    ·cases hp
theorem XV (htt:TTok P tt) (hst:StRep I μ st ids w) {c:Call} (ho:o.op = .call c) (hop:DR I μ env a o.op) (hc:cx) (h:Fk (Hd tt cx env st o.op)=some (d,ob)) (hob:A4 ob):Hx P I μ st ids w d ((execOp a.eval o).run P w):=by
 rw [ho] at hop h;simp only [execOp,ho];simp only [Hd] at h
 split at h
 all_goals first
  | (rename_i heq;cases heq;done)
  | skip
 ·rename_i x t heq;cases heq;obtain ⟨dx,ox,h1,hx⟩:=By h hc (hop x (by simp [Op.operands,Call.operands]));clear h;have h:=h1;clear h1;have fin:∀(n:Int) (v:Value),a.eval x=v->(Builtin.len_ #[t] o.type #[v]).run P w = .ok (.int .i64 n) w->Hx P I μ st ids w (.imm (.int .i64 n))
    ((do let d <- resolve a.eval { callee:=.builtin .len,args:=⟨[x]⟩,argTypes:=⟨[t]⟩ } o.type;invoke d.target d.args:Sem Next).run P w):=by
   intro n v hv hr;refine Ba hst (v:=.int .i64 n) ?_ (.imm _ _ (.int _ _));simp [resolve,invoke,builtin,hv,hr]
  split at h
  ·rename_i hs;simp only [Fk,Ce,Bc] at h;obtain ⟨rfl,rfl⟩:=h;have hu:P.underlying t=some (.slice _):=htt.sh hs;have hr:=(hx hob).immInv;generalize hv:a.eval x=v at hr;refine fin _ v hv ?_;cases hr with
   | slnil=>simp [Builtin.len_,run_underlying hu,goInt]
   | sl0=>simp [Builtin.len_,run_underlying hu,goInt]
   | sl b o' len cap sz _ vs hl=>simp [Builtin.len_,run_underlying hu,goInt,hl]
  ·rename_i hs;simp only [Fk,Ce,Bc] at h;obtain ⟨rfl,rfl⟩:=h;have hu:P.underlying t=some .string:=htt.sh hs;obtain ⟨s,e1,rfl⟩:=(hx hob).immInv.strInv;refine fin _ _ e1 ?_;simp [Builtin.len_,run_underlying hu,goInt]
  ·rename_i hs;simp only [Fk,Ce,Bc] at h;obtain ⟨rfl,rfl⟩:=h;have hu:P.underlying t=some (.slice _):=htt.sh hs;have hr:=hx hob;generalize hv:a.eval x=v at hr;refine fin _ v hv ?_;cases hr;simp [Builtin.len_,run_underlying hu,goInt]
  ·rename_i hs;simp only [Fk,Ce,Bc] at h;obtain ⟨rfl,rfl⟩:=h;have hu:P.underlying t=some (.slice _):=htt.sh hs;have hr:=hx hob;generalize hv:a.eval x=v at hr;refine fin _ v hv ?_;cases hr;simp [Builtin.len_,run_underlying hu,goInt]
  ·rename_i hs;simp only [Fk,Ce,Bc] at h;obtain ⟨rfl,rfl⟩:=h;have hu:P.underlying t=some (.slice _):=htt.sh hs;have hr:=hx hob;generalize hv:a.eval x=v at hr;refine fin _ v hv ?_;cases hr;simp [Builtin.len_,run_underlying hu,goInt]
  ·rename_i id _ _ _ _ _ _ hs
   split at h <;> simp only [Fk,Ce,Bc,reduceCtorEq] at h
   rename_i kv hl;obtain ⟨rfl,rfl⟩:=h;have hu:P.underlying t=some (.map _ _):=htt.sh hs;have hr:=hx hob;obtain ⟨g,hg,b,es,clock,hg2,hheap,hlen,_⟩:=hst.blk id _ hl;generalize hv:a.eval x=v at hr;refine fin _ v hv ?_;cases hr with
   | mapr _ b' hm =>
    rw [hm] at hg;cases hg;cases hg2;have hget:(getObj b).run P w = .ok (.map es clock) w:=by simp [getObj,Sem.run,hheap]
    simp [Builtin.len_,run_underlying hu,goInt,hget,hlen]
  ·cases h
 ·rename_i x y ts heq;cases heq;obtain ⟨dx,ox,h1,hx⟩:=By h hc (hop x (by simp [Op.operands,Call.operands]));clear h;obtain ⟨dy,oy,h,hy⟩:=By h1 hc (hop y (by simp [Op.operands,Call.operands]));clear h1
  split at h <;> simp only [Fk,Ce,Bc,reduceCtorEq] at h
  obtain ⟨rfl,rfl⟩:=h;obtain ⟨h1,h2⟩:=B4 hob;have e1:=(hx h1).immInv.intInv;have e2:=(hy h2).immInv.intInv;refine Ba hst (v:=.int _ _) ?_ (.imm _ _ (.int _ _));simp [resolve,invoke,builtin,e1,e2,run_max_int2]
 ·rename_i x y ts heq;cases heq;obtain ⟨dx,ox,h1,hx⟩:=By h hc (hop x (by simp [Op.operands,Call.operands]));clear h;obtain ⟨dy,oy,h,hy⟩:=By h1 hc (hop y (by simp [Op.operands,Call.operands]));clear h1
  split at h <;> simp only [Fk,Ce,Bc,reduceCtorEq] at h
  obtain ⟨rfl,rfl⟩:=h;obtain ⟨h1,h2⟩:=B4 hob;have e1:=(hx h1).immInv.intInv;have e2:=(hy h2).immInv.intInv;refine Ba hst (v:=.int _ _) ?_ (.imm _ _ (.int _ _));simp [resolve,invoke,builtin,e1,e2,run_min_int2]
 ·cases h
end
section
variable {tt:TT} {I:Imm} {μ:Mu} {st:St} {env:Env} {d:D}
theorem Un (off:Nat):∀(l:List Value) (k:Nat) (cells:Array Value),off+k+l.length<=cells.size ->
  ((l.zipIdx k).foldl (λcs (p:Value×Nat)=>cs.setIfInBounds (off+p.2) p.1) cells).toList=cells.toList.take (off+k)++l++cells.toList.drop (off+k+l.length)
 | [],k,cells,h=>by simp
 | v::l,k,cells,h=>by
  simp only [qG,Pc];simp only [Da] at h;rw [Un off l (k+1) _ (by simp;omega)];have hlt:off+k<cells.toList.length:=by simp;omega
  simp only [Array.toList_setIfInBounds];rw [List.set_eq_take_append_cons_drop,if_pos hlt];have e1:List.take (off+(k+1)) (List.take (off+k) cells.toList++v::List.drop (off+k+1) cells.toList)=List.take (off+k) cells.toList++[v]:=by
   rw [Xf];simp only [HH,qF];have:off+(k+1)-min (off+k) cells.toList.length=1:=by omega
   rw [this,Nat.min_eq_right (by omega)];simp
  have e2:List.drop (off+(k+1)+l.length) (List.take (off+k) cells.toList++v::List.drop (off+k+1) cells.toList)=List.drop (off+k+(l.length+1)) cells.toList:=by
   rw [List.drop_append];simp only [HH];have h1:off+(k+1)+l.length-min (off+k) cells.toList.length=l.length+1:=by omega
   rw [h1,Bo (by simp;omega),IO];simp only [List.drop_succ_cons,qE];congr 1;omega
  rw [e1,e2];simp
theorem Le (place:Nat->Option (Nat×Nat)):∀(parts:List (Nat×Value)) (segs:List (List Value)),
  (∀i seg,segs[i]?=some seg->place i=some ((segs.take i).flatten.length,seg.length)) ->
  (∀p∈parts,∃seg,segs[p.1]?=some seg/\p.2.cells.size=seg.length) ->
  Instr.fill place segs.flatten.toArray parts=some ((parts.foldl (λs p=>s.set p.1 p.2.cells.toList) segs).flatten.toArray)
 | [],segs,_,_=>rfl
 | (i,v)::rest,segs,hp,hq=>by
  obtain ⟨seg,hs,hv⟩:=hq (i,v) (by simp);simp only at hs hv;have hlt:i<segs.length:=(AL.1 hs).1;obtain ⟨A,B,hsplit,hA⟩:∃A B,segs=A++seg::B/\A.length=i:=by
   refine ⟨segs.take i,segs.drop (i+1),?_,by simp;omega⟩;have:segs[i]=seg:=(AL.1 hs).2;rw [<- this];simp
  have htakei:segs.take i=A:=by rw [hsplit,<- hA];simp
  have hset:segs.set i v.cells.toList=A++v.cells.toList::B:=by rw [hsplit,<- hA];simp
  have hpl:place i=some (A.flatten.length,seg.length):=by rw [hp i seg hs,htakei]
  have hvl:v.cells.toList.length=seg.length:=by simpa using hv
  unfold Instr.fill;simp only [hpl,hv];rw [if_neg (by rw [hsplit];simp [-List.length_flatten,B5])];have hstep:v.cells.zipIdx.foldl (λcs (x:Value×Nat)=>cs.setIfInBounds (A.flatten.length+x.2) x.1) segs.flatten.toArray=(segs.set i v.cells.toList).flatten.toArray:=by
   apply Array.ext';have:=Un A.flatten.length v.cells.toList 0 segs.flatten.toArray (by rw [hsplit,hvl];simp [-List.length_flatten,B5]);rw [<- Array.foldl_toList,Array.toList_zipIdx];simp only [Iq] at this;rw [this,hset,hsplit,hvl];simp [-List.length_flatten]
  have ih:=Le place rest (segs.set i v.cells.toList) ?_ ?_
  ·rw [Pc,<- ih];congr 1
  ·intro j seg' hj;by_cases hij:i=j
   ·subst hij;rw [L9 hlt] at hj;cases hj;rw [hpl,hset,<- hA,hvl];simp [-List.length_flatten]
   ·rw [L8 hij] at hj;rw [hp j seg' hj];congr 2;by_cases hji:j<i
    ·rw [List.take_set,List.set_eq_of_length_le (by simp;omega)]
    ·rw [hset,hsplit,Xf,Xf,Db (by omega)];obtain ⟨n,hn⟩:∃n,j-A.length=n+1:=⟨j-A.length-1,by omega⟩
     rw [hn];simp [-List.length_flatten,B5,hvl]
  ·intro p hpm;obtain ⟨seg',h1,h2⟩:=hq p (by simp [hpm]);by_cases hij:i=p.1
   ·rw [<- hij,L9 hlt];rw [<- hij,hs] at h1;cases h1;exact ⟨_,rfl,by rw [hvl];exact h2⟩
   ·rw [L8 hij];exact ⟨seg',h1,h2⟩
theorem It:∀(parts:List (Nat×Value)) (segs:List (List Value)) (i:Nat) (seg:List Value),(parts.foldl (λs p=>s.set p.1 p.2.cells.toList) segs)[i]?=some seg ->
  (∀v,(i,v)∈parts->(∀u,(i,u)∈parts->u=v)->seg=v.cells.toList)/\((∀v,(i,v)∉parts)->segs[i]?=some seg)
 | [],segs,i,seg,h=>⟨λv hv=>by simp at hv,λ_=>h⟩
 | (j,u)::rest,segs,i,seg,h=>by
  rw [Pc] at h;have ih:=It rest _ i seg h;refine ⟨λv hv huniq=>?_,λhno=>?_⟩
  ·by_cases hr:(∃x,(i,x)∈rest)
   ·obtain ⟨x,hx⟩:=hr;have:=huniq x (by simp [hx]);subst this;exact ih.1 x hx (λy hy=>huniq y (by simp [hy]))
   ·have hvj:i=j/\v=u:=by
     rcases Cy.1 hv with e | e
     ·simpa using e
     ·exact absurd ⟨v,e⟩ hr
    obtain ⟨rfl,rfl⟩:=hvj;have:=ih.2 (λy hy=>hr ⟨y,hy⟩);simp only at this;by_cases hl:i<segs.length
    ·rw [L9 hl] at this;cases this;rfl
    ·rw [JK (by simp;omega)] at this;cases this
  ·have:=ih.2 (λy hy=>hno y (by simp [hy]));have hne:j≠i:=λe=>hno u (by simp [e])
   rwa [L8 hne] at this
end
section
variable {tt:TT} {I:Imm} {μ:Mu} {st:St} {env:Env} {d:D}
def O1 (I:Imm) (μ:Mu) (vs:List Value):Acc->Prop
 | .e=>vs=[]
 | .v xs=>RepVL I vs xs
 | .d ds=>RepL I μ vs ds
def Y8 (I:Imm) (μ:Mu) (vs:List Value):Ch->Prop
 | .v1 x=>RepVL I vs [x]
 | .vs xs=>RepVL I vs xs
 | .d1 d=>RepL I μ vs [d]
 | .ds ds=>RepL I μ vs ds
theorem RepL.append {us:List Value} {xs ys:List D} (h:RepL I μ vs xs) (k:RepL I μ us ys):RepL I μ (vs++us) (xs++ys):=by
 induction vs generalizing xs with
 | nil=>cases xs with
  | nil=>exact k
  | cons=>simp [RepL] at h
 | cons v vs ih=>cases xs with
  | nil=>simp [RepL] at h
  | cons x xs=>exact .mk h.cons.1 (ih h.cons.2)
theorem bI {us:List Value} {c:Ch} {acc:Acc} (h:Y8 I μ vs c) (k:O1 I μ us acc):O1 I μ (vs++us) (Rr c acc):=by
 cases c <;> cases acc <;> simp only [Y8,O1,Rr] at *
 case v1.e=>subst k;simpa using h
 case v1.v=>exact RepVL.append h k
 case v1.d=>exact RepL.append h.imm k
 case vs.e=>subst k;simpa using h
 case vs.v=>exact RepVL.append h k
 case vs.d=>exact RepL.append h.imm k
 case d1.e=>subst k;simpa using h
 case d1.v=>exact RepL.append h k.imm
 case d1.d=>exact RepL.append h k
 case ds.e=>subst k;simpa using h
 case ds.v=>exact RepL.append h k.imm
 case ds.d=>exact RepL.append h k
theorem H6 (h:v.oneCell'=true):v.cells = #[v]:=by cases v <;> simp_all [Value.cells,Value.oneCell']
theorem tS {c:Ch} {o:List Prop} (h:zbr sz d=some (c,o)) (hr:RepD I μ v d) (ho:A4 o) :
  Y8 I μ v.cells.toList c/\v.cells.size=sz/\∀u∈v.cells.toList,u.oneCell'=true:=by
 have one:∀{d':D},RepD I μ v d'->v.oneCell'=true->Nat.beq sz 1=true->v.cells.size=sz/\(∀u∈v.cells.toList,u.oneCell'=true)/\v.cells.toList=[v]:=by
  intro d' _ h1 hs;have:=CD hs;rw [H6 h1];exact ⟨by simp [this],by simpa using h1,rfl⟩
 unfold zbr at h
 split at h
 ·cases h;obtain ⟨cs,rfl,h1,h2⟩:=hr.aggInv;have hl:_=sz:=ho.1;exact ⟨h1,by simp [Value.cells];rw [<- hl,<- h1.1];simp,h2⟩
 ·cases h
 ·rename_i x hna hnt
  split at h
  ·rename_i hs;cases h;have hx1:x.one=true:=by
    cases x <;> first | rfl | exact absurd rfl (hna _) | exact absurd rfl (hnt _)
   obtain ⟨h1,h2,h3⟩:=one hr (hr.immInv.one hx1) hs;exact ⟨by rw [h3];exact .mk hr.immInv .nil,h1,h2⟩
  ·cases h
 ·cases h;obtain ⟨cs,rfl,h1,h2⟩:=hr.aggDInv;have hl:_=sz:=ho.1;exact ⟨h1,by simp [Value.cells];rw [<- hl,<- h1.1];simp,h2⟩
 ·cases h
 ·cases h
 ·cases h
 ·rename_i n1 n2 n3 n4 n5 n6 n7
  split at h
  ·rename_i hs;cases h;have hd1:d.one=true:=by
    cases d <;> first
     | rfl
     | exact absurd rfl (n3 _)
     | exact absurd rfl (n4 _)
     | exact absurd rfl (n5 _)
     | exact absurd rfl (n6 _ _ _)
     | exact absurd rfl n7
   obtain ⟨h1,h2,h3⟩:=one hr (hr.one hd1) hs;exact ⟨by rw [h3];exact .mk hr .nil,h1,h2⟩
  ·cases h
theorem cI {ds:List D} (h:RepL I μ vs ds):Y8 I μ vs (cJ ds):=by
 unfold cJ
 split
 ·rename_i x hx;exact J1 hx h
 ·rename_i xs _ hx;exact J1 hx h
 ·split
  ·exact h
  ·exact h
def D2 (tt:TT) (zc:List Value):Nat->List (Nat×TypeId)->List (List Value)
 | _,[]=>[]
 | off,(_,ft)::r=>match lk tt ft with
  | some ti=>(zc.drop off).take ti.size::D2 tt zc (off+ti.size) r
  | none=>[]
theorem RepL.dropTake {ds:List D} (h:RepL I μ vs ds) (o n:Nat):RepL I μ ((vs.drop o).take n) ((ds.drop o).take n):=by
 refine ⟨by simp [h.1],λj v d a b=>?_⟩;rw [D6] at a b
 split at a
 ·rename_i hj;rw [if_pos hj,Fj] at b;rw [Fj] at a;exact h.2 _ _ _ a b
 ·cases a
theorem RW {z:List D} {zc:List Value} {parts:List (Nat×Operand)} (hz:RepL I μ zc z) (hz1:∀v∈zc,v.oneCell'=true)
  (hx:∀i x,Cv parts i=some x->∀d,Eg env x=some d->RepD I μ (a.eval x) d) :
  ∀(fs:List (Nat×TypeId)) (i off:Nat) (acc:Acc) (o:List Prop),Oy tt env z parts i off fs=some (acc,o)->A4 o ->
  (∀S:List (List Value),S.length=fs.length ->
   (∀k seg,S[k]?=some seg->(∀x,Cv parts (i+k)=some x->seg=(a.eval x).cells.toList)/\(Cv parts (i+k)=none->(D2 tt zc off fs)[k]?=some seg)) ->
   O1 I μ S.flatten acc/\∀u∈S.flatten,u.oneCell'=true) /\
  (D2 tt zc off fs).flatten=zc.drop off/\(D2 tt zc off fs).length=fs.length/\off<=zc.length /\
  (∀k f seg,fs[k]?=some f->(D2 tt zc off fs)[k]?=some seg->f.1=off+((D2 tt zc off fs).take k).flatten.length/\(∃ti,lk tt f.2=some ti/\seg.length=ti.size)) /\
  (∀k x,k<fs.length->Cv parts (i+k)=some x->∃f ti,fs[k]?=some f/\lk tt f.2=some ti/\(a.eval x).cells.size=ti.size)
 | [],i,off,acc,o,h,ho=>by
  simp only [Oy] at h
  split at h
  ·rename_i hb;cases h;have:=CD hb;refine ⟨λS hS _=>?_,?_,rfl,by rw [hz.1];omega,by simp,by simp⟩
   ·have:S=[]:=L7 (by simpa using hS);subst this;exact ⟨rfl,by simp⟩
   ·simp [D2,hz.1,this]
  ·cases h
 | (fo,ft)::r,i,off,acc,o,h,ho=>by
  simp only [Oy] at h
  split at h
  ·rename_i ti hb hl;have hfo:=CD hb
   split at h
   ·rename_i acc' o1 hrec;have hseg:D2 tt zc off ((fo,ft)::r)=(zc.drop off).take ti.size::D2 tt zc (off+ti.size) r:=by simp [D2,hl]
    have main:A4 o1->∀(c:Ch),(∀seg:List Value,((∀x,Cv parts i=some x->seg=(a.eval x).cells.toList)/\(Cv parts i=none->(zc.drop off).take ti.size=seg))->Y8 I μ seg c/\∀u∈seg,u.oneCell'=true) ->
      (∀x,Cv parts i=some x->(a.eval x).cells.size=ti.size)->_:=λho1 c hc hsz=>by
     obtain ⟨h1,h2,h3,h4,h5,h6⟩:=RW hz hz1 hx r (i+1) (off+ti.size) acc' o1 hrec ho1;exact (show (∀S:List (List Value),S.length=((fo,ft)::r).length ->
       (∀k seg,S[k]?=some seg->(∀x,Cv parts (i+k)=some x->seg=(a.eval x).cells.toList)/\(Cv parts (i+k)=none->(D2 tt zc off ((fo,ft)::r))[k]?=some seg)) ->
       O1 I μ S.flatten (Rr c acc')/\∀u∈S.flatten,u.oneCell'=true) /\
      (D2 tt zc off ((fo,ft)::r)).flatten=zc.drop off/\(D2 tt zc off ((fo,ft)::r)).length=((fo,ft)::r).length/\off<=zc.length /\
      (∀k f seg,((fo,ft)::r)[k]?=some f->(D2 tt zc off ((fo,ft)::r))[k]?=some seg->f.1=off+((D2 tt zc off ((fo,ft)::r)).take k).flatten.length/\(∃ti,lk tt f.2=some ti/\seg.length=ti.size)) /\
      (∀k x,k<((fo,ft)::r).length->Cv parts (i+k)=some x->∃f ti,((fo,ft)::r)[k]?=some f/\lk tt f.2=some ti/\(a.eval x).cells.size=ti.size) by
      rw [hseg];refine ⟨λS hS hk=>?_,?_,by simp [h3],by omega,λk f seg hf hs=>?_,λk x hk hx=>?_⟩
      ·cases S with
       | nil=>simp at hS
       | cons seg S =>
        have h0:=hk 0 seg rfl;simp only [Iq,zS,Ce] at h0;obtain ⟨r1,r2⟩:=hc seg h0;obtain ⟨r3,r4⟩:=h1 S (by simpa using hS) (λk' seg' hs'=>by
         have:=hk (k'+1) seg' (by simpa using hs');rw [show i+(k'+1)=i+1+k' by omega] at this;simpa using this)
        refine ⟨by rw [Ki];exact bI r1 r3,λu hu=>?_⟩;rw [Ki] at hu;rcases BN.1 hu with hu | hu
        ·exact r2 u hu
        ·exact r4 u hu
      ·rw [Ki,h2,<- qE,eP]
      ·cases k with
       | zero =>
        simp at hf hs;subst hf;subst hs;exact ⟨by simp [hfo],ti,hl,by simp;omega⟩
       | succ k =>
        obtain ⟨q1,q2⟩:=h5 k f seg (by simpa using hf) (by simpa using hs);refine ⟨?_,q2⟩;rw [q1,List.take_succ_cons,Ki,B5];simp only [HH,JJ];omega
      ·cases k with
       | zero=>exact ⟨(fo,ft),ti,rfl,hl,hsz x (by simpa using hx)⟩
       | succ k =>
        obtain ⟨f,ti',q1,q2,q3⟩:=h6 k x (by simpa using hk) (by rw [show i+1+k=i+(k+1) by omega];exact hx);exact ⟨f,ti',by simpa using q1,q2,q3⟩)
    split at h
    ·rename_i x hfp
     split at h
     ·rename_i d hd
      split at h
      ·rename_i c o' hch;cases h;obtain ⟨hp1,hp2⟩:=B4 ho;obtain ⟨q1,q2,q3⟩:=tS hch (hx i x hfp d hd) hp1;exact main hp2 c (λseg hs=>by rw [hs.1 x hfp];exact ⟨q1,q3⟩) (λy hy=>by rw [hfp] at hy;cases hy;exact q2)
      ·cases h
     ·cases h
    ·rename_i hfp
     split at h
     ·rename_i ds hds;cases h;obtain ⟨e1,e2⟩:=IE hds;refine main ho _ (λseg hs=>?_) (λy hy=>by rw [hfp] at hy;cases hy);rw [<- hs.2 hfp,e1];exact ⟨cI (hz.dropTake off ti.size),λu hu=>hz1 u (Pd (LA hu))⟩
     ·cases h
   ·cases h
  ·cases h
theorem FX:∀{parts:List (Nat×Operand)} {i:Nat} {x:Operand},Cv parts i=some x->(i,x)∈parts
 | [],_,_,h=>by simp [Cv] at h
 | (j,y)::r,i,x,h=>by
  simp only [Cv] at h
  split at h
  ·rename_i hb;cases h;have:=CD hb;simp [this]
  ·exact Ip _ (FX h)
theorem GA:∀{parts:List (Nat×Operand)} {i:Nat},Cv parts i=none->∀x,(i,x)∉parts
 | [],_,_,x=>by simp
 | (j,y)::r,i,h,x=>by
  simp only [Cv] at h
  split at h
  ·cases h
  ·rename_i hb;intro hm;rcases Cy.1 hm with e | e
   ·cases e;simp at hb
   ·exact GA h x e
theorem MC {n:Nat}:∀{parts:List (Nat×Operand)},MD n parts=true->(∀p∈parts,p.1<n)/\(∀i x y,(i,x)∈parts->(i,y)∈parts->x=y)
 | [],_=>⟨by simp,by simp⟩
 | (j,z)::r,h=>by
  simp only [MD] at h
  split at h
  ·rename_i h1 h2;obtain ⟨q1,q2⟩:=MC h;have hlt:j<n:=by simpa [HG] using h1
   have hno:=GA h2;refine ⟨λp hp=>?_,λi x y hx hy=>?_⟩
   ·rcases Cy.1 hp with e | e
    ·subst e;exact hlt
    ·exact q1 p e
   ·rcases Cy.1 hx with e | e <;> rcases Cy.1 hy with e' | e'
    ·cases e;cases e';rfl
    ·cases e;exact absurd e' (hno y)
    ·cases e';exact absurd e (hno x)
    ·exact q2 i x y e e'
  ·cases h
end
section
variable {tt:TT} {I:Imm} {μ:Mu} {st:St} {env:Env} {d:D}
theorem L4 {α β:Type} (f:α->Sem β) (g:α->β):∀l:List α,(∀x∈l,(f x).run P w = .ok (g x) w)->(l.mapM f).run P w = .ok (l.map g) w
 | [],_=>by simp
 | x::l,h=>by
  rw [qD];simp only [Sem.run_bind,h x (by simp),Result.andThen_ok,L4 f g l (λy hy=>h y (by simp [hy])),Sem.run_pure,C6]
theorem Q7 (f:α->Sem β) (g:α->β) (l:Array α) (h:∀x∈l.toList,(f x).run P w = .ok (g x) w):(l.mapM f).run P w = .ok (l.map g) w:=by
 obtain ⟨l⟩:=l;rw [List.mapM_toArray];simp only [Sem.run_map,L4 f g l h,Result.andThen_ok,MU]
theorem Sp (h:0<P.cellsOf t):(sizeOf t).run P w = .ok (P.cellsOf t) w:=by
 unfold Program.cellsOf at *;cases hi:P.info? t with
 | none=>simp [hi] at h
 | some inf=>simp [sizeOf,typeInfo,hi]
theorem EW:∀(parts:List (Nat×Value)) (segs:List (List Value)),(parts.foldl (λs p=>s.set p.1 p.2.cells.toList) segs).length=segs.length
 | [],_=>rfl
 | p::r,segs=>by rw [Pc,EW r];simp
theorem sZ (htt:TTok P tt) (hst:StRep I μ st ids w) (ho:o.op = .build t ps) (hop:DR I μ env a o.op) (h:Fk (Hd tt cx env st o.op)=some (d,ob)) (hob:A4 ob):Hx P I μ st ids w d ((execOp a.eval o).run P w):=by
 rw [ho] at hop h;simp only [execOp,ho];obtain ⟨parts⟩:=ps;simp only [Hd] at h
 split at h
 ·rename_i fs agg size bytes z hl;have hty:=htt t _ hl;obtain ⟨inf,zv,hi1,_,_,hi4,hi5,hi6⟩:=hty.info;obtain ⟨fields,hu,hmap,hpos⟩:=htt.sh hl;have hz:=hi5 I μ;have hpart:∀i x,Cv parts i=some x->∀d,Eg env x=some d->RepD I μ (a.eval x) d:=λi x hx=>hop x (by
   have:=FX hx;simp only [Op.operands];exact C2.2 ⟨(i,x),this,rfl⟩)
  have main:∀acc o',Oy tt env z parts 0 0 fs=some (acc,o')->MD fs.length parts=true->A4 o' ->
    ∃cells:Array Value,(Instr.build t (parts.toArray.map λ(p:Nat×Operand)=>(p.1,a.eval p.2))).run P w = .ok (.agg cells) w/\O1 I μ cells.toList acc/\∀u∈cells.toList,u.oneCell'=true:=by
   intro acc o' hb hpk ho';obtain ⟨h1,h2,h3,_,h5,h6⟩:=RW (a:=a) hz hi6 hpart fs 0 0 acc o' hb ho';obtain ⟨hp1,hp2⟩:=MC hpk;have hfl:(D2 tt zv.cells.toList 0 fs).flatten=zv.cells.toList:=by rw [h2];rfl
   have hsz:∀f∈fields.toList,(do pure (f.offset,<- sizeOf f.type):Sem (Nat×Nat)).run P w = .ok (f.offset,P.cellsOf f.type) w:=λf hf=>by
    simp only [Sem.run_bind,Sp (hpos f hf),Result.andThen_ok,Sem.run_pure]
   have hplaces:=Q7 (P:=P) (w:=w) (λf:Field=>(do pure (f.offset,<- sizeOf f.type):Sem (Nat×Nat))) (λf=>(f.offset,P.cellsOf f.type)) fields hsz;have hplace:∀i seg,(D2 tt zv.cells.toList 0 fs)[i]?=some seg->(fields.map λf=>(f.offset,P.cellsOf f.type))[i]?=some (((D2 tt zv.cells.toList 0 fs).take i).flatten.length,seg.length):=by
    intro i seg hs;have hlt:i<fs.length:=by rw [<- h3];exact (AL.1 hs).1
    obtain ⟨f0,hf0⟩:∃f,fs[i]?=some f:=⟨_,Br hlt⟩
    obtain ⟨q1,ti,q2,q3⟩:=h5 i f0 seg hf0 hs;have hf:=hf0;rw [<- hmap,Ep,Pe] at hf;obtain ⟨fld,hfl,he⟩:=hf;rw [Array.getElem?_map,<- QW,hfl,TN];have e1:f0.1=fld.offset:=by rw [<- he]
    have e2:f0.2=fld.type:=by rw [<- he]
    rw [e2] at q2;rw [Dh] at q1;rw [<- e1,q1,(htt _ _ q2).cellsOf,q3]
   have hq:∀p∈(parts.map λ(p:Nat×Operand)=>(p.1,a.eval p.2)),∃seg,(D2 tt zv.cells.toList 0 fs)[p.1]?=some seg/\p.2.cells.size=seg.length:=by
    intro p hp;obtain ⟨⟨i,x⟩,hm,rfl⟩:=C2.1 hp;have hlt:=hp1 _ hm;simp only at hlt ⊢;have hlt2:i<(D2 tt zv.cells.toList 0 fs).length:=by rw [h3];exact hlt
    refine ⟨_,Br hlt2,?_⟩;cases hfp:Cv parts i with
    | none=>exact absurd hm (GA hfp x)
    | some y =>
     have:=hp2 i x y hm (FX hfp);subst this;obtain ⟨f,ti,r1,r2,r3⟩:=h6 i x hlt (by rw [Dh];exact hfp);obtain ⟨_,ti',r4,r5⟩:=h5 i f _ r1 (Br hlt2);rw [r2] at r4;cases r4;rw [r3,r5]
   have hfill:=Le (λi=>(fields.map λf=>(f.offset,P.cellsOf f.type))[i]?) (parts.map λ(p:Nat×Operand)=>(p.1,a.eval p.2)) _ hplace hq;rw [hfl] at hfill;refine ⟨(((parts.map λ(p:Nat×Operand)=>(p.1,a.eval p.2)).foldl (λs p=>s.set p.1 p.2.cells.toList) (D2 tt zv.cells.toList 0 fs)).flatten).toArray,?_,?_⟩
   ·simp only [Instr.build,Sem.run_bind,zeroValue,typeInfo,run_program,Result.andThen_ok,hi1,hi4,Sem.run_pure,run_underlying hu,hplaces];simp only [MU];rw [show zv.cells=zv.cells.toList.toArray from rfl,hfill];rfl
   ·rw [MT];refine h1 _ (by rw [EW,h3]) λk seg hs=>?_;obtain ⟨r1,r2⟩:=It _ _ k seg hs;rw [Dh];refine ⟨λx hx=>?_,λhx=>?_⟩
    ·refine r1 (a.eval x) (C2.2 ⟨(k,x),FX hx,rfl⟩) λu hu=>?_;obtain ⟨⟨k',y⟩,hm,he⟩:=C2.1 hu;simp only [Bc] at he;obtain ⟨rfl,rfl⟩:=he;rw [hp2 k' x y (FX hx) hm]
    ·refine r2 λv hv=>?_;obtain ⟨⟨k',y⟩,hm,he⟩:=C2.1 hv;simp only [Bc] at he;obtain ⟨rfl,rfl⟩:=he;exact GA hx y hm
  split at h <;> simp only [Fk,Ce,Bc,reduceCtorEq] at h
  ·rename_i xs o' hb hpk;obtain ⟨rfl,rfl⟩:=h;obtain ⟨cells,q1,q2,q3⟩:=main _ _ hb hpk hob;exact Ba hst (A7 q1) (.imm _ _ (.agg _ _ (by simpa using q2.1) q3 (λi c x p q=>q2.2 i c x (by simpa using p) q)))
  ·rename_i ds o' hb hpk;obtain ⟨rfl,rfl⟩:=h;obtain ⟨cells,q1,q2,q3⟩:=main _ _ hb hpk hob;exact Ba hst (A7 q1) (.agg _ _ (by simpa using q2.1) q3 (λi c x p q=>q2.2 i c x (by simpa using p) q))
  ·rename_i o' hb hpk;obtain ⟨rfl,rfl⟩:=h;obtain ⟨cells,q1,q2,q3⟩:=main _ _ hb hpk hob;have q2:cells.toList=[]:=q2;exact Ba hst (A7 q1) (.imm _ _ (.agg _ _ (by have:=congrArg List.length q2;simpa using this) q3 (λi c x p q=>by simp at q)))
 ·cases h
theorem RD {e:List V} {o:List Prop} (h:Hk.elemOf sz d=some (e,o)) (hr:RepD I μ v d) (ho:A4 o) :
  RepVL I v.cells.toList e/\v.cells.size=sz/\e.length=sz/\∀u∈v.cells.toList,u.oneCell'=true:=by
 unfold Hk.elemOf at h
 split at h
 ·cases h;obtain ⟨cs,rfl,h1,h2⟩:=hr.aggInv;have hl:_=sz:=ho.1;exact ⟨h1,by simp [Value.cells];rw [<- hl,<- h1.1];simp,hl,h2⟩
 ·cases h
 ·rename_i x hna hnt
  split at h
  ·rename_i hs;cases h;have hx1:x.one=true:=by
    cases x <;> first | rfl | exact absurd rfl (hna _) | exact absurd rfl (hnt _)
   have h1:=hr.immInv.one hx1;have:=CD hs;rw [H6 h1];exact ⟨.mk hr.immInv .nil,by simp [this],by simp [this],by simpa using h1⟩
  ·cases h
 ·split at h
  ·rename_i hs;cases h;have:=CD hs;cases hr;exact ⟨.mk .slnil .nil,by simp [this,Value.cells],by simp [this],by simp [Value.cells,Value.oneCell']⟩
  ·cases h
 ·rename_i ds
  split at h
  ·rename_i xs hx;cases h;obtain ⟨cs,rfl,h1,h2⟩:=hr.aggDInv;have hl:_=sz:=ho.1;have hv:∀{vs:List Value} {ds:List D} {xs:List V},FJ ds=some xs->RepL I μ vs ds->RepVL I vs xs:=by
    intro vs
    induction vs with
    | nil =>
     intro ds xs h hr;cases ds with
     | nil=>cases h;exact .nil
     | cons d ds=>simp [RepL] at hr
    | cons v vs ih =>
     intro ds xs h hr;cases ds with
     | nil=>simp [RepL] at hr
     | cons d ds =>
      obtain ⟨h1,h2⟩:=hr.cons;cases d <;> simp only [FJ,reduceCtorEq] at h
      ·split at h
       ·rename_i ys hys;cases h;exact .mk h1.immInv (ih hys h2)
       ·cases h
      ·split at h
       ·rename_i ys hys;cases h;cases h1;exact .mk .slnil (ih hys h2)
       ·cases h
   have h3:=hv hx h1;exact ⟨h3,by simp [Value.cells];rw [<- hl,<- h3.1];simp,hl,h2⟩
  ·cases h
 ·cases h
theorem K8 {sz:Nat} (hc:cx):∀(parts:List (Nat×Operand)) (i:Nat) (es:List (List V)) (o:List Prop),Iu cx env sz i parts=some (es,o)->A4 o ->
  (∀p∈parts,∀d,Eg env p.2=some d->RepD I μ (a.eval p.2) d) ->
  es.length=parts.length/\(∀(k:Nat) (p:Nat×Operand),parts[k]?=some p->p.1=i+k) /\
  (∀(k:Nat) (p:Nat×Operand) (e:List V),parts[k]?=some p->es[k]?=some e->RepVL I (a.eval p.2).cells.toList e/\(a.eval p.2).cells.size=sz/\e.length=sz/\∀u∈(a.eval p.2).cells.toList,u.oneCell'=true)
 | [],i,es,o,h,_,_=>by cases h;exact ⟨rfl,by simp,by simp⟩
 | (j,x)::r,i,es,o,h,ho,hx=>by
  simp only [Iu] at h;have fin:∀d e o1 es' o',Nat.beq i j=true->Hk.elemOf sz d=some (e,o1)->Iu cx env sz (i+1) r=some (es',o')->RepD I μ (a.eval x) d->A4 o1->A4 o' ->
    (e::es').length=((j,x)::r).length/\(∀(k:Nat) (p:Nat×Operand),((j,x)::r)[k]?=some p->p.1=i+k) /\
    (∀(k:Nat) (p:Nat×Operand) (e':List V),((j,x)::r)[k]?=some p->(e::es')[k]?=some e'->RepVL I (a.eval p.2).cells.toList e'/\(a.eval p.2).cells.size=sz/\e'.length=sz/\∀u∈(a.eval p.2).cells.toList,u.oneCell'=true):=by
   intro d e o1 es' o' hb he hrec hr h1 h2;obtain ⟨q1,q2,q3⟩:=K8 hc r (i+1) es' o' hrec h2 (λp hp=>hx p (by simp [hp]));have hij:=CD hb;refine ⟨by simp [q1],λk p hp=>?_,λk p e' hp he'=>?_⟩
   ·cases k with
    | zero=>simp at hp;subst hp;simp [hij]
    | succ k=>have:=q2 k p (by simpa using hp);omega
   ·cases k with
    | zero =>
     simp at hp he';subst hp;subst he';exact RD he hr h1
    | succ k=>exact q3 k p e' (by simpa using hp) (by simpa using he')
  split at h
  ·rename_i c w' d' hb hd
   split at h
   ·rename_i e o1 es' o' he hrec;cases h;obtain ⟨hg,ho2⟩:=ho;obtain ⟨h1,h2⟩:=B4 ho2;exact fin d' e o1 es' o' hb he hrec ((hx (j,x) (by simp) _ hd).guardInv (hg hc)) h1 h2
   ·cases h
  ·rename_i d' hne hb hd
   split at h
   ·rename_i e o1 es' o' he hrec;cases h;obtain ⟨h1,h2⟩:=B4 ho;exact fin d' e o1 es' o' hb he hrec (hx (j,x) (by simp) _ hd) h1 h2
   ·cases h
  ·cases h
end
section
variable {tt:TT} {I:Imm} {μ:Mu} {st:St} {env:Env} {d:D}
theorem StRep.allocI (hst:StRep I μ st ids w) (o:Obj):∃I',I'  w.heap.size=some o/\I.le I'/\StRep I' μ st ids (w.alloc o)/\Ext I μ st w I' μ st (w.alloc o):=by
 have hnew:I w.heap.size=none:=by
  cases h:I w.heap.size with
  | none=>rfl
  | some o'=>have:=hst.imm _ _ h;rw [Array.getElem?_eq_none (BQ _)] at this;cases this
 have hold:∀b,b<w.heap.size->(w.alloc o).heap[b]?=w.heap[b]?:=λb hb=>CW w o hb;have hlt:∀b o',w.heap[b]?=some o'->b<w.heap.size:=λb o' h=>(GY.1 h).1;have hle:I.le (λb=>if b=w.heap.size then some o else I b):=λb o' h=>by
  have:b≠w.heap.size:=λe=>by rw [e,hnew] at h;cases h
  simp [this,h]
 refine ⟨λb=>if b=w.heap.size then some o else I b,by simp,hle,?_,?_⟩
 ·refine { imm:=λb o' h=>?_,blk:=λid blk hl=>?_,apart:=λid blk g b hl hg hb=>?_,inj:=hst.inj,nodup:=hst.nodup,idsFree:=hst.idsFree }
  ·by_cases hb:b=w.heap.size
   ·subst hb;simp at h;subst h;exact EC w o
   ·simp [hb] at h;have:=hst.imm _ _ h;rw [hold b (hlt b _ this)];exact this
  ·obtain ⟨g,h1,h2⟩:=hst.blk id blk hl;exact ⟨g,h1,(h2.mono hle (Mu.le_refl μ)).world (λb hb=>hold b (hst.apart id blk g b hl h1 hb).2)⟩
  ·obtain ⟨h1,h2⟩:=hst.apart id blk g b hl hg hb;have:b≠w.heap.size:=by omega
   exact ⟨by simp [this,h1],by simp;omega⟩
 ·have hI:∀b,b<w.heap.size->¬Bq μ st b->(if b=w.heap.size then some o else I b)=I b:=λb hb _=>if_neg (by omega);exact { imm:=hle,os:=rfl,tape:=rfl,output:=rfl,size:=by simp,block:=λb hb _=>hold b hb,fresh:=λb _ h=>h,old:=hI }
theorem C8 {α:Type} {sz:Nat}:∀{es:List (List α)},(∀e∈es,e.length=sz)->∀i e j x,es[i]?=some e->e[j]?=some x->es.flatten[i*sz+j]?=some x
 | [],_,i,e,j,x,h,_=>by simp at h
 | c::es,hs,i,e,j,x,h,hj=>by
  have hc:=hs c (by simp);cases i with
  | zero =>
   simp at h;subst h;rw [Nat.zero_mul,Dh,Ki,Pb (AL.1 hj).1];exact hj
  | succ i =>
   rw [Ki,Pa (by rw [QU];omega),hc,QU];rw [show i*sz+sz+j-sz=i*sz+j by omega];exact C8 (λe he=>hs e (by simp [he])) i e j x (by simpa using h) hj
def GN {α:Type} (sz:Nat):Nat->List α->List (List α)
 | 0,_=>[]
 | n+1,l=>l.take sz::GN sz n (l.drop sz)
theorem Mn {α:Type} (sz:Nat):∀(n:Nat) (l:List α),l.length=n*sz->(GN sz n l).flatten=l/\(GN sz n l).length=n/\(∀c∈GN sz n l,c.length=sz)
 | 0,l,h=>by
  have:l=[]:=L7 (by simpa using h);subst this;exact ⟨rfl,rfl,by simp [GN]⟩
 | n+1,l,h=>by
  rw [QU] at h;obtain ⟨h1,h2,h3⟩:=Mn sz n (l.drop sz) (by simp;omega);refine ⟨by simp [GN,h1],by simp [GN,h2],λc hc=>?_⟩;rcases Cy.1 hc with e | e
  ·subst e;simp;omega
  ·exact h3 c e
theorem B0 {α:Type} {sz:Nat}:∀{es:List (List α)},(∀e∈es,e.length=sz)->es.flatten.length=es.length*sz
 | [],_=>by simp
 | c::es,h=>by
  have hc:=h c (by simp);rw [Ki,B5,hc,B0 (λe he=>h e (by simp [he])),Da,QU];omega
theorem nL (hst:StRep I μ st ids w) (e:TypeId) (sz:Nat) (R:List (List Value)) (es:List (List V)) (hl:R.length=es.length) (hR:∀c∈R,c.length=sz) (hes:∀c∈es,c.length=sz)
  (hrep:∀(k:Nat) (c:List Value) (x:List V),R[k]?=some c->es[k]?=some x->RepVL I c x/\∀u∈c,u.oneCell'=true) (cap:Nat) (hcap:es.length<=cap) (hm:cap<=maxLen) (extra:List Value) :
  ∃I',StRep I' μ st ids (w.alloc (.cells (R.flatten++extra).toArray e))/\RepD I' μ (.slice (some ⟨w.heap.size,0,none⟩) es.length cap) (.imm (.sl es)) /\
   Ext I μ st w I' μ st (w.alloc (.cells (R.flatten++extra).toArray e)):=by
 obtain ⟨I',h1,h2,h3,h4⟩:=hst.allocI (.cells (R.flatten++extra).toArray e);refine ⟨I',h3,.imm _ _ (.sl w.heap.size 0 es.length cap sz es (λi j=>(R.flatten)[i*sz+j]?.getD undef) rfl hcap hm hes ?_ ?_),h4⟩
 ·intro i e' j x hi hj;have hlt:i<R.length:=by rw [hl];exact (AL.1 hi).1
  have hRi:R[i]?=some R[i]:=Br hlt;obtain ⟨q1,q2⟩:=hrep i R[i] e' hRi hi;have hj':j<R[i].length:=by rw [q1.1];exact (AL.1 hj).1
  have hf:=C8 hR i R[i] j R[i][j] hRi (Br hj');rw [hf];refine ⟨?_,q2 _ (IP hj')⟩;unfold Imm.cell;rw [h1];simp only [Dh];rw [List.getElem?_toArray,Pb (AL.1 hf).1,hf];rfl
 ·intro i e' j x hi hj;have hlt:i<R.length:=by rw [hl];exact (AL.1 hi).1
  have hRi:R[i]?=some R[i]:=Br hlt;obtain ⟨q1,q2⟩:=hrep i R[i] e' hRi hi;have hj':j<R[i].length:=by rw [q1.1];exact (AL.1 hj).1
  have hf:=C8 hR i R[i] j R[i][j] hRi (Br hj');rw [hf];exact (q1.2 j _ x (Br hj') hj).mono h2
theorem SH (htt:TTok P tt) (hst:StRep I μ st ids w) (ho:o.op = .buildSlice t n ps) (hop:DR I μ env a o.op) (hc:cx) (h:Fk (Hd tt cx env st o.op)=some (d,ob)) (hob:A4 ob):Hx P I μ st ids w d ((execOp a.eval o).run P w):=by
 rw [ho] at hop h;simp only [execOp,ho];obtain ⟨parts⟩:=ps;simp only [Hd] at h
 split at h
 ·rename_i e agg size bytes z hl
  split at h
  ·rename_i i hi
   split at h <;> simp only [Fk,Ce,Bc,reduceCtorEq] at h
   rename_i es o' hel hn hbig hpos;obtain ⟨rfl,rfl⟩:=h;have hty:=htt e i hi;obtain ⟨inf,zv,hi1,hi2,_,hi4,hi5,hi6⟩:=hty.info;have hu:P.underlying t=some (.slice e):=htt.sh hl;have hn':n=parts.length:=CD hn;have hsz:0<i.size:=by simpa [HG] using hpos
   have hbig':n*i.size<=16777216:=qC hbig;obtain ⟨q1,q2,q3⟩:=K8 (a:=a) (I:=I) (μ:=μ) hc parts 0 es o' hel hob (λp hp=>hop p.2 (by simp only [Op.operands];exact C2.2 ⟨p,hp,rfl⟩));obtain ⟨A,hA,hA0,hA1⟩:∃A:List Value,A.length=n*i.size/\(n*i.size=0->(Array.range (n*i.size)).map (λk=>(#[]:Array Value)[k % (#[]:Array Value).size]!)=A.toArray) /\
     (n*i.size≠0->(Array.range (n*i.size)).map (λk=>zv.cells[k % zv.cells.size]!)=A.toArray):=by
    by_cases hz0:n*i.size=0
    ·exact ⟨((Array.range (n*i.size)).map (λk=>(#[]:Array Value)[k % (#[]:Array Value).size]!)).toList,by simp,λ_=>rfl,λh=>absurd hz0 h⟩
    ·exact ⟨((Array.range (n*i.size)).map (λk=>zv.cells[k % zv.cells.size]!)).toList,by simp,λh=>absurd h hz0,λ_=>rfl⟩
   obtain ⟨c1,c2,c3⟩:=Mn i.size n A hA;have hq:∀p∈(parts.map λ(p:Nat×Operand)=>(p.1,a.eval p.2)),∃seg,(GN i.size n A)[p.1]?=some seg/\p.2.cells.size=seg.length:=by
    intro p hp;obtain ⟨q,hm,rfl⟩:=C2.1 hp;obtain ⟨k,hk⟩:=IN hm;have h1:=q2 k q hk;have hlt:k<parts.length:=(AL.1 hk).1;have hlt2:k<es.length:=by rw [q1];exact hlt
    obtain ⟨_,r2,_,_⟩:=q3 k q es[k] hk (Br hlt2);have hlt3:q.1<(GN i.size n A).length:=by rw [c2];omega
    exact ⟨_,Br hlt3,by rw [r2,c3 _ (IP hlt3)]⟩
   have hplace:∀k seg,(GN i.size n A)[k]?=some seg->some (k*i.size,i.size)=some (((GN i.size n A).take k).flatten.length,seg.length):=by
    intro k seg hs;have hlt:k<n:=by rw [<- c2];exact (AL.1 hs).1
    rw [B0 (sz:=i.size) (λc hc'=>c3 c (LA hc')),c3 seg (AF hs)];rw [HH,c2,Xe (by omega)]
   have hfill:=Le (λk=>some (k*i.size,i.size)) (parts.map λ(p:Nat×Operand)=>(p.1,a.eval p.2)) _ hplace hq;rw [c1] at hfill;obtain ⟨R,hR⟩:∃R,(parts.map λ(p:Nat×Operand)=>(p.1,a.eval p.2)).foldl (λs p=>s.set p.1 p.2.cells.toList) (GN i.size n A)=R:=⟨_,rfl⟩
   rw [hR] at hfill;have hRl:R.length=n:=by rw [<- hR,EW,c2]
   have hRk:∀(k:Nat) (c:List Value),R[k]?=some c->∃p,parts[k]?=some p/\c=(a.eval p.2).cells.toList:=by
    intro k c hk;have hlt:k<parts.length:=by rw [<- hn',<- hRl];exact (AL.1 hk).1
    have hp:parts[k]?=some parts[k]:=Br hlt;have h1:(parts[k]).1=k:=by have:=q2 k _ hp;omega
    rw [<- hR] at hk;obtain ⟨r1,_⟩:=It _ _ k c hk;refine ⟨_,hp,r1 _ (C2.2 ⟨parts[k],IP hlt,by rw [h1]⟩) λu hu=>?_⟩;obtain ⟨q,hm,he⟩:=C2.1 hu;simp only [Bc] at he;obtain ⟨k',hk'⟩:=IN hm;have:=q2 k' q hk';have e:k'=k:=by omega
    subst e;rw [hp] at hk';have hk':=OZ hk';rw [hk',<- he.2]
   have hRs:∀c∈R,c.length=i.size:=by
    intro c hc';obtain ⟨k,hk⟩:=IN hc';obtain ⟨p,hp,rfl⟩:=hRk k c hk;have hlt2:k<es.length:=by rw [q1];exact (AL.1 hp).1
    obtain ⟨_,r2,_,_⟩:=q3 k p _ hp (Br hlt2);simpa using r2
   have hlen:n=es.length:=by rw [q1,hn']
   obtain ⟨I',s1,s2,s3⟩:=nL hst e i.size R es (by rw [hRl,hlen]) hRs (λc hc'=>by
     obtain ⟨k,hk⟩:=IN hc';have hlt2:k<parts.length:=by rw [<- q1];exact (AL.1 hk).1
     exact (q3 k _ c (Br hlt2) hk).2.2.1)
    (λk c x hk hx=>by
     obtain ⟨p,hp,rfl⟩:=hRk k c hk;obtain ⟨r1,_,_,r4⟩:=q3 k p x hp hx;exact ⟨r1,r4⟩) es.length (BQ _) (by
      rw [<- hlen];have h1:n*1<=n*i.size:=zR n hsz;unfold maxLen;omega) []
   rw [JI] at s1 s3;have hrun:(do pure (.value (<- Instr.buildSlice t n (parts.toArray.map λ(p:Nat×Operand)=>(p.1,a.eval p.2)))):Sem Next).run P w =
     .ok (.value (.slice (some ⟨w.heap.size,0,none⟩) n n)) (w.alloc (.cells R.flatten.toArray e)):=by
    have hno:¬n*i.size > 2 ^ 24:=by omega
    by_cases hz0:n*i.size=0
    ·simp only [Instr.buildSlice,Sem.run_bind,run_underlying hu,hty.sizeOf w,Result.andThen_ok,hno,if_false,Sem.run_pure,if_pos hz0];rw [hA0 hz0,MU,hfill];simp only [newRow,Sem.run_bind,run_newObj,Result.andThen_ok,Sem.run_pure];rfl
    ·simp only [Instr.buildSlice,Sem.run_bind,run_underlying hu,hty.sizeOf w,Result.andThen_ok,hno,if_false,Sem.run_pure,if_neg hz0,zeroValue,typeInfo,run_program,hi1,hi4];rw [hA1 hz0,MU,hfill];simp only [newRow,Sem.run_bind,run_newObj,Result.andThen_ok,Sem.run_pure];rfl
   unfold Hx;rw [hrun];refine ⟨I',s1,?_,s3⟩;rw [hlen];cases es with
   | nil=>exact .clip _ _ _ s2.immInv
   | cons=>exact s2
  ·cases h
 ·cases h
end
section
variable {tt:TT} {I:Imm} {μ:Mu} {st:St} {env:Env} {d:D}
theorem sW (htt:TTok P tt) (hst:StRep I μ st ids w) {x:Operand} {lo hi mx:Option Operand} (ho:o.op = .slice t x lo hi mx) (hop:DR I μ env a o.op) (hc:cx) (h:Fk (Hd tt cx env st o.op)=some (d,ob)) (hob:A4 ob):Hx P I μ st ids w d ((execOp a.eval o).run P w):=by
 rw [ho] at hop h;simp only [execOp,ho];cases mx with
 | some m=>simp [Hd,Fk] at h
 | none =>
 have hopx:=hop x (by simp [Op.operands]);have hoplo:∀y,lo=some y->∀d,Eg env y=some d->RepD I μ (a.eval y) d:=λy hy=>hop y (by simp [Op.operands,hy]);have hophi:∀y,hi=some y->∀d,Eg env y=some d->RepD I μ (a.eval y) d:=λy hy=>hop y (by simp [Op.operands,hy]);simp only [Hd] at h;obtain ⟨dx,ox,h1,hx⟩:=By h hc hopx;clear h;have h:=h1;clear h1
 split at h
 ·rename_i s lo hi;obtain ⟨da,oa,h1,ha⟩:=By h hc (hoplo _ rfl);clear h;obtain ⟨db,ob',h,hb⟩:=By h1 hc (hophi _ rfl);clear h1
  split at h <;> simp only [Fk,Ce,Bc,reduceCtorEq] at h
  rename_i l _ m _ _ _ _ hs;obtain ⟨rfl,rfl⟩:=h;obtain ⟨hbd,hob⟩:=hob;obtain ⟨h1,hob⟩:=B4 hob;obtain ⟨h2,h3⟩:=B4 hob;obtain ⟨b1,b2,b3⟩:=hbd hc;obtain ⟨s,e1,rfl⟩:=(hx h1).immInv.strInv;have e2:=(ha h2).immInv.intInv;have e3:=(hb h3).immInv.intInv;have hu:P.underlying t=some .string:=htt.sh hs;have:=JZ (P:=P) (w:=w) hu s (some (a.eval lo)) (some (a.eval hi)) l.toNat m.toNat (by omega) (by rw [DC];omega)
   (.inr ⟨_,by rw [e2,OY b1]⟩) (.inr ⟨_,by rw [e3,OY (by omega)]⟩)
  rw [e1];refine Ba hst (A7 (v:=.string (s.extract l.toNat m.toNat)) ?_) (.imm _ _ (.str _ _ (HQ _ _ _)));simpa using this
 ·rename_i s lo;obtain ⟨da,oa,h1,ha⟩:=By h hc (hoplo _ rfl);clear h;have h:=h1;clear h1
  split at h <;> simp only [Fk,Ce,Bc,reduceCtorEq] at h
  rename_i l _ _ _ _ hs;obtain ⟨rfl,rfl⟩:=h;obtain ⟨hbd,hob⟩:=hob;obtain ⟨h1,h2⟩:=B4 hob;obtain ⟨b1,b2⟩:=hbd hc;obtain ⟨s,e1,rfl⟩:=(hx h1).immInv.strInv;have e2:=(ha h2).immInv.intInv;have hu:P.underlying t=some .string:=htt.sh hs;have:=JZ (P:=P) (w:=w) hu s (some (a.eval lo)) none l.toNat s.size (by rw [DC];omega) (BQ _)
   (.inr ⟨_,by rw [e2,OY b1]⟩) (.inl ⟨rfl,rfl⟩)
  rw [e1];refine Ba hst (A7 (v:=.string (s.extract l.toNat s.size)) ?_) (.imm _ _ (.str _ _ ?_))
  ·simpa using this
  ·rw [HQ,Db];rw [JJ,DC];omega
 ·rename_i s hi;obtain ⟨da,oa,h1,ha⟩:=By h hc (hophi _ rfl);clear h;have h:=h1;clear h1
  split at h <;> simp only [Fk,Ce,Bc,reduceCtorEq] at h
  rename_i l _ _ _ _ hs;obtain ⟨rfl,rfl⟩:=h;obtain ⟨hbd,hob⟩:=hob;obtain ⟨h1,h2⟩:=B4 hob;obtain ⟨b1,b2⟩:=hbd hc;obtain ⟨s,e1,rfl⟩:=(hx h1).immInv.strInv;have e2:=(ha h2).immInv.intInv;have hu:P.underlying t=some .string:=htt.sh hs;have:=JZ (P:=P) (w:=w) hu s none (some (a.eval hi)) 0 l.toNat (AJ _) (by rw [DC];omega)
   (.inl ⟨rfl,rfl⟩) (.inr ⟨_,by rw [e2,OY b1]⟩)
  rw [e1];refine Ba hst (A7 (v:=.string (s.extract 0 l.toNat)) ?_) (.imm _ _ (.str _ _ ?_))
  ·simpa using this
  ·rw [HQ];simp
 ·rename_i es lo hi;obtain ⟨da,oa,h1,ha⟩:=By h hc (hoplo _ rfl);clear h;obtain ⟨db,ob',h,hb⟩:=By h1 hc (hophi _ rfl);clear h1
  split at h
  ·rename_i l _ m e _ _ _ _ hs
   split at h <;> simp only [Fk,Ce,Bc,reduceCtorEq] at h
   rename_i i hi';obtain ⟨rfl,rfl⟩:=h;obtain ⟨hbd,hz,hob⟩:=hob;obtain ⟨h1,hob⟩:=B4 hob;obtain ⟨h2,h3⟩:=B4 hob;obtain ⟨b1,b2,b3⟩:=hbd hc;have e2:=(ha h2).immInv.intInv;have e3:=(hb h3).immInv.intInv;have hu:P.underlying t=some (.slice e):=htt.sh hs;obtain ⟨u,q1,q2⟩:=J0 (P:=P) (w:=w) (hx h1).immInv l.toNat m.toNat (by omega) (by omega) hu (htt e i hi') hz (some (a.eval lo)) (some (a.eval hi))
    (.inr ⟨_,by rw [e2,OY b1]⟩) (.inr ⟨_,by rw [e3,OY (by omega)]⟩)
   exact Ba hst (A7 (by simpa using q1)) (.imm _ _ q2)
  ·cases h
 ·rename_i es lo;obtain ⟨da,oa,h1,ha⟩:=By h hc (hoplo _ rfl);clear h;have h:=h1;clear h1
  split at h
  ·rename_i l e _ _ _ _ hs
   split at h <;> simp only [Fk,Ce,Bc,reduceCtorEq] at h
   rename_i i hi';obtain ⟨rfl,rfl⟩:=h;obtain ⟨hbd,hz,hob⟩:=hob;obtain ⟨h1,h2⟩:=B4 hob;obtain ⟨b1,b2⟩:=hbd hc;have e2:=(ha h2).immInv.intInv;have hu:P.underlying t=some (.slice e):=htt.sh hs;obtain ⟨u,q1,q2⟩:=J0 (P:=P) (w:=w) (hx h1).immInv l.toNat es.length (by omega) (BQ _) hu (htt e i hi') hz (some (a.eval lo)) none
    (.inr ⟨_,by rw [e2,OY b1]⟩) (.inl ⟨rfl,rfl⟩)
   refine Ba hst (A7 (by simpa using q1)) (.imm _ _ ?_)
   rwa [Db (by simp)] at q2
  ·cases h
 ·rename_i es hi;obtain ⟨da,oa,h1,ha⟩:=By h hc (hophi _ rfl);clear h;have h:=h1;clear h1
  split at h
  ·rename_i l e _ _ _ _ hs
   split at h <;> simp only [Fk,Ce,Bc,reduceCtorEq] at h
   rename_i i hi';obtain ⟨rfl,rfl⟩:=h;obtain ⟨hbd,hz,hob⟩:=hob;obtain ⟨h1,h2⟩:=B4 hob;obtain ⟨b1,b2⟩:=hbd hc;have e2:=(ha h2).immInv.intInv;have hu:P.underlying t=some (.slice e):=htt.sh hs;obtain ⟨u,q1,q2⟩:=J0 (P:=P) (w:=w) (hx h1).immInv 0 l.toNat (AJ _) (by omega) hu (htt e i hi') hz none (some (a.eval hi))
    (.inl ⟨rfl,rfl⟩) (.inr ⟨_,by rw [e2,OY b1]⟩)
   refine Ba hst (A7 (by simpa using q1)) (.imm _ _ ?_);simpa using q2
  ·cases h
 ·cases h
theorem tB (htt:TTok P tt) (hst:StRep I μ st ids w) (hop:DR I μ env a o.op) (hc:cx) (h:Fk (Hd tt cx env st o.op)=some (d,ob)) (hob:A4 ob):Hx P I μ st ids w d ((execOp a.eval o).run P w):=by
 cases ho:o.op with
 | move x =>
  rw [ho] at hop h;simp only [execOp,ho];simp only [Hd] at h;obtain ⟨dx,ox,h,hx⟩:=By h hc (hop x (by simp [Op.operands]));simp only [Fk,Ce,Bc] at h;obtain ⟨rfl,rfl⟩:=h;exact Ba hst (by simp) (hx hob)
 | assign x =>
  rw [ho] at hop h;simp only [execOp,ho];simp only [Hd] at h;obtain ⟨dx,ox,h,hx⟩:=By h hc (hop x (by simp [Op.operands]));simp only [Fk,Ce,Bc] at h;obtain ⟨rfl,rfl⟩:=h;exact Ba hst (by simp) (hx hob)
 | pick c x y=>exact xN hst ho hop hc h hob
 | build t ps=>exact sZ htt hst ho hop h hob
 | buildSlice t n ps=>exact SH htt hst ho hop hc h hob
 | load t x=>exact xO htt hst ho hop hc h hob
 | nilCheck x=>exact XT hst ho hop hc h hob
 | binOp op t x y t'=>exact tA htt hst ho hop hc h hob
 | unOp u t x=>exact xM hst ho hop hc h hob
 | convert s t x=>exact bR htt hst ho hop hc h hob
 | makeInterface t x=>exact On htt hst ho hop hc h hob
 | makeFunc f xs ys=>exact XU hst ho hop h
 | slice t x lo hi mx=>exact sW htt hst ho hop hc h hob
 | fieldAddr s x f=>exact VD htt hst ho hop hc h hob
 | field t x f=>exact sY htt hst ho hop hc h hob
 | index t x y=>exact sX htt hst ho hop hc h hob
 | extract x n=>exact bQ hst ho hop hc h hob
 | call c=>exact XV htt hst ho hop hc h hob
 | _=>rw [ho] at h;simp [Hd,Fk] at h
end
section
variable {tt:TT} {I:Imm} {μ:Mu} {st st':St} {env:Env} {d:D}
theorem AB {id:Nat} {blk bi:Blk}:A1 ((id,some blk)::st) i bi↔(i=id/\bi=blk)\/(i≠id/\A1 st i bi):=by
 unfold A1;by_cases h:id=i
 ·subst h;rw [A0];constructor
  ·intro h;cases h;exact .inl ⟨rfl,rfl⟩
  ·rintro (⟨_,rfl⟩ | ⟨h,_⟩)
   ·rfl
   ·exact absurd rfl h
 ·rw [A6 _ _ h];constructor
  ·intro hl;exact .inr ⟨λe=>h e.symm,hl⟩
  ·rintro (⟨e,_⟩ | ⟨_,hl⟩)
   ·exact absurd e.symm h
   ·exact hl
theorem BZ {id:Nat} {bi:Blk}:A1 ((id,none)::st) i bi↔i≠id/\A1 st i bi:=by
 unfold A1;by_cases h:id=i
 ·subst h;rw [A0];constructor
  ·intro h;cases h
  ·rintro ⟨h,_⟩;exact absurd rfl h
 ·rw [A6 _ _ h];exact ⟨λhl=>⟨λe=>h e.symm,hl⟩,λh=>h.2⟩
theorem Cc {o:Obj} (h:w.heap[b]?=some o):b<w.heap.size:=(GY.1 h).1
theorem StRep.allocO {id:Nat} (hst:StRep I μ st (id::ids) w) (o:Obj) (g:Value) (hg:∀k,E6 g k->k=w.heap.size) (blk:Blk)
  (hb:∀μ',μ.le μ'->BlkRep I μ' (w.alloc o) g blk) :
  ∃μ',μ' id=some g/\μ.le μ'/\StRep I μ' ((id,some blk)::st) ids (w.alloc o)/\Ext I μ st w I μ' ((id,some blk)::st) (w.alloc o):=by
 have hid:μ id=none:=hst.idsFree id (by simp);have hle:μ.le (λi=>if i=id then some g else μ i):=λi v h=>by
  have:i≠id:=λe=>by rw [e,hid] at h;cases h
  simp [this,h]
 have hold:∀b,b<w.heap.size->(w.alloc o).heap[b]?=w.heap[b]?:=λb hb=>CW w o hb;have hother:∀i bi gi,i≠id->A1 st i bi->(if i=id then some g else μ i)=some gi->μ i=some gi:=λi _ gi hne _ h=>by rwa [if_neg hne] at h
 refine ⟨λi=>if i=id then some g else μ i,by simp,hle,?_,?_⟩
 ·refine { imm:=λb o' h=>?_,blk:=λi bi hl=>?_,apart:=λi bi gi b hl hgi hbi=>?_,inj:=λi j bi bj gi gj b hi hj hgi hgj hbi hbj=>?_,nodup:=(L6.1 hst.nodup).2,idsFree:=λi hi=>?_ }
  ·have:=hst.imm _ _ h;rw [hold b (Cc this)];exact this
  ·rcases AB.1 hl with ⟨rfl,rfl⟩ | ⟨hne,hl⟩
   ·exact ⟨g,by simp,hb _ hle⟩
   ·obtain ⟨gi,h1,h2⟩:=hst.blk i bi hl;exact ⟨gi,by simp [hne,h1],(h2.mono (Imm.le_refl I) hle).world (λb hb=>hold b (hst.apart i bi gi b hl h1 hb).2)⟩
  ·rcases AB.1 hl with ⟨rfl,rfl⟩ | ⟨hne,hl⟩
   ·simp at hgi;subst hgi;have hbi:=hg _ hbi;subst hbi;refine ⟨?_,by simp⟩;cases h:I w.heap.size with
    | none=>rfl
    | some o'=>have:=Cc (hst.imm _ _ h);omega
   ·obtain ⟨h1,h2⟩:=hst.apart i bi gi b hl (hother i bi gi hne hl hgi) hbi;exact ⟨h1,by simp;omega⟩
  ·rcases AB.1 hi with ⟨rfl,rfl⟩ | ⟨hni,hi'⟩ <;> rcases AB.1 hj with ⟨rfl,rfl⟩ | ⟨hnj,hj'⟩
   ·rfl
   ·simp at hgi;subst hgi;have hbi:=hg _ hbi;subst hbi;have:=(hst.apart j bj gj _ hj' (hother j bj gj hnj hj' hgj) hbj).2;omega
   ·simp at hgj;subst hgj;have hbj:=hg _ hbj;subst hbj;have:=(hst.apart i bi gi _ hi' (hother i bi gi hni hi' hgi) hbi).2;omega
   ·exact hst.inj i j bi bj gi gj b hi' hj' (hother i bi gi hni hi' hgi) (hother j bj gj hnj hj' hgj) hbi hbj
  ·have hne:i≠id:=λe=>(L6.1 hst.nodup).1 (e ▸ hi);simp [hne,hst.idsFree i (by simp [hi])]
 ·refine { imm:=Imm.le_refl I,os:=rfl,tape:=rfl,output:=rfl,size:=by simp,block:=λb hb _=>hold b hb,fresh:=λb hb ho=>?_,old:=λ_ _ _=>rfl };obtain ⟨i,bi,gi,hl,hgi,hbi⟩:=ho;rcases AB.1 hl with ⟨rfl,rfl⟩ | ⟨hne,hl⟩
  ·simp at hgi;subst hgi;have:=hg _ hbi;omega
  ·exact ⟨i,bi,gi,hl,hother i bi gi hne hl hgi,hbi⟩
theorem StRep.update (hst:StRep I μ st ids w) {id:Nat} {blk blk':Blk} (hl:A1 st id blk) (hg:μ id=some g) (hb:E6 g b) (hsz:w'.heap.size=w.heap.size) (hos:w'.os=w.os) (htp:w'.tape=w.tape) (hout:w'.output=w.output) (hother:∀k,k≠b->w'.heap[k]?=w.heap[k]?) (hr:BlkRep I μ w' g blk') :
  StRep I μ ((id,some blk')::st) ids w'/\Ext I μ st w I μ ((id,some blk')::st) w':=by
 have hown:Bq μ st b:=⟨id,blk,g,hl,hg,hb⟩
 have hlive:∀i bi,A1 ((id,some blk')::st) i bi->∃bi',A1 st i bi':=λi bi h=>by
  rcases AB.1 h with ⟨rfl,rfl⟩ | ⟨_,h⟩
  ·exact ⟨blk,hl⟩
  ·exact ⟨bi,h⟩
 refine ⟨{ imm:=λk o h=>?_,blk:=λi bi h=>?_,apart:=λi bi gi k h hgi hk=>?_,inj:=λi j bi bj gi gj k hi hj hgi hgj hbi hbj=>?_,nodup:=hst.nodup,idsFree:=hst.idsFree },?_⟩
 ·have hne:k≠b:=λe=>by have:=(hst.apart id blk g b hl hg hb).1;rw [<- e,h] at this;cases this
  rw [hother k hne];exact hst.imm k o h
 ·rcases AB.1 h with ⟨rfl,rfl⟩ | ⟨hne,h⟩
  ·exact ⟨g,hg,hr⟩
  ·obtain ⟨gi,h1,h2⟩:=hst.blk i bi h;refine ⟨gi,h1,h2.world λk hk=>hother k λe=>?_⟩;exact hne (hst.inj i id bi blk gi g k h hl h1 hg hk (e ▸ hb))
 ·obtain ⟨bi',h'⟩:=hlive i bi h;obtain ⟨h1,h2⟩:=hst.apart i bi' gi k h' hgi hk;exact ⟨h1,by omega⟩
 ·obtain ⟨bi',hi'⟩:=hlive i bi hi;obtain ⟨bj',hj'⟩:=hlive j bj hj;exact hst.inj i j bi' bj' gi gj k hi' hj' hgi hgj hbi hbj
 ·refine { imm:=Imm.le_refl I,os:=hos,tape:=htp,output:=hout,size:=by omega,block:=λk _ hno=>hother k λe=>hno (e ▸ hown),fresh:=λk _ ho=>?_,old:=λ_ _ _=>rfl };obtain ⟨i,bi,gi,h,hgi,hk⟩:=ho;obtain ⟨bi',h'⟩:=hlive i bi h;exact ⟨i,bi',gi,h',hgi,hk⟩
def Y9 (P:Program) (I:Imm) (μ:Mu) (st:St) (w:World) (d:D) (st':St) (ids':List Nat) (r:Result Next):Prop :=
 valR P r λv w'=>∃I' μ',StRep I' μ' st' ids' w'/\RepD I' μ' v d/\μ.le μ'/\Ext I μ st w I' μ' st' w'
theorem NG {x:Operand} {k:D->EE} {q:EE} (h:O8 env x k=q) (hq:q ≠ .no) (hx:∀d,Eg env x=some d->RepD I μ (a.eval x) d) :
  ∃d,k d=q/\RepD I μ (a.eval x) d:=by
 unfold O8 at h
 split at h
 ·exact absurd h.symm hq
 ·rename_i d hne hd;exact ⟨d,h,hx d hd⟩
 ·exact absurd h.symm hq
theorem H0 {cs:List D} {vs:Array Value} (hheap:w'.heap[b]?=some (.cells vs t (0,0))) (hr:RepL I μ vs.toList cs) (h1:∀v∈vs.toList,v.oneCell'=true) (hl:cs.length=sz):BlkRep I μ w' (.pointer (some ⟨b,0,none⟩)) (OV t sz cs):=by
 unfold OV
 split
 ·rename_i xs hx;have:=J1 hx hr;exact ⟨by rw [<- hl,<- hr.1,this.1],b,vs,rfl,hheap,this,h1⟩
 ·exact ⟨hl,b,vs,rfl,hheap,hr,h1⟩
theorem gY {blk:Blk} (h:nC t sz d=some (blk,ob)) (hob:A4 ob) (hr:RepD I μ v d) (hheap:w'.heap[b]?=some (.cells v.cells t (0,0))) :
  BlkRep I μ w' (.pointer (some ⟨b,0,none⟩)) blk:=by
 unfold nC at h
 split at h
 ·cases h;obtain ⟨cs,rfl,h1,h2⟩:=hr.aggInv;exact ⟨hob.1,b,cs,rfl,hheap,h1,h2⟩
 ·cases h
 ·rename_i x hna hnt
  split at h
  ·rename_i hs;cases h;have hx1:x.one=true:=by
    cases x <;> first | rfl | exact absurd rfl (hna _) | exact absurd rfl (hnt _)
   have h1:=hr.immInv.one hx1;rw [H6 h1] at hheap;exact ⟨by simp [CD hs],b,_,rfl,hheap,.mk hr.immInv .nil,by simpa using h1⟩
  ·cases h
 ·split at h
  ·rename_i hs;cases h;obtain ⟨cs,rfl,h1,h2⟩:=hr.aggDInv;exact H0 hheap h1 h2 (CD hs)
  ·cases h
 ·cases h
 ·cases h
 ·cases h
 ·rename_i n1 n2 n3 n4 n5 n6 n7
  split at h
  ·rename_i hs;cases h;have hd1:d.one=true:=by
    cases d <;> first
     | rfl
     | exact absurd rfl (n3 _)
     | exact absurd rfl (n4 _)
     | exact absurd rfl (n5 _)
     | exact absurd rfl (n6 _ _ _)
     | exact absurd rfl n7
   have h1:=hr.one hd1;rw [H6 h1] at hheap;exact ⟨by simp [CD hs],b,_,rfl,hheap,.mk hr .nil,by simpa using h1⟩
  ·cases h
theorem JX {cs:List D} (h:Mz d=some cs) (hr:RepD I μ v d):RepL I μ v.cells.toList cs/\∀u∈v.cells.toList,u.oneCell'=true:=by
 unfold Mz at h
 split at h
 ·cases h;obtain ⟨xs,rfl,h1,h2⟩:=hr.aggInv;exact ⟨h1.imm,h2⟩
 ·cases h
 ·cases h;obtain ⟨xs,rfl,h1,h2⟩:=hr.aggDInv;exact ⟨h1,h2⟩
 ·cases h
 ·cases h
 ·cases h
 ·rename_i n1 n2 n3 n4 n5 n6;cases h;have h1:v.oneCell'=true:=by
   cases d with
   | imm x =>
    refine hr.immInv.one ?_;cases x <;> first | rfl | exact absurd rfl (n1 _) | exact absurd rfl (n2 _)
   | agg ds=>exact absurd rfl (n3 _)
   | tup ds=>exact absurd rfl (n4 _)
   | guard c w d=>exact absurd rfl (n5 _ _ _)
   | undef=>exact absurd rfl n6
   | _=>exact hr.one rfl
  rw [H6 h1];exact ⟨.mk hr .nil,by simpa using h1⟩
end
section
variable {tt:TT} {I:Imm} {μ:Mu} {st st':St} {env:Env} {d:D}
theorem LT {i:TyI} (hi:TyOk P t i) {vs:Array Value} {bt:TypeId} (hheap:w.heap[b]?=some (.cells vs bt (0,0))) (hv:v.cells.size=i.size) (h1:∀u∈v.cells.toList,u.oneCell'=true) (hfit:off+v.cells.toList.length<=vs.size) :
  (Instr.storeAt t (.pointer (some ⟨b,off,none⟩)) v).run P w = .ok () (w.setRow b (vs.toList.take off++v.cells.toList++vs.toList.drop (off+v.cells.toList.length)).toArray):=by
 have:=run_storeCells_at (P:=P) b off bt v.cells.toList 0 vs w hheap (by omega) h1;simp only [Iq] at this;simp only [Instr.storeAt,Instr.sureAddr,Sem.run_bind,Sem.run_pure,Result.andThen_ok,storeVar,hi.sizeOf w,hv,ne_eq,not_true_eq_false,if_false];simpa using this
theorem bT (htt:TTok P tt) (hst:StRep I μ st ids w) (hop:DR I μ env a o.op) (h:bU tt env st ids o.op = .e d st' ids' ob) (hob:A4 ob):Y9 P I μ st w d st' ids' ((execOp a.eval o).run P w):=by
 have alloc:∀(id:Nat) (ids0:List Nat) (blk:Blk) (t:TypeId) (cs:Array Value),ids=id::ids0 ->
   (∀μ',μ.le μ'->BlkRep I μ' (w.alloc (.cells cs t)) (.pointer (some ⟨w.heap.size,0,none⟩)) blk) ->
   ∃I' μ',StRep I' μ' ((id,some blk)::st) ids0 (w.alloc (.cells cs t))/\RepD I' μ' (.pointer (some ⟨w.heap.size,0,none⟩)) (.ref id 0)/\μ.le μ' /\
    Ext I μ st w I' μ' ((id,some blk)::st) (w.alloc (.cells cs t)):=by
  intro id ids0 blk t cs he hb;subst he;obtain ⟨μ',q1,q2,q3,q4⟩:=hst.allocO (.cells cs t) (.pointer (some ⟨w.heap.size,0,none⟩)) (λ_ h=>Eq.symm h) blk hb;exact ⟨I,μ',q3,.ref _ _ _ q1,q2,q4⟩
 cases ho:o.op with
 | box t x =>
  rw [ho] at hop h;simp only [bU] at h;obtain ⟨d',h',hx⟩:=NG h (by simp) (hop x (by simp [Op.operands]));clear h;have h:=h';clear h'
  split at h
  ·rename_i i id ids0 hi
   split at h <;> simp only [EE.e.injEq,reduceCtorEq] at h
   rename_i blk ob' hb;obtain ⟨rfl,rfl,rfl,rfl⟩:=h;have hrun:(execOp a.eval o).run P w = .ok (.value (.pointer (some ⟨w.heap.size,0,none⟩))) (w.alloc (.cells (a.eval x).cells t)):=by
    simp [execOp,ho,Instr.box,newVar,newRow]
   unfold Y9;rw [hrun];exact alloc id ids0 blk t _ rfl λμ' hle=>gY hb hob (hx.mono (Imm.le_refl I) hle) (EC w _)
  ·cases h
 | alloc t =>
  rw [ho] at hop h;simp only [bU] at h
  split at h
  ·rename_i i id ids0 hi
   split at h <;> simp only [EE.e.injEq,reduceCtorEq] at h
   rename_i hl;obtain ⟨rfl,rfl,rfl,rfl⟩:=h;obtain ⟨inf,zv,hi1,_,_,hi4,hi5,hi6⟩:=(htt t i hi).info;have hrun:(execOp a.eval o).run P w = .ok (.value (.pointer (some ⟨w.heap.size,0,none⟩))) (w.alloc (.cells zv.cells t)):=by
    simp [execOp,ho,Instr.alloc,newVar,newRow,zeroValue,typeInfo,hi1,hi4]
   unfold Y9;rw [hrun];exact alloc id ids0 _ t _ rfl λμ' _=>H0 (EC w _) (hi5 I μ') hi6 (CD hl)
  ·cases h
 | store t p x =>
  rw [ho] at hop h;simp only [bU] at h;obtain ⟨dp,h',hp⟩:=NG h (by simp) (hop p (by simp [Op.operands]));clear h;obtain ⟨dx,h,hx⟩:=NG h' (by simp) (hop x (by simp [Op.operands]));clear h';have fin:∀(id off:Nat) (i:TyI) (blk blk':Blk) (b:Nat) (vs:Array Value) (bt:TypeId),A1 st id blk->μ id=some (.pointer (some ⟨b,0,none⟩))->lk tt t=some i ->
    w.heap[b]?=some (.cells vs bt (0,0))->a.eval p = .pointer (some ⟨b,off,none⟩)->(a.eval x).cells.size=i.size->(∀u∈(a.eval x).cells.toList,u.oneCell'=true)->off+(a.eval x).cells.toList.length<=vs.size ->
    (∀w',w'.heap[b]?=some (.cells (vs.toList.take off++(a.eval x).cells.toList++vs.toList.drop (off+(a.eval x).cells.toList.length)).toArray bt (0,0))->BlkRep I μ w' (.pointer (some ⟨b,0,none⟩)) blk') ->
    Y9 P I μ st w .undef ((id,some blk')::st) ids ((execOp a.eval o).run P w):=by
   intro id off i blk blk' b vs bt hl hm hi hheap hpv hsz h1 hfit hblk;have hrun:(execOp a.eval o).run P w = .ok .skip (w.setRow b (vs.toList.take off++(a.eval x).cells.toList++vs.toList.drop (off+(a.eval x).cells.toList.length)).toArray):=by
    simp only [execOp,ho,hpv,Sem.run_bind,LT (htt t i hi) hheap hsz h1 hfit,Result.andThen_ok,Sem.run_pure]
   unfold Y9;rw [hrun];obtain ⟨q1,q2⟩:=hst.update (id:=id) (blk:=blk) (blk':=blk') (g:=.pointer (some ⟨b,0,none⟩)) (b:=b) hl hm rfl (w':=w.setRow b _) (setRow_size w b _) rfl rfl rfl (λk hk=>setRow_other w b k _ hk)
    (hblk _ (setRow_heap w b vs _ bt _ hheap))
   exact ⟨I,μ,q1,.undef _,Mu.le_refl μ,q2⟩
  split at h
  ·rename_i id off i hi;obtain ⟨b,e1,e2⟩:=hp.refInv
   split at h
   ·rename_i bt sz xs hl;obtain ⟨g,hg,hlen,b',vs,hg2,hheap,hrep,hone⟩:=hst.blk id _ hl;rw [e2] at hg;cases hg;cases hg2;have hvs:vs.size=sz:=by rw [<- hlen,<- hrep.1];simp
    split at h
    ·rename_i ys hs;simp only [EE.e.injEq] at h;obtain ⟨rfl,rfl,rfl,rfl⟩:=h;obtain ⟨cs,ex,r1,r2⟩:=hx.aggInv;have hys:ys.length=sz:=hob.1;have hsi:sz=i.size:=CD hs;have hcs:cs.toList.length=sz:=by rw [r1.1,hys]
     have hcells:(a.eval x).cells=cs:=by rw [ex];rfl
     refine fin id 0 i _ _ b vs bt hl e2 hi hheap e1 (by rw [hcells,<- hsi,<- hcs];simp) (by rw [hcells];exact r2) (by rw [hcells];omega) λw' hw'=>?_;rw [hcells] at hw';have e3:(vs.toList.take 0++cs.toList++vs.toList.drop (0+cs.toList.length)).toArray=cs:=by
      rw [qH,Bo (by simp at hcs ⊢;omega)];simp
     rw [e3] at hw';exact ⟨hys,b,cs,rfl,hw',r1,r2⟩
    ·split at h
     ·rename_i cs hcs
      split at h <;> simp only [EE.e.injEq,reduceCtorEq] at h
      rename_i l hsp hlc;obtain ⟨rfl,rfl,rfl,rfl⟩:=h;obtain ⟨r1,r2⟩:=JX hcs hx;obtain ⟨s1,s2⟩:=Ig hsp;have hcl:(a.eval x).cells.toList.length=cs.length:=r1.1;rw [Dn] at s2;refine fin id _ i _ _ b vs bt hl e2 hi hheap e1 (by have:=CD hlc;rw [<- this,<- hcl];simp) r2 (by omega) λw' hw'=>?_;rw [hcl] at hw';refine H0 hw' ?_ ?_ (by rw [s1];simp;omega)
      ·rw [MT,s1];refine RepL.append (RepL.append ?_ r1) ?_
       ·have:=hrep.imm (μ:=μ);exact ⟨by simp [this.1,hrep.1],λj v d p q=>by
         rw [D6] at p q
         split at p
         ·rename_i hj;rw [if_pos hj] at q;exact this.2 j v d p q
         ·cases p⟩
       ·have:=hrep.imm (μ:=μ);exact ⟨by simp at hvs ⊢;omega,λj v d p q=>by
         rw [Fj] at p q;exact this.2 _ v d p q⟩
      ·intro u hu;rw [MT] at hu;rcases BN.1 hu with hu | hu
       ·rcases BN.1 hu with hu | hu
        ·exact hone u (LA hu)
        ·exact r2 u hu
       ·exact hone u (Pd hu)
     ·cases h
   ·rename_i bt sz ds hl;obtain ⟨g,hg,hlen,b',vs,hg2,hheap,hrep,hone⟩:=hst.blk id _ hl;rw [e2] at hg;cases hg;cases hg2;have hvs:vs.size=sz:=by rw [<- hlen,<- hrep.1];simp
    split at h
    ·rename_i ys hs;simp only [EE.e.injEq] at h;obtain ⟨rfl,rfl,rfl,rfl⟩:=h;obtain ⟨cs,ex,r1,r2⟩:=hx.aggInv;have hys:ys.length=sz:=hob.1;have hsi:sz=i.size:=CD hs;have hcs:cs.toList.length=sz:=by rw [r1.1,hys]
     have hcells:(a.eval x).cells=cs:=by rw [ex];rfl
     refine fin id 0 i _ _ b vs bt hl e2 hi hheap e1 (by rw [hcells,<- hsi,<- hcs];simp) (by rw [hcells];exact r2) (by rw [hcells];omega) λw' hw'=>?_;rw [hcells] at hw';have e3:(vs.toList.take 0++cs.toList++vs.toList.drop (0+cs.toList.length)).toArray=cs:=by
      rw [qH,Bo (by simp at hcs ⊢;omega)];simp
     rw [e3] at hw';exact ⟨hys,b,cs,rfl,hw',r1,r2⟩
    ·split at h
     ·rename_i cs hcs
      split at h <;> simp only [EE.e.injEq,reduceCtorEq] at h
      rename_i l hsp hlc;obtain ⟨rfl,rfl,rfl,rfl⟩:=h;obtain ⟨r1,r2⟩:=JX hcs hx;obtain ⟨s1,s2⟩:=Ig hsp;have hcl:(a.eval x).cells.toList.length=cs.length:=r1.1;refine fin id _ i _ _ b vs bt hl e2 hi hheap e1 (by have:=CD hlc;rw [<- this,<- hcl];simp) r2 (by omega) λw' hw'=>?_;rw [hcl] at hw';refine H0 hw' ?_ ?_ (by rw [s1];simp;omega)
      ·rw [MT,s1];refine RepL.append (RepL.append ?_ r1) ?_
       ·exact ⟨by simp [<- hrep.1],λj v d p q=>by
         rw [D6] at p q
         split at p
         ·rename_i hj;rw [if_pos hj] at q;exact hrep.2 j v d p q
         ·cases p⟩
       ·exact ⟨by simp at hvs ⊢;omega,λj v d p q=>by
         rw [Fj] at p q;exact hrep.2 _ v d p q⟩
      ·intro u hu;rw [MT] at hu;rcases BN.1 hu with hu | hu
       ·rcases BN.1 hu with hu | hu
        ·exact hone u (LA hu)
        ·exact r2 u hu
       ·exact hone u (Pd hu)
     ·cases h
   ·cases h
  ·cases h
 | _=>rw [ho] at h;simp [bU] at h
end
def U6 (P:Program):List Deferred->World->World->Prop
 | [],w,w'=>w'=w
 | d::ds,w,w'=>∃r w1,d.target = .collected r/\(Instr.takeDeferred r).run P w = .ok [] w1/\U6 P ds w1 w'
section
variable {b:Frame}
theorem Io:∀(ds:List Deferred) (w w':World) (fr:Frame),fr.mode ≠ .run->fr.defers=ds->U6 P ds w w'->Steps P (lone fr cs w) (lone { fr with defers:=[] } cs w')
 | [],w,w',fr,hm,hd,h=>by
  subst h;have:({ fr with defers:=[] }:Frame)=fr:=by rw [<- hd]
  rw [this];exact Steps.refl _ _
 | d::ds,w,w',fr,hm,hd,⟨r,w1,h1,h2,h3⟩=>by
  have s1:=step_collected (cs:=cs) hm hd h1 h2;exact .head s1 (Io ds w1 w' { fr with defers:=[]++ds } hm rfl h3)
theorem TL:∀(rs:List Nat) (w:World),rs.Nodup->(∀r∈rs,w.heap[r]?=some (.deferred (some []))) ->
  ∃w2,U6 P (rs.map mkD) w w2/\w2.os=w.os/\w2.tape=w.tape/\w2.output=w.output/\w2.heap.size=w.heap.size/\∀b,b∉rs->w2.heap[b]?=w.heap[b]?
 | [],w,_,_=>⟨w,rfl,rfl,rfl,rfl,rfl,λ_ _=>rfl⟩
 | r::rs,w,hn,h=>by
  obtain ⟨hn1,hn2⟩:=L6.1 hn;have hb:=h r (by simp);have ht:=run_takeDeferred (P:=P) (b:=r) (ds:=[]) hb;have e0:w.putObj r (.deferred none)={ w with heap:=w.heap.setIfInBounds r (.deferred none) }:=by
   unfold World.putObj;by_cases hi:r<w.heap.size
   ·simp [hi]
   ·simp [hi]
  rw [e0] at ht;obtain ⟨w2,q1,q2,q3,q4,q5,q6⟩:=TL rs { w with heap:=w.heap.setIfInBounds r (.deferred none) } hn2 (λr' hr'=>by
   have hne:r≠r':=λe=>hn1 (e ▸ hr');rw [Gj hne];exact h r' (by simp [hr']))
  refine ⟨w2,⟨r,_,rfl,ht,q1⟩,q2,q3,q4,by rw [q5];simp,λb hb'=>?_⟩;have hne:r≠b:=λe=>hb' (by rw [e];simp);rw [q6 b (λhm=>hb' (by simp [hm])),Gj hne]
def tF (P:Program) (fc:Func) (R:Ending->World->Prop):Exit->Act->World->Prop
 | .normal,a,w | .ret,a,w=>∃w' v,U6 P a.defers w w'/\(results fc a.tmps).run P w' = .ok v w'/\R (.returned v) w'
 | .panic chain,a,w=>∃w',U6 P a.defers w w'/\R (.panicked chain) w'
 | _,_,_=>False
theorem PK {f:FuncId} {fc:Func} {args:Array Value} (hf:P.funcs[f]?=some fc) (hb:fc.body=some c) (h:∀(b:Frame) (cs:List Frame),b.fn=f->b.kind = .normal->b.roundOf=none->Reach P b cs (tF P fc R) [.code c] { tmps:=args++Array.replicate (fc.ntmps-args.size) undef,defers:=[] } w) :
  Calls P f args w R:=by
 intro cs;obtain ⟨b,hb0⟩:∃b:Frame,b={ (default:Frame) with fn:=f,kind:=.normal }:=⟨_,rfl⟩
 have henter:Frame.enter P f args .normal=b.atR { tmps:=args++Array.replicate (fc.ntmps-args.size) undef,defers:=[] } [.code c]:=by
  subst hb0;simp [Frame.enter,Frame.atR,hf,hb];rfl
 have hfn:b.fn=f:=by rw [hb0]
 have hk:b.kind = .normal:=by rw [hb0]
 have hro:b.roundOf=none:=by rw [hb0];rfl
 obtain ⟨e,a',w',hq,harr⟩:=h b cs hfn hk hro;rw [<- henter] at harr;cases e with
 | normal =>
  obtain ⟨w2,v,hm,hr,hR⟩:=hq;refine ⟨.returned v,w2,{ ({ b.atR a' [] with mode:=.returning }:Frame) with defers:=[] },hR,Steps.trans harr (.head (stepR_end hro) (Io a'.defers w' w2 { b.atR a' [] with mode:=.returning } (by simp) rfl hm)),hfn,rfl,rfl,hk,fc,by rw [show ({ ({ b.atR a' [] with mode:=.returning }:Frame) with defers:=[] }:Frame).fn=f from hfn];exact hf,hr⟩
 | ret =>
  obtain ⟨w2,v,hm,hr,hR⟩:=hq;obtain ⟨todo,hs⟩:=harr;refine ⟨.returned v,w2,{ ({ b.atR a' (.code .ret::todo) with mode:=.returning }:Frame) with defers:=[] },hR,Steps.trans hs (.head (stepR_ret hro) (Io a'.defers w' w2 { b.atR a' (.code .ret::todo) with mode:=.returning } (by simp) rfl hm)),hfn,rfl,rfl,hk,fc,by rw [show ({ ({ b.atR a' (.code .ret::todo) with mode:=.returning }:Frame) with defers:=[] }:Frame).fn=f from hfn];exact hf,hr⟩
 | panic chain =>
  obtain ⟨w2,hm,hR⟩:=hq;obtain ⟨todo,hs⟩:=harr;exact ⟨.panicked chain,w2,{ ({ b.atR a' todo with mode:=.panicking chain }:Frame) with defers:=[] },hR,Steps.trans hs (Io a'.defers w' w2 { b.atR a' todo with mode:=.panicking chain } (by simp) rfl hm),hfn,rfl,rfl,fc,by rw [show ({ ({ b.atR a' todo with mode:=.panicking chain }:Frame) with defers:=[] }:Frame).fn=f from hfn];exact hf⟩
 | exit id=>exact hq.elim
 | goto l=>exact hq.elim
 | outgrown=>exact hq.elim
theorem P9 {g:Operand} {ps:Array Tmp} {asg body:Code} {mark:List Deferred} {w₁ w₁' w₂:World} {dd:Deferred} {f:FuncId} {args:Array Value} (he:(Instr.enterLoop b.fn a.tmps ps asg body b.roundOf).run P w = .ok (l,mark) w₁) (hres:(resolve a.eval (rangeCall g l) 0).run P w₁ = .ok dd w₁') (hinv:(invoke dd.target dd.args).run P w₁' = .ok (.enter f args) w₂) (h:Calls P f args w₂ λe w₃=>match e with
   | .returned _=>∃jump w₄,(Instr.endLoop l).run P w₃ = .ok jump w₄/\Reach P b cs Q ((jump.map Item.code).toList++k) { a with defers:=mark++a.defers } w₄
   | .panicked chain=>Q (.panic chain) { a with defers:=mark++a.defers } w₃
   | .outgrown=>False):Reach P b cs Q (.code (.rangeFunc g ps asg body)::k) a w:=by
 have henter:=stepR_rangeFunc (P:=P) (b:=b) (a:=a) (k:=k) (cs:=cs) (w:=w) he hres hinv;obtain ⟨e,w₃,fr,hR,hsteps,_,hleave⟩:=h (b.atR { a with defers:=mark++a.defers } (.inRangeFunc l::k)::cs);cases e with
 | returned v =>
  obtain ⟨jump,w₄,hend,e',a',w₅,hq,harr⟩:=hR;refine ⟨e',a',w₅,hq,.of_steps (.head henter (Steps.trans hsteps (.head ?_ (.one (stepR_endRangeFunc hend))))) harr⟩;rw [<- finish_atR_inRangeFunc l v];exact step_leave_returned hleave
 | panicked chain =>
  refine ⟨.panic chain,_,w₃,hR,.inRangeFunc l::k,.head henter (Steps.trans hsteps (.one ?_))⟩;rw [<- Frame.raise_atR];exact step_leave_panicked hleave
 | outgrown=>exact hR.elim
def zaw (P:Program) (l:Nat) (R:Ending->World->Prop):Exit->Act->World->Prop
 | .normal,_,w=>∃v w',(Instr.endRound l none).run P w = .ok v w'/\R (.returned v) w'
 | .ret,_,w=>∃v w',(Instr.endRound l (some .ret)).run P w = .ok v w'/\R (.returned v) w'
 | .exit id,_,w=>∃v w',(Instr.endRound l (some (.exit id))).run P w = .ok v w'/\R (.returned v) w'
 | .goto t,_,w=>∃v w',(Instr.endRound l (some (.goto t))).run P w = .ok v w'/\R (.returned v) w'
 | .panic chain,a,w=>a.defers=[]/\R (.panicked chain) w
 | .outgrown,_,_=>False
theorem NO {f:FuncId} {fc:Func} {tmps:Array Value} {asg body:Code} (hf:P.funcs[f]?=some fc) (h:∀(b:Frame) (cs:List Frame),b.fn=f->b.roundOf=some l->Reach P b cs (zaw P l R) [.code asg,.beginRound,.code body] { tmps:=tmps,defers:=[] } w):RoundIn Fence.wide 0 P l f tmps asg body w R:=by
 refine ⟨trivial,λc cs _=>?_⟩;obtain ⟨b,hb0⟩:∃b:Frame,b={ (default:Frame) with fn:=f,kind:=.normal,roundOf:=some l }:=⟨_,rfl⟩
 have henter:Frame.round l f tmps asg body .normal=b.atR { tmps:=tmps,defers:=[] } [.code asg,.beginRound,.code body]:=by
  subst hb0;simp [Frame.round,Frame.atR]
 have hfn:b.fn=f:=by rw [hb0]
 have hk:b.kind = .normal:=by rw [hb0]
 have hro:b.roundOf=some l:=by rw [hb0]
 obtain ⟨e,a',w',hq,harr⟩:=h b (c::cs) hfn hro;rw [<- henter] at harr;have ok:∀v w2,R (.returned v) w2->Steps P (lone (Frame.round l f tmps asg body .normal) (c::cs) w) (lone (c.finish v) cs w2)->∃e w',R e w'/\ComesIn (Machine.fenced P Fence.wide) P (lone (Frame.round l f tmps asg body .normal) (c::cs) w)
   (match e with | .returned v=>lone (c.finish v) cs w' | .panicked chain=>lone (c.raise chain) cs w' | .outgrown=>lone c cs w') e:=λv w2 hR hs=>⟨.returned v,w2,hR,comesIn_wide.2 hs⟩
 cases e with
 | normal =>
  obtain ⟨v,w2,hend,hR⟩:=hq;exact ok v w2 hR (Steps.trans harr (.one (stepR_round_end hro hk hend)))
 | ret =>
  obtain ⟨v,w2,hend,hR⟩:=hq;obtain ⟨k,hs⟩:=harr;exact ok v w2 hR (Steps.trans hs (.one (stepR_round_ret hro hk hend)))
 | exit id =>
  obtain ⟨v,w2,hend,hR⟩:=hq;obtain ⟨k,hx,hs⟩:=harr;exact ok v w2 hR (Steps.trans hs (.one (stepR_round_exit hro hk hx hend)))
 | goto t =>
  obtain ⟨v,w2,hend,hR⟩:=hq;obtain ⟨k,hx,hs⟩:=harr;exact ok v w2 hR (Steps.trans hs (.one (stepR_round_goto hro hk hx hend)))
 | panic chain =>
  obtain ⟨hd,hR⟩:=hq;obtain ⟨todo,hs⟩:=harr;exact ⟨.panicked chain,w',hR,comesIn_wide.2 (Steps.trans hs (.one (step_leave_panicked ⟨rfl,hd,fc,by rw [show ({ b.atR a' todo with mode:=.panicking chain }:Frame).fn=f from hfn];exact hf⟩)))⟩
 | outgrown=>exact hq.elim
end
def PI:DI->Item->Prop
 | .code c,.code c'=>c'=c
 | .inBlock id,.inBlock id'=>id'=id
 | .inLoop c,.inLoop c'=>c'=c
 | .inScope c,.inScope c'=>c'=c
 | .ops all rest,.inRegion ops l=>ops=all.toArray/\∃k,rest=all.drop k/\l=List.range' k rest.length
 | _,_=>False
def VX:List DI->List Item->Prop
 | [],[]=>True
 | d::ds,i::is=>PI d i/\VX ds is
 | _,_=>False
inductive DX where
 | norm
 | ret
 | exit (id:Nat)
 | goto (l:Nat)
 | panic (x:V)
def O0 (I:Imm):Exit->DX->Prop
 | .normal,.norm=>True
 | .ret,.ret=>True
 | .exit id,.exit id'=>id=id'
 | .goto l,.goto l'=>l=l'
 | .panic chain,.panic x=>∃v,chain=[{ v,recovered:=false }]/\RepV I v x
 | _,_=>False
abbrev DQ:=DX->Env->St->List Nat->Prop
def Pin (F:List Nat) (μ μ':Mu):Prop:=∀i∈F,∀v,μ i=some v->μ' i=some v
theorem Pin.refl (F:List Nat) (μ:Mu):Pin F μ μ:=λ_ _ _ h=>h
theorem Pin.trans {a b c:Mu} (h:Pin F a b) (k:Pin F b c):Pin F a c:=λi hi v hv=>k i hi v (h i hi v hv)
theorem Pin.of_le {a b:Mu} (h:a.le b):Pin F a b:=λi _ v hv=>h i v hv
def MG (M:List Deferred) (w:World) (ds:List Deferred):Prop:=∀r,mkD r∈ds->mkD r∈M\/w.heap.size<=r
theorem MG.refl (M:List Deferred) (w:World):MG M w M:=λ_ h=>.inl h
def Post (n:Nat) (F:List Nat) (Q:DQ) (M:List Deferred) (I:Imm) (μ:Mu) (st:St) (w:World) (e:Exit) (a':Act) (w':World):Prop :=
 ∃x env' st' ids' I' μ',O0 I' e x/\Q x env' st' ids'/\Conc n I' μ' env' st' ids' a' w'/\Pin F μ μ'/\Ext I μ st w I' μ' st' w'/\MG M w a'.defers
def nZ:Nat:=1000000007
def FrO (P:Program) (F:List Nat):Type:={ b:Frame // nZ∈F\/(b.roundOf=none/\∃fc,P.funcs[b.fn]?=some fc) }
def DGo (P:Program) (n:Nat) (F:List Nat) (Q:DQ) (todo:List DI) (env:Env) (st:St) (ids:List Nat):Prop :=
 ∀(b:FrO P F) cs I μ a w items,VX todo items->Conc n I μ env st ids a w->Reach P b.1 cs (Post n F Q a.defers I μ st w) items a w
section
variable {Q:DQ} {tt:TT} {env:Env} {st:St} {k:List DI}
theorem Post.back {M:List Deferred} {I J:Imm} {μ ν:Mu} {st t:St} {x:World} {e:Exit} (hp:Pin F μ ν) (he:Ext I μ st w J ν t x) (h:Post n F Q M J ν t x e a' w'):Post n F Q M I μ st w e a' w':=by
 obtain ⟨x',env',st',ids',I',μ',h1,h2,h3,h4,h5,h6⟩:=h;exact ⟨x',env',st',ids',I',μ',h1,h2,h3,hp.trans h4,he.trans h5,λr hr=>(h6 r hr).imp id λh=>wM he.size h⟩
theorem DGo.mono {Q':DQ} {todo:List DI} (hq:∀x env st ids,Q x env st ids->Q' x env st ids) (h:DGo P n F Q todo env st ids):DGo P n F Q' todo env st ids :=
 λb cs I μ a w items hd hc=>(h b cs I μ a w items hd hc).mono λ_ _ _ ⟨x,env',st',ids',I',μ',h1,h2,h3⟩=>⟨x,env',st',ids',I',μ',h1,hq _ _ _ _ h2,h3⟩
theorem HT {d:DI} {ds:List DI} {items:List Item} (h:VX (d::ds) items):∃i is,items=i::is/\PI d i/\VX ds is:=by
 cases items with
 | nil=>exact h.elim
 | cons i is=>exact ⟨i,is,rfl,h.1,h.2⟩
theorem Ja {ds:List DI} {items:List Item} (h:VX (.code c::ds) items):∃is,items = .code c::is/\VX ds is:=by
 obtain ⟨i,is,rfl,h1,h2⟩:=HT h;cases i <;> simp only [PI] at h1;subst h1;exact ⟨is,rfl,h2⟩
theorem Yl {id:Nat} {ds:List DI} {items:List Item} (h:VX (.inBlock id::ds) items):∃is,items = .inBlock id::is/\VX ds is:=by
 obtain ⟨i,is,rfl,h1,h2⟩:=HT h;cases i <;> simp only [PI] at h1;subst h1;exact ⟨is,rfl,h2⟩
theorem Yk {ds:List DI} {items:List Item} (h:VX (.inScope c::ds) items):∃is,items = .inScope c::is/\VX ds is:=by
 obtain ⟨i,is,rfl,h1,h2⟩:=HT h;cases i <;> simp only [PI] at h1;subst h1;exact ⟨is,rfl,h2⟩
theorem cA {ds:List DI} {items:List Item} (h:VX (.inLoop c::ds) items):∃is,items = .inLoop c::is/\VX ds is:=by
 obtain ⟨i,is,rfl,h1,h2⟩:=HT h;cases i <;> simp only [PI] at h1;subst h1;exact ⟨is,rfl,h2⟩
theorem Iw {all rest:List Oper} {ds:List DI} {items:List Item} (h:VX (.ops all rest::ds) items) :
  ∃k is,items = .inRegion all.toArray (List.range' k rest.length)::is/\rest=all.drop k/\VX ds is:=by
 obtain ⟨i,is,rfl,h1,h2⟩:=HT h;cases i <;> simp only [PI] at h1;obtain ⟨rfl,k,h3,rfl⟩:=h1;exact ⟨k,is,rfl,h3,h2⟩
theorem H5 {id:Nat}:∀{ds ds':List DI} {is:List Item},KA id ds=some ds'->VX ds is->∃is',exitTo id is=some is'/\VX ds' is'
 | [],ds',is,h,_=>by simp [KA] at h
 | d::ds,ds',is,h,hd=>by
  obtain ⟨i,is,rfl,h1,h2⟩:=HT hd;cases d with
  | inBlock id1 =>
   cases i with
   | inBlock id2 =>
    have h1:id2=id1:=h1;subst h1;simp only [KA] at h
    split at h
    ·rename_i hb;cases h;have:=CD hb;exact ⟨is,by simp [exitTo,this],h2⟩
    ·rename_i hb;have hne:id2≠id:=λe=>by subst e;simp at hb
     obtain ⟨is',h3,h4⟩:=H5 h h2;exact ⟨is',by simp [exitTo,hne,h3],h4⟩
   | _=>exact h1.elim
  | code c =>
   simp only [KA] at h;obtain ⟨is',h3,h4⟩:=H5 h h2;cases i <;> simp only [PI] at h1;exact ⟨is',by simp [exitTo,h3],h4⟩
  | inLoop c =>
   simp only [KA] at h;obtain ⟨is',h3,h4⟩:=H5 h h2;cases i <;> simp only [PI] at h1;exact ⟨is',by simp [exitTo,h3],h4⟩
  | inScope c =>
   simp only [KA] at h;obtain ⟨is',h3,h4⟩:=H5 h h2;cases i <;> simp only [PI] at h1;exact ⟨is',by simp [exitTo,h3],h4⟩
  | ops all rest =>
   simp only [KA] at h;obtain ⟨is',h3,h4⟩:=H5 h h2;cases i <;> simp only [PI] at h1;exact ⟨is',by simp [exitTo,h3],h4⟩
  | dops all rest fs=>cases i <;> simp only [PI] at h1
theorem HS {k':List DI} (h:DGo P n F Q k' env st ids) (hs:∀(b:Frame) cs I μ a w is,VX k is->Conc n I μ env st ids a w->∃items',VX k' items'/\(Reach P b cs (Post n F Q a.defers I μ st w) items' a w->Reach P b cs (Post n F Q a.defers I μ st w) (.code c::is) a w)) :
  DGo P n F Q (.code c::k) env st ids:=by
 intro b cs I μ a w items hd hc;obtain ⟨is,rfl,hk⟩:=Ja hd;obtain ⟨items',h1,h2⟩:=hs b.1 cs I μ a w is hk hc;exact h2 (h b cs I μ a w items' h1 hc)
theorem xW {x:Code} (h:DGo P n F Q (.code x :: .code y::k) env st ids):DGo P n F Q (.code (.seq x y)::k) env st ids :=
 HS h λ_ _ _ _ _ _ is hk _=>⟨.code x :: .code y::is,⟨rfl,rfl,hk⟩,iV⟩
theorem IX (h:DGo P n F Q k env st ids):DGo P n F Q (.code .skip::k) env st ids:=HS h λ_ _ _ _ _ _ is hk _=>⟨is,hk,Zc⟩
theorem lJ (h:DGo P n F Q k env st ids):DGo P n F Q (.code (.label l)::k) env st ids:=HS h λ_ _ _ _ _ _ is hk _=>⟨is,hk,WE⟩
theorem lK {id:Nat} (h:DGo P n F Q (.code c :: .inBlock id::k) env st ids):DGo P n F Q (.code (.block id c)::k) env st ids :=
 HS h λ_ _ _ _ _ _ is hk _=>⟨.code c :: .inBlock id::is,⟨rfl,rfl,hk⟩,WF⟩
theorem lI (h:DGo P n F Q (.code c :: .inScope c::k) env st ids):DGo P n F Q (.code (.scope c)::k) env st ids :=
 HS h λ_ _ _ _ _ _ is hk _=>⟨.code c :: .inScope c::is,⟨rfl,rfl,hk⟩,WD⟩
theorem bZ (h:DGo P n F Q (.code c :: .inLoop c::k) env st ids):DGo P n F Q (.inLoop c::k) env st ids:=by
 intro b cs I μ a w items hd hc;obtain ⟨is,rfl,hk⟩:=cA hd;exact UQ (h b cs I μ a w _ ⟨rfl,rfl,hk⟩ hc)
theorem SL (h:DGo P n F Q (.inLoop c::k) env st ids):DGo P n F Q (.code (.loop c)::k) env st ids:=by
 intro b cs I μ a w items hd hc;obtain ⟨is,rfl,hk⟩:=Ja hd;have:=h b cs I μ a w (.inLoop c::is) ⟨rfl,hk⟩ hc;obtain ⟨e,a',w',hq,harr⟩:=this;refine Zd ?_;have hs:step P (lone (b.1.atR a (.inLoop c::is)) cs w) = .next (lone (b.1.atR a (.code c :: .inLoop c::is)) cs w):=stepR_inLoop;refine ⟨e,a',w',hq,?_⟩;have back:∀m',Steps P (lone (b.1.atR a (.inLoop c::is)) cs w) m'->(m'=lone (b.1.atR a (.inLoop c::is)) cs w)\/Steps P (lone (b.1.atR a (.code c :: .inLoop c::is)) cs w) m':=by
  rintro m' ⟨j,hj⟩;cases j with
  | zero=>simp [runN] at hj;exact .inl hj.symm
  | succ j=>simp only [runN,hs] at hj;exact .inr ⟨j,hj⟩
 have noTodo:∀a1 w1 k1,lone (b.1.atR a1 k1) cs w1=lone (b.1.atR a (.inLoop c::is)) cs w->k1 = .inLoop c::is:=by
  intro a1 w1 k1 he;have:=congrArg (λm:Machine=>(m.gs[0]?).map (·.frame.todo)) he;simpa [lone,Frame.atR] using this
 cases e with
 | normal =>
  rcases back _ harr with he | h'
  ·have:=noTodo a' w' [] he;cases this
  ·exact h'
 | ret =>
  obtain ⟨k1,hk1⟩:=harr;rcases back _ hk1 with he | h'
  ·have:=noTodo _ _ _ he;cases this
  ·exact ⟨k1,h'⟩
 | exit id =>
  obtain ⟨k1,hx,hk1⟩:=harr;rcases back _ hk1 with he | h'
  ·have:=noTodo _ _ _ he;cases this
  ·exact ⟨k1,hx,h'⟩
 | goto l =>
  obtain ⟨k1,hx,hk1⟩:=harr;rcases back _ hk1 with he | h'
  ·have:=noTodo _ _ _ he;cases this
  ·exact ⟨k1,hx,h'⟩
 | panic chain =>
  obtain ⟨todo,hk1⟩:=harr;rcases back _ hk1 with he | h'
  ·have:=congrArg (λm:Machine=>(m.gs[0]?).map (λg=>match g.frame.mode with | .run=>true | _=>false)) he;simp [lone,Frame.atR] at this
  ·exact ⟨todo,h'⟩
 | outgrown=>exact harr.elim
theorem Pq {id:Nat} (h:DGo P n F Q k env st ids):DGo P n F Q (.inBlock id::k) env st ids:=by
 intro b cs I μ a w items hd hc;obtain ⟨is,rfl,hk⟩:=Yl hd;exact Sv (h b cs I μ a w _ hk hc)
theorem Yh (h:DGo P n F Q k env st ids):DGo P n F Q (.inScope c::k) env st ids:=by
 intro b cs I μ a w items hd hc;obtain ⟨is,rfl,hk⟩:=Yk hd;exact Su (h b cs I μ a w _ hk hc)
theorem Az {id:Nat} {k':List DI} (he:KA id k=some k') (h:DGo P n F Q k' env st ids):DGo P n F Q (.code (.exit id)::k) env st ids :=
 HS h λ_ _ _ _ _ _ _ hk _=>let ⟨is',h1,h2⟩:=H5 he hk;⟨is',h2,Ze h1⟩
theorem bY {id:Nat} {ops:List Oper} (h:DGo P n F Q (.ops ops ops::k) env st ids):DGo P n F Q (.code (.region id ⟨ops⟩ false)::k) env st ids :=
 HS h λ_ _ _ _ _ _ is hk _=>⟨.inRegion ops.toArray (List.range' 0 ops.length)::is,⟨⟨rfl,0,rfl,rfl⟩,hk⟩,λhr=>M7 (by simpa [zQ] using hr)⟩
theorem RH {all:List Oper} (h:DGo P n F Q k env st ids):DGo P n F Q (.ops all []::k) env st ids:=by
 intro b cs I μ a w items hd hc;obtain ⟨j,is,rfl,_,hk⟩:=Iw hd;exact GV (h b cs I μ a w _ hk hc)
theorem Ab {c:Operand} {x:Code} {t:Bool} (he:Eg env c=some (.imm (.bool t))) (ht:t=true->DGo P n F Q (.code x::k) env st ids) (hf:t=false->DGo P n F Q (.code y::k) env st ids) :
  DGo P n F Q (.code (.cond c x y)::k) env st ids:=by
 intro b cs I μ a w items hd hc;obtain ⟨is,rfl,hk⟩:=Ja hd;have hv:a.eval c = .bool t:=(VE he (λt' _ d hl=>hc.env t' d hl)).immInv.boolInv;refine Zg hv ?_;cases t with
 | true=>exact ht rfl b cs I μ a w _ ⟨rfl,hk⟩ hc
 | false=>exact hf rfl b cs I μ a w _ ⟨rfl,hk⟩ hc
theorem Ag {c:Operand} {x:Code} {t:Bool} (he:Eg env c=some (.imm (.bool t))) (hf:t=false->DGo P n F Q (.code y::k) env st ids) (ht:¬t=true:=by intro h;simp at h):DGo P n F Q (.code (.cond c x y)::k) env st ids:=Ab he (λh=>absurd h ht) hf
theorem Al {c:Operand} {x:Code} {t:Bool} (he:Eg env c=some (.imm (.bool t))) (ht:t=true->DGo P n F Q (.code x::k) env st ids) (hf:¬t=false:=by intro h;simp at h):DGo P n F Q (.code (.cond c x y)::k) env st ids:=Ab he ht (λh=>absurd h hf)
theorem Ah (h:Q .ret env st ids):DGo P n F Q (.code .ret::k) env st ids:=by
 intro b cs I μ a w items hd hc;obtain ⟨is,rfl,hk⟩:=Ja hd;exact iW ⟨.ret,env,st,ids,I,μ,trivial,h,hc,.refl _ _,.refl _ _ _ _,.refl _ _⟩
theorem BR (h:Q .norm env st ids):DGo P n F Q [] env st ids:=by
 intro b cs I μ a w items hd hc;cases items with
 | nil=>exact iX ⟨.norm,env,st,ids,I,μ,trivial,h,hc,.refl _ _,.refl _ _ _ _,.refl _ _⟩
 | cons=>exact hd.elim
theorem DW {all rest:List Oper} (h:o::rest=all.drop j):all.toArray[j]?=some o/\rest=all.drop (j+1):=by
 have h1:(all.drop j)[0]?=some o:=by rw [<- h];rfl
 rw [Fj] at h1;refine ⟨by simpa using h1,?_⟩;have:=congrArg List.tail h;simpa [List.tail_drop] using this
theorem Ij {I:Imm} {μ:Mu} {w:World} {d:D} (hc:∀t d,lk env t=some d->RepD I μ (a.tmps.getD t undef) d) (hs:a.tmps.size=n) (hn:∀t,dst=some t->t<n) (hv:RepD I μ v d):(∀t d',lk (match dst with | some t=>(t,d)::env | none=>env) t=some d'->RepD I μ ((a.put dst v).tmps.getD t undef) d')/\(a.put dst v).tmps.size=n/\(a.put dst v).defers=a.defers:=by
 cases dst with
 | none=>exact ⟨hc,hs,rfl⟩
 | some t =>
  refine ⟨λt' d' h=>?_,by simp [Act.put,hs],rfl⟩;have hlt:=hn t rfl;by_cases he:t=t'
  ·subst he;simp only [A0] at h;cases h;have:((a.tmps.setIfInBounds t v)[t]?.getD undef)=v:=by simp [hs,hlt]
   simpa [Act.put,this] using hv
  ·simp only [A6 _ _ he] at h;have:=hc t' d' h;have e:(a.tmps.setIfInBounds t v)[t']?=a.tmps[t']?:=by rw [Gj he]
   simpa [Act.put,e] using this
def BK (dst:Option Nat) (d:D) (env:Env):Env:=match dst with
 | some t=>(t,d)::env
 | none=>env
theorem zc3 {all rest:List Oper} {d:D} (hnd:∀c,o.op ≠ .defer c) (hy:YD P all o env st d) (hn:∀t,o.dst=some t->t<n) (h:DGo P n F Q (.ops all rest::k) (BK o.dst d env) st ids):DGo P n F Q (.ops all (o::rest)::k) env st ids:=by
 intro b cs I μ a w items hd hc;obtain ⟨j,is,rfl,hr,hk⟩:=Iw hd;obtain ⟨hj,hr'⟩:=DW hr;have hon:JN (o.looksAt all.toArray) I μ env a:=λt _ d hl=>hc.env t d hl;obtain ⟨h1,h2⟩:=hy I μ ids a w hc.toStRep hon;have cont:∀v w' I',StRep I' μ st ids w'->RepD I' μ v d->Ext I μ st w I' μ st w'->Reach P b.1 cs (Post n F Q a.defers I μ st w) (.inRegion all.toArray (List.range' (j+1) rest.length)::is) (a.put o.dst v) w':=by
  intro v w' I' q1 q2 q3;obtain ⟨p1,p2,p3⟩:=Ij (n:=n) (w:=w') (dst:=o.dst) (λt d hl=>(hc.env t d hl).mono q3.imm (Mu.le_refl μ)) hc.size hn q2;have:=h b cs I' μ (a.put o.dst v) w' (.inRegion all.toArray (List.range' (j+1) rest.length)::is) ⟨⟨rfl,j+1,hr',rfl⟩,hk⟩
   {q1 with size:=p2,env:=by cases hdst:o.dst <;> simpa [BK,hdst] using p1,defers:=by rw [p3];exact hc.defers.ext q3 }
  rw [p3] at this;exact this.mono λe a' w'' hp=>hp.back (.refl _ _) q3
 have hlen:(o::rest).length=rest.length+1:=rfl;rw [hlen,OX];by_cases hw:Region.wanted o (yielded all.toArray a.tmps)=true
 ·have hv:=h1 hw;refine FN hj hw hnd ?_;unfold valR at hv;unfold O9
  split at hv
  ·rename_i v w' hrun;rw [hrun];obtain ⟨I',q1,q2,q3⟩:=hv;exact cont v w' I' q1 q2 q3
  ·rename_i w' hrun;rw [hrun];obtain ⟨I',q1,q2,q3⟩:=hv;exact cont _ w' I' q1 q2 q3
  ·rename_i f args w' hrun;rw [hrun];refine Calls.mono hv λe w'' he=>?_;cases e with
   | returned v =>
    obtain ⟨I',q1,q2,q3⟩:=he;exact cont v w'' I' q1 q2 q3
   | panicked chain=>exact he.elim
   | outgrown=>exact he.elim
  ·exact hv.elim
 ·have hw':Region.wanted o (yielded all.toArray a.tmps)=false:=by simpa using hw
  exact Jo hj hw'<|cont undef w I hc.toStRep (h2 hw') (Ext.refl _ _ _ _)
theorem zc5 {all rest:List Oper} {d:D} {st':St} (hnd:∀c,o.op ≠ .defer c) (hy:ED P all o env st ids d st' ids') (hn:∀t,o.dst=some t->t<n) (h:DGo P n F Q (.ops all rest::k) (BK o.dst d env) st' ids'):DGo P n F Q (.ops all (o::rest)::k) env st ids:=by
 intro b cs I μ a w items hd hc;obtain ⟨j,is,rfl,hr,hk⟩:=Iw hd;obtain ⟨hj,hr'⟩:=DW hr;have hon:JN (o.looksAt all.toArray) I μ env a:=λt _ d hl=>hc.env t d hl;obtain ⟨hw,hv⟩:=hy I μ a w hc.toStRep hon;have cont:∀v w' I' μ',StRep I' μ' st' ids' w'->RepD I' μ' v d->μ.le μ'->Ext I μ st w I' μ' st' w'->Reach P b.1 cs (Post n F Q a.defers I μ st w) (.inRegion all.toArray (List.range' (j+1) rest.length)::is) (a.put o.dst v) w':=by
  intro v w' I' μ' q1 q2 q4 q3;obtain ⟨p1,p2,p3⟩:=Ij (n:=n) (w:=w') (dst:=o.dst) (λt d hl=>(hc.env t d hl).mono q3.imm q4) hc.size hn q2;have:=h b cs I' μ' (a.put o.dst v) w' (.inRegion all.toArray (List.range' (j+1) rest.length)::is) ⟨⟨rfl,j+1,hr',rfl⟩,hk⟩
   {q1 with size:=p2,env:=by cases hdst:o.dst <;> simpa [BK,hdst] using p1,defers:=by rw [p3];exact hc.defers.ext q3 }
  rw [p3] at this;exact this.mono λe a' w'' hp=>hp.back (.of_le q4) q3
 have hlen:(o::rest).length=rest.length+1:=rfl;rw [hlen,OX];refine FN hj hw hnd ?_;unfold valR at hv;unfold O9
 split at hv
 ·rename_i v w' hrun;rw [hrun];obtain ⟨I',μ',q1,q2,q3,q4⟩:=hv;exact cont v w' I' μ' q1 q2 q3 q4
 ·rename_i w' hrun;rw [hrun];obtain ⟨I',μ',q1,q2,q3,q4⟩:=hv;exact cont _ w' I' μ' q1 q2 q3 q4
 ·rename_i f args w' hrun;rw [hrun];refine Calls.mono hv λe w'' he=>?_;cases e with
  | returned v =>
   obtain ⟨I',μ',q1,q2,q3,q4⟩:=he;exact cont v w'' I' μ' q1 q2 q3 q4
  | panicked chain=>exact he.elim
  | outgrown=>exact he.elim
 ·exact hv.elim
end
section
variable {Q:DQ} {tt:TT} {env env':Env} {st st':St} {k:List DI} {d:D}
theorem mT {x:Operand} {f g:D->List Prop->EP} (h:Ei cx env x f = .p d ob) (hfg:∀d' o,f d' o = .p d ob->g d' o = .p d ob):Ei cx env x g = .p d ob:=by
 unfold Ei at *
 split at h
 ·exact hfg _ _ h
 ·exact hfg _ _ h
 ·cases h
theorem zZ {op:Op} (h:Hd tt cx env st op = .p d ob) (st':St):Hd tt cx env st' op = .p d ob:=by
 cases op with
 | load t x =>
  simp only [Hd] at h ⊢;refine mT h λd' o hh=>?_
  split at hh
  ·split at hh
   ·split at hh <;> cases hh
   ·split at hh <;> cases hh
   ·cases hh
  ·exact hh
  ·cases hh
 | unOp u t x=>cases u <;> exact h
 | slice t x lo hi m=>cases m <;> exact h
 | call c =>
  rcases c with ⟨callee,⟨args⟩,⟨argTypes⟩⟩
  cases callee with
  | builtin b =>
   cases b <;> first | exact h | skip
   all_goals (rcases args with _ | ⟨x,_ | ⟨y,_ | ⟨z,r⟩⟩⟩ <;> rcases argTypes with _ | ⟨t,_ | ⟨t2,r2⟩⟩ <;> first | exact h | skip)
   simp only [Hd] at h ⊢;refine mT h λd' o hh=>?_
   split at hh
   ·exact hh
   ·exact hh
   ·exact hh
   ·exact hh
   ·exact hh
   ·split at hh <;> cases hh
   ·cases hh
  | _=>exact h
 | _=>exact h
theorem AH {all:Array Oper} {tmps:Array Value} (h:o.guard=none):Region.wanted o (yielded all tmps)=true:=by simp [Region.wanted,h]
theorem NE (htt:TTok P tt) {all:List Oper} (hg:o.guard=none) (h:Fk (Hd tt True env st o.op)=some (d,ob)) (hob:A4 ob):YD P all o env st d:=by
 intro I μ ids a w hst hon;refine ⟨λ_=>tB htt hst (Bj hon) trivial h hob,λhw=>?_⟩;rw [AH hg] at hw;cases hw
theorem RQ {I:Imm} {μ:Mu} {all:List Oper} {oj:Oper} {g:Nat} {c:Bool} (hg:o.guard=some (j,w0)) (hj:all[j]?=some oj) (hd:oj.dst=some g) (hl:ctl (lk env g) w0=some c) (hon:∀t∈o.looksAt all.toArray,∀d,lk env t=some d->RepD I μ (a.tmps.getD t undef) d):Region.wanted o (yielded all.toArray a.tmps)=true↔c=w0:=by
 have hmem:g∈o.looksAt all.toArray:=by
  unfold Oper.looksAt;refine BN.2 (.inr ?_);simp [hg,hj,hd]
 have yes:∀b,a.tmps.getD g undef = .bool b->yielded all.toArray a.tmps j=some b:=by
  intro b hv;unfold yielded;have hj':all.toArray[j]?=some oj:=by simpa using hj
  simp only [hj',Dy,hd];have:a.tmps[g]?=some (.bool b):=by
   cases ht:a.tmps[g]? with
   | none=>simp [ht,undef] at hv
   | some v=>simp [ht] at hv;rw [hv]
  simp [this]
 cases hx:lk env g with
 | none=>rw [hx] at hl;cases hl
 | some d =>
  rw [hx] at hl;have hr:=hon g hmem _ hx;unfold ctl at hl
  split at hl
  ·rename_i c' e;cases e;cases hl;have hy:=yes _ hr.immInv.boolInv;simp [Region.wanted,hg,hy]
  ·rename_i c' w' b e;cases e;cases hl;generalize hvt:a.tmps.getD g undef=vt at hr;cases hr with
   | guard _ _ _ _ h1 h2 =>
    by_cases hcw:c'=w'
    ·have hv:=(h1 hcw).immInv.boolInv;have hy:=yes _ (hvt.trans hv);subst hcw;simp [Region.wanted,hg,hy]
    ·have hv:=h2 hcw;have hy:yielded all.toArray a.tmps j=none:=by
      unfold yielded;have hj':all.toArray[j]?=some oj:=by simpa using hj
      simp only [hj',Dy,hd];cases ht:a.tmps[g]? with
      | none=>rfl
      | some v =>
       simp [ht] at hvt;rw [hvt,hv];rfl
     have hb:(c' == w')=false:=by simpa using hcw
     simp [Region.wanted,hg,hy,hb]
  ·cases hl
theorem GS (htt:TTok P tt) {all:List Oper} {oj:Oper} {g:Nat} {c:Bool} (hg:o.guard=some (j,w0)) (hj:all[j]?=some oj) (hd:oj.dst=some g) (hl:ctl (lk env g) w0=some c) (h:Fk (Hd tt (c=w0) env st o.op)=some (d,ob)) (hob:A4 ob):YD P all o env st (.guard c w0 d):=by
 intro I μ ids a w hst hon;have hwant:=RQ hg hj hd hl hon;refine ⟨λhw=>?_,λhw=>?_⟩
 ·have hc:=hwant.1 hw;have:=tB htt hst (Bj hon) hc h hob;exact this.mono λv w' ⟨I',q1,q2,q3⟩=>⟨I',q1,.guard _ _ _ _ (λ_=>q2) (λhn=>absurd hc hn),q3⟩
 ·exact .guard _ _ _ _ (λhc=>by rw [hwant.2 hc] at hw;cases hw) (λ_=>rfl)
theorem UT {d:D} {rd rd':Bool} (h:NQ n dst d env (λenv=>.y rd env ob) = .y rd' env' ob'):rd=rd'/\ob=ob'/\env'=BK dst d env/\∀t,dst=some t->t<n:=by
 unfold NQ at h
 split at h
 ·rename_i t
  split at h
  ·rename_i hb;simp only [S1.y.injEq] at h;obtain ⟨h1,h2,h3⟩:=h;exact ⟨h1,h3,by rw [<- h2];rfl,λt' ht=>by cases ht;simpa [HG] using hb⟩
  ·cases h
 ·simp only [S1.y.injEq] at h;obtain ⟨h1,h2,h3⟩:=h;exact ⟨h1,h3,by rw [<- h2];rfl,λt' ht=>by cases ht⟩
theorem oO {d:D} {s:St} {i:List Nat} (h:NQ n dst d env (λenv=>.e env s i ob) = .e env' st' ids' ob'):s=st'/\i=ids'/\ob=ob'/\env'=BK dst d env/\∀t,dst=some t->t<n:=by
 unfold NQ at h
 split at h
 ·rename_i t
  split at h
  ·rename_i hb;simp only [S1.e.injEq] at h;obtain ⟨h1,h2,h3,h4⟩:=h;exact ⟨h2,h3,h4,by rw [<- h1];rfl,λt' ht=>by cases ht;simpa [HG] using hb⟩
  ·cases h
 ·simp only [S1.e.injEq] at h;obtain ⟨h1,h2,h3,h4⟩:=h;exact ⟨h2,h3,h4,by rw [<- h1];rfl,λt' ht=>by cases ht⟩
theorem Ik {d:D} {rd:Bool} {s:St} {i:List Nat}:NQ n dst d env (λenv=>.y rd env ob) ≠ .e env' s i ob':=by
 unfold NQ
 split
 ·split <;> simp
 ·simp
theorem WH {d:D} {rd:Bool} {s:St} {i:List Nat}:NQ n dst d env (λenv=>.e env s i ob) ≠ .y rd env' ob':=by
 unfold NQ
 split
 ·split <;> simp
 ·simp
theorem Lf {c:Call}:Hd tt cx env st (.defer c) = .no:=rfl
theorem Ur {c:Call}:bU tt env st ids (.defer c) = .no:=rfl
theorem PP (htt:TTok P tt) {all:List Oper} {rd:Bool} (h:FL tt n all o env st ids = .y rd env' ob) (hob:A4 ob) :
  ∃d,env'=BK o.dst d env/\(∀t,o.dst=some t->t<n)/\(∀c,o.op ≠ .defer c)/\YD P all o env st d/\(rd=false->∀st',YD P all o env st' d):=by
 unfold FL at h
 split at h
 ·rename_i hg
  split at h
  ·rename_i d ob' he;obtain ⟨rfl,rfl,e1,e2⟩:=UT h;exact ⟨d,e1,e2,(λc hc=>by rw [hc,Lf] at he;cases he),NE htt hg (by rw [he];rfl) hob,λ_ st'=>NE htt hg (by rw [zZ he st'];rfl) hob⟩
  ·rename_i d ob' he;obtain ⟨rfl,rfl,e1,e2⟩:=UT h;exact ⟨d,e1,e2,(λc hc=>by rw [hc,Lf] at he;cases he),NE htt hg (by rw [he];rfl) hob,λhf=>by cases hf⟩
  ·split at h
   ·exact absurd h WH
   ·cases h
 ·rename_i j w0 hg
  split at h
  ·rename_i g _ _ _ _ _ hj;rw [Gv] at hj
   split at h
   ·rename_i c hl
    split at h
    ·rename_i d ob' he;obtain ⟨rfl,rfl,e1,e2⟩:=UT h;exact ⟨_,e1,e2,(λc' hc=>by rw [hc,Lf] at he;cases he),GS htt hg hj rfl hl (by rw [he];rfl) hob,λ_ st'=>GS htt hg hj rfl hl (by rw [zZ he st'];rfl) hob⟩
    ·rename_i d ob' he;obtain ⟨rfl,rfl,e1,e2⟩:=UT h;exact ⟨_,e1,e2,(λc' hc=>by rw [hc,Lf] at he;cases he),GS htt hg hj rfl hl (by rw [he];rfl) hob,λhf=>by cases hf⟩
    ·cases h
   ·cases h
  ·cases h
theorem vL (htt:TTok P tt) {all:List Oper} (h:FL tt n all o env st ids = .e env' st' ids' ob) (hob:A4 ob) :
  ∃d,env'=BK o.dst d env/\(∀t,o.dst=some t->t<n)/\(∀c,o.op ≠ .defer c)/\ED P all o env st ids d st' ids':=by
 unfold FL at h
 split at h
 ·rename_i hg
  split at h
  ·exact absurd h Ik
  ·exact absurd h Ik
  ·split at h
   ·rename_i d s i ob' he;obtain ⟨rfl,rfl,rfl,e1,e2⟩:=oO h;refine ⟨d,e1,e2,(λc hc=>by rw [hc,Ur] at he;cases he),λI μ a w hst hon=>⟨AH hg,?_⟩⟩;exact bT htt hst (Bj hon) he hob
   ·cases h
 ·split at h
  ·split at h
   ·split at h
    ·exact absurd h Ik
    ·exact absurd h Ik
    ·cases h
   ·cases h
  ·cases h
end
def OM:Option D->List Nat
 | some (.ref id _)=>[id]
 | some (.mapr id)=>[id]
 | some (.guard _ _ (.ref id _))=>[id]
 | some (.guard _ _ (.mapr id))=>[id]
 | _=>[]
def QB (env:Env):Op->List Nat
 | .load _ x=>OM (Eg env x)
 | .store _ x _=>OM (Eg env x)
 | .call c=>match c.args.toList with
  | [x]=>OM (Eg env x)
  | _=>[]
 | _=>[]
def Agree (rd:List Nat) (st st':St):Prop:=∀i∈rd,lk st' i=lk st i
section
variable {tt:TT} {env env':Env} {st st':St} {d:D}
theorem Ta {x:Operand} {f g:D->List Prop->EP} (hfg:∀d' o,(Eg env x=some d'\/∃c w,Eg env x=some (.guard c w d'))->f d' o=g d' o):Ei cx env x f=Ei cx env x g:=by
 unfold Ei
 split
 ·rename_i c w d hd;exact hfg _ _ (.inr ⟨c,w,hd⟩)
 ·rename_i d hne hd;exact hfg _ _ (.inl hd)
 ·rfl
theorem iS {x:Option D} {id:Nat} (h:x=some (.ref id off)\/∃c w,x=some (.guard c w (.ref id off))):id∈OM x:=by
 rcases h with h | ⟨c,w,h⟩ <;> simp [h,OM]
theorem iT {x:Option D} {id:Nat} (h:x=some (.mapr id)\/∃c w,x=some (.guard c w (.mapr id))):id∈OM x:=by
 rcases h with h | ⟨c,w,h⟩ <;> simp [h,OM]
theorem Up {op:Op} (h:Agree (QB env op) st st'):Hd tt cx env st' op=Hd tt cx env st op:=by
 cases op with
 | load t x =>
  simp only [Hd];refine Ta λd' o hd=>?_;cases d' with
  | ref id off =>
   have hl:=h id (iS hd);cases lk tt t with
   | none=>rfl
   | some i=>simp only [hl]
  | _=>cases lk tt t <;> rfl
 | unOp u t x=>cases u <;> rfl
 | slice t x lo hi m=>cases m <;> rfl
 | call c =>
  rcases c with ⟨callee,⟨args⟩,⟨argTypes⟩⟩
  cases callee with
  | builtin b =>
   cases b <;> first | rfl | skip
   all_goals (rcases args with _ | ⟨x,_ | ⟨y,_ | ⟨z,r⟩⟩⟩ <;> rcases argTypes with _ | ⟨t,_ | ⟨t2,r2⟩⟩ <;> first | rfl | skip)
   simp only [Hd];refine Ta λd' o hd=>?_;cases d' with
   | mapr id =>
    have hl:=h id (iT hd);cases lk tt t with
    | none=>rfl
    | some i=>rcases i with ⟨sh,_,_,_,_⟩;cases sh <;> first | rfl | simp only [hl]
   | imm v=>cases v <;> (cases lk tt t with
    | none=>rfl
    | some i=>rcases i with ⟨sh,_,_,_,_⟩;cases sh <;> rfl)
   | raw v=>cases v <;> (cases lk tt t with
    | none=>rfl
    | some i=>rcases i with ⟨sh,_,_,_,_⟩;cases sh <;> rfl)
   | _=>cases lk tt t with
    | none=>rfl
    | some i=>rcases i with ⟨sh,_,_,_,_⟩;cases sh <;> rfl
  | _=>rfl
 | _=>rfl
theorem Uq {op:Op} (h:bU tt env st ids op = .e d st' ids' ob) :
  ∃(fr:List Nat) (wr:St),ids=fr++ids'/\st'=wr++st/\(∀i∈wr.map (·.1),i∈fr\/i∈QB env op)/\∀st1 ids1,Agree (QB env op) st st1->bU tt env st1 (fr++ids1) op = .e d (wr++st1) ids1 ob:=by
 cases op with
 | box t x =>
  simp only [bU,O8] at h ⊢
  split at h
  ·cases h
  ·rename_i d0 hne hd
   split at h
   ·rename_i i id ids0 hi
    split at h <;> simp only [EE.e.injEq,reduceCtorEq] at h
    rename_i blk ob' hb;obtain ⟨rfl,rfl,rfl,rfl⟩:=h;exact ⟨[id],[(id,some blk)],rfl,rfl,by simp,λst1 ids1 _=>by simp [hd,hi,hb]⟩
   ·cases h
  ·cases h
 | alloc t =>
  simp only [bU] at h ⊢
  split at h
  ·rename_i i id ids0 hi
   split at h <;> simp only [EE.e.injEq,reduceCtorEq] at h
   rename_i hb;obtain ⟨rfl,rfl,rfl,rfl⟩:=h;exact ⟨[id],[(id,_)],rfl,rfl,by simp,λst1 ids1 _=>by simp [hi,hb]⟩
  ·cases h
 | store t p x =>
  simp only [bU] at h ⊢;unfold O8 at h ⊢
  split at h
  ·cases h
  ·rename_i dp hne hp
   split at h
   ·cases h
   ·rename_i dx hnex hx
    dsimp only at h ⊢
    split at h
    ·rename_i id off i hi;have hmem:id∈QB env (.store t p x):=by simp [QB,hp,OM]
     split at h
     ·rename_i bt sz xs hl
      split at h
      ·rename_i ys hs;simp only [EE.e.injEq] at h;obtain ⟨rfl,rfl,rfl,rfl⟩:=h;exact ⟨[],[(id,_)],rfl,rfl,by simpa using hmem,λst1 ids1 hag=>by simp [hp,hx,hi,hag id hmem,hl,hs]⟩
      ·rename_i d0 hnd
       split at h
       ·rename_i cs hcs
        split at h <;> simp only [EE.e.injEq,reduceCtorEq] at h
        rename_i l hsp hlc;obtain ⟨rfl,rfl,rfl,rfl⟩:=h;exact ⟨[],[(id,_)],rfl,rfl,by simpa using hmem,λst1 ids1 hag=>by simp [hp,hx,hi,hag id hmem,hl,hcs,hsp,hlc]⟩
       ·cases h
     ·rename_i bt sz ds hl
      split at h
      ·rename_i ys hs;simp only [EE.e.injEq] at h;obtain ⟨rfl,rfl,rfl,rfl⟩:=h;exact ⟨[],[(id,_)],rfl,rfl,by simpa using hmem,λst1 ids1 hag=>by simp [hp,hx,hi,hag id hmem,hl,hs]⟩
      ·split at h
       ·rename_i cs hcs
        split at h <;> simp only [EE.e.injEq,reduceCtorEq] at h
        rename_i l hsp hlc;obtain ⟨rfl,rfl,rfl,rfl⟩:=h;exact ⟨[],[(id,_)],rfl,rfl,by simpa using hmem,λst1 ids1 hag=>by simp [hp,hx,hi,hag id hmem,hl,hcs,hsp,hlc]⟩
       ·cases h
     ·cases h
    ·cases h
   ·cases h
  ·cases h
 | _=>simp [bU] at h
end
def valX (P:Program) (r:Result Next) (K:Value->World->Prop) (Kp:List PanicEntry->World->Prop):Prop :=
 match r with
 | .ok (.value v) w=>K v w
 | .ok .skip w=>K undef w
 | .ok (.enter f args) w=>Calls P f args w λe w'=>match e with
  | .returned v=>K v w'
  | .panicked chain=>Kp chain w'
  | .outgrown=>False
 | .ok (.round l f tmps assign body) w=>RoundIn Fence.wide 0 P l f tmps assign body w λe w'=>match e with
  | .returned v=>K v w'
  | .panicked chain=>Kp chain w'
  | .outgrown=>False
 | .halt (.panic v) w=>Kp [{ v,recovered:=false }] w
 | _=>False
theorem valR.x {Kp:List PanicEntry->World->Prop} (h:valR P r K):valX P r K Kp:=by
 unfold valR at h;unfold valX
 split at h
 ·exact h
 ·exact h
 ·exact Calls.mono h (λe w' he=>by cases e <;> first | exact he | exact he.elim)
 ·exact h.elim
theorem valX.mono {Kp Kp':List PanicEntry->World->Prop} (hk:∀v w,K v w->K' v w) (hp:∀c w,Kp c w->Kp' c w) (h:valX P r K Kp):valX P r K' Kp':=by
 unfold valX at *
 split at h
 ·exact hk _ _ h
 ·exact hk _ _ h
 ·exact Calls.mono h (λe w' he=>by cases e <;> first | exact hk _ _ he | exact hp _ _ he | exact he)
 ·exact RoundIn.mono h (λe w' he=>by cases e <;> first | exact hk _ _ he | exact hp _ _ he | exact he)
 ·exact hp _ _ h
 ·exact h.elim
theorem valX.upon {next:Act->World->Prop} {pan:List PanicEntry->World->Prop} (h:valX P r (λv w=>next (a.put o.dst v) w) pan):O9 P o a next pan r:=by
 unfold valX at h;unfold O9
 split at h
 ·exact h
 ·exact h
 ·exact h
 ·exact h
 ·exact h
 ·exact h.elim
def Lx (Pn:V->Prop) (I:Imm) (μ:Mu) (st:St) (w:World) (chain:List PanicEntry) (w':World):Prop :=
 ∃v x I',chain=[{ v,recovered:=false }]/\Pn x/\RepV I' v x/\I'.ok w'/\Ext I μ st w I' μ [] w'
def LD (P:Program) (Pn:V->Prop) (all:List Oper) (o:Oper) (env:Env) (st:St) (rd fr:List Nat) (wr:St) (d:D):Prop :=
 ∀I μ st1 ids1 a w,Agree rd st st1->StRep I μ st1 (fr++ids1) w->JN (o.looksAt all.toArray) I μ env a ->
  (Region.wanted o (yielded all.toArray a.tmps)=true ->
   valX P ((execOp a.eval o).run P w) (λv w'=>∃I' μ',StRep I' μ' (wr++st1) ids1 w'/\RepD I' μ' v d/\μ.le μ'/\Ext I μ st1 w I' μ' (wr++st1) w') (Lx Pn I μ st1 w)) /\
  (Region.wanted o (yielded all.toArray a.tmps)=false->wr=[]/\fr=[]/\RepD I μ undef d)
structure Stp where
 rd:List Nat
 fr:List Nat
 wr:St
 d:D
structure OI where
 dst:Option Nat
 looks:List Nat
 rd:List Nat
 wr:List Nat
def Fp:List Nat->Nat->Bool
 | [],_=>false
 | x::r,t=>bif Nat.beq x t then true else Fp r t
def Ns:List Nat->List Nat->Bool
 | [],_=>true
 | x::r,l=>bif Fp l x then false else Ns r l
def Ot (d:Option Nat) (l:List Nat):Bool:=match d with
 | some t=>!Fp l t
 | none=>true
def cO (x y:OI):Bool :=
 Ot x.dst y.looks&&Ot y.dst x.looks&&Ot x.dst (match y.dst with | some t=>[t] | none=>[]) &&
 Ns x.wr y.rd&&Ns y.wr x.rd&&Ns x.wr y.wr
def LM (e:Edge):Bool:=match e.ground with
 | .textOnly _=>false
 | .gcOnly _=>false
 | _=>true
def Oa (acc:List Nat):List Edge->Nat->Nat
 | [],m=>m
 | e::es,m=>Oa acc es (bif LM e then Nat.lor (Nat.lor m (2 ^ e.on)) (match Ms acc e.on with | some k=>k | none=>0) else m)
def Qa (i:Nat):List Edge->Bool
 | []=>true
 | e::es=>(!LM e||Nat.blt e.on i)&&Qa i es
def Lo (m:Nat) (x:OI):List OI->Nat->Bool
 | [],_=>true
 | y::r,i=>(Nat.testBit m i||cO y x)&&Lo m x r (i+1)
def Lp:List Oper->List OI->Nat->List Nat->List OI->Bool
 | o::os,x::xs,i,acc,prev =>
  let m:=Oa acc o.after.toList 0
  Qa i o.after.toList&&Lo m x prev 0&&Lp os xs (i+1) (acc++[m]) (prev++[x])
 | [],[],_,_,_=>true
 | _,_,_,_,_=>false
def Oe (all:Array Oper) (o:Oper) (s:List Nat×List Nat):OI:={ dst:=o.dst,looks:=o.looksAt all,rd:=s.1,wr:=s.2 }
def X4 (all:Array Oper):List Oper->List (List Nat×List Nat)->List OI
 | o::os,s::ss=>Oe all o s::X4 all os ss
 | _,_=>[]
def Ny (all:List Oper) (fs:List (List Nat×List Nat)):Bool:=Lp all (X4 all.toArray all fs) 0 [] []&&Nat.beq fs.length all.length
theorem BT {l:List Nat} {t:Nat}:Fp l t=true↔t∈l:=by
 induction l with
 | nil=>simp [Fp]
 | cons x r ih =>
  simp only [Fp,Cy];cases hb:Nat.beq x t with
  | true=>simp [CD hb]
  | false =>
   have:x≠t:=λe=>by subst e;simp at hb
   simp only [cond_false,ih];constructor
   ·exact .inr
   ·rintro (h | h)
    ·exact absurd h.symm this
    ·exact h
theorem Lh {a b:List Nat}:Ns a b=true↔∀x∈a,x∉b:=by
 induction a with
 | nil=>simp [Ns]
 | cons x r ih =>
  simp only [Ns];cases hm:Fp b x with
  | true=>have:=BT.1 hm;simp [this]
  | false =>
   have:x∉b:=λh=>by rw [BT.2 h] at hm;cases hm
   simp only [cond_false,ih,Cy,forall_eq_or_imp];exact ⟨λh=>⟨this,h⟩,λh=>h.2⟩
theorem Mk {d:Option Nat} {l:List Nat}:Ot d l=true↔∀t,d=some t->t∉l:=by
 cases d with
 | none=>simp [Ot]
 | some t =>
  simp only [Ot,HN,Ce,forall_eq'];constructor
  ·intro h hm;rw [BT.2 hm] at h;cases h
  ·intro h;cases hm:Fp l t with
   | true=>exact absurd (BT.1 hm) h
   | false=>rfl
structure ApartOI (x y:OI):Prop where
 a:∀t,x.dst=some t->t∉y.looks
 b:∀t,y.dst=some t->t∉x.looks
 c:∀t,x.dst=some t->y.dst≠some t
 d:∀i∈x.wr,i∉y.rd
 e:∀i∈y.wr,i∉x.rd
 f:∀i∈x.wr,i∉y.wr
theorem ApartOI.symm {x y:OI} (h:ApartOI x y):ApartOI y x :=
 ⟨h.b,h.a,λt h1 h2=>h.c t h2 h1,h.e,h.d,λi h1 h2=>h.f i h2 h1⟩
theorem Y3 {x y:OI} (h:cO x y=true):ApartOI x y:=by
 simp only [cO,Ap] at h;obtain ⟨⟨⟨⟨⟨h1,h2⟩,h3⟩,h4⟩,h5⟩,h6⟩:=h;refine ⟨Mk.1 h1,Mk.1 h2,λt hx hy=>?_,Lh.1 h4,Lh.1 h5,Lh.1 h6⟩;exact Mk.1 h3 t hx (by simp [hy])
theorem Uw {e:Edge}:LM e=Region.binds .any e:=by
 rcases e with ⟨on,g⟩
 cases g <;> simp [LM,Region.binds] <;> rfl
def HZ (all:List Oper) (S:Nat->Bool):Prop:=∀j o,all[j]?=some o->S j=true->∀e∈o.after.toList,LM e=true->S e.on=true
theorem OW {acc:List Nat} {S:Nat->Bool} (hacc:∀k m i,Ms acc k=some m->m.testBit i=true->S k=true->S i=true):∀(es:List Edge) (m:Nat) (i:Nat),
  (∀e∈es,LM e=true->S e.on=true)->(Oa acc es m).testBit i=true->m.testBit i=true\/S i=true
 | [],m,i,_,h=>.inl h
 | e::es,m,i,hS,h=>by
  simp only [Oa] at h;rcases OW hacc es _ i (λe' he'=>hS e' (Ip _ he')) h with h1 | h1
  ·cases hb:LM e with
   | false=>simp only [hb,cond_false] at h1;exact .inl h1
   | true =>
    have hSe:=hS e (by simp) hb;simp only [hb,cond_true] at h1;have h1':((m ||| 2 ^ e.on) ||| (match Ms acc e.on with | some k=>k | none=>0)).testBit i=true:=h1;rw [Nat.testBit_or,Nat.testBit_or,Ha,Ha,Nat.testBit_two_pow] at h1';rcases h1' with (h1' | h1') | h1'
    ·exact .inl h1'
    ·have:e.on=i:=by simpa using h1'
     exact .inr (this ▸ hSe)
    ·cases hn:Ms acc e.on with
     | none=>simp [hn] at h1'
     | some k=>simp only [hn] at h1';exact .inr (hacc _ _ _ hn h1' hSe)
  ·exact .inr h1
theorem KH {m:Nat} {x:OI}:∀{prev:List OI} {i:Nat},Lo m x prev i=true->∀k y,prev[k]?=some y->Nat.testBit m (i+k)=true\/ApartOI y x
 | [],_,_,k,y,hk=>by simp at hk
 | p::r,i,h,k,y,hk=>by
  simp only [Lo,Ap,Ha] at h;cases k with
  | zero=>simp at hk;subst hk;exact h.1.imp id Y3
  | succ k =>
   have:=KH h.2 k y (by simpa using hk)
   rwa [show i+1+k=i+(k+1) by omega] at this
theorem Np {i:Nat}:∀{es:List Edge},Qa i es=true->∀e∈es,LM e=true->e.on<i
 | [],_,e,he=>by simp at he
 | e'::es,h,e,he=>by
  simp only [Qa,Ap,Ha,HN] at h;rcases Cy.1 he with rfl | he
  ·intro hb;rcases h.1 with h1 | h1
   ·rw [h1] at hb;cases hb
   ·rwa [HG] at h1
  ·exact Np h.2 e he
theorem QJ {acc:List Nat} {k v:Nat} (h:Ms (acc++[m]) k=some v):Ms acc k=some v\/(k=acc.length/\v=m):=by
 rw [Gv] at h ⊢;rw [Mg] at h
 split at h
 ·exact .inl h
 ·rename_i hlt;right;cases hk:k-acc.length with
  | zero=>rw [hk] at h;simp at h;exact ⟨by omega,h.symm⟩
  | succ j=>rw [hk] at h;simp at h
theorem Nx {all:List Oper} {S:Nat->Bool} (hS:HZ all S) :
  ∀(os:List Oper) (xs:List OI) (i:Nat) (acc:List Nat) (prev:List OI),Lp os xs i acc prev=true->os=all.drop i->prev.length=i->acc.length=i ->
   (∀k m j,Ms acc k=some m->m.testBit j=true->S k=true->S j=true) ->
   (∀j o,os[j]?=some o->∀e∈o.after.toList,LM e=true->e.on<i+j) /\
   (∀j x,xs[j]?=some x->S (i+j)=true->(∀k y,prev[k]?=some y->S k=false->ApartOI y x)/\(∀k y,k<j->xs[k]?=some y->S (i+k)=false->ApartOI y x))
 | [],[],_,_,_,_,_,_,_,_=>⟨λj o h=>by simp at h,λj x h=>by simp at h⟩
 | [],_::_,_,_,_,h,_,_,_,_=>by simp [Lp] at h
 | _::_,[],_,_,_,h,_,_,_,_=>by simp [Lp] at h
 | o::os,x::xs,i,acc,prev,h,hos,hp,hac,hacc=>by
  simp only [Lp,Ap] at h;obtain ⟨⟨h1,h2⟩,h3⟩:=h;have hi:all[i]?=some o:=by
   have:(all.drop i)[0]?=some o:=by rw [<- hos];rfl
   rw [Fj] at this;simpa using this
  have hos':os=all.drop (i+1):=by
   have:=congrArg List.tail hos;simpa [List.tail_drop] using this
  have hm:∀j,(Oa acc o.after.toList 0).testBit j=true->S i=true->S j=true:=by
   intro j hj hSi;rcases OW hacc o.after.toList 0 j (λe he hb=>hS i o hi hSi e he hb) hj with h | h
   ·simp at h
   ·exact h
  have hacc':∀k m j,Ms (acc++[Oa acc o.after.toList 0]) k=some m->m.testBit j=true->S k=true->S j=true:=by
   intro k m j hk hj hSk;rcases QJ hk with h | ⟨rfl,rfl⟩
   ·exact hacc k m j h hj hSk
   ·rw [hac] at hSk;exact hm j hj hSk
  obtain ⟨r1,r2⟩:=Nx hS os xs (i+1) _ _ h3 hos' (by simp [hp]) (by simp [hac]) hacc';refine ⟨λj o' hj e he hb=>?_,λj x' hj hSj=>?_⟩
  ·cases j with
   | zero=>simp at hj;subst hj;exact Np h1 e he hb
   | succ j=>have:=r1 j o' (by simpa using hj) e he hb;omega
  ·cases j with
   | zero =>
    simp at hj;subst hj;refine ⟨λk y hk hSk=>?_,λk y hk=>by omega⟩;rcases KH h2 k y hk with h | h
    ·have:=hm _ h (by simpa using hSj);simp at this;rw [this] at hSk;cases hSk
    ·exact h
   | succ j =>
    have hSj':S (i+1+j)=true:=by rwa [show i+1+j=i+(j+1) by omega]
    obtain ⟨q1,q2⟩:=r2 j x' (by simpa using hj) hSj';refine ⟨λk y hk hSk=>?_,λk y hk hxk hSk=>?_⟩
    ·have hlt:k<prev.length:=(AL.1 hk).1;exact q1 k y (by rw [Pb hlt];exact hk) hSk
    ·cases k with
     | zero =>
      simp at hxk;subst hxk;exact q1 i x (by rw [Pa (by omega)];simp [hp]) (by simpa using hSk)
     | succ k=>exact q2 k y (by omega) (by simpa using hxk) (by rwa [show i+1+k=i+(k+1) by omega])
section
variable {Q:DQ} {all:List Oper} {env env':Env} {st st':St} {k:List DI} {Pn:V->Prop}
theorem Gz (h:∀i,lk st i=lk st' i) {id:Nat} {blk:Blk}:A1 st id blk↔A1 st' id blk:=by unfold A1;rw [h]
theorem GE (h:∀i,lk st i=lk st' i) {μ:Mu}:Bq μ st b↔Bq μ st' b:=by
 unfold Bq;constructor <;> rintro ⟨id,blk,g,h1,h2⟩
 ·exact ⟨id,blk,g,(Gz h).1 h1,h2⟩
 ·exact ⟨id,blk,g,(Gz h).2 h1,h2⟩
theorem StRep.congr {I:Imm} {μ:Mu} (hs:StRep I μ st ids w) (h:∀i,lk st i=lk st' i):StRep I μ st' ids w :=
 {imm:=hs.imm,blk:=λid blk hl=>hs.blk id blk ((Gz h).2 hl),apart:=λid blk g b hl=>hs.apart id blk g b ((Gz h).2 hl),
  inj:=λi j bi bj gi gj b hi hj=>hs.inj i j bi bj gi gj b ((Gz h).2 hi) ((Gz h).2 hj),nodup:=hs.nodup,idsFree:=hs.idsFree }
theorem StRep.perm {I:Imm} {μ:Mu} (hs:StRep I μ st ids w) (h:ids.Perm ids'):StRep I μ st ids' w :=
 {hs with nodup:=h.nodup_iff.1 hs.nodup,idsFree:=λi hi=>hs.idsFree i (h.mem_iff.2 hi) }
theorem Ext.congr {I J:Imm} {μ ν:Mu} {st1 st1':St} (h:Ext I μ st w J ν st' w') (h1:∀i,lk st i=lk st1 i) (h2:∀i,lk st' i=lk st1' i):Ext I μ st1 w J ν st1' w' :=
 {h with block:=λb hb ho=>h.block b hb (λhx=>ho ((GE h1).1 hx)),fresh:=λb hb ho=>(GE h1).1 (h.fresh b hb ((GE h2).2 ho)),old:=λb hb ho=>h.old b hb (λhx=>ho ((GE h1).1 hx)) }
theorem MarksOk.congr {I:Imm} {μ:Mu} {st1:St} (h:MarksOk I μ st w ds) (h1:∀i,lk st i=lk st1 i):MarksOk I μ st1 w ds:=by
 obtain ⟨rs,q1,q2,q3⟩:=h;exact ⟨rs,q1,q2,λr hr=>⟨(q3 r hr).1,(q3 r hr).2.1,λho=>(q3 r hr).2.2 ((GE h1).2 ho)⟩⟩
theorem KG {I:Imm} {μ:Mu} (hI:I.ok w) (hs:a.tmps.size=n) (hd:MarksOk I μ [] w a.defers):Conc n I μ [] [] [] a w where
 imm:=hI
 blk:=λ_ _ h=>by simp [A1,lk] at h
 apart:=λ_ _ _ _ h=>by simp [A1,lk] at h
 inj:=λ_ _ _ _ _ _ _ h=>by simp [A1,lk] at h
 nodup:=.nil
 idsFree:=λ_ h=>by simp at h
 size:=hs
 env:=λ_ _ h=>by simp [lk] at h
 defers:=hd
def Mq (P:Program) (Pn:V->Prop) (n:Nat) (all:List Oper):List Oper->List Stp->Env->St->Prop
 | [],[],_,_=>True
 | o::os,s::ss,env,st=>LD P Pn all o env st s.rd s.fr s.wr s.d/\(∀t,o.dst=some t->t<n)/\(∀c,o.op ≠ .defer c)/\Mq P Pn n all os ss (BK o.dst s.d env) (s.wr++st)
 | _,_,_,_=>False
def Dr (S:Nat->Bool):List Oper->List Stp->Nat->Env->Env
 | o::os,s::ss,i,env=>Dr S os ss (i+1) (bif S i then BK o.dst s.d env else env)
 | _,_,_,env=>env
def Fs (S:Nat->Bool):List Stp->Nat->St->St
 | s::ss,i,st=>Fs S ss (i+1) (bif S i then s.wr++st else st)
 | [],_,st=>st
def FS (S:Nat->Bool):List Stp->Nat->List Nat->List Nat
 | s::ss,i,l=>(bif S i then [] else s.fr)++FS S ss (i+1) l
 | [],_,l=>l
theorem Rf {d:D} {t:Nat} (h:dst≠some t):lk (BK dst d env) t=lk env t:=by
 cases dst with
 | none=>rfl
 | some s=>exact A6 _ _ (λe=>h (by rw [e]))
theorem Jy {d:D} {t:Nat} (h:dst=some t):lk (BK dst d env) t=some d:=by subst h;exact A0 _ _ _
theorem KX:∀{wr:St} {i:Nat},i∉wr.map (·.1)->lk (wr++st) i=lk st i
 | [],_,_=>rfl
 | (k,x)::r,i,h=>by
  simp only [C6,Cy,not_or] at h;rw [De,A6 _ _ (λe=>h.1 e.symm)];exact KX h.2
theorem Gy:∀{wr:St} {i:Nat},i∈wr.map (·.1)->lk (wr++st) i=lk wr i
 | [],_,h=>by simp at h
 | (k,x)::r,i,h=>by
  by_cases hk:k=i
  ·subst hk;rw [De,A0,A0]
  ·rw [De,A6 _ _ hk,A6 _ _ hk];simp only [C6,Cy] at h;exact Gy (h.resolve_left λe=>hk e.symm)
theorem GL {S S':Nat->Bool} {t:Nat}:∀(os:List Oper) (ss:List Stp) (i:Nat) (env env':Env),lk env t=lk env' t ->
  (∀j o,os[j]?=some o->o.dst=some t->S (i+j)=S' (i+j))->lk (Dr S os ss i env) t=lk (Dr S' os ss i env') t
 | [],ss,i,env,env',h,_=>by cases ss <;> simpa [Dr] using h
 | o::os,[],i,env,env',h,_=>by simpa [Dr] using h
 | o::os,s::ss,i,env,env',h,hS=>by
  simp only [Dr];refine GL os ss (i+1) _ _ ?_ λj o' hj hd=>by
   have:=hS (j+1) o' (by simpa using hj) hd
   rwa [show i+1+j=i+(j+1) by omega]
  by_cases hd:o.dst=some t
  ·have:=hS 0 o rfl hd;simp only [Iq] at this;rw [this];cases S' i with
   | true=>simp [Jy hd]
   | false=>simpa using h
  ·have h1:∀(c:Bool) (e:Env),lk (bif c then BK o.dst s.d e else e) t=lk e t:=λc e=>by cases c <;> simp [Rf hd]
   rw [h1,h1,h]
theorem HB {S S':Nat->Bool} {t:Nat}:∀(ss:List Stp) (i:Nat) (st st':St),lk st t=lk st' t ->
  (∀j s,ss[j]?=some s->t∈s.wr.map (·.1)->S (i+j)=S' (i+j))->lk (Fs S ss i st) t=lk (Fs S' ss i st') t
 | [],i,st,st',h,_=>by simpa [Fs] using h
 | s::ss,i,st,st',h,hS=>by
  simp only [Fs];refine HB ss (i+1) _ _ ?_ λj o' hj hd=>by
   have:=hS (j+1) o' (by simpa using hj) hd
   rwa [show i+1+j=i+(j+1) by omega]
  by_cases hd:t∈s.wr.map (·.1)
  ·have:=hS 0 s rfl hd;simp only [Iq] at this;rw [this];cases S' i with
   | true=>simp [Gy hd]
   | false=>simpa using h
  ·have h1:∀(c:Bool) (e:St),lk (bif c then s.wr++e else e) t=lk e t:=λc e=>by cases c <;> simp [KX hd]
   rw [h1,h1,h]
theorem J7 {S:Nat->Bool}:∀(os:List Oper) (ss:List Stp) (i:Nat) (env:Env),(∀j,i<=j->S j=false)->Dr S os ss i env=env
 | [],ss,i,env,_=>by cases ss <;> rfl
 | o::os,[],i,env,_=>rfl
 | o::os,s::ss,i,env,h=>by
  simp only [Dr,h i (BQ i),cond_false];exact J7 os ss (i+1) env λj hj=>h j (by omega)
theorem IG {S:Nat->Bool}:∀(ss:List Stp) (i:Nat) (st:St),(∀j,i<=j->S j=false)->Fs S ss i st=st
 | [],i,st,_=>rfl
 | s::ss,i,st,h=>by
  simp only [Fs,h i (BQ i),cond_false];exact IG ss (i+1) st λj hj=>h j (by omega)
theorem Uu {S:Nat->Bool} {t:Nat}:∀(os:List Oper) (ss:List Stp) (k:Nat) (env:Env) (i:Nat) (o:Oper) (s:Stp),os[i]?=some o->ss[i]?=some s->o.dst=some t->S (k+i)=true ->
  (∀j o',i<j->os[j]?=some o'->o'.dst=some t->S (k+j)=false)->lk (Dr S os ss k env) t=some s.d
 | [],ss,k,env,i,o,s,h,_,_,_,_=>by simp at h
 | o1::os,[],k,env,i,o,s,_,h,_,_,_=>by simp at h
 | o1::os,s1::ss,k,env,0,o,s,h1,h2,hd,hS,hno=>by
  simp at h1 h2;subst h1;subst h2;simp only [Dr];have:=GL (S:=S) (S':=λ_=>false) (t:=t) os ss (k+1) (bif S k then BK o1.dst s1.d env else env) (bif S k then BK o1.dst s1.d env else env) rfl λj o' hj hd'=>by
   have:=hno (j+1) o' (by omega) (by simpa using hj) hd'
   rwa [show k+1+j=k+(j+1) by omega]
  rw [this,J7 _ _ _ _ λ_ _=>rfl];simp only [Iq] at hS;simp [hS,Jy hd]
 | o1::os,s1::ss,k,env,i+1,o,s,h1,h2,hd,hS,hno=>by
  simp only [Dr];exact Uu os ss (k+1) _ i o s (by simpa using h1) (by simpa using h2) hd (by rwa [show k+1+i=k+(i+1) by omega]) λj o' hj hj' hd'=>by
   have:=hno (j+1) o' (by omega) (by simpa using hj') hd'
   rwa [show k+1+j=k+(j+1) by omega]
theorem Wn {S:Nat->Bool} {t:Nat}:∀(ss:List Stp) (k:Nat) (st:St) (i:Nat) (s:Stp),ss[i]?=some s->t∈s.wr.map (·.1)->S (k+i)=true ->
  (∀j s',i<j->ss[j]?=some s'->t∈s'.wr.map (·.1)->S (k+j)=false)->lk (Fs S ss k st) t=lk s.wr t
 | [],k,st,i,s,h,_,_,_=>by simp at h
 | s1::ss,k,st,0,s,h2,hd,hS,hno=>by
  simp at h2;subst h2;simp only [Fs];have:=HB (S:=S) (S':=λ_=>false) (t:=t) ss (k+1) (bif S k then s1.wr++st else st) (bif S k then s1.wr++st else st) rfl λj o' hj hd'=>by
   have:=hno (j+1) o' (by omega) (by simpa using hj) hd'
   rwa [show k+1+j=k+(j+1) by omega]
  rw [this,IG _ _ _ λ_ _=>rfl];simp only [Iq] at hS;simp only [hS,cond_true];exact Gy hd
 | s1::ss,k,st,i+1,s,h2,hd,hS,hno=>by
  simp only [Fs];exact Wn ss (k+1) _ i s (by simpa using h2) hd (by rwa [show k+1+i=k+(i+1) by omega]) λj o' hj hj' hd'=>by
   have:=hno (j+1) o' (by omega) (by simpa using hj') hd'
   rwa [show k+1+j=k+(j+1) by omega]
theorem R2 {S S':Nat->Bool}:∀(ss:List Stp) (k:Nat) (l:List Nat) (i:Nat) (s:Stp),ss[i]?=some s->S (k+i)=false->S' (k+i)=true->(∀j,j≠k+i->S' j=S j) ->
  (FS S ss k l).Perm (s.fr++FS S' ss k l)
 | [],k,l,i,s,h,_,_,_=>by simp at h
 | s1::ss,k,l,0,s,h2,hS,hS',hno=>by
  simp at h2;subst h2;simp only [Iq] at hS hS' hno;simp only [FS,hS,hS',cond_false,cond_true,IO];have:∀(ss:List Stp) (j:Nat),k<j->FS S ss j l=FS S' ss j l:=by
   intro ss
   induction ss with
   | nil=>intro j _;rfl
   | cons s ss ih=>intro j hj;simp only [FS,hno j (by omega),ih (j+1) (by omega)]
  rw [this ss (k+1) (by omega)]
 | s1::ss,k,l,i+1,s,h2,hS,hS',hno=>by
  simp only [FS,hno k (by omega)];have:=R2 (S:=S) (S':=S') ss (k+1) l i s (by simpa using h2) (by rwa [show k+1+i=k+(i+1) by omega]) (by rwa [show k+1+i=k+(i+1) by omega]) (λj hj=>hno j (by omega));exact (List.Perm.append_left _ this).trans (by
   rw [<- CF,<- CF];exact List.Perm.append_right _ List.perm_append_comm)
theorem Yw:∀(os:List Oper) (ss:List Stp) (k:Nat) (env:Env) (st:St),Mq P Pn n all os ss env st->∀(i:Nat) (o:Oper),os[i]?=some o ->
  ∃s,ss[i]?=some s/\LD P Pn all o (Dr (λj=>decide (j<k+i)) os ss k env) (Fs (λj=>decide (j<k+i)) ss k st) s.rd s.fr s.wr s.d/\(∀t,o.dst=some t->t<n)/\(∀c,o.op ≠ .defer c)
 | [],_,_,_,_,_,i,o,h=>by simp at h
 | o1::os,[],_,_,_,h,_,_,_=>by simp [Mq] at h
 | o1::os,s1::ss,k,env,st,h,0,o,ho=>by
  simp at ho;subst ho;obtain ⟨h1,h2,h3,_⟩:=h;refine ⟨s1,rfl,?_,h2,h3⟩;rw [J7 _ _ _ _ (λj hj=>by simp;omega),IG _ _ _ (λj hj=>by simp;omega)];exact h1
 | o1::os,s1::ss,k,env,st,h,i+1,o,ho=>by
  obtain ⟨_,_,_,h4⟩:=h;obtain ⟨s,q1,q2,q3⟩:=Yw os ss (k+1) _ _ h4 i o (by simpa using ho);refine ⟨s,by simpa using q1,?_,q3⟩;have e:k+1+i=k+(i+1):=by omega
  have hk:decide (k<k+(i+1))=true:=by simp
  rw [e] at q2;simp only [Dr,Fs,hk,cond_true];exact q2
theorem Nz:∀(os:List Oper) (ss:List Stp) (env:Env) (st:St),Mq P Pn n all os ss env st->ss.length=os.length
 | [],[],_,_,_=>rfl
 | [],_::_,_,_,h=>by simp [Mq] at h
 | _::_,[],_,_,h=>by simp [Mq] at h
 | _::os,_::ss,_,_,h=>by simp [Nz os ss _ _ h.2.2.2]
theorem Rt {A:Array Oper}:∀{os:List Oper} {fs:List (List Nat×List Nat)} {i:Nat} {o:Oper} {f:List Nat×List Nat},os[i]?=some o->fs[i]?=some f->(X4 A os fs)[i]?=some (Oe A o f)
 | [],_,i,o,f,h,_=>by simp at h
 | _::_,[],i,o,f,_,h=>by simp at h
 | _::_,_::_,0,o,f,h1,h2=>by simp at h1 h2;simp [X4,h1,h2]
 | _::os,_::fs,i+1,o,f,h1,h2=>by
  simp only [X4,ZW];exact Rt (by simpa using h1) (by simpa using h2)
def fX (S:Nat->Bool):Nat->Nat
 | 0=>0
 | m+1=>fX S m+(bif S m then 0 else 1)
theorem Yq {S:Nat->Bool}:∀{m:Nat},fX S m=0->∀j,j<m->S j=true
 | 0,_,j,h=>by omega
 | m+1,h,j,hj=>by
  simp only [fX,Nat.add_eq_zero_iff] at h;rcases qW.1 hj with h' | rfl
  ·exact Yq h.1 j h'
  ·cases hS:S j with
   | true=>rfl
   | false=>simp [hS] at h
theorem Yr {S S':Nat->Bool}:∀{m:Nat},(∀j,j<m->S' j=S j)->fX S' m=fX S m
 | 0,_=>rfl
 | m+1,h=>by
  have:=Yr (S:=S) (S':=S') (m:=m) λj hj=>h j (by omega);simp only [fX,h m (by omega),this]
theorem fU {S S':Nat->Bool} {i:Nat} (h1:S i=false) (h2:S' i=true) (h3:∀j,j≠i->S' j=S j):∀{m:Nat},i<m->fX S' m+1=fX S m
 | 0,h=>by omega
 | m+1,h=>by
  rcases qW.1 h with h' | rfl
  ·have:=fU h1 h2 h3 h';simp only [fX,h3 m (by omega)];omega
  ·have:=Yr (S:=S) (S':=S') (m:=i) λj hj=>h3 j (by omega);simp only [fX,h1,h2,cond_false,cond_true];omega
def I6 (s:Stp):List Nat×List Nat:=(s.rd,s.wr.map (·.1))
def mZ:Nat->Bool:=λ_=>true
def Lw (Q:DQ) (x:V):Prop:=Q (.panic x) [] [] []
def DD (P:Program) (n:Nat) (F:List Nat) (Q:DQ) (all rest:List Oper) (fs:List (List Nat×List Nat)) (k:List DI) (env:Env) (st:St) (ids:List Nat):Prop :=
 ∃ss idsf,ids=FS (λ_=>false) ss 0 idsf/\Mq P (Lw Q) n all rest ss env st/\Ny all (fs++ss.map I6)=true/\DGo P n F Q k (Dr mZ rest ss 0 env) (Fs mZ ss 0 st) idsf
theorem Mw {S S':Nat->Bool}:∀(os:List Oper) (ss:List Stp) (i j:Nat) (env:Env) (st:St) (l:List Nat),(∀m,S (i+m)=S' (j+m))->Dr S os ss i env=Dr S' os ss j env/\Fs S ss i st=Fs S' ss j st/\FS S ss i l=FS S' ss j l
 | os,[],i,j,env,st,l,_=>by cases os <;> exact ⟨rfl,rfl,rfl⟩
 | os,s::ss,i,j,env,st,l,h=>by
  have h0:=h 0;simp only [Iq] at h0;have hs:∀m,S (i+1+m)=S' (j+1+m):=λm=>by
   have:=h (m+1)
   rwa [show i+(m+1)=i+1+m by omega,show j+(m+1)=j+1+m by omega] at this
  cases os with
  | nil =>
   obtain ⟨_,h2,h3⟩:=Mw [] ss (i+1) (j+1) env (bif S' j then s.wr++st else st) l hs;exact ⟨rfl,by simp only [Fs,h0,h2],by simp only [FS,h0,h3]⟩
  | cons o os =>
   obtain ⟨h1,h2,h3⟩:=Mw os ss (i+1) (j+1) (bif S' j then BK o.dst s.d env else env) (bif S' j then s.wr++st else st) l hs;exact ⟨by simp only [Dr,h0,h1],by simp only [Fs,h0,h2],by simp only [FS,h0,h3]⟩
theorem VH {rest:List Oper} {fs:List (List Nat×List Nat)} {rd:List Nat} {wr:St} {d:D} (hl:LD P (Lw Q) all o env st rd fr wr d) (hn:∀t,o.dst=some t->t<n) (hnd:∀c,o.op ≠ .defer c) (h:DD P n F Q all rest (fs++[(rd,wr.map (·.1))]) k (BK o.dst d env) (wr++st) ids'):DD P n F Q all (o::rest) fs k env st (fr++ids'):=by
 obtain ⟨ss,idsf,h1,h2,h3,h4⟩:=h;refine ⟨⟨rd,fr,wr,d⟩::ss,idsf,?_,⟨hl,hn,hnd,h2⟩,?_,?_⟩
 ·simp only [FS,cond_false,h1];rw [(Mw (S:=λ_=>false) (S':=λ_=>false) [] ss 0 1 env st idsf λ_=>rfl).2.2]
 ·simpa [I6] using h3
 ·have:=Mw (S:=mZ) (S':=mZ) rest ss 0 1 (BK o.dst d env) (wr++st) idsf λ_=>rfl;simp only [Dr,Fs,mZ,cond_true] at this ⊢;rw [<- this.1,<- this.2.1];exact h4
theorem zbm {fs:List (List Nat×List Nat)} (hc:Ny all fs=true) (h:DGo P n F Q k env st ids):DD P n F Q all [] fs k env st ids :=
 ⟨[],ids,rfl,trivial,by simpa using hc,h⟩
theorem tJ {id:Nat} (hm:P.follows .mixedOrders=true) (h:DD P n F Q all all [] k env st ids):DGo P n F Q (.code (.region id ⟨all⟩ true)::k) env st ids:=by
 obtain ⟨ss,idsf,hids,hch,hck,hfin⟩:=h;intro b cs I μ a w items hd hc;obtain ⟨is,rfl,hk⟩:=Ja hd;refine Zf λt=>?_;simp only [Region.schedule,hm,Bool.true_or,if_true];simp only [Ny,Ap,IO] at hck;obtain ⟨hck,_⟩:=hck;have hlen:=Nz _ _ _ _ hch;have hsp:=λ(S:Nat->Bool) (hS:HZ all S)=>Nx hS all _ 0 [] [] hck rfl rfl rfl (by simp [Ms]);have hedge:∀j o,all[j]?=some o->∀e∈o.after.toList,LM e=true->e.on<j:=by
  intro j o hj e he hb;have:=(hsp (λ_=>false) (λ_ _ _ h=>by cases h)).1 j o hj e he hb;omega
 have hap:∀(S:Nat->Bool),HZ all S->∀i j oi oj si sj,all[i]?=some oi->all[j]?=some oj->ss[i]?=some si->ss[j]?=some sj->i<j->S i=false->S j=true ->
   ApartOI (Oe all.toArray oi (I6 si)) (Oe all.toArray oj (I6 sj)):=by
  intro S hS i j oi oj si sj h1 h2 h3 h4 hij hSi hSj;have hx:=Rt (A:=all.toArray) h2 (f:=I6 sj) (fs:=ss.map I6) (by simp [h4]);have hy:=Rt (A:=all.toArray) h1 (f:=I6 si) (fs:=ss.map I6) (by simp [h3]);exact ((hsp S hS).2 j _ hx (by simpa using hSj)).2 i _ hij hy (by simpa using hSi)
 suffices H:∀(fuel t:Nat) (listed:Array Bool) (a':Act) (w':World) (I':Imm) (μ':Mu),listed.size=all.length->HZ all (λj=>listed.getD j false)->fX (λj=>listed.getD j false) all.length<=fuel ->
   Conc n I' μ' (Dr (λj=>listed.getD j false) all ss 0 env) (Fs (λj=>listed.getD j false) ss 0 st) (FS (λj=>listed.getD j false) ss 0 idsf) a' w'->Pin F μ μ'->a'.defers=a.defers ->
   Ext I μ st w I' μ' (Fs (λj=>listed.getD j false) ss 0 st) w' ->
   Reach P b.1 cs (Post n F Q a.defers I μ st w) (.inRegion all.toArray (Region.linearise.go .any all.toArray fuel t listed [])::is) a' w' by
  have hf:(λj=>(Array.replicate all.length false).getD j false)=λ_=>false:=by
   funext j;by_cases hj:j<all.length <;> simp [hj]
  refine H all.length t (Array.replicate all.length false) a { w with drawn:=w.drawn+1 } I μ (by simp) ?_ ?_ ?_ (.refl _ _) rfl ?_
  ·rw [hf];intro j o _ h;cases h
  ·rw [hf];have:∀m,fX (λ_=>false) m<=m:=λm=>by induction m with
    | zero=>simp [fX]
    | succ m ih=>simp only [fX,cond_false];omega
   exact this _
  ·rw [hf,J7 _ _ _ _ λ_ _=>rfl,IG _ _ _ λ_ _=>rfl,<- hids];exact hc.drew
  ·rw [hf,IG _ _ _ λ_ _=>rfl];exact .drew I μ st w
 have hdone:∀(S:Nat->Bool) (a':Act) (w':World) (I':Imm) (μ':Mu),(∀j,j<all.length->S j=true)->Conc n I' μ' (Dr S all ss 0 env) (Fs S ss 0 st) (FS S ss 0 idsf) a' w'->Pin F μ μ'->a'.defers=a.defers ->
   Ext I μ st w I' μ' (Fs S ss 0 st) w'->Reach P b.1 cs (Post n F Q a.defers I μ st w) (.inRegion all.toArray []::is) a' w':=by
  intro S a' w' I' μ' hall hC hp hdf hE;have he:∀t,lk (Dr S all ss 0 env) t=lk (Dr mZ all ss 0 env) t:=λt=>GL _ _ _ _ _ rfl λj o hj _=>by
   have:=hall j (AL.1 hj).1;simpa [mZ] using this
  have hs:∀t,lk (Fs S ss 0 st) t=lk (Fs mZ ss 0 st) t:=λt=>HB _ _ _ _ rfl λj s hj _=>by
   have:=hall j (by rw [<- hlen];exact (AL.1 hj).1);simpa [mZ] using this
  have hi:∀(ss:List Stp) (k:Nat),(∀j,j<k+ss.length->S j=true)->FS S ss k idsf=idsf:=by
   intro ss
   induction ss with
   | nil=>intro k _;rfl
   | cons s ss ih =>
    intro k hk;simp only [FS,hk k (by simp),cond_true,IO];exact ih (k+1) λj hj=>hk j (by simp at hj ⊢;omega)
  rw [hi ss 0 (λj hj=>hall j (by omega))] at hC;refine GV ?_;have hC':Conc n I' μ' (Dr mZ all ss 0 env) (Fs mZ ss 0 st) idsf a' w':={ hC.toStRep.congr hs with size:=hC.size,env:=λt d hl=>hC.env t d (by rw [he];exact hl),defers:=hC.defers.congr hs }
  have:=hfin b cs I' μ' a' w' is hk hC';rw [hdf] at this;exact this.mono λe a2 w2 hq=>hq.back hp (hE.congr (λ_=>rfl) hs)
 intro fuel
 induction fuel with
 | zero =>
  intro t listed a' w' I' μ' hsz hdc hcnt hC hp hdf hE;simp only [Region.linearise.go,List.reverse_nil];exact hdone _ a' w' I' μ' (λj hj=>Yq (Nat.le_zero.1 hcnt) j hj) hC hp hdf hE
 | succ fuel ih =>
  intro t listed a' w' I' μ' hsz hdc hcnt hC hp hdf hE;simp only [Region.linearise.go];change Reach P b.1 cs (Post n F Q a.defers I μ st w) (.inRegion all.toArray (match (Region.ready .any all.toArray listed)[t % (Region.ready .any all.toArray listed).length]? with
   | some i=>Region.linearise.go .any all.toArray fuel (t / (Region.ready .any all.toArray listed).length) (listed.setIfInBounds i true) [i]
   | none=>[].reverse)::is) a' w'
  have hgd:∀j,j<all.length->listed.getD j true=listed.getD j false:=λj hj=>by simp [hsz,hj]
  cases hi:(Region.ready .any all.toArray listed)[t % (Region.ready .any all.toArray listed).length]? with
  | none =>
   have hnil:Region.ready .any all.toArray listed=[]:=by
    cases hr:Region.ready .any all.toArray listed with
    | nil=>rfl
    | cons x xs =>
     rw [hr] at hi;have hlt:t % (x::xs).length<(x::xs).length:=Vq _ (by simp);simp at hi;simp at hlt;omega
   have hall:∀m j,j<m->j<all.length->listed.getD j false=true:=by
    intro m
    induction m with
    | zero=>intro j hj;omega
    | succ m ihm =>
     intro j hj hja;cases hS:listed.getD j false with
     | true=>rfl
     | false =>
      have hmem:j∈Region.ready .any all.toArray listed:=by
       refine mem_ready.2 ⟨by rw [hgd j hja,hS],all[j],by simp [hja],λe he hb=>?_⟩;have hlt:=hedge j all[j] (by simp [hja]) e (by simpa using he) (by rw [Uw];exact hb);exact ihm e.on (by omega) (by omega)
      rw [hnil] at hmem;cases hmem
   exact hdone _ a' w' I' μ' (λj hj=>hall (j+1) j (by omega) hj) hC hp hdf hE
  | some i =>
   simp only [];rw [linearise_go_acc,List.reverse_singleton,qV];have hmem:=AF hi;obtain ⟨hun,o,ho,hbef⟩:=mem_ready.1 hmem;have hil:i<all.length:=by
    have:=(GY.1 ho).1;simpa using this
   have hSi:listed.getD i false=false:=by rw [<- hgd i hil];exact hun
   have ho':all[i]?=some o:=by simpa using ho
   obtain ⟨s,hs,hLD,hn,hnd⟩:=Yw all ss 0 env st hch i o ho';simp only [Dh] at hLD;have hS':∀j,(listed.setIfInBounds i true).getD j false=(bif Nat.beq j i then true else listed.getD j false):=by
    intro j;by_cases hj:j=i
    ·subst hj;simp [hsz,hil]
    ·have:Nat.beq j i=false:=by
      cases hb:Nat.beq j i with
      | false=>rfl
      | true=>exact absurd (CD hb) hj
     simp [this,Gj (Ne.symm hj)]
   have hS'i:(listed.setIfInBounds i true).getD i false=true:=by rw [hS'];simp
   have hS'n:∀j,j≠i->(listed.setIfInBounds i true).getD j false=listed.getD j false:=by
    intro j hj;rw [hS'];have:Nat.beq j i=false:=by
     cases hb:Nat.beq j i with
     | false=>rfl
     | true=>exact absurd (CD hb) hj
    simp [this]
   have hdc':HZ all (λj=>(listed.setIfInBounds i true).getD j false):=by
    intro j oj hj hSj e he hb;by_cases hji:j=i
    ·subst hji;rw [ho'] at hj;cases hj;have:=hbef e (by simpa using he) (by rw [<- Uw];exact hb);by_cases hei:e.on=j
     ·rw [hei];exact hS'i
     ·exact (hS'n _ hei).trans this
    ·have hSj':listed.getD j false=true:=by have:=hS'n j hji;simp only at hSj;rw [this] at hSj;exact hSj
     have:=hdc j oj hj hSj' e he hb;by_cases hei:e.on=i
     ·rw [hei];exact hS'i
     ·exact (hS'n _ hei).trans this
   have hA:∀j oj sj,all[j]?=some oj->ss[j]?=some sj->j≠i->listed.getD j false≠decide (j<i)->ApartOI (Oe all.toArray o (I6 s)) (Oe all.toArray oj (I6 sj)):=by
    intro j oj sj h1 h2 hji hne;by_cases hlt:j<i
    ·have hf:listed.getD j false=false:=by
      cases h:listed.getD j false with
      | false=>rfl
      | true=>exact absurd (by rw [h];simp [hlt]) hne
     exact (hap _ hdc' j i oj o sj s h1 ho' h2 hs hlt ((hS'n j hji).trans hf) hS'i).symm
    ·have hf:listed.getD j false=true:=by
      cases h:listed.getD j false with
      | true=>rfl
      | false=>exact absurd (by rw [h];simp [hlt]) hne
     exact hap _ hdc i j o oj s sj ho' h1 hs h2 (by omega) hSi hf
   have hss:∀j oj,all[j]?=some oj->∃sj,ss[j]?=some sj:=λj oj h=>by
    have:j<ss.length:=by rw [hlen];exact (AL.1 h).1
    exact ⟨_,Br this⟩
   have hoo:∀j sj,ss[j]?=some sj->∃oj,all[j]?=some oj:=λj oj h=>by
    have:j<all.length:=by rw [<- hlen];exact (AL.1 h).1
    exact ⟨_,Br this⟩
   have hag:Agree s.rd (Fs (λj=>decide (j<i)) ss 0 st) (Fs (λj=>listed.getD j false) ss 0 st):=by
    intro id hid;refine HB _ _ _ _ rfl λj sj hj hw=>?_;rw [Dh];by_cases hji:j=i
    ·subst hji;rw [hSi];simp
    ·obtain ⟨oj,hoj⟩:=hoo j sj hj;cases hq:decide (listed.getD j false=decide (j<i)) with
     | true=>exact of_decide_eq_true hq
     | false=>exact absurd hid ((hA j oj sj hoj hj hji (of_decide_eq_false hq)).e id hw)
   have hel:∀t∈o.looksAt all.toArray,lk (Dr (λj=>listed.getD j false) all ss 0 env) t=lk (Dr (λj=>decide (j<i)) all ss 0 env) t:=by
    intro t ht;refine GL _ _ _ _ _ rfl λj oj hj hd=>?_;rw [Dh];by_cases hji:j=i
    ·subst hji;rw [hSi];simp
    ·obtain ⟨sj,hsj⟩:=hss j oj hj;cases hq:decide (listed.getD j false=decide (j<i)) with
     | true=>exact of_decide_eq_true hq
     | false=>exact absurd ht ((hA j oj sj hj hsj hji (of_decide_eq_false hq)).b t hd)
   have hperm:=R2 (S:=λj=>listed.getD j false) (S':=λj=>(listed.setIfInBounds i true).getD j false) ss 0 idsf i s hs (by simpa using hSi) (by simpa using hS'i) (λj hj=>hS'n j (by omega));have hEnv:∀t,lk (BK o.dst s.d (Dr (λj=>listed.getD j false) all ss 0 env)) t=lk (Dr (λj=>(listed.setIfInBounds i true).getD j false) all ss 0 env) t:=by
    intro t;by_cases hd:o.dst=some t
    ·rw [Jy hd];refine (Uu all ss 0 env i o s ho' hs hd (by simpa using hS'i) λj o' hij hj hd'=>?_).symm;obtain ⟨sj,hsj⟩:=hss j o' hj;simp only [Dh];rw [hS'n j (by omega)];cases hq:listed.getD j false with
     | false=>rfl
     | true=>exact absurd hd' ((hA j o' sj hj hsj (by omega) (by rw [hq];simp;omega)).c t hd)
    ·rw [Rf hd];refine GL _ _ _ _ _ rfl λj oj hj hd'=>?_;simp only [Dh];have hji:j≠i:=λe=>by subst e;rw [ho'] at hj;cases hj;exact hd hd'
     rw [hS'n j hji]
   have hSt:∀t,lk (s.wr++Fs (λj=>listed.getD j false) ss 0 st) t=lk (Fs (λj=>(listed.setIfInBounds i true).getD j false) ss 0 st) t:=by
    intro t;by_cases hd:t∈s.wr.map (·.1)
    ·rw [Gy hd];refine (Wn ss 0 st i s hs hd (by simpa using hS'i) λj s' hij hj hd'=>?_).symm;obtain ⟨oj,hoj⟩:=hoo j s' hj;simp only [Dh];rw [hS'n j (by omega)];cases hq:listed.getD j false with
     | false=>rfl
     | true=>exact absurd hd' ((hA j oj s' hoj hj (by omega) (by rw [hq];simp;omega)).f t hd)
    ·rw [KX hd];refine HB _ _ _ _ rfl λj sj hj hd'=>?_;simp only [Dh];have hji:j≠i:=λe=>by subst e;rw [hs] at hj;cases hj;exact hd hd'
     rw [hS'n j hji]
   obtain ⟨hl1,hl2⟩:=hLD I' μ' _ _ a' w' hag (hC.toStRep.perm hperm) (λt ht d hl=>hC.env t d (by rw [hel t ht];exact hl));have cont:∀v w2 I2 μ2,StRep I2 μ2 (s.wr++Fs (λj=>listed.getD j false) ss 0 st) (FS (λj=>(listed.setIfInBounds i true).getD j false) ss 0 idsf) w2->RepD I2 μ2 v s.d->μ'.le μ2 ->
     Ext I' μ' (Fs (λj=>listed.getD j false) ss 0 st) w' I2 μ2 (s.wr++Fs (λj=>listed.getD j false) ss 0 st) w2 ->
     Reach P b.1 cs (Post n F Q a.defers I μ st w) (.inRegion all.toArray (Region.linearise.go .any all.toArray fuel (t / (Region.ready .any all.toArray listed).length) (listed.setIfInBounds i true) [])::is) (a'.put o.dst v) w2:=by
    intro v w2 I2 μ2 q1 q2 q3 q4;obtain ⟨p1,p2,p3⟩:=Ij (n:=n) (w:=w2) (dst:=o.dst) (λt d hl=>(hC.env t d hl).mono q4.imm q3) hC.size hn q2;refine ih _ (listed.setIfInBounds i true) _ w2 I2 μ2 (by simp [hsz]) hdc' ?_ ?_ (hp.trans (.of_le q3)) (p3.trans hdf) (hE.trans (q4.congr (λ_=>rfl) hSt))
    ·have:=fU (S:=λj=>listed.getD j false) (S':=λj=>(listed.setIfInBounds i true).getD j false) hSi hS'i hS'n hil;omega
    ·refine { q1.congr hSt with size:=p2,env:=λt d hl=>?_,defers:=by rw [p3];exact (hC.defers.ext q4).congr hSt };rw [<- hEnv t] at hl;have:BK o.dst s.d (Dr (λj=>listed.getD j false) all ss 0 env)=(match o.dst with | some t=>(t,s.d)::Dr (λj=>listed.getD j false) all ss 0 env | none=>Dr (λj=>listed.getD j false) all ss 0 env):=by
      cases o.dst <;> rfl
     rw [this] at hl;exact p1 t d hl
   by_cases hw:Region.wanted o (yielded all.toArray a'.tmps)=true
   ·refine FN ho hw hnd (valX.upon ((hl1 hw).mono (λv w2 ⟨I2,μ2,q1,q2,q3,q4⟩=>cont v w2 I2 μ2 q1 q2 q3 q4) λchain w2 hx=>?_));obtain ⟨v,x,I2,q1,q2,q3,q4,q5⟩:=hx;refine ⟨.panic x,[],[],[],I2,μ',⟨v,q1,q3⟩,q2,?_,hp,hE.trans q5,by rw [hdf];exact .refl _ _⟩;exact KG q4 hC.size (hC.defers.ext q5)
   ·have hw':Region.wanted o (yielded all.toArray a'.tmps)=false:=by simpa using hw
    obtain ⟨e1,e2,e3⟩:=hl2 hw';refine Jo ho hw'<|cont undef w' I' μ' ?_ e3 (Mu.le_refl μ') ?_
    ·rw [e1];have:=hC.toStRep.perm hperm;rw [e2] at this;exact this
    ·rw [e1];exact Ext.refl _ _ _ _
theorem zc4 {all rest:List Oper} {d:D} {rd:List Nat} {wr:St} (hl:LD P (Lw Q) all o env st rd fr wr d) (hn:∀t,o.dst=some t->t<n) (hnd:∀c,o.op ≠ .defer c) (h:DGo P n F Q (.ops all rest::k) (BK o.dst d env) (wr++st) ids'):DGo P n F Q (.ops all (o::rest)::k) env st (fr++ids'):=by
 intro b cs I μ a w items hd hc;obtain ⟨j,is,rfl,hr,hk⟩:=Iw hd;obtain ⟨hj,hr'⟩:=DW hr;have hon:JN (o.looksAt all.toArray) I μ env a:=λt _ d hl=>hc.env t d hl;obtain ⟨hl1,hl2⟩:=hl I μ st ids' a w (λ_ _=>rfl) hc.toStRep hon;have cont:∀v w' I' μ',StRep I' μ' (wr++st) ids' w'->RepD I' μ' v d->μ.le μ'->Ext I μ st w I' μ' (wr++st) w'->Reach P b.1 cs (Post n F Q a.defers I μ st w) (.inRegion all.toArray (List.range' (j+1) rest.length)::is) (a.put o.dst v) w':=by
  intro v w' I' μ' q1 q2 q4 q3;obtain ⟨p1,p2,p3⟩:=Ij (n:=n) (w:=w') (dst:=o.dst) (λt d hl=>(hc.env t d hl).mono q3.imm q4) hc.size hn q2;have:=h b cs I' μ' (a.put o.dst v) w' (.inRegion all.toArray (List.range' (j+1) rest.length)::is) ⟨⟨rfl,j+1,hr',rfl⟩,hk⟩
   {q1 with size:=p2,env:=by cases hdst:o.dst <;> simpa [BK,hdst] using p1,defers:=by rw [p3];exact hc.defers.ext q3 }
  rw [p3] at this;exact this.mono λe a' w'' hp=>hp.back (.of_le q4) q3
 have hlen:(o::rest).length=rest.length+1:=rfl;rw [hlen,OX];by_cases hw:Region.wanted o (yielded all.toArray a.tmps)=true
 ·refine FN hj hw hnd (valX.upon ((hl1 hw).mono (λv w2 ⟨I2,μ2,q1,q2,q3,q4⟩=>cont v w2 I2 μ2 q1 q2 q3 q4) λchain w2 hx=>?_));obtain ⟨v,x,I2,q1,q2,q3,q4,q5⟩:=hx;refine ⟨.panic x,[],[],[],I2,μ,⟨v,q1,q3⟩,q2,?_,.refl _ _,q5,.refl _ _⟩;exact KG q4 hc.size (hc.defers.ext q5)
 ·have hw':Region.wanted o (yielded all.toArray a.tmps)=false:=by simpa using hw
  obtain ⟨e1,e2,e3⟩:=hl2 hw';refine Jo hj hw'<|cont undef w I μ ?_ e3 (Mu.le_refl μ) ?_
  ·rw [e1];have:=hc.toStRep;rw [e2] at this;exact this
  ·rw [e1];exact Ext.refl _ _ _ _
end
end Go.Hk
