/- What is owned, laid anew under other names: blocks by address joined, split, opened, frozen. (And what it stands on.) -/
import Derived.Test.YtcdpbkolkeeopaaGreatWb
import Derived.Test.YtcdpbkolkeeopaaGreatProg
import Derived.WalkKit
import Derived.RowKit3
import Derived.Laws.NewBlocks
import Derived.Defers
import Derived.Recover
set_option linter.defProp false
set_option linter.unnecessarySimpa false
set_option linter.unusedSimpArgs false
set_option linter.unusedVariables false

set_option maxRecDepth 100000
set_option maxHeartbeats 4000000
namespace Go.Hk
open Go.MapKept
def fQ:V->V->Bool
 | .str a,.str b=>a == b
 | .int _ a,.int _ b=>a == b
 | .bool a,.bool b=>a == b
 | _,_=>false
def Ga:List (V×V)->V->Option V
 | [],_=>none
 | (k,d)::r,x=>if fQ x k then some d else Ga r x
def Fi:List (V×V)->V->V->List (V×V)
 | [],x,d=>[(x,d)]
 | (k,e)::r,x,d=>if fQ x k then (x,d)::r else (k,e)::Fi r x d
def II:Sh->Option TypeDesc
 | .str=>some .string
 | .int k=>some (.int k)
 | _=>none
def GA:Sh->V->Bool
 | .str,.str _=>true
 | .int k,.int k' _=>decide (k'=k)
 | _,_=>false
section
variable {P:Program} {n:Nat} {F:List Nat} {Q:DQ} {tt:TT} {env env':Env} {st st':St} {ids ids':List Nat} {k todo todo':List DI} {I:Imm} {μ:Mu} {w:World} {a:Act} {Pn:V->Prop} {d:D} {cx:Prop} {ob:List Prop}
theorem Kf {t:TypeId} {sh:Sh} {dd:TypeDesc} (h:II sh=some dd) (hs:QV P t sh):P.underlying t=some dd:=by
 cases sh <;> simp only [II,reduceCtorEq,BT] at h <;> subst h <;> exact hs
theorem GM {sh:Sh} {dd:TypeDesc} {v:Value} {x:V} (h:II sh=some dd) (hk:GA sh x=true) (hv:RepV I v x):IsKey dd v:=by
 cases sh <;> simp only [II,reduceCtorEq,BT] at h <;> subst h <;> cases x <;> simp [GA] at hk <;> cases hv <;> simp [IsKey,hk]
theorem qQ {sh:Sh} {v u:Value} {x y:V} (hx:GA sh x=true) (hy:GA sh y=true) (hv:RepV I v x) (hu:RepV I u y):fQ x y=true↔v=u:=by
 cases x with
 | str a =>
  cases y with
  | str b =>
   obtain ⟨s,rfl,rfl⟩:=hv.strInv;obtain ⟨t,rfl,rfl⟩:=hu.strInv;simp only [fQ,beq_iff_eq,Value.string.injEq];constructor
   ·intro h;obtain ⟨⟨s⟩⟩:=s;obtain ⟨⟨t⟩⟩:=t;simp at h;rw [h]
   ·intro h;rw [h]
  | _=>cases sh <;> simp [GA] at hx hy
 | int k i =>
  cases y with
  | int k' j =>
   obtain rfl:=hv.intInv;obtain rfl:=hu.intInv;cases sh <;> simp [GA] at hx hy;subst hx;subst hy;simp [fQ]
  | _=>cases sh <;> simp [GA] at hx hy
 | _=>cases sh <;> simp [GA] at hx
theorem J7 {sh:Sh} {dd:TypeDesc} {v:Value} {x:V} (hd:II sh=some dd) (hk:GA sh x=true) (hv:RepV I v x):∀(l:List MapEntry) (kv:List (V×V)) (i:Nat),l.length=kv.length ->
  (∀(j:Nat) (e:MapEntry) (p:V×V),l[j]?=some e->kv[j]?=some p->RepV I e.key p.1/\RepV I e.val p.2)->(∀p∈kv,GA sh p.1=true) ->
  (Instr.findNow dd v l i=some none/\Ga kv x=none/\(∀y,Fi kv x y=kv++[(x,y)])/\∀e∈l,e.key≠v) \/
   ∃j e y,Instr.findNow dd v l i=some (some (i+j,e.val))/\l[j]?=some e/\e.key=v/\Ga kv x=some y/\RepV I e.val y/\∀z,Fi kv x z=kv.set j (x,z)
 | [],[],i,_,_,_=>.inl ⟨rfl,rfl,λ_=>rfl,λ_ h=>by cases h⟩
 | [],_::_,_,h,_,_=>by simp at h
 | _::_,[],_,h,_,_=>by simp at h
 | e::l,p::kv,i,hl,h,hkv=>by
  obtain ⟨h1,h2⟩:=h 0 e p rfl rfl;obtain ⟨y,dy⟩:=p;have hky:=hkv (y,dy) (by simp);obtain ⟨r,hr,hiff⟩:=sameNow_of_keys (GM hd hk hv) (GM hd hky h1);have he:=qQ hk hky hv h1;cases r with
  | true =>
   have hvy:=hiff.1 rfl;have:=he.2 hvy;exact .inr ⟨0,e,dy,by simp [Instr.findNow,hr],rfl,hvy.symm,by simp [Ga,this],h2,λz=>by simp [Fi,this]⟩
  | false =>
   have hne:v≠e.key:=λq=>by have:=hiff.2 q;cases this
   have hf:fQ x y=false:=by
    cases hq:fQ x y with
    | false=>rfl
    | true=>exact absurd (he.1 hq) hne
   rcases J7 hd hk hv l kv (i+1) (by simpa using hl) (λj e' p' a b=>h (j+1) e' p' (by simpa using a) (by simpa using b)) (λp' hp=>hkv p' (by simp [hp])) with ⟨q1,q2,q3,q4⟩ | ⟨j,e',y',q1,q2,q3,q4,q5,q6⟩
   ·refine .inl ⟨by simp [Instr.findNow,hr,q1],by simp [Ga,hf,q2],λz=>by simp [Fi,hf,q3],λe' he'=>?_⟩;rcases CC.1 he' with rfl | he'
    ·exact λq=>hne q.symm
    ·exact q4 e' he'
   ·exact .inr ⟨j+1,e',y',by simp [Instr.findNow,hr,q1];omega,by simpa using q2,q3,by simp [Ga,hf,q4],q5,λz=>by simp [Fi,hf,q6]⟩
def pmk (n:Nat) (ids:List Nat) (todo:List DI):Option (Nat×List Nat×Option Nat×List DI) :=
 match Ov todo,ids with
 | some o,id'::ids'=>match o.guard,o.op with
  | none,.makeMap _ none=>match BB n o.dst,Bh todo ([],[id']) with
   | true,some (_,_,todo')=>some (id',ids',o.dst,todo')
   | _,_=>none
  | _,_=>none
 | _,_=>none
theorem Ei {i0:Nat} {ids0:List Nat} {d0:Option Nat} {todo0:List DI} (h:pmk n ids todo=some (i0,ids0,d0,todo0)) (hk:G P n F Q todo0 (BD d0 (.mapr i0) env) ((i0,some (.map []))::st) ids0):G P n F Q todo env st ids:=by
 unfold pmk at h
 split at h
 ·rename_i o id' ids' ho
  split at h
  ·rename_i t hg hop
   split at h
   ·rename_i all o' todo' hd h1;cases h;have ho':o'=o:=Dc ho h1;subst ho';refine B9 (fr:=[i0]) (wr:=[(i0,some (.map []))]) (rd:=[]) h1 ?_ hd (λc hc=>by rw [hop] at hc;cases hc) hk;intro I μ st1 ids1 a w hag hst hon;refine ⟨λ_=>?_,λhw=>by rw [AG hg] at hw;cases hw⟩;have hrun:(execOp a.eval o').run P w = .ok (.value (.map (some w.heap.size))) (w.alloc (.map #[] 0)):=by
     simp only [execOp,hop,TN];refine DE ?_;simp only [Instr.makeMap,Sem.run_bind,Result.andThen_ok,Sem.run_pure,run_newObj];rfl
    rw [hrun];obtain ⟨μ',q1,q2,q3,q4⟩:=hst.allocO (.map #[] 0) (.map (some w.heap.size)) (λ_ h=>Eq.symm h) (.map []) (λμ' _=>⟨w.heap.size,#[],0,rfl,Eh w _,rfl,stamped_empty 0,λi e p h=>by simp at h⟩);exact ⟨I,μ',q3,.mapr _ _ q1,q2,q4⟩
   ·cases h
  ·cases h
 ·cases h
theorem ZM {id:Nat} {kv:List (V×V)} {v:Value} (hst:StRep I μ st ids w) (hl:Az st id (.map kv)) (hv:RepD I μ v (.mapr id)) :
  ∃b es clock,v = .map (some b)/\μ id=some v/\w.heap[b]?=some (.map es clock)/\es.size=kv.length/\Stamped es clock/\∀(i:Nat) (e:MapEntry) (p:V×V),es[i]?=some e->kv[i]?=some p->RepV I e.key p.1/\RepV I e.val p.2:=by
 cases hv with
 | mapr _ b hm =>
  obtain ⟨g,hg,b',es,clock,rfl,h1,h2,h3,h4⟩:=hst.blk id _ hl;rw [hm] at hg;cases hg;exact ⟨b,es,clock,rfl,hm,h1,h2,h3,h4⟩
def gV:Op->Option (TypeId×Operand×Operand×Operand)
 | .mapUpdate t m x y=>some (t,m,x,y)
 | .insert t m x y=>some (t,m,x,y)
 | _=>none
theorem RQ {op:Op} {t:TypeId} {m x y:Operand} (h:gV op=some (t,m,x,y)):(op = .mapUpdate t m x y\/op = .insert t m x y)/\∀z∈[m,x,y],z∈op.operands.toList:=by
 unfold gV at h
 split at h
 ·cases h;exact ⟨.inl rfl,by simp [Op.operands]⟩
 ·cases h;exact ⟨.inr rfl,by simp [Op.operands]⟩
 ·cases h
def rX (tt:TT) (env:Env) (st:St) (todo:List DI):Option (Nat×List (V×V)×Sh×V×V×List DI) :=
 match Ov todo with
 | some o=>match o.guard,gV o.op with
  | none,some (t,m,x,y)=>match o.dst,lk tt t,DT env m,DT env x,DT env y with
   | none,some { sh:=.map kt _,.. },some (.mapr id),some (.imm kx),some dy=>match lk tt kt,lk st id,Bh todo ([id],[id]),oN dy with
    | some i,some (some (.map kv)),some (_,_,todo'),some vy=>some (id,kv,i.sh,kx,vy,todo')
    | _,_,_,_=>none
   | _,_,_,_,_=>none
  | _,_=>none
 | none=>none
theorem EW (htt:TTok P tt) {i0:Nat} {kv:List (V×V)} {sh:Sh} {kx:V} {dy:V} {todo0:List DI} {dd:TypeDesc} (h:rX tt env st todo=some (i0,kv,sh,kx,dy,todo0)) (hd:II sh=some dd) (hk:GA sh kx=true)
  (hkv:∀p∈kv,GA sh p.1=true) (hg:G P n F Q todo0 env ((i0,some (.map (Fi kv kx dy)))::st) ids):G P n F Q todo env st ids:=by
 unfold rX at h
 split at h
 ·rename_i o ho
  split at h
  ·rename_i t m x y hgd hop
   split at h
   ·rename_i kt et _ _ _ _ id kx' dy' hdst ht hm hx hy
    split at h
    ·rename_i i kv' all o' todo' vy hi hl h1 hng;cases h;have ho':o'=o:=Dc ho h1;subst ho';have hg:G P n F Q todo0 (BD o'.dst .undef env) ((i0,some (.map (Fi kv kx dy)))::st) ids:=by rw [hdst];exact hg
     refine B9 (fr:=[]) (wr:=[(i0,some (.map (Fi kv kx dy)))]) (rd:=[i0]) h1 ?_ (by simp [BB,hdst]) (λc hc=>by rcases (RQ hop).1 with e | e <;> rw [e] at hc <;> cases hc) hg;intro I μ st1 ids1 a w hag hst hon;refine ⟨λ_=>?_,λhw=>by rw [AG hgd] at hw;cases hw⟩;have hops:=Bd hon;obtain ⟨hop2,hop3⟩:=RQ hop;have hl1:Az st1 i0 (.map kv):=by unfold Az;rw [hag i0 (by simp)];exact hl
     obtain ⟨b,es,clock,e1,hmu,hheap,hlen,hst2,hent⟩:=ZM hst hl1 (hops m (hop3 m (by simp)) _ hm);have rx:=(hops x (hop3 x (by simp)) _ hx).immInv;have ry:=OC hng (hops y (hop3 y (by simp)) _ hy);have hu:P.underlying t=some (.map kt et):=htt.sh ht;have hkd:P.underlying kt=some dd:=Kf hd (htt.sh hi);have hik:=GM hd hk rx;have hbl:=BN hheap;have fin:∀(es':Array MapEntry) (c':Nat),(Instr.mapUpdate t (.map (some b)) (a.eval x) (a.eval y)).run P w = .ok () { w with heap:=w.heap.setIfInBounds b (.map es' c') }->es'.size=(Fi kv kx dy).length->Stamped es' c' ->
       (∀(i:Nat) (e:MapEntry) (p:V×V),es'[i]?=some e->(Fi kv kx dy)[i]?=some p->RepV I e.key p.1/\RepV I e.val p.2) ->
       valX P ((execOp a.eval o').run P w) (λv w'=>∃I' μ',StRep I' μ' ([(i0,some (.map (Fi kv kx dy)))]++st1) ids1 w'/\RepD I' μ' v .undef/\μ.le μ'/\Ext I μ st1 w I' μ' ([(i0,some (.map (Fi kv kx dy)))]++st1) w') (Ko (Kn Q) I μ st1 w):=by
      intro es' c' hr h2 h3 h4;have hrun:(execOp a.eval o').run P w = .ok .skip { w with heap:=w.heap.setIfInBounds b (.map es' c') }:=by
       rcases hop2 with e | e <;> (simp only [execOp,e,e1];simp [hr])
      rw [hrun];obtain ⟨q1,q2⟩:=hst.update (blk':=.map (Fi kv kx dy)) (w':={ w with heap:=w.heap.setIfInBounds b (.map es' c') }) hl1 hmu (by rw [e1];rfl) (by simp) rfl rfl rfl
       (λk hk=>F8 (Ne.symm hk)) ⟨b,es',c',e1,by simp [hbl],h2,h3,h4⟩
      exact ⟨I,μ,q1,.undef _,Mu.le_refl μ,q2⟩
     rcases J7 (I:=I) hd hk rx es.toList kv 0 (by simpa using hlen) (λj e p h1 h2=>hent j e p (by simpa using h1) h2) hkv with ⟨q1,_,q3,q4⟩ | ⟨j,e,y',q1,q2,q3,_,q5,q6⟩
     ·refine fin _ _ ?_ (by rw [q3];simp [hlen]) (stamped_push hst2 (key:=a.eval x) (val:=a.eval y) q4) λi e p h1 h2=>?_
      ·simp [Instr.mapUpdate,run_underlying hu,MapKept.run_getObj_map hheap,MapKept.run_checkKey hkd hik,MapKept.run_findKey hkd q1,MapKept.run_setObj_map _ hheap,Result.andThen]
      ·rw [q3] at h2;rw [PS] at h1;rw [Le] at h2;by_cases hi:i=es.size
       ·rw [if_pos hi] at h1;cases h1;rw [if_neg (by omega)] at h2;rw [show i-kv.length=0 by omega] at h2;cases h2;exact ⟨rx,ry⟩
       ·rw [if_neg hi] at h1;have:=(Gu.1 h1).1;rw [if_pos (by omega)] at h2;exact hent i e p h1 h2
     ·have hj:es[j]?=some e:=by simpa using q2
      have hkey:∀e',es[j]?=some e'->({ e' with key:=a.eval x,val:=a.eval y }:MapEntry).key=e'.key:=λe' he'=>by rw [hj] at he';cases he';exact q3.symm
      refine fin (es.modify j λe=>{ e with key:=a.eval x,val:=a.eval y }) clock ?_ (by rw [q6];simp [hlen]) (stamped_modify hst2 _ _ (λ_ _=>rfl) (λe' _ he'=>hkey e' he')) λi e' p h1 h2=>?_
      ·simp [Instr.mapUpdate,run_underlying hu,MapKept.run_getObj_map hheap,MapKept.run_checkKey hkd hik,MapKept.run_findKey hkd q1,hj,q3,MapKept.run_keyThatStays hik,MapKept.run_setObj_map _ hheap,Result.andThen]
      ·rw [q6] at h2;rw [TM] at h1;rw [TK] at h2;by_cases hi:j=i
       ·subst hi;rw [if_pos rfl,hj] at h1;cases h1;rw [if_pos rfl] at h2
        split at h2
        ·cases h2;exact ⟨rx,ry⟩
        ·cases h2
       ·rw [if_neg hi] at h1 h2;exact hent i e' p h1 h2
    ·cases h
   ·cases h
  ·cases h
 ·cases h
structure PMl where
 kv:List (V×V)
 sh:Sh
 kx:V
 et:TypeId
 two:Bool
 g:Option (Bool×Bool)
 ob:List Prop
 t:Nat
 todo:List DI
def iN (tt:TT) (n:Nat) (env:Env) (st:St) (nm:Nat) (todo:List DI):Option PMl :=
 match Bh todo ([nm],[]) with
 | some (all,o,todo')=>match o.op,Ca all env o with
  | .lookup t m k two,some g=>match lk tt t,Lq (Am g) env m,Lq (Am g) env k with
   | some { sh:=.map kt et,.. },some (.mapr id,o1),some (.imm kx,o2)=>match Nat.beq id nm,lk tt kt,lk st id,BB n o.dst with
    | true,some i,some (some (.map kv)),true=>match o.dst with
     | some t=>some ⟨kv,i.sh,kx,et,two,g,Is o1 o2,t,todo'⟩
     | none=>none
    | _,_,_,_=>none
   | _,_,_=>none
  | _,_=>none
 | none=>none
theorem FH {t:TypeId} {z:Value} (h:(P.info? t).bind (·.zero)=some z):(zeroValue t).run P w = .ok z w:=by
 cases hi:P.info? t with
 | none=>rw [hi] at h;cases h
 | some inf =>
  rw [hi] at h;have h:inf.zero=some z:=h;simp [zeroValue,typeInfo,hi,h]
def Fr (two:Bool) (kv:List (V×V)) (x:V) (zd:V):D :=
 let r:=match Ga kv x with
  | some y=>(y,true)
  | none=>(zd,false)
 if two then .imm (.tup [r.1,.bool r.2]) else .imm r.1
theorem C9 (htt:TTok P tt) (nm:Nat) {kv:List (V×V)} {sh:Sh} {kx:V} {et:TypeId} {two:Bool} {g:Option (Bool×Bool)} {ob:List Prop} {t0:Nat} {todo0:List DI} {dd:TypeDesc} {z:Value} {zd:V} {dr:D}
  (h:iN tt n env st nm todo=some ⟨kv,sh,kx,et,two,g,ob,t0,todo0⟩) (hd:II sh=some dd) (hk:GA sh kx=true) (hkv:∀p∈kv,GA sh p.1=true) (hob:AB ob)
  (hz:(P.info? et).bind (·.zero)=some z) (hzr:∀I,RepV I z zd) (hdr:Fr two kv kx zd=dr) (hg:G P n F Q todo0 ((t0,gD g dr)::env) st ids):G P n F Q todo env st ids:=by
 unfold iN at h
 split at h
 ·rename_i all o todo' h1
  split at h
  ·rename_i t m k two' g' hop hgd
   split at h
   ·rename_i kt et' _ _ _ _ id o1 kx' o2 ht hm hx
    split at h
    ·rename_i i kv' hid hi hl hdo
     split at h
     ·rename_i t' hdst;cases h;have hid:=Cx hid;subst hid;subst hdr;have hg:G P n F Q todo0 (BD o.dst (gD g (Fr two kv kx zd)) env) st ids:=by rw [hdst];exact hg
      refine B9 (fr:=[]) (wr:=[]) (rd:=[id]) h1 (Dl hgd λI μ st1 ids1 a w hag hst hops hcx=>?_) hdo (λc hc=>by rw [hop] at hc;cases hc) hg;rw [hop] at hops;obtain ⟨ho1,ho2⟩:=Bu hob;have rm:=DK hm ho1 hcx (hops m (by simp [Op.operands]));have rx:=(DK hx ho2 hcx (hops k (by simp [Op.operands]))).immInv;have hl1:Az st1 id (.map kv):=by unfold Az;rw [hag id (by simp)];exact hl
      obtain ⟨b,es,clock,e1,hmu,hheap,hlen,hst2,hent⟩:=ZM hst hl1 rm;have hu:P.underlying t=some (.map kt et):=htt.sh ht;have hkd:P.underlying kt=some dd:=Kf hd (htt.sh hi);have hik:=GM hd hk rx;have fin:∀(v:Value) (ok:Bool) (d:V),(Instr.lookup t (.map (some b)) (a.eval k) two).run P w = .ok (if two then .tuple #[v,.bool ok] else v) w->RepV I v d ->
        Fr two kv kx zd=(if two then .imm (.tup [d,.bool ok]) else .imm d) ->
        valX P ((execOp a.eval o).run P w) (λu w'=>∃I' μ',StRep I' μ' st1 ids1 w'/\RepD I' μ' u (Fr two kv kx zd)/\μ.le μ'/\Ext I μ st1 w I' μ' st1 w') (Ko (Kn Q) I μ st1 w):=by
       intro v ok d hr hv he;have hrun:(execOp a.eval o).run P w = .ok (.value (if two then .tuple #[v,.bool ok] else v)) w:=by
        simp only [execOp,hop,e1];exact A6 hr
       rw [hrun];refine ⟨I,μ,hst,?_,Mu.le_refl μ,Ext.refl _ _ _ _⟩;rw [he];cases two with
       | false=>exact .imm _ _ hv
       | true =>
        refine .imm _ _ (.tup _ _ rfl λi c x hc hx=>?_)
        match i,hc,hx with
        | 0,hc,hx=>cases hc;cases hx;exact hv
        | 1,hc,hx=>cases hc;cases hx;exact .bool _
        | i+2,hc,hx=>simp at hx
      rcases J7 (I:=I) hd hk rx es.toList kv 0 (by simpa using hlen) (λj e p h1 h2=>hent j e p (by simpa using h1) h2) hkv with ⟨q1,q2,_,_⟩ | ⟨j,e,y',q1,q2,q3,q4,q5,q6⟩
      ·refine fin z false zd ?_ (hzr I) (by simp [Fr,q2]);simp [Instr.lookup,run_underlying hu,MapKept.run_getObj_map hheap,MapKept.run_checkKey hkd hik,MapKept.run_findKey hkd q1,FH hz,Result.andThen]
      ·refine fin e.val true y' ?_ q5 (by simp [Fr,q4]);simp [Instr.lookup,run_underlying hu,MapKept.run_getObj_map hheap,MapKept.run_checkKey hkd hik,MapKept.run_findKey hkd q1,Result.andThen]
     ·cases h
    ·cases h
   ·cases h
  ·cases h
 ·cases h
end
end Go.Hk
namespace Go.Hk
def F5:Ty:=.mk 0 0 [] []
def G5 (L:List Ty):Sb:=λn=>if 0<=n then (match L[n.toNat]? with
 | some t=>if BA t=0 then none else some t
 | none=>none) else none
theorem To {L:List Ty} {i:Nat} {t:Ty} (h:L[i]?=some t):G5 L (i:Int)=if BA t=0 then none else some t:=by
 simp only [G5];rw [if_pos (by omega),PR,h]
theorem RS (L:List Ty):G5 (L++[F5])=G5 L:=by
 funext n;simp only [G5]
 split
 ·rcases Lc n.toNat L.length with h | h | h
  ·rw [PK h]
  ·rw [h,NL (B8 _),Lb,K8 (B8 _)];simp [F5,BA]
  ·rw [K8 (by simp;omega),K8 (by omega)]
 ·rfl
theorem OG {L:List Ty} {n:Int} {t:Ty} (h:0<=n/\n<L.length) (ht:BA t≠0):G5 (L.set n.toNat t)=Ej (G5 L) n t:=by
 funext m;simp only [G5,Ej];by_cases e:m=n
 ·subst e;rw [if_pos h.1,if_pos rfl,TK,if_pos rfl,if_pos (by omega)];simp only;rw [if_neg ht]
 ·rw [if_neg e]
  split
  ·rw [TK,if_neg (by omega)]
  ·rfl
theorem L0 (k:Nat):G5 (List.replicate k F5)=λ_=>none:=by
 funext n;simp only [G5]
 split
 ·rw [kG]
  split
  ·rename_i h;simp at h;rw [<- h.2];simp [F5,BA]
  ·rfl
 ·rfl
def fR (p:Int×Ty):V×V:=(.int .i64 p.1,.agg (dTyc p.2))
def B6:List (Int×Ty)->Sb
 | []=>λ_=>none
 | p::r=>λn=>if p.1=n then some p.2 else B6 r n
def Pw:List (Int×Ty)->Int->Ty->List (Int×Ty)
 | [],n,t=>[(n,t)]
 | p::r,n,t=>if p.1=n then (p.1,t)::r else p::Pw r n t
theorem Iw (t:Ty) (n:Int):∀M:List (Int×Ty),B6 (Pw M n t)=Ej (B6 M) n t
 | []=>by funext m;simp only [Pw,B6,Ej];by_cases e:n=m <;> simp [e,eq_comm]
 | p::r=>by
  funext m;simp only [Pw];by_cases e:p.1=n
  ·rw [if_pos e];simp only [B6,Ej];by_cases e2:m=n
   ·subst e2;rw [if_pos e,if_pos rfl]
   ·rw [if_neg e2,if_neg (by omega),if_neg (by omega)]
  ·rw [if_neg e];simp only [B6,Iw t n r,Ej];by_cases e2:m=n
   ·subst e2;rw [if_neg e,if_pos rfl,if_pos rfl]
   ·rw [if_neg e2,if_neg e2]
theorem Ka (n m:Int):fQ (.int .i64 n) (.int .i64 m)=decide (m=n):=by
 simp only [fQ];by_cases e:m=n
 ·subst e;simp
 ·rw [decide_eq_false e];simp;exact λh=>e h.symm
theorem GK (n:Int):∀M:List (Int×Ty),Ga (M.map fR) (.int .i64 n)=(B6 M n).map λt=>.agg (dTyc t)
 | []=>rfl
 | p::r=>by
  have ih:=GK n r;simp only [Cz,fR,Ga,Ka,B6];by_cases e:p.1=n
  ·rw [decide_eq_true e,if_pos e];rfl
  ·rw [decide_eq_false e,if_neg e];exact ih
theorem Jf (n:Int) (t:Ty):∀M:List (Int×Ty),Fi (M.map fR) (.int .i64 n) (.agg (dTyc t))=(Pw M n t).map fR
 | []=>rfl
 | p::r=>by
  have ih:=Jf n t r;simp only [Cz,fR,Fi,Ka,Pw];by_cases e:p.1=n
  ·rw [decide_eq_true e,if_pos e,Cz,e];rfl
  ·rw [decide_eq_false e,if_neg e,Cz,<- ih];rfl
theorem Wm {E:Sb->Ty->Ty->Option Sb->Prop} (h:∀σ a b r r',E σ a b r->E σ a b r'->r=r'):∀{xs ys:List Ty} {σ:Sb} {r r':Option Sb},Kx E σ xs ys r->Kx E σ xs ys r'->r=r'
 | [],[],_,_,_,h1,h2=>Eq.trans h1 (Eq.symm h2)
 | a::xs,b::ys,σ,r,r',h1,h2=>by
  rcases h1 with ⟨e1,rfl⟩ | ⟨σ1,e1,f1⟩
  ·rcases h2 with ⟨_,rfl⟩ | ⟨σ2,e2,_⟩
   ·rfl
   ·have:=h _ _ _ _ _ e1 e2;cases this
  ·rcases h2 with ⟨e2,_⟩ | ⟨σ2,e2,f2⟩
   ·have:=h _ _ _ _ _ e1 e2;cases this
   ·have:=h _ _ _ _ _ e1 e2;cases this;exact Wm h f1 f2
 | [],_::_,_,_,_,h1,_=>h1.elim
 | _::_,[],_,_,_,h1,_=>h1.elim
theorem eR {E:Sb->Ty->Ty->Option Sb->Prop} (h:∀σ a b r r',E σ a b r->E σ a b r'->r=r') {σ:Sb} {u v:Ty} {r r':Option Sb} (h1:CZ E σ u v r) (h2:CZ E σ u v r'):r=r':=by
 by_cases u9:BA u=9
 ·by_cases v9:BA v=9
  ·by_cases e:num u=num v
   ·have a:r=some σ:=by simpa [CZ,u9,v9,e] using h1
    have b:r'=some σ:=by simpa [CZ,u9,v9,e] using h2
    rw [a,b]
   ·have a:r=some (Ej σ (max (num u) (num v)) (As (min (num u) (num v)))):=by simpa [CZ,u9,v9,e] using h1
    have b:r'=some (Ej σ (max (num u) (num v)) (As (min (num u) (num v)))):=by simpa [CZ,u9,v9,e] using h2
    rw [a,b]
  ·by_cases o:fJ σ (num u) v
   ·have a:r=none:=by simpa [CZ,u9,v9,o] using h1
    have b:r'=none:=by simpa [CZ,u9,v9,o] using h2
    rw [a,b]
   ·have a:r=some (Ej σ (num u) v):=by simpa [CZ,u9,v9,o] using h1
    have b:r'=some (Ej σ (num u) v):=by simpa [CZ,u9,v9,o] using h2
    rw [a,b]
 ·by_cases v9:BA v=9
  ·by_cases o:fJ σ (num v) u
   ·have a:r=none:=by simpa [CZ,u9,v9,o] using h1
    have b:r'=none:=by simpa [CZ,u9,v9,o] using h2
    rw [a,b]
   ·have a:r=some (Ej σ (num v) u):=by simpa [CZ,u9,v9,o] using h1
    have b:r'=some (Ej σ (num v) u):=by simpa [CZ,u9,v9,o] using h2
    rw [a,b]
  ·by_cases o:EG u v
   ·have a:Kx E σ (DZ u) (DZ v) r:=by simpa [CZ,u9,v9,o] using h1
    have b:Kx E σ (DZ u) (DZ v) r':=by simpa [CZ,u9,v9,o] using h2
    exact Wm h a b
   ·have a:r=none:=by simpa [CZ,u9,v9,o] using h1
    have b:r'=none:=by simpa [CZ,u9,v9,o] using h2
    rw [a,b]
theorem Wp:∀(k:Nat) (σ:Sb) (a b:Ty) (r r':Option Sb),M4 k σ a b r->M4 k σ a b r'->r=r'
 | 0,_,_,_,_,_,h,_=>h.elim
 | k+1,σ,a,b,r,r',⟨u,v,h1,h2,h3⟩,⟨u',v',g1,g2,g3⟩=>by
  obtain rfl:=Tg h1 g1;obtain rfl:=Tg h2 g2;exact eR (Wp k) h3 g3
theorem Ul {k k':Nat} {σ:Sb} {a b:Ty} {r r':Option Sb} (h:M4 k σ a b r) (h':M4 k' σ a b r'):r=r' :=
 Wp (max k k') σ a b r r' (Mf (Nat.le_max_left _ _) h) (Mf (Nat.le_max_right _ _) h')
theorem Q2 {H:Nat} {k:Nat} {σ:Sb} {θ:Int->Ty} {a b:Ty} {r:Option Sb} (h:M4 k σ a b r) (hs:Sol σ θ) (hd:Dom H σ) (ha:Cl a=true) (hb:Cl b=true) (ia:inB H a) (ib:inB H b):rH H σ a b r:=by
 obtain ⟨k',r',h1,h2⟩:=Um H (RD H σ) (Ek (A7 θ a)) σ θ a b hs hd (B8 _) (λ_=>B8 _) ha hb ia ib;rw [Ul h h1];exact h2
end Go.Hk
namespace Go.Hk
open Go.Proofs
mutual
def BQ:Ty->Int->Int
 | .mk _ _ _ ps,l=>if l<1 then -1 else BV ps (l-1)
def BV:List Ty->Int->Int
 | [],l=>l
 | t::r,l=>if 0<=l then BV r (BQ t l) else l
end
mutual
theorem It:∀(t:Ty) (l:Int),-1<=BQ t l/\(-1<=l->BQ t l<=l)
 | .mk _ _ _ ps,l=>by
  simp only [BQ];by_cases h:l<1
  ·rw [if_pos h];omega
  ·rw [if_neg h];have:=IW ps (l-1) (by omega);omega
theorem IW:∀(ts:List Ty) (l:Int),-1<=l -> -1<=BV ts l/\BV ts l<=l
 | [],l,h=>by simp [BV,h]
 | t::r,l,h=>by
  simp only [BV];by_cases h0:0<=l
  ·rw [if_pos h0];have h1:=It t l;have h2:=IW r (BQ t l) h1.1;omega
  ·rw [if_neg h0];omega
end
theorem GF:∀(t:Ty) (l:Int),-9223372036854775808<=l->l<=9223372036854775807->Al Tryz.prog 46 [.agg (dTyc t),.int .i64 l] (.int .i64 (BQ t l))
 | .mk s n x ps,l,hl0,hl1=>by
  refine B1 λhv=>?_;simp [CL,Fh,dTyc,maxLen] at hv;refine Ac BM Tryz.func46 (by decide +kernel) rfl [1,2,3] rfl rfl <| AX rfl <| Aa rfl (λh=>?_) (λh=>?_)
  ·refine B5 rfl <| Ab rfl rfl (congrArg _ ?_);simp at h;simp [BQ,h]
  simp at h;refine B5 rfl <| Ak (λx:Nat×Int=>[(5,.imm (.int .i64 x.1)),(1,.imm (.int .i64 x.2)),(2,.ref 1 0)]) (λ_=>[(1,some (.immb 25 4 (dTyc (.mk s n x ps))))]) [2,3] (λx=>ps.length-x.1)
   (λy=>y.1<=ps.length/\BQ (.mk s n x ps) l=BV (ps.drop y.1) y.2 /\ -1<=y.2/\y.2<l) (0,l-1)
   ⟨AL _,by simp [BQ];omega,by simp only;omega,by simp only;omega⟩ ⟨rfl,AA (Cb (by omega) (by omega)),AI⟩ AI rfl λy hi ih=>?_
  obtain ⟨i,m⟩:=y;obtain ⟨hi1,hi2,hi3,hi4⟩:=hi;simp only at hi1 hi2 hi3 hi4;refine B5 rfl <| Aa rfl (λh=>?_) (λh=>?_)
  ·simp at h;obtain ⟨t,ht⟩:=Ao (l:=ps) (i:=i) (by omega);rw [Av ht] at hi2;refine B5 rfl <| ki rfl (c:=dTyc t) (λ_=>⟨by simp,by simpa using A8 ht,by simp⟩) (by simp) <| AX rfl <| Aj rfl (λ_=>GF t m (by omega) (by omega)) (by simp) <| AX rfl ?_;have hb:=It t m;refine Ae (ih (i+1,BQ t m) (by simp only;omega) ⟨by simp only;omega,by simp only;rw [hi2];simp [BV];omega,by simp only;omega,by simp only;omega⟩) ⟨AA (Cb (by omega) (by omega)),AM⟩ AI rfl
  ·refine B5 rfl <| Ab rfl rfl (congrArg _ ?_);rw [hi2];simp at h;by_cases hlt:i<ps.length
   ·obtain ⟨t,ht⟩:=Ao hlt;rw [Av ht];simp [BV];omega
   ·rw [Br (by omega)];simp [BV]
termination_by t=>SizeOf.sizeOf t
decreasing_by
 have:=Cn (AF ht);simp_wf;omega
theorem Oj:∀(t:Ty) (l:Int),-9223372036854775808<=l->l<=9223372036854775807->Al Tryz.prog 179 [.agg (dTyc t),.int .i64 l] (.int .i64 (BQ t l))
 | .mk s n x ps,l,hl0,hl1=>by
  refine B1 λhv=>?_;simp [CL,Fh,dTyc,maxLen] at hv;refine Ac BM Tryz.func179 (by decide +kernel) rfl [1,2,3] rfl rfl <| AX rfl <| Aa rfl (λh=>?_) (λh=>?_)
  ·refine B5 rfl <| Ab rfl rfl (congrArg _ ?_);simp at h;simp [BQ,h]
  simp at h;refine B5 rfl <| Ak (λx:Nat×Int=>[(5,.imm (.int .i64 x.1)),(1,.imm (.int .i64 x.2)),(2,.ref 1 0)]) (λ_=>[(1,some (.immb 182 4 (dTyc (.mk s n x ps))))]) [2,3] (λx=>ps.length-x.1)
   (λy=>y.1<=ps.length/\BQ (.mk s n x ps) l=BV (ps.drop y.1) y.2 /\ -1<=y.2/\y.2<l) (0,l-1)
   ⟨AL _,by simp [BQ];omega,by simp only;omega,by simp only;omega⟩ ⟨rfl,AA (Cb (by omega) (by omega)),AI⟩ AI rfl λy hi ih=>?_
  obtain ⟨i,m⟩:=y;obtain ⟨hi1,hi2,hi3,hi4⟩:=hi;simp only at hi1 hi2 hi3 hi4;refine B5 rfl <| Aa rfl (λh=>?_) (λh=>?_)
  ·simp at h;obtain ⟨t,ht⟩:=Ao (l:=ps) (i:=i) (by omega);rw [Av ht] at hi2;refine B5 rfl <| ki rfl (c:=dTyc t) (λ_=>⟨by simp,by simpa using A8 ht,by simp⟩) (by simp) <| AX rfl <| Aj rfl (λ_=>Oj t m (by omega) (by omega)) (by simp) <| AX rfl ?_;have hb:=It t m;refine Ae (ih (i+1,BQ t m) (by simp only;omega) ⟨by simp only;omega,by simp only;rw [hi2];simp [BV];omega,by simp only;omega,by simp only;omega⟩) ⟨AA (Cb (by omega) (by omega)),AM⟩ AI rfl
  ·refine B5 rfl <| Ab rfl rfl (congrArg _ ?_);rw [hi2];simp at h;by_cases hlt:i<ps.length
   ·obtain ⟨t,ht⟩:=Ao hlt;rw [Av ht];simp [BV];omega
   ·rw [Br (by omega)];simp [BV]
termination_by t=>SizeOf.sizeOf t
decreasing_by
 have:=Cn (AF ht);simp_wf;omega
def Ct (holes:Bool) (s n:Int) (x:Str) (k:Nat):Bool :=
 if s=1\/s=2\/s=3 then ((k:Int) == 0)&&n == 0&&x == []
 else if s=4 then ((k:Int) == 2)&&n == 0&&x == []
 else if s=5\/s=6\/s=7 then ((k:Int) == 1)&&n == 0&&x == []
 else if s=8 then ((k:Int) == 0)&&n == 0&&Es x
 else if s=9 then holes&&((k:Int) == 0)&&x == []&&F9 n 0 99
 else false
mutual
def C7 (holes:Bool):Ty->Bool
 | .mk s n x ps=>Ct holes s n x ps.length&&BW holes ps
def BW (holes:Bool):List Ty->Bool
 | []=>true
 | t::r=>C7 holes t&&BW holes r
end
theorem Pq (holes:Bool):∀(t:Ty),Al Tryz.prog 61 [.agg (dTyc t),.bool holes] (.bool (C7 holes t))
 | .mk s n x ps=>by
  refine B1 λhv=>?_;simp [CL,Fh,dTyc,maxLen] at hv;refine Ac BM Tryz.func61 (by decide +kernel) rfl [1,2,3] rfl rfl ?_;have J:∀is:Bool,is=Ct holes s n x ps.length->DGo Tryz.prog Tryz.f61.ntmps (DJ []) (Kv Zo Tryz.f61.results.toList (.ret (.imm (.bool (C7 holes (.mk s n x ps)))) []))
    [.code (FV Tryz.f61 4)] [(6,.imm (.bool is)),(5,.imm (.int .i64 ps.length)),(1,.imm (.bool holes)),(2,.ref 1 0)] [(1,some (.immb 25 4 (dTyc (.mk s n x ps))))] [2,3]:=by
   intro is his;refine B5 rfl <| Ak (λy:Nat×Bool=>[(7,.imm (.int .i64 y.1)),(6,.imm (.bool y.2)),(5,.imm (.int .i64 ps.length)),(1,.imm (.bool holes)),(2,.ref 1 0)]) (λ_=>[(1,some (.immb 25 4 (dTyc (.mk s n x ps))))]) [2,3] (λy=>ps.length-y.1)
    (λy=>y.1<=ps.length/\C7 holes (.mk s n x ps)=(y.2&&BW holes (ps.drop y.1))) (0,is) ⟨AL _,by simp [C7,his]⟩ Bx AI rfl λy hi ih=>?_
   obtain ⟨i,b⟩:=y;obtain ⟨hi1,hi2⟩:=hi;simp only at hi1 hi2;refine B5 rfl <| Aa rfl (λh=>?_) (λh=>?_)
   ·simp at h;obtain ⟨t,ht⟩:=Ao (l:=ps) (i:=i) (by omega);rw [Av ht] at hi2;refine B5 rfl <| ki rfl (c:=dTyc t) (λ_=>⟨by simp,by simpa using A8 ht,by simp⟩) (by simp) <| AX rfl <| Aj rfl (λ_=>Pq holes t) (by simp) <| AX rfl <| Ae (ih (i+1,C7 holes t) (by simp only;omega) ⟨by simp only;omega,by simp only;rw [hi2,h.2];simp [BW]⟩) ⟨AA (Cb (by omega) (by omega)),BF⟩ AI rfl
   ·refine B5 rfl <| Ab rfl rfl (congrArg _ ?_);rw [hi2];simp at h;by_cases hlt:i<ps.length
    ·rw [h hlt];rfl
    ·rw [Br (by omega)];simp [BW]
  by_cases h1:s=1
  ·subst h1;exact kg [.a,.a,.s] rfl (by simp) <| Ae (J _ (by simp [Ct])) ⟨rfl,AA (by simp),AM⟩ AI rfl
  by_cases h2:s=2
  ·subst h2;exact kg [.a,.a,.a,.s] rfl (by simp) <| Ae (J _ (by simp [Ct])) ⟨rfl,AA (by simp),AM⟩ AI rfl
  by_cases h3:s=3
  ·subst h3;exact kg [.a,.a,.a,.s] rfl (by simp) <| Ae (J _ (by simp [Ct])) ⟨rfl,AA (by simp),AM⟩ AI rfl
  by_cases h4:s=4
  ·subst h4;exact kg [.a,.a,.a,.a,.s] rfl (by simp) <| Ae (J _ (by simp [Ct])) ⟨rfl,AA (by simp),AM⟩ AI rfl
  by_cases h5:s=5
  ·subst h5;exact kg [.a,.a,.a,.a,.a,.a,.s] rfl (by simp) <| Ae (J _ (by simp [Ct])) ⟨rfl,AA (by simp),AM⟩ AI rfl
  by_cases h6:s=6
  ·subst h6;exact kg [.a,.a,.a,.a,.a,.a,.a,.s] rfl (by simp) <| Ae (J _ (by simp [Ct])) ⟨rfl,AA (by simp),AM⟩ AI rfl
  by_cases h7:s=7
  ·subst h7;exact kg [.a,.a,.a,.a,.a,.a,.a,.s] rfl (by simp) <| Ae (J _ (by simp [Ct])) ⟨rfl,AA (by simp),AM⟩ AI rfl
  by_cases h8:s=8
  ·subst h8;exact kg [.a,.a,.a,.a,.a,.a,.a,.a] rfl (by simp) <| Aj rfl (λ_=>JJ x) (by simp [Am]) <| kg [.s] rfl (by simp) <| Ae (J _ (by simp [Ct])) ⟨rfl,AA (by simp),AM⟩ AI rfl
  by_cases h9:s=9
  ·subst h9;exact kg [.a,.a,.a,.a,.a,.a,.a,.a,.a] rfl (by simp) <| Aj rfl (λ_=>LZ n 0 99) (by simp [Am]) <| kg [.s] rfl (by simp) <| Ae (J _ (by simp [Ct])) ⟨rfl,AA (by simp),AM⟩ AI rfl
  exact kg [.f,.f,.f,.f,.f,.f,.f,.f,.f,.s] rfl (by simp [h1,h2,h3,h4,h5,h6,h7,h8,h9]) <| Ae (J _ (by simp [Ct,h1,h2,h3,h4,h5,h6,h7,h8,h9])) ⟨rfl,AA (by simp),AM⟩ AI rfl
termination_by t=>SizeOf.sizeOf t
decreasing_by
 have:=Cn (AF ht);simp_wf;omega
mutual
def Ly:Ty->Bool
 | .mk _ _ x ps=>GV ps&&decide (x.length<=30)
def GV:List Ty->Bool
 | []=>true
 | t::r=>Ly t&&GV r
end
theorem Lx:∀(t:Ty),Al Tryz.prog 47 [.agg (dTyc t)] (.bool (Ly t))
 | .mk s n x ps=>by
  refine B1 λhv=>?_;simp [CL,Fh,dTyc,maxLen] at hv;refine Ac BM Tryz.func47 (by decide +kernel) rfl [1,2,3] rfl rfl <| AX rfl <| Ak (λi:Nat=>[(3,.imm (.int .i64 i)),(1,.ref 1 0)]) (λ_=>[(1,some (.immb 25 4 (dTyc (.mk s n x ps))))]) [2,3] (λi=>ps.length-i)
   (λi=>i<=ps.length/\GV ps=GV (ps.drop i)) 0 ⟨AL _,rfl⟩ AM AI rfl λi hi ih=>?_
  refine B5 rfl <| Aa rfl (λh=>?_) (λh=>?_)
  ·simp at h;obtain ⟨t,ht⟩:=Ao h;have e:=hi.2;rw [Av ht] at e;refine B5 rfl <| ki rfl (c:=dTyc t) (λ_=>⟨by simp,by simpa using A8 ht,by simp⟩) (by simp) <| AX rfl <| Aj rfl (λ_=>Lx t) (by simp) <| AX rfl <| Aa rfl (λh=>?_) (λh=>?_)
   ·refine B5 rfl <| Ab rfl rfl (congrArg _ ?_);simp at h;simp [Ly,e,GV,h]
   ·refine B5 rfl ?_;simp at h;exact Ae (ih (i+1) (by omega) ⟨by omega,by rw [e];simp [GV,h]⟩) ⟨AA (Cb (by omega) (by omega)),AI⟩ AI rfl
  ·refine B5 rfl <| Ab rfl rfl (congrArg _ ?_);simp at h;simp only [Ly];rw [hi.2,Br (by omega)];simp [GV]
   norm_cast
termination_by t=>SizeOf.sizeOf t
decreasing_by
 have:=Cn (AF ht);simp_wf;omega
def IZ (t:Ty):Bool:=decide (0<=BQ t 12)&&C7 true t
theorem Uu (t:Ty):Al Tryz.prog 15 [.agg (dTyc t)] (.bool (IZ t)):=by
 refine Ac BM Tryz.func15 (by decide +kernel) rfl [1,2,3] rfl rfl <| AX rfl <| Aj rfl (λ_=>GF t 12 (by decide) (by decide)) (by simp) <| AX rfl <| Aj rfl (λ_=>Pq true t) (by simp [Am]) <| AX rfl <| Ab rfl rfl (congrArg _ ?_);simp [IZ]
def Gl (t:Ty):Bool:=decide (0<=BQ t 12)&&C7 false t
theorem QU (t:Ty):Al Tryz.prog 20 [.agg (dTyc t)] (.bool (Gl t)):=by
 refine Ac BM Tryz.func20 (by decide +kernel) rfl [1,2,3] rfl rfl <| AX rfl <| Aj rfl (λ_=>GF t 12 (by decide) (by decide)) (by simp) <| AX rfl <| Aj rfl (λ_=>Pq false t) (by simp [Am]) <| AX rfl <| Ab rfl rfl (congrArg _ ?_);simp [Gl]
def FE (t:Ty):Bool:=decide (0<=BQ t 16)&&Ly t
theorem My (t:Ty):Al Tryz.prog 11 [.agg (dTyc t)] (.bool (FE t)):=by
 refine Ac BM Tryz.func11 (by decide +kernel) rfl [1,2,3] rfl rfl <| AX rfl <| Aj rfl (λ_=>GF t 16 (by decide) (by decide)) (by simp) <| AX rfl <| Aj rfl (λ_=>Lx t) (by simp [Am]) <| AX rfl <| Ab rfl rfl (congrArg _ ?_);simp [FE]
def EM (s n:Int) (x:Str) (k:Nat):Bool :=
 if s=1\/s=5 then ((k:Int) == 0)&&n == 0&&x == []
 else if s=2 then ((k:Int) == 0)&&n == 0&&EA x
 else if s=3 then ((k:Int) == 0)&&x == []&&F9 n (-1000000000) 1000000000
 else if s=4 then ((k:Int) == 0)&&x == []&&F9 n 0 1
 else if s=6 then decide ((k:Int)<=3)&&n == 0&&Es x
 else false
mutual
def Ea:Ty->Bool
 | .mk s n x ps=>EM s n x ps.length&&CN ps
def CN:List Ty->Bool
 | []=>true
 | t::r=>Ea t&&CN r
end
theorem Z9:∀(t:Ty),Al Tryz.prog 217 [.agg (dTyc t)] (.bool (Ea t))
 | .mk s n x ps=>by
  refine B1 λhv=>?_;simp [CL,Fh,dTyc,maxLen] at hv;refine Ac BM Tryz.func217 (by decide +kernel) rfl [1,2,3] rfl rfl ?_;have J:∀is:Bool,is=EM s n x ps.length->DGo Tryz.prog Tryz.f217.ntmps (DJ []) (Kv Zo Tryz.f217.results.toList (.ret (.imm (.bool (Ea (.mk s n x ps)))) []))
    [.code (FV Tryz.f217 4)] [(4,.imm (.bool is)),(3,.imm (.int .i64 ps.length)),(1,.ref 1 0)] [(1,some (.immb 182 4 (dTyc (.mk s n x ps))))] [2,3]:=by
   intro is his;refine B5 rfl <| Ak (λy:Nat×Bool=>[(5,.imm (.int .i64 y.1)),(4,.imm (.bool y.2)),(3,.imm (.int .i64 ps.length)),(1,.ref 1 0)]) (λ_=>[(1,some (.immb 182 4 (dTyc (.mk s n x ps))))]) [2,3] (λy=>ps.length-y.1)
    (λy=>y.1<=ps.length/\Ea (.mk s n x ps)=(y.2&&CN (ps.drop y.1))) (0,is) ⟨AL _,by simp [Ea,his]⟩ BF AI rfl λy hi ih=>?_
   obtain ⟨i,b⟩:=y;obtain ⟨hi1,hi2⟩:=hi;simp only at hi1 hi2;refine B5 rfl <| Aa rfl (λh=>?_) (λh=>?_)
   ·simp at h;obtain ⟨t,ht⟩:=Ao (l:=ps) (i:=i) (by omega);rw [Av ht] at hi2;exact B5 rfl <| ki rfl (c:=dTyc t) (λ_=>⟨by simp,by simpa using A8 ht,by simp⟩) (by simp) <| AX rfl <| Aj rfl (λ_=>Z9 t) (by simp) <| AX rfl <| Ae (ih (i+1,Ea t) (by simp only;omega) ⟨by simp only;omega,by simp only;rw [hi2,h.2];simp [CN]⟩) ⟨AA (Cb (by omega) (by omega)),AD⟩ AI rfl
   ·refine B5 rfl <| Ab rfl rfl (congrArg _ ?_);rw [hi2];simp at h;by_cases hlt:i<ps.length
    ·rw [h hlt];rfl
    ·rw [Br (by omega)];simp [CN]
  by_cases h1:s=1
  ·subst h1;exact kg [.a,.a,.s] rfl (by simp) <| Ae (J _ (by simp [EM])) ⟨rfl,AA (by simp),AI⟩ AI rfl
  by_cases h2:s=2
  ·subst h2;exact kg [.a,.a,.a] rfl (by simp) <| Aj rfl (λ_=>HD x) (by simp [Am]) <| kg [.s] rfl (by simp) <| Ae (J _ (by simp [EM])) ⟨rfl,AA (by simp),AI⟩ AI rfl
  by_cases h3:s=3
  ·subst h3;exact kg [.a,.a,.a,.a] rfl (by simp) <| Aj rfl (λ_=>LZ n (-1000000000) 1000000000) (by simp [Am]) <| kg [.s] rfl (by simp) <| Ae (J _ (by simp [EM])) ⟨rfl,AA (by simp),AI⟩ AI rfl
  by_cases h4:s=4
  ·subst h4;exact kg [.a,.a,.a,.a,.a] rfl (by simp) <| Aj rfl (λ_=>LZ n 0 1) (by simp [Am]) <| kg [.s] rfl (by simp) <| Ae (J _ (by simp [EM])) ⟨rfl,AA (by simp),AI⟩ AI rfl
  by_cases h5:s=5
  ·subst h5;exact kg [.a,.a,.s] rfl (by simp) <| Ae (J _ (by simp [EM])) ⟨rfl,AA (by simp),AI⟩ AI rfl
  by_cases h6:s=6
  ·subst h6;exact kg [.a,.a,.a,.a,.a,.a] rfl (by simp) <| Aj rfl (λ_=>JJ x) (by simp [Am]) <| kg [.s] rfl (by simp) <| Ae (J _ (by simp [EM])) ⟨rfl,AA (by simp),AI⟩ AI rfl
  exact kg [.f,.f,.f,.f,.f,.f,.s] rfl (by simp [h1,h2,h3,h4,h5,h6]) <| Ae (J _ (by simp [EM,h1,h2,h3,h4,h5,h6])) ⟨rfl,AA (by simp),AI⟩ AI rfl
termination_by t=>SizeOf.sizeOf t
decreasing_by
 have:=Cn (AF ht);simp_wf;omega
mutual
def Bp:Tm->Int->Int->Int
 | .mk _ _ _ ks _,l,d=>if l<1\/d<1 then -1 else BK ks (l-1) (d-1)
def BK:List Tm->Int->Int->Int
 | [],l,_=>l
 | t::r,l,d=>if 0<=l then BK r (Bp t l d) d else l
end
mutual
theorem GQ:∀(t:Tm) (l d:Int),-1<=Bp t l d/\(-1<=l->Bp t l d<=l)
 | .mk _ _ _ ks _,l,d=>by
  simp only [Bp];by_cases h:l<1\/d<1
  ·rw [if_pos h];omega
  ·rw [if_neg h];have:=IX ks (l-1) (d-1) (by omega);omega
theorem IX:∀(ts:List Tm) (l d:Int),-1<=l -> -1<=BK ts l d/\BK ts l d<=l
 | [],l,d,h=>by simp [BK,h]
 | t::r,l,d,h=>by
  simp only [BK];by_cases h0:0<=l
  ·rw [if_pos h0];have h1:=GQ t l d;have h2:=IX r (Bp t l d) d h1.1;omega
  ·rw [if_neg h0];omega
end
theorem WM:∀(t:Tm) (l d:Int),-9223372036854775808<=l->l<=9223372036854775807 -> -9223372036854775807<=d->d<=9223372036854775807->Al Tryz.prog 68 [.agg (Bo t),.int .i64 l,.int .i64 d] (.int .i64 (Bp t l d))
 | .mk op n x ks ps,l,d,hl0,hl1,hd0,hd1=>by
  refine B1 λhv=>?_;simp [CL,Fh,Bo,maxLen] at hv;refine Ac BM Tryz.func68 (by decide +kernel) rfl [1,2,3] rfl rfl <| AX rfl <| Aa rfl (λh=>?_) (λh=>?_)
  ·refine B5 rfl <| Ab rfl rfl (congrArg _ ?_);simp at h;simp only [Bp];rw [if_pos (by omega)]
  simp at h;refine B5 rfl <| Ak (λx:Nat×Int=>[(7,.imm (.int .i64 x.1)),(1,.imm (.int .i64 x.2)),(2,.imm (.int .i64 d)),(3,.ref 1 0)]) (λ_=>[(1,some (.immb 49 5 (Bo (.mk op n x ks ps))))]) [2,3] (λx=>ks.length-x.1)
   (λy=>y.1<=ks.length/\Bp (.mk op n x ks ps) l d=BK (ks.drop y.1) y.2 (d-1) /\ -1<=y.2/\y.2<l) (0,l-1)
   ⟨AL _,by simp only [Bp,Vz];rw [if_neg (by omega)],by simp only;omega,by simp only;omega⟩ ⟨rfl,AA (Cb (by omega) (by omega)),AM⟩ AI rfl λy hi ih=>?_
  obtain ⟨i,m⟩:=y;obtain ⟨hi1,hi2,hi3,hi4⟩:=hi;simp only at hi1 hi2 hi3 hi4;refine B5 rfl <| Aa rfl (λh=>?_) (λh=>?_)
  ·simp at h;obtain ⟨t,ht⟩:=Ao (l:=ks) (i:=i) (by omega);rw [Av ht] at hi2;refine B5 rfl <| ki rfl (c:=Bo t) (λ_=>⟨by simp,by simpa using Fz ht,by simp⟩) (by simp) <| AX rfl ?_;have hw:IntKind.i64.wrap (d-1)=d-1:=Cb (by omega) (by omega);refine Aj rfl (v:=.int .i64 (Bp t m (d-1))) (λ_=>by rw [hw];exact WM t m (d-1) (by omega) (by omega) (by omega) (by omega)) (by simp) <| AX rfl ?_;have hb:=GQ t m (d-1);exact Ae (ih (i+1,Bp t m (d-1)) (by simp only;omega) ⟨by simp only;omega,by simp only;rw [hi2];simp only [BK];rw [if_pos h.2],by simp only;omega,by simp only;omega⟩) ⟨AA (Cb (by omega) (by omega)),AD⟩ AI rfl
  ·refine B5 rfl <| Ab rfl rfl (congrArg _ ?_);rw [hi2];simp at h;by_cases hlt:i<ks.length
   ·obtain ⟨t,ht⟩:=Ao hlt;rw [Av ht];simp only [BK];rw [if_neg (by omega)]
   ·rw [Br (by omega)];simp [BK]
termination_by t=>SizeOf.sizeOf t
decreasing_by
 have:=Cn (AF ht);simp_wf;omega
def CB (n:Int) (x:Str) (p:Nat) (fn ft fp:Bool):Bool:=(fn||n == 0)&&(ft||x == [])&&(fp||((p:Int) == 0))
theorem B3 (op n:Int) (x:Str) (ks:List Tm) (ps:List Ty) (a b c:Bool):Al Tryz.prog 216 [.agg (Bo (.mk op n x ks ps)),.bool a,.bool b,.bool c] (.bool (CB n x ps.length a b c)):=by
 refine Ac BM Tryz.func216 (by decide +kernel) rfl [1,2,3] rfl rfl <| kg [] rfl (by cases a <;> cases b <;> cases c <;> simp) <| Ab rfl rfl (congrArg _ ?_);cases a <;> cases b <;> cases c <;> simp [CB]
mutual
def Bv:Ty->Nat
 | .mk _ _ _ ps=>1+A0 ps
def A0:List Ty->Nat
 | []=>0
 | t::r=>Bv t+A0 r
end
mutual
theorem EJ:∀(t:Ty) (l:Int),0<=BQ t l->BQ t l+Bv t=l
 | .mk _ _ _ ps,l,h=>by
  simp only [BQ] at h ⊢;by_cases h0:l<1
  ·rw [if_pos h0] at h;omega
  ·rw [if_neg h0] at h ⊢;have:=IV ps (l-1) h;simp only [Bv];omega
theorem IV:∀(ts:List Ty) (l:Int),0<=BV ts l->BV ts l+A0 ts=l
 | [],l,h=>by simp [BV,A0]
 | t::r,l,h=>by
  simp only [BV] at h ⊢;by_cases h0:0<=l
  ·rw [if_pos h0] at h ⊢;have h1:=IV r (BQ t l) h;have h2:=IW r (BQ t l) (It t l).1;have h3:=EJ t l (by omega);simp only [A0];omega
  ·rw [if_neg h0] at h;omega
end
mutual
def Bm:Ty->List Str
 | .mk s _ x ps=>if s=2 then [x] else AN ps
def AN:List Ty->List Str
 | []=>[]
 | t::r=>Bm t++AN r
end
mutual
theorem KV:∀t:Ty,(Bm t).length<=Bv t
 | .mk s _ x ps=>by
  simp only [Bm,Bv]
  split
  ·simp
  ·have:=H0 ps;omega
theorem H0:∀ts:List Ty,(AN ts).length<=A0 ts
 | []=>by simp [AN]
 | t::r=>by
  have h1:=KV t;have h2:=H0 r;simp only [AN,A0,Bw];omega
end
theorem EO (a b:List Ty):AN (a++b)=AN a++AN b:=by
 induction a with
 | nil=>rfl
 | cons t r ih=>simp [AN,ih]
theorem DO (a b:List Ty):A0 (a++b)=A0 a+A0 b:=by
 induction a with
 | nil=>simp [A0]
 | cons t r ih=>simp [A0,ih];omega
theorem Ey {ps:List Ty} {i:Nat} {t:Ty} (h:ps[i]?=some t):A0 (ps.take i)+Bv t<=A0 ps:=by
 have e:ps=ps.take i++t::ps.drop (i+1):=by rw [<- Av h,ZO]
 have:=congrArg A0 e;rw [DO] at this;simp only [A0] at this;omega
theorem QG (l:List Str):∀c∈Gg l,c.length=1:=by
 intro c hc;simp only [Gg,Cc] at hc;obtain ⟨a,_,rfl⟩:=hc;rfl
theorem JI:∀(t:Ty),Bv t<=1000000->Al Tryz.prog 155 [.agg (dTyc t)] (.sl (Gg (Bm t)))
 | .mk s n x ps,hN=>by
  refine B1 λhv=>?_;simp [CL,Fh,dTyc,maxLen] at hv;refine Ac BM Tryz.func155 (by decide +kernel) rfl [1,2,3,4,5] rfl rfl <| AX rfl <| Aa rfl (λh=>?_) (λh=>?_)
  ·refine B5 rfl <| Ab rfl rfl (congrArg _ ?_);simp at h;simp [Bm,h,Gg]
  simp at h;have hNp:A0 ps<=1000000:=by simp only [Bv] at hN;omega
  refine B5 rfl <| Ak (λy:Nat×Bool×List (List V)=>[(4,.imm (.int .i64 y.1)),(3,match y.2.1 with | false=>.nils | true=>.own 2 y.2.2.length),(1,.ref 1 0)])
   (λy=>match y.2.1 with | false=>[(1,some (.immb 182 4 (dTyc (.mk s n x ps))))] | true=>[(2,some (.row 9 1 y.2.2)),(1,some (.immb 182 4 (dTyc (.mk s n x ps))))]) [3,4] (λy=>ps.length-y.1)
   (λy=>y.1<=ps.length/\Gg (AN (ps.take y.1))=y.2.2/\(y.2.1=false->y.2.2=[])) (0,false,[]) ⟨AL _,rfl,λ_=>rfl⟩ AD AI rfl λy hi ih=>?_
  obtain ⟨i,b,es⟩:=y;obtain ⟨hi1,hi2,hi3⟩:=hi;simp only at hi1 hi2 hi3;cases b with
  | false =>
   have hi3:=hi3 rfl;subst hi3;refine B5 rfl <| Aa rfl (λh=>?_) (λh=>?_)
   ·simp at h;obtain ⟨t,ht⟩:=Ao h;have hnt:=Ey ht;have hlt:=KV t;have hl2:=H0 (ps.take i);have hlen:=congrArg List.length hi2;simp at hlen;exact B5 rfl <| ki rfl (c:=dTyc t) (λ_=>⟨by simp,by simpa using A8 ht,by simp⟩) (by simp) <| AX rfl <| Aj rfl (λ_=>JI t (by omega)) (by simp) <| AX rfl <| B4 BM rfl ⟨QG _,by simp [maxLen];omega,by simp;omega,trivial⟩ <| AX rfl <| AZ 2 3 rfl <| Ae (ih (i+1,true,[]++Gg (Bm t)) (by simp only;omega) ⟨by simp only;omega,by simp only;rw [Be ht,EO,Od,hi2];simp [AN],λh=>by cases h⟩) ⟨AA (Cb (by simp only;omega) (by simp only;omega)),AM⟩ AM rfl
   ·refine B5 rfl <| Ag ⟨_,rfl,?_,trivial⟩;simp at h;rw [CD (by omega)] at hi2;simp only [Bm];rw [if_neg (by assumption),hi2];rfl
  | true =>
   refine B5 rfl <| Aa rfl (λh=>?_) (λh=>?_)
   ·simp at h;obtain ⟨t,ht⟩:=Ao h;have hnt:=Ey ht;have hlt:=KV t;have hl2:=H0 (ps.take i);have hlen:=congrArg List.length hi2;simp at hlen;exact B5 rfl <| ki rfl (c:=dTyc t) (λ_=>⟨by simp,by simpa using A8 ht,by simp⟩) (by simp) <| AX rfl <| Aj rfl (λ_=>JI t (by omega)) (by simp) <| AX rfl <| B4 BM rfl ⟨QG _,by simp [maxLen];omega,by simp;omega,trivial⟩ <| AX rfl <| AZ 2 3 rfl <| Ae (ih (i+1,true,es++Gg (Bm t)) (by simp only;omega) ⟨by simp only;omega,by simp only;rw [Be ht,EO,Od,hi2];simp [AN],λh=>by cases h⟩) ⟨AA (Cb (by simp only;omega) (by simp only;omega)),AM⟩ AM rfl
   ·refine By 2 rfl <| B5 rfl <| Ag ⟨_,rfl,?_,trivial⟩;simp at h;rw [CD (by omega)] at hi2;simp only [Bm];rw [if_neg (by assumption),hi2];rfl
termination_by t=>SizeOf.sizeOf t
decreasing_by
 all_goals
  have:=Cn (AF ht);simp_wf;omega
def BC (pre:List Str):List Str->Bool
 | []=>true
 | x::r=>!BO pre x&&BC (pre++[x]) r
def Kc (l:List Str):Bool:=BC [] l
theorem eX (l:List Str) (n:Nat):(Gg l).take n=Gg (l.take n):=by simp [Gg,TJ]
theorem fP (l:List Str):Al Tryz.prog 218 [.sl (Gg l)] (.bool (Kc l)):=by
 refine B1 λhv=>?_;simp [CL,Fh,maxLen] at hv;refine Ac BM Tryz.func218 (by decide +kernel) rfl [1,2] rfl rfl <| AX rfl <| Ak (λi:Nat=>[(3,.imm (.int .i64 i)),(0,.imm (.sl (Gg l)))]) (λ_=>[]) [1] (λi=>l.length-i) (λi=>i<=l.length/\Kc l=BC (l.take i) (l.drop i)) 0
  ⟨AL _,rfl⟩ AM trivial rfl λi hi ih=>?_
 refine B5 rfl <| Aa rfl (λh=>?_) (λh=>?_)
 ·simp at h;obtain ⟨t,ht⟩:=Ao h;have e:=hi.2;rw [Av ht] at e;refine kd [] rfl (by simp;exact ⟨by omega,QG l⟩) <| ki rfl (c:=[.str t]) (λ_=>⟨by simp,by simpa using QH ht,rfl⟩) (by simp) <| AX rfl <| Aj rfl (v:=.bool (BO (l.take i) t)) (λ_=>?_) (by simp) ?_
  ·have:=nX (l.take i) t;rw [<- eX] at this;exact this
  refine kg [] rfl (by first | exact ⟨by kernel_rfl,trivial⟩ | simp) <| Aa rfl (λh=>?_) (λh=>?_)
  ·refine B5 rfl <| Ab rfl rfl (congrArg _ ?_);rw [e];simp [BC,h]
  ·exact B5 rfl <| Ae (ih (i+1) (by omega) ⟨by omega,by rw [e,Be ht];simp [BC,h]⟩) ⟨AA (Cb (by omega) (by omega)),AI⟩ trivial rfl
 ·refine B5 rfl <| Ab rfl rfl (congrArg _ ?_);simp at h;rw [hi.2,Br (by omega)];rfl
def Iy (t:Ty):Bool:=decide (0<=BQ t 12)&&Ea t&&Kc (Bm t)
theorem uZ (t:Ty):Al Tryz.prog 144 [.agg (dTyc t)] (.bool (Iy t)):=by
 refine Ac BM Tryz.func144 (by decide +kernel) rfl [1,2,3] rfl rfl <| AX rfl <| Aj rfl (λ_=>Oj t 12 (by decide) (by decide)) (by simp) <| AX rfl <| Aj rfl (λ_=>Z9 t) (by simp [Am]) <| AX rfl <| Aj rfl (v:=.sl (Gg (Bm t))) (λhc=>JI t ?_) (by simp [Am]) ?_
 ·simp [Am] at hc;have:=EJ t 12 hc.1;omega
 refine AX rfl <| Aj rfl (λ_=>fP (Bm t)) (by simp [Am]) <| AX rfl <| Ab rfl rfl (congrArg _ ?_);simp [Iy]
def C6 (op n:Int) (x:Str) (k p:Nat):Bool :=
 if op=1 then ((k:Int) == 0)&&CB n x p true false false&&F9 n (-1000000000) 1000000000
 else if op=2 then ((k:Int) == 0)&&CB n x p true false false&&F9 n 0 1
 else if op=3\/op=21\/op=25\/op=28 then ((k:Int) == 0)&&CB n x p false false false
 else if op=4 then ((k:Int) == 0)&&CB n x p false true false&&EA x
 else if op=5\/op=27 then ((k:Int) == 1)&&CB n x p false true false&&EA x
 else if op=7 then ((k:Int) == 2)&&CB n x p false true false&&EA x
 else if op=8 then ((k:Int) == 3)&&CB n x p false false false
 else if op=14 then decide ((k:Int)<=3)&&CB n x p false true false&&Es x
 else if op=15 then F9 p 1 5&&((k:Int) == 1+(p:Int))&&CB n x p false false true
 else if op=16\/op=17\/op=19\/op=20\/op=23\/op=26 then ((k:Int) == 1)&&CB n x p false false false
 else if op=24 then ((k:Int) == 1)&&CB n x p true false false&&F9 n 0 3
 else if op=6\/op=9\/op=10\/op=11\/op=12\/op=13\/op=18\/op=22 then ((k:Int) == 2)&&CB n x p false false false
 else false
theorem pG (op n:Int) (x:Str) (ks:List Tm) (ps:List Ty):Al Tryz.prog 143 [.agg (Bo (.mk op n x ks ps))] (.bool (C6 op n x ks.length ps.length)):=by
 refine B1 λhv=>?_;simp [CL,Fh,Bo,maxLen] at hv;refine Ac BM Tryz.func143 (by decide +kernel) rfl [1,2,3] rfl rfl ?_;by_cases h1:op=1
 ·subst h1;exact kg [.a] rfl (by simp) <| Aj rfl (λ_=>B3 1 n x ks ps true false false) (by simp [Am]) <| AX rfl <| Aj rfl (λ_=>LZ n (-1000000000) 1000000000) (by simp [Am]) <| AX rfl <| Ag ⟨_,rfl,tV (congrArg _ (by simp [C6])),trivial⟩
 by_cases h2:op=2
 ·subst h2;exact kg [.a,.a] rfl (by simp) <| Aj rfl (λ_=>B3 2 n x ks ps true false false) (by simp [Am]) <| AX rfl <| Aj rfl (λ_=>LZ n 0 1) (by simp [Am]) <| AX rfl <| Ag ⟨_,rfl,tV (congrArg _ (by simp [C6])),trivial⟩
 by_cases h3:op=3
 ·subst h3;exact kg [.a,.a,.a,.a] rfl (by simp) <| Aj rfl (λ_=>B3 3 n x ks ps false false false) (by simp [Am]) <| AX rfl <| Ag ⟨_,rfl,tV (congrArg _ (by simp [C6])),trivial⟩
 by_cases h21:op=21
 ·subst h21;exact kg [.a,.a,.a,.a,.a] rfl (by simp) <| Aj rfl (λ_=>B3 21 n x ks ps false false false) (by simp [Am]) <| AX rfl <| Ag ⟨_,rfl,tV (congrArg _ (by simp [C6])),trivial⟩
 by_cases h25:op=25
 ·subst h25;exact kg [.a,.a,.a,.a,.a,.a] rfl (by simp) <| Aj rfl (λ_=>B3 25 n x ks ps false false false) (by simp [Am]) <| AX rfl <| Ag ⟨_,rfl,tV (congrArg _ (by simp [C6])),trivial⟩
 by_cases h28:op=28
 ·subst h28;exact kg [.a,.a,.a,.a,.a,.a] rfl (by simp) <| Aj rfl (λ_=>B3 28 n x ks ps false false false) (by simp [Am]) <| AX rfl <| Ag ⟨_,rfl,tV (congrArg _ (by simp [C6])),trivial⟩
 by_cases h4:op=4
 ·subst h4;exact kg [.a,.a,.a,.a,.a,.a,.a] rfl (by simp) <| Aj rfl (λ_=>B3 4 n x ks ps false true false) (by simp [Am]) <| AX rfl <| Aj rfl (λ_=>HD x) (by simp [Am]) <| AX rfl <| Ag ⟨_,rfl,tV (congrArg _ (by simp [C6])),trivial⟩
 by_cases h5:op=5
 ·subst h5;exact kg [.a,.a,.a,.a,.a,.a,.a,.a,.a] rfl (by simp) <| Aj rfl (λ_=>B3 5 n x ks ps false true false) (by simp [Am]) <| AX rfl <| Aj rfl (λ_=>HD x) (by simp [Am]) <| AX rfl <| Ag ⟨_,rfl,tV (congrArg _ (by simp [C6])),trivial⟩
 by_cases h27:op=27
 ·subst h27;exact kg [.a,.a,.a,.a,.a,.a,.a,.a,.a] rfl (by simp) <| Aj rfl (λ_=>B3 27 n x ks ps false true false) (by simp [Am]) <| AX rfl <| Aj rfl (λ_=>HD x) (by simp [Am]) <| AX rfl <| Ag ⟨_,rfl,tV (congrArg _ (by simp [C6])),trivial⟩
 by_cases h7:op=7
 ·subst h7;exact kg [.a,.a,.a,.a,.a,.a,.a,.a,.a,.a] rfl (by simp) <| Aj rfl (λ_=>B3 7 n x ks ps false true false) (by simp [Am]) <| AX rfl <| Aj rfl (λ_=>HD x) (by simp [Am]) <| AX rfl <| Ag ⟨_,rfl,tV (congrArg _ (by simp [C6])),trivial⟩
 by_cases h8:op=8
 ·subst h8;exact kg [.a,.a,.a,.a,.a,.a,.a,.a,.a,.a,.a] rfl (by simp) <| Aj rfl (λ_=>B3 8 n x ks ps false false false) (by simp [Am]) <| AX rfl <| Ag ⟨_,rfl,tV (congrArg _ (by simp [C6])),trivial⟩
 by_cases h14:op=14
 ·subst h14;exact kg [.a,.a,.a,.a,.a,.a,.a,.a,.a,.a,.a,.a] rfl (by simp) <| Aj rfl (λ_=>B3 14 n x ks ps false true false) (by simp [Am]) <| AX rfl <| Aj rfl (λ_=>JJ x) (by simp [Am]) <| AX rfl <| Ag ⟨_,rfl,tV (congrArg _ (by simp [C6])),trivial⟩
 by_cases h15:op=15
 ·subst h15;refine kg [.a,.a,.a,.a,.a,.a,.a,.a,.a,.a,.a,.a,.a] rfl (by simp) <| Aj rfl (v:=.bool (F9 ps.length 1 5)) (λ_=>by have:=LZ ps.length 1 5;simpa using this) (by simp [Am]) <| AX rfl <| Aj rfl (λ_=>B3 15 n x ks ps false false true) (by simp [Am]) <| AX rfl ?_;have hw:IntKind.i64.wrap (1+(ps.length:Int))=1+ps.length\/F9 ps.length 1 5=false:=by
   by_cases hp:ps.length<=5
   ·exact .inl (Cb (by omega) (by omega))
   ·exact .inr (by simp [F9];omega)
  refine Ab rfl rfl (congrArg _ ?_);rcases hw with hw | hw <;> simp [C6,hw]
 by_cases h16:op=16
 ·subst h16;exact kg [.a,.a,.a,.a,.a,.a,.a,.a,.a,.a,.a,.a,.a,.a,.a] rfl (by simp) <| Aj rfl (λ_=>B3 16 n x ks ps false false false) (by simp [Am]) <| AX rfl <| Ag ⟨_,rfl,tV (congrArg _ (by simp [C6])),trivial⟩
 by_cases h17:op=17
 ·subst h17;exact kg [.a,.a,.a,.a,.a,.a,.a,.a,.a,.a,.a,.a,.a,.a,.a,.a] rfl (by simp) <| Aj rfl (λ_=>B3 17 n x ks ps false false false) (by simp [Am]) <| AX rfl <| Ag ⟨_,rfl,tV (congrArg _ (by simp [C6])),trivial⟩
 by_cases h19:op=19
 ·subst h19;exact kg [.a,.a,.a,.a,.a,.a,.a,.a,.a,.a,.a,.a,.a,.a,.a,.a,.a] rfl (by simp) <| Aj rfl (λ_=>B3 19 n x ks ps false false false) (by simp [Am]) <| AX rfl <| Ag ⟨_,rfl,tV (congrArg _ (by simp [C6])),trivial⟩
 by_cases h20:op=20
 ·subst h20;exact kg [.a,.a,.a,.a,.a,.a,.a,.a,.a,.a,.a,.a,.a,.a,.a,.a,.a,.a] rfl (by simp) <| Aj rfl (λ_=>B3 20 n x ks ps false false false) (by simp [Am]) <| AX rfl <| Ag ⟨_,rfl,tV (congrArg _ (by simp [C6])),trivial⟩
 by_cases h23:op=23
 ·subst h23;exact kg [.a,.a,.a,.a,.a,.a,.a,.a,.a,.a,.a,.a,.a,.a,.a,.a,.a,.a,.a] rfl (by simp) <| Aj rfl (λ_=>B3 23 n x ks ps false false false) (by simp [Am]) <| AX rfl <| Ag ⟨_,rfl,tV (congrArg _ (by simp [C6])),trivial⟩
 by_cases h26:op=26
 ·subst h26;exact kg [.a,.a,.a,.a,.a,.a,.a,.a,.a,.a,.a,.a,.a,.a,.a,.a,.a,.a,.a] rfl (by simp) <| Aj rfl (λ_=>B3 26 n x ks ps false false false) (by simp [Am]) <| AX rfl <| Ag ⟨_,rfl,tV (congrArg _ (by simp [C6])),trivial⟩
 by_cases h24:op=24
 ·subst h24;exact kg [.a,.a,.a,.a,.a,.a,.a,.a,.a,.a,.a,.a,.a,.a,.a,.a,.a,.a,.a,.a] rfl (by simp) <| Aj rfl (λ_=>B3 24 n x ks ps true false false) (by simp [Am]) <| AX rfl <| Aj rfl (λ_=>LZ n 0 3) (by simp [Am]) <| AX rfl <| Ag ⟨_,rfl,tV (congrArg _ (by simp [C6])),trivial⟩
 by_cases h6:op=6
 ·subst h6;exact kg [.a,.a,.a,.a,.a,.a,.a,.a,.a,.a,.a,.a,.a,.a,.a,.a,.a,.a,.a,.a,.a,.a] rfl (by simp) <| Aj rfl (λ_=>B3 6 n x ks ps false false false) (by simp [Am]) <| AX rfl <| Ag ⟨_,rfl,tV (congrArg _ (by simp [C6])),trivial⟩
 by_cases h9:op=9
 ·subst h9;exact kg [.a,.a,.a,.a,.a,.a,.a,.a,.a,.a,.a,.a,.a,.a,.a,.a,.a,.a,.a,.a,.a,.a,.a] rfl (by simp) <| Aj rfl (λ_=>B3 9 n x ks ps false false false) (by simp [Am]) <| AX rfl <| Ag ⟨_,rfl,tV (congrArg _ (by simp [C6])),trivial⟩
 by_cases h10:op=10
 ·subst h10;exact kg [.a,.a,.a,.a,.a,.a,.a,.a,.a,.a,.a,.a,.a,.a,.a,.a,.a,.a,.a,.a,.a,.a,.a,.a] rfl (by simp) <| Aj rfl (λ_=>B3 10 n x ks ps false false false) (by simp [Am]) <| AX rfl <| Ag ⟨_,rfl,tV (congrArg _ (by simp [C6])),trivial⟩
 by_cases h11:op=11
 ·subst h11;exact kg [.a,.a,.a,.a,.a,.a,.a,.a,.a,.a,.a,.a,.a,.a,.a,.a,.a,.a,.a,.a,.a,.a,.a,.a,.a] rfl (by simp) <| Aj rfl (λ_=>B3 11 n x ks ps false false false) (by simp [Am]) <| AX rfl <| Ag ⟨_,rfl,tV (congrArg _ (by simp [C6])),trivial⟩
 by_cases h12:op=12
 ·subst h12;exact kg [.a,.a,.a,.a,.a,.a,.a,.a,.a,.a,.a,.a,.a,.a,.a,.a,.a,.a,.a,.a,.a,.a,.a,.a,.a,.a] rfl (by simp) <| Aj rfl (λ_=>B3 12 n x ks ps false false false) (by simp [Am]) <| AX rfl <| Ag ⟨_,rfl,tV (congrArg _ (by simp [C6])),trivial⟩
 by_cases h13:op=13
 ·subst h13;exact kg [.a,.a,.a,.a,.a,.a,.a,.a,.a,.a,.a,.a,.a,.a,.a,.a,.a,.a,.a,.a,.a,.a,.a,.a,.a,.a,.a] rfl (by simp) <| Aj rfl (λ_=>B3 13 n x ks ps false false false) (by simp [Am]) <| AX rfl <| Ag ⟨_,rfl,tV (congrArg _ (by simp [C6])),trivial⟩
 by_cases h18:op=18
 ·subst h18;exact kg [.a,.a,.a,.a,.a,.a,.a,.a,.a,.a,.a,.a,.a,.a,.a,.a,.a,.a,.a,.a,.a,.a,.a,.a,.a,.a,.a,.a] rfl (by simp) <| Aj rfl (λ_=>B3 18 n x ks ps false false false) (by simp [Am]) <| AX rfl <| Ag ⟨_,rfl,tV (congrArg _ (by simp [C6])),trivial⟩
 by_cases h22:op=22
 ·subst h22;exact kg [.a,.a,.a,.a,.a,.a,.a,.a,.a,.a,.a,.a,.a,.a,.a,.a,.a,.a,.a,.a,.a,.a,.a,.a,.a,.a,.a,.a] rfl (by simp) <| Aj rfl (λ_=>B3 22 n x ks ps false false false) (by simp [Am]) <| AX rfl <| Ag ⟨_,rfl,tV (congrArg _ (by simp [C6])),trivial⟩
 exact kg [.f,.f,.f,.f,.f,.f,.f,.f,.f,.f,.f,.f,.f,.f,.f,.f,.f,.f,.f,.f,.f,.f,.f,.f,.f,.f,.f,.f] rfl (by simp [h1,h2,h3,h21,h25,h28,h4,h5,h27,h7,h8,h14,h15,h16,h17,h19,h20,h23,h26,h24,h6,h9,h10,h11,h12,h13,h18,h22]) <| Ag ⟨_,rfl,tV (congrArg _ (by simp [C6,h1,h2,h3,h21,h25,h28,h4,h5,h27,h7,h8,h14,h15,h16,h17,h19,h20,h23,h26,h24,h6,h9,h10,h11,h12,h13,h18,h22])),trivial⟩
mutual
def Cy:Tm->Bool
 | .mk op n x ks ps=>C6 op n x ks.length ps.length&&ps.all Iy&&Df ks
def Df:List Tm->Bool
 | []=>true
 | t::r=>Cy t&&Df r
end
theorem Vm:∀(t:Tm),Al Tryz.prog 85 [.agg (Bo t)] (.bool (Cy t))
 | .mk op n x ks ps=>by
  refine B1 λhv=>?_;simp [CL,Fh,Bo,maxLen] at hv;refine Ac BM Tryz.func85 (by decide +kernel) rfl [1,2,3] rfl rfl <| AX rfl <| Aj rfl (λ_=>pG op n x ks ps) (by simp) <| AX rfl <| Aa rfl (λh=>?_) (λh=>?_)
  ·refine B5 rfl <| Ab rfl rfl (congrArg _ ?_);simp at h;simp [Cy,h]
  simp at h;have hx:C6 op n x ks.length ps.length=true:=h;clear h;refine B5 rfl <| Ak (λi:Nat=>[(3,.imm (.int .i64 i)),(1,.ref 1 0)]) (λ_=>[(1,some (.immb 49 5 (Bo (.mk op n x ks ps))))]) [2,3] (λi=>ps.length-i)
   (λi=>i<=ps.length/\(List.all · Iy) ps=(List.all · Iy) (ps.drop i)) 0 ⟨AL _,rfl⟩ AM AI rfl λi hi ih=>?_
  refine B5 rfl <| Aa rfl (λh=>?_) (λh=>?_)
  ·simp at h;obtain ⟨t,ht⟩:=Ao h;have e:=hi.2;rw [Av ht] at e;refine B5 rfl <| ki rfl (c:=dTyc t) (λ_=>⟨by simp,by simpa using A8 ht,by simp⟩) (by simp) <| AX rfl <| Aj rfl (λ_=>uZ t) (by simp) <| AX rfl <| Aa rfl (λh=>?_) (λh=>?_)
   ·refine B5 rfl <| Ab rfl rfl (congrArg _ ?_);simp at h;simp [Cy,hx,e,Df,Da,h]
   ·refine B5 rfl ?_;simp at h;exact Ae (ih (i+1) (by omega) ⟨by omega,by rw [e];simp [Df,Da,h]⟩) ⟨AA (Cb (by omega) (by omega)),AI⟩ AI rfl
  simp at h;have hps:(List.all · Iy) ps=true:=by rw [hi.2,Br (by omega)];rfl
  clear ih hi h;refine B5 rfl <| Ak (λi:Nat=>[(4,.imm (.int .i64 i)),(1,.ref 1 0)]) (λ_=>[(1,some (.immb 49 5 (Bo (.mk op n x ks ps))))]) [2,3] (λi=>ks.length-i)
   (λi=>i<=ks.length/\Df ks=Df (ks.drop i)) 0 ⟨AL _,rfl⟩ AM AI rfl λi hi ih=>?_
  refine B5 rfl <| Aa rfl (λh=>?_) (λh=>?_)
  ·simp at h;obtain ⟨t,ht⟩:=Ao h;have e:=hi.2;rw [Av ht] at e;refine B5 rfl <| ki rfl (c:=Bo t) (λ_=>⟨by simp,by simpa using Fz ht,by simp⟩) (by simp) <| AX rfl <| Aj rfl (λ_=>Vm t) (by simp) <| AX rfl <| Aa rfl (λh=>?_) (λh=>?_)
   ·refine B5 rfl <| Ab rfl rfl (congrArg _ ?_);simp at h;simp [Cy,hx,e,Df,Da,h]
   ·refine B5 rfl ?_;simp at h;exact Ae (ih (i+1) (by omega) ⟨by omega,by rw [e];simp [Df,Da,h]⟩) ⟨AA (Cb (by omega) (by omega)),AI⟩ AI rfl
  simp at h;have hks:Df ks=true:=by rw [hi.2,Br (by omega)];rfl
  clear ih hi h;refine B5 rfl <| Ab rfl rfl (congrArg _ ?_);simp only [Cy];have hps:ps.all Iy=true:=hps;rw [hps,hks];simp [hx]
termination_by t=>SizeOf.sizeOf t
decreasing_by
 have:=Cn (AF ht);simp_wf;omega
def RJ (t:Tm):Bool:=decide (0<=Bp t 60 14)&&Cy t
theorem aU (t:Tm):Al Tryz.prog 29 [.agg (Bo t)] (.bool (RJ t)):=by
 refine Ac BM Tryz.func29 (by decide +kernel) rfl [1,2,3] rfl rfl <| AX rfl <| Aj rfl (λ_=>WM t 60 14 (by decide) (by decide) (by decide) (by decide)) (by simp) <| AX rfl <| Aj rfl (λ_=>Vm t) (by simp [Am]) <| AX rfl <| Ab rfl rfl (congrArg _ ?_);simp [RJ]
theorem G8 {α β:Type} {f:α->β} {l:List α} {i:Nat} {t:α} (h:l[i]?=some t):(l.map f)[i]?=some (f t):=by simp [h]
@[simp] theorem dCdc_length (c:Cd):(EY c).length=2:=rfl
@[simp] theorem dDtc_length (c:Dt):(CK c).length=2:=rfl
@[simp] theorem dMdc_length (m:Md):(El m).length=3:=rfl
@[simp] theorem dFdc_length (c:Fd):(CG c).length=15:=by simp [CG]
def O8 (c:Cd):Bool:=Es c.name&&decide ((c.args.length:Int)<=3)&&c.args.all Gl
def IP (d:Dt):Bool:=Es d.name&&F9 d.cons.length 1 5&&d.cons.all O8
def Qw (f:Fd):Bool:=EA f.name&&EA f.param&&Gl f.from_&&Gl f.to_&&RJ f.body
def Ef (m:Md):Bool:=EA m.name&&decide ((m.datas.length:Int)<=4)&&F9 m.funs.length 1 5&&m.datas.all IP&&m.funs.all Qw
theorem qY (d:Dt):Al Tryz.prog 84 [.agg (CK d)] (.bool (IP d)):=by
 obtain ⟨nm,cs⟩:=d;refine B1 λhv=>?_;simp [CL,Fh,CK,maxLen] at hv;refine Ac BM Tryz.func84 (by decide +kernel) rfl [1,2,3] rfl rfl <| AX rfl <| Aj rfl (λ_=>JJ nm) (by simp) <| AX rfl <| Aj rfl (v:=.bool (F9 cs.length 1 5)) (λ_=>by have:=LZ cs.length 1 5;simpa using this) (by simp [Am]) <| AX rfl <| Aa rfl (λh=>?_) (λh=>?_)
 ·refine B5 rfl <| Ab rfl rfl (congrArg _ ?_);simp at h;simp [IP];grind
 have hx:(Es nm&&F9 cs.length 1 5)=true:=by simp at h ⊢;grind
 clear h;refine B5 rfl <| Ak (λi:Nat=>[(3,.imm (.int .i64 i)),(1,.ref 1 0)]) (λ_=>[(1,some (.immb 113 2 (CK ⟨nm,cs⟩)))]) [2,3] (λi=>cs.length-i)
  (λi=>i<=cs.length/\cs.all O8=(cs.drop i).all O8) 0 ⟨AL _,rfl⟩ AM AI rfl λi hi ih=>?_
 refine B5 rfl <| Aa rfl (λh=>?_) (λh=>?_)
 ·simp at h;obtain ⟨c,hc⟩:=Ao h;have e:=hi.2;rw [Av hc] at e;refine B5 rfl <| ki rfl (c:=EY c) (λ_=>⟨by simp,by simpa using G8 hc,by simp⟩) (by simp) ?_;obtain ⟨cn,ag⟩:=c;refine AX rfl <| Aj rfl (λ_=>JJ cn) (by simp) <| AX rfl <| Aa rfl (λh=>?_) (λh=>?_)
  ·refine B5 rfl <| Ab rfl rfl (congrArg _ ?_);simp at h;have:O8 ⟨cn,ag⟩=false:=by simp [O8];grind
   simp [IP,e,this]
  have hy:(Es cn&&decide ((ag.length:Int)<=3))=true:=by simp at h ⊢;grind
  have hal:ag.length<=6:=by simp at hy;omega
  clear h;refine B5 rfl <| Ak (λj:Nat=>[(5,.imm (.int .i64 j)),(4,.ref 2 0),(3,.imm (.int .i64 i)),(1,.ref 1 0)]) (λ_=>[(2,some (.immb 178 2 (EY ⟨cn,ag⟩))),(1,some (.immb 113 2 (CK ⟨nm,cs⟩)))]) [3] (λj=>ag.length-j)
   (λj=>j<=ag.length/\ag.all Gl=(ag.drop j).all Gl) 0 ⟨AL _,rfl⟩ BF AM rfl λj hj ihj=>?_
  refine B5 rfl <| Aa rfl (λh=>?_) (λh=>?_)
  ·simp at h;obtain ⟨t,ht⟩:=Ao h;have ej:=hj.2;rw [Av ht] at ej;refine B5 rfl <| ki rfl (c:=dTyc t) (λ_=>⟨by simp,by simpa using A8 ht,by simp⟩) (by simp) <| AX rfl <| Aj rfl (λ_=>QU t) (by simp) <| AX rfl <| Aa rfl (λh=>?_) (λh=>?_)
   ·refine B5 rfl <| Ab rfl rfl (congrArg _ ?_);simp at h;have:O8 ⟨cn,ag⟩=false:=by simp only [O8];rw [ej];simp [h]
    simp [IP,e,this]
   ·refine B5 rfl ?_;simp at h;exact Ae (ihj (j+1) (by omega) ⟨by omega,by rw [ej];simp [h]⟩) ⟨AA (Cb (by omega) (by omega)),AD⟩ AM rfl
  ·simp at h;refine B5 rfl ?_;have:O8 ⟨cn,ag⟩=true:=by
    simp only [O8];rw [hj.2,Br (by omega)];simpa using hy
   exact Ae (ih (i+1) (by omega) ⟨by omega,by rw [e];simp [this]⟩) ⟨AA (Cb (by omega) (by omega)),AI⟩ AI rfl
 ·refine B5 rfl <| Ab rfl rfl (congrArg _ ?_);simp at h;simp only [IP];rw [hi.2,Br (by omega)];simpa using hx.symm
theorem fL (m:Md):Al Tryz.prog 27 [.agg (El m)] (.bool (Ef m)):=by
 obtain ⟨nm,ds,fs⟩:=m;refine B1 λhv=>?_;simp [CL,Fh,El,maxLen] at hv;refine Ac BM Tryz.func27 (by decide +kernel) rfl [1,2,3] rfl rfl <| AX rfl <| Aj rfl (λ_=>HD nm) (by simp) <| AX rfl <| Aj rfl (v:=.bool (F9 fs.length 1 5)) (λ_=>by have:=LZ fs.length 1 5;simpa using this) (by simp [Am]) <| AX rfl <| Aa rfl (λh=>?_) (λh=>?_)
 ·refine B5 rfl <| Ab rfl rfl (congrArg _ ?_);simp at h;simp [Ef];grind
 have hx:(EA nm&&decide ((ds.length:Int)<=4)&&F9 fs.length 1 5)=true:=by simp at h ⊢;grind
 clear h;refine B5 rfl <| Ak (λi:Nat=>[(3,.imm (.int .i64 i)),(1,.ref 1 0)]) (λ_=>[(1,some (.immb 43 3 (El ⟨nm,ds,fs⟩)))]) [2,3] (λi=>ds.length-i)
  (λi=>i<=ds.length/\ds.all IP=(ds.drop i).all IP) 0 ⟨AL _,rfl⟩ AM AI rfl λi hi ih=>?_
 refine B5 rfl <| Aa rfl (λh=>?_) (λh=>?_)
 ·simp at h;obtain ⟨c,hc⟩:=Ao h;have e:=hi.2;rw [Av hc] at e;refine B5 rfl <| ki rfl (c:=CK c) (λ_=>⟨by simp,by simpa using G8 hc,by simp⟩) (by simp) <| AX rfl <| Aj rfl (λ_=>qY c) (by simp) <| AX rfl <| Aa rfl (λh=>?_) (λh=>?_)
  ·refine B5 rfl <| Ab rfl rfl (congrArg _ ?_);simp at h;simp [Ef,e,h]
  ·refine B5 rfl ?_;simp at h;exact Ae (ih (i+1) (by omega) ⟨by omega,by rw [e];simp [h]⟩) ⟨AA (Cb (by omega) (by omega)),AI⟩ AI rfl
 simp at h;have hds:ds.all IP=true:=by rw [hi.2,Br (by omega)];rfl
 clear ih hi h;refine B5 rfl <| Ak (λi:Nat=>[(4,.imm (.int .i64 i)),(1,.ref 1 0)]) (λ_=>[(1,some (.immb 43 3 (El ⟨nm,ds,fs⟩)))]) [2,3] (λi=>fs.length-i)
  (λi=>i<=fs.length/\fs.all Qw=(fs.drop i).all Qw) 0 ⟨AL _,rfl⟩ AM AI rfl λi hi ih=>?_
 refine B5 rfl <| Aa rfl (λh=>?_) (λh=>?_)
 ·simp at h;obtain ⟨c,hc⟩:=Ao h;have e:=hi.2;rw [Av hc] at e;refine B5 rfl <| ki rfl (c:=CG c) (λ_=>⟨by simp,by simpa using G8 hc,by simp⟩) (by simp) ?_;obtain ⟨fnm,fpa,⟨s1,n1,x1,p1⟩,⟨s2,n2,x2,p2⟩,⟨op,n3,x3,ks,p3⟩⟩:=c;refine AX rfl <| Aj rfl (λ_=>HD fnm) (by simp [Am]) <| AX rfl <| Aj rfl (λ_=>HD fpa) (by simp [Am]) <| AX rfl <| Aj rfl (λ_=>QU (.mk s1 n1 x1 p1)) (by simp [Am]) <| AX rfl <| Aj rfl (λ_=>QU (.mk s2 n2 x2 p2)) (by simp [Am]) <| AX rfl <| Aj rfl (λ_=>aU (.mk op n3 x3 ks p3)) (by simp [Am]) <| AX rfl <| Aa rfl (λh=>?_) (λh=>?_)
  ·refine B5 rfl <| Ab rfl rfl (congrArg _ ?_);simp at h;have:Qw ⟨fnm,fpa,.mk s1 n1 x1 p1,.mk s2 n2 x2 p2,.mk op n3 x3 ks p3⟩=false:=by simp [Qw];grind
   simp [Ef,e,this]
  ·refine B5 rfl ?_;simp at h;have:Qw ⟨fnm,fpa,.mk s1 n1 x1 p1,.mk s2 n2 x2 p2,.mk op n3 x3 ks p3⟩=true:=by simp [Qw];grind
   exact Ae (ih (i+1) (by omega) ⟨by omega,by rw [e];simp [this]⟩) ⟨AA (Cb (by omega) (by omega)),AI⟩ AI rfl
 ·refine B5 rfl <| Ab rfl rfl (congrArg _ ?_);simp at h;simp only [Ef];rw [hds,hi.2,Br (by omega)];simpa using hx.symm
def FA:V:=.iface 293 (.agg [])
def gF:TT:=Zo++[
 (293,⟨.struct [],true,0,0,[]⟩),
 (195,⟨.struct [(0,3),(1,3)],true,2,16,[.imm (.int .i64 0),.imm (.int .i64 0)]⟩),
 (1,⟨.func,false,1,8,[.imm .nilfn]⟩)]
theorem AW:TTok Tryz.prog gF:=.of_eq (l:=[4,3,9,49,25,182,45,47,5,23,22,73,46,180,71,43,178,40,41,113,111,28,293,195,1]) (by kernel_rfl)
section
variable {n:Nat} {F:List Nat} {Q:DQ} {env env':Env} {st st':St} {ids ids':List Nat} {k todo:List DI} {ob:List Prop}
theorem td (path:List Pt) (h:run gF n 300 path todo env st ids [] = .at k env' st' ids' ob) (hob:AB ob) (hd:G Tryz.prog n F Q k env' st' ids'):DGo Tryz.prog n F Q todo env st ids:=KK AW Fb 300 path h hob hd
theorem G3 (h:run gF n 300 [] todo env st ids [] = .at k env' st' ids' ob) (hd:G Tryz.prog n F Q k env' st' ids') (hob:AB ob:=by simp):DGo Tryz.prog n F Q todo env st ids:=td [] h hob hd
theorem tdqc (h:run gF n 300 [] todo env st ids [] = .at k env' st' ids' ob) (hd:G Tryz.prog n F Q k env' st' ids') (hob:AB ob:=by simp [Am]):DGo Tryz.prog n F Q todo env st ids:=td [] h hob hd
theorem tg (path:List Pt) (h:run gF n 300 path todo env st ids [] = .at k env' st' ids' ob) (hob:AB ob) (hd:G Tryz.prog n F Q k env' st' ids'):G Tryz.prog n F Q todo env st ids:=J6 AW Fb 300 path h hob hd
theorem Cp (h:run gF n 300 [] todo env st ids [] = .at k env' st' ids' ob) (hd:G Tryz.prog n F Q k env' st' ids') (hob:AB ob:=by simp):G Tryz.prog n F Q todo env st ids:=tg [] h hob hd
theorem tgqc (h:run gF n 300 [] todo env st ids [] = .at k env' st' ids' ob) (hd:G Tryz.prog n F Q k env' st' ids') (hob:AB ob:=by simp [Am]):G Tryz.prog n F Q todo env st ids:=tg [] h hob hd
theorem ti {es:List (List V)} {m:Int} {sz:Nat} {e:TypeId} {g:Option (Bool×Bool)} {ob:List Prop} {t:Nat} {todo':List DI} {c:List V} (h:Rh gF n env todo=some ⟨es,m,sz,e,g,ob,some t,todo'⟩)
  (hc:Am g->0<=m/\es[m.toNat]?=some c/\c.length=sz) (hob:AB ob) (hk:G Tryz.prog n F Q todo' ((t,gD g (.ip e c 0))::env) st ids):G Tryz.prog n F Q todo env st ids:=H5 AW h hc hob hk
end
theorem fX:Al Tryz.prog 254 [.bool true] (.tup []):=by
 exact Ac AW Tryz.func254 (by decide +kernel) rfl [1,2] rfl rfl <| tg [.a] rfl (by simp) <| BE ⟨_,AM⟩
theorem oF:AK Tryz.prog 254 [.imm (.bool false)] [] (.pan FA):=by
 exact Ac AW Tryz.func254 (by decide +kernel) rfl [1,2] rfl rfl <| tg [.a] rfl (by simp) <| Ik rfl rfl rfl rfl
end Go.Hk
namespace Go.Hk
open Go.Proofs
theorem B7 (b:Bool) (h:b=true):Al Tryz.prog 254 [.bool b] (.tup []):=by subst h;exact fX
theorem Cf (b:Bool) (h:b=false):AK Tryz.prog 254 [.imm (.bool b)] [] (.pan FA):=by subst h;exact oF
def CF (a b:Int):Blk:=.immb 195 2 [.int .i64 a,.int .i64 b]
theorem GH (n d x:Int) (h0:1<=n) (h1:n<=4611686018427387904) (hx:x<=d):AK Tryz.prog 190 [.ref 1 0,.imm (.int .i64 x)] [(1,some (CF n d))] (.ret (.imm (.tup [])) [(1,some (CF (n-1) d))]):=by
 have hw:IntKind.i64.wrap (n-1)=n-1:=Cb (by omega) (by omega);refine Ac AW Tryz.func190 (by decide +kernel) rfl [2,3] rfl rfl <| Cp rfl <| Aj rfl (λ_=>B7 _ (by simp [hw];omega)) (by simp) <| Cp rfl <| BE ⟨_,rfl,rfl,?_⟩;simp only [hw];exact AI
theorem Pp (n d x:Int) (h0 : -1<=n) (h1:n<=4611686018427387904) (hx:n<1\/d<x):AK Tryz.prog 190 [.ref 1 0,.imm (.int .i64 x)] [(1,some (CF n d))] (.pan FA):=by
 have hw:IntKind.i64.wrap (n-1)=n-1:=Cb (by omega) (by omega);exact Ac AW Tryz.func190 (by decide +kernel) rfl [2,3] rfl rfl <| Cp rfl <| AC [] rfl (by simp) (Cf _ (by simp [hw];omega)) trivial rfl rfl
theorem FS {ps:List Ty} {i:Nat} {t:Ty} (h:ps[i]?=some t):A0 (ps.drop i)=Bv t+A0 (ps.drop (i+1)):=by rw [Av h];rfl
theorem JU:∀(t:Ty) (n:Int),(Bv t:Int)<=n->n<=4611686018427387904->AK Tryz.prog 247 [.ref 1 0,.imm (.agg (dTyc t))] [(1,some (CF n 0))] (.ret (.imm (.tup [])) [(1,some (CF (n-Bv t) 0))])
 | .mk s m x ps,n,h0,h1=>by
  refine E1 1 rfl λhok=>?_;have hv:ps.length<=9223372036854775807:=by
   simp [CL,Fh,dTyc,maxLen] at hok;have:=hok.1;omega
  refine Ac AW Tryz.func247 (by decide +kernel) rfl [2,3,4] rfl rfl ?_;have hN:(1:Int)+A0 ps<=n:=by simp only [Bv] at h0;omega
  refine Cp rfl <| Ad (fr:=[]) [(1,1)] [] rfl (by simp) (GH n 0 0 (by omega) h1 (by decide)) At rfl rfl rfl rfl <| Cp rfl <| Ak (λi:Nat=>[(11,.imm (.int .i64 i)),(10,.imm (.int .i64 ps.length)),(9,.imm (.sl (A2 ps))),(0,.ref 1 0)]) (λi=>[(1,some (CF (n-1-A0 (ps.take i)) 0))]) [2,3,4] (λi=>ps.length-i)
   (λi=>i<=ps.length) 0 (AL _) ⟨rfl,AA (by simp),AM⟩ ⟨by simp [A0];rfl,trivial⟩ rfl λi hi ih=>?_
  refine G3 rfl <| Aa rfl (λh=>?_) (λh=>?_)
  ·simp at h;obtain ⟨t,ht⟩:=Ao h;have hnt:=Ey ht;have hnd:=FS ht;have htk:(A0 (ps.take (i+1)):Int)=A0 (ps.take i)+Bv t:=by rw [Be ht,DO];simp [A0]
   exact G3 rfl <| ti rfl (c:=dTyc t) (λ_=>⟨by simp,by simpa using A8 ht,by simp⟩) (by simp) <| Cp rfl <| Ad (fr:=[]) [(1,1)] [] rfl (by simp) (JU t (n-1-A0 (ps.take i)) (by omega) (by omega)) At rfl rfl rfl rfl <| Cp rfl <| Ae (ih (i+1) (by omega) (by omega)) ⟨AA (Cb (by omega) (by omega)),AD⟩ ⟨congrArg (λz=>CF z 0) (by omega),trivial⟩ rfl
  ·refine G3 rfl ?_;simp at h;refine BE ⟨_,rfl,rfl,⟨?_,trivial⟩⟩;rw [CD (by omega)];simp only [Bv];exact congrArg (λz=>some (some (CF z 0))) (by omega)
termination_by t=>SizeOf.sizeOf t
decreasing_by
 all_goals
  have:=Cn (AF ht);simp_wf;omega
theorem Wb:∀(t:Ty) (n:Int),n<Bv t -> -1<=n->n<=4611686018427387904->AK Tryz.prog 247 [.ref 1 0,.imm (.agg (dTyc t))] [(1,some (CF n 0))] (.pan FA)
 | .mk s m x ps,n,h0,hm1,h1=>by
  refine E1 1 rfl λhok=>?_;have hv:ps.length<=9223372036854775807:=by
   simp [CL,Fh,dTyc,maxLen] at hok;have:=hok.1;omega
  refine Ac AW Tryz.func247 (by decide +kernel) rfl [2,3,4] rfl rfl ?_;have hN:n<(1:Int)+A0 ps:=by simp only [Bv] at h0;omega
  refine Cp rfl ?_;by_cases hn:n<1
  ·exact AC [(1,1)] rfl (by simp) (Pp n 0 0 (by omega) h1 (.inl hn)) At rfl rfl
  refine Ad (fr:=[]) [(1,1)] [] rfl (by simp) (GH n 0 0 (by omega) h1 (by decide)) At rfl rfl rfl rfl <| Cp rfl <| Ak (λi:Nat=>[(11,.imm (.int .i64 i)),(10,.imm (.int .i64 ps.length)),(9,.imm (.sl (A2 ps))),(0,.ref 1 0)]) (λi=>[(1,some (CF (n-1-A0 (ps.take i)) 0))]) [2,3,4] (λi=>ps.length-i)
   (λi=>i<=ps.length/\(A0 (ps.take i):Int)<=n-1/\n-1<A0 (ps.take i)+A0 (ps.drop i)) 0 ⟨AL _,by simp [A0];omega,by simp [A0];omega⟩ ⟨rfl,AA (by simp),AM⟩ ⟨by simp [A0];rfl,trivial⟩ rfl λi hi ih=>?_
  refine G3 rfl <| Aa rfl (λh=>?_) (λh=>?_)
  ·simp at h;obtain ⟨t,ht⟩:=Ao h;have hnt:=Ey ht;have hnd:=FS ht;have htk:(A0 (ps.take (i+1)):Int)=A0 (ps.take i)+Bv t:=by rw [Be ht,DO];simp [A0]
   refine G3 rfl <| ti rfl (c:=dTyc t) (λ_=>⟨by simp,by simpa using A8 ht,by simp⟩) (by simp) <| Cp rfl ?_;by_cases hle:(Bv t:Int)<=n-1-A0 (ps.take i)
   ·exact Ad (fr:=[]) [(1,1)] [] rfl (by simp) (JU t (n-1-A0 (ps.take i)) (by omega) (by omega)) At rfl rfl rfl rfl <| Cp rfl <| Ae (ih (i+1) (by omega) ⟨by omega,by omega,by omega⟩) ⟨AA (Cb (by omega) (by omega)),AD⟩ ⟨congrArg (λz=>CF z 0) (by omega),trivial⟩ rfl
   ·exact AC [(1,1)] rfl (by simp) (Wb t (n-1-A0 (ps.take i)) (by omega) (by omega) (by omega)) At rfl rfl
  ·exfalso;simp at h;have:=hi.2;rw [CD (by omega),Br (by omega)] at this;simp [A0] at this;omega
termination_by t=>SizeOf.sizeOf t
decreasing_by
 all_goals
  have:=Cn (AF ht);simp_wf;omega
theorem Mc:∀(t:Ty) (n:Int),(Bv t:Int)<=n->n<=4611686018427387904->AK Tryz.prog 284 [.ref 1 0,.imm (.agg (dTyc t))] [(1,some (CF n 0))] (.ret (.imm (.tup [])) [(1,some (CF (n-Bv t) 0))])
 | .mk s m x ps,n,h0,h1=>by
  refine E1 1 rfl λhok=>?_;have hv:ps.length<=9223372036854775807:=by
   simp [CL,Fh,dTyc,maxLen] at hok;have:=hok.1;omega
  refine Ac AW Tryz.func284 (by decide +kernel) rfl [2,3,4] rfl rfl ?_;have hN:(1:Int)+A0 ps<=n:=by simp only [Bv] at h0;omega
  refine Cp rfl <| Ad (fr:=[]) [(1,1)] [] rfl (by simp) (GH n 0 0 (by omega) h1 (by decide)) At rfl rfl rfl rfl <| Cp rfl <| Ak (λi:Nat=>[(11,.imm (.int .i64 i)),(10,.imm (.int .i64 ps.length)),(9,.imm (.sl (A2 ps))),(0,.ref 1 0)]) (λi=>[(1,some (CF (n-1-A0 (ps.take i)) 0))]) [2,3,4] (λi=>ps.length-i)
   (λi=>i<=ps.length) 0 (AL _) ⟨rfl,AA (by simp),AM⟩ ⟨by simp [A0];rfl,trivial⟩ rfl λi hi ih=>?_
  refine G3 rfl <| Aa rfl (λh=>?_) (λh=>?_)
  ·simp at h;obtain ⟨t,ht⟩:=Ao h;have hnt:=Ey ht;have hnd:=FS ht;have htk:(A0 (ps.take (i+1)):Int)=A0 (ps.take i)+Bv t:=by rw [Be ht,DO];simp [A0]
   exact G3 rfl <| ti rfl (c:=dTyc t) (λ_=>⟨by simp,by simpa using A8 ht,by simp⟩) (by simp) <| Cp rfl <| Ad (fr:=[]) [(1,1)] [] rfl (by simp) (Mc t (n-1-A0 (ps.take i)) (by omega) (by omega)) At rfl rfl rfl rfl <| Cp rfl <| Ae (ih (i+1) (by omega) (by omega)) ⟨AA (Cb (by omega) (by omega)),AD⟩ ⟨congrArg (λz=>CF z 0) (by omega),trivial⟩ rfl
  ·refine G3 rfl ?_;simp at h;refine BE ⟨_,rfl,rfl,⟨?_,trivial⟩⟩;rw [CD (by omega)];simp only [Bv];exact congrArg (λz=>some (some (CF z 0))) (by omega)
termination_by t=>SizeOf.sizeOf t
decreasing_by
 all_goals
  have:=Cn (AF ht);simp_wf;omega
theorem ZY:∀(t:Ty) (n:Int),n<Bv t -> -1<=n->n<=4611686018427387904->AK Tryz.prog 284 [.ref 1 0,.imm (.agg (dTyc t))] [(1,some (CF n 0))] (.pan FA)
 | .mk s m x ps,n,h0,hm1,h1=>by
  refine E1 1 rfl λhok=>?_;have hv:ps.length<=9223372036854775807:=by
   simp [CL,Fh,dTyc,maxLen] at hok;have:=hok.1;omega
  refine Ac AW Tryz.func284 (by decide +kernel) rfl [2,3,4] rfl rfl ?_;have hN:n<(1:Int)+A0 ps:=by simp only [Bv] at h0;omega
  refine Cp rfl ?_;by_cases hn:n<1
  ·exact AC [(1,1)] rfl (by simp) (Pp n 0 0 (by omega) h1 (.inl hn)) At rfl rfl
  refine Ad (fr:=[]) [(1,1)] [] rfl (by simp) (GH n 0 0 (by omega) h1 (by decide)) At rfl rfl rfl rfl <| Cp rfl <| Ak (λi:Nat=>[(11,.imm (.int .i64 i)),(10,.imm (.int .i64 ps.length)),(9,.imm (.sl (A2 ps))),(0,.ref 1 0)]) (λi=>[(1,some (CF (n-1-A0 (ps.take i)) 0))]) [2,3,4] (λi=>ps.length-i)
   (λi=>i<=ps.length/\(A0 (ps.take i):Int)<=n-1/\n-1<A0 (ps.take i)+A0 (ps.drop i)) 0 ⟨AL _,by simp [A0];omega,by simp [A0];omega⟩ ⟨rfl,AA (by simp),AM⟩ ⟨by simp [A0];rfl,trivial⟩ rfl λi hi ih=>?_
  refine G3 rfl <| Aa rfl (λh=>?_) (λh=>?_)
  ·simp at h;obtain ⟨t,ht⟩:=Ao h;have hnt:=Ey ht;have hnd:=FS ht;have htk:(A0 (ps.take (i+1)):Int)=A0 (ps.take i)+Bv t:=by rw [Be ht,DO];simp [A0]
   refine G3 rfl <| ti rfl (c:=dTyc t) (λ_=>⟨by simp,by simpa using A8 ht,by simp⟩) (by simp) <| Cp rfl ?_;by_cases hle:(Bv t:Int)<=n-1-A0 (ps.take i)
   ·exact Ad (fr:=[]) [(1,1)] [] rfl (by simp) (Mc t (n-1-A0 (ps.take i)) (by omega) (by omega)) At rfl rfl rfl rfl <| Cp rfl <| Ae (ih (i+1) (by omega) ⟨by omega,by omega,by omega⟩) ⟨AA (Cb (by omega) (by omega)),AD⟩ ⟨congrArg (λz=>CF z 0) (by omega),trivial⟩ rfl
   ·exact AC [(1,1)] rfl (by simp) (ZY t (n-1-A0 (ps.take i)) (by omega) (by omega) (by omega)) At rfl rfl
  ·exfalso;simp at h;have:=hi.2;rw [CD (by omega),Br (by omega)] at this;simp [A0] at this;omega
termination_by t=>SizeOf.sizeOf t
decreasing_by
 all_goals
  have:=Cn (AF ht);simp_wf;omega
theorem Tc:∀(ts:List Tm) (l d:Int),l<0->BK ts l d<0
 | [],l,d,h=>h
 | t::r,l,d,h=>by simp only [BK];rw [if_neg (by omega)];exact h
theorem JT:∀(t:Tm) (n dp x:Int),0<=n->n<=4611686018427387904->0<=dp->dp<=1000000->0<=x->x<=1000001->0<=Bp t n (dp-x+1)->AK Tryz.prog 135 [.ref 1 0,.imm (.agg (Bo t)),.imm (.int .i64 x)] [(1,some (CF n dp))] (.ret (.imm (.tup [])) [(1,some (CF (Bp t n (dp-x+1)) dp))])
 | .mk op nn tx ks ps,n,dp,x,h0,h1,hd0,hd1,hx0,hx1,hw=>by
  refine E1 1 rfl λhok=>?_;have hv:ks.length<=9223372036854775807:=by
   simp [CL,Fh,Bo,maxLen] at hok;have:=hok.1;omega
  refine Ac AW Tryz.func135 (by decide +kernel) rfl [2,3,4] rfl rfl ?_;have hst:¬(n<1\/dp-x+1<1)->Bp (.mk op nn tx ks ps) n (dp-x+1)=BK ks (n-1) (dp-x):=λh=>by
   simp only [Bp];rw [if_neg h];congr 1;omega
  refine Cp rfl ?_;by_cases hs:n<1\/dp-x+1<1
  ·exfalso;simp only [Bp] at hw;rw [if_pos hs] at hw;omega
  have hs':1<=n/\x<=dp:=by omega
  refine Ad (fr:=[]) [(1,1)] [] rfl (by simp) (GH n dp x (by omega) h1 (by omega)) At rfl rfl rfl rfl <| Cp rfl <| Ak (λy:Nat×Int=>[(14,.imm (.int .i64 y.1)),(13,.imm (.int .i64 ks.length)),(12,.imm (.sl (E4 ks))),(0,.ref 1 0),(2,.imm (.int .i64 x))]) (λy=>[(1,some (CF y.2 dp))]) [2,3,4] (λy=>ks.length-y.1)
   (λy=>y.1<=ks.length/\Bp (.mk op nn tx ks ps) n (dp-x+1)=BK (ks.drop y.1) y.2 (dp-x)/\0<=y.2/\y.2<=n) (0,n-1) ⟨AL _,by simp only [Vz];exact hst hs,by simp only;omega,by simp only;omega⟩ ⟨rfl,AA (by simp),AD⟩ AI rfl λy hi ih=>?_
  obtain ⟨i,m⟩:=y;obtain ⟨hi1,hi2,hi3,hi4⟩:=hi;simp only at hi1 hi2 hi3 hi4;refine G3 rfl <| Aa rfl (λh=>?_) (λh=>?_)
  ·simp at h;obtain ⟨t,ht⟩:=Ao h;rw [Av ht] at hi2;simp only [BK] at hi2;rw [if_pos hi3] at hi2;have hb:=GQ t m (dp-x);have hx:IntKind.i64.wrap (x+1)=x+1:=Cb (by omega) (by omega);refine G3 rfl <| ti rfl (c:=Bo t) (λ_=>⟨by simp,by simpa using Fz ht,by simp⟩) (by simp) <| Cp rfl ?_;have hdx:dp-(x+1)+1=dp-x:=by omega
   have hz:0<=Bp t m (dp-x):=by
    rw [hi2] at hw;rcases Int.lt_or_le (Bp t m (dp-x)) 0 with hl | hl
    ·exfalso;have:=Tc (ks.drop (i+1)) (Bp t m (dp-x)) (dp-x) hl;omega
    ·exact hl
   exact Ad (fr:=[]) [(1,1)] [] rfl (by simp) (JT t m dp (IntKind.i64.wrap (x+1)) hi3 (by omega) hd0 hd1 (by omega) (by omega) (by rw [hx,hdx];exact hz)) At rfl rfl rfl rfl <| Cp rfl <| Ae (ih (i+1,Bp t m (dp-x)) (by simp only;omega) ⟨by simp only;omega,hi2,by simp only;exact hz,by simp only;omega⟩) ⟨AA (Cb (by omega) (by omega)),BF⟩ ⟨congrArg (λz=>CF z dp) (by simp only [hx,hdx]),trivial⟩ rfl
  ·refine G3 rfl ?_;simp at h;refine BE ⟨_,rfl,rfl,⟨?_,trivial⟩⟩;rw [Br (by omega)] at hi2;simp only [BK] at hi2;rw [hi2];rfl
termination_by t=>SizeOf.sizeOf t
decreasing_by
 all_goals
  have:=Cn (AF ht);simp_wf;omega
theorem Wa:∀(t:Tm) (n dp x:Int),0<=n->n<=4611686018427387904->0<=dp->dp<=1000000->0<=x->x<=1000001->Bp t n (dp-x+1)<0->AK Tryz.prog 135 [.ref 1 0,.imm (.agg (Bo t)),.imm (.int .i64 x)] [(1,some (CF n dp))] (.pan FA)
 | .mk op nn tx ks ps,n,dp,x,h0,h1,hd0,hd1,hx0,hx1,hw=>by
  refine E1 1 rfl λhok=>?_;have hv:ks.length<=9223372036854775807:=by
   simp [CL,Fh,Bo,maxLen] at hok;have:=hok.1;omega
  refine Ac AW Tryz.func135 (by decide +kernel) rfl [2,3,4] rfl rfl ?_;have hst:¬(n<1\/dp-x+1<1)->Bp (.mk op nn tx ks ps) n (dp-x+1)=BK ks (n-1) (dp-x):=λh=>by
   simp only [Bp];rw [if_neg h];congr 1;omega
  refine Cp rfl ?_;by_cases hs:n<1\/dp-x+1<1
  ·exact AC [(1,1)] rfl (by simp) (Pp n dp x (by omega) h1 (by omega)) At rfl rfl
  have hs':1<=n/\x<=dp:=by omega
  refine Ad (fr:=[]) [(1,1)] [] rfl (by simp) (GH n dp x (by omega) h1 (by omega)) At rfl rfl rfl rfl <| Cp rfl <| Ak (λy:Nat×Int=>[(14,.imm (.int .i64 y.1)),(13,.imm (.int .i64 ks.length)),(12,.imm (.sl (E4 ks))),(0,.ref 1 0),(2,.imm (.int .i64 x))]) (λy=>[(1,some (CF y.2 dp))]) [2,3,4] (λy=>ks.length-y.1)
   (λy=>y.1<=ks.length/\Bp (.mk op nn tx ks ps) n (dp-x+1)=BK (ks.drop y.1) y.2 (dp-x)/\0<=y.2/\y.2<=n) (0,n-1) ⟨AL _,by simp only [Vz];exact hst hs,by simp only;omega,by simp only;omega⟩ ⟨rfl,AA (by simp),AD⟩ AI rfl λy hi ih=>?_
  obtain ⟨i,m⟩:=y;obtain ⟨hi1,hi2,hi3,hi4⟩:=hi;simp only at hi1 hi2 hi3 hi4;refine G3 rfl <| Aa rfl (λh=>?_) (λh=>?_)
  ·simp at h;obtain ⟨t,ht⟩:=Ao h;rw [Av ht] at hi2;simp only [BK] at hi2;rw [if_pos hi3] at hi2;have hb:=GQ t m (dp-x);have hx:IntKind.i64.wrap (x+1)=x+1:=Cb (by omega) (by omega);refine G3 rfl <| ti rfl (c:=Bo t) (λ_=>⟨by simp,by simpa using Fz ht,by simp⟩) (by simp) <| Cp rfl ?_;have hdx:dp-(x+1)+1=dp-x:=by omega
   by_cases hz:0<=Bp t m (dp-x)
   ·exact Ad (fr:=[]) [(1,1)] [] rfl (by simp) (JT t m dp (IntKind.i64.wrap (x+1)) hi3 (by omega) hd0 hd1 (by omega) (by omega) (by rw [hx,hdx];exact hz)) At rfl rfl rfl rfl <| Cp rfl <| Ae (ih (i+1,Bp t m (dp-x)) (by simp only;omega) ⟨by simp only;omega,hi2,by simp only;exact hz,by simp only;omega⟩) ⟨AA (Cb (by omega) (by omega)),BF⟩ ⟨congrArg (λz=>CF z dp) (by simp only [hx,hdx]),trivial⟩ rfl
   ·exact AC [(1,1)] rfl (by simp) (Wa t m dp (IntKind.i64.wrap (x+1)) hi3 (by omega) hd0 hd1 (by omega) (by omega) (by rw [hx,hdx];omega)) At rfl rfl
  ·exfalso;simp at h;rw [Br (by omega)] at hi2;simp only [BK] at hi2;omega
termination_by t=>SizeOf.sizeOf t
decreasing_by
 all_goals
  have:=Cn (AF ht);simp_wf;omega
theorem Za {s:Str} {pos:Nat} {c:UInt8} (h:s[pos]?=some c) (hc:c.toNat<128):E3 s pos=(c.toNat,1):=by
 have hg:(ByteArray.mk s.toArray).get! pos=c:=by simp [ByteArray.get!,h]
 simp only [E3,Utf8.decode,HY,hg];rw [if_pos hc]
theorem W1 {s:Str} {pos:Nat} {c:UInt8} (h:s[pos]?=some c) (hc:128<=c.toNat):128<=(E3 s pos).1:=by
 have hg:(ByteArray.mk s.toArray).get! pos=c:=by simp [ByteArray.get!,h]
 simp only [E3,Utf8.decode,HY,hg,Utf8.runeError];rw [if_neg (by omega)]
 repeat' split
 all_goals first | (simp only;omega) | decide | (simp only [A1,decide_eq_true_eq] at *;omega)
theorem RF (s:Str):Al Tryz.prog 131 [.str s] (.bool (ET s)):=by
 refine Ac AW Tryz.func131 (by decide +kernel) rfl [1,2] rfl rfl <| Cp rfl <| lY AW rfl <| Cp rfl <| Ak (λi:Nat=>[(6,.iter 1)]) (λi=>[(1,some (.siter s i))]) [2] (λi=>s.length-i) (λi=>i<=s.length/\ET s=ET (s.drop i)) 0
  ⟨AL _,rfl⟩ AI AI rfl λi hi ih=>?_
 refine G3 rfl ?_;by_cases hl:i<s.length
 ·obtain ⟨c,hc⟩:=Ao hl;have e:=hi.2;rw [N7 hc] at e;by_cases hlow:c.toNat<128
  ·refine aC rfl hl (Za hc hlow) <| tg [.a] rfl (by simp) <| Aa rfl (λh=>?_) (λh=>?_)
   ·refine G3 rfl <| Ab rfl rfl (congrArg _ ?_);rw [e];simp at h;simp [UInt8.le_iff_toNat_le];omega
   ·refine G3 rfl <| Ae (ih (i+1) (by omega) ⟨by omega,?_⟩) AI AI rfl;rw [e];simp at h;simp [UInt8.le_iff_toNat_le];omega
  ·refine aC (dc:=E3 s i) rfl hl rfl ?_;have hh:=W1 hc (by omega);refine tg [.a] rfl (by simp) <| Aa rfl (λh=>?_) (λh=>?_)
   ·refine G3 rfl <| Ab rfl rfl (congrArg _ ?_);rw [e];simp [UInt8.le_iff_toNat_le];omega
   ·exfalso;simp at h;omega
 ·refine qH rfl (by omega) <| tg [.a] rfl (by simp) <| Ab rfl rfl (congrArg _ ?_);rw [hi.2,Br (by omega)];rfl
theorem Yp (s:Str) (h:Qf s=false):Al Tryz.prog 132 [.str s] (.bool false):=by
 simp only [Qf,Ib,BO,PT] at h;exact Ac AW Tryz.func132 (by decide +kernel) rfl [1,2] rfl rfl <| tg [.f,.f,.f,.f,.f,.f,.f,.f,.f,.f,.f,.f,.f,.f,.f,.f,.f,.f,.f,.f,.f,.f,.f,.f,.f,.f,.f,.f,.f] rfl (by simp at h;simp;grind) <| Ab rfl rfl rfl
theorem dV:Al Tryz.prog 132 [.str [98,111,111,108]] (.bool true):=by
 exact Ac AW Tryz.func132 (by decide +kernel) rfl [1,2] rfl rfl <| tg [.a,.a] rfl (by simp) <| Ab rfl rfl rfl
theorem dU:Al Tryz.prog 132 [.str [99,101,108,108]] (.bool true):=by
 exact Ac AW Tryz.func132 (by decide +kernel) rfl [1,2] rfl rfl <| tg [.a,.a,.a] rfl (by simp) <| Ab rfl rfl rfl
theorem dT:Al Tryz.prog 132 [.str [99,104,97,110]] (.bool true):=by
 exact Ac AW Tryz.func132 (by decide +kernel) rfl [1,2] rfl rfl <| tg [.a,.a,.a,.a] rfl (by simp) <| Ab rfl rfl rfl
theorem dS:Al Tryz.prog 132 [.str [101,108,115,101]] (.bool true):=by
 exact Ac AW Tryz.func132 (by decide +kernel) rfl [1,2] rfl rfl <| tg [.a,.a,.a,.a,.a] rfl (by simp) <| Ab rfl rfl rfl
theorem dR:Al Tryz.prog 132 [.str [102,97,108,115,101]] (.bool true):=by
 exact Ac AW Tryz.func132 (by decide +kernel) rfl [1,2] rfl rfl <| tg [.a,.a,.a,.a,.a,.a] rfl (by simp) <| Ab rfl rfl rfl
theorem dQ:Al Tryz.prog 132 [.str [102,117,110]] (.bool true):=by
 exact Ac AW Tryz.func132 (by decide +kernel) rfl [1,2] rfl rfl <| tg [.a,.a,.a,.a,.a,.a,.a] rfl (by simp) <| Ab rfl rfl rfl
theorem dP:Al Tryz.prog 132 [.str [103,101,116]] (.bool true):=by
 exact Ac AW Tryz.func132 (by decide +kernel) rfl [1,2] rfl rfl <| tg [.a,.a,.a,.a,.a,.a,.a,.a] rfl (by simp) <| Ab rfl rfl rfl
theorem dO:Al Tryz.prog 132 [.str [105,102]] (.bool true):=by
 exact Ac AW Tryz.func132 (by decide +kernel) rfl [1,2] rfl rfl <| tg [.a,.a,.a,.a,.a,.a,.a,.a,.a] rfl (by simp) <| Ab rfl rfl rfl
theorem dN:Al Tryz.prog 132 [.str [105,110]] (.bool true):=by
 exact Ac AW Tryz.func132 (by decide +kernel) rfl [1,2] rfl rfl <| tg [.a,.a,.a,.a,.a,.a,.a,.a,.a,.a] rfl (by simp) <| Ab rfl rfl rfl
theorem dM:Al Tryz.prog 132 [.str [105,110,112,117,116]] (.bool true):=by
 exact Ac AW Tryz.func132 (by decide +kernel) rfl [1,2] rfl rfl <| tg [.a,.a,.a,.a,.a,.a,.a,.a,.a,.a,.a] rfl (by simp) <| Ab rfl rfl rfl
theorem Y7:Al Tryz.prog 132 [.str [105,110,116]] (.bool true):=by
 exact Ac AW Tryz.func132 (by decide +kernel) rfl [1,2] rfl rfl <| tg [.a,.a,.a,.a,.a,.a,.a,.a,.a,.a,.a,.a] rfl (by simp) <| Ab rfl rfl rfl
theorem Y6:Al Tryz.prog 132 [.str [106,111,105,110]] (.bool true):=by
 exact Ac AW Tryz.func132 (by decide +kernel) rfl [1,2] rfl rfl <| tg [.a,.a,.a,.a,.a,.a,.a,.a,.a,.a,.a,.a,.a] rfl (by simp) <| Ab rfl rfl rfl
theorem Y5:Al Tryz.prog 132 [.str [108,101,116]] (.bool true):=by
 exact Ac AW Tryz.func132 (by decide +kernel) rfl [1,2] rfl rfl <| tg [.a,.a,.a,.a,.a,.a,.a,.a,.a,.a,.a,.a,.a,.a] rfl (by simp) <| Ab rfl rfl rfl
theorem Y4:Al Tryz.prog 132 [.str [109,97,116,99,104]] (.bool true):=by
 exact Ac AW Tryz.func132 (by decide +kernel) rfl [1,2] rfl rfl <| tg [.a,.a,.a,.a,.a,.a,.a,.a,.a,.a,.a,.a,.a,.a,.a] rfl (by simp) <| Ab rfl rfl rfl
theorem Y3:Al Tryz.prog 132 [.str [109,111,100,117,108,101]] (.bool true):=by
 exact Ac AW Tryz.func132 (by decide +kernel) rfl [1,2] rfl rfl <| tg [.a,.a,.a,.a,.a,.a,.a,.a,.a,.a,.a,.a,.a,.a,.a,.a] rfl (by simp) <| Ab rfl rfl rfl
theorem Y2:Al Tryz.prog 132 [.str [111,117,116]] (.bool true):=by
 exact Ac AW Tryz.func132 (by decide +kernel) rfl [1,2] rfl rfl <| tg [.a,.a,.a,.a,.a,.a,.a,.a,.a,.a,.a,.a,.a,.a,.a,.a,.a] rfl (by simp) <| Ab rfl rfl rfl
theorem Y1:Al Tryz.prog 132 [.str [112,97,117,115,101]] (.bool true):=by
 exact Ac AW Tryz.func132 (by decide +kernel) rfl [1,2] rfl rfl <| tg [.a,.a,.a,.a,.a,.a,.a,.a,.a,.a,.a,.a,.a,.a,.a,.a,.a,.a] rfl (by simp) <| Ab rfl rfl rfl
theorem Y0:Al Tryz.prog 132 [.str [112,117,116]] (.bool true):=by
 exact Ac AW Tryz.func132 (by decide +kernel) rfl [1,2] rfl rfl <| tg [.a,.a,.a,.a,.a,.a,.a,.a,.a,.a,.a,.a,.a,.a,.a,.a,.a,.a,.a] rfl (by simp) <| Ab rfl rfl rfl
theorem Yz:Al Tryz.prog 132 [.str [114,101,115,101,116]] (.bool true):=by
 exact Ac AW Tryz.func132 (by decide +kernel) rfl [1,2] rfl rfl <| tg [.a,.a,.a,.a,.a,.a,.a,.a,.a,.a,.a,.a,.a,.a,.a,.a,.a,.a,.a,.a] rfl (by simp) <| Ab rfl rfl rfl
theorem Yy:Al Tryz.prog 132 [.str [115,101,110,100]] (.bool true):=by
 exact Ac AW Tryz.func132 (by decide +kernel) rfl [1,2] rfl rfl <| tg [.a,.a,.a,.a,.a,.a,.a,.a,.a,.a,.a,.a,.a,.a,.a,.a,.a,.a,.a,.a,.a] rfl (by simp) <| Ab rfl rfl rfl
theorem Yx:Al Tryz.prog 132 [.str [115,104,105,102,116]] (.bool true):=by
 exact Ac AW Tryz.func132 (by decide +kernel) rfl [1,2] rfl rfl <| tg [.a,.a,.a,.a,.a,.a,.a,.a,.a,.a,.a,.a,.a,.a,.a,.a,.a,.a,.a,.a,.a,.a] rfl (by simp) <| Ab rfl rfl rfl
theorem Yw:Al Tryz.prog 132 [.str [115,112,97,119,110]] (.bool true):=by
 exact Ac AW Tryz.func132 (by decide +kernel) rfl [1,2] rfl rfl <| tg [.a,.a,.a,.a,.a,.a,.a,.a,.a,.a,.a,.a,.a,.a,.a,.a,.a,.a,.a,.a,.a,.a,.a] rfl (by simp) <| Ab rfl rfl rfl
theorem Yv:Al Tryz.prog 132 [.str [116,97,107,101]] (.bool true):=by
 exact Ac AW Tryz.func132 (by decide +kernel) rfl [1,2] rfl rfl <| tg [.a,.a,.a,.a,.a,.a,.a,.a,.a,.a,.a,.a,.a,.a,.a,.a,.a,.a,.a,.a,.a,.a,.a,.a] rfl (by simp) <| Ab rfl rfl rfl
theorem Yu:Al Tryz.prog 132 [.str [116,97,115,107]] (.bool true):=by
 exact Ac AW Tryz.func132 (by decide +kernel) rfl [1,2] rfl rfl <| tg [.a,.a,.a,.a,.a,.a,.a,.a,.a,.a,.a,.a,.a,.a,.a,.a,.a,.a,.a,.a,.a,.a,.a,.a,.a] rfl (by simp) <| Ab rfl rfl rfl
theorem Yt:Al Tryz.prog 132 [.str [116,104,101,110]] (.bool true):=by
 exact Ac AW Tryz.func132 (by decide +kernel) rfl [1,2] rfl rfl <| tg [.a,.a,.a,.a,.a,.a,.a,.a,.a,.a,.a,.a,.a,.a,.a,.a,.a,.a,.a,.a,.a,.a,.a,.a,.a,.a] rfl (by simp) <| Ab rfl rfl rfl
theorem Ys:Al Tryz.prog 132 [.str [116,114,117,101]] (.bool true):=by
 exact Ac AW Tryz.func132 (by decide +kernel) rfl [1,2] rfl rfl <| tg [.a,.a,.a,.a,.a,.a,.a,.a,.a,.a,.a,.a,.a,.a,.a,.a,.a,.a,.a,.a,.a,.a,.a,.a,.a,.a,.a] rfl (by simp) <| Ab rfl rfl rfl
theorem Yr:Al Tryz.prog 132 [.str [116,121,112,101]] (.bool true):=by
 exact Ac AW Tryz.func132 (by decide +kernel) rfl [1,2] rfl rfl <| tg [.a,.a,.a,.a,.a,.a,.a,.a,.a,.a,.a,.a,.a,.a,.a,.a,.a,.a,.a,.a,.a,.a,.a,.a,.a,.a,.a,.a] rfl (by simp) <| Ab rfl rfl rfl
theorem Yq:Al Tryz.prog 132 [.str [117,110,105,116]] (.bool true):=by
 exact Ac AW Tryz.func132 (by decide +kernel) rfl [1,2] rfl rfl <| tg [.a,.a,.a,.a,.a,.a,.a,.a,.a,.a,.a,.a,.a,.a,.a,.a,.a,.a,.a,.a,.a,.a,.a,.a,.a,.a,.a,.a,.a] rfl (by simp) <| Ab rfl rfl rfl
theorem Yo (s:Str):Al Tryz.prog 132 [.str s] (.bool (Qf s)):=by
 cases h:Qf s with
 | false=>exact Yp s h
 | true =>
  simp only [Qf,Ib,BO,Hd,beq_iff_eq,Bool.or_false] at h;rcases h with rfl | rfl | rfl | rfl | rfl | rfl | rfl | rfl | rfl | rfl | rfl | rfl | rfl | rfl | rfl | rfl | rfl | rfl | rfl | rfl | rfl | rfl | rfl | rfl | rfl | rfl | rfl | rfl
  ·exact dV
  ·exact dU
  ·exact dT
  ·exact dS
  ·exact dR
  ·exact dQ
  ·exact dP
  ·exact dO
  ·exact dN
  ·exact dM
  ·exact Y7
  ·exact Y6
  ·exact Y5
  ·exact Y4
  ·exact Y3
  ·exact Y2
  ·exact Y1
  ·exact Y0
  ·exact Yz
  ·exact Yy
  ·exact Yx
  ·exact Yw
  ·exact Yv
  ·exact Yu
  ·exact Yt
  ·exact Ys
  ·exact Yr
  ·exact Yq
theorem FW (s:Str):Al Tryz.prog 73 [.str s] (.bool (EA s)):=by
 refine Ac AW Tryz.func73 (by decide +kernel) rfl [1,2] rfl rfl <| Cp rfl <| Aj rfl (v:=.bool (ET s)) (λh=>RF s) (by simp [Am]) <| Cp rfl <| Aj rfl (v:=.bool (Qf s)) (λh=>Yo s) (by simp [Am]) <| Cp rfl <| Ab rfl rfl (congrArg _ ?_);cases s with
 | nil=>simp [EA]
 | cons a r=>simp [EA];norm_cast;simp
theorem Ew (s:Str):Al Tryz.prog 183 [.str s] (.bool (Es s)):=by
 refine Ac AW Tryz.func183 (by decide +kernel) rfl [1,2] rfl rfl <| tg [] rfl (by cases s with | nil=>simp [Am] | cons a r=>simp [Am];omega) <| Aj rfl (v:=.bool (ET (s.drop 1))) (λh=>RF _) (by simp [Am]) <| Cp rfl <| Ab rfl rfl (congrArg _ ?_);cases s with
 | nil=>simp [Es]
 | cons a r=>simp [Es,UInt8.le_iff_toNat_le,Yb];norm_cast;simp
def CM (n:Int):Bool:=decide (-1000000000<=n)&&decide (n<=1000000000)
theorem I5 (n:Int):Al Tryz.prog 256 [.int .i64 n] (.bool (CM n)):=by
 refine Ac AW Tryz.func256 (by decide +kernel) rfl [1,2] rfl rfl <| Cp rfl <| Ab rfl rfl (congrArg _ ?_);simp [CM]
def IK:D:=.imm (.tup [])
theorem KO (holes:Bool):∀(t:Ty),C7 holes t=true->AK Tryz.prog 248 [.imm (.agg (dTyc t)),.imm (.bool holes)] [] (.ret IK [])
 | .mk s n x ps,hy=>by
  refine E1 0 rfl λhok=>?_;have hv:ps.length<=9223372036854775807:=by
   simp [CL,Fh,dTyc,maxLen] at hok;have:=hok.1;omega
  simp only [C7,TI] at hy;refine Ac AW Tryz.func248 (by decide +kernel) rfl [1,2,3] rfl rfl ?_;have J:∀p:Nat,Ct holes s n x ps.length=(((ps.length:Int) == (p:Int))&&(s == 9||n == 0)&&(s == 8||x == []))->DGo Tryz.prog Tryz.f248.ntmps (DJ []) (Kv gF Tryz.f248.results.toList (.ret IK []))
    [.code (FV Tryz.f248 3)] [(4,.imm (.int .i64 p)),(1,.imm (.bool holes)),(2,.ref 1 0)] [(1,some (.immb 25 4 (dTyc (.mk s n x ps))))] [2,3]:=by
   intro p hp;have hc:(((ps.length:Int) == (p:Int))&&(s == 9||n == 0)&&(s == 8||x == []))=true:=by rw [<- hp];exact hy.1
   refine td [] rfl (by simp [Am];grind) <| Aj rfl (λ_=>B7 _ ?_) (by simp) ?_
   ·simp at hc ⊢;grind
   refine Cp rfl <| Ak (λi:Nat=>[(69,.imm (.int .i64 i)),(68,.imm (.int .i64 ps.length)),(67,.imm (.sl (A2 ps))),(1,.imm (.bool holes)),(2,.ref 1 0)]) (λ_=>[(1,some (.immb 25 4 (dTyc (.mk s n x ps))))]) [2,3] (λi=>ps.length-i)
    (λi=>i<=ps.length/\BW holes (ps.drop i)=true) 0 ⟨AL _,hy.2⟩ ⟨rfl,AA (by simp),AD⟩ AI rfl λi hi ih=>?_
   refine G3 rfl ?_;have hi2:=hi.2;refine Aa rfl (λh=>?_) (λh=>?_)
   ·simp at h;obtain ⟨t,ht⟩:=Ao h;rw [Av ht] at hi2;simp only [BW,TI] at hi2;exact G3 rfl <| ti rfl (c:=dTyc t) (λ_=>⟨by simp,by simpa using A8 ht,by simp⟩) (by simp) <| Cp rfl <| Ad (fr:=[]) [] [] rfl (by simp) (KO holes t hi2.1) trivial rfl rfl rfl rfl <| Cp rfl <| Ae (ih (i+1) (by omega) ⟨by omega,hi2.2⟩) ⟨AA (Cb (by omega) (by omega)),BF⟩ AI rfl
   ·exact G3 rfl <| BE ⟨_,AM⟩
  by_cases h1:s=1
  ·subst h1;exact tg [.a,.a,.s] rfl (by simp) <| Ae (J 0 (by simp [Ct])) AD AI rfl
  by_cases h2:s=2
  ·subst h2;exact tg [.a,.a,.a,.s] rfl (by simp) <| Ae (J 0 (by simp [Ct])) AD AI rfl
  by_cases h3:s=3
  ·subst h3;exact tg [.a,.a,.a,.s] rfl (by simp) <| Ae (J 0 (by simp [Ct])) AD AI rfl
  by_cases h4:s=4
  ·subst h4;exact tg [.a,.a,.a,.a,.s] rfl (by simp) <| Ae (J 2 (by simp [Ct])) AD AI rfl
  by_cases h5:s=5
  ·subst h5;exact tg [.a,.a,.a,.a,.a,.a,.s] rfl (by simp) <| Ae (J 1 (by simp [Ct])) AD AI rfl
  by_cases h6:s=6
  ·subst h6;exact tg [.a,.a,.a,.a,.a,.a,.a,.s] rfl (by simp) <| Ae (J 1 (by simp [Ct])) AD AI rfl
  by_cases h7:s=7
  ·subst h7;exact tg [.a,.a,.a,.a,.a,.a,.a,.s] rfl (by simp) <| Ae (J 1 (by simp [Ct])) AD AI rfl
  by_cases h8:s=8
  ·subst h8;by_cases hg:Es x=true
   ·exact tg [.a,.a,.a,.a,.a,.a,.a,.a] rfl (by simp [Am]) <| Aj rfl (λ_=>Ew x) (by simp) <| Cp rfl <| Aj rfl (λ_=>B7 _ hg) (by simp) <| tg [.s] rfl (by simp) <| Ae (J 0 (by simp [Ct,hg])) AD AI rfl
   ·exfalso;have:=hy.1;simp [Ct] at this;simp at hg;grind
  by_cases h9:s=9
  ·subst h9;by_cases hg:(holes&&F9 n 0 99)=true
   ·exact tg [.a,.a,.a,.a,.a,.a,.a,.a,.a] rfl (by simp [Am]) <| Aj rfl (λ_=>B7 _ (by simp [F9] at hg ⊢;grind)) (by simp) <| tg [.s] rfl (by simp) <| Ae (J 0 (by simp [Ct,F9] at hg ⊢;grind)) AD AI rfl
   ·exfalso;have:=hy.1;simp [Ct] at this;simp at hg;grind
  exfalso;have:=hy.1;simp [Ct,h1,h2,h3,h4,h5,h6,h7,h8,h9] at this
termination_by t=>SizeOf.sizeOf t
decreasing_by
 all_goals
  have:=Cn (AF ht);simp_wf;omega
theorem RE (holes:Bool):∀(t:Ty),C7 holes t=false->AK Tryz.prog 248 [.imm (.agg (dTyc t)),.imm (.bool holes)] [] (.pan FA)
 | .mk s n x ps,hy=>by
  refine E1 0 rfl λhok=>?_;have hv:ps.length<=9223372036854775807:=by
   simp [CL,Fh,dTyc,maxLen] at hok;have:=hok.1;omega
  simp only [C7,La] at hy;refine Ac AW Tryz.func248 (by decide +kernel) rfl [1,2,3] rfl rfl ?_;have J:∀p:Nat,Ct holes s n x ps.length=(((ps.length:Int) == (p:Int))&&(s == 9||n == 0)&&(s == 8||x == []))->DGo Tryz.prog Tryz.f248.ntmps (DJ []) (Kv gF Tryz.f248.results.toList (.pan FA))
    [.code (FV Tryz.f248 3)] [(4,.imm (.int .i64 p)),(1,.imm (.bool holes)),(2,.ref 1 0)] [(1,some (.immb 25 4 (dTyc (.mk s n x ps))))] [2,3]:=by
   intro p hp;by_cases hc:(((ps.length:Int) == (p:Int))&&(s == 9||n == 0)&&(s == 8||x == []))=true
   rotate_left
   ·exact td [] rfl (by simp [Am];grind) <| AC [] rfl (by simp) (Cf _ (by simp at hc ⊢;grind)) trivial rfl rfl
   rw [hp,hc] at hy;simp only [Bool.true_eq_false,false_or] at hy;refine td [] rfl (by simp [Am];grind) <| Aj rfl (λ_=>B7 _ ?_) (by simp) ?_
   ·simp at hc ⊢;grind
   refine Cp rfl <| Ak (λi:Nat=>[(69,.imm (.int .i64 i)),(68,.imm (.int .i64 ps.length)),(67,.imm (.sl (A2 ps))),(1,.imm (.bool holes)),(2,.ref 1 0)]) (λ_=>[(1,some (.immb 25 4 (dTyc (.mk s n x ps))))]) [2,3] (λi=>ps.length-i)
    (λi=>i<=ps.length/\BW holes (ps.drop i)=false) 0 ⟨AL _,hy⟩ ⟨rfl,AA (by simp),AD⟩ AI rfl λi hi ih=>?_
   refine G3 rfl ?_;have hi2:=hi.2;refine Aa rfl (λh=>?_) (λh=>?_)
   ·simp at h;obtain ⟨t,ht⟩:=Ao h;rw [Av ht] at hi2;simp only [BW,La] at hi2;refine G3 rfl <| ti rfl (c:=dTyc t) (λ_=>⟨by simp,by simpa using A8 ht,by simp⟩) (by simp) <| Cp rfl ?_;by_cases hz:C7 holes t=true
    ·exact Ad (fr:=[]) [] [] rfl (by simp) (KO holes t hz) trivial rfl rfl rfl rfl <| Cp rfl <| Ae (ih (i+1) (by omega) ⟨by omega,by rw [hz] at hi2;simpa using hi2⟩) ⟨AA (Cb (by omega) (by omega)),BF⟩ AI rfl
    ·exact AC [] rfl (by simp) (RE holes t (by simpa using hz)) trivial rfl rfl
   ·exfalso;simp at h;rw [Br (by omega)] at hi2;simp [BW] at hi2
  by_cases h1:s=1
  ·subst h1;exact tg [.a,.a,.s] rfl (by simp) <| Ae (J 0 (by simp [Ct])) AD AI rfl
  by_cases h2:s=2
  ·subst h2;exact tg [.a,.a,.a,.s] rfl (by simp) <| Ae (J 0 (by simp [Ct])) AD AI rfl
  by_cases h3:s=3
  ·subst h3;exact tg [.a,.a,.a,.s] rfl (by simp) <| Ae (J 0 (by simp [Ct])) AD AI rfl
  by_cases h4:s=4
  ·subst h4;exact tg [.a,.a,.a,.a,.s] rfl (by simp) <| Ae (J 2 (by simp [Ct])) AD AI rfl
  by_cases h5:s=5
  ·subst h5;exact tg [.a,.a,.a,.a,.a,.a,.s] rfl (by simp) <| Ae (J 1 (by simp [Ct])) AD AI rfl
  by_cases h6:s=6
  ·subst h6;exact tg [.a,.a,.a,.a,.a,.a,.a,.s] rfl (by simp) <| Ae (J 1 (by simp [Ct])) AD AI rfl
  by_cases h7:s=7
  ·subst h7;exact tg [.a,.a,.a,.a,.a,.a,.a,.s] rfl (by simp) <| Ae (J 1 (by simp [Ct])) AD AI rfl
  by_cases h8:s=8
  ·subst h8;by_cases hg:Es x=true
   ·exact tg [.a,.a,.a,.a,.a,.a,.a,.a] rfl (by simp [Am]) <| Aj rfl (λ_=>Ew x) (by simp) <| Cp rfl <| Aj rfl (λ_=>B7 _ hg) (by simp) <| tg [.s] rfl (by simp) <| Ae (J 0 (by simp [Ct,hg])) AD AI rfl
   ·exact tg [.a,.a,.a,.a,.a,.a,.a,.a] rfl (by simp [Am]) <| Aj rfl (λ_=>Ew x) (by simp) <| Cp rfl <| AC [] rfl (by simp) (Cf _ (by simpa using hg)) trivial rfl rfl
  by_cases h9:s=9
  ·subst h9;by_cases hg:(holes&&F9 n 0 99)=true
   ·exact tg [.a,.a,.a,.a,.a,.a,.a,.a,.a] rfl (by simp [Am]) <| Aj rfl (λ_=>B7 _ (by simp [F9] at hg ⊢;grind)) (by simp) <| tg [.s] rfl (by simp) <| Ae (J 0 (by simp [Ct,F9] at hg ⊢;grind)) AD AI rfl
   ·exact tg [.a,.a,.a,.a,.a,.a,.a,.a,.a] rfl (by simp [Am]) <| AC [] rfl (by simp) (Cf _ (by simp [F9] at hg ⊢;grind)) trivial rfl rfl
  exact tg [.f,.f,.f,.f,.f,.f,.f,.f,.f] rfl (by simp [h1,h2,h3,h4,h5,h6,h7,h8,h9]) <| AC [] rfl (by simp) (Cf _ rfl) trivial rfl rfl
termination_by t=>SizeOf.sizeOf t
decreasing_by
 all_goals
  have:=Cn (AF ht);simp_wf;omega
theorem xN:∀(fn:Fn) (first cap:Array Value) (w:World),(Instr.makeFunc fn first cap).run Tryz.prog w = .ok (.func fn first cap) w:=λ_ _ _ _=>rfl
theorem VX (p:Addr) (w:World) :
  CallsD Tryz.prog 253 #[.pointer (some p)] .returning w λe u' w'=>e = .returned (.tuple #[])/\u' = .returning/\w'=w:=by
 refine callsD_of_wpS Tryz.func253 rfl λc₀ cs hu=>?_;apply wpS_seq;apply wpS_region;simp [wpOpsS,go_sem,recoverD,hu,Tryz.ntmps253,Exit.thenS];apply wpS_seq;apply wpS_region;simp [wpOpsS,go_sem,Exit.thenS];refine wpS_cond (t:=false) (by simp [Act.eval,Array.replicate]) ?_;simp only [if_false,Eo];refine wpS_of_wp (wp_skip ?_);cases c₀;simp_all [bodyPostS,results,Tryz.results253]
theorem VY (pb:Nat) (x:Value) (w:World) (hpb:pb<w.heap.size) (hx:w.cell? ⟨pb,0,none⟩=some x) (hz:w.frozen? ⟨pb,0,none⟩=false) :
  CallsD Tryz.prog 253 #[.pointer (some ⟨pb,0,none⟩)] (.panicking [{ v:=.iface 293 (.agg #[]),recovered:=false }]) w λe u' w'=>e = .returned (.tuple #[]) /\
   u' = .panicking [{ v:=.iface 293 (.agg #[]),recovered:=true }]/\w'=(w.setCell ⟨pb,0,none⟩ (.bool false)).alloc (.cells #[] 293):=by
 refine callsD_of_wpS Tryz.func253 rfl λc₀ cs hu=>?_;change Code.wpS _ _ _ { tmps:=#[.pointer (some ⟨pb,0,none⟩),undef,undef,undef,undef,undef,undef,undef,undef,undef,undef,undef,undef,undef,undef],defers:=[] } _ _;apply wpS_seq;apply wpS_region;simp [wpOpsS,go_sem,recoverD,hu,Tryz.ntmps253,Exit.thenS];apply wpS_seq;apply wpS_region;simp [wpOpsS,go_sem,Exit.thenS];refine wpS_cond (t:=true) (by simp [Act.eval,Array.replicate]) ?_;simp only [if_true];refine wpS_of_wp ?_;clear hu;have hta:∀w:World,(Instr.typeAssert (.iface 293 (.agg #[])) 20 293 true).run Tryz.prog w = .ok (.tuple #[.agg #[],.bool true]) w:=λ_=>by kernel_rfl
 have hx':(w.alloc (.cells #[] 293)).cell? ⟨pb,0,none⟩=some x:=by rw [World.cell?_alloc_past _ _ _ hpb];exact hx
 have hz':(w.alloc (.cells #[] 293)).frozen? ⟨pb,0,none⟩=false:=by rw [RowKit.frozen?_alloc_cells];exact hz
 go_wp2
 simp [bodyPostS,results,Tryz.results253]
theorem VV (g:FuncId) (fi ca:Array Value) (w:World) (K:World->Prop) (Kp:World->Prop)
  (hen:(callFunc g (fi++ca)).run Tryz.prog (w.alloc (.cells #[.bool false] 4)) = .ok (.enter g (fi++ca)) (w.alloc (.cells #[.bool false] 4)))
  (hcall:Calls Tryz.prog g (fi++ca) (w.alloc (.cells #[.bool false] 4)) λe w'=>match e with
   | .returned _=>K w'
   | .panicked chain=>chain=[{ v:=.iface 293 (.agg #[]),recovered:=false }]/\Kp w'
   | .outgrown=>False)
  (hK:∀w',K w'->w'.heap[w.heap.size]?=some (.cells #[.bool false] 4 (0,0))) (hKp:∀w',Kp w'->w'.heap[w.heap.size]?=some (.cells #[.bool false] 4 (0,0))) :
  Calls Tryz.prog 189 #[.func (.func g) fi ca] w λe w'=>(e = .returned (.bool true)/\∃w1,K w1/\w'=w1.setCell ⟨w.heap.size,0,none⟩ (.bool true)) \/
   (e = .returned (.bool false)/\∃w1,Kp w1/\w'=(w1.setCell ⟨w.heap.size,0,none⟩ (.bool false)).alloc (.cells #[] 293)):=by
 go_enter_defers Tryz.func189,Tryz.ntmps189
 have xN:=xN
 go_wp2_with fail
 clear hen;refine hcall.mono ?_;intro e w' he;cases e with
 | outgrown=>exact he.elim
 | returned v =>
  have hc:w'.cell? ⟨w.heap.size,0,none⟩=some (.bool false):=by unfold World.cell?;simp [hK w' he]
  have hz:w'.frozen? ⟨w.heap.size,0,none⟩=false:=by unfold World.frozen?;simp [hK w' he]
  simp only
  go_wp2
  refine leaves_cons (f:=253) (args:=#[.pointer (some ⟨w.heap.size,0,none⟩)]) (by simp) (by simp [go_sem]) <| (VX ⟨w.heap.size,0,none⟩ _).mono ?_;rintro e u' w'' ⟨rfl,rfl,rfl⟩;simp [Leaves,settle,results,Tryz.results189,go_sem,hc];exact ⟨w',he,rfl⟩
 | panicked chain =>
  obtain ⟨rfl,he⟩:=he;have hc:w'.cell? ⟨w.heap.size,0,none⟩=some (.bool false):=by unfold World.cell?;simp [hKp w' he]
  have hz:w'.frozen? ⟨w.heap.size,0,none⟩=false:=by unfold World.frozen?;simp [hKp w' he]
  have hlt:w.heap.size<w'.heap.size:=(Gu.1 (hKp w' he)).1;refine leaves_cons (f:=253) (args:=#[.pointer (some ⟨w.heap.size,0,none⟩)]) (by simp) (by simp [go_sem]) <| (VY w.heap.size _ _ hlt hc hz).mono ?_;rintro e u' w'' ⟨rfl,rfl,rfl⟩;have hc2:((w'.setCell ⟨w.heap.size,0,none⟩ (.bool false)).alloc (.cells #[] 293)).cell? ⟨w.heap.size,0,none⟩=some (.bool false):=by
   rw [DW (hKp w' he),World.cell?_alloc_past _ _ _ (by simpa using hlt)];unfold World.cell?;simp [hlt]
  simp [Leaves,settle,results,Tryz.results189,go_sem,hc2];exact ⟨w',he,rfl⟩
theorem I9:Kl Tryz.prog 189 293 4:=λg fi ca w K Kp h1 h2 h3 h4=>VV g fi ca w K Kp h1 h2 h3 h4
theorem Mo {g : FuncId} {fg : Func} {cg : Code} (hg : Tryz.prog.funcs[g]? = some fg) (hn : (fg.name == "runtime.NumGoroutine") = false) (hc : fg.body = some cg) {t1 : TypeId} {s1 : Nat} {x1 y1 : List V} (hE : AK Tryz.prog g [.ref 1 0] [(1, some (.immb t1 s1 x1))] (.ret IK [(1, some (.immb t1 s1 y1))])) :
  AK Tryz.prog 133 [.fn (.func g) [] [.ref 1 0]] [(1,some (.immb t1 s1 x1))] (.ret (.imm (.int .i64 0)) [(1,some (.immb t1 s1 y1))]):=by
 exact Ac AW Tryz.func133 (by decide +kernel) rfl [2,3,4] rfl rfl <| Cp rfl <| Ad (fr:=[]) [(1,1)] [] rfl (by simp) (Ih Tryz.func189 (by decide +kernel) rfl I9 hg hn hc hE) At rfl rfl rfl rfl <| tg [.a] rfl (by simp) <| Ag ⟨_,rfl,tV rfl,AI⟩
theorem Oe {g : FuncId} {fg : Func} {cg : Code} (hg : Tryz.prog.funcs[g]? = some fg) (hn : (fg.name == "runtime.NumGoroutine") = false) (hc : fg.body = some cg) {t1 : TypeId} {s1 : Nat} {x1 : List V} (hE : AK Tryz.prog g [.ref 1 0] [(1, some (.immb t1 s1 x1))] (.pan FA)) :
  AK Tryz.prog 133 [.fn (.func g) [] [.ref 1 0]] [(1,some (.immb t1 s1 x1))] (.ret (.imm (.int .i64 2)) []):=by
 exact Ac AW Tryz.func133 (by decide +kernel) rfl [2,3,4] rfl rfl <| Cp rfl <| Ad (fr:=[]) [(1,1)] [] rfl (by simp) (J4 Tryz.func189 (by decide +kernel) rfl I9 hg hn hc hE) At rfl rfl rfl rfl <| tg [.a] rfl (by simp) <| Ab rfl rfl rfl
theorem Ur {g : FuncId} {fg : Func} {cg : Code} (hg : Tryz.prog.funcs[g]? = some fg) (hn : (fg.name == "runtime.NumGoroutine") = false) (hc : fg.body = some cg) {t1 t2 : TypeId} {s1 s2 : Nat} {x1 x2 y1 y2 : List V} (hE : AK Tryz.prog g [.ref 1 0, .ref 2 0] [(1, some (.immb t1 s1 x1)), (2, some (.immb t2 s2 x2))] (.ret IK [(1, some (.immb t1 s1 y1)), (2, some (.immb t2 s2 y2))])) :
  AK Tryz.prog 133 [.fn (.func g) [] [.ref 1 0,.ref 2 0]] [(1,some (.immb t1 s1 x1)),(2,some (.immb t2 s2 x2))] (.ret (.imm (.int .i64 0)) [(1,some (.immb t1 s1 y1)),(2,some (.immb t2 s2 y2))]):=by
 exact Ac AW Tryz.func133 (by decide +kernel) rfl [3,4,5] rfl rfl <| Cp rfl <| Ad (fr:=[]) [(1,1),(2,2)] [] rfl (by simp) (Ih Tryz.func189 (by decide +kernel) rfl I9 hg hn hc hE) ⟨⟨rfl,rfl,rfl⟩,At⟩ rfl rfl rfl rfl <| tg [.a] rfl (by simp) <| Ag ⟨_,rfl,tV rfl,⟨rfl,AI⟩⟩
theorem WB {g : FuncId} {fg : Func} {cg : Code} (hg : Tryz.prog.funcs[g]? = some fg) (hn : (fg.name == "runtime.NumGoroutine") = false) (hc : fg.body = some cg) {t1 t2 : TypeId} {s1 s2 : Nat} {x1 x2 : List V} (hE : AK Tryz.prog g [.ref 1 0, .ref 2 0] [(1, some (.immb t1 s1 x1)), (2, some (.immb t2 s2 x2))] (.pan FA)) :
  AK Tryz.prog 133 [.fn (.func g) [] [.ref 1 0,.ref 2 0]] [(1,some (.immb t1 s1 x1)),(2,some (.immb t2 s2 x2))] (.ret (.imm (.int .i64 2)) []):=by
 exact Ac AW Tryz.func133 (by decide +kernel) rfl [3,4,5] rfl rfl <| Cp rfl <| Ad (fr:=[]) [(1,1),(2,2)] [] rfl (by simp) (J4 Tryz.func189 (by decide +kernel) rfl I9 hg hn hc hE) ⟨⟨rfl,rfl,rfl⟩,At⟩ rfl rfl rfl rfl <| tg [.a] rfl (by simp) <| Ab rfl rfl rfl
def Rv (b:Bool):V:=.int .i64 (bif b then 0 else 2)
def AH (holes:Bool) (t:Ty):Bool:=decide (Bv t<=12)&&C7 holes t
theorem Wf (t:Ty) (holes:Bool) (h:AH holes t=true):AK Tryz.prog 246 [.ref 1 0,.ref 2 0] [(1,some (.immb 25 4 (dTyc t))),(2,some (.immb 4 1 [.bool holes]))] (.ret IK [(1,some (.immb 25 4 (dTyc t))),(2,some (.immb 4 1 [.bool holes]))]):=by
 simp only [AH,A1,decide_eq_true_eq] at h;exact Ac AW Tryz.func246 (by decide +kernel) rfl [3,4,5] rfl rfl <| Cp rfl <| Ad (fr:=[]) [(3,1)] [] rfl (by simp) (JU t 12 (by omega) (by decide)) At rfl rfl rfl rfl <| Cp rfl <| Ad (fr:=[]) [] [] rfl (by simp) (KO holes t h.2) trivial rfl rfl rfl rfl <| Cp rfl <| BE ⟨_,rfl,rfl,AM⟩
theorem YO (t:Ty) (holes:Bool) (h:AH holes t=false):AK Tryz.prog 246 [.ref 1 0,.ref 2 0] [(1,some (.immb 25 4 (dTyc t))),(2,some (.immb 4 1 [.bool holes]))] (.pan FA):=by
 simp only [AH,La,decide_eq_false_iff_not] at h;refine Ac AW Tryz.func246 (by decide +kernel) rfl [3,4,5] rfl rfl <| Cp rfl ?_;by_cases h1:Bv t<=12
 ·exact Ad (fr:=[]) [(3,1)] [] rfl (by simp) (JU t 12 (by omega) (by decide)) At rfl rfl rfl rfl <| Cp rfl <| AC [] rfl (by simp) (RE holes t (by simpa [h1] using h)) trivial rfl rfl
 ·exact AC [(3,1)] rfl (by simp) (Wb t 12 (by omega) (by decide) (by decide)) At rfl rfl
theorem SF (t:Ty) (holes:Bool):Al Tryz.prog 176 [.agg (dTyc t),.bool holes] (Rv (AH holes t)):=by
 refine Ac AW Tryz.func176 (by decide +kernel) rfl [1,2,3] rfl rfl <| Cp rfl ?_;cases h:AH holes t with
 | true =>
  exact Ad (fr:=[]) [(1,1),(2,2)] [] rfl (by simp) (Ur Tryz.func246 (by decide +kernel) rfl (Wf t holes h)) iB rfl rfl rfl rfl <| Cp rfl <| Ab rfl rfl rfl
 | false =>
  exact Ad (fr:=[]) [(1,1),(2,2)] [] rfl (by simp) (WB Tryz.func246 (by decide +kernel) rfl (YO t holes h)) iB rfl rfl rfl rfl <| Cp rfl <| Ab rfl rfl rfl
theorem U1 (t:Ty):Al Tryz.prog 114 [.agg (dTyc t)] (Rv (AH true t)):=by
 exact Ac AW Tryz.func114 (by decide +kernel) rfl [1,2,3] rfl rfl <| Cp rfl <| Aj rfl (λ_=>SF t true) (by simp [Am]) <| Cp rfl <| Ab rfl rfl rfl
theorem OX (t:Ty):Al Tryz.prog 187 [.agg (dTyc t)] (.bool (AH false t)):=by
 refine Ac AW Tryz.func187 (by decide +kernel) rfl [1,2,3] rfl rfl <| Cp rfl <| Aj rfl (λ_=>SF t false) (by simp [Am]) <| Cp rfl <| Ab rfl rfl (congrArg _ ?_);cases AH false t <;> rfl
def gH:TT:=gF++[
 (139,⟨.map 9 4,false,1,8,[.imm .nilmap]⟩)]
theorem GS:TTok Tryz.prog gH:=.of_eq (l:=[4,3,9,49,25,182,45,47,5,23,22,73,46,180,71,43,178,40,41,113,111,28,293,195,1,139]) (by kernel_rfl)
section
variable {n:Nat} {F:List Nat} {Q:DQ} {env env':Env} {st st':St} {ids ids':List Nat} {k todo:List DI} {ob:List Prop}
theorem pd (path:List Pt) (h:run gH n 300 path todo env st ids [] = .at k env' st' ids' ob) (hob:AB ob) (hd:G Tryz.prog n F Q k env' st' ids'):DGo Tryz.prog n F Q todo env st ids:=KK GS Fb 300 path h hob hd
theorem X0 (h:run gH n 300 [] todo env st ids [] = .at k env' st' ids' ob) (hd:G Tryz.prog n F Q k env' st' ids') (hob:AB ob:=by simp):DGo Tryz.prog n F Q todo env st ids:=pd [] h hob hd
theorem pdqc (h:run gH n 300 [] todo env st ids [] = .at k env' st' ids' ob) (hd:G Tryz.prog n F Q k env' st' ids') (hob:AB ob:=by simp [Am]):DGo Tryz.prog n F Q todo env st ids:=pd [] h hob hd
theorem pg (path:List Pt) (h:run gH n 300 path todo env st ids [] = .at k env' st' ids' ob) (hob:AB ob) (hd:G Tryz.prog n F Q k env' st' ids'):G Tryz.prog n F Q todo env st ids:=J6 GS Fb 300 path h hob hd
theorem KT (h:run gH n 300 [] todo env st ids [] = .at k env' st' ids' ob) (hd:G Tryz.prog n F Q k env' st' ids') (hob:AB ob:=by simp):G Tryz.prog n F Q todo env st ids:=pg [] h hob hd
theorem Vh (h:run gH n 300 [] todo env st ids [] = .at k env' st' ids' ob) (hd:G Tryz.prog n F Q k env' st' ids') (hob:AB ob:=by simp [Am]):G Tryz.prog n F Q todo env st ids:=pg [] h hob hd
theorem pi {es:List (List V)} {m:Int} {sz:Nat} {e:TypeId} {g:Option (Bool×Bool)} {ob:List Prop} {t:Nat} {todo':List DI} {c:List V} (h:Rh gH n env todo=some ⟨es,m,sz,e,g,ob,some t,todo'⟩)
  (hc:Am g->0<=m/\es[m.toNat]?=some c/\c.length=sz) (hob:AB ob) (hk:G Tryz.prog n F Q todo' ((t,gD g (.ip e c 0))::env) st ids):G Tryz.prog n F Q todo env st ids:=H5 GS h hc hob hk
end
def GW (l:List Str):List (V×V):=l.map λs=>(.str s,.bool true)
def Rc (l:List Str):Blk:=.map (GW l)
theorem FF (l:List Str):∀p∈GW l,GA .str p.1=true:=by
 intro p hp;obtain ⟨s,_,rfl⟩:=Cc.1 hp;rfl
theorem nF (s x:Str):(s == x)=(x == s):=by
 rw [EU,beq_iff_eq,beq_iff_eq];exact ⟨Eq.symm,Eq.symm⟩
theorem bT (l:List Str) (s:Str):Ga (GW l) (.str s)=if BO l s then some (.bool true) else none:=by
 induction l with
 | nil=>rfl
 | cons x r ih =>
  simp only [GW,Cz,Ga,fQ,BO] at ih ⊢;rw [ih];by_cases h:x=s
  ·subst h;simp
  ·have h1:(s == x)=false:=by simpa using λe=>h e.symm
   have h2:(x == s)=false:=by simpa using h
   simp [h1,h2]
theorem JL (l:List Str) (s:Str):Fr false (GW l) (.str s) (.bool false) = .imm (.bool (BO l s)):=by
 simp only [Fr,bT];cases BO l s <;> rfl
theorem UQ (l:List Str) (s:Str) (h:BO l s=false):Fi (GW l) (.str s) (.bool true)=GW (l++[s]):=by
 induction l with
 | nil=>rfl
 | cons x r ih =>
  simp only [BO,PT] at h;have h1:(s == x)=false:=by rw [nF];exact h.1
  simp only [GW,Cz,Fi,fQ,h1,Db] at ih ⊢;simp [ih h.2]
theorem Gv:∀(a b p:List Str),BC p (a++b)=(BC p a&&BC (p++a) b)
 | [],b,p=>by simp [BC]
 | x::r,b,p=>by simp [BC,Gv r b (p++[x]),Yb]
theorem M9:∀(t:Ty) (met:List Str),(Ea t&&BC met (Bm t))=true->AK Tryz.prog 285 [.imm (.agg (dTyc t)),.mapr 1] [(1,some (Rc met))] (.ret IK [(1,some (Rc (met++Bm t)))])
 | .mk s n x ps,met,hy=>by
  refine E1 0 rfl λhok=>?_;have hv:ps.length<=9223372036854775807:=by
   simp [CL,Fh,dTyc,maxLen] at hok;have:=hok.1;omega
  refine Ac GS Tryz.func285 (by decide +kernel) rfl [2,3,4] rfl rfl ?_;have J:∀m0:List Str,(CN ps&&BC m0 (AN ps))=true->m0++AN ps=met++Bm (.mk s n x ps)->DGo Tryz.prog Tryz.f285.ntmps (DJ [(1,some (Rc met))]) (Kv gH Tryz.f285.results.toList (.ret IK [(1,some (Rc (met++Bm (.mk s n x ps))))]))
    [.code (FV Tryz.f285 2)] [(1,.mapr 1),(2,.ref 2 0)] [(2,some (.immb 182 4 (dTyc (.mk s n x ps)))),(1,some (Rc m0))] [3,4]:=by
   intro m0 hy he;refine X0 rfl <| Ak (λi:Nat=>[(113,.imm (.int .i64 i)),(112,.imm (.int .i64 ps.length)),(111,.imm (.sl (A2 ps))),(1,.mapr 1),(2,.ref 2 0)]) (λi=>[(2,some (.immb 182 4 (dTyc (.mk s n x ps)))),(1,some (Rc (m0++AN (ps.take i))))]) [3,4] (λi=>ps.length-i)
    (λi=>i<=ps.length/\(CN (ps.drop i)&&BC (m0++AN (ps.take i)) (AN (ps.drop i)))=true) 0 ⟨AL _,by simpa [AN] using hy⟩ ⟨rfl,AA (by simp),AD⟩ ⟨rfl,by simp [AN];rfl,trivial⟩ rfl λi hi ih=>?_
   refine X0 rfl ?_;have hi2:=hi.2;refine Aa rfl (λh=>?_) (λh=>?_)
   ·simp at h;obtain ⟨t,ht⟩:=Ao h;have htk:AN (ps.take (i+1))=AN (ps.take i)++Bm t:=by rw [Be ht,EO];simp [AN]
    rw [Av ht] at hi2;simp only [CN,AN,Gv] at hi2;exact X0 rfl <| pi rfl (c:=dTyc t) (λ_=>⟨by simp,by simpa using A8 ht,by simp⟩) (by simp) <| KT rfl <| Ad (fr:=[]) [(1,1)] [] rfl (by simp) (M9 t (m0++AN (ps.take i)) (by simp only [A1] at hi2 ⊢;exact ⟨hi2.1.1,hi2.2.1⟩)) At rfl rfl rfl rfl <| KT rfl <| Ae (ih (i+1) (by omega) ⟨by omega,by rw [htk,<- CE];simp only [A1] at hi2 ⊢;exact ⟨hi2.1.2,hi2.2.2⟩⟩) ⟨AA (Cb (by omega) (by omega)),BF⟩ ⟨rfl,by rw [htk,<- CE];rfl,trivial⟩ rfl
   ·refine X0 rfl ?_;simp at h;refine BE ⟨_,rfl,rfl,⟨?_,trivial⟩⟩;rw [CD (by omega),he];rfl
  simp only [Ea,A1] at hy;obtain ⟨⟨hp,hps⟩,hdf⟩:=hy;by_cases h1:s=1
  ·subst h1;simp [EM,F9] at hp;exact pg [.a,.a] rfl (by simp [Am] <;> grind) <| Aj rfl (λ_=>B7 _ (by simp [CM] at hp ⊢;grind)) (by simp) <| pg [.s] rfl (by simp) <| Ae (J met (by simpa [Bm,hps] using hdf) (by simp [Bm])) AM AM rfl
  by_cases h5:s=5
  ·subst h5;simp [EM,F9] at hp;exact pg [.a,.a] rfl (by simp [Am] <;> grind) <| Aj rfl (λ_=>B7 _ (by simp [CM] at hp ⊢;grind)) (by simp) <| pg [.s] rfl (by simp) <| Ae (J met (by simpa [Bm,hps] using hdf) (by simp [Bm])) AM AM rfl
  by_cases h3:s=3
  ·subst h3;simp [EM,F9] at hp;exact pg [.a,.a,.a,.a] rfl (by simp [Am] <;> grind) <| Aj rfl (λ_=>I5 n) (by simp [Am]) <| Vh rfl <| Aj rfl (λ_=>B7 _ (by simp [CM] at hp ⊢;grind)) (by simp) <| pg [.s] rfl (by simp) <| Ae (J met (by simpa [Bm,hps] using hdf) (by simp [Bm])) AM AM rfl
  by_cases h4:s=4
  ·subst h4;simp [EM,F9] at hp;exact pg [.a,.a,.a,.a,.a] rfl (by simp [Am] <;> grind) <| Aj rfl (λ_=>B7 _ (by obtain ⟨⟨rfl,rfl⟩,ha,hb⟩:=hp;have:n=0\/n=1:=(by omega);rcases this with rfl | rfl <;> simp)) (by simp) <| pg [.s] rfl (by simp) <| Ae (J met (by simpa [Bm,hps] using hdf) (by simp [Bm])) AM AM rfl
  by_cases h6:s=6
  ·subst h6;simp [EM,F9] at hp;exact pg [.a,.a,.a,.a,.a,.a] rfl (by simp [Am] <;> grind) <| Aj rfl (λ_=>Ew x) (by simp [Am]) <| Vh rfl <| Aj rfl (λ_=>B7 _ (by simp [CM] at hp ⊢;grind)) (by simp) <| pg [.s] rfl (by simp) <| Ae (J met (by simpa [Bm,hps] using hdf) (by simp [Bm])) AM AM rfl
  by_cases h2:s=2
  ·subst h2;simp [EM,F9] at hp;refine pg [.a,.a,.a] rfl (by simp [Am] <;> grind) <| Aj rfl (λ_=>FW x) (by simp [Am]) <| Vh rfl ?_;have hx:BO met x=false:=by simpa [Bm,BC] using hdf
   refine C9 GS 1 rfl rfl rfl (FF met) (by simp [Am]) (z:=.bool false) rfl (λ_=>.bool _) (JL met x) <| Vh rfl <| Aj rfl (λ_=>B7 _ (by simp at hp ⊢;rw [hx];grind)) (by simp) <| KT rfl <| EW GS rfl rfl rfl (FF met) ?_;rw [UQ met x hx];have he:ps=[]:=by simpa using hp.1.1
   subst he;exact pg [.s] rfl (by simp) <| Ae (J (met++[x]) (by simp [CN,AN,BC]) (by simp [Bm,AN])) AM AM rfl
  exfalso;simp [EM,h1,h2,h3,h4,h5,h6] at hp
termination_by t=>SizeOf.sizeOf t
decreasing_by
 all_goals
  have:=Cn (AF ht);simp_wf;omega
theorem UB:∀(t:Ty) (met:List Str),(Ea t&&BC met (Bm t))=false->AK Tryz.prog 285 [.imm (.agg (dTyc t)),.mapr 1] [(1,some (Rc met))] (.pan FA)
 | .mk s n x ps,met,hy=>by
  refine E1 0 rfl λhok=>?_;have hv:ps.length<=9223372036854775807:=by
   simp [CL,Fh,dTyc,maxLen] at hok;have:=hok.1;omega
  refine Ac GS Tryz.func285 (by decide +kernel) rfl [2,3,4] rfl rfl ?_;have J:∀m0:List Str,(CN ps&&BC m0 (AN ps))=false->DGo Tryz.prog Tryz.f285.ntmps (DJ [(1,some (Rc met))]) (Kv gH Tryz.f285.results.toList (.pan FA))
    [.code (FV Tryz.f285 2)] [(1,.mapr 1),(2,.ref 2 0)] [(2,some (.immb 182 4 (dTyc (.mk s n x ps)))),(1,some (Rc m0))] [3,4]:=by
   intro m0 hy;refine X0 rfl <| Ak (λi:Nat=>[(113,.imm (.int .i64 i)),(112,.imm (.int .i64 ps.length)),(111,.imm (.sl (A2 ps))),(1,.mapr 1),(2,.ref 2 0)]) (λi=>[(2,some (.immb 182 4 (dTyc (.mk s n x ps)))),(1,some (Rc (m0++AN (ps.take i))))]) [3,4] (λi=>ps.length-i)
    (λi=>i<=ps.length/\(CN (ps.drop i)&&BC (m0++AN (ps.take i)) (AN (ps.drop i)))=false) 0 ⟨AL _,by simpa [AN] using hy⟩ ⟨rfl,AA (by simp),AD⟩ ⟨rfl,by simp [AN];rfl,trivial⟩ rfl λi hi ih=>?_
   refine X0 rfl ?_;have hi2:=hi.2;refine Aa rfl (λh=>?_) (λh=>?_)
   ·simp at h;obtain ⟨t,ht⟩:=Ao h;have htk:AN (ps.take (i+1))=AN (ps.take i)++Bm t:=by rw [Be ht,EO];simp [AN]
    rw [Av ht] at hi2;simp only [CN,AN,Gv] at hi2;refine X0 rfl <| pi rfl (c:=dTyc t) (λ_=>⟨by simp,by simpa using A8 ht,by simp⟩) (by simp) <| KT rfl ?_;by_cases hz:(Ea t&&BC (m0++AN (ps.take i)) (Bm t))=true
    ·exact Ad (fr:=[]) [(1,1)] [] rfl (by simp) (M9 t (m0++AN (ps.take i)) hz) At rfl rfl rfl rfl <| KT rfl <| Ae (ih (i+1) (by omega) ⟨by omega,by rw [htk,<- CE];simp only [A1] at hz;rw [hz.1,hz.2] at hi2;simpa using hi2⟩) ⟨AA (Cb (by omega) (by omega)),BF⟩ ⟨rfl,by rw [htk,<- CE];rfl,trivial⟩ rfl
    ·exact AC [(1,1)] rfl (by simp) (UB t (m0++AN (ps.take i)) (by simpa using hz)) At rfl rfl
   ·exfalso;simp at h;rw [Br (by omega)] at hi2;simp [CN,AN,BC] at hi2
  by_cases h1:s=1
  ·subst h1;refine pg [.a,.a] rfl (by simp [Am] <;> grind) ?_;by_cases hp:EM 1 n x ps.length=true
   ·have hps:(CN ps&&BC met (AN ps))=false:=by simpa [Ea,hp,Bm] using hy
    simp [EM,F9] at hp;exact Aj rfl (λ_=>B7 _ (by simp [CM] at hp ⊢;grind)) (by simp) <| pg [.s] rfl (by simp) <| Ae (J met hps) AM AM rfl
   ·simp [EM,F9] at hp;exact AC [] rfl (by simp) (Cf _ (by simp [CM] at hp ⊢;grind)) trivial rfl rfl
  by_cases h5:s=5
  ·subst h5;refine pg [.a,.a] rfl (by simp [Am] <;> grind) ?_;by_cases hp:EM 5 n x ps.length=true
   ·have hps:(CN ps&&BC met (AN ps))=false:=by simpa [Ea,hp,Bm] using hy
    simp [EM,F9] at hp;exact Aj rfl (λ_=>B7 _ (by simp [CM] at hp ⊢;grind)) (by simp) <| pg [.s] rfl (by simp) <| Ae (J met hps) AM AM rfl
   ·simp [EM,F9] at hp;exact AC [] rfl (by simp) (Cf _ (by simp [CM] at hp ⊢;grind)) trivial rfl rfl
  by_cases h3:s=3
  ·subst h3;refine pg [.a,.a,.a,.a] rfl (by simp [Am] <;> grind) <| Aj rfl (λ_=>I5 n) (by simp [Am]) <| Vh rfl ?_;by_cases hp:EM 3 n x ps.length=true
   ·have hps:(CN ps&&BC met (AN ps))=false:=by simpa [Ea,hp,Bm] using hy
    simp [EM,F9] at hp;exact Aj rfl (λ_=>B7 _ (by simp [CM] at hp ⊢;grind)) (by simp) <| pg [.s] rfl (by simp) <| Ae (J met hps) AM AM rfl
   ·simp [EM,F9] at hp;exact AC [] rfl (by simp) (Cf _ (by simp [CM] at hp ⊢;grind)) trivial rfl rfl
  by_cases h4:s=4
  ·subst h4;refine pg [.a,.a,.a,.a,.a] rfl (by simp [Am] <;> grind) ?_;by_cases hp:EM 4 n x ps.length=true
   ·have hps:(CN ps&&BC met (AN ps))=false:=by simpa [Ea,hp,Bm] using hy
    simp [EM,F9] at hp;exact Aj rfl (λ_=>B7 _ (by obtain ⟨⟨rfl,rfl⟩,ha,hb⟩:=hp;have:n=0\/n=1:=(by omega);rcases this with rfl | rfl <;> simp)) (by simp) <| pg [.s] rfl (by simp) <| Ae (J met hps) AM AM rfl
   ·simp [EM,F9] at hp;exact AC [] rfl (by simp) (Cf _ (by simp [CM] at hp ⊢;grind)) trivial rfl rfl
  by_cases h6:s=6
  ·subst h6;refine pg [.a,.a,.a,.a,.a,.a] rfl (by simp [Am] <;> grind) <| Aj rfl (λ_=>Ew x) (by simp [Am]) <| Vh rfl ?_;by_cases hp:EM 6 n x ps.length=true
   ·have hps:(CN ps&&BC met (AN ps))=false:=by simpa [Ea,hp,Bm] using hy
    simp [EM,F9] at hp;exact Aj rfl (λ_=>B7 _ (by simp [CM] at hp ⊢;grind)) (by simp) <| pg [.s] rfl (by simp) <| Ae (J met hps) AM AM rfl
   ·simp [EM,F9] at hp;exact AC [] rfl (by simp) (Cf _ (by simp [CM] at hp ⊢;grind)) trivial rfl rfl
  by_cases h2:s=2
  ·subst h2;refine pg [.a,.a,.a] rfl (by simp [Am] <;> grind) <| Aj rfl (λ_=>FW x) (by simp [Am]) <| Vh rfl <| C9 GS 1 rfl rfl rfl (FF met) (by simp [Am]) (z:=.bool false) rfl (λ_=>.bool _) (JL met x) <| Vh rfl <| AC [] rfl (by simp) (Cf _ ?_) trivial rfl rfl;simp [Ea,EM,Bm,BC] at hy;cases hm:BO met x with
   | true=>simp
   | false =>
    simp only [hm] at hy;by_cases hq:ps=[]
    ·subst hq;simp [CN] at hy ⊢;grind
    ·simp [hq]
  exact pg [.f,.f,.f,.f,.f,.f] rfl (by simp [h1,h2,h3,h4,h5,h6]) <| AC [] rfl (by simp) (Cf _ rfl) trivial rfl rfl
termination_by t=>SizeOf.sizeOf t
decreasing_by
 all_goals
  have:=Cn (AF ht);simp_wf;omega
def Dd (t:Ty):Bool:=decide (Bv t<=12)&&(Ea t&&Kc (Bm t))
theorem Rz (t:Ty) (h:Dd t=true):AK Tryz.prog 283 [.ref 1 0] [(1,some (.immb 182 4 (dTyc t)))] (.ret IK [(1,some (.immb 182 4 (dTyc t)))]):=by
 simp only [Dd,A1,decide_eq_true_eq] at h;exact Ac GS Tryz.func283 (by decide +kernel) rfl [2,3,4] rfl rfl <| KT rfl <| Ad (fr:=[]) [(2,1)] [] rfl (by simp) (Mc t 12 (by omega) (by decide)) At rfl rfl rfl rfl <| KT rfl <| Ei rfl <| KT rfl <| Ad (fr:=[]) [(3,1)] [] rfl (by simp) (M9 t [] (by simpa [Kc] using h.2)) At rfl rfl rfl rfl <| KT rfl <| BE ⟨_,rfl,rfl,AI⟩
theorem Us (t:Ty) (h:Dd t=false):AK Tryz.prog 283 [.ref 1 0] [(1,some (.immb 182 4 (dTyc t)))] (.pan FA):=by
 refine Ac GS Tryz.func283 (by decide +kernel) rfl [2,3,4] rfl rfl <| KT rfl ?_;by_cases h1:Bv t<=12
 ·exact Ad (fr:=[]) [(2,1)] [] rfl (by simp) (Mc t 12 (by omega) (by decide)) At rfl rfl rfl rfl <| KT rfl <| Ei rfl <| KT rfl <| AC [(3,1)] rfl (by simp) (UB t [] (by simpa [Dd,h1,Kc] using h)) At rfl rfl
 ·exact AC [(2,1)] rfl (by simp) (ZY t 12 (by omega) (by decide) (by decide)) At rfl rfl
theorem On (t:Ty):Al Tryz.prog 257 [.agg (dTyc t)] (Rv (Dd t)):=by
 refine Ac GS Tryz.func257 (by decide +kernel) rfl [1,2,3] rfl rfl <| KT rfl ?_;cases h:Dd t with
 | true =>
  exact Ad (fr:=[]) [(1,1)] [] rfl (by simp) (Mo Tryz.func283 (by decide +kernel) rfl (Rz t h)) At rfl rfl rfl rfl <| KT rfl <| Ab rfl rfl rfl
 | false =>
  exact Ad (fr:=[]) [(1,1)] [] rfl (by simp) (Oe Tryz.func283 (by decide +kernel) rfl (Us t h)) At rfl rfl rfl rfl <| KT rfl <| Ab rfl rfl rfl
end Go.Hk
namespace Go.Hk
open Go.Proofs
def gG:TT:=gH++[
 (296,⟨.struct [(0,4),(1,4),(2,4),(3,3)],true,4,16,[.imm (.bool false),.imm (.bool false),.imm (.bool false),.imm (.int .i64 0)]⟩)]
theorem GR:TTok Tryz.prog gG:=.of_eq (l:=[4,3,9,49,25,182,45,47,5,23,22,73,46,180,71,43,178,40,41,113,111,28,293,195,1,139,296]) (by kernel_rfl)
section
variable {n:Nat} {F:List Nat} {Q:DQ} {env env':Env} {st st':St} {ids ids':List Nat} {k todo:List DI} {ob:List Prop}
theorem sd (path:List Pt) (h:run gG n 300 path todo env st ids [] = .at k env' st' ids' ob) (hob:AB ob) (hd:G Tryz.prog n F Q k env' st' ids'):DGo Tryz.prog n F Q todo env st ids:=KK GR Fb 300 path h hob hd
theorem Oq (h:run gG n 300 [] todo env st ids [] = .at k env' st' ids' ob) (hd:G Tryz.prog n F Q k env' st' ids') (hob:AB ob:=by simp):DGo Tryz.prog n F Q todo env st ids:=sd [] h hob hd
theorem vU (h:run gG n 300 [] todo env st ids [] = .at k env' st' ids' ob) (hd:G Tryz.prog n F Q k env' st' ids') (hob:AB ob:=by simp [Am]):DGo Tryz.prog n F Q todo env st ids:=sd [] h hob hd
theorem sg (path:List Pt) (h:run gG n 300 path todo env st ids [] = .at k env' st' ids' ob) (hob:AB ob) (hd:G Tryz.prog n F Q k env' st' ids'):G Tryz.prog n F Q todo env st ids:=J6 GR Fb 300 path h hob hd
theorem EF (h:run gG n 300 [] todo env st ids [] = .at k env' st' ids' ob) (hd:G Tryz.prog n F Q k env' st' ids') (hob:AB ob:=by simp):G Tryz.prog n F Q todo env st ids:=sg [] h hob hd
theorem sgqc (h:run gG n 300 [] todo env st ids [] = .at k env' st' ids' ob) (hd:G Tryz.prog n F Q k env' st' ids') (hob:AB ob:=by simp [Am]):G Tryz.prog n F Q todo env st ids:=sg [] h hob hd
theorem si {es:List (List V)} {m:Int} {sz:Nat} {e:TypeId} {g:Option (Bool×Bool)} {ob:List Prop} {t:Nat} {todo':List DI} {c:List V} (h:Rh gG n env todo=some ⟨es,m,sz,e,g,ob,some t,todo'⟩)
  (hc:Am g->0<=m/\es[m.toNat]?=some c/\c.length=sz) (hob:AB ob) (hk:G Tryz.prog n F Q todo' ((t,gD g (.ip e c 0))::env) st ids):G Tryz.prog n F Q todo env st ids:=H5 GR h hc hob hk
end
structure Has where
 n:Bool
 text:Bool
 pats:Bool
 kids:Int
 is:Bool
def BJ (op:Int) (k p:Nat):Has :=
 if op=1\/op=2 then ⟨true,false,false,0,true⟩
 else if op=3\/op=21\/op=25\/op=28 then ⟨false,false,false,0,true⟩
 else if op=4 then ⟨false,true,false,0,true⟩
 else if op=5\/op=27 then ⟨false,true,false,1,true⟩
 else if op=7 then ⟨false,true,false,2,true⟩
 else if op=8 then ⟨false,false,false,3,true⟩
 else if op=14 then ⟨false,true,false,(if (3:Int)<k then 3 else k),true⟩
 else if op=15 then ⟨false,false,true,(IntKind.i64.wrap (1+(p:Int))),true⟩
 else if op=16\/op=17\/op=19\/op=20\/op=23\/op=26 then ⟨false,false,false,1,true⟩
 else if op=24 then ⟨true,false,false,1,true⟩
 else if op=6\/op=9\/op=10\/op=11\/op=12\/op=13\/op=18\/op=22 then ⟨false,false,false,2,true⟩
 else ⟨false,false,false,0,false⟩
def Em (h:Has):List V:=[.bool h.n,.bool h.text,.bool h.pats,.int .i64 h.kids]
theorem UO (op n:Int) (x:Str) (ks:List Tm) (ps:List Ty):Al Tryz.prog 255 [.agg (Bo (.mk op n x ks ps))] (.tup [.agg (Em (BJ op ks.length ps.length)),.bool (BJ op ks.length ps.length).is]):=by
 refine B1 λhv=>?_;simp [CL,Fh,Bo,maxLen] at hv;refine Ac GR Tryz.func255 (by decide +kernel) rfl [1,2,3] rfl rfl ?_;by_cases h1:op=1
 ·subst h1;refine sg [.a,.a] rfl (by simp) <| Ab rfl rfl ?_;simp [BJ,Em]
 by_cases h2:op=2
 ·subst h2;refine sg [.a,.a] rfl (by simp) <| Ab rfl rfl ?_;simp [BJ,Em]
 by_cases h3:op=3
 ·subst h3;refine sg [.a,.a,.a,.a] rfl (by simp) <| Ab rfl rfl ?_;simp [BJ,Em]
 by_cases h21:op=21
 ·subst h21;refine sg [.a,.a,.a,.a,.a] rfl (by simp) <| Ab rfl rfl ?_;simp [BJ,Em]
 by_cases h25:op=25
 ·subst h25;refine sg [.a,.a,.a,.a,.a,.a] rfl (by simp) <| Ab rfl rfl ?_;simp [BJ,Em]
 by_cases h28:op=28
 ·subst h28;refine sg [.a,.a,.a,.a,.a,.a] rfl (by simp) <| Ab rfl rfl ?_;simp [BJ,Em]
 by_cases h4:op=4
 ·subst h4;refine sg [.a,.a,.a,.a,.a,.a,.a] rfl (by simp) <| Ab rfl rfl ?_;simp [BJ,Em]
 by_cases h5:op=5
 ·subst h5;refine sg [.a,.a,.a,.a,.a,.a,.a,.a,.a] rfl (by simp) <| Ab rfl rfl ?_;simp [BJ,Em]
 by_cases h27:op=27
 ·subst h27;refine sg [.a,.a,.a,.a,.a,.a,.a,.a,.a] rfl (by simp) <| Ab rfl rfl ?_;simp [BJ,Em]
 by_cases h7:op=7
 ·subst h7;refine sg [.a,.a,.a,.a,.a,.a,.a,.a,.a,.a] rfl (by simp) <| Ab rfl rfl ?_;simp [BJ,Em]
 by_cases h8:op=8
 ·subst h8;refine sg [.a,.a,.a,.a,.a,.a,.a,.a,.a,.a,.a] rfl (by simp) <| Ab rfl rfl ?_;simp [BJ,Em]
 by_cases h14:op=14
 ·subst h14;refine sg [.a,.a,.a,.a,.a,.a,.a,.a,.a,.a,.a,.a] rfl (by simp) <| Ab rfl rfl ?_;simp [BJ,Em]
 by_cases h15:op=15
 ·subst h15;refine sg [.a,.a,.a,.a,.a,.a,.a,.a,.a,.a,.a,.a,.a] rfl (by simp) <| Ab rfl rfl ?_;simp [BJ,Em]
 by_cases h16:op=16
 ·subst h16;refine sg [.a,.a,.a,.a,.a,.a,.a,.a,.a,.a,.a,.a,.a,.a,.a] rfl (by simp) <| Ab rfl rfl ?_;simp [BJ,Em]
 by_cases h17:op=17
 ·subst h17;refine sg [.a,.a,.a,.a,.a,.a,.a,.a,.a,.a,.a,.a,.a,.a,.a,.a] rfl (by simp) <| Ab rfl rfl ?_;simp [BJ,Em]
 by_cases h19:op=19
 ·subst h19;refine sg [.a,.a,.a,.a,.a,.a,.a,.a,.a,.a,.a,.a,.a,.a,.a,.a,.a] rfl (by simp) <| Ab rfl rfl ?_;simp [BJ,Em]
 by_cases h20:op=20
 ·subst h20;refine sg [.a,.a,.a,.a,.a,.a,.a,.a,.a,.a,.a,.a,.a,.a,.a,.a,.a,.a] rfl (by simp) <| Ab rfl rfl ?_;simp [BJ,Em]
 by_cases h23:op=23
 ·subst h23;refine sg [.a,.a,.a,.a,.a,.a,.a,.a,.a,.a,.a,.a,.a,.a,.a,.a,.a,.a,.a] rfl (by simp) <| Ab rfl rfl ?_;simp [BJ,Em]
 by_cases h26:op=26
 ·subst h26;refine sg [.a,.a,.a,.a,.a,.a,.a,.a,.a,.a,.a,.a,.a,.a,.a,.a,.a,.a,.a] rfl (by simp) <| Ab rfl rfl ?_;simp [BJ,Em]
 by_cases h24:op=24
 ·subst h24;refine sg [.a,.a,.a,.a,.a,.a,.a,.a,.a,.a,.a,.a,.a,.a,.a,.a,.a,.a,.a,.a] rfl (by simp) <| Ab rfl rfl ?_;simp [BJ,Em]
 by_cases h6:op=6
 ·subst h6;refine sg [.a,.a,.a,.a,.a,.a,.a,.a,.a,.a,.a,.a,.a,.a,.a,.a,.a,.a,.a,.a,.a,.a] rfl (by simp) <| Ab rfl rfl ?_;simp [BJ,Em]
 by_cases h9:op=9
 ·subst h9;refine sg [.a,.a,.a,.a,.a,.a,.a,.a,.a,.a,.a,.a,.a,.a,.a,.a,.a,.a,.a,.a,.a,.a,.a] rfl (by simp) <| Ab rfl rfl ?_;simp [BJ,Em]
 by_cases h10:op=10
 ·subst h10;refine sg [.a,.a,.a,.a,.a,.a,.a,.a,.a,.a,.a,.a,.a,.a,.a,.a,.a,.a,.a,.a,.a,.a,.a,.a] rfl (by simp) <| Ab rfl rfl ?_;simp [BJ,Em]
 by_cases h11:op=11
 ·subst h11;refine sg [.a,.a,.a,.a,.a,.a,.a,.a,.a,.a,.a,.a,.a,.a,.a,.a,.a,.a,.a,.a,.a,.a,.a,.a,.a] rfl (by simp) <| Ab rfl rfl ?_;simp [BJ,Em]
 by_cases h12:op=12
 ·subst h12;refine sg [.a,.a,.a,.a,.a,.a,.a,.a,.a,.a,.a,.a,.a,.a,.a,.a,.a,.a,.a,.a,.a,.a,.a,.a,.a,.a] rfl (by simp) <| Ab rfl rfl ?_;simp [BJ,Em]
 by_cases h13:op=13
 ·subst h13;refine sg [.a,.a,.a,.a,.a,.a,.a,.a,.a,.a,.a,.a,.a,.a,.a,.a,.a,.a,.a,.a,.a,.a,.a,.a,.a,.a,.a] rfl (by simp) <| Ab rfl rfl ?_;simp [BJ,Em]
 by_cases h18:op=18
 ·subst h18;refine sg [.a,.a,.a,.a,.a,.a,.a,.a,.a,.a,.a,.a,.a,.a,.a,.a,.a,.a,.a,.a,.a,.a,.a,.a,.a,.a,.a,.a] rfl (by simp) <| Ab rfl rfl ?_;simp [BJ,Em]
 by_cases h22:op=22
 ·subst h22;refine sg [.a,.a,.a,.a,.a,.a,.a,.a,.a,.a,.a,.a,.a,.a,.a,.a,.a,.a,.a,.a,.a,.a,.a,.a,.a,.a,.a,.a] rfl (by simp) <| Ab rfl rfl ?_;simp [BJ,Em]
 refine sg [.f,.f,.f,.f,.f,.f,.f,.f,.f,.f,.f,.f,.f,.f,.f,.f,.f,.f,.f,.f,.f,.f,.f,.f,.f,.f,.f,.f] rfl (by simp [h1,h2,h3,h21,h25,h28,h4,h5,h27,h7,h8,h14,h15,h16,h17,h19,h20,h23,h26,h24,h6,h9,h10,h11,h12,h13,h18,h22]) <| Ab rfl rfl ?_;simp [BJ,Em,h1,h2,h3,h21,h25,h28,h4,h5,h27,h7,h8,h14,h15,h16,h17,h19,h20,h23,h26,h24,h6,h9,h10,h11,h12,h13,h18,h22]
end Go.Hk
namespace Go.Hk
open Go.Proofs
def VW (op n:Int) (x:Str) (k p:Nat):Bool:=let h:=BJ op k p
 h.is&&((k:Int) == h.kids)&&(h.n||n == 0)&&(h.text||x == [])&&(h.pats||(p:Int) == 0)
def IO (op:Int) (x:Str) (k p:Nat):Bool:=!((BJ op k p).text&&op != 14)||EA x
theorem Dv (op n:Int) (x:Str) (ks:List Tm) (ps:List Ty) (hl:IO op x ks.length ps.length=true):DGo Tryz.prog Tryz.f191.ntmps (DJ []) (Kv gG Tryz.f191.results.toList (.ret IK []))
  [.code (FV Tryz.f191 4)] [(1,.ref 1 0),(2,.ref 2 0)] [(2,some (.immb 296 4 (Em (BJ op ks.length ps.length)))),(1,some (.immb 49 5 (Bo (.mk op n x ks ps))))] [3,4]:=by
 refine vU rfl <| Aa rfl (λh=>?_) (λh=>?_)
 ·refine Oq rfl <| Aj rfl (λ_=>FW x) (by simp [Am]) <| EF rfl ?_;have hx:EA x=true:=by simp [IO] at hl h;grind
  exact Aj rfl (λ_=>B7 _ hx) (by simp) <| EF rfl <| BE ⟨_,AM⟩
 ·exact Oq rfl <| BE ⟨_,AM⟩
theorem DV (op n:Int) (x:Str) (ks:List Tm) (ps:List Ty) (hl:IO op x ks.length ps.length=false):DGo Tryz.prog Tryz.f191.ntmps (DJ []) (Kv gG Tryz.f191.results.toList (.pan FA))
  [.code (FV Tryz.f191 4)] [(1,.ref 1 0),(2,.ref 2 0)] [(2,some (.immb 296 4 (Em (BJ op ks.length ps.length)))),(1,some (.immb 49 5 (Bo (.mk op n x ks ps))))] [3,4]:=by
 refine vU rfl <| Aa rfl (λh=>?_) (λh=>?_)
 ·refine Oq rfl <| Aj rfl (λ_=>FW x) (by simp [Am]) <| EF rfl ?_;have hx:EA x=false:=by simp [IO] at hl h;grind
  exact AC [] rfl (by simp) (Cf _ hx) trivial rfl rfl
 ·exfalso;simp [IO] at hl h;grind
def Do (op n:Int) (x:Str) (ps:List Ty):Bool :=
 if op=1 then CM n
 else if op=2 then n == 0||n == 1
 else if op=24 then decide (0<=n)&&decide (n<4)
 else if op=14 then Es x
 else if op=15 then decide (1<=(ps.length:Int))&&decide ((ps.length:Int)<=5)&&ps.all Dd
 else true
def Sg (op n:Int) (x:Str) (k:Nat) (ps:List Ty):Bool:=VW op n x k ps.length&&Do op n x ps&&IO op x k ps.length
theorem RH (op n:Int) (x:Str) (ks:List Tm) (ps:List Ty) (hy:Sg op n x ks.length ps=true):AK Tryz.prog 191 [.imm (.agg (Bo (.mk op n x ks ps)))] [] (.ret IK []):=by
 simp only [Sg] at hy;refine Ac GR Tryz.func191 (by decide +kernel) rfl [1,2,3,4] rfl rfl <| EF rfl <| Aj rfl (λ_=>UO op n x ks ps) (by simp [Am]) <| sg [] rfl (by simp [Am,Em] <;> grind) ?_;simp only [A1] at hy;obtain ⟨⟨hh,he⟩,hl⟩:=hy;refine Aj rfl (λ_=>B7 _ (by simp [VW] at hh ⊢;grind)) (by simp) ?_;by_cases h1:op=1
 ·subst h1;refine sg [.a] rfl (by simp [Am]) <| Aj rfl (λ_=>I5 n) (by simp) <| EF rfl ?_;simp [Do] at he;exact Aj rfl (λ_=>B7 _ (by first | exact he | (simp at he ⊢;grind) | (simp;grind) | grind)) (by simp) <| sg [.s] rfl (by simp) <| Ae (Dv _ n x ks ps hl) AM AM rfl
 by_cases h2:op=2
 ·subst h2;refine sg [.a,.a] rfl (by simp [Am]) ?_;simp [Do] at he;exact Aj rfl (λ_=>B7 _ (by first | exact he | (simp at he ⊢;grind) | (simp;grind) | grind)) (by simp) <| sg [.s] rfl (by simp) <| Ae (Dv _ n x ks ps hl) AM AM rfl
 by_cases h24:op=24
 ·subst h24;refine sg [.a,.a,.a] rfl (by simp [Am]) ?_;simp [Do] at he;exact Aj rfl (λ_=>B7 _ (by first | exact he | (simp at he ⊢;grind) | (simp;grind) | grind)) (by simp) <| sg [.s] rfl (by simp) <| Ae (Dv _ n x ks ps hl) AM AM rfl
 by_cases h14:op=14
 ·subst h14;refine sg [.a,.a,.a,.a] rfl (by simp [Am]) <| Aj rfl (λ_=>Ew x) (by simp) <| EF rfl ?_;simp [Do] at he;exact Aj rfl (λ_=>B7 _ (by first | exact he | (simp at he ⊢;grind) | (simp;grind) | grind)) (by simp) <| sg [.s] rfl (by simp) <| Ae (Dv _ n x ks ps hl) AM AM rfl
 by_cases h15:op=15
 ·subst h15;refine sg [.a,.a,.a,.a,.a] rfl (by simp [Am]) ?_;simp [Do] at he;refine Aj rfl (λ_=>B7 _ (by simp;grind)) (by simp) <| EF rfl <| Ak (λi:Nat=>[(101,.imm (.int .i64 i)),(100,.imm (.int .i64 ps.length)),(99,.imm (.sl (A2 ps))),(1,.ref 1 0),(2,.ref 2 0)]) (λ_=>[(2,some (.immb 296 4 (Em (BJ 15 ks.length ps.length)))),(1,some (.immb 49 5 (Bo (.mk 15 n x ks ps))))]) [3,4] (λi=>ps.length-i)
   (λi=>i<=ps.length/\(ps.drop i).all Dd=true) 0 ⟨AL _,by simpa using he.2⟩ ⟨rfl,AA (by simp),AD⟩ AM rfl λi hi ih=>?_
  refine Oq rfl ?_;have hi2:=hi.2;refine Aa rfl (λh=>?_) (λh=>?_)
  ·simp at h;obtain ⟨t,ht⟩:=Ao h;rw [Av ht,Da] at hi2;refine Oq rfl <| si rfl (c:=dTyc t) (λ_=>⟨by simp,by simpa using A8 ht,by simp⟩) (by simp) <| EF rfl <| Aj rfl (λ_=>On t) (by simp) <| EF rfl ?_;simp only [A1] at hi2;have hz:=hi2.1;exact Aj rfl (λ_=>B7 _ (by first | rfl | (rw [hz];rfl))) (by simp) <| EF rfl <| Ae (ih (i+1) (by omega) ⟨by omega,hi2.2⟩) ⟨AA (Cb (by omega) (by omega)),BF⟩ AM rfl
  ·simp at h;rw [Br (by omega)] at hi2;exact sd [.s] rfl (by simp) <| Ae (Dv _ n x ks ps hl) AM AM rfl
 exact sg [.f,.f,.f,.f,.f,.s] rfl (by simp [h1,h2,h24,h14,h15]) <| Ae (Dv _ n x ks ps hl) AM AM rfl
theorem gM (op n:Int) (x:Str) (ks:List Tm) (ps:List Ty) (hy:Sg op n x ks.length ps=false):AK Tryz.prog 191 [.imm (.agg (Bo (.mk op n x ks ps)))] [] (.pan FA):=by
 simp only [Sg] at hy;refine Ac GR Tryz.func191 (by decide +kernel) rfl [1,2,3,4] rfl rfl <| EF rfl <| Aj rfl (λ_=>UO op n x ks ps) (by simp [Am]) <| sg [] rfl (by simp [Am,Em] <;> grind) ?_;by_cases hh:VW op n x ks.length ps.length=true
 rotate_left
 ·exact AC [] rfl (by simp) (Cf _ (by simp [VW] at hh ⊢;grind)) trivial rfl rfl
 rw [hh] at hy;refine Aj rfl (λ_=>B7 _ (by simp [VW] at hh ⊢;grind)) (by simp) ?_;by_cases h1:op=1
 ·subst h1;refine sg [.a] rfl (by simp [Am]) <| Aj rfl (λ_=>I5 n) (by simp) <| EF rfl ?_;by_cases he:Do 1 n x ps=true
  ·have hl:IO 1 x ks.length ps.length=false:=by simpa [he] using hy
   simp [Do] at he;exact Aj rfl (λ_=>B7 _ (by first | exact he | (simp at he ⊢;grind) | (simp;grind) | grind)) (by simp) <| sg [.s] rfl (by simp) <| Ae (DV _ n x ks ps hl) AM AM rfl
  ·simp [Do] at he;exact AC [] rfl (by simp) (Cf _ (by first | exact he | (simp at he ⊢;grind) | (simp;grind) | grind)) trivial rfl rfl
 by_cases h2:op=2
 ·subst h2;refine sg [.a,.a] rfl (by simp [Am]) ?_;by_cases he:Do 2 n x ps=true
  ·have hl:IO 2 x ks.length ps.length=false:=by simpa [he] using hy
   simp [Do] at he;exact Aj rfl (λ_=>B7 _ (by first | exact he | (simp at he ⊢;grind) | (simp;grind) | grind)) (by simp) <| sg [.s] rfl (by simp) <| Ae (DV _ n x ks ps hl) AM AM rfl
  ·simp [Do] at he;exact AC [] rfl (by simp) (Cf _ (by first | exact he | (simp at he ⊢;grind) | (simp;grind) | grind)) trivial rfl rfl
 by_cases h24:op=24
 ·subst h24;refine sg [.a,.a,.a] rfl (by simp [Am]) ?_;by_cases he:Do 24 n x ps=true
  ·have hl:IO 24 x ks.length ps.length=false:=by simpa [he] using hy
   simp [Do] at he;exact Aj rfl (λ_=>B7 _ (by first | exact he | (simp at he ⊢;grind) | (simp;grind) | grind)) (by simp) <| sg [.s] rfl (by simp) <| Ae (DV _ n x ks ps hl) AM AM rfl
  ·simp [Do] at he;exact AC [] rfl (by simp) (Cf _ (by first | exact he | (simp at he ⊢;grind) | (simp;grind) | grind)) trivial rfl rfl
 by_cases h14:op=14
 ·subst h14;refine sg [.a,.a,.a,.a] rfl (by simp [Am]) <| Aj rfl (λ_=>Ew x) (by simp) <| EF rfl ?_;by_cases he:Do 14 n x ps=true
  ·have hl:IO 14 x ks.length ps.length=false:=by simpa [he] using hy
   simp [Do] at he;exact Aj rfl (λ_=>B7 _ (by first | exact he | (simp at he ⊢;grind) | (simp;grind) | grind)) (by simp) <| sg [.s] rfl (by simp) <| Ae (DV _ n x ks ps hl) AM AM rfl
  ·simp [Do] at he;exact AC [] rfl (by simp) (Cf _ (by first | exact he | (simp at he ⊢;grind) | (simp;grind) | grind)) trivial rfl rfl
 by_cases h15:op=15
 ·subst h15;refine sg [.a,.a,.a,.a,.a] rfl (by simp [Am]) ?_;by_cases he:(decide (1<=(ps.length:Int))&&decide ((ps.length:Int)<=5))=true
  rotate_left
  ·exact AC [] rfl (by simp) (Cf _ (by simp at he ⊢;grind)) trivial rfl rfl
  have he5:ps.length<=5:=by simp at he;omega
  have hy:ps.all Dd=false\/IO 15 x ks.length ps.length=false:=by
   have e:Do 15 n x ps=((decide (1<=(ps.length:Int))&&decide ((ps.length:Int)<=5))&&ps.all Dd):=by simp only [Do];rfl
   rw [e,he] at hy;simpa only [KZ,La] using hy
  refine Aj rfl (λ_=>B7 _ (by simp at he ⊢;grind)) (by simp) <| EF rfl <| Ak (λi:Nat=>[(101,.imm (.int .i64 i)),(100,.imm (.int .i64 ps.length)),(99,.imm (.sl (A2 ps))),(1,.ref 1 0),(2,.ref 2 0)]) (λ_=>[(2,some (.immb 296 4 (Em (BJ 15 ks.length ps.length)))),(1,some (.immb 49 5 (Bo (.mk 15 n x ks ps))))]) [3,4] (λi=>ps.length-i)
   (λi=>i<=ps.length/\((ps.drop i).all Dd=false\/IO 15 x ks.length ps.length=false)) 0 ⟨AL _,hy⟩ ⟨rfl,AA (by simp),AD⟩ AM rfl λi hi ih=>?_
  refine Oq rfl ?_;have hi2:=hi.2;refine Aa rfl (λh=>?_) (λh=>?_)
  ·simp at h;obtain ⟨t,ht⟩:=Ao h;rw [Av ht,Da] at hi2;refine Oq rfl <| si rfl (c:=dTyc t) (λ_=>⟨by simp,by simpa using A8 ht,by simp⟩) (by simp) <| EF rfl <| Aj rfl (λ_=>On t) (by simp) <| EF rfl ?_;cases hz:Dd t with
   | true =>
    rw [hz,KZ] at hi2;exact Aj rfl (λ_=>B7 _ (by first | rfl | (rw [hz];rfl))) (by simp) <| EF rfl <| Ae (ih (i+1) (by omega) ⟨by omega,hi2⟩) ⟨AA (Cb (by omega) (by omega)),BF⟩ AM rfl
   | false=>exact AC [] rfl (by simp) (Cf _ (by first | rfl | (rw [hz];rfl))) trivial rfl rfl
  ·simp at h;rw [Br (by omega)] at hi2;exact sd [.s] rfl (by simp) <| Ae (DV _ n x ks ps (by simpa using hi2)) AM AM rfl
 exact sg [.f,.f,.f,.f,.f,.s] rfl (by simp [h1,h2,h24,h14,h15]) <| Ae (DV _ n x ks ps (by simpa [Do,h1,h2,h24,h14,h15] using hy)) AM AM rfl
mutual
def I0:Tm->Bool
 | .mk op n x ks ps=>Sg op n x ks.length ps&&GY ks
def GY:List Tm->Bool
 | []=>true
 | t::r=>I0 t&&GY r
end
theorem KQ:∀(t:Tm),I0 t=true->AK Tryz.prog 136 [.imm (.agg (Bo t))] [] (.ret IK [])
 | .mk op n x ks ps,hy=>by
  refine E1 0 rfl λhok=>?_;have hv:ks.length<=9223372036854775807:=by
   simp [CL,Fh,Bo,maxLen] at hok;have:=hok.1;omega
  simp only [I0,TI] at hy;refine Ac GR Tryz.func136 (by decide +kernel) rfl [1,2,3] rfl rfl <| EF rfl <| Ad (fr:=[]) [] [] rfl (by simp) (RH op n x ks ps hy.1) trivial rfl rfl rfl rfl <| EF rfl <| Ak (λi:Nat=>[(9,.imm (.int .i64 i)),(8,.imm (.int .i64 ks.length)),(7,.imm (.sl (E4 ks))),(1,.ref 1 0)]) (λ_=>[(1,some (.immb 49 5 (Bo (.mk op n x ks ps))))]) [2,3] (λi=>ks.length-i)
   (λi=>i<=ks.length/\GY (ks.drop i)=true) 0 ⟨AL _,hy.2⟩ ⟨rfl,AA (by simp),AM⟩ AI rfl λi hi ih=>?_
  refine Oq rfl ?_;have hi2:=hi.2;refine Aa rfl (λh=>?_) (λh=>?_)
  ·simp at h;obtain ⟨t,ht⟩:=Ao h;rw [Av ht] at hi2;simp only [GY,TI] at hi2;refine Oq rfl <| si rfl (c:=Bo t) (λ_=>⟨by simp,by simpa using Fz ht,by simp⟩) (by simp) <| EF rfl ?_
   ·exact Ad (fr:=[]) [] [] rfl (by simp) (KQ t hi2.1) trivial rfl rfl rfl rfl <| EF rfl <| Ae (ih (i+1) (by omega) ⟨by omega,hi2.2⟩) ⟨AA (Cb (by omega) (by omega)),AD⟩ AI rfl
  ·exact Oq rfl <| BE ⟨_,AM⟩
termination_by t=>SizeOf.sizeOf t
decreasing_by
 all_goals
  have:=Cn (AF ht);simp_wf;omega
theorem RG:∀(t:Tm),I0 t=false->AK Tryz.prog 136 [.imm (.agg (Bo t))] [] (.pan FA)
 | .mk op n x ks ps,hy=>by
  refine E1 0 rfl λhok=>?_;have hv:ks.length<=9223372036854775807:=by
   simp [CL,Fh,Bo,maxLen] at hok;have:=hok.1;omega
  simp only [I0,La] at hy;refine Ac GR Tryz.func136 (by decide +kernel) rfl [1,2,3] rfl rfl <| EF rfl ?_;by_cases hn:Sg op n x ks.length ps=true
  rotate_left
  ·exact AC [] rfl (by simp) (gM op n x ks ps (by simpa using hn)) trivial rfl rfl
  rw [hn] at hy;simp only [Bool.true_eq_false,false_or] at hy;refine Ad (fr:=[]) [] [] rfl (by simp) (RH op n x ks ps hn) trivial rfl rfl rfl rfl <| EF rfl <| Ak (λi:Nat=>[(9,.imm (.int .i64 i)),(8,.imm (.int .i64 ks.length)),(7,.imm (.sl (E4 ks))),(1,.ref 1 0)]) (λ_=>[(1,some (.immb 49 5 (Bo (.mk op n x ks ps))))]) [2,3] (λi=>ks.length-i)
   (λi=>i<=ks.length/\GY (ks.drop i)=false) 0 ⟨AL _,hy⟩ ⟨rfl,AA (by simp),AM⟩ AI rfl λi hi ih=>?_
  refine Oq rfl ?_;have hi2:=hi.2;refine Aa rfl (λh=>?_) (λh=>?_)
  ·simp at h;obtain ⟨t,ht⟩:=Ao h;rw [Av ht] at hi2;simp only [GY,La] at hi2;refine Oq rfl <| si rfl (c:=Bo t) (λ_=>⟨by simp,by simpa using Fz ht,by simp⟩) (by simp) <| EF rfl ?_;by_cases hz:I0 t=true
   ·exact Ad (fr:=[]) [] [] rfl (by simp) (KQ t hz) trivial rfl rfl rfl rfl <| EF rfl <| Ae (ih (i+1) (by omega) ⟨by omega,by rw [hz] at hi2;simpa using hi2⟩) ⟨AA (Cb (by omega) (by omega)),AD⟩ AI rfl
   ·exact AC [] rfl (by simp) (RG t (by simpa using hz)) trivial rfl rfl
  ·exfalso;simp at h;rw [Br (by omega)] at hi2;simp [GY] at hi2
termination_by t=>SizeOf.sizeOf t
decreasing_by
 all_goals
  have:=Cn (AF ht);simp_wf;omega
def JF (t:Tm):Bool:=decide (0<=Bp t 60 14)&&I0 t
theorem Ze (t:Tm) (h:JF t=true):AK Tryz.prog 134 [.ref 1 0] [(1,some (.immb 49 5 (Bo t)))] (.ret IK [(1,some (.immb 49 5 (Bo t)))]):=by
 simp only [JF,A1,decide_eq_true_eq] at h;exact Ac GR Tryz.func134 (by decide +kernel) rfl [2,3,4] rfl rfl <| EF rfl <| Ad (fr:=[]) [(2,1)] [] rfl (by simp) (JT t 60 14 1 (by decide) (by decide) (by decide) (by decide) (by decide) (by decide) h.1) At rfl rfl rfl rfl <| EF rfl <| Ad (fr:=[]) [] [] rfl (by simp) (KQ t h.2) trivial rfl rfl rfl rfl <| EF rfl <| BE ⟨_,rfl,rfl,AI⟩
theorem fD (t:Tm) (h:JF t=false):AK Tryz.prog 134 [.ref 1 0] [(1,some (.immb 49 5 (Bo t)))] (.pan FA):=by
 refine Ac GR Tryz.func134 (by decide +kernel) rfl [2,3,4] rfl rfl <| EF rfl ?_;by_cases h1:0<=Bp t 60 14
 ·exact Ad (fr:=[]) [(2,1)] [] rfl (by simp) (JT t 60 14 1 (by decide) (by decide) (by decide) (by decide) (by decide) (by decide) h1) At rfl rfl rfl rfl <| EF rfl <| AC [] rfl (by simp) (RG t (by simpa [JF,h1] using h)) trivial rfl rfl
 ·exact AC [(2,1)] rfl (by simp) (Wa t 60 14 1 (by decide) (by decide) (by decide) (by decide) (by decide) (by decide) (by show Bp t 60 14<0;omega)) At rfl rfl
theorem WP (t:Tm):Al Tryz.prog 74 [.agg (Bo t)] (Rv (JF t)):=by
 refine Ac GR Tryz.func74 (by decide +kernel) rfl [1,2,3] rfl rfl <| EF rfl ?_;cases h:JF t with
 | true =>
  exact Ad (fr:=[]) [(1,1)] [] rfl (by simp) (Mo Tryz.func134 (by decide +kernel) rfl (Ze t h)) At rfl rfl rfl rfl <| EF rfl <| Ab rfl rfl rfl
 | false =>
  exact Ad (fr:=[]) [(1,1)] [] rfl (by simp) (Oe Tryz.func134 (by decide +kernel) rfl (fD t h)) At rfl rfl rfl rfl <| EF rfl <| Ab rfl rfl rfl
def oC:TT:=gG++[
 (190,⟨.iface,false,1,16,[.imm .niliface]⟩),
 (183,⟨.sl 190,false,1,24,[.nils]⟩),
 (185,⟨.struct [(0,113)],true,2,40,[.imm (.str []),.nils]⟩),
 (187,⟨.struct [(0,71)],true,15,224,[.imm (.str []),.imm (.str []),.imm (.int .i64 0),.imm (.int .i64 0),.imm (.str []),.nils,.imm (.int .i64 0),.imm (.int .i64 0),.imm (.str []),.nils,.imm (.int .i64 0),.imm (.int .i64 0),.imm (.str []),.nils,.nils]⟩),
 (26,⟨.func,false,1,8,[.imm .nilfn]⟩),
 (246,⟨.func,false,1,8,[.imm .nilfn]⟩),
 (191,⟨.func,false,1,8,[.imm .nilfn]⟩)]
theorem Cv:TTok Tryz.prog oC:=.of_eq (l:=[4,3,9,49,25,182,45,47,5,23,22,73,46,180,71,43,178,40,41,113,111,28,293,195,1,139,296,190,183,185,187,26,246,191]) (by kernel_rfl)
section
variable {n:Nat} {F:List Nat} {Q:DQ} {env env':Env} {st st':St} {ids ids':List Nat} {k todo:List DI} {ob:List Prop}
theorem ad (path:List Pt) (h:run oC n 300 path todo env st ids [] = .at k env' st' ids' ob) (hob:AB ob) (hd:G Tryz.prog n F Q k env' st' ids'):DGo Tryz.prog n F Q todo env st ids:=KK Cv Fb 300 path h hob hd
theorem Ee (h:run oC n 300 [] todo env st ids [] = .at k env' st' ids' ob) (hd:G Tryz.prog n F Q k env' st' ids') (hob:AB ob:=by simp):DGo Tryz.prog n F Q todo env st ids:=ad [] h hob hd
theorem adqc (h:run oC n 300 [] todo env st ids [] = .at k env' st' ids' ob) (hd:G Tryz.prog n F Q k env' st' ids') (hob:AB ob:=by simp [Am]):DGo Tryz.prog n F Q todo env st ids:=ad [] h hob hd
theorem ag (path:List Pt) (h:run oC n 300 path todo env st ids [] = .at k env' st' ids' ob) (hob:AB ob) (hd:G Tryz.prog n F Q k env' st' ids'):G Tryz.prog n F Q todo env st ids:=J6 Cv Fb 300 path h hob hd
theorem Ed (h:run oC n 300 [] todo env st ids [] = .at k env' st' ids' ob) (hd:G Tryz.prog n F Q k env' st' ids') (hob:AB ob:=by simp):G Tryz.prog n F Q todo env st ids:=ag [] h hob hd
theorem R4 (h:run oC n 300 [] todo env st ids [] = .at k env' st' ids' ob) (hd:G Tryz.prog n F Q k env' st' ids') (hob:AB ob:=by simp [Am]):G Tryz.prog n F Q todo env st ids:=ag [] h hob hd
theorem ai {es:List (List V)} {m:Int} {sz:Nat} {e:TypeId} {g:Option (Bool×Bool)} {ob:List Prop} {t:Nat} {todo':List DI} {c:List V} (h:Rh oC n env todo=some ⟨es,m,sz,e,g,ob,some t,todo'⟩)
  (hc:Am g->0<=m/\es[m.toNat]?=some c/\c.length=sz) (hob:AB ob) (hk:G Tryz.prog n F Q todo' ((t,gD g (.ip e c 0))::env) st ids):G Tryz.prog n F Q todo env st ids:=H5 Cv h hc hob hk
end
def Ig {α:Type} (q:α->Bool):List α->Nat->Int
 | [],_=>-1
 | e::r,i=>if q e then (i:Int) else Ig q r (i+1)
theorem Ma {α:Type} (q:α->Bool):∀(es:List α) (i:Nat),0<=Ig q es i↔es.any q=true
 | [],i=>by simp [Ig]
 | e::r,i=>by
  have ih:=Ma q r (i+1);by_cases h:q e=true
  ·simp [Ig,h]
  ·simp only [Ig,h,XR];simpa using ih
theorem uF (g:FuncId) (tf:TypeId) (fv:V) (q:List V->Bool) (es:List (List V)) (hes:∀e∈es,e.length=4) (hlen:es.length<=9223372036854775806)
  (hq:∀e∈es,AK Tryz.prog g [.imm (.agg e),.ref 1 0] [(1,some (.immb tf 1 [fv]))] (.ret (.imm (.bool (q e))) [(1,some (.immb tf 1 [fv]))])) :
  AK Tryz.prog 245 [.imm (.sl es),.fn (.func g) [] [.ref 1 0]] [(1,some (.immb tf 1 [fv]))] (.ret (.imm (.int .i64 (Ig q es 0))) [(1,some (.immb tf 1 [fv]))]):=by
 refine Ac Cv Tryz.func245 (by decide +kernel) rfl [2,3,4] rfl rfl <| Ed rfl <| Ak (λi:Nat=>[(8,.imm (.int .i64 i)),(7,.imm (.int .i64 es.length)),(0,.imm (.sl es)),(1,.fn (.func g) [] [.ref 1 0])]) (λ_=>[(1,some (.immb tf 1 [fv]))]) [2,3,4] (λi=>es.length-i)
  (λi=>i<=es.length/\Ig q es 0=Ig q (es.drop i) i) 0 ⟨AL _,rfl⟩ ⟨rfl,AA (by simp),AM⟩ AI rfl λi hi ih=>?_
 refine Ee rfl ?_;have hi2:=hi.2;refine Aa rfl (λh=>?_) (λh=>?_)
 ·simp at h;obtain ⟨e,he⟩:=Ao h;have hm:=AF he;rw [Av he] at hi2;refine Ee rfl <| ai rfl (c:=e) (λ_=>⟨by simp,by simpa using he,hes e hm⟩) (by simp) <| ag [] rfl (by simp [hes e hm]) <| Ad (fr:=[]) [(1,1)] [] rfl (by simp) (hq e hm) At rfl rfl rfl rfl <| Ed rfl <| Aa rfl (λh=>?_) (λh=>?_)
  ·exact Ee rfl <| Ag ⟨_,rfl,tV (congrArg _ (by rw [hi2];simp [Ig,h])),AI⟩
  ·exact Ee rfl <| Ae (ih (i+1) (by omega) ⟨by omega,by rw [hi2];simp [Ig,h]⟩) ⟨AA (Cb (by omega) (by omega)),AD⟩ AI rfl
 ·refine Ee rfl ?_;simp at h;refine Ag ⟨_,rfl,tV (congrArg _ ?_),AI⟩;rw [hi2,Br (by omega)];rfl
theorem eY (g:FuncId) (tf:TypeId) (fv:V) (q:List V->Bool) (es:List (List V)) (hes:∀e∈es,e.length=4) (hlen:es.length<=9223372036854775806)
  (hq:∀e∈es,AK Tryz.prog g [.imm (.agg e),.ref 1 0] [(1,some (.immb tf 1 [fv]))] (.ret (.imm (.bool (q e))) [(1,some (.immb tf 1 [fv]))])) :
  AK Tryz.prog 174 [.imm (.sl es),.fn (.func g) [] [.ref 1 0]] [(1,some (.immb tf 1 [fv]))] (.ret (.imm (.bool (es.any q))) [(1,some (.immb tf 1 [fv]))]):=by
 refine Ac Cv Tryz.func174 (by decide +kernel) rfl [2,3,4] rfl rfl <| Ed rfl <| Ad (fr:=[]) [(1,1)] [] rfl (by simp) (uF g tf fv q es hes hlen hq) At rfl rfl rfl rfl <| Ed rfl <| Ag ⟨_,rfl,tV (congrArg _ ?_),AI⟩;rw [EU,<- Ma q es 0];simp
theorem wS (g:FuncId) (e:List V) (hel:e.length=4) (b:Bool) (hq:Al Tryz.prog g [.agg e] (.bool b)) :
  AK Tryz.prog 252 [.imm (.agg e),.ref 1 0] [(1,some (.immb 26 1 [.fn (.func g)]))] (.ret (.imm (.bool (!b))) [(1,some (.immb 26 1 [.fn (.func g)]))]):=by
 exact Ac Cv Tryz.func252 (by decide +kernel) rfl [2,3,4] rfl rfl <| ag [] rfl (by simp [hel]) <| Ad (fr:=[]) [] [] rfl (by simp) hq trivial rfl rfl rfl rfl <| Ed rfl <| Ag ⟨_,rfl,tV rfl,AI⟩
theorem allT (g:FuncId) (q:List V->Bool) (es:List (List V)) (hes:∀e∈es,e.length=4) (hlen:es.length<=9223372036854775806) (hq:∀e∈es,Al Tryz.prog g [.agg e] (.bool (q e))) :
  Al Tryz.prog 186 [.sl es,.fn (.func g)] (.bool (es.all q)):=by
 refine Ac Cv Tryz.func186 (by decide +kernel) rfl [1,2,3] rfl rfl <| Ed rfl <| Ad (fr:=[]) [(1,1)] [] rfl (by simp) (eY 252 26 (.fn (.func g)) (λe=>!q e) es hes hlen (λe he=>wS g e (hes e he) (q e) (hq e he))) At rfl rfl rfl rfl <| Ed rfl <| Ab rfl rfl (congrArg _ ?_);rw [XQ];simp
theorem uH (g:FuncId) (tf:TypeId) (fv:V) (q:List V->Bool) (es:List (List V)) (hes:∀e∈es,e.length=2) (hlen:es.length<=9223372036854775806)
  (hq:∀e∈es,AK Tryz.prog g [.imm (.agg e),.ref 1 0] [(1,some (.immb tf 1 [fv]))] (.ret (.imm (.bool (q e))) [(1,some (.immb tf 1 [fv]))])) :
  AK Tryz.prog 282 [.imm (.sl es),.fn (.func g) [] [.ref 1 0]] [(1,some (.immb tf 1 [fv]))] (.ret (.imm (.int .i64 (Ig q es 0))) [(1,some (.immb tf 1 [fv]))]):=by
 refine Ac Cv Tryz.func282 (by decide +kernel) rfl [2,3,4] rfl rfl <| Ed rfl <| Ak (λi:Nat=>[(8,.imm (.int .i64 i)),(7,.imm (.int .i64 es.length)),(0,.imm (.sl es)),(1,.fn (.func g) [] [.ref 1 0])]) (λ_=>[(1,some (.immb tf 1 [fv]))]) [2,3,4] (λi=>es.length-i)
  (λi=>i<=es.length/\Ig q es 0=Ig q (es.drop i) i) 0 ⟨AL _,rfl⟩ ⟨rfl,AA (by simp),AM⟩ AI rfl λi hi ih=>?_
 refine Ee rfl ?_;have hi2:=hi.2;refine Aa rfl (λh=>?_) (λh=>?_)
 ·simp at h;obtain ⟨e,he⟩:=Ao h;have hm:=AF he;rw [Av he] at hi2;refine Ee rfl <| ai rfl (c:=e) (λ_=>⟨by simp,by simpa using he,hes e hm⟩) (by simp) <| ag [] rfl (by simp [hes e hm]) <| Ad (fr:=[]) [(1,1)] [] rfl (by simp) (hq e hm) At rfl rfl rfl rfl <| Ed rfl <| Aa rfl (λh=>?_) (λh=>?_)
  ·exact Ee rfl <| Ag ⟨_,rfl,tV (congrArg _ (by rw [hi2];simp [Ig,h])),AI⟩
  ·exact Ee rfl <| Ae (ih (i+1) (by omega) ⟨by omega,by rw [hi2];simp [Ig,h]⟩) ⟨AA (Cb (by omega) (by omega)),AD⟩ AI rfl
 ·refine Ee rfl ?_;simp at h;refine Ag ⟨_,rfl,tV (congrArg _ ?_),AI⟩;rw [hi2,Br (by omega)];rfl
theorem fA (g:FuncId) (tf:TypeId) (fv:V) (q:List V->Bool) (es:List (List V)) (hes:∀e∈es,e.length=2) (hlen:es.length<=9223372036854775806)
  (hq:∀e∈es,AK Tryz.prog g [.imm (.agg e),.ref 1 0] [(1,some (.immb tf 1 [fv]))] (.ret (.imm (.bool (q e))) [(1,some (.immb tf 1 [fv]))])) :
  AK Tryz.prog 250 [.imm (.sl es),.fn (.func g) [] [.ref 1 0]] [(1,some (.immb tf 1 [fv]))] (.ret (.imm (.bool (es.any q))) [(1,some (.immb tf 1 [fv]))]):=by
 refine Ac Cv Tryz.func250 (by decide +kernel) rfl [2,3,4] rfl rfl <| Ed rfl <| Ad (fr:=[]) [(1,1)] [] rfl (by simp) (uH g tf fv q es hes hlen hq) At rfl rfl rfl rfl <| Ed rfl <| Ag ⟨_,rfl,tV (congrArg _ ?_),AI⟩;rw [EU,<- Ma q es 0];simp
theorem wU (g:FuncId) (e:List V) (hel:e.length=2) (b:Bool) (hq:Al Tryz.prog g [.agg e] (.bool b)) :
  AK Tryz.prog 251 [.imm (.agg e),.ref 1 0] [(1,some (.immb 246 1 [.fn (.func g)]))] (.ret (.imm (.bool (!b))) [(1,some (.immb 246 1 [.fn (.func g)]))]):=by
 exact Ac Cv Tryz.func251 (by decide +kernel) rfl [2,3,4] rfl rfl <| ag [] rfl (by simp [hel]) <| Ad (fr:=[]) [] [] rfl (by simp) hq trivial rfl rfl rfl rfl <| Ed rfl <| Ag ⟨_,rfl,tV rfl,AI⟩
theorem allC (g:FuncId) (q:List V->Bool) (es:List (List V)) (hes:∀e∈es,e.length=2) (hlen:es.length<=9223372036854775806) (hq:∀e∈es,Al Tryz.prog g [.agg e] (.bool (q e))) :
  Al Tryz.prog 184 [.sl es,.fn (.func g)] (.bool (es.all q)):=by
 refine Ac Cv Tryz.func184 (by decide +kernel) rfl [1,2,3] rfl rfl <| Ed rfl <| Ad (fr:=[]) [(1,1)] [] rfl (by simp) (fA 251 246 (.fn (.func g)) (λe=>!q e) es hes hlen (λe he=>wU g e (hes e he) (q e) (hq e he))) At rfl rfl rfl rfl <| Ed rfl <| Ab rfl rfl (congrArg _ ?_);rw [XQ];simp
theorem uG (g:FuncId) (tf:TypeId) (fv:V) (q:V->Bool) (es:List V) (hlen:es.length<=9223372036854775806)
  (hq:∀e∈es,AK Tryz.prog g [.imm e,.ref 1 0] [(1,some (.immb tf 1 [fv]))] (.ret (.imm (.bool (q e))) [(1,some (.immb tf 1 [fv]))])) :
  AK Tryz.prog 249 [.imm (.sl (es.map λx=>[x])),.fn (.func g) [] [.ref 1 0]] [(1,some (.immb tf 1 [fv]))] (.ret (.imm (.int .i64 (Ig q es 0))) [(1,some (.immb tf 1 [fv]))]):=by
 refine Ac Cv Tryz.func249 (by decide +kernel) rfl [2,3,4] rfl rfl <| Ed rfl <| Ak (λi:Nat=>[(8,.imm (.int .i64 i)),(7,.imm (.int .i64 es.length)),(0,.imm (.sl (es.map λx=>[x]))),(1,.fn (.func g) [] [.ref 1 0])]) (λ_=>[(1,some (.immb tf 1 [fv]))]) [2,3,4] (λi=>es.length-i)
  (λi=>i<=es.length/\Ig q es 0=Ig q (es.drop i) i) 0 ⟨AL _,rfl⟩ ⟨rfl,AA (by simp),AM⟩ AI rfl λi hi ih=>?_
 refine Ee rfl ?_;have hi2:=hi.2;refine Aa rfl (λh=>?_) (λh=>?_)
 ·simp at h;obtain ⟨e,he⟩:=Ao h;have hm:=AF he;rw [Av he] at hi2;refine Ee rfl <| ai rfl (c:=[e]) (λ_=>⟨by simp,by simp [he],rfl⟩) (by simp) <| Ed rfl <| Ad (fr:=[]) [(1,1)] [] rfl (by simp) (hq e hm) At rfl rfl rfl rfl <| Ed rfl <| Aa rfl (λh=>?_) (λh=>?_)
  ·exact Ee rfl <| Ag ⟨_,rfl,tV (congrArg _ (by rw [hi2];simp [Ig,h])),AI⟩
  ·exact Ee rfl <| Ae (ih (i+1) (by omega) ⟨by omega,by rw [hi2];simp [Ig,h]⟩) ⟨AA (Cb (by omega) (by omega)),AD⟩ AI rfl
 ·refine Ee rfl ?_;simp at h;refine Ag ⟨_,rfl,tV (congrArg _ ?_),AI⟩;rw [hi2,Br (by omega)];rfl
theorem eZ (g:FuncId) (tf:TypeId) (fv:V) (q:V->Bool) (es:List V) (hlen:es.length<=9223372036854775806)
  (hq:∀e∈es,AK Tryz.prog g [.imm e,.ref 1 0] [(1,some (.immb tf 1 [fv]))] (.ret (.imm (.bool (q e))) [(1,some (.immb tf 1 [fv]))])) :
  AK Tryz.prog 181 [.imm (.sl (es.map λx=>[x])),.fn (.func g) [] [.ref 1 0]] [(1,some (.immb tf 1 [fv]))] (.ret (.imm (.bool (es.any q))) [(1,some (.immb tf 1 [fv]))]):=by
 refine Ac Cv Tryz.func181 (by decide +kernel) rfl [2,3,4] rfl rfl <| Ed rfl <| Ad (fr:=[]) [(1,1)] [] rfl (by simp) (uG g tf fv q es hlen hq) At rfl rfl rfl rfl <| Ed rfl <| Ag ⟨_,rfl,tV (congrArg _ ?_),AI⟩;rw [EU,<- Ma q es 0];simp
theorem wT (g:FuncId) (e:V) (b:Bool) (hq:Al Tryz.prog g [e] (.bool b)) :
  AK Tryz.prog 182 [.imm e,.ref 1 0] [(1,some (.immb 191 1 [.fn (.func g)]))] (.ret (.imm (.bool (!b))) [(1,some (.immb 191 1 [.fn (.func g)]))]):=by
 exact Ac Cv Tryz.func182 (by decide +kernel) rfl [2,3,4] rfl rfl <| Ed rfl <| Ad (fr:=[]) [] [] rfl (by simp) hq trivial rfl rfl rfl rfl <| Ed rfl <| Ag ⟨_,rfl,tV rfl,AI⟩
theorem allI (g:FuncId) (q:V->Bool) (es:List V) (hlen:es.length<=9223372036854775806) (hq:∀e∈es,Al Tryz.prog g [e] (.bool (q e))) :
  Al Tryz.prog 127 [.sl (es.map λx=>[x]),.fn (.func g)] (.bool (es.all q)):=by
 refine Ac Cv Tryz.func127 (by decide +kernel) rfl [1,2,3] rfl rfl <| Ed rfl <| Ad (fr:=[]) [(1,1)] [] rfl (by simp) (eZ 182 191 (.fn (.func g)) (λe=>!q e) es hlen (λe he=>wT g e (q e) (hq e he))) At rfl rfl rfl rfl <| Ed rfl <| Ab rfl rfl (congrArg _ ?_);rw [XQ];simp
end Go.Hk
namespace Go.Hk
def QM:Sh->Bool
 | .iface | .other=>false
 | _=>true
structure PTa where
 t:TypeId
 v:V
 to_:TypeId
 dst:Option Nat
 todo:List DI
def pta (tt:TT) (n:Nat) (env:Env) (todo:List DI):Option PTa :=
 match Ov todo with
 | some o=>match o.guard,o.op with
  | none,.typeAssert x _ to_ true=>match DT env x,lk tt to_,BB n o.dst,Bh todo ([],[]) with
   | some (.imm (.iface t v)),some i,true,some (_,_,todo')=>match QM i.sh with
    | true=>some ⟨t,v,to_,o.dst,todo'⟩
    | false=>none
   | _,_,_,_=>none
  | _,_=>none
 | none=>none
section
variable {P:Program} {n:Nat} {F:List Nat} {Q:DQ} {tt:TT} {env env':Env} {st st':St} {ids ids':List Nat} {k todo todo':List DI} {I:Imm} {μ:Mu} {w:World} {a:Act} {Pn:V->Prop} {d:D} {cx:Prop} {ob:List Prop}
theorem Nz {t to_ from_:TypeId} {i:TyI} {v:Value} (hi:TyOk P to_ i) (hc:QM i.sh=true) {r:Value} (h:(t=to_/\r = .tuple #[v,.bool true])\/(t≠to_/\∃z,(P.info? to_).bind (·.zero)=some z/\r = .tuple #[z,.bool false])) :
  (Instr.typeAssert (.iface t v) from_ to_ true).run P w = .ok r w:=by
 have hu:∃dd,P.underlying to_=some dd/\∀ms,dd ≠ .interface ms:=by
  have:=hi.sh;generalize i.sh=sh at this hc;cases sh <;> simp only [QM,Eo] at hc <;> simp only [QV] at this
  case struct fs=>obtain ⟨f,h1,_⟩:=this;exact ⟨_,h1,λ_ h=>by cases h⟩
  case func=>obtain ⟨a,b,c,h1⟩:=this;exact ⟨_,h1,λ_ h=>by cases h⟩
  all_goals exact ⟨_,this,λ_ h=>by cases h⟩
 obtain ⟨dd,hd,hne⟩:=hu;rcases h with ⟨rfl,rfl⟩ | ⟨hn,z,hz,rfl⟩
 ·cases dd <;> first | exact absurd rfl (hne _) | simp [Instr.typeAssert,run_underlying hd]
 ·have hz:=FH (w:=w) hz;cases dd <;> first | exact absurd rfl (hne _) | simp [Instr.typeAssert,run_underlying hd,hn,hz]
theorem MZ (htt:TTok P tt) {t0 to_:TypeId} {v0:V} {d0:Option Nat} {todo0:List DI} (h:pta tt n env todo=some ⟨t0,v0,to_,d0,todo0⟩) {r:List V}
  (hr:(t0=to_/\r=[v0,.bool true])\/(t0≠to_/\∃z zd,(P.info? to_).bind (·.zero)=some z/\(∀I,RepV I z zd)/\r=[zd,.bool false]))
  (hk:G P n F Q todo0 (BD d0 (.imm (.tup r)) env) st ids):G P n F Q todo env st ids:=by
 unfold pta at h
 split at h
 ·rename_i o ho
  split at h
  ·rename_i x from_ to' hg hop
   split at h
   ·rename_i t v i all o' todo' hx hi hd h1
    split at h
    ·rename_i hc;cases h;have ho':o'=o:=Dc ho h1;subst ho';refine B9 (fr:=[]) (wr:=[]) (rd:=[]) h1 ?_ hd (λc hc=>by rw [hop] at hc;cases hc) hk;intro I μ st1 ids1 a w hag hst hon;refine ⟨λ_=>?_,λhw=>by rw [AG hg] at hw;cases hw⟩;have hops:=Bd hon;rw [hop] at hops;have rx:=(hops x (by simp [Op.operands]) _ hx).immInv;generalize hv:a.eval x=v at rx;cases rx with
     | iface _ u _ hu =>
      have fin:∀(z:Value) (b:Bool) (zd:V),(Instr.typeAssert (.iface t0 u) from_ to_ true).run P w = .ok (.tuple #[z,.bool b]) w->RepV I z zd->r=[zd,.bool b] ->
        valX P ((execOp a.eval o').run P w) (λv w'=>∃I' μ',StRep I' μ' ([]++st1) ids1 w'/\RepD I' μ' v (.imm (.tup r))/\μ.le μ'/\Ext I μ st1 w I' μ' ([]++st1) w') (Ko (Kn Q) I μ st1 w):=by
       intro z b zd h1 h2 h3;have hrun:(execOp a.eval o').run P w = .ok (.value (.tuple #[z,.bool b])) w:=by
        simp only [execOp,hop,hv];exact A6 h1
       rw [hrun,h3];refine ⟨I,μ,hst,.imm _ _ (.tup _ _ rfl λi c x hc hx=>?_),Mu.le_refl μ,Ext.refl _ _ _ _⟩
       match i,hc,hx with
       | 0,hc,hx=>cases hc;cases hx;exact h2
       | 1,hc,hx=>cases hc;cases hx;exact .bool _
       | i+2,hc,hx=>simp at hx
      rcases hr with ⟨e1,e2⟩ | ⟨e1,z,zd,e2,e3,e4⟩
      ·exact fin u true v0 (Nz (htt _ _ hi) hc (.inl ⟨e1,rfl⟩)) hu e2
      ·exact fin z false zd (Nz (htt _ _ hi) hc (.inr ⟨e1,z,e2,rfl⟩)) (e3 I) e4
    ·cases h
   ·cases h
  ·cases h
 ·cases h
end
end Go.Hk
namespace Go.Hk
open Go.Proofs
mutual
theorem QE:∀{a b:Ty},dTyc a=dTyc b->a=b
 | .mk s n x ps,.mk s' n' x' ps',h=>by
  simp only [dTyc,Ep,V.int.injEq,V.str.injEq,V.sl.injEq,and_true,true_and] at h;obtain ⟨h1,h2,h3,h4⟩:=h;subst h1;subst h2;subst h3;rw [Hj h4]
theorem Hj:∀{a b:List Ty},A2 a=A2 b->a=b
 | [],[],_=>rfl
 | [],_::_,h=>by simp [A2] at h
 | _::_,[],h=>by simp [A2] at h
 | x::r,y::t,h=>by
  simp only [A2,Ep] at h;rw [QE h.1,Hj h.2]
end
theorem QJ {a b:Cd} (h:EY a=EY b):a=b:=by
 obtain ⟨a1,a2⟩:=a;obtain ⟨b1,b2⟩:=b;simp only [EY,Ep,V.str.injEq,V.sl.injEq,and_true] at h;rw [h.1,Hj h.2]
open Classical in
noncomputable def qOf {α β:Type} (d:α->β) (f:α->Bool) (e:β):Bool:=decide (∃t,d t=e/\f t=true)
open Classical in
theorem Tx {α β:Type} {d:α->β} (hd:∀{a b},d a=d b->a=b) (f:α->Bool) (t:α):qOf d f (d t)=f t:=by
 unfold qOf;by_cases h:f t=true
 ·rw [h];exact decide_eq_true ⟨t,rfl,h⟩
 ·simp only [PQ] at h;rw [h];refine decide_eq_false λ⟨u,h1,h2⟩=>?_;rw [hd h1,h] at h2;cases h2
theorem Tz {α β:Type} {d:α->β} (hd:∀{a b},d a=d b->a=b) (f:α->Bool) (l:List α):(l.map d).all (qOf d f)=l.all f:=by
 rw [MS];congr 1;funext t;exact Tx hd f t
def W6 (c:Cd):Bool:=Es c.name&&decide ((c.args.length:Int)<=3)&&c.args.all (AH false)
def JB (d:Dt):Bool:=Es d.name&&decide ((1:Int)<=d.cons.length)&&decide ((d.cons.length:Int)<=5)&&d.cons.all W6
def NW (f:Fd):Bool:=EA f.name&&EA f.param&&AH false f.from_&&AH false f.to_&&JF f.body
theorem nL (ts:List Ty) (h:ts.length<=9223372036854775806):Al Tryz.prog 186 [.sl (A2 ts),.fn (.func 187)] (.bool (ts.all (AH false))):=by
 have:=allT 187 (qOf dTyc (AH false)) (A2 ts) (λe he=>by rw [Ck] at he;obtain ⟨t,_,rfl⟩:=Cc.1 he;simp) (by simpa using h) (λe he=>by
  rw [Ck] at he;obtain ⟨t,_,rfl⟩:=Cc.1 he;rw [Tx QE];exact OX t)
 rw [Ck,Tz QE] at this;rw [Ck];exact this
theorem cC (c:Cd):Al Tryz.prog 185 [.agg (EY c)] (.bool (W6 c)):=by
 obtain ⟨nm,ts⟩:=c;refine B1 λhv=>?_;simp [CL,Fh,EY,maxLen] at hv;refine Ac Cv Tryz.func185 (by decide +kernel) rfl [1,2,3] rfl rfl <| R4 rfl <| Aj rfl (λ_=>Ew nm) (by simp [Am]) <| R4 rfl <| Aj rfl (λhg=>nL ts (by simp [Am] at hg;omega)) (by simp [Am]) <| ag [] rfl (by simp [Am] <;> grind) <| Ab rfl rfl (congrArg _ ?_);simp [W6] <;> grind
theorem rG (cs:List Cd) (h:cs.length<=9223372036854775806):Al Tryz.prog 184 [.sl (cs.map EY),.fn (.func 185)] (.bool (cs.all W6)):=by
 have:=allC 185 (qOf EY W6) (cs.map EY) (λe he=>by obtain ⟨t,_,rfl⟩:=Cc.1 he;rfl) (by simpa using h) (λe he=>by
  obtain ⟨t,_,rfl⟩:=Cc.1 he;rw [Tx QJ];exact cC t)
 rw [Tz QJ] at this;exact this
def L9 (d:Dt):V:=.iface 185 (.agg (CK d))
def Jj (f:Fd):V:=.iface 187 (.agg (CG f))
theorem Ta:∃z,(Tryz.prog.info? 185).bind (·.zero)=some z/\∀I,RepV I z (.agg [.str [],.sl []]):=by
 refine ⟨.agg #[.string ⟨#[]⟩,.slice none 0 0],by kernel_rfl,λI=>.agg _ _ rfl (by decide) λi c x hc hx=>?_⟩
 match i,hc,hx with
 | 0,hc,hx=>cases hc;cases hx;exact .str _ _ rfl
 | 1,hc,hx=>cases hc;cases hx;exact .slnil
 | i+2,hc,hx=>simp at hx
theorem Xp (d:Dt):Al Tryz.prog 128 [L9 d] (.bool (JB d)):=by
 obtain ⟨nm,cs⟩:=d;refine B1 λhv=>?_;simp [CL,Fh,L9,CK,maxLen] at hv;refine Ac Cv Tryz.func128 (by decide +kernel) rfl [1,2,3,4] rfl rfl <| R4 rfl <| MZ Cv rfl (.inl ⟨rfl,rfl⟩) <| ag [.a] rfl (by simp [Am]) <| Aj rfl (λ_=>Ew nm) (by simp [Am]) <| R4 rfl <| Aj rfl (λhg=>rG cs (by simp [Am] at hg;omega)) (by simp [Am]) <| ag [] rfl (by simp [Am] <;> grind) <| Ab rfl rfl (congrArg _ ?_);simp [JB] <;> grind
theorem cB (f:Fd):Al Tryz.prog 128 [Jj f] (.bool (NW f)):=by
 obtain ⟨nm,pm,⟨s1,n1,x1,p1⟩,⟨s2,n2,x2,p2⟩,⟨o3,n3,x3,k3,p3⟩⟩:=f;obtain ⟨z,hz,hzr⟩:=Ta;refine B1 λhv=>Ac Cv Tryz.func128 (by decide +kernel) rfl [1,2,3,4] rfl rfl <| R4 rfl <| MZ Cv rfl (.inr ⟨by decide,z,_,hz,hzr,rfl⟩) <| ag [.a] rfl (by simp [Am]) <| MZ Cv rfl (.inl ⟨rfl,rfl⟩) <| ag [.a] rfl (by simp [Am]) <| Aj rfl (λ_=>FW nm) (by simp [Am]) <| R4 rfl <| Aj rfl (λ_=>FW pm) (by simp [Am]) <| R4 rfl <| Aj rfl (λ_=>OX (.mk s1 n1 x1 p1)) (by simp [Am]) <| R4 rfl <| Aj rfl (λ_=>OX (.mk s2 n2 x2 p2)) (by simp [Am]) <| R4 rfl <| Aj rfl (λ_=>WP (.mk o3 n3 x3 k3 p3)) (by simp [Am]) <| ag [] rfl (by simp [Am] <;> grind) <| Ab rfl rfl (congrArg _ ?_);simp [NW,Rv] <;> grind
inductive Pt2 where
 | d (x:Dt)
 | f (x:Fd)
def mY:Pt2->V
 | .d x=>L9 x
 | .f x=>Jj x
def Vi:Pt2->Bool
 | .d x=>JB x
 | .f x=>NW x
theorem iE (p:Pt2):Al Tryz.prog 128 [mY p] (.bool (Vi p)):=by
 cases p with
 | d x=>exact Xp x
 | f x=>exact cB x
mutual
theorem mX:∀{a b:Tm},Bo a=Bo b->a=b
 | .mk s n x ks ps,.mk s' n' x' ks' ps',h=>by
  simp only [Bo,Ep,V.int.injEq,V.str.injEq,V.sl.injEq,and_true,true_and] at h;obtain ⟨h1,h2,h3,h4,h5⟩:=h;subst h1;subst h2;subst h3;rw [QF h4,Hj h5]
theorem QF:∀{a b:List Tm},E4 a=E4 b->a=b
 | [],[],_=>rfl
 | [],_::_,h=>by simp [E4] at h
 | _::_,[],h=>by simp [E4] at h
 | x::r,y::t,h=>by
  simp only [E4,Ep] at h;rw [mX h.1,QF h.2]
end
theorem LJ:∀{a b:List Cd},a.map EY=b.map EY->a=b
 | [],[],_=>rfl
 | [],_::_,h=>by simp at h
 | _::_,[],h=>by simp at h
 | x::r,y::t,h=>by
  simp only [Cz,Ep] at h;rw [QJ h.1,LJ h.2]
theorem aK {a b:Pt2} (h:mY a=mY b):a=b:=by
 cases a with
 | d x=>cases b with
  | d y =>
   obtain ⟨x1,x2⟩:=x;obtain ⟨y1,y2⟩:=y;simp only [mY,L9,CK,V.iface.injEq,V.agg.injEq,Ep,V.str.injEq,V.sl.injEq,true_and,and_true] at h;rw [h.1,LJ h.2]
  | f y=>simp [mY,L9,Jj] at h
 | f x=>cases b with
  | d y=>simp [mY,L9,Jj] at h
  | f y =>
   obtain ⟨nm,pm,⟨s1,n1,x1,p1⟩,⟨s2,n2,x2,p2⟩,⟨o3,n3,x3,k3,p3⟩⟩:=x;obtain ⟨nm',pm',⟨s1',n1',x1',p1'⟩,⟨s2',n2',x2',p2'⟩,⟨o3',n3',x3',k3',p3'⟩⟩:=y;simp only [mY,Jj,CG,dTyc,Bo,V.iface.injEq,V.agg.injEq,Db,Jp,Ep,V.str.injEq,V.int.injEq,V.sl.injEq,true_and,and_true] at h;obtain ⟨h1,h2,h3,h4,h5,h6,h7,h8,h9,h10,h11,h12,h13,h14,h15⟩:=h;rw [h1,h2,h3,h4,h5,Hj h6,h7,h8,h9,Hj h10,h11,h12,h13,QF h14,Hj h15]
theorem WK (ps:List Pt2) (h:ps.length<=9223372036854775806):Al Tryz.prog 127 [.sl (ps.map λp=>[mY p]),.fn (.func 128)] (.bool (ps.all Vi)):=by
 have:=allI 128 (qOf mY Vi) (ps.map mY) (by simpa using h) (λe he=>by
  obtain ⟨t,_,rfl⟩:=Cc.1 he;rw [Tx aK];exact iE t)
 rw [Tz aK,XU] at this;exact this
def K3 (m:Md):Bool:=EA m.name&&decide ((m.datas.length:Int)<=4)&&decide ((1:Int)<=m.funs.length)&&decide ((m.funs.length:Int)<=5)&&m.datas.all JB&&m.funs.all NW
def Km (l:List Pt2):List (List V):=l.map λp=>[mY p]
@[simp] theorem rowP_length (l:List Pt2):(Km l).length=l.length:=by simp [Km]
def qR (b:Bool) (k:Nat):D:=match b with
 | false=>.nils
 | true=>.own 2 k
def xJ (b:Bool) (m:Md) (es:List (List V)):St:=match b with
 | false=>[(1,some (.immb 43 3 (El m)))]
 | true=>[(2,some (.row 190 1 es)),(1,some (.immb 43 3 (El m)))]
theorem P2 (a b:List Pt2):Km (a++b)=Km a++Km b:=by simp [Km]
theorem aQ (m:Md) (b:Bool) (es0:List (List V)) (hb:b=false->es0=[]) (he0:es0=Km (m.datas.map .d)) (hd:(m.datas.length:Int)<=4) (hf1:(1:Int)<=m.funs.length) (hf:(m.funs.length:Int)<=5) :
  DGo Tryz.prog Tryz.f70.ntmps (DJ []) (Kv oC Tryz.f70.results.toList (.ret (.imm (Rv (m.datas.all JB&&m.funs.all NW))) []))
   [.code (FV Tryz.f70 4)] [(3,qR b es0.length),(1,.ref 1 0)] (xJ b m es0) [3,4]:=by
 cases b with
 | false =>
  have:=hb rfl;subst this;refine Ee rfl <| Ak (λy:Nat×Bool×List (List V)=>[(47,.imm (.int .i64 y.1)),(46,.imm (.int .i64 m.funs.length)),(45,.imm (.sl (m.funs.map CG))),(3,qR y.2.1 y.2.2.length),(1,.ref 1 0)])
   (λy=>xJ y.2.1 m y.2.2) [3,4] (λy=>m.funs.length-y.1)
   (λy=>y.1<=m.funs.length/\y.2.2=Km (m.datas.map .d++(m.funs.take y.1).map .f)/\(y.2.1=false->y.2.2=[])) (0,false,[]) ⟨AL _,by simpa using he0,λ_=>rfl⟩ ⟨rfl,AA (by simp),AD⟩ AI rfl λy hi ih=>?_
  obtain ⟨i,b,es⟩:=y;obtain ⟨hi1,hi2,hi3⟩:=hi;simp only at hi1 hi2 hi3;have hlen:es.length<=9:=by
   have:=congrArg List.length hi2;simp at this;omega
  have hnext:∀f,m.funs[i]?=some f->es++[[Jj f]]=Km (m.datas.map .d++(m.funs.take (i+1)).map .f):=λf hf=>by
   rw [Be hf,C4,<- CE,P2,<- hi2];rfl
  have hend:¬i<m.funs.length->es=Km (m.datas.map .d++m.funs.map .f):=λh=>by
   rw [hi2,CD (by omega)]
  cases b with
  | false =>
   have hi3:=hi3 rfl;subst hi3;refine Ee rfl <| Aa rfl (λh=>?_) (λh=>?_)
   ·simp at h;obtain ⟨f,hf⟩:=Ao h;exact Ee rfl <| ai rfl (c:=CG f) (λ_=>⟨by simp,by simpa using G8 hf,by simp⟩) (by simp) <| Ed rfl <| B4 Cv rfl ⟨by simp,by simp [maxLen],by simp,trivial⟩ <| Ed rfl <| AZ 2 4 rfl <| Ae (ih (i+1,true,[]++[[Jj f]]) (by simp only;omega) ⟨by simp only;omega,hnext f hf,λh=>by cases h⟩) ⟨AA (Cb (by simp only;omega) (by simp only;omega)),BF⟩ AM rfl
   ·simp at h;have:=congrArg List.length (hend (by omega));simp at this;omega
  | true =>
   refine Ee rfl <| Aa rfl (λh=>?_) (λh=>?_)
   ·simp at h;obtain ⟨f,hf⟩:=Ao h;exact Ee rfl <| ai rfl (c:=CG f) (λ_=>⟨by simp,by simpa using G8 hf,by simp⟩) (by simp) <| Ed rfl <| B4 Cv rfl ⟨by simp,by simp [maxLen];omega,by simp;omega,trivial⟩ <| Ed rfl <| AZ 2 4 rfl <| Ae (ih (i+1,true,es++[[Jj f]]) (by simp only;omega) ⟨by simp only;omega,hnext f hf,λh=>by cases h⟩) ⟨AA (Cb (by simp only;omega) (by simp only;omega)),BF⟩ AM rfl
   ·simp at h;refine Aw rfl <| By 2 rfl <| Ee rfl <| Aj rfl (λ_=>by rw [hend (by omega)];exact WK _ (by simp;omega)) (by simp) <| Ed rfl ?_;have hall:(m.datas.map Pt2.d++m.funs.map Pt2.f).all Vi=(m.datas.all JB&&m.funs.all NW):=by
     rw [HI,MS,MS];rfl
    rw [hall];refine Aa rfl (λh=>?_) (λh=>?_)
    ·refine Ee rfl <| Ab rfl rfl ?_;simp only [Jv] at h;rw [h];rfl
    ·refine Ee rfl <| Ab rfl rfl ?_;simp only [Bool.not_eq_false'] at h;rw [h];rfl
 | true =>
  refine Ee rfl <| Ak (λy:Nat×Bool×List (List V)=>[(47,.imm (.int .i64 y.1)),(46,.imm (.int .i64 m.funs.length)),(45,.imm (.sl (m.funs.map CG))),(3,qR y.2.1 y.2.2.length),(1,.ref 1 0)])
   (λy=>xJ y.2.1 m y.2.2) [3,4] (λy=>m.funs.length-y.1)
   (λy=>y.1<=m.funs.length/\y.2.2=Km (m.datas.map .d++(m.funs.take y.1).map .f)/\(y.2.1=false->y.2.2=[])) (0,true,es0) ⟨AL _,by simpa using he0,λh=>by cases h⟩ ⟨rfl,AA (by simp),AD⟩ AM rfl λy hi ih=>?_
  obtain ⟨i,b,es⟩:=y;obtain ⟨hi1,hi2,hi3⟩:=hi;simp only at hi1 hi2 hi3;have hlen:es.length<=9:=by
   have:=congrArg List.length hi2;simp at this;omega
  have hnext:∀f,m.funs[i]?=some f->es++[[Jj f]]=Km (m.datas.map .d++(m.funs.take (i+1)).map .f):=λf hf=>by
   rw [Be hf,C4,<- CE,P2,<- hi2];rfl
  have hend:¬i<m.funs.length->es=Km (m.datas.map .d++m.funs.map .f):=λh=>by
   rw [hi2,CD (by omega)]
  cases b with
  | false =>
   have hi3:=hi3 rfl;subst hi3;refine Ee rfl <| Aa rfl (λh=>?_) (λh=>?_)
   ·simp at h;obtain ⟨f,hf⟩:=Ao h;exact Ee rfl <| ai rfl (c:=CG f) (λ_=>⟨by simp,by simpa using G8 hf,by simp⟩) (by simp) <| Ed rfl <| B4 Cv rfl ⟨by simp,by simp [maxLen],by simp,trivial⟩ <| Ed rfl <| AZ 2 4 rfl <| Ae (ih (i+1,true,[]++[[Jj f]]) (by simp only;omega) ⟨by simp only;omega,hnext f hf,λh=>by cases h⟩) ⟨AA (Cb (by simp only;omega) (by simp only;omega)),BF⟩ AM rfl
   ·simp at h;have:=congrArg List.length (hend (by omega));simp at this;omega
  | true =>
   refine Ee rfl <| Aa rfl (λh=>?_) (λh=>?_)
   ·simp at h;obtain ⟨f,hf⟩:=Ao h;exact Ee rfl <| ai rfl (c:=CG f) (λ_=>⟨by simp,by simpa using G8 hf,by simp⟩) (by simp) <| Ed rfl <| B4 Cv rfl ⟨by simp,by simp [maxLen];omega,by simp;omega,trivial⟩ <| Ed rfl <| AZ 2 4 rfl <| Ae (ih (i+1,true,es++[[Jj f]]) (by simp only;omega) ⟨by simp only;omega,hnext f hf,λh=>by cases h⟩) ⟨AA (Cb (by simp only;omega) (by simp only;omega)),BF⟩ AM rfl
   ·simp at h;refine Aw rfl <| By 2 rfl <| Ee rfl <| Aj rfl (λ_=>by rw [hend (by omega)];exact WK _ (by simp;omega)) (by simp) <| Ed rfl ?_;have hall:(m.datas.map Pt2.d++m.funs.map Pt2.f).all Vi=(m.datas.all JB&&m.funs.all NW):=by
     rw [HI,MS,MS];rfl
    rw [hall];refine Aa rfl (λh=>?_) (λh=>?_)
    ·refine Ee rfl <| Ab rfl rfl ?_;simp only [Jv] at h;rw [h];rfl
    ·refine Ee rfl <| Ab rfl rfl ?_;simp only [Bool.not_eq_false'] at h;rw [h];rfl
theorem Ho (m:Md):Al Tryz.prog 70 [.agg (El m)] (Rv (K3 m)):=by
 refine B1 λhv=>?_;have hv1:m.datas.length<=9223372036854775807/\m.funs.length<=9223372036854775807:=by
  simp [CL,Fh,El,maxLen] at hv;omega
 refine Ac Cv Tryz.func70 (by decide +kernel) rfl [1,2,3,4] rfl rfl <| R4 rfl <| Aj rfl (λ_=>FW m.name) (by simp [Am]) <| ag [] rfl (by simp [Am] <;> grind) <| Aa rfl (λh=>?_) (λh=>?_)
 ·refine Ee rfl <| Ab rfl rfl (congrArg _ ?_);have:K3 m=false:=by
   simp at h;simp [K3];grind
  rw [this];rfl
 have hx:EA m.name=true/\(m.datas.length:Int)<=4/\(1:Int)<=m.funs.length/\(m.funs.length:Int)<=5:=by
  simp at h;refine ⟨?_,?_,?_,?_⟩ <;> grind
 clear h;have hres:K3 m=(m.datas.all JB&&m.funs.all NW):=by simp [K3,hx.1,hx.2.1,hx.2.2.1,hx.2.2.2]
 rw [hres];refine Ee rfl <| Ak (λy:Nat×Bool×List (List V)=>[(33,.imm (.int .i64 y.1)),(32,.imm (.int .i64 m.datas.length)),(31,.imm (.sl (m.datas.map CK))),(3,qR y.2.1 y.2.2.length),(1,.ref 1 0)])
  (λy=>xJ y.2.1 m y.2.2) [3,4] (λy=>m.datas.length-y.1)
  (λy=>y.1<=m.datas.length/\y.2.2=Km ((m.datas.take y.1).map .d)/\(y.2.1=false->y.2.2=[])) (0,false,[]) ⟨AL _,rfl,λ_=>rfl⟩ ⟨rfl,AA (by simp),AD⟩ AI rfl λy hi ih=>?_
 obtain ⟨i,b,es⟩:=y;obtain ⟨hi1,hi2,hi3⟩:=hi;simp only at hi1 hi2 hi3;have hlen:es.length<=4:=by
  have:=congrArg List.length hi2;simp at this;omega
 have hend:¬i<m.datas.length->es=Km (m.datas.map .d):=λh=>by
  rw [hi2,CD (by omega)]
 have hnext:∀d,m.datas[i]?=some d->es++[[L9 d]]=Km ((m.datas.take (i+1)).map .d):=λd hd=>by
  rw [Be hd,C4,P2,<- hi2];rfl
 cases b with
 | false =>
  have hi3:=hi3 rfl;subst hi3;refine Ee rfl <| Aa rfl (λh=>?_) (λh=>?_)
  ·simp at h;obtain ⟨d,hd⟩:=Ao h;exact Ee rfl <| ai rfl (c:=CK d) (λ_=>⟨by simp,by simpa using G8 hd,by simp⟩) (by simp) <| Ed rfl <| B4 Cv rfl ⟨by simp,by simp [maxLen],by simp,trivial⟩ <| Ed rfl <| AZ 2 4 rfl <| Ae (ih (i+1,true,[]++[[L9 d]]) (by simp only;omega) ⟨by simp only;omega,hnext d hd,λh=>by cases h⟩) ⟨AA (Cb (by simp only;omega) (by simp only;omega)),BF⟩ AM rfl
  ·simp at h;exact Aw rfl <| Ae (aQ m false [] (λ_=>rfl) (hend (by omega)) hx.2.1 hx.2.2.1 hx.2.2.2) AM AI rfl
 | true =>
  refine Ee rfl <| Aa rfl (λh=>?_) (λh=>?_)
  ·simp at h;obtain ⟨d,hd⟩:=Ao h;exact Ee rfl <| ai rfl (c:=CK d) (λ_=>⟨by simp,by simpa using G8 hd,by simp⟩) (by simp) <| Ed rfl <| B4 Cv rfl ⟨by simp,by simp [maxLen];omega,by simp;omega,trivial⟩ <| Ed rfl <| AZ 2 4 rfl <| Ae (ih (i+1,true,es++[[L9 d]]) (by simp only;omega) ⟨by simp only;omega,hnext d hd,λh=>by cases h⟩) ⟨AA (Cb (by simp only;omega) (by simp only;omega)),BF⟩ AM rfl
  ·simp at h;exact Aw rfl <| Ae (aQ m true es (λh=>by cases h) (hend (by omega)) hx.2.1 hx.2.2.1 hx.2.2.2) AM AM rfl
end Go.Hk
namespace Go.Hk
def xE (P:Program) (I:Imm) (μ:Mu) (st:St) (w:World) (d:D) (st':St) (r:Result Next):Prop :=
 valX P r (λu w'=>∃I' μ',RepD I' μ' u d/\StRep I' μ' st' [] w'/\Pin (DJ st) μ μ'/\Ext I μ st w I' μ' st' w') (λ_ _=>False)
def U2 (j:Nat) (S:Bun):St:=[(0,some .pin),(j,some (.bun 0 S))]
def Ns (P:Program) (ds:List D) (S:Bun) (r:Bool) (S':Bun):Prop :=
 ∀I μ w b (xs:Array Value),μ 0=some (.func (.yield b) #[] #[])->StRep I μ (U2 1 S) [] w->RepL I μ xs.toList ds->xE P I μ (U2 1 S) w (.imm (.bool r)) (U2 2 S') ((Instr.yield b xs).run P w)
section
variable {P:Program} {n:Nat} {F:List Nat} {Q:DQ} {tt:TT} {env E:Env} {st st0 st1:St} {ids ids':List Nat} {k todo todo':List DI} {I:Imm} {μ:Mu} {w:World} {Pn:V->Prop} {d:D} {das:List D} {f:FuncId}
theorem DR:∀{st:St} {i:Nat} {b:Blk},Az st i b->i∈DJ st
 | [],i,b,h=>by simp [Az,lk] at h
 | (s,x)::r,i,b,h=>by
  by_cases hs:s=i
  ·subst hs;simp [DJ]
  ·have:Az r i b:=by unfold Az at h ⊢;rwa [A5 _ _ hs] at h
   simp only [DJ,Cz,CC];exact .inr (DR this)
theorem cY {s t:St} {i:Nat} {b:Blk} (h:Az s i b):Az (s++t) i b:=by
 have hm:i∈s.map (·.1):=DR h;unfold Az at h ⊢;rwa [FM hm]
theorem cX {s t:St} {i:Nat} {b:Blk} (hn:i∉DJ s) (h:Az t i b):Az (s++t) i b:=by
 unfold Az at h ⊢;rwa [JQ hn]
theorem tX {all:List Oper} {o:Oper} {g:Option (Bool×Bool)} (hg:Ca all env o=some g) (hcx:¬Am g):LD P Pn all o env st [] [] [] (gD g d):=by
 intro I μ st2 ids1 a w hag hst hon;have hwant:=Ft hg hon;refine ⟨λhw=>absurd (hwant.1 hw) hcx,λ_=>⟨rfl,rfl,?_⟩⟩;cases g with
 | none=>exact absurd trivial hcx
 | some p=>exact .guard _ _ _ _ (λh=>absurd h hcx) (λ_=>rfl)
structure nN where
 id:Nat
 das:List D
 g:Option (Bool×Bool)
 ob:List Prop
 dst:Option Nat
 o:Oper
 all:List Oper
def fT (n:Nat) (env:Env) (todo:List DI):Option nN :=
 match Bh todo ([],[]) with
 | some (all,o,_)=>match Ca all env o,o.op with
  | some g,.call { callee:=.value (.tmp t),args:=⟨args⟩,.. }=>match lk env t,HL (Am g) env args,BB n o.dst with
   | some (.yld id),some (ds,ob),true=>some ⟨id,ds,g,ob,o.dst,o,all⟩
   | some (.guard c w (.yld id)),some (ds,ob),true=>some ⟨id,ds,g,(Am g->c=w)::ob,o.dst,o,all⟩
   | _,_,_=>none
  | _,_=>none
 | none=>none
theorem RepD.yldInv {v:Value} {id:Nat} (h:RepD I μ v (.yld id)):∃b,μ id=some (.func (.yield b) #[] #[])/\v = .func (.yield b) #[] #[]:=by
 cases h with
 | yld b _ h=>exact ⟨b,h,rfl⟩
theorem aZ {o:Oper} {t b:Nat} {args:List Operand} {ts:Array TypeId} {a:Act} (ho:o.op = .call { callee:=.value (.tmp t),args:=⟨args⟩,argTypes:=ts }) (hv:a.eval (.tmp t) = .func (.yield b) #[] #[]) :
  (execOp a.eval o).run P w=(Instr.yield b (args.map a.eval).toArray).run P w:=by
 simp only [execOp,ho,resolve,hv,Deferred.ofValue,Sem.run_bind,Sem.run_pure,Result.andThen_ok,invoke];congr 2;simp
theorem bA {c:nN} (h:fT n env todo=some c) (hob:AB c.ob) (hcx:Am c.g) :
  (∀f,∃todo',Bh todo f=some (c.all,c.o,todo'))/\Ca c.all env c.o=some c.g/\BB n c.dst=true/\c.dst=c.o.dst/\(∀x,c.o.op ≠ .defer x) /\
  ∀I μ a,D6 I μ env a c.o.op->∃b,∃xs:Array Value,μ c.id=some (.func (.yield b) #[] #[])/\RepL I μ xs.toList c.das/\∀w,(execOp a.eval c.o).run P w=(Instr.yield b xs).run P w:=by
 unfold fT at h;have hnext:∀{all:List Oper} {o:Oper} {t:List DI},Bh todo ([],[])=some (all,o,t)->∀f,∃todo',Bh todo f=some (all,o,todo'):=by
  intro all o t h f;rcases HV h with ⟨r,k,rfl,_⟩ | ⟨r,fs,k,rfl,_⟩
  ·exact ⟨_,rfl⟩
  ·exact ⟨_,rfl⟩
 split at h
 ·rename_i all o t h1
  split at h
  ·rename_i g t' args ts hg ho;have fin:∀{dv:D} {ds:List D} {ob:List Prop} {id:Nat},lk env t'=some dv->HL (Am g) env args=some (ds,ob)->AB ob->Am g->(∀{I:Imm} {μ:Mu} {v:Value},RepD I μ v dv->∃b,μ id=some (.func (.yield b) #[] #[])/\v = .func (.yield b) #[] #[]) ->
     ∀I μ a,D6 I μ env a o.op->∃b,∃xs:Array Value,μ id=some (.func (.yield b) #[] #[])/\RepL I μ xs.toList ds/\∀w,(execOp a.eval o).run P w=(Instr.yield b xs).run P w:=by
    intro dv ds ob id ht ha hob hcx hyl I μ a hop;rw [ho] at hop;have hargs:=Gd (I:=I) (μ:=μ) (a:=a) hcx ha hob λx hx=>hop x (by simp [Op.operands,Call.operands,hx]);obtain ⟨b,q1,q2⟩:=hyl (hop (.tmp t') (by simp [Op.operands,Call.operands]) _ ht);exact ⟨b,_,q1,by simpa using hargs,λw=>aZ ho q2⟩
   split at h
   ·rename_i id ds ob ht ha hd;cases h;exact ⟨hnext h1,hg,hd,rfl,(λx hx=>by rw [ho] at hx;cases hx),fin ht ha hob hcx (λh=>h.yldInv)⟩
   ·rename_i cc ww id ds ob ht ha hd;cases h;exact ⟨hnext h1,hg,hd,rfl,(λx hx=>by rw [ho] at hx;cases hx),fin ht ha hob.2 hcx (λh=>(h.guardInv (hob.1 hcx)).yldInv)⟩
   ·cases h
  ·cases h
 ·cases h
theorem aB {c:nN} {j j2:Nat} {S S':Bun} {r:Bool} (h:fT n env todo=some c) (hob:AB c.ob) (hcx:Am c.g) (hE:Ns P (Fp (Ec [(c.id,0),(j,1)]) c.das) S r S') (hy:lk st c.id=some (some .pin)) (hj:lk st j=some (some (.bun c.id S)))
  (hn:KW [(c.id,0),(j,1)] [(2,j2)] c.das (U2 1 S) (.imm (.bool r)) (U2 2 S') [j2]=true) (h1:Bh todo ([c.id,j],[c.id,j2,c.id,j])=some (c.all,c.o,todo')) (hids:ids=j2::ids')
  (hk:G P n F Q todo' (BD c.dst (gD c.g (.imm (.bool r))) env) ((c.id,some .pin)::(j2,some (.bun c.id S'))::(c.id,none)::(j,none)::st) ids'):G P n F Q todo env st ids:=by
 obtain ⟨_,q2,q3,q4,q5,q6⟩:=bA (P:=P) h hob hcx;rw [q4] at q3 hk;subst hids;have hN:=MO hn;have hb:EI [(c.id,0),(j,1)] st (U2 1 S):=by
  have hne:Nat.beq c.id j=false:=by
   have:=hN.inv;simp only [Cz,HJ,CR,Bb] at this;cases hb:Nat.beq c.id j with
   | false=>rfl
   | true =>
    have:=Cx hb;rw [<- this] at hj;rw [hy] at hj;cases hj
  have e0:lk (Bb [(c.id,0),(j,1)]) 0=some c.id:=rfl;have e1:lk (Bb [(c.id,0),(j,1)]) 1=some j:=rfl;have f0:lk [(c.id,0),(j,1)] c.id=some 0:=Ay _ _ _;have f1:lk [(c.id,0),(j,1)] j=some 1:=by
   have:c.id≠j:=λe=>by rw [e] at hne;simp at hne
   rw [A5 _ _ this];exact Ay _ _ _
  have g0:Ec [(c.id,0),(j,1)] c.id=0:=by simp [Ec,f0]
  refine ⟨?_,?_,trivial⟩
  ·simp only [e0,f0,hy];exact ⟨rfl,rfl,rfl⟩
  ·simp only [e1,f1,hj];refine ⟨rfl,?_,?_⟩
   ·simp only [Tv,g0]
   ·simp only [TB,CR,f0,e0];simp
 have hl:LD P (Kn Q) c.all c.o env st (Fu [(c.id,0),(j,1)]) [j2] (E9 (Bb [(c.id,0),(j,1)]++[(2,j2)]) (U2 2 S')++Cs (Fu [(c.id,0),(j,1)])) (gD c.g (.imm (.bool r))):=by
  intro I μ st2 ids1 a w hag hst hon;have hwant:=Ft q2 hon;refine ⟨λ_=>?_,λhw=>by rw [hwant.2 hcx] at hw;cases hw⟩;obtain ⟨b,xs,m1,m2,m3⟩:=q6 I μ a (Bd hon);have hb':=F2 hag hb;obtain ⟨g1,g2,g3⟩:=FP hst hb' hN.args m2;rw [m3];refine (hE I _ w b xs (by simpa [GT,Bb,lk] using m1) g1 g2).mono (λu w' hu=>?_) (λ_ _ h=>h.elim);obtain ⟨I',μ',r1,r2,r3,r4⟩:=hu;obtain ⟨ν,s1,s2,s3,s4⟩:=Kj hst hb' hN r1 r2 r3 r4 g3;rw [<- JW] at s1 s4;refine ⟨I',ν,s1,?_,s3,s4⟩;cases hg:c.g with
  | none=>exact s2
  | some p=>rw [hg] at hcx;exact .guard _ _ _ _ (λ_=>s2) (λhn=>absurd hcx hn)
 have ew:E9 (Bb [(c.id,0),(j,1)]++[(2,j2)]) (U2 2 S')++Cs (Fu [(c.id,0),(j,1)])=[(c.id,some .pin),(j2,some (.bun c.id S')),(c.id,none),(j,none)]:=rfl;rw [ew] at hl;exact B9 (fr:=[j2]) (wr:=[(c.id,some .pin),(j2,some (.bun c.id S')),(c.id,none),(j,none)]) h1 hl q3 q5 hk
structure sT where
 g:Option (Bool×Bool)
 dst:Option Nat
 todo:List DI
def sG (n:Nat) (env:Env) (todo:List DI):Option sT :=
 match Bh todo ([],[]) with
 | some (all,o,todo')=>match Ca all env o,o.op,BB n o.dst with
  | some g,.call _,true=>some ⟨g,o.dst,todo'⟩
  | _,_,_=>none
 | none=>none
theorem OM {c:sT} (d:D) (h:sG n env todo=some c) (hcx:¬Am c.g) (hk:G P n F Q c.todo (BD c.dst (gD c.g d) env) st ids):G P n F Q todo env st ids:=by
 unfold sG at h
 split at h
 ·rename_i all o todo' h1
  split at h
  ·rename_i g cc hg ho hd;cases h;exact B9 (fr:=[]) (wr:=[]) h1 (tX hg hcx) hd (λx hx=>by rw [ho] at hx;cases hx) hk
  ·cases h
 ·cases h
end
end Go.Hk
namespace Go.Hk
def xF (pend:Option Code) (stB:St):DQ:=λx _ st _=>match x,pend with
 | .norm,none=>HQ st stB
 | .ret,some .ret=>HQ st stB
 | .exit j,some (.exit j')=>j=j'/\HQ st stB
 | _,_=>False
structure M1 where
 fn:FuncId
 ps:Array Tmp
 asg:Code
 body:Code
 tmps:Array Value
 E:Env
 F:List Nat
 μ0:Mu
def nQ (pend:Option Code) (r:Go.Loop):Prop:=r.state=(match pend with | none=>.ready | some _=>.done)/\r.pending=pend
def wQ (L:M1) (st:St) (pend:Option Code) (I:Imm) (w:World) (b:Nat) (bs:List Nat):Prop :=
 ∃(r:Go.Loop) (μ:Mu) (bs0:List Nat),bs=b::bs0/\w.heap[b]?=some (.loop r)/\nQ pend r/\(r.fn=L.fn/\r.params=L.ps/\r.assign=L.asg/\r.body=L.body/\r.tmps=L.tmps) /\
  (∀t d,lk L.E t=some d->RepD I μ (L.tmps.getD t undef) d)/\(∀i blk,Az st i blk->∃g,μ i=some g/\BlkRep I μ w g blk) /\
  (∀i j bi bj gi gj k,Az st i bi->Az st j bj->μ i=some gi->μ j=some gj->Eb gi k->Eb gj k->i=j)/\(∀k,k∈bs0↔Bg μ st k)/\b∉bs0/\Pin L.F L.μ0 μ
def CY (L:M1) (st:St) (pend:Option Code):Bun where
 P:=wQ L st pend
 mono:=λ{I J w b bs} h hp=>by
  obtain ⟨r,μ,bs0,h1,h2,h3,h4,h5,h6,h7,h8,h9,h10⟩:=hp;exact ⟨r,μ,bs0,h1,h2,h3,h4,λt d hl=>(h5 t d hl).mono h (Mu.le_refl μ),λi blk hl=>let ⟨g,q1,q2⟩:=h6 i blk hl;⟨g,q1,q2.mono h (Mu.le_refl μ)⟩,h7,h8,h9,h10⟩
 loc:=λ{I w w' b bs} h hp=>by
  obtain ⟨r,μ,bs0,h1,h2,h3,h4,h5,h6,h7,h8,h9,h10⟩:=hp;subst h1;exact ⟨r,μ,bs0,rfl,(h b (by simp)).trans h2,h3,h4,h5,λi blk hl=>let ⟨g,q1,q2⟩:=h6 i blk hl;⟨g,q1,q2.world λk hk=>h k (by simp [(h8 k).2 ⟨i,blk,g,hl,q1,hk⟩])⟩,h7,h8,h9,h10⟩
def Ut:Value->List Nat
 | .pointer (some a)=>[a.block]
 | .slice (some a) _ _=>[a.block]
 | .map (some c)=>[c]
 | .agg cs=>cs.toList.filterMap fun | .pointer (some a)=>some a.block | _=>none
 | .tuple ⟨[_,.agg cs]⟩=>cs.toList.filterMap fun | .pointer (some a)=>some a.block | _=>none
 | _=>[]
theorem Oh {g:Value} {k:Nat}:k∈Ut g↔Eb g k:=by
 unfold Ut Eb
 split <;> simp [eq_comm]
 all_goals
  constructor
  ·rintro ⟨a,h1,h2⟩
   split at h2
   ·cases h2;exact ⟨_,h1,rfl⟩
   ·cases h2
  ·rintro ⟨a,h1,h2⟩;exact ⟨_,h1,by rw [h2]⟩
open Classical in
theorem P8 (μ:Mu) (st:St):∃l:List Nat,∀k,k∈l↔Bg μ st k:=by
 refine ⟨(DJ st).flatMap λi=>if (∃b,Az st i b) then (match μ i with | some g=>Ut g | none=>[]) else [],λk=>?_⟩;rw [List.mem_flatMap];constructor
 ·rintro ⟨i,_,h⟩
  split at h
  ·rename_i hb;obtain ⟨b,hb⟩:=hb;cases hg:μ i with
   | none=>rw [hg] at h;cases h
   | some g=>rw [hg] at h;exact ⟨i,b,g,hb,hg,Oh.1 h⟩
  ·cases h
 ·rintro ⟨i,b,g,h1,h2,h3⟩;refine ⟨i,DR h1,?_⟩;rw [if_pos ⟨b,h1⟩,h2];exact Oh.2 h3
def Q0 (ids:List Nat) (E:Env) (st:St) (F:List Nat):Prop:=ids.Nodup/\∀i∈ids,i∉Vp E/\i∉Fj st/\i∉F
section
variable {P:Program} {n:Nat} {F:List Nat} {Q:DQ} {tt:TT} {env E:Env} {st st0 st1:St} {ids ids':List Nat} {k todo todo':List DI} {I:Imm} {μ:Mu} {w:World} {Pn:V->Prop} {d:D} {das:List D} {f:FuncId}
theorem pJ:∀{st:St} {i:Nat} {b:Blk},Az st i b->i∈Fj st:=λh=>(Ez h).1
theorem WG {L:M1} {pend:Option Code} {b:Nat} {bs:List Nat} (h:wQ L st pend I w b bs) (hf:Q0 ids L.E st L.F) (hI:I.ok w) (hbs:∀k∈bs,I k=none/\k<w.heap.size) :
  ∃(r:Go.Loop) (ν:Mu) (bs0:List Nat),bs=b::bs0/\w.heap[b]?=some (.loop r)/\nQ pend r/\(r.fn=L.fn/\r.params=L.ps/\r.assign=L.asg/\r.body=L.body/\r.tmps=L.tmps) /\
   (∀t d,lk L.E t=some d->RepD I ν (L.tmps.getD t undef) d)/\StRep I ν st ids w/\(∀k,k∈bs0↔Bg ν st k)/\b∉bs0/\Pin L.F L.μ0 ν:=by
 obtain ⟨r,μ,bs0,h1,h2,h3,h4,h5,h6,h7,h8,h9,h10⟩:=h;obtain ⟨hf1,hf2⟩:=hf;obtain ⟨ν,hν⟩:∃ν:Mu,ν=λi=>if i∈ids then none else μ i:=⟨_,rfl⟩
 have hν1:∀i,i∉ids->ν i=μ i:=λi hi=>by rw [hν];exact if_neg hi
 have hv1:∀i,i∈Vp L.E\/i∈Fj st\/i∈L.F->ν i=μ i:=λi hi=>hν1 i λhm=>by
  obtain ⟨q1,q2,q3⟩:=hf2 i hm;rcases hi with h | h | h
  ·exact q1 h
  ·exact q2 h
  ·exact q3 h
 have hv2:∀{i bi},Az st i bi->ν i=μ i:=λhl=>hv1 _ (.inr (.inl (pJ hl)));have hown:∀k,Bg ν st k↔Bg μ st k:=λk=>by
  constructor <;> rintro ⟨i,bi,g,q1,q2,q3⟩
  ·exact ⟨i,bi,g,q1,by rw [<- hv2 q1];exact q2,q3⟩
  ·exact ⟨i,bi,g,q1,by rw [hv2 q1];exact q2,q3⟩
 refine ⟨r,ν,bs0,h1,h2,h3,h4,λt d hl=>(h5 t d hl).sub λj hj g hg=>by rw [hv1 j (.inl (XA hl j hj))];exact hg,?_,λk=>by rw [hown k];exact h8 k,h9,λi hi g hg=>by rw [hv1 i (.inr (.inr hi))];exact h10 i hi g hg⟩;exact
  {imm:=hI
   blk:=λi bi hl=>by
    obtain ⟨g,q1,q2⟩:=h6 i bi hl;exact ⟨g,by rw [hv2 hl];exact q1,q2.sub λj hj g hg=>by rw [hv1 j (.inr (.inl ((Ez hl).2 j hj)))];exact hg⟩
   apart:=λi bi g k hl hgi hk=>hbs k (by rw [h1];exact H3 _ ((h8 k).2 ⟨i,bi,g,hl,by rw [<- hv2 hl];exact hgi,hk⟩))
   inj:=λi j bi bj gi gj k hi hj hgi hgj=>h7 i j bi bj gi gj k hi hj (by rw [<- hv2 hi];exact hgi) (by rw [<- hv2 hj];exact hgj)
   nodup:=hf1
   idsFree:=λi hi=>by rw [hν];exact if_pos hi }
theorem IU {j:Nat} {S:Bun} (hj:j≠0) {i:Nat} {bi:Blk} (h:Az (U2 j S) i bi):(i=0/\bi = .pin)\/(i=j/\bi = .bun 0 S):=by
 rcases A9.1 h with h | ⟨_,h⟩
 ·exact .inl h
 ·rcases A9.1 h with h | ⟨_,h⟩
  ·exact .inr h
  ·simp [Az,lk] at h
def sM:Option Code->List DI
 | none=>[]
 | some c=>[.code c]
theorem Ni {g:Operand} {ps:Array Tmp} {asg body c:Code} {f y j j2:Nat} {fc:Func} {df dc:List D} {stc stc' stx stB:St} {pend:Option Code} (hg:DT env g=some (.fn (.func f) df dc)) (hf:P.funcs[f]?=some fc)
  (hname : (fc.name == "runtime.NumGoroutine") = false) (hb : fc.body = some c) (hF : iD ∉ F) (hEE : bN env E) (hl : ∀ i b, Az (stc ++ stx) i b → Az st i b)
  (hE:∀L:M1,P.funcs[L.fn]?.isSome->L.tmps.size=n->L.ps=ps->L.asg=asg->L.body=body->L.E=E->L.F=F ->
   AK P f (df ++ .yld y::dc) ((y,some .pin)::(j,some (.bun y (CY L stx none)))::stc) (.ret d ((y,some .pin)::(j2,some (.bun y (CY L stB pend)))::stc')))
  (hdis:∀i∈DJ stc,i∉DJ stx) (hyj:y≠j/\y≠j2/\y∉DJ stc/\j∉DJ stc) (hcl:∀i,i∈HU (df++dc)\/i∈Fj stc->i∈DJ stc) (hfree:Q0 ids' E stB F)
  (hk:DGo P n F Q (sM pend++k) E stB ids'):DGo P n F Q (.code (.rangeFunc g ps asg body)::k) env st ids:=by
 intro b cs I μ a w items hd hc;obtain ⟨is,rfl,hki⟩:=Im hd;rcases b.2 with hb0 | ⟨hb0,fcb,hfb⟩
 ·exact absurd hb0 hF
 have he:=run_enterLoop_outer (P:=P) (w:=w) b.1.fn a.tmps ps asg body;obtain ⟨ro,hro⟩:∃ro,ro=b.1.roundOf:=⟨_,rfl⟩
 have he':(Instr.enterLoop b.1.fn a.tmps ps asg body ro).run P w=(Instr.enterLoop b.1.fn a.tmps ps asg body none).run P w:=by rw [hro,hb0]
 rw [<- he',hro] at he;clear he';obtain ⟨L,hL⟩:∃L:M1,L=⟨b.1.fn,ps,asg,body,a.tmps,E,F,μ⟩:=⟨_,rfl⟩
 obtain ⟨wa,hwa⟩:∃wa:World,wa=w.alloc (.deferred (some [])):=⟨_,rfl⟩
 rw [<- hwa] at he;have hwas:wa.heap.size=w.heap.size+1:=by rw [hwa];simp
 obtain ⟨R,hR⟩:∃R:Go.Loop,R={ state:=.ready,pending:=none,fn:=b.1.fn,tmps:=a.tmps,params:=ps,assign:=asg,body,defers:=w.heap.size }:=⟨_,rfl⟩
 rw [<- hR,<- hwas] at he;obtain ⟨w1,hw1⟩:∃w1:World,w1=wa.alloc (.loop R):=⟨_,rfl⟩
 rw [<- hw1] at he;have hw1s:w1.heap.size=w.heap.size+2:=by rw [hw1];simp;omega
 have hw1o:∀i,i<w.heap.size->w1.heap[i]?=w.heap[i]?:=λi hi=>by rw [hw1,CH wa _ (by omega),hwa];exact CH w _ hi
 have hw1m:w1.heap[w.heap.size]?=some (.deferred (some [])):=by rw [hw1,CH wa _ (by omega),hwa];exact Eh w _
 have hw1r:w1.heap[wa.heap.size]?=some (.loop R):=by rw [hw1];exact Eh wa _
 have hInew:∀k,w.heap.size<=k->I k=none:=λk hk=>by
  cases hI:I k with
  | none=>rfl
  | some o=>have:=BN (hc.imm k o hI);omega
 have hS1:StRep I μ st ids w1:=hc.toStRep.other (by omega) (λi o hi=>hw1o i (BN (hc.imm i o hi))) (λi hi=>hw1o i (DN hc.toStRep hi));have hlx:∀i bi,Az stx i bi->Az st i bi:=λi bi h=>hl i bi (cX (λhm=>hdis i hm (DR h)) h);have hlc:∀i bi,Az stc i bi->Az st i bi:=λi bi h=>hl i bi (cY h);obtain ⟨bs0,hbs0⟩:=P8 μ stx;have hownx:∀k,k∈bs0->Bg μ st k:=λk hk=>let ⟨i,bi,g,h1,h2⟩:=(hbs0 k).1 hk;⟨i,bi,g,hlx i bi h1,h2⟩
 have hltx:∀k,k∈bs0->k<w.heap.size:=λk hk=>DN hc.toStRep (hownx k hk);have hEnv:∀t d',lk E t=some d'->RepD I μ (a.tmps.getD t undef) d':=λt d' hl=>by
  obtain ⟨d,h1,h2⟩:=MB hEE t d' hl;exact Pf h2 (hc.env t d h1)
 have hB1:(CY L stx none).P I w1 wa.heap.size (wa.heap.size::bs0):=by
  refine ⟨R,μ,bs0,rfl,hw1r,⟨by rw [hR],by rw [hR]⟩,?_,?_,λi bi h=>hS1.blk i bi (hlx i bi h),λi j bi bj gi gj k hi hj=>hS1.inj i j bi bj gi gj k (hlx i bi hi) (hlx j bj hj),hbs0,λhm=>by have:=hltx _ hm;omega,?_⟩
  ·rw [hR,hL];exact ⟨rfl,rfl,rfl,rfl,rfl⟩
  ·rw [hL];exact hEnv
  ·rw [hL];exact .refl _ _
 obtain ⟨μc,hμc⟩:∃μc:Mu,μc=λi=>if i=y then some (.func (.yield wa.heap.size) #[] #[]) else if i=j then some (.agg (T8 (wa.heap.size::bs0))) else μ i:=⟨_,rfl⟩
 have hmy:μc y=some (.func (.yield wa.heap.size) #[] #[]):=by rw [hμc];simp
 have hmj:μc j=some (.agg (T8 (wa.heap.size::bs0))):=by rw [hμc];simp [Ne.symm hyj.1]
 have hmo:∀i∈DJ stc,μc i=μ i:=λi hi=>by
  have h1:i≠y:=λe=>hyj.2.2.1 (e ▸ hi);have h2:i≠j:=λe=>hyj.2.2.2 (e ▸ hi);rw [hμc];simp [h1,h2]
 obtain ⟨st0,hst0⟩:∃st0:St,st0=(y,some .pin)::(j,some (.bun y (CY L stx none)))::stc:=⟨_,rfl⟩
 have hl0:∀{i bi},Az st0 i bi->(i=y/\bi = .pin)\/(i=j/\bi = .bun y (CY L stx none))\/(i≠y/\i≠j/\Az stc i bi):=λ{i bi} h=>by
  rw [hst0] at h;rcases A9.1 h with h | ⟨h1,h⟩
  ·exact .inl h
  ·rcases A9.1 h with h | ⟨h2,h⟩
   ·exact .inr (.inl h)
   ·exact .inr (.inr ⟨h1,h2,h⟩)
 have hown0:∀k,Bg μc st0 k->k=wa.heap.size\/k∈bs0\/Bg μ stc k:=λk ⟨i,bi,g,h1,h2,h3⟩=>by
  rcases hl0 h1 with ⟨rfl,rfl⟩ | ⟨rfl,rfl⟩ | ⟨_,_,h⟩
  ·rw [hmy] at h2;cases h2;exact h3.elim
  ·rw [hmj] at h2;cases h2;rcases CC.1 (D0.1 h3) with h | h
   ·exact .inl h
   ·exact .inr (.inl h)
  ·exact .inr (.inr ⟨i,bi,g,h,by rw [<- hmo i (DR h)];exact h2,h3⟩)
 have hcx:∀{i bi g k},Az stc i bi->μ i=some g->Eb g k->k∉bs0:=λ{i bi g k} h1 h2 h3 hm=>by
  obtain ⟨i',bi',g',q1,q2,q3⟩:=(hbs0 k).1 hm;have:=hS1.inj i i' bi bi' g g' k (hlc i bi h1) (hlx i' bi' q1) h2 q2 h3 q3;subst this;exact hdis i (DR h1) (DR q1)
 have hS0:StRep I μc st0 [] w1:=by
  refine { imm:=hS1.imm,blk:=λi bi h=>?_,apart:=λi bi g k h hgi hk=>?_,inj:=λi i' bi bj gi gj k hi hj hgi hgj hki hkj=>?_,nodup:=.nil,idsFree:=λ_ h=>by simp at h }
  ·rcases hl0 h with ⟨rfl,rfl⟩ | ⟨rfl,rfl⟩ | ⟨_,_,h⟩
   ·exact ⟨_,hmy,_,rfl⟩
   ·exact ⟨_,hmj,_,_,hmy,rfl,hB1⟩
   ·obtain ⟨g,q1,q2⟩:=hS1.blk i bi (hlc i bi h);exact ⟨g,by rw [hmo i (DR h)];exact q1,q2.sub λx hx g hg=>by rw [hmo x (hcl x (.inr ((Ez h).2 x hx)))];exact hg⟩
  ·rcases hown0 k ⟨i,bi,g,h,hgi,hk⟩ with h | h | ⟨i',bi',g',q1,q2,q3⟩
   ·rw [h];exact ⟨hInew _ (by omega),by omega⟩
   ·obtain ⟨i',bi',g',q1,q2,q3⟩:=hownx k h;exact hS1.apart i' bi' g' k q1 q2 q3
   ·exact hS1.apart i' bi' g' k (hlc i' bi' q1) q2 q3
  ·rcases hl0 hi with ⟨rfl,rfl⟩ | ⟨rfl,rfl⟩ | ⟨_,_,hi⟩ <;> rcases hl0 hj with ⟨rfl,rfl⟩ | ⟨rfl,rfl⟩ | ⟨_,_,hj⟩
   ·rfl
   ·rw [hmy] at hgi;cases hgi;exact hki.elim
   ·rw [hmy] at hgi;cases hgi;exact hki.elim
   ·rw [hmy] at hgj;cases hgj;exact hkj.elim
   ·rfl
   ·rw [hmj] at hgi;cases hgi;have q:=hmo i' (DR hj);rw [hgj] at q;rcases CC.1 (D0.1 hki) with h | h
    ·have:=(hS1.apart i' bj gj k (hlc _ _ hj) q.symm hkj)
     have hlt:=DN hc.toStRep ⟨i',bj,gj,hlc _ _ hj,q.symm,hkj⟩;omega
    ·exact absurd h (hcx hj q.symm hkj)
   ·rw [hmy] at hgj;cases hgj;exact hkj.elim
   ·rw [hmj] at hgj;cases hgj;have q:=hmo i (DR hi);rw [hgi] at q;rcases CC.1 (D0.1 hkj) with h | h
    ·have hlt:=DN hc.toStRep ⟨i,bi,gi,hlc _ _ hi,q.symm,hki⟩;omega
    ·exact absurd h (hcx hi q.symm hki)
   ·have q1:=hmo i (DR hi);have q2:=hmo i' (DR hj);rw [hgi] at q1;rw [hgj] at q2;exact hS1.inj i i' bi bj gi gj k (hlc _ _ hi) (hlc _ _ hj) q1.symm q2.symm hki hkj
 have hvg:=Uk (I:=I) (μ:=μ) (a:=a) hg λt _ d hl=>hc.env t d hl;generalize hve:a.eval g=vg at hvg;cases hvg with
 | fn _ first cap _ _ hl1 hl2 q1 q2 =>
 have hnL:∀{l m:List D} {i},i∈HU l\/i∈HU m->i∈HU (l++m):=λ{l m i} h=>by
  have:∀(l m:List D),HU (l++m)=HU l++HU m:=λl m=>by
   induction l with
   | nil=>rfl
   | cons x r ih=>simp [HU,ih]
  rw [this];simpa using h
 have hargs:RepL I μc (first ++ #[Value.func (.yield wa.heap.size) #[] #[]]++cap).toList (df ++ .yld y::dc):=by
  have e:df ++ .yld y::dc=df++[.yld y]++dc:=by simp
  rw [e,Ju,Ju];have h1:RepL I μ first.toList df:=⟨by simpa using hl1,λi v d p q=>q1 i v d (by simpa using p) q⟩
  have h2:RepL I μ cap.toList dc:=⟨by simpa using hl2,λi v d p q=>q2 i v d (by simpa using p) q⟩
  refine RepL.append (RepL.append (h1.sub λx hx g hg=>?_) (.mk (.yld _ _ hmy) .nil)) (h2.sub λx hx g hg=>?_)
  ·rw [hmo x (hcl x (.inl (hnL (.inl hx))))];exact hg
  ·rw [hmo x (hcl x (.inl (hnL (.inr hx))))];exact hg
 have hEL:=hE L (by rw [hL];simp [hfb]) (by rw [hL];exact hc.size) (by rw [hL]) (by rw [hL]) (by rw [hL]) (by rw [hL]) (by rw [hL]);rw [<- hst0] at hEL;have hcall:=hEL I μc w1 _ hS0 hargs;rw [Bq hf hname hb] at hcall;have hres:∃dd,(resolve a.eval (rangeCall g wa.heap.size) 0).run P w1 = .ok dd w1/\(invoke dd.target dd.args).run P w1 = .ok (.enter f (first ++ #[Value.func (.yield wa.heap.size) #[] #[]]++cap)) w1:=by
  refine ⟨⟨.fn (.func f) cap,first ++ #[Value.func (.yield wa.heap.size) #[] #[]]⟩,?_,?_⟩
  ·have hcv:a.eval (.const (.func (.yield wa.heap.size) #[] #[])) = .func (.yield wa.heap.size) #[] #[]:=rfl;simp [rangeCall,resolve,Deferred.ofValue,hve,hcv]
  ·simpa [invoke] using Bq (w:=w1) hf hname hb (first ++ #[Value.func (.yield wa.heap.size) #[] #[]]++cap)
 obtain ⟨dd,hr1,hr2⟩:=hres;refine Ou he hr1 hr2 (Calls.mono hcall λen w3 hen=>?_);cases en with
 | panicked chain=>exact hen.elim
 | outgrown=>exact hen.elim
 | returned v =>
  obtain ⟨I',μ',p1,p2,p3,p4⟩:=hen;have hly:Az ((y,some .pin)::(j2,some (.bun y (CY L stB pend)))::stc') j2 (.bun y (CY L stB pend)):=A9.2 (.inr ⟨Ne.symm hyj.2.1,A9.2 (.inl ⟨rfl,rfl⟩)⟩);obtain ⟨g2,hg2,b2,bs2,hb2,rfl,hP2⟩:=p2.blk j2 _ hly;have hyy:μ' y=some (.func (.yield wa.heap.size) #[] #[]):=p3 y (by rw [hst0];simp [DJ]) _ hmy;rw [hyy] at hb2;cases hb2;have hbs2:∀k∈bs2,I' k=none/\k<w3.heap.size:=λk hk=>p2.apart j2 _ _ k hly hg2 (D0.2 hk);obtain ⟨r,ν,bsN,e1,hrr,⟨hr2',hr3⟩,⟨hr4,hr5,hr6,hr7,hr8⟩,hE3,hS3,hownN,hnbN,hFN⟩:=WG hP2 (ids:=ids') (by rw [hL];exact hfree) p2.imm hbs2;subst e1;have hend:=run_endLoop (P:=P) hrr (by rw [hr2'];cases pend <;> simp)
  obtain ⟨w4,hw4⟩:∃w4:World,w4=w3.putObj wa.heap.size (.loop { r with state:=.exhausted }):=⟨_,rfl⟩
  have hend':(Instr.endLoop wa.heap.size).run P w3 = .ok pend w4:=by rw [hw4,hend,hr3]
  refine ⟨pend,w4,hend',?_⟩;have hlb:wa.heap.size<w3.heap.size:=BN hrr;have hoth:∀i,i≠wa.heap.size->w4.heap[i]?=w3.heap[i]?:=λi hi=>by
   rw [hw4];unfold World.putObj;simp [F8 (Ne.symm hi)]
  have hw4s:w4.heap.size=w3.heap.size:=by rw [hw4];unfold World.putObj;simp
  obtain ⟨hIb,_⟩:=hbs2 _ (PP ..);have hS4:StRep I' ν stB ids' w4:=hS3.other (by omega) (λi o hi=>hoth i (λe=>by rw [e,hIb] at hi;cases hi)) (λi hi=>hoth i (λe=>hnbN ((hownN _).2 (e ▸ hi))));have hsz3:=p4.size;have hno0:∀k,k<w.heap.size->¬Bg μ st k->¬Bg μc st0 k:=λk hk hno h=>by
   rcases hown0 k h with h | h | ⟨i,bi,g,q1,q2⟩
   ·omega
   ·exact hno (hownx k h)
   ·exact hno ⟨i,bi,g,hlc i bi q1,q2⟩
  have hblk:∀k,k<w1.heap.size->k≠wa.heap.size->¬Bg μc st0 k->w4.heap[k]?=w1.heap[k]?:=λk hk hne hno=>(hoth k hne).trans (p4.block k hk hno);have hfr:∀k,k<w1.heap.size->Bg ν stB k->Bg μc st0 k:=λk hk ho=>p4.fresh k hk ⟨j2,_,_,hly,hg2,D0.2 (H3 _ ((hownN k).2 ho))⟩;have hExt:Ext I μ st w I' ν stB w4 :=
   {imm:=p4.imm
    os:=by rw [hw4];unfold World.putObj;exact p4.os.trans (by rw [hw1,hwa];rfl)
    tape:=by rw [hw4];unfold World.putObj;exact p4.tape.trans (by rw [hw1,hwa];rfl)
    output:=by rw [hw4];unfold World.putObj;exact p4.output.trans (by rw [hw1,hwa];rfl)
    size:=by omega
    block:=λk hk hno=>(hblk k (by omega) (by omega) (hno0 k hk hno)).trans (hw1o k hk)
    fresh:=λk hk ho=>by
     rcases hown0 k (hfr k (by omega) ho) with h | h | ⟨i,bi,g,q1,q2⟩
     ·omega
     ·exact hownx k h
     ·exact ⟨i,bi,g,hlc i bi q1,q2⟩
    old:=λk hk hno=>p4.old k (by omega) (hno0 k hk hno) }
  have hMk:MarksOk I' ν stB w4 ([{ target:=.collected w.heap.size,args:=#[] }]++a.defers):=by
   obtain ⟨rs,r1,r2,r3⟩:=hc.defers;refine ⟨w.heap.size::rs,by rw [r1];rfl,K4.2 ⟨λhm=>?_,r2⟩,λr hr=>?_⟩
   ·have:=BN (r3 _ hm).1;omega
   have hno:¬Bg μc st0 r/\r<w1.heap.size/\r≠wa.heap.size/\w1.heap[r]?=some (.deferred (some []))/\I r=none:=by
    rcases CC.1 hr with rfl | hr
    ·refine ⟨λh=>?_,by omega,by omega,hw1m,hInew _ (B8 _)⟩;rcases hown0 _ h with h | h | ⟨i,bi,g,q1,q2,q3⟩
     ·omega
     ·have:=hltx _ h;omega
     ·have:=DN hc.toStRep ⟨i,bi,g,hlc i bi q1,q2,q3⟩;omega
    ·obtain ⟨h1,h2,h3⟩:=r3 r hr;have hlt:=BN h1;exact ⟨hno0 r hlt h3,by omega,by omega,(hw1o r hlt).trans h1,h2⟩
   obtain ⟨h1,h2,h3,h4,h5⟩:=hno;exact ⟨(hblk r h2 h3 h1).trans h4,(p4.old r h2 h1).trans h5,λho=>h1 (hfr r h2 ho)⟩
  have hC:Conc n I' ν E stB ids' { a with defers:=[{ target:=.collected w.heap.size,args:=#[] }]++a.defers } w4 :=
   {hS4 with size:=hc.size,env:=λt d hl=>by have:=hE3 t d (by rw [hL];exact hl);rw [hL] at this;exact this,defers:=hMk }
  have hden:U0 (sM pend++k) ((pend.map Item.code).toList++is):=by
   cases pend with
   | none=>exact hki
   | some c=>exact ⟨rfl,hki⟩
  refine Reach.mono (λe a' w' hp=>?_) (hk b cs I' ν _ w4 _ hden hC);obtain ⟨x',env',st',ids2,I2,μ2,t1,t2,t3,t4,t5,t6⟩:=hp;have hpin:Pin F μ ν:=by rw [hL] at hFN;exact hFN
  refine ⟨x',env',st',ids2,I2,μ2,t1,t2,t3,hpin.trans t4,hExt.trans t5,λr hr=>?_⟩;rcases t6 r hr with h | h
  ·simp only [kJ,CC] at h;rcases h with h | h
   ·simp only [wE,Deferred.mk.injEq,Target.collected.injEq,and_true] at h;exact .inr (by omega)
   ·exact .inl h
  ·exact .inr (by omega)
end
end Go.Hk
namespace Go.Hk
section
variable {P:Program} {n:Nat} {F:List Nat} {Q:DQ} {tt:TT} {env:Env} {st:St} {ids:List Nat} {todo:List DI}
theorem Wy (t:Nat) {id off:Nat} {ty:TypeId} {sz:Nat} {xs:List V} (he:lk env t=some (.ref id off)) (hl:lk st id=some (some (.immb ty sz xs))) (h:DGo P n F Q todo ((t,.ip ty xs off)::env) ((id,none)::st) ids) :
  DGo P n F Q todo env st ids:=by
 intro b cs I μ a w items hd hc;have hlive:Az st id (.immb ty sz xs):=hl;obtain ⟨g,hg,hlen,gb,vs,rfl,hheap,hrep,hone⟩:=hc.blk id _ hlive;obtain ⟨hno,hlt⟩:=hc.apart id _ _ gb hlive hg rfl;obtain ⟨J,hJ⟩:∃J:Imm,J=λk=>if k=gb then some (.cells vs ty (0,0)) else I k:=⟨_,rfl⟩
 have hle:I.le J:=λk o h=>by
  have:k≠gb:=λe=>by rw [e,hno] at h;cases h
  rw [hJ];simp [this,h]
 have hJo:∀k o,J k=some o->I k=some o\/(k=gb/\w.heap[k]?=some o):=λk o h=>by
  rw [hJ] at h;by_cases hk:k=gb
  ·subst hk;simp at h;subst h;exact .inr ⟨rfl,hheap⟩
  ·simp [hk] at h;exact .inl h
 have hE:Ext I μ st w J μ ((id,none)::st) w :=
  {imm:=hle,os:=rfl,tape:=rfl,output:=rfl,size:=B8 _
   block:=λ_ _ _=>rfl
   fresh:=λk _ ⟨i,bi,gi,h1,h2,h3⟩=>⟨i,bi,gi,(BL.1 h1).2,h2,h3⟩
   old:=λk _ ho=>by
    have:k≠gb:=λe=>ho (e ▸ ⟨id,_,_,hlive,hg,rfl⟩);rw [hJ];simp [this] }
 have hv:RepD I μ (a.tmps.getD t undef) (.ref id off):=hc.env t _ he;have hptr:a.tmps.getD t undef = .pointer (some ⟨gb,off,none⟩):=by
  generalize a.tmps.getD t undef=v at hv;cases hv with
  | ref b' _ _ hm=>rw [hg] at hm;cases hm;rfl
 have hip:RepD J μ (a.tmps.getD t undef) (.ip ty xs off):=by
  rw [hptr];have:=RepD.ip (I:=J) (μ:=μ) gb 0 ty xs off (λj=>(vs[j]?).getD undef) (λj x hx=>?_) (λj x hx=>?_)
  ·simpa using this
  ·have hj:j<vs.size:=by have:=hrep.1;have:=(AJ.1 hx).1;simp at *;omega
   rw [hJ];simp only [Imm.cell,if_true,Di,Ox hj,LN,true_and];exact hone _ (by simp)
  ·have hj:j<vs.size:=by have:=hrep.1;have:=(AJ.1 hx).1;simp at *;omega
   simp only [Ox hj,LN];exact (hrep.2 j _ x (by simp [hj]) hx).mono hle
 have hc':Conc n J μ ((t,.ip ty xs off)::env) ((id,none)::st) ids a w :=
  {imm:=λk o h=>(hJo k o h).elim (λh=>hc.imm k o h) λh=>h.2
   blk:=λi bi hli=>by
    obtain ⟨_,h2⟩:=BL.1 hli;obtain ⟨gi,hgi,hr⟩:=hc.blk i bi h2;exact ⟨gi,hgi,hr.mono hle (Mu.le_refl μ)⟩
   apart:=λi bi gi k hli hgi hk=>by
    obtain ⟨h1,h2⟩:=BL.1 hli;obtain ⟨q1,q2⟩:=hc.apart i bi gi k h2 hgi hk;refine ⟨?_,q2⟩;cases hJk:J k with
    | none=>rfl
    | some o =>
     rcases hJo k o hJk with h | ⟨h,_⟩
     ·rw [q1] at h;cases h
     ·exact absurd (hc.inj i id bi _ gi _ k h2 hlive hgi hg hk (by rw [h];rfl)) h1
   inj:=λi j bi bj gi gj k hi hj hgi hgj hki hkj=>hc.inj i j bi bj gi gj k (BL.1 hi).2 (BL.1 hj).2 hgi hgj hki hkj
   nodup:=hc.nodup
   idsFree:=hc.idsFree
   size:=hc.size
   env:=λt' d hlt=>by
    by_cases ht:t=t'
    ·subst ht;rw [Ay] at hlt;cases hlt;exact hip
    ·rw [A5 _ _ ht] at hlt;exact (hc.env t' d hlt).mono hle (Mu.le_refl μ)
   defers:=hc.defers.ext hE }
 exact (h b cs J μ a w items hd hc').mono λe' a' w' hp=>hp.back (.refl _ _) hE
theorem Ke (i j:Nat) {ids':List Nat} {blk:Blk} (hl:lk st i=some (some blk)) (hj:(EH ids j&&Jk ids'&&Oi ids' ids && !EH ids' j)=true) (h:DGo P n F Q todo env ((j,some blk)::(i,none)::st) ids'):DGo P n F Q todo env st ids:=by
 intro b cs I μ a w items hd hc;simp only [A1,Jv] at hj;obtain ⟨⟨⟨hj1,hj2⟩,hj3⟩,hj4⟩:=hj;have hlive:Az st i blk:=hl;obtain ⟨g,hg,hr⟩:=hc.blk i _ hlive;have hjn:μ j=none:=hc.idsFree j (BG.1 hj1);have hij:i≠j:=λe=>by rw [e,hjn] at hg;cases hg
 obtain ⟨ν,hν⟩:∃ν:Mu,ν=λk=>if k=j then some g else μ k:=⟨_,rfl⟩
 have hνj:ν j=some g:=by rw [hν];simp
 have hνo:∀k,k≠j->ν k=μ k:=λk hk=>by rw [hν];simp [hk]
 have hle:μ.le ν:=λk v hk=>by
  have:k≠j:=λe=>by rw [e,hjn] at hk;cases hk
  rw [hνo k this];exact hk
 have hst:∀k bk,Az ((j,some blk)::(i,none)::st) k bk->(k=j/\bk=blk)\/(k≠j/\k≠i/\Az st k bk):=λk bk h=>by
  rcases A9.1 h with h | ⟨h1,h⟩
  ·exact .inl h
  ·obtain ⟨h2,h3⟩:=BL.1 h;exact .inr ⟨h1,h2,h3⟩
 have hE:Ext I μ st w I ν ((j,some blk)::(i,none)::st) w :=
  {imm:=Imm.le_refl I,os:=rfl,tape:=rfl,output:=rfl,size:=B8 _,block:=λ_ _ _=>rfl
   fresh:=λk _ ⟨x,bx,gx,h1,h2,h3⟩=>by
    rcases hst x bx h1 with ⟨rfl,rfl⟩ | ⟨q1,_,q3⟩
    ·rw [hνj] at h2;cases h2;exact ⟨i,_,_,hlive,hg,h3⟩
    ·exact ⟨x,bx,gx,q3,by rw [<- hνo x q1];exact h2,h3⟩
   old:=λ_ _ _=>rfl }
 have hc':Conc n I ν env ((j,some blk)::(i,none)::st) ids' a w :=
  {imm:=hc.imm
   blk:=λk bk hk=>by
    rcases hst k bk hk with ⟨rfl,rfl⟩ | ⟨q1,_,q3⟩
    ·exact ⟨g,hνj,hr.mono (Imm.le_refl I) hle⟩
    ·obtain ⟨g',h1,h2⟩:=hc.blk k bk q3;exact ⟨g',hle _ _ h1,h2.mono (Imm.le_refl I) hle⟩
   apart:=λk bk gk m hk hgk hm=>by
    rcases hst k bk hk with ⟨rfl,rfl⟩ | ⟨q1,_,q3⟩
    ·rw [hνj] at hgk;cases hgk;exact hc.apart i _ _ m hlive hg hm
    ·exact hc.apart k bk gk m q3 (by rw [<- hνo k q1];exact hgk) hm
   inj:=λk k' bk bk' gk gk' m hk hk' hgk hgk' hm hm'=>by
    rcases hst k bk hk with ⟨rfl,rfl⟩ | ⟨q1,p1,q3⟩ <;> rcases hst k' bk' hk' with ⟨rfl,rfl⟩ | ⟨q1',p1',q3'⟩
    ·rfl
    ·rw [hνj] at hgk;cases hgk;exact absurd (hc.inj k' i bk' _ gk' _ m q3' hlive (by rw [<- hνo k' q1'];exact hgk') hg hm' hm) p1'
    ·rw [hνj] at hgk';cases hgk';exact absurd (hc.inj k i bk _ gk _ m q3 hlive (by rw [<- hνo k q1];exact hgk) hg hm hm') p1
    ·exact hc.inj k k' bk bk' gk gk' m q3 q3' (by rw [<- hνo k q1];exact hgk) (by rw [<- hνo k' q1'];exact hgk') hm hm'
   nodup:=Hz hj2
   idsFree:=λk hk=>by
    have h1:=hc.idsFree k (EZ hj3 k hk);have:k≠j:=λe=>by rw [<- e] at hj4;rw [BG.2 hk] at hj4;cases hj4
    rw [hνo k this];exact h1
   size:=hc.size
   env:=λt d hlt=>(hc.env t d hlt).mono (Imm.le_refl I) hle
   defers:=hc.defers.ext hE }
 exact (h b cs I ν a w items hd hc').mono λe' a' w' hp=>hp.back (.of_le hle) hE
inductive Yields (P:Program):List D->Bun->Bool->Bun->Prop where
 | nil (S:Bun):Yields P [] S true S
 | cons {d:D} {l:List D} {S S1 S2:Bun} {r:Bool} (h:Ns P [d] S true S1) (h1:Yields P l S1 r S2):Yields P (d::l) S r S2
 | stop {d:D} {l:List D} {S S1:Bun} (h:Ns P [d] S false S1):Yields P (d::l) S false S1
theorem Yields.split {l m:List D} {S S2:Bun} {r:Bool} (h:Yields P (l++m) S r S2):(∃S1,Yields P l S true S1/\Yields P m S1 r S2)\/(r=false/\Yields P l S false S2):=by
 induction l generalizing S with
 | nil=>exact .inl ⟨S,.nil S,h⟩
 | cons d l ih =>
  cases h with
  | cons h h1 =>
   rcases ih h1 with ⟨S1,q1,q2⟩ | ⟨q1,q2⟩
   ·exact .inl ⟨S1,.cons h q1,q2⟩
   ·exact .inr ⟨q1,.cons h q2⟩
  | stop h=>exact .inr ⟨rfl,.stop h⟩
theorem Yields.nilInv {S S2:Bun} {r:Bool} (h:Yields P [] S r S2):r=true/\S2=S:=by
 cases h;exact ⟨rfl,rfl⟩
theorem Yields.all {l:List D} (S:Nat->Bun) (h:∀i d,l[i]?=some d->Ns P [d] (S i) true (S (i+1))):Yields P l (S 0) true (S l.length):=by
 have:∀(l:List D) (k:Nat),(∀i d,l[i]?=some d->Ns P [d] (S (k+i)) true (S (k+i+1)))->Yields P l (S k) true (S (k+l.length)):=by
  intro l
  induction l with
  | nil=>intro k _;exact .nil _
  | cons d l ih =>
   intro k h;have:=ih (k+1) λi d hi=>by
    have:=h (i+1) d (by simpa using hi)
    rwa [show k+1+i=k+(i+1) by omega]
   rw [show k+1+l.length=k+(d::l).length by simp;omega] at this;exact .cons (h 0 d rfl) this
 have:=this l 0 λi d hi=>by simpa using h i d hi
 simpa using this
end
end Go.Hk
namespace Go.Hk
open Go.Proofs
def xH:TT:=oC++[
 (270,⟨.ptr 182,false,1,8,[.imm .nilp]⟩),
 (235,⟨.ptr 9,false,1,8,[.imm .nilp]⟩),
 (233,⟨.func,false,1,8,[.imm .nilfn]⟩),
 (232,⟨.func,false,1,8,[.imm .nilfn]⟩),
 (268,⟨.func,false,1,8,[.imm .nilfn]⟩),
 (312,⟨.func,false,1,8,[.imm .nilfn]⟩),
 (230,⟨.ptr 49,false,1,8,[.imm .nilp]⟩)]
theorem tA:TTok Tryz.prog xH:=.of_eq (l:=[4,3,9,49,25,182,45,47,5,23,22,73,46,180,71,43,178,40,41,113,111,28,293,195,1,139,296,190,183,185,187,26,246,191,270,235,233,232,268,312,230]) (by kernel_rfl)
section
variable {n:Nat} {F:List Nat} {Q:DQ} {env env':Env} {st st':St} {ids ids':List Nat} {k todo:List DI} {ob:List Prop}
theorem nd (path:List Pt) (h:run xH n 300 path todo env st ids [] = .at k env' st' ids' ob) (hob:AB ob) (hd:G Tryz.prog n F Q k env' st' ids'):DGo Tryz.prog n F Q todo env st ids:=KK tA Fb 300 path h hob hd
theorem ndqq (h:run xH n 300 [] todo env st ids [] = .at k env' st' ids' ob) (hd:G Tryz.prog n F Q k env' st' ids') (hob:AB ob:=by simp):DGo Tryz.prog n F Q todo env st ids:=nd [] h hob hd
theorem ndqc (h:run xH n 300 [] todo env st ids [] = .at k env' st' ids' ob) (hd:G Tryz.prog n F Q k env' st' ids') (hob:AB ob:=by simp [Am]):DGo Tryz.prog n F Q todo env st ids:=nd [] h hob hd
end
def Ky:Ty->Str
 | .mk _ _ x _=>x
end Go.Hk
namespace Go.Hk
open Go.Proofs
section
variable {n:Nat} {F:List Nat} {Q:DQ} {env env':Env} {st st':St} {ids ids':List Nat} {k todo:List DI} {ob:List Prop}
end
theorem J5 (l m:List Str) (x:Str):BO (l++m) x=(BO l x||BO m x):=by
 induction l with
 | nil=>simp [BO]
 | cons y r ih=>simp [BO,ih,TH]
theorem Yields.pre {P:Program} {l:List D} {d:D} {m:List D} {S S':Bun} (h:∀x∈l,Ns P [x] S true S) (h1:Ns P [d] S false S'):Yields P (l++d::m) S false S':=by
 induction l with
 | nil=>exact .stop h1
 | cons x r ih=>exact .cons (h x (by simp)) (ih λy hy=>h y (by simp [hy]))
end Go.Hk
namespace Go.Hk
open Go.Proofs
section
variable {n:Nat} {F:List Nat} {Q:DQ} {env env':Env} {st st':St} {ids ids':List Nat} {k todo:List DI} {ob:List Prop}
end
end Go.Hk
namespace Go.Hk
theorem N9 {α:Type} {sz f:Nat} {ys:List α}:∀(es:List (List α)) (k:Nat) (c:List α),(∀e∈es,e.length=sz)->es[k]?=some c->f+ys.length<=sz ->
  (es.set k (c.take f++ys++c.drop (f+ys.length))).flatten=es.flatten.take (k*sz+f)++ys++es.flatten.drop (k*sz+f+ys.length)
 | [],_,_,_,h,_=>by simp at h
 | e::r,0,c,hs,h,hf=>by
  simp at h;subst h;have he:=hs e (by simp);simp only [List.set_cons_zero,Jo,Nat.zero_mul,Di];rw [List.take_append_of_le_length (by omega),List.drop_append_of_le_length (by omega)];simp
 | e::r,k+1,c,hs,h,hf=>by
  have he:=hs e (by simp);have ih:=N9 r k c (λe h=>hs e (by simp [h])) (by simpa using h) hf;simp only [List.set_cons_succ,Jo,ih];have e1:(k+1)*sz+f=e.length+(k*sz+f):=by rw [he,PJ];omega
  rw [e1,V0 e.length,List.take_length_add_append,List.drop_length_add_append];simp
theorem RepVL.splice {I:Imm} {vs ns:List Value} {xs ys:List V} (h:RepVL I vs xs) (k:RepVL I ns ys) (off:Nat):RepVL I (vs.take off++ns++vs.drop (off+ns.length)) (xs.take off++ys++xs.drop (off+ys.length)):=by
 have app:∀{a b:List Value} {x y:List V},RepVL I a x->RepVL I b y->RepVL I (a++b) (x++y):=λ{a b x y} p q =>
  ⟨by simp [p.1,q.1],λi v z h1 h2=>by
   rw [Le] at h1 h2;by_cases hi:i<a.length
   ·rw [if_pos hi] at h1;rw [if_pos (by rw [<- p.1];exact hi)] at h2;exact p.2 i v z h1 h2
   ·rw [if_neg hi] at h1;rw [if_neg (by rw [<- p.1];exact hi),<- p.1] at h2;exact q.2 _ v z h1 h2⟩
 refine app (app ⟨by simp [h.1],λi v z h1 h2=>?_⟩ k) ⟨by simp [h.1,k.1],λi v z h1 h2=>?_⟩
 ·rw [Dr] at h1 h2;by_cases hi:i<off
  ·rw [if_pos hi] at h1 h2;exact h.2 i v z h1 h2
  ·rw [if_neg hi] at h1;cases h1
 ·rw [EB] at h1 h2;rw [k.1] at h1;exact h.2 _ v z h1 h2
structure POi where
 id:Nat
 es:List (List V)
 m:Int
 sz:Nat
 g:Option (Bool×Bool)
 ob:List Prop
 t:Nat
 todo:List DI
def rW (tt:TT) (n:Nat) (env:Env) (st:St) (todo:List DI):Option POi :=
 match Bh todo ([],[]) with
 | some (all,o,_)=>match o.op,Ca all env o with
  | .indexAddr t x i,some g=>match lk tt t,Lq (Am g) env x,Lq (Am g) env i with
   | some { sh:=.sl e,.. },some (.own id _,o1),some (.imm (.int _ m),o2)=>match lk tt e,lk st id,o.dst,BB n o.dst,Bh todo ([id],[]) with
    | some ti,some (some (.row _ sz es)),some t',true,some (_,_,todo')=>match Nat.beq sz ti.size with
     | true=>some ⟨id,es,m,sz,g,Is o1 o2,t',todo'⟩
     | false=>none
    | _,_,_,_,_=>none
   | _,_,_=>none
  | _,_=>none
 | none=>none
structure POl where
 id:Nat
 es:List (List V)
 k:Nat
 f:Nat
 sz:Nat
 i:TyI
 g:Option (Bool×Bool)
 ob:List Prop
 t:Nat
 todo:List DI
def iL (tt:TT) (n:Nat) (env:Env) (st:St) (todo:List DI):Option POl :=
 match Bh todo ([],[]) with
 | some (all,o,_)=>match o.op,Ca all env o with
  | .load t x,some g=>match lk tt t,Lq (Am g) env x with
   | some i,some (.elp id k sz f,o1)=>match lk st id,o.dst,BB n o.dst,Bh todo ([id],[]) with
    | some (some (.row _ sz' es)),some t',true,some (_,_,todo')=>match Nat.beq sz sz' with
     | true=>some ⟨id,es,k,f,sz,i,g,o1,t',todo'⟩
     | false=>none
    | _,_,_,_=>none
   | _,_=>none
  | _,_=>none
 | none=>none
structure POs where
 id:Nat
 e:TypeId
 es:List (List V)
 k:Nat
 f:Nat
 sz:Nat
 ys:List V
 n:Nat
 ob:List Prop
 todo:List DI
def Z4 (tt:TT) (env:Env) (st:St) (todo:List DI):Option POs :=
 match Bh todo ([],[]) with
 | some (_,o,_)=>match o.guard,o.dst,o.op with
  | none,none,.store t p x=>match lk tt t,DT env p,DT env x with
   | some i,some (.elp id k sz f),some dx=>match lk st id,Bh todo ([id],[id]),elemOf i.size dx with
    | some (some (.row e sz' es)),some (_,_,todo'),some (ys,ob)=>match Nat.beq sz sz' with
     | true=>some ⟨id,e,es,k,f,sz,ys,i.size,ob,todo'⟩
     | false=>none
    | _,_,_=>none
   | _,_,_=>none
  | _,_,_=>none
 | none=>none
section
variable {P:Program} {n:Nat} {F:List Nat} {Q:DQ} {tt:TT} {env env':Env} {st st':St} {ids ids':List Nat} {k todo todo':List DI} {I:Imm} {μ:Mu} {w:World} {a:Act} {Pn:V->Prop} {d:D} {cx:Prop} {ob:List Prop}
theorem I3 {f f':List Nat×List Nat} {all all':List Oper} {o o':Oper} (h:Bh todo f=some (all,o,k)) (h':Bh todo f'=some (all',o',todo')):all'=all/\o'=o:=by
 rcases HV h with ⟨r,q,rfl,_⟩ | ⟨r,fs,q,rfl,_⟩
 ·simp [Bh] at h';exact ⟨h'.1.symm,h'.2.1.symm⟩
 ·simp [Bh] at h';exact ⟨h'.1.symm,h'.2.1.symm⟩
theorem Xk {id:Nat} {e:TypeId} {sz:Nat} {es:List (List V)} (hst:StRep I μ st ids w) (hl:Az st id (.row e sz es)) (hne:es≠[]) :
  ∃b cap cur,μ id=some (.slice (some ⟨b,0,none⟩) es.length cap)/\w.heap[b]?=some (.cells cur e (0,0))/\es.length<=cap/\cap<=maxLen/\cur.size=cap*sz /\
   RepVL I (cur.toList.take (es.length*sz)) es.flatten/\(∀c∈es,c.length=sz)/\(∀c∈es,∀x∈c,V.one x=true)/\0<sz:=by
 obtain ⟨g,hg,xs,⟨_,hown⟩,hrep,hsz,hone,hp⟩:=hst.blk id _ hl;rcases hown with ⟨_,h0⟩ | ⟨b,cap,cur,rfl,_,h2,h3,h4,h5,h6⟩
 ·exact absurd (K5 h0) hne
 ·rw [<- h6] at hrep;exact ⟨b,cap,cur,hg,h2,h3,h4,h5,hrep,hsz,hone,hp⟩
theorem EN (htt:TTok P tt) {c:POi} (h:rW tt n env st todo=some c) (hc:Am c.g->0<=c.m/\c.m<c.es.length) (hob:AB c.ob)
  (hk:G P n F Q c.todo ((c.t,gD c.g (.elp c.id c.m.toNat c.sz 0))::env) st ids):G P n F Q todo env st ids:=by
 unfold rW at h
 split at h
 ·rename_i all o todo0 h0
  split at h
  ·rename_i t x i g hop hg
   split at h
   ·rename_i e _ _ _ _ id ln o1 kk m o2 ht hx hi
    split at h
    ·rename_i ti e' sz es t' all' o' todo' hti hl hdst hd h1
     split at h
     ·rename_i hsz;cases h;obtain ⟨rfl,rfl⟩:=I3 h0 h1;have hk:G P n F Q todo' (BD o'.dst (gD g (.elp id m.toNat sz 0)) env) st ids:=by rw [hdst];exact hk
      refine B9 (fr:=[]) (wr:=[]) (rd:=[id]) h1 (Dl hg λI μ st1 ids1 a w hag hst hops hcx=>?_) (by rw [hdst] at hd ⊢;exact hd) (λc hc=>by rw [hop] at hc;cases hc) hk;rw [hop] at hops;obtain ⟨ho1,ho2⟩:=Bu hob;have rx:=DK hx ho1 hcx (hops x (by simp [Op.operands]));have ri:=(DK hi ho2 hcx (hops i (by simp [Op.operands]))).immInv.intInv;obtain ⟨c0,c1⟩:=hc hcx;simp only at c0 c1;have hl1:Az st1 id (.row e' sz es):=by unfold Az;rw [hag id (by simp)];exact hl
      obtain ⟨b,cap,cur,hmu,hheap,hcap,hcm,hcs,hrep,hlen,hone,hp⟩:=Xk hst hl1 (by rintro rfl;simp at c1;omega);have hs:=Cx hsz;subst hs;have hu:P.underlying t=some (.slice e):=htt.sh ht;simp only [execOp,hop,ri];generalize hv:a.eval x=v at rx;cases rx with
      | own _ _ ad cp hm =>
       rw [hm] at hmu;cases hmu;have hr:=MW (w:=w) hu (htt e ti hti) (b:=b) (off:=0) (len:=es.length) (cap:=cap) (kk:=kk) c0 (by omega);have hrun:(do pure (.value (<- Instr.indexAt t (.slice (some ⟨b,0,none⟩) es.length cap) (.int kk m))):Sem Next).run P w = .ok (.value (.pointer (some ⟨b,0+m.toNat*ti.size,none⟩))) w:=A6 hr;rw [hrun,Di];exact ⟨I,μ,hst,.elp b id _ cap m.toNat ti.size 0 hm,Mu.le_refl μ,Ext.refl _ _ _ _⟩
     ·cases h
    ·cases h
   ·cases h
  ·cases h
 ·cases h
theorem OL (htt:TTok P tt) {c:POl} {e:List V} {d:D} (h:iL tt n env st todo=some c) (hc:Am c.g->c.es[c.k]?=some e) (hd:LQ c.i (Nat.beq c.sz c.i.size) e c.f=some d) (hob:AB c.ob)
  (hk:G P n F Q c.todo ((c.t,gD c.g d)::env) st ids):G P n F Q todo env st ids:=by
 unfold iL at h
 split at h
 ·rename_i all o todo0 h0
  split at h
  ·rename_i t x g hop hg
   split at h
   ·rename_i i id kk sz f o1 ht hx
    split at h
    ·rename_i e' sz' es t' all' o' todo' hl hdst hd' h1
     split at h
     ·rename_i hsz;cases h;obtain ⟨rfl,rfl⟩:=I3 h0 h1;have hk:G P n F Q todo' (BD o'.dst (gD g d) env) st ids:=by rw [hdst];exact hk
      refine B9 (fr:=[]) (wr:=[]) (rd:=[id]) h1 (Dl hg λI μ st1 ids1 a w hag hst hops hcx=>?_) (by rw [hdst] at hd' ⊢;exact hd') (λc hc=>by rw [hop] at hc;cases hc) hk;rw [hop] at hops;have rx:=DK hx hob hcx (hops x (by simp [Op.operands]));have c1:=hc hcx;simp only at c1;have hs:=Cx hsz;subst hs;have hl1:Az st1 id (.row e' sz es):=by unfold Az;rw [hag id (by simp)];exact hl
      obtain ⟨b,cap,cur,hmu,hheap,hcap,hcm,hcs,hrep,hlen,hone,hp⟩:=Xk hst hl1 (by rintro rfl;simp at c1);have he:=hlen e (AF c1);simp only [execOp,hop];generalize hv:a.eval x=v at rx;cases rx with
      | elp _ _ ln cp _ _ _ hm =>
       rw [hm] at hmu;cases hmu;have hcell:∀j y,e[j]?=some y->∃u,cur[kk*sz+j]?=some u/\RepV I u y/\u.oneCell'=true:=by
        intro j y hj;have h1:=Cu hlen kk e j y c1 hj;have hlt:kk*sz+j<(cur.toList.take (es.length*sz)).length:=by rw [hrep.1];exact (AJ.1 h1).1
        have h2:=Bi hlt;have h3:=hrep.2 _ _ _ h2 h1;refine ⟨_,?_,h3,h3.one (hone e (AF c1) y (AF hj))⟩;rw [Dr] at h2
        split at h2
        ·simp
        ·cases h2
       obtain ⟨u,q1,q2⟩:=LP (P:=P) (w:=w) (I:=I) (μ:=μ) (htt t i ht) (b:=b) (o:=kk*sz) (off:=f) (xs:=e) (vs:=λj=>(cur[kk*sz+j]?).getD undef) (same:=Nat.beq sz i.size)
        (λj y hj=>by
         obtain ⟨u,k1,k2,k3⟩:=hcell j y hj;refine ⟨?_,by simp [k1,k3]⟩;rw [E5 hheap (kk*sz+j) u (by simpa using k1)];simp [k1])
        (λj y hj=>by
         obtain ⟨u,k1,k2,k3⟩:=hcell j y hj;simpa [k1] using k2)
        (λ_ hs _=>by rw [he];exact Cx hs) hd
       have hrun:(do pure (.value (<- Instr.loadAt t (.pointer (some ⟨b,kk*sz+f,none⟩)))):Sem Next).run P w = .ok (.value u) w:=A6 q1;rw [hrun];exact ⟨I,μ,hst,q2,Mu.le_refl μ,Ext.refl _ _ _ _⟩
     ·cases h
    ·cases h
   ·cases h
  ·cases h
 ·cases h
theorem Ii (htt:TTok P tt) {c:POs} {e e':List V} (h:Z4 tt env st todo=some c) (hc:c.es[c.k]?=some e) (hf:c.f+c.n<=c.sz) (he':e'=e.take c.f++c.ys++e.drop (c.f+c.n)) (hob:AB c.ob)
  (hk:G P n F Q c.todo env ((c.id,some (.row c.e c.sz (c.es.set c.k e')))::st) ids):G P n F Q todo env st ids:=by
 unfold Z4 at h
 split at h
 ·rename_i all o todo0 h0
  split at h
  ·rename_i t p x hgd hdst hop
   split at h
   ·rename_i i id kk sz f dx ht hp hx
    split at h
    ·rename_i ty sz' es all' o' todo' ys ob hl h1 hel
     split at h
     ·rename_i hsz;cases h;obtain ⟨rfl,rfl⟩:=I3 h0 h1;have hs:=Cx hsz;subst hs;simp only at hc hf he' hob hk;have hk:G P n F Q todo' (BD o'.dst .undef env) ([(id,some (.row ty sz (es.set kk e')))]++st) ids:=by rw [hdst];exact hk
      refine B9 (fr:=[]) (wr:=[(id,some (.row ty sz (es.set kk e')))]) (rd:=[id]) h1 ?_ (by simp [BB,hdst]) (λc hc=>by rw [hop] at hc;cases hc) hk;intro I μ st1 ids1 a w hag hst hon;refine ⟨λ_=>?_,λhw=>by rw [AG hgd] at hw;cases hw⟩;have hops:=Bd hon;rw [hop] at hops;have rp:=hops p (by simp [Op.operands]) _ hp;obtain ⟨r1,r2,r3,r4⟩:=Q4 hel (hops x (by simp [Op.operands]) _ hx) hob;have hl1:Az st1 id (.row ty sz es):=by unfold Az;rw [hag id (by simp)];exact hl
      obtain ⟨b,cap,cur,hmu,hheap,hcap,hcm,hcs,hrep,hlen,hone,hpos⟩:=Xk hst hl1 (by rintro rfl;simp at hc);have hkl:=(AJ.1 hc).1;have hfit:kk*sz+f+i.size<=es.length*sz:=by
       have:(kk+1)*sz<=es.length*sz:=Yc _ hkl;rw [PJ] at this;omega
      have hcapz:es.length*sz<=cap*sz:=Yc _ hcap;generalize hv:a.eval p=v at rp;cases rp with
      | elp _ _ ln cp _ _ _ hm =>
       rw [hm] at hmu;cases hmu;have hvl:(a.eval x).cells.toList.length=i.size:=by simpa using r2
       have hrun:(execOp a.eval o').run P w = .ok .skip (w.setRow b (cur.toList.take (kk*sz+f)++(a.eval x).cells.toList++cur.toList.drop (kk*sz+f+(a.eval x).cells.toList.length)).toArray):=by
        simp only [execOp,hop,hv,Sem.run_bind,KR (htt t i ht) hheap r2 r4 (show kk*sz+f+(a.eval x).cells.toList.length<=cur.size by rw [hvl];omega),Result.andThen_ok,Sem.run_pure]
       rw [hrun];have hcl:cur.toList.length=cap*sz:=by simpa using hcs
       have hnew:BlkRep I μ (w.setRow b (cur.toList.take (kk*sz+f)++(a.eval x).cells.toList++cur.toList.drop (kk*sz+f+(a.eval x).cells.toList.length)).toArray) (.slice (some ⟨b,0,none⟩) es.length cap) (.row ty sz (es.set kk e')):=by
        subst he';have hys:ys.length=i.size:=r3;have e1:=N9 (ys:=ys) es kk e hlen hc (by rw [hys];exact hf);rw [hys] at e1;have e2:(cur.toList.take (kk*sz+f)++(a.eval x).cells.toList++cur.toList.drop (kk*sz+f+(a.eval x).cells.toList.length)).take (es.length*sz) =
          (cur.toList.take (es.length*sz)).take (kk*sz+f)++(a.eval x).cells.toList++(cur.toList.take (es.length*sz)).drop (kk*sz+f+(a.eval x).cells.toList.length):=by
         rw [hvl,CE,Vy,Vy,jU,jU,Gx,hvl,CE];rw [Sn (by omega:kk*sz+f<=cur.toList.length),Nat.min_eq_right (by omega:kk*sz+f<=es.length*sz),Sn (by omega:kk*sz+f<=es.length*sz)];rw [CD (l:=(a.eval x).cells.toList) (by omega),List.drop_take];congr 3;omega
        have hR:=RepVL.splice hrep r1 (kk*sz+f);rw [hvl,hys] at hR;rw [hvl] at e2;have CA:(es.set kk (e.take f++ys++e.drop (f+i.size))).length=es.length:=by simp
        refine ⟨_,⟨?_,.inr ⟨b,cap,_,by rw [CA],AL _,setRow_heap w b cur _ ty _ hheap,by rw [CA];exact hcap,hcm,?_,rfl⟩⟩,?_,?_,?_,hpos⟩
        ·simp;omega
        ·simp;omega
        ·rw [CA,hvl,LL,e2];exact e1 ▸ hR
        ·intro c hc';rcases kF hc' with h | h
         ·exact hlen c h
         ·rw [h];have:=hlen e (AF hc);simp [hys];omega
        ·intro c hc' y hy;rcases kF hc' with h | h
         ·exact hone c h y hy
         ·rw [h] at hy;have h5:=hone e (AF hc);rcases BH.1 hy with hy | hy
          ·rcases BH.1 hy with hy | hy
           ·exact h5 y (LO hy)
           ·obtain ⟨j,hj⟩:=D3.1 hy;have hjl:j<(a.eval x).cells.toList.length:=by rw [r1.1];exact (AJ.1 hj).1
            exact (r1.2 j _ y (Bi hjl) hj).oneV (r4 _ (HZ _))
          ·exact h5 y (PN hy)
       obtain ⟨q1,q2⟩:=hst.update (id:=id) (blk:=.row ty sz es) (g:=.slice (some ⟨b,0,none⟩) es.length cap) (b:=b) hl1 hm rfl (w':=w.setRow b _) (setRow_size w b _) rfl rfl rfl (λk hk=>setRow_other w b k _ hk) hnew;exact ⟨I,μ,q1,.undef _,Mu.le_refl μ,q2⟩
     ·cases h
    ·cases h
   ·cases h
  ·cases h
 ·cases h
end
end Go.Hk
namespace Go.Hk
def noMu:Mu:=λ_=>none
theorem pI (μ:Mu):noMu.le μ:=λ_ _ h=>by cases h
def OT (I:Imm) (w:World) (b off:Nat) (ds:List D):Prop :=
 ∃vs t k,w.heap[b]?=some (.cells vs t k)/\∀j d,ds[j]?=some d->∃c,vs[off+j]?=some c/\c.oneCell'=true/\RepD I noMu c d
structure PRi where
 a:Addr
 len:Nat
 m:Int
 sz:Nat
 g:Option (Bool×Bool)
 ob:List Prop
 t:Nat
 todo:List DI
def rV (tt:TT) (n:Nat) (env:Env) (todo:List DI):Option PRi :=
 match Bh todo ([],[]) with
 | some (all,o,todo')=>match o.op,Ca all env o with
  | .indexAddr t x i,some g=>match lk tt t,Lq (Am g) env x,Lq (Am g) env i with
   | some { sh:=.sl e,.. },some (.raw (.slice (some a) len _),o1),some (.imm (.int _ m),o2)=>match lk tt e,o.dst,BB n o.dst with
    | some ti,some t',true=>some ⟨a,len,m,ti.size,g,Is o1 o2,t',todo'⟩
    | _,_,_=>none
   | _,_,_=>none
  | _,_=>none
 | none=>none
structure PRl where
 b:Nat
 off:Nat
 i:TyI
 g:Option (Bool×Bool)
 ob:List Prop
 t:Nat
 todo:List DI
def iK (tt:TT) (n:Nat) (env:Env) (id:Nat) (todo:List DI):Option PRl :=
 match Bh todo ([id],[]) with
 | some (all,o,todo')=>match o.op,Ca all env o with
  | .load t x,some g=>match lk tt t,Lq (Am g) env x with
   | some i,some (.raw (.pointer (some ⟨b,off,none⟩)),o1)=>match o.dst,BB n o.dst with
    | some t',true=>some ⟨b,off,i,g,o1,t',todo'⟩
    | _,_=>none
   | _,_=>none
  | _,_=>none
 | none=>none
section
variable {P:Program} {n:Nat} {F:List Nat} {Q:DQ} {tt:TT} {env env':Env} {st st':St} {ids ids':List Nat} {k todo todo':List DI} {I:Imm} {μ:Mu} {w:World} {a:Act} {Pn:V->Prop} {d:D} {cx:Prop} {ob:List Prop}
theorem RepD.rawInv {v u:Value} (h:RepD I μ v (.raw u)):v=u:=by cases h;rfl
theorem Me (htt:TTok P tt) {c:PRi} (h:rV tt n env todo=some c) (hs:c.a.spot=none) (hc:Am c.g->0<=c.m/\c.m<c.len) (hob:AB c.ob)
  (hk:G P n F Q c.todo ((c.t,gD c.g (.raw (.pointer (some ⟨c.a.block,c.a.off+c.m.toNat*c.sz,none⟩))))::env) st ids):G P n F Q todo env st ids:=by
 unfold rV at h
 split at h
 ·rename_i all o todo' h1
  split at h
  ·rename_i t x i g hop hg
   split at h
   ·rename_i e _ _ _ _ ad len cap o1 kk m o2 ht hx hi
    split at h
    ·rename_i ti t' hti hdst hd;cases h;obtain ⟨b,off,spot⟩:=ad;simp only at hs;subst hs;have hk:G P n F Q todo' (BD o.dst (gD g (.raw (.pointer (some ⟨b,off+m.toNat*ti.size,none⟩)))) env) st ids:=by rw [hdst];exact hk
     refine B9 (fr:=[]) (wr:=[]) (rd:=[]) h1 (Dl hg λI μ st1 ids1 a w _ hst hops hcx=>?_) (by rw [hdst] at hd ⊢;exact hd) (λc hc=>by rw [hop] at hc;cases hc) hk;rw [hop] at hops;obtain ⟨ho1,ho2⟩:=Bu hob;have rx:=(DK hx ho1 hcx (hops x (by simp [Op.operands]))).rawInv;have ri:=(DK hi ho2 hcx (hops i (by simp [Op.operands]))).immInv.intInv;obtain ⟨c0,c1⟩:=hc hcx;have hu:P.underlying t=some (.slice e):=htt.sh ht;simp only [execOp,hop,ri,rx];have hr:=MW (w:=w) hu (htt e ti hti) (b:=b) (off:=off) (len:=len) (cap:=cap) (kk:=kk) c0 c1
     have hrun:(do pure (.value (<- Instr.indexAt t (.slice (some ⟨b,off,none⟩) len cap) (.int kk m))):Sem Next).run P w = .ok (.value (.pointer (some ⟨b,off+m.toNat*ti.size,none⟩))) w:=A6 hr;rw [hrun];exact ⟨I,μ,hst,.raw _ rfl,Mu.le_refl μ,Ext.refl _ _ _ _⟩
    ·cases h
   ·cases h
  ·cases h
 ·cases h
theorem pQ {t:TypeId} {i:TyI} (hi:TyOk P t i) {b off:Nat} {ds:List D} {d:D} (h:OT I w b off ds) (hl:ds.length=i.size) (hd:He i true ds 0=some d) (μ:Mu) :
  ∃v,(Instr.loadAt t (.pointer (some ⟨b,off,none⟩))).run P w = .ok v w/\RepD I μ v d:=by
 obtain ⟨vs,bt,kk,hheap,hcs⟩:=h;have hcell:∀(j:Nat),j<ds.length->∃c d,ds[j]?=some d/\vs[off+j]?=some c/\c.oneCell'=true/\RepD I μ c d:=λj hj=>by
  obtain ⟨c,h1,h2,h3⟩:=hcs j _ (Bi hj);exact ⟨c,_,Bi hj,h1,h2,h3.mono (Imm.le_refl I) (pI μ)⟩
 have hw:∀j,j<ds.length->w.cell? ⟨b,off+j,none⟩=some ((vs[off+j]?).getD undef):=λj hj=>by
  obtain ⟨c,d,_,h2,_⟩:=hcell j hj;rw [E5 hheap (off+j) c (by simpa using h2)];simp [h2]
 cases ha:i.agg with
 | true =>
  simp only [He,ha] at hd;cases hd;have hr:=JP hi b off (λj=>(vs[off+j]?).getD undef) (w:=w) (λj hj=>hw j (by omega)) (λhf=>by rw [ha] at hf;cases hf);rw [ha] at hr;simp only [if_true] at hr;refine ⟨_,hr,?_⟩;have:=GJ (I:=I) (μ:=μ) (vs:=(List.range i.size).map λj=>(vs[off+j]?).getD undef) (ds:=ds) ⟨by simp [hl],λj v d hv hd=>?_⟩ (λc hc=>?_)
  ·simpa using this
  ·rw [Eg] at hv;obtain ⟨c,d',h1,h2,_,h4⟩:=hcell j (AJ.1 hd).1;rw [h1] at hd;cases hd;cases hj:(List.range i.size)[j]? with
   | none=>rw [hj] at hv;cases hv
   | some q =>
    rw [hj] at hv;have:q=j:=by
     obtain ⟨h6,h7⟩:=AJ.1 hj;simpa using h7.symm
    subst this;cases hv;simpa [h2] using h4
  ·obtain ⟨j,hj,rfl⟩:=Cc.1 hc;obtain ⟨c,d',_,h2,h3,_⟩:=hcell j (by rw [hl];simpa using hj);simpa [h2] using h3
 | false =>
  simp only [He,ha] at hd;have hlt:0<ds.length:=by
   cases ds with
   | nil=>simp [Lp] at hd
   | cons=>simp
  have hr:=JP hi b off (λj=>(vs[off+j]?).getD undef) (w:=w) (λj hj=>hw j (by omega)) (λ_=>hw 0 hlt);rw [ha] at hr;simp only [Eo,if_false] at hr;obtain ⟨c,d',h1,h2,_,h4⟩:=hcell 0 hlt;rw [FJ,h1] at hd;cases hd;rw [HY] at h2;exact ⟨_,hr,by simpa [h2] using h4⟩
theorem aD (htt:TTok P tt) (id:Nat) {A:Asn} {c:PRl} (ds:List D) {d:D} (h:iK tt n env id todo=some c) (hl:lk st id=some (some (.hp A)))
  (hA:Am c.g->∀vs I w bs,A.P vs I w bs->OT I w c.b c.off ds) (hlen:ds.length=c.i.size) (hd:He c.i true ds 0=some d) (hob:AB c.ob)
  (hk:G P n F Q c.todo ((c.t,gD c.g d)::env) st ids):G P n F Q todo env st ids:=by
 unfold iK at h
 split at h
 ·rename_i all o todo' h1
  split at h
  ·rename_i t x g hop hg
   split at h
   ·rename_i i b off o1 ht hx
    split at h
    ·rename_i t' hdst hd';cases h;have hk:G P n F Q todo' (BD o.dst (gD g d) env) st ids:=by rw [hdst];exact hk
     refine B9 (fr:=[]) (wr:=[]) (rd:=[id]) h1 (Dl hg λI μ st1 ids1 a w hag hst hops hcx=>?_) (by rw [hdst] at hd' ⊢;exact hd') (λc hc=>by rw [hop] at hc;cases hc) hk;rw [hop] at hops;have rx:=(DK hx hob hcx (hops x (by simp [Op.operands]))).rawInv;have hl1:Az st1 id (.hp A):=by unfold Az;rw [hag id (by simp)];exact hl
     obtain ⟨gg,hg',us,bs,e1,e2⟩:=hst.blk id _ hl1;obtain ⟨v,q1,q2⟩:=pQ (P:=P) (htt t i ht) (hA hcx us I w bs e2) hlen hd μ;simp only [execOp,hop,rx];have hrun:(do pure (.value (<- Instr.loadAt t (.pointer (some ⟨b,off,none⟩)))):Sem Next).run P w = .ok (.value v) w:=A6 q1;rw [hrun];exact ⟨I,μ,hst,q2,Mu.le_refl μ,Ext.refl _ _ _ _⟩
    ·cases h
   ·cases h
  ·cases h
 ·cases h
end
end Go.Hk
namespace Go.Hk
def ND:List (Nat×Value×Blk)->St
 | []=>[]
 | (i,_,b)::r=>(i,some b)::ND r
def NE:List (Nat×Value×Blk)->List Nat
 | []=>[]
 | (i,_,_)::r=>i::NE r
def DP (new:List (Nat×Value×Blk)) (μ:Mu):Mu:=λi=>match lk new i with
 | some p=>some p.1
 | none=>μ i
def ZG (R:List Nat) (μ:Mu) (st:St) (b:Nat):Prop:=∃r blk g,r∈R/\Az st r blk/\μ r=some g/\Eb g b
section
variable {P:Program} {n:Nat} {F:List Nat} {Q:DQ} {tt:TT} {env env':Env} {st st':St} {ids ids':List Nat} {todo:List DI} {I J:Imm} {μ:Mu} {w:World} {a:Act} {d:D}
theorem XB {new:List (Nat×Value×Blk)} {i:Nat} {b:Blk} {st:St}:Az (ND new++st) i b->(∃g,(i,g,b)∈new/\lk new i=some (g,b))\/(lk new i=none/\Az st i b):=by
 induction new with
 | nil=>intro h;exact .inr ⟨rfl,h⟩
 | cons p r ih =>
  obtain ⟨k,g,x⟩:=p;intro h;simp only [ND,Db] at h;rcases A9.1 h with ⟨rfl,rfl⟩ | ⟨h1,h2⟩
  ·exact .inl ⟨g,by simp,Ay _ _ _⟩
  ·rw [A5 _ _ (λe=>h1 e.symm)];rcases ih h2 with ⟨g',q1,q2⟩ | h
   ·exact .inl ⟨g',by simp [q1],q2⟩
   ·exact .inr h
theorem Vs {new:List (Nat×Value×Blk)} {i:Nat}:lk new i=none↔i∉NE new:=by
 induction new with
 | nil=>simp [lk,NE]
 | cons p r ih =>
  obtain ⟨k,g,x⟩:=p;by_cases h:k=i
  ·subst h;rw [Ay];simp [NE]
  ·rw [A5 _ _ h,ih];simp [NE];exact λ_ e=>h e.symm
theorem StRep.relay {R:List Nat} {new:List (Nat×Value×Blk)} (hst:StRep I μ st (NE new++ids') w)
  (hown:∀p∈new,∀b,Eb p.2.1 b->ZG R μ st b) (hdisj:∀p∈new,∀q∈new,∀b,Eb p.2.1 b->Eb q.2.1 b->p.1=q.1)
  (hI:I.le J) (hJ:J.ok w) (hold:∀b o,J b=some o->I b=some o\/(ZG R μ st b/\∀p∈new,¬Eb p.2.1 b))
  (hrep:μ.le (DP new μ)->∀p∈new,BlkRep J (DP new μ) w p.2.1 p.2.2) :
  μ.le (DP new μ)/\StRep J (DP new μ) (ND new++(Cs R++st)) ids' w/\Ext I μ st w J (DP new μ) (ND new++(Cs R++st)) w:=by
 have hnd:=Hc.1 hst.nodup;have hle:μ.le (DP new μ):=λi v h=>by
  have:i∉NE new:=λhi=>by rw [hst.idsFree i (by simp [hi])] at h;cases h
  simp [DP,Vs.2 this,h]
 have hcase:∀{i b},Az (ND new++(Cs R++st)) i b->(∃g,(i,g,b)∈new/\DP new μ i=some g)\/(i∉R/\Az st i b/\DP new μ i=μ i):=by
  intro i b h;rcases XB h with ⟨g,q1,q2⟩ | ⟨q1,q2⟩
  ·exact .inl ⟨g,q1,by simp [DP,q2]⟩
  ·obtain ⟨h3,h4⟩:=Lj q2;exact .inr ⟨h3,h4,by simp [DP,q1]⟩
 have hold':∀{b},Bg μ st b->(∀r∈R,∀blk g,Az st r blk->μ r=some g->¬Eb g b)->J b=none:=by
  intro b ⟨i,blk,g,q1,q2,q3⟩ hR;have hI0:=(hst.apart i blk g b q1 q2 q3).1;cases hJb:J b with
  | none=>rfl
  | some o =>
   rcases hold b o hJb with h | ⟨⟨r,blk',g',k1,k2,k3,k4⟩,_⟩
   ·rw [hI0] at h;cases h
   ·exact absurd k4 (hR r k1 blk' g' k2 k3)
 have hE:Ext I μ st w J (DP new μ) (ND new++(Cs R++st)) w :=
  {imm:=hI,os:=rfl,tape:=rfl,output:=rfl,size:=B8 _,block:=λ_ _ _=>rfl
   fresh:=λb _ ⟨i,blk,g,q1,q2,q3⟩=>by
    rcases hcase q1 with ⟨g',k1,k2⟩ | ⟨_,k2,k3⟩
    ·rw [k2] at q2;cases q2;obtain ⟨r,blk',g',_,a2,a3,a4⟩:=hown _ k1 b q3;exact ⟨r,blk',g',a2,a3,a4⟩
    ·exact ⟨i,blk,g,k2,by rw [<- k3];exact q2,q3⟩
   old:=λb _ ho=>by
    cases hJb:J b with
    | none =>
     cases hIb:I b with
     | none=>rfl
     | some o=>rw [hI b o hIb] at hJb;cases hJb
    | some o =>
     rcases hold b o hJb with h | ⟨⟨r,blk,g,_,k2,k3,k4⟩,_⟩
     ·exact h.symm
     ·exact absurd ⟨r,blk,g,k2,k3,k4⟩ ho }
 refine ⟨hle,{ imm:=hJ,blk:=λi b hl=>?_,apart:=λi b g k hl hg hk=>?_,inj:=λi j bi bj gi gj k hi hj hgi hgj hki hkj=>?_,nodup:=hnd.2.1,idsFree:=λi hi=>?_ },hE⟩
 ·rcases hcase hl with ⟨g,k1,k2⟩ | ⟨_,k2,k3⟩
  ·exact ⟨g,k2,hrep hle _ k1⟩
  ·obtain ⟨g,q1,q2⟩:=hst.blk i b k2;exact ⟨g,by rw [k3];exact q1,q2.mono hI hle⟩
 ·rcases hcase hl with ⟨g',k1,k2⟩ | ⟨kR,k2,k3⟩
  ·rw [k2] at hg;cases hg;obtain ⟨r,blk',g',a1,a2,a3,a4⟩:=hown _ k1 k hk;obtain ⟨z1,z2⟩:=hst.apart r blk' g' k a2 a3 a4;refine ⟨?_,z2⟩;cases hJb:J k with
   | none=>rfl
   | some o =>
    rcases hold k o hJb with h | ⟨_,h⟩
    ·rw [z1] at h;cases h
    ·exact absurd hk (h _ k1)
  ·rw [k3] at hg;obtain ⟨z1,z2⟩:=hst.apart i b g k k2 hg hk;refine ⟨hold' ⟨i,b,g,k2,hg,hk⟩ λr hr blk' g' h1 h2 h3=>?_,z2⟩;exact kR (by rw [hst.inj i r b blk' g g' k k2 h1 hg h2 hk h3];exact hr)
 ·rcases hcase hi with ⟨g1,k1,k2⟩ | ⟨kR,k2,k3⟩
  ·rw [k2] at hgi;cases hgi;rcases hcase hj with ⟨g2,l1,l2⟩ | ⟨lR,l2,l3⟩
   ·rw [l2] at hgj;cases hgj;exact hdisj _ k1 _ l1 k hki hkj
   ·rw [l3] at hgj;obtain ⟨r,blk',g',a1,a2,a3,a4⟩:=hown _ k1 k hki;exact absurd (by rw [hst.inj j r bj blk' gj g' k l2 a2 hgj a3 hkj a4];exact a1) lR
  ·rw [k3] at hgi;rcases hcase hj with ⟨g2,l1,l2⟩ | ⟨lR,l2,l3⟩
   ·rw [l2] at hgj;cases hgj;obtain ⟨r,blk',g',a1,a2,a3,a4⟩:=hown _ l1 k hkj;exact absurd (by rw [hst.inj i r bi blk' gi g' k k2 a2 hgi a3 hki a4];exact a1) kR
   ·rw [l3] at hgj;exact hst.inj i j bi bj gi gj k k2 l2 hgi hgj hki hkj
 ·have:i∉NE new:=λh=>hnd.2.2 i h i hi rfl;simp only [DP,Vs.2 this];exact hst.idsFree i (by simp [hi])
theorem E2 (h:∀I μ a w,Conc n I μ env st ids a w->∃J ν env' st' ids',StRep J ν st' ids' w/\(∀t d,lk env' t=some d->RepD J ν (a.tmps.getD t undef) d)/\Ext I μ st w J ν st' w/\Pin F μ ν/\DGo P n F Q todo env' st' ids') :
  DGo P n F Q todo env st ids:=by
 intro b cs I μ a w items hd hc;obtain ⟨J,ν,env',st',ids',h1,h2,h3,h4,h5⟩:=h I μ a w hc;exact (h5 b cs J ν a w items hd { h1 with size:=hc.size,env:=h2,defers:=hc.defers.ext h3 }).mono λe a' w' hp=>hp.back h4 h3
theorem qW {α:Type} (id i j:Nat) {A:Asn} (B C:α->Asn) (hl:lk st id=some (some (.hp A)))
  (hA:∀vs I w bs,A.P vs I w bs->∃x b1 b2,(∀b∈b1,b∈bs)/\(∀b∈b2,b∈bs)/\(∀b∈b1,b∉b2)/\(B x).P [] I w b1/\(C x).P [] I w b2)
  (h:∀x,DGo P n F Q todo env ((i,some (.hp (B x)))::(j,some (.hp (C x)))::(id,none)::st) ids'):DGo P n F Q todo env st (i::j::ids'):=by
 refine E2 λI μ a w hc=>?_;obtain ⟨g,hg,vs,bs,rfl,hP⟩:=hc.blk id _ hl;obtain ⟨x,b1,b2,k1,k2,k3,k4,k5⟩:=hA vs I w bs hP;obtain ⟨q1,q2,q3⟩:=StRep.relay (R:=[id]) (new:=[(i,VU [] b1,.hp (B x)),(j,VU [] b2,.hp (C x))]) (ids':=ids') hc.toStRep
  (λp hp b hb=>by
   simp only [CC,KY,or_false] at hp;rcases hp with rfl | rfl
   ·exact ⟨id,_,_,by simp,hl,hg,Cq.2 (k1 b (Cq.1 hb))⟩
   ·exact ⟨id,_,_,by simp,hl,hg,Cq.2 (k2 b (Cq.1 hb))⟩)
  (λp hp q hq b e1 e2=>by
   simp only [CC,KY,or_false] at hp hq;rcases hp with rfl | rfl <;> rcases hq with rfl | rfl <;> first
    | rfl
    | exact absurd (Cq.1 e2) (k3 b (Cq.1 e1))
    | exact absurd (Cq.1 e1) (k3 b (Cq.1 e2))) (Imm.le_refl I) hc.imm (λb o h=>.inl h)
  (λ_ p hp=>by
   simp only [CC,KY,or_false] at hp;rcases hp with rfl | rfl
   ·exact ⟨[],b1,rfl,k4⟩
   ·exact ⟨[],b2,rfl,k5⟩)
 exact ⟨I,_,env,_,ids',q2,λt d hd=>(hc.env t d hd).mono (Imm.le_refl I) q1,q3,.of_le q1,h x⟩
mutual
def X7 (id:Nat) (vs:List Value):D->D
 | .hv i k=>match Nat.beq i id,Lp vs k with
  | true,some v=>.raw v
  | _,_=>.hv i k
 | .agg cs=>.agg (X6 id vs cs)
 | .tup cs=>.tup (X6 id vs cs)
 | d=>d
def X6 (id:Nat) (vs:List Value):List D->List D
 | []=>[]
 | d::r=>X7 id vs d::X6 id vs r
end
def cO (id:Nat) (vs:List Value):Env->Env
 | []=>[]
 | (t,d)::r=>(t,X7 id vs d)::cO id vs r
def wD (id:Nat) (vs:List Value):Blk->Blk
 | .cells t sz cs=>.cells t sz (X6 id vs cs)
 | b=>b
def Ri (id:Nat) (vs:List Value):St->St
 | []=>[]
 | (i,some b)::r=>(i,some (wD id vs b))::Ri id vs r
 | (i,none)::r=>(i,none)::Ri id vs r
theorem Iz (id:Nat) (vs:List Value):∀l:List D,X6 id vs l=l.map (X7 id vs)
 | []=>rfl
 | d::r=>by simp [X6,Iz id vs r]
theorem RepD.opn {id:Nat} {vs:List Value} {bs:List Nat} (hm:μ id=some (VU vs bs)) {v:Value} (h:RepD I μ v d):RepD I μ v (X7 id vs d):=by
 have at_:∀{l:List D} {i:Nat} {x:D},(X6 id vs l)[i]?=some x->∃y,l[i]?=some y/\x=X7 id vs y:=by
  intro l i x hx;rw [Iz,Eg] at hx;cases hl:l[i]? with
  | none=>rw [hl] at hx;cases hx
  | some y=>rw [hl] at hx;cases hx;exact ⟨y,rfl,rfl⟩
 induction h with
 | hv v i k us cs h hi h1 =>
  simp only [X7]
  split
  ·rename_i u he hu;rw [Cx he,hm] at h;have hvs:vs=us/\bs=cs:=by
    simp only [VU,BT,Value.tuple.injEq,Array.mk.injEq,Ep,Value.agg.injEq,and_true] at h;refine ⟨by simpa using h.1,?_⟩;have h2:=congrArg Array.toList h.2;simp only [T8] at h2;exact (List.map_inj_right (λx y e=>by simpa using e)).1 h2
   rw [FJ,hvs.1,hi] at hu;cases hu;exact .raw _ h1
  ·exact .hv v i k us cs h hi h1
 | agg cs ds hl h1 _ ih =>
  refine .agg cs _ (by rw [Iz,CW,hl]) h1 λi c x hc hx=>?_;obtain ⟨y,hy,rfl⟩:=at_ hx;exact ih i c y hc hy
 | tup cs ds hl _ ih =>
  refine .tup cs _ (by rw [Iz,CW,hl]) λi c x hc hx=>?_;obtain ⟨y,hy,rfl⟩:=at_ hx;exact ih i c y hc hy
 | undef v=>exact .undef v
 | imm v x hx=>exact .imm v x hx
 | nils=>exact .nils
 | ref b id off hm=>exact .ref b id off hm
 | ip b o t cs off vs hcell hrep=>exact .ip b o t cs off vs hcell hrep
 | own i len a cap hm=>exact .own i len a cap hm
 | elp b i len cap k sz f hm=>exact .elp b i len cap k sz f hm
 | mapr i b hm=>exact .mapr i b hm
 | iter i b hm=>exact .iter i b hm
 | fn f first cap df dc hf hc h1 h2 _ _=>exact .fn f first cap df dc hf hc h1 h2
 | iface t v d h _=>exact .iface t v d h
 | guard c want v d h hu _=>exact .guard c want v d h hu
 | clip a len es hr=>exact .clip a len es hr
 | slc b i off len cap hm hl hx=>exact .slc b i off len cap hm hl hx
 | yld b i hm=>exact .yld b i hm
 | raw v h=>exact .raw v h
theorem ZH {id:Nat} {vs:List Value}:∀{env:Env} {t:Nat} {d:D},lk (cO id vs env) t=some d->∃d0,lk env t=some d0/\d=X7 id vs d0
 | [],t,d,h=>by simp [cO,lk] at h
 | (s,x)::r,t,d,h=>by
  simp only [cO] at h;by_cases hs:s=t
  ·subst hs;rw [Ay] at h ⊢;cases h;exact ⟨x,rfl,rfl⟩
  ·rw [A5 _ _ hs] at h ⊢;exact ZH h
theorem ML {id:Nat} {vs:List Value} {i:Nat} {b:Blk}:∀{st:St},Az (Ri id vs st) i b->∃b0,Az st i b0/\b=wD id vs b0
 | [],h=>by simp [Ri,Az,lk] at h
 | (k,some x)::r,h=>by
  simp only [Ri] at h;rcases A9.1 h with ⟨h1,h2⟩ | ⟨h1,h2⟩
  ·exact ⟨x,by unfold Az;rw [h1,Ay],h2⟩
  ·obtain ⟨b0,q1,q2⟩:=ML h2;exact ⟨b0,A9.2 (.inr ⟨h1,q1⟩),q2⟩
 | (k,none)::r,h=>by
  simp only [Ri] at h;obtain ⟨h1,h2⟩:=BL.1 h;obtain ⟨b0,q1,q2⟩:=ML h2;exact ⟨b0,BL.2 ⟨h1,q1⟩,q2⟩
theorem StRep.retell {st1:St} (hst:StRep I μ st ids w) (h:∀i b,Az st1 i b->∃b0,Az st i b0/\∀g,BlkRep I μ w g b0->BlkRep I μ w g b):StRep I μ st1 ids w/\Ext I μ st w I μ st1 w:=by
 refine ⟨{ imm:=hst.imm,blk:=λi b hl=>?_,apart:=λi b g k hl hg hk=>?_,inj:=λi j bi bj gi gj k hi hj=>?_,nodup:=hst.nodup,idsFree:=hst.idsFree },?_⟩
 ·obtain ⟨b0,h1,h2⟩:=h i b hl;obtain ⟨g,hg,hr⟩:=hst.blk i b0 h1;exact ⟨g,hg,h2 g hr⟩
 ·obtain ⟨b0,h1,_⟩:=h i b hl;exact hst.apart i b0 g k h1 hg hk
 ·obtain ⟨b0,h1,_⟩:=h i bi hi;obtain ⟨b1,h2,_⟩:=h j bj hj;exact hst.inj i j b0 b1 gi gj k h1 h2
 ·exact { imm:=Imm.le_refl I,os:=rfl,tape:=rfl,output:=rfl,size:=B8 _,block:=λ_ _ _=>rfl,old:=λ_ _ _=>rfl
          fresh:=λb _ ⟨i,bi,g,h1,h2⟩=>let ⟨b0,q,_⟩:=h i bi h1;⟨i,b0,g,q,h2⟩ }
theorem Q9 {α:Type} (id j:Nat) {A:Asn} (val:α->List Value) (B:α->Asn) (hl:lk st id=some (some (.hp A)))
  (hA:∀vs I w bs,A.P vs I w bs->∃x,vs=val x/\(B x).P [] I w bs)
  (h:∀x,DGo P n F Q todo (cO id (val x) env) ((j,some (.hp (B x)))::(id,none)::Ri id (val x) st) ids'):DGo P n F Q todo env st (j::ids'):=by
 refine E2 λI μ a w hc=>?_;obtain ⟨g,hg,vs,bs,rfl,hP⟩:=hc.blk id _ hl;obtain ⟨x,rfl,h2⟩:=hA vs I w bs hP;obtain ⟨p1,p2⟩:=hc.toStRep.retell (st1:=Ri id (val x) st) (λi b hlb=>by
  obtain ⟨b0,q1,rfl⟩:=ML hlb;refine ⟨b0,q1,λgb hb=>?_⟩;cases b0 with
  | cells t sz cs =>
   obtain ⟨hs,b,us,e1,e2,e3,e4⟩:=hb;exact ⟨by rw [Iz,CW,hs],b,us,e1,e2,⟨by rw [Iz,CW,e3.1],λi v y hv hy=>by
    rw [Iz,Eg] at hy;cases hc':cs[i]? with
    | none=>rw [hc'] at hy;cases hy
    | some z=>rw [hc'] at hy;cases hy;exact (e3.2 i v z hv hc').opn hg⟩,e4⟩
  | _=>exact hb)
 have hl':Az (Ri id (val x) st) id (.hp A):=by
  have:∀{st:St},Az st id (.hp A)->Az (Ri id (val x) st) id (.hp A):=by
   intro st
   induction st with
   | nil=>intro h;simp [Az,lk] at h
   | cons p r ih =>
    obtain ⟨k,y⟩:=p;intro h;cases y with
    | none=>obtain ⟨h1,h2⟩:=BL.1 h;exact BL.2 ⟨h1,ih h2⟩
    | some y =>
     rcases A9.1 h with ⟨h1,h2⟩ | ⟨h1,h2⟩
     ·exact A9.2 (.inl ⟨h1,by rw [<- h2];rfl⟩)
     ·exact A9.2 (.inr ⟨h1,ih h2⟩)
  exact this hl
 obtain ⟨q1,q2,q3⟩:=StRep.relay (R:=[id]) (new:=[(j,VU [] bs,.hp (B x))]) (ids':=ids') p1
  (λp hp b hb=>by
   rw [AO.1 hp] at hb;exact ⟨id,_,_,by simp,hl',hg,Cq.2 (Cq.1 hb)⟩)
  (λp hp q hq b _ _=>by rw [AO.1 hp,AO.1 hq]) (Imm.le_refl I) hc.imm (λb o h=>.inl h)
  (λ_ p hp=>by rw [AO.1 hp];exact ⟨[],bs,rfl,h2⟩)
 refine ⟨I,_,cO id (val x) env,_,ids',q2,λt d hd=>?_,p2.trans q3,.of_le q1,h x⟩;obtain ⟨d0,h0,rfl⟩:=ZH hd;exact ((hc.env t d0 h0).opn hg).mono (Imm.le_refl I) q1
def clD (j:Nat) (vs:List Value) (d d':D):Prop:=d=d'\/∃k v,d = .raw v/\d' = .hv j k/\vs[k]?=some v
def clL (j:Nat) (vs:List Value):List D->List D->Prop
 | [],[]=>True
 | d::r,d'::r'=>clD j vs d d'/\clL j vs r r'
 | _,_=>False
theorem WA {j:Nat} {vs:List Value}:∀{ds ds':List D},clL j vs ds ds'->ds.length=ds'.length/\∀(i:Nat) (d':D),ds'[i]?=some d'->∃d,ds[i]?=some d/\clD j vs d d'
 | [],[],_=>⟨rfl,λi d h=>by simp at h⟩
 | d::r,d'::r',h=>by
  obtain ⟨h1,h2⟩:=WA h.2;refine ⟨by simp [h1],λi x hx=>?_⟩;cases i with
  | zero=>simp at hx;subst hx;exact ⟨d,rfl,h.1⟩
  | succ i=>exact h2 i x (by simpa using hx)
 | [],_::_,h=>h.elim
 | _::_,[],h=>h.elim
theorem Nj (id k j:Nat) {B A:Asn} (vs:List Value) {t:TypeId} {sz:Nat} {ds:List D} (ds':List D) (hl:lk st id=some (some (.hp B))) (hk:lk st k=some (some (.cells t sz ds)))
  (hA:∀us I w bs,B.P us I w bs->A.P vs I w bs) (hcl:clL j vs ds ds')
  (h:DGo P n F Q todo env ((k,some (.cells t sz ds'))::(j,some (.hp A))::(id,none)::st) ids'):DGo P n F Q todo env st (j::ids'):=by
 refine E2 λI μ a w hc=>?_;obtain ⟨g,hg,us,bs,rfl,hP⟩:=hc.blk id _ hl;obtain ⟨gk,hgk,hs,b,xs,rfl,hheap,hrep,hone⟩:=hc.blk k _ hk;have hjk:j≠k:=λe=>by rw [<- e,hc.idsFree j (by simp)] at hgk;cases hgk
 have hik:id≠k:=λe=>by subst e;rw [hl] at hk;cases hk
 obtain ⟨q1,q2,q3⟩:=StRep.relay (R:=[id]) (new:=[(j,VU vs bs,.hp A)]) (ids':=ids') hc.toStRep
  (λp hp b hb=>by
   rw [AO.1 hp] at hb;exact ⟨id,_,_,by simp,hl,hg,Cq.2 (Cq.1 hb)⟩)
  (λp hp q hq b _ _=>by rw [AO.1 hp,AO.1 hq]) (Imm.le_refl I) hc.imm (λb o h=>.inl h)
  (λ_ p hp=>by rw [AO.1 hp];exact ⟨vs,bs,rfl,hA us I w bs hP⟩)
 have hk2:Az ((j,some (.hp A))::(id,none)::st) k (.cells t sz ds):=A9.2 (.inr ⟨hjk.symm,BL.2 ⟨hik.symm,hk⟩⟩);have hmj:DP [(j,VU vs bs,.hp A)] μ j=some (VU vs bs):=by simp [DP,lk]
 obtain ⟨c1,c2⟩:=WA hcl;obtain ⟨p1,p2⟩:=q2.retell (st1:=(k,some (.cells t sz ds'))::(j,some (.hp A))::(id,none)::st) (λi bb hlb=>by
  rcases A9.1 hlb with ⟨rfl,rfl⟩ | ⟨_,h2⟩
  ·refine ⟨_,hk2,λgb hb=>?_⟩;obtain ⟨hs,b,us,e1,e2,e3,e4⟩:=hb;refine ⟨by rw [<- c1,hs],b,us,e1,e2,⟨by rw [<- c1,e3.1],λi v y hv hy=>?_⟩,e4⟩;obtain ⟨d,y1,y2⟩:=c2 i y hy;have hr:=e3.2 i v d hv y1;rcases y2 with rfl | ⟨kk,u,rfl,rfl,hu⟩
   ·exact hr
   ·have:=hr.rawInv;subst this;exact .hv _ j kk vs bs hmj hu (e4 _ (AF hv))
  ·exact ⟨_,h2,λ_ h=>h⟩)
 exact ⟨I,_,env,_,ids',p1,λt d hd=>(hc.env t d hd).mono (Imm.le_refl I) q1,q3.trans p2,.of_le q1,h⟩
def Imm.plus (I:Imm) (bs:List Nat) (w:World):Imm:=λb=>if EH bs b=true then w.heap[b]? else I b
theorem Un (id k:Nat) {A:Asn} {t:TypeId} {sz:Nat} {ds:List D} (xs:List V) (hl:lk st id=some (some (.hp A))) (hk:lk st k=some (some (.cells t sz ds)))
  (hA:∀vs I J w bs,A.P vs I w bs->I.le J->(∀b∈bs,J b=w.heap[b]?)->∀(cs:List Value),RepL J noMu cs ds->RepVL J cs xs) (hnm:HU ds=[])
  (h:DGo P n F Q todo env ((k,some (.immb t sz xs))::(id,none)::st) ids):DGo P n F Q todo env st ids:=by
 refine E2 λI μ a w hc=>?_;obtain ⟨g,hg,vs,bs,rfl,hP⟩:=hc.blk id _ hl;obtain ⟨gk,hgk,hs,b,us,rfl,hheap,hrep,hone⟩:=hc.blk k _ hk;have hik:id≠k:=λe=>by subst e;rw [hl] at hk;cases hk
 have hbs:∀b∈bs,I b=none/\b<w.heap.size:=λb hb=>hc.apart id _ _ b hl hg (Cq.2 hb);have hle:I.le (I.plus bs w):=λb o h=>by
  have:EH bs b=false:=by
   cases hm:EH bs b with
   | false=>rfl
   | true=>rw [(hbs b (BG.1 hm)).1] at h;cases h
  simp [Imm.plus,this,h]
 have hJb:∀b∈bs,I.plus bs w b=w.heap[b]?:=λb hb=>by simp [Imm.plus,BG.2 hb]
 obtain ⟨q1,q2,q3⟩:=StRep.relay (R:=[id]) (new:=[]) (ids':=ids) (J:=I.plus bs w) hc.toStRep (λp hp=>by cases hp) (λp hp=>by cases hp) hle
  (λb o h=>by
   unfold Imm.plus at h
   split at h
   ·exact h
   ·exact hc.imm b o h)
  (λb o h=>by
   unfold Imm.plus at h
   split at h
   ·rename_i hm;exact .inr ⟨⟨id,_,_,by simp,hl,hg,Cq.2 (BG.1 hm)⟩,λp hp=>by cases hp⟩
   ·exact .inl h)
  (λ_ p hp=>by cases hp)
 have hk2:Az ((id,none)::st) k (.cells t sz ds):=BL.2 ⟨hik.symm,hk⟩;obtain ⟨p1,p2⟩:=q2.retell (st1:=(k,some (.immb t sz xs))::(id,none)::st) (λi bb hlb=>by
  rcases A9.1 hlb with ⟨rfl,rfl⟩ | ⟨_,h2⟩
  ·refine ⟨_,hk2,λgb hb=>?_⟩;obtain ⟨hs',b',us',e1,e2,e3,e4⟩:=hb;have hmu:DP ([]:List (Nat×Value×Blk)) μ=μ:=by funext i;simp [DP,lk]
   rw [hmu] at e3;have e3':RepL (I.plus bs w) noMu us'.toList ds:=e3.sub λj hj=>by rw [hnm] at hj;cases hj
   have hx':=hA vs I (I.plus bs w) w bs hP hle hJb us'.toList e3';exact ⟨by rw [<- hx'.1,e3.1,hs'],b',us',e1,e2,hx',e4⟩
  ·exact ⟨_,h2,λ_ h=>h⟩)
 exact ⟨_,_,env,_,ids,p1,λt d hd=>(hc.env t d hd).mono hle q1,q3.trans p2,.of_le q1,h⟩
end
end Go.Hk
