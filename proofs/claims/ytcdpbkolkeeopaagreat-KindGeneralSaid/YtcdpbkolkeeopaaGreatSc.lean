/- Rows that are owned, by name and by address. (And what it stands on.) -/
import Derived.Test.YtcdpbkolkeeopaaGreatSb
import Derived.Test.YtcdpbkolkeeopaaGreatProg
import Derived.WalkKit
import Derived.RowKit3
import Derived.Laws.NewBlocks
import Derived.Defers
import Derived.Recover
set_option linter.all false
set_option maxRecDepth 100000
set_option maxHeartbeats 4000000
namespace Go.Hk
open Go.Proofs.Tryz
open Go.MapKept
open Go.Proofs
variable {ob:List Prop} {st st' st1 st0:St} {n i sz t j i0 j2 off:Nat} {F ids ids':List Nat} {Q:DQ} {env env' E:Env} {todo k todo':List DI} {d:D} {P:Program} {tt:TT} {I J:Imm} {μ:Mu} {w:World} {g:Option (Bool×Bool)} {a:Act} {es:List (List V)} {e:TypeId} {Pn:V->Prop} {c xs:List V} {cx:Prop} {v u z:Value} {α β:Type} {S S' S2:Bun} {vs:List Value} {A:Asn} {m:Int} {t1 t2: TypeId} {s1 s2: Nat} {x1 y1 x2: List V} {das l ds:List D} {f:FuncId} {b:Blk} {x:V} {σ:Sb} {r r':Option Sb} {o:Oper} {d0:Option Nat} {L ps:List Ty} {s:Str}
def jN:V->V->Bool
 | .str a,.str b=>a == b
 | .int _ a,.int _ b=>a == b
 | .bool a,.bool b=>a == b
 | _,_=>false
def G6:List (V×V)->V->Option V
 | [],_=>none
 | (k,d)::r,x=>if jN x k then some d else G6 r x
def F2:List (V×V)->V->V->List (V×V)
 | [],x,d=>[(x,d)]
 | (k,e)::r,x,d=>if jN x k then (x,d)::r else (k,e)::F2 r x d
def Jt:Sh->Option TypeDesc
 | .str=>some .string
 | .int k=>some (.int k)
 | _=>none
def GV:Sh->V->Bool
 | .str,.str _=>true
 | .int k,.int k' _=>decide (k'=k)
 | _,_=>false
theorem KO {t:TypeId} {sh:Sh} {dd:TypeDesc} (h:Jt sh=some dd) (hs:zbe P t sh):P.underlying t=some dd:=by
 cases sh <;> simp only [Jt,reduceCtorEq,Cf] at h <;> subst h <;> exact hs
theorem Hh {sh:Sh} {dd:TypeDesc} (h:Jt sh=some dd) (hk:GV sh x=true) (hv:RepV I v x):IsKey dd v:=by
 cases sh <;> simp only [Jt,reduceCtorEq,Cf] at h <;> subst h <;> cases x <;> simp [GV] at hk <;> cases hv <;> simp [IsKey,hk]
theorem uA {sh:Sh} {y:V} (hx:GV sh x=true) (hy:GV sh y=true) (hv:RepV I v x) (hu:RepV I u y):jN x y=true↔v=u:=by
 cases x with
 | str a =>
  cases y with
  | str b =>
   obtain ⟨s,rfl,rfl⟩:=hv.strInv;obtain ⟨t,rfl,rfl⟩:=hu.strInv;simp only [jN,beq_iff_eq,Value.string.injEq];constructor
   ·intro h;obtain ⟨⟨s⟩⟩:=s;obtain ⟨⟨t⟩⟩:=t;simp at h;rw [h]
   ·intro h;rw [h]
  | _=>cases sh <;> simp [GV] at hx hy
 | int k i =>
  cases y with
  | int k' j =>
   obtain rfl:=hv.intInv;obtain rfl:=hu.intInv;cases sh <;> simp [GV] at hx hy;subst hx;subst hy;simp [jN]
  | _=>cases sh <;> simp [GV] at hx hy
 | _=>cases sh <;> simp [GV] at hx
theorem Kl {sh:Sh} {dd:TypeDesc} {v:Value} {x:V} (hd:Jt sh=some dd) (hk:GV sh x=true) (hv:RepV I v x):∀(l:List MapEntry) (kv:List (V×V)) (i:Nat),l.length=kv.length ->
  (∀(j:Nat) (e:MapEntry) (p:V×V),l[j]?=some e->kv[j]?=some p->RepV I e.key p.1/\RepV I e.val p.2)->(∀p∈kv,GV sh p.1=true) ->
  (Instr.findNow dd v l i=some none/\G6 kv x=none/\(∀y,F2 kv x y=kv++[(x,y)])/\∀e∈l,e.key≠v) \/
   ∃j e y,Instr.findNow dd v l i=some (some (i+j,e.val))/\l[j]?=some e/\e.key=v/\G6 kv x=some y/\RepV I e.val y/\∀z,F2 kv x z=kv.set j (x,z)
 | [],[],i,_,_,_=>.inl ⟨rfl,rfl,λ_=>rfl,λ_ h=>by cases h⟩
 | [],_::_,_,h,_,_=>by simp at h
 | _::_,[],_,h,_,_=>by simp at h
 | e::l,p::kv,i,hl,h,hkv=>by
  obtain ⟨h1,h2⟩:=h 0 e p rfl rfl;obtain ⟨y,dy⟩:=p;have hky:=hkv (y,dy) (by simp);obtain ⟨r,hr,hiff⟩:=sameNow_of_keys (Hh hd hk hv) (Hh hd hky h1);have he:=uA hk hky hv h1;cases r with
  | true =>
   have hvy:=hiff.1 rfl;have:=he.2 hvy;exact .inr ⟨0,e,dy,by simp [Instr.findNow,hr],rfl,hvy.symm,by simp [G6,this],h2,λz=>by simp [F2,this]⟩
  | false =>
   have hne:v≠e.key:=λq=>by have:=hiff.2 q;cases this
   have hf:jN x y=false:=by
    cases hq:jN x y with
    | false=>rfl
    | true=>exact absurd (he.1 hq) hne
   rcases Kl hd hk hv l kv (i+1) (by simpa using hl) (λj e' p' a b=>h (j+1) e' p' (by simpa using a) (by simpa using b)) (λp' hp=>hkv p' (by simp [hp])) with ⟨q1,q2,q3,q4⟩ | ⟨j,e',y',q1,q2,q3,q4,q5,q6⟩
   ·refine .inl ⟨by simp [Instr.findNow,hr,q1],by simp [G6,hf,q2],λz=>by simp [F2,hf,q3],λe' he'=>?_⟩;rcases CA.1 he' with rfl | he'
    ·exact λq=>hne q.symm
    ·exact q4 e' he'
   ·exact .inr ⟨j+1,e',y',by simp [Instr.findNow,hr,q1];omega,by simpa using q2,q3,by simp [G6,hf,q4],q5,λz=>by simp [F2,hf,q6]⟩
def pmk (n:Nat) (ids:List Nat) (todo:List DI):Option (Nat×List Nat×Option Nat×List DI) :=
 match NN todo,ids with
 | some o,id'::ids'=>match o.guard,o.op with
  | none,.makeMap _ none=>match BK n o.dst,Bt todo ([],[id']) with
   | true,some (_,_,todo')=>some (id',ids',o.dst,todo')
   | _,_=>none
  | _,_=>none
 | _,_=>none
theorem Ev {ids0:List Nat} {todo0:List DI} (h:pmk n ids todo=some (i0,ids0,d0,todo0)) (hk:G P n F Q todo0 (BN d0 (.mapr i0) env) ((i0,some (.map []))::st) ids0):G P n F Q todo env st ids:=by
 unfold pmk at h
 split at h
 ·rename_i o id' ids' ho
  split at h
  ·rename_i t hg hop
   split at h
   ·rename_i all o' todo' hd h1;cases h;have ho':o'=o:=Dd ho h1;subst ho';refine BG (fr:=[i0]) (wr:=[(i0,some (.map []))]) (rd:=[]) h1 ?_ hd (λc hc=>by rw [hop] at hc;cases hc) hk;intro I μ st1 ids1 a w hag hst hon;refine ⟨λ_=>?_,λhw=>by rw [AL hg] at hw;cases hw⟩;have hrun:(execOp a.eval o').run P w = .ok (.value (.map (some w.heap.size))) (w.alloc (.map #[] 0)):=by
     simp only [execOp,hop,UT];refine DR ?_;simp only [Instr.makeMap,Sem.run_bind,Result.andThen_ok,Sem.run_pure,run_newObj];rfl
    rw [hrun];obtain ⟨μ',q1,q2,q3,q4⟩:=hst.allocO (.map #[] 0) (.map (some w.heap.size)) (λ_ h=>Eq.symm h) (.map []) (λμ' _=>⟨w.heap.size,#[],0,rfl,Eu w _,rfl,stamped_empty 0,λi e p h=>by simp at h⟩);exact ⟨I,μ',q3,.mapr _ _ q1,q2,q4⟩
   ·cases h
  ·cases h
 ·cases h
theorem cO {id:Nat} {kv:List (V×V)} (hst:StRep I μ st ids w) (hl:Az st id (.map kv)) (hv:RepD I μ v (.mapr id)) :
  ∃b es clock,v = .map (some b)/\μ id=some v/\w.heap[b]?=some (.map es clock)/\es.size=kv.length/\Stamped es clock/\∀(i:Nat) (e:MapEntry) (p:V×V),es[i]?=some e->kv[i]?=some p->RepV I e.key p.1/\RepV I e.val p.2:=by
 cases hv with
 | mapr _ b hm =>
  obtain ⟨g,hg,b',es,clock,rfl,h1,h2,h3,h4⟩:=hst.blk id _ hl;rw [hm] at hg;cases hg;exact ⟨b,es,clock,rfl,hm,h1,h2,h3,h4⟩
def kU:Op->Option (TypeId×Operand×Operand×Operand)
 | .mapUpdate t m x y=>some (t,m,x,y)
 | .insert t m x y=>some (t,m,x,y)
 | _=>none
theorem SU {op:Op} {t:TypeId} {m x y:Operand} (h:kU op=some (t,m,x,y)):(op = .mapUpdate t m x y\/op = .insert t m x y)/\∀z∈[m,x,y],z∈op.operands.toList:=by
 unfold kU at h
 split at h
 ·cases h;exact ⟨.inl rfl,by simp [Op.operands]⟩
 ·cases h;exact ⟨.inr rfl,by simp [Op.operands]⟩
 ·cases h
def vO (tt:TT) (env:Env) (st:St) (todo:List DI):Option (Nat×List (V×V)×Sh×V×V×List DI) :=
 match NN todo with
 | some o=>match o.guard,kU o.op with
  | none,some (t,m,x,y)=>match o.dst,lk tt t,DN env m,DN env x,DN env y with
   | none,some { sh:=.map kt _,.. },some (.mapr id),some (.imm kx),some dy=>match lk tt kt,lk st id,Bt todo ([id],[id]),rF dy with
    | some i,some (some (.map kv)),some (_,_,todo'),some vy=>some (id,kv,i.sh,kx,vy,todo')
    | _,_,_,_=>none
   | _,_,_,_,_=>none
  | _,_=>none
 | none=>none
theorem Fs (htt:TTok P tt) {kv:List (V×V)} {sh:Sh} {kx:V} {dy:V} {todo0:List DI} {dd:TypeDesc} (h:vO tt env st todo=some (i0,kv,sh,kx,dy,todo0)) (hd:Jt sh=some dd) (hk:GV sh kx=true) (hkv:∀p∈kv,GV sh p.1=true) (hg:G P n F Q todo0 env ((i0,some (.map (F2 kv kx dy)))::st) ids):G P n F Q todo env st ids:=by
 unfold vO at h
 split at h
 ·rename_i o ho
  split at h
  ·rename_i t m x y hgd hop
   split at h
   ·rename_i kt et _ _ _ _ id kx' dy' hdst ht hm hx hy
    split at h
    ·rename_i i kv' all o' todo' vy hi hl h1 hng;cases h;have ho':o'=o:=Dd ho h1;subst ho';have hg:G P n F Q todo0 (BN o'.dst .undef env) ((i0,some (.map (F2 kv kx dy)))::st) ids:=by rw [hdst];exact hg
     refine BG (fr:=[]) (wr:=[(i0,some (.map (F2 kv kx dy)))]) (rd:=[i0]) h1 ?_ (by simp [BK,hdst]) (λc hc=>by rcases (SU hop).1 with e | e <;> rw [e] at hc <;> cases hc) hg;intro I μ st1 ids1 a w hag hst hon;refine ⟨λ_=>?_,λhw=>by rw [AL hgd] at hw;cases hw⟩;have hops:=Bm hon;obtain ⟨hop2,hop3⟩:=SU hop;have hl1:Az st1 i0 (.map kv):=by unfold Az;rw [hag i0 (by simp)];exact hl
     obtain ⟨b,es,clock,e1,hmu,hheap,hlen,hst2,hent⟩:=cO hst hl1 (hops m (hop3 m (by simp)) _ hm);have rx:=(hops x (hop3 x (by simp)) _ hx).immInv;have ry:=PF hng (hops y (hop3 y (by simp)) _ hy);have hu:P.underlying t=some (.map kt et):=htt.sh ht;have hkd:P.underlying kt=some dd:=KO hd (htt.sh hi);have hik:=Hh hd hk rx;have hbl:=BZ hheap;have fin:∀(es':Array MapEntry) (c':Nat),(Instr.mapUpdate t (.map (some b)) (a.eval x) (a.eval y)).run P w = .ok () { w with heap:=w.heap.setIfInBounds b (.map es' c') }->es'.size=(F2 kv kx dy).length->Stamped es' c' ->
       (∀(i:Nat) (e:MapEntry) (p:V×V),es'[i]?=some e->(F2 kv kx dy)[i]?=some p->RepV I e.key p.1/\RepV I e.val p.2) ->
       valX P ((execOp a.eval o').run P w) (λv w'=>∃I' μ',StRep I' μ' ([(i0,some (.map (F2 kv kx dy)))]++st1) ids1 w'/\RepD I' μ' v .undef/\μ.le μ'/\Ext I μ st1 w I' μ' ([(i0,some (.map (F2 kv kx dy)))]++st1) w') (KZ (KY Q) I μ st1 w):=by
      intro es' c' hr h2 h3 h4;have hrun:(execOp a.eval o').run P w = .ok .skip { w with heap:=w.heap.setIfInBounds b (.map es' c') }:=by
       rcases hop2 with e | e <;> (simp only [execOp,e,e1];simp [hr])
      rw [hrun];obtain ⟨q1,q2⟩:=hst.update (blk':=.map (F2 kv kx dy)) (w':={ w with heap:=w.heap.setIfInBounds b (.map es' c') }) hl1 hmu (by rw [e1];rfl) (by simp) rfl rfl rfl
       (λk hk=>FV (Ne.symm hk)) ⟨b,es',c',e1,by simp [hbl],h2,h3,h4⟩
      exact ⟨I,μ,q1,.undef _,Mu.le_refl μ,q2⟩
     rcases Kl (I:=I) hd hk rx es.toList kv 0 (by simpa using hlen) (λj e p h1 h2=>hent j e p (by simpa using h1) h2) hkv with ⟨q1,_,q3,q4⟩ | ⟨j,e,y',q1,q2,q3,_,q5,q6⟩
     ·refine fin _ _ ?_ (by rw [q3];simp [hlen]) (stamped_push hst2 (key:=a.eval x) (val:=a.eval y) q4) λi e p h1 h2=>?_
      ·simp [Instr.mapUpdate,run_underlying hu,MapKept.run_getObj_map hheap,MapKept.run_checkKey hkd hik,MapKept.run_findKey hkd q1,MapKept.run_setObj_map _ hheap,Result.andThen]
      ·rw [q3] at h2;rw [QO] at h1;rw [LO] at h2;by_cases hi:i=es.size
       ·rw [if_pos hi] at h1;cases h1;rw [if_neg (by omega)] at h2;rw [show i-kv.length=0 by omega] at h2;cases h2;exact ⟨rx,ry⟩
       ·rw [if_neg hi] at h1;have:=(GH.1 h1).1;rw [if_pos (by omega)] at h2;exact hent i e p h1 h2
     ·have hj:es[j]?=some e:=by simpa using q2
      have hkey:∀e',es[j]?=some e'->({ e' with key:=a.eval x,val:=a.eval y }:MapEntry).key=e'.key:=λe' he'=>by rw [hj] at he';cases he';exact q3.symm
      refine fin (es.modify j λe=>{ e with key:=a.eval x,val:=a.eval y }) clock ?_ (by rw [q6];simp [hlen]) (stamped_modify hst2 _ _ (λ_ _=>rfl) (λe' _ he'=>hkey e' he')) λi e' p h1 h2=>?_
      ·simp [Instr.mapUpdate,run_underlying hu,MapKept.run_getObj_map hheap,MapKept.run_checkKey hkd hik,MapKept.run_findKey hkd q1,hj,q3,MapKept.run_keyThatStays hik,MapKept.run_setObj_map _ hheap,Result.andThen]
      ·rw [q6] at h2;rw [UR] at h1;rw [UP] at h2;by_cases hi:j=i
       ·subst hi;rw [if_pos rfl,hj] at h1;cases h1;rw [if_pos rfl] at h2
        split at h2
        ·cases h2;exact ⟨rx,ry⟩
        ·cases h2
       ·rw [if_neg hi] at h1 h2;exact hent i e' p h1 h2
    ·cases h
   ·cases h
  ·cases h
 ·cases h
structure PMl where
 kv:List (V×V)
 sh:Sh
 kx:V
 et:TypeId
 two:Bool
 g:Option (Bool×Bool)
 ob:List Prop
 t:Nat
 todo:List DI
def lM (tt:TT) (n:Nat) (env:Env) (st:St) (nm:Nat) (todo:List DI):Option PMl :=
 match Bt todo ([nm],[]) with
 | some (all,o,todo')=>match o.op,Co all env o with
  | .lookup t m k two,some g=>match lk tt t,Mf (Ap g) env m,Mf (Ap g) env k with
   | some { sh:=.map kt et,.. },some (.mapr id,o1),some (.imm kx,o2)=>match Nat.beq id nm,lk tt kt,lk st id,BK n o.dst with
    | true,some i,some (some (.map kv)),true=>match o.dst with
     | some t=>some ⟨kv,i.sh,kx,et,two,g,IS o1 o2,t,todo'⟩
     | none=>none
    | _,_,_,_=>none
   | _,_,_=>none
  | _,_=>none
 | none=>none
theorem EB {t:TypeId} (h:(P.info? t).bind (·.zero)=some z):(zeroValue t).run P w = .ok z w:=by
 cases hi:P.info? t with
 | none=>rw [hi] at h;cases h
 | some inf =>
  rw [hi] at h;have h:inf.zero=some z:=h;simp [zeroValue,typeInfo,hi,h]
def FC (two:Bool) (kv:List (V×V)) (x:V) (zd:V):D :=
 let r:=match G6 kv x with
  | some y=>(y,true)
  | none=>(zd,false)
 if two then .imm (.tup [r.1,.bool r.2]) else .imm r.1
theorem CJ (htt:TTok P tt) (nm:Nat) {kv:List (V×V)} {sh:Sh} {kx:V} {et:TypeId} {two:Bool} {t0:Nat} {todo0:List DI} {dd:TypeDesc} {zd:V} {dr:D} (h:lM tt n env st nm todo=some ⟨kv,sh,kx,et,two,g,ob,t0,todo0⟩) (hd:Jt sh=some dd) (hk:GV sh kx=true) (hkv:∀p∈kv,GV sh p.1=true) (hob:AG ob) (hz:(P.info? et).bind (·.zero)=some z) (hzr:∀I,RepV I z zd) (hdr:FC two kv kx zd=dr) (hg:G P n F Q todo0 ((t0,gD g dr)::env) st ids):G P n F Q todo env st ids:=by
 unfold lM at h
 split at h
 ·rename_i all o todo' h1
  split at h
  ·rename_i t m k two' g' hop hgd
   split at h
   ·rename_i kt et' _ _ _ _ id o1 kx' o2 ht hm hx
    split at h
    ·rename_i i kv' hid hi hl hdo
     split at h
     ·rename_i t' hdst;cases h;have hid:=C7 hid;subst hid;subst hdr;have hg:G P n F Q todo0 (BN o.dst (gD g (FC two kv kx zd)) env) st ids:=by rw [hdst];exact hg
      refine BG (fr:=[]) (wr:=[]) (rd:=[id]) h1 (D1 hgd λI μ st1 ids1 a w hag hst hops hcx=>?_) hdo (λc hc=>by rw [hop] at hc;cases hc) hg;rw [hop] at hops;obtain ⟨ho1,ho2⟩:=B8 hob;have rm:=DZ hm ho1 hcx (hops m (by simp [Op.operands]));have rx:=(DZ hx ho2 hcx (hops k (by simp [Op.operands]))).immInv;have hl1:Az st1 id (.map kv):=by unfold Az;rw [hag id (by simp)];exact hl
      obtain ⟨b,es,clock,e1,hmu,hheap,hlen,hst2,hent⟩:=cO hst hl1 rm;have hu:P.underlying t=some (.map kt et):=htt.sh ht;have hkd:P.underlying kt=some dd:=KO hd (htt.sh hi);have hik:=Hh hd hk rx;have fin:∀(v:Value) (ok:Bool) (d:V),(Instr.lookup t (.map (some b)) (a.eval k) two).run P w = .ok (if two then .tuple #[v,.bool ok] else v) w->RepV I v d ->
        FC two kv kx zd=(if two then .imm (.tup [d,.bool ok]) else .imm d) ->
        valX P ((execOp a.eval o).run P w) (λu w'=>∃I' μ',StRep I' μ' st1 ids1 w'/\RepD I' μ' u (FC two kv kx zd)/\μ.le μ'/\Ext I μ st1 w I' μ' st1 w') (KZ (KY Q) I μ st1 w):=by
       intro v ok d hr hv he;have hrun:(execOp a.eval o).run P w = .ok (.value (if two then .tuple #[v,.bool ok] else v)) w:=by
        simp only [execOp,hop,e1];exact A7 hr
       rw [hrun];refine ⟨I,μ,hst,?_,Mu.le_refl μ,Ext.refl _ _ _ _⟩;rw [he];cases two with
       | false=>exact .imm _ _ hv
       | true =>
        refine .imm _ _ (.tup _ _ rfl λi c x hc hx=>?_)
        match i,hc,hx with
        | 0,hc,hx=>cases hc;cases hx;exact hv
        | 1,hc,hx=>cases hc;cases hx;exact .bool _
        | i+2,hc,hx=>simp at hx
      rcases Kl (I:=I) hd hk rx es.toList kv 0 (by simpa using hlen) (λj e p h1 h2=>hent j e p (by simpa using h1) h2) hkv with ⟨q1,q2,_,_⟩ | ⟨j,e,y',q1,q2,q3,q4,q5,q6⟩
      ·refine fin z false zd ?_ (hzr I) (by simp [FC,q2]);simp [Instr.lookup,run_underlying hu,MapKept.run_getObj_map hheap,MapKept.run_checkKey hkd hik,MapKept.run_findKey hkd q1,EB hz,Result.andThen]
      ·refine fin e.val true y' ?_ q5 (by simp [FC,q4]);simp [Instr.lookup,run_underlying hu,MapKept.run_getObj_map hheap,MapKept.run_checkKey hkd hik,MapKept.run_findKey hkd q1,Result.andThen]
     ·cases h
    ·cases h
   ·cases h
  ·cases h
 ·cases h
def Dr:Ty:=.mk 0 0 [] []
def Fk (L:List Ty):Sb:=λn=>if 0<=n then (match L[n.toNat]? with
 | some t=>if BQ t=0 then none else some t
 | none=>none) else none
theorem rN {t:Ty} (h:L[i]?=some t):Fk L (i:Int)=if BQ t=0 then none else some t:=by
 simp only [Fk];rw [if_pos (by omega),Int.toNat_natCast,h]
theorem K4 (L:List Ty):Fk (L++[Dr])=Fk L:=by
 funext n;simp only [Fk]
 split
 ·rcases LM n.toNat L.length with h | h | h
  ·rw [Tt h]
  ·rw [h,QG (BL _),LL,Lp (BL _)];simp [Dr,BQ]
  ·rw [Lp (by simp;omega),Lp (by omega)]
 ·rfl
theorem U3 {n:Int} {t:Ty} (h:0<=n/\n<L.length) (ht:BQ t≠0):Fk (L.set n.toNat t)=Ew (Fk L) n t:=by
 funext m;simp only [Fk,Ew];by_cases e:m=n
 ·subst e;rw [if_pos h.1,if_pos rfl,UP,if_pos rfl,if_pos (by omega)];simp only;rw [if_neg ht]
 ·rw [if_neg e]
  split
  ·rw [UP,if_neg (by omega)]
  ·rfl
theorem VZ (k:Nat):Fk (List.replicate k Dr)=λ_=>none:=by
 funext n;simp only [Fk]
 split
 ·rw [RR]
  split
  ·rename_i h;simp at h;rw [<- h.2];simp [Dr,BQ]
  ·rfl
 ·rfl
def jO (p:Int×Ty):V×V:=(.int .i64 p.1,.agg (dTyc p.2))
def BH:List (Int×Ty)->Sb
 | []=>λ_=>none
 | p::r=>λn=>if p.1=n then some p.2 else BH r n
def Qt:List (Int×Ty)->Int->Ty->List (Int×Ty)
 | [],n,t=>[(n,t)]
 | p::r,n,t=>if p.1=n then (p.1,t)::r else p::Qt r n t
theorem IW (t:Ty) (n:Int):∀M:List (Int×Ty),BH (Qt M n t)=Ew (BH M) n t
 | []=>by funext m;simp only [Qt,BH,Ew];by_cases e:n=m <;> simp [e,eq_comm]
 | p::r=>by
  funext m;simp only [Qt];by_cases e:p.1=n
  ·rw [if_pos e];simp only [BH,Ew];by_cases e2:m=n
   ·subst e2;rw [if_pos e,if_pos rfl]
   ·rw [if_neg e2,if_neg (by omega),if_neg (by omega)]
  ·rw [if_neg e];simp only [BH,IW t n r,Ew];by_cases e2:m=n
   ·subst e2;rw [if_neg e,if_pos rfl,if_pos rfl]
   ·rw [if_neg e2,if_neg e2]
theorem KJ (n m:Int):jN (.int .i64 n) (.int .i64 m)=decide (m=n):=by
 simp only [jN];by_cases e:m=n
 ·subst e;simp
 ·rw [decide_eq_false e];simp;exact λh=>e h.symm
theorem Hf (n:Int):∀M:List (Int×Ty),G6 (M.map jO) (.int .i64 n)=(BH M n).map λt=>.agg (dTyc t)
 | []=>rfl
 | p::r=>by
  have ih:=Hf n r;simp only [Cv,jO,G6,KJ,BH];by_cases e:p.1=n
  ·rw [decide_eq_true e,if_pos e];rfl
  ·rw [decide_eq_false e,if_neg e];exact ih
theorem JJ (n:Int) (t:Ty):∀M:List (Int×Ty),F2 (M.map jO) (.int .i64 n) (.agg (dTyc t))=(Qt M n t).map jO
 | []=>rfl
 | p::r=>by
  have ih:=JJ n t r;simp only [Cv,jO,F2,KJ,Qt];by_cases e:p.1=n
  ·rw [decide_eq_true e,if_pos e,Cv,e];rfl
  ·rw [decide_eq_false e,if_neg e,Cv,<- ih];rfl
theorem X4 {E:Sb->Ty->Ty->Option Sb->Prop} (h:∀σ a b r r',E σ a b r->E σ a b r'->r=r'):∀{xs ys:List Ty} {σ:Sb} {r r':Option Sb},Le E σ xs ys r->Le E σ xs ys r'->r=r'
 | [],[],_,_,_,h1,h2=>Eq.trans h1 (Eq.symm h2)
 | a::xs,b::ys,σ,r,r',h1,h2=>by
  rcases h1 with ⟨e1,rfl⟩ | ⟨σ1,e1,f1⟩
  ·rcases h2 with ⟨_,rfl⟩ | ⟨σ2,e2,_⟩
   ·rfl
   ·have:=h _ _ _ _ _ e1 e2;cases this
  ·rcases h2 with ⟨e2,_⟩ | ⟨σ2,e2,f2⟩
   ·have:=h _ _ _ _ _ e1 e2;cases this
   ·have:=h _ _ _ _ _ e1 e2;cases this;exact X4 h f1 f2
 | [],_::_,_,_,_,h1,_=>h1.elim
 | _::_,[],_,_,_,h1,_=>h1.elim
theorem iM {E:Sb->Ty->Ty->Option Sb->Prop} (h:∀σ a b r r',E σ a b r->E σ a b r'->r=r') {u v:Ty} (h1:Dp E σ u v r) (h2:Dp E σ u v r'):r=r':=by
 by_cases u9:BQ u=9
 ·by_cases v9:BQ v=9
  ·by_cases e:num u=num v
   ·have a:r=some σ:=by simpa [Dp,u9,v9,e] using h1
    have b:r'=some σ:=by simpa [Dp,u9,v9,e] using h2
    rw [a,b]
   ·have a:r=some (Ew σ (max (num u) (num v)) (Ao (min (num u) (num v)))):=by simpa [Dp,u9,v9,e] using h1
    have b:r'=some (Ew σ (max (num u) (num v)) (Ao (min (num u) (num v)))):=by simpa [Dp,u9,v9,e] using h2
    rw [a,b]
  ·by_cases o:jG σ (num u) v
   ·have a:r=none:=by simpa [Dp,u9,v9,o] using h1
    have b:r'=none:=by simpa [Dp,u9,v9,o] using h2
    rw [a,b]
   ·have a:r=some (Ew σ (num u) v):=by simpa [Dp,u9,v9,o] using h1
    have b:r'=some (Ew σ (num u) v):=by simpa [Dp,u9,v9,o] using h2
    rw [a,b]
 ·by_cases v9:BQ v=9
  ·by_cases o:jG σ (num v) u
   ·have a:r=none:=by simpa [Dp,u9,v9,o] using h1
    have b:r'=none:=by simpa [Dp,u9,v9,o] using h2
    rw [a,b]
   ·have a:r=some (Ew σ (num v) u):=by simpa [Dp,u9,v9,o] using h1
    have b:r'=some (Ew σ (num v) u):=by simpa [Dp,u9,v9,o] using h2
    rw [a,b]
  ·by_cases o:EW u v
   ·have a:Le E σ (Ff u) (Ff v) r:=by simpa [Dp,u9,v9,o] using h1
    have b:Le E σ (Ff u) (Ff v) r':=by simpa [Dp,u9,v9,o] using h2
    exact X4 h a b
   ·have a:r=none:=by simpa [Dp,u9,v9,o] using h1
    have b:r'=none:=by simpa [Dp,u9,v9,o] using h2
    rw [a,b]
theorem X7:∀(k:Nat) (σ:Sb) (a b:Ty) (r r':Option Sb),Ox k σ a b r->Ox k σ a b r'->r=r'
 | 0,_,_,_,_,_,h,_=>h.elim
 | k+1,σ,a,b,r,r',⟨u,v,h1,h2,h3⟩,⟨u',v',g1,g2,g3⟩=>by
  obtain rfl:=Ur h1 g1;obtain rfl:=Ur h2 g2;exact iM (X7 k) h3 g3
theorem Vs {k k':Nat} {a b:Ty} (h:Ox k σ a b r) (h':Ox k' σ a b r'):r=r' :=
 X7 (max k k') σ a b r r' (MZ (Nat.le_max_left _ _) h) (MZ (Nat.le_max_right _ _) h')
theorem Ru {H:Nat} {k:Nat} {θ:Int->Ty} {a b:Ty} (h:Ox k σ a b r) (hs:Sol σ θ) (hd:Dom H σ) (ha:C9 a=true) (hb:C9 b=true) (ia:inB H a) (ib:inB H b):uT H σ a b r:=by
 obtain ⟨k',r',h1,h2⟩:=dK H (SI H σ) (DH (A9 θ a)) σ θ a b hs hd (BL _) (λ_=>BL _) ha hb ia ib;rw [Vs h h1];exact h2
mutual
def Ci:Ty->Int->Int
 | .mk _ _ _ ps,l=>if l<1 then -1 else Cj ps (l-1)
def Cj:List Ty->Int->Int
 | [],l=>l
 | t::r,l=>if 0<=l then Cj r (Ci t l) else l
end
mutual
theorem IT:∀(t:Ty) (l:Int),-1<=Ci t l/\(-1<=l->Ci t l<=l)
 | .mk _ _ _ ps,l=>by
  simp only [Ci];by_cases h:l<1
  ·rw [if_pos h];omega
  ·rw [if_neg h];have:=JC ps (l-1) (by omega);omega
theorem JC:∀(ts:List Ty) (l:Int),-1<=l -> -1<=Cj ts l/\Cj ts l<=l
 | [],l,h=>by simp [Cj,h]
 | t::r,l,h=>by
  simp only [Cj];by_cases h0:0<=l
  ·rw [if_pos h0];have h1:=IT t l;have h2:=JC r (Ci t l) h1.1;omega
  ·rw [if_neg h0];omega
end
theorem Jv:∀(t:Ty) (l:Int),-9223372036854775808<=l->l<=9223372036854775807->Tq3 46 [.agg (dTyc t),.int .i64 l] (.int .i64 (Ci t l))
 | .mk s n x ps,l,hl0,hl1=>by
  refine Bl λhv=>?_;simp [Cx,Ez,dTyc,maxLen] at hv;refine AQ Bf func46 rfl [1,2,3]<|AS rfl<|Aa rfl (λh=>?_) (λh=>?_)
  ·refine Bb rfl<|Ab rfl rfl (congrArg _ ?_);simp at h;simp [Ci,h]
  simp at h;refine Bb rfl<|Ak (λx:Nat×Int=>[(5,.imm (.int .i64 x.1)),(1,.imm (.int .i64 x.2)),(2,.ref 1 0)]) (λ_=>[(1,some (.immb 25 4 (dTyc (.mk s n x ps))))]) [2,3] (λx=>ps.length-x.1)
   (λy=>y.1<=ps.length/\Ci (.mk s n x ps) l=Cj (ps.drop y.1) y.2 /\ -1<=y.2/\y.2<l) (0,l-1)
   ⟨AF _,by simp [Ci];omega,by simp only;omega,by simp only;omega⟩ ⟨rfl,M6,AC⟩ AC rfl λy hi ih=>?_
  obtain ⟨i,m⟩:=y;obtain ⟨hi1,hi2,hi3,hi4⟩:=hi;simp only at hi1 hi2 hi3 hi4;refine Bb rfl<|Aa rfl (λh=>?_) (λh=>?_)
  ·simp at h;obtain ⟨t,ht⟩:=Am (l:=ps) (i:=i) (by omega);rw [As ht] at hi2;refine Bb rfl<|Q8 rfl (AA ht)<|AS rfl<|Aj rfl (λ_=>Jv t m (by omega) (by omega)) (by simp)<|AS rfl ?_;have hb:=IT t m;refine Ae (ih (i+1,Ci t m) (by simp only;omega) ⟨by simp only;omega,by simp only;rw [hi2];simp [Cj];omega,by simp only;omega,by simp only;omega⟩) ⟨M6,AD⟩ AC rfl
  ·refine Bb rfl<|Ab rfl rfl (congrArg _ ?_);rw [hi2];simp at h;by_cases hlt:i<ps.length
   ·obtain ⟨t,ht⟩:=Am hlt;rw [As ht];simp [Cj];omega
   ·rw [Bh (by omega)];simp [Cj]
termination_by t=>SizeOf.sizeOf t
decreasing_by
 have:=Ct (AK ht);simp_wf;omega
theorem Kx:∀(t:Ty) (l:Int),-9223372036854775808<=l->l<=9223372036854775807->Tq3 179 [.agg (dTyc t),.int .i64 l] (.int .i64 (Ci t l))
 | .mk s n x ps,l,hl0,hl1=>by
  refine Bl λhv=>?_;simp [Cx,Ez,dTyc,maxLen] at hv;refine AQ Bf func179 rfl [1,2,3]<|AS rfl<|Aa rfl (λh=>?_) (λh=>?_)
  ·refine Bb rfl<|Ab rfl rfl (congrArg _ ?_);simp at h;simp [Ci,h]
  simp at h;refine Bb rfl<|Ak (λx:Nat×Int=>[(5,.imm (.int .i64 x.1)),(1,.imm (.int .i64 x.2)),(2,.ref 1 0)]) (λ_=>[(1,some (.immb 182 4 (dTyc (.mk s n x ps))))]) [2,3] (λx=>ps.length-x.1)
   (λy=>y.1<=ps.length/\Ci (.mk s n x ps) l=Cj (ps.drop y.1) y.2 /\ -1<=y.2/\y.2<l) (0,l-1)
   ⟨AF _,by simp [Ci];omega,by simp only;omega,by simp only;omega⟩ ⟨rfl,M6,AC⟩ AC rfl λy hi ih=>?_
  obtain ⟨i,m⟩:=y;obtain ⟨hi1,hi2,hi3,hi4⟩:=hi;simp only at hi1 hi2 hi3 hi4;refine Bb rfl<|Aa rfl (λh=>?_) (λh=>?_)
  ·simp at h;obtain ⟨t,ht⟩:=Am (l:=ps) (i:=i) (by omega);rw [As ht] at hi2;refine Bb rfl<|Q8 rfl (AA ht)<|AS rfl<|Aj rfl (λ_=>Kx t m (by omega) (by omega)) (by simp)<|AS rfl ?_;have hb:=IT t m;refine Ae (ih (i+1,Ci t m) (by simp only;omega) ⟨by simp only;omega,by simp only;rw [hi2];simp [Cj];omega,by simp only;omega,by simp only;omega⟩) ⟨M6,AD⟩ AC rfl
  ·refine Bb rfl<|Ab rfl rfl (congrArg _ ?_);rw [hi2];simp at h;by_cases hlt:i<ps.length
   ·obtain ⟨t,ht⟩:=Am hlt;rw [As ht];simp [Cj];omega
   ·rw [Bh (by omega)];simp [Cj]
termination_by t=>SizeOf.sizeOf t
decreasing_by
 have:=Ct (AK ht);simp_wf;omega
def C3 (holes:Bool) (s n:Int) (x:Str) (k:Nat):Bool :=
 if s=1\/s=2\/s=3 then ((k:Int) == 0)&&n == 0&&x == []
 else if s=4 then ((k:Int) == 2)&&n == 0&&x == []
 else if s=5\/s=6\/s=7 then ((k:Int) == 1)&&n == 0&&x == []
 else if s=8 then ((k:Int) == 0)&&n == 0&&E3 x
 else if s=9 then holes&&((k:Int) == 0)&&x == []&&D4 n 0 99
 else false
mutual
def CP (holes:Bool):Ty->Bool
 | .mk s n x ps=>C3 holes s n x ps.length&&Ck holes ps
def Ck (holes:Bool):List Ty->Bool
 | []=>true
 | t::r=>CP holes t&&Ck holes r
end
theorem VP (holes:Bool):∀(t:Ty),Tq3 61 [.agg (dTyc t),.bool holes] (.bool (CP holes t))
 | .mk s n x ps=>by
  refine Bl λhv=>?_;simp [Cx,Ez,dTyc,maxLen] at hv;refine AQ Bf func61 rfl [1,2,3] ?_;have J:∀is:Bool,is=C3 holes s n x ps.length->Tq2 Tryz.f61.ntmps (DY []) (Lb bI Tryz.f61.results.toList (.ret (.imm (.bool (CP holes (.mk s n x ps)))) []))
    [.code (Gx Tryz.f61 4)] [(6,.imm (.bool is)),(5,.imm (.int .i64 ps.length)),(1,.imm (.bool holes)),(2,.ref 1 0)] [(1,some (.immb 25 4 (dTyc (.mk s n x ps))))] [2,3]:=by
   intro is his;refine Bb rfl<|Ak (λy:Nat×Bool=>[(7,.imm (.int .i64 y.1)),(6,.imm (.bool y.2)),(5,.imm (.int .i64 ps.length)),(1,.imm (.bool holes)),(2,.ref 1 0)]) (λ_=>[(1,some (.immb 25 4 (dTyc (.mk s n x ps))))]) [2,3] (λy=>ps.length-y.1)
    (λy=>y.1<=ps.length/\CP holes (.mk s n x ps)=(y.2&&Ck holes (ps.drop y.1))) (0,is) ⟨AF _,by simp [CP,his]⟩ BA AC rfl λy hi ih=>?_
   obtain ⟨i,b⟩:=y;obtain ⟨hi1,hi2⟩:=hi;simp only at hi1 hi2;refine Bb rfl<|Aa rfl (λh=>?_) (λh=>?_)
   ·simp at h;obtain ⟨t,ht⟩:=Am (l:=ps) (i:=i) (by omega);rw [As ht] at hi2;refine Bb rfl<|Q8 rfl (AA ht)<|AS rfl<|Aj rfl (λ_=>VP holes t) (by simp)<|AS rfl<|Ae (ih (i+1,CP holes t) (by simp only;omega) ⟨by simp only;omega,by simp only;rw [hi2,h.2];simp [Ck]⟩) ⟨M6,BJ⟩ AC rfl
   ·refine Bb rfl<|Ab rfl rfl (congrArg _ ?_);rw [hi2];simp at h;by_cases hlt:i<ps.length
    ·rw [h hlt];rfl
    ·rw [Bh (by omega)];simp [Ck]
  by_cases h1:s=1
  ·subst h1;exact kg [.a,.a,.s] rfl (by simp)<|Ae (J _ (by simp [C3])) ⟨rfl,A8 (by simp),AD⟩ AC rfl
  by_cases h2:s=2
  ·subst h2;exact kg [.a,.a,.a,.s] rfl (by simp)<|Ae (J _ (by simp [C3])) ⟨rfl,A8 (by simp),AD⟩ AC rfl
  by_cases h3:s=3
  ·subst h3;exact kg [.a,.a,.a,.s] rfl (by simp)<|Ae (J _ (by simp [C3])) ⟨rfl,A8 (by simp),AD⟩ AC rfl
  by_cases h4:s=4
  ·subst h4;exact kg (Qy 4 [.s]) rfl (by simp)<|Ae (J _ (by simp [C3])) ⟨rfl,A8 (by simp),AD⟩ AC rfl
  by_cases h5:s=5
  ·subst h5;exact kg (Qy 6 [.s]) rfl (by simp)<|Ae (J _ (by simp [C3])) ⟨rfl,A8 (by simp),AD⟩ AC rfl
  by_cases h6:s=6
  ·subst h6;exact kg (Qy 7 [.s]) rfl (by simp)<|Ae (J _ (by simp [C3])) ⟨rfl,A8 (by simp),AD⟩ AC rfl
  by_cases h7:s=7
  ·subst h7;exact kg (Qy 7 [.s]) rfl (by simp)<|Ae (J _ (by simp [C3])) ⟨rfl,A8 (by simp),AD⟩ AC rfl
  by_cases h8:s=8
  ·subst h8;exact kg (Qy 7 [.a]) rfl (by simp)<|Aj rfl (λ_=>K0 x) (by simp [Ap])<|kg [.s] rfl (by simp)<|Ae (J _ (by simp [C3])) ⟨rfl,A8 (by simp),AD⟩ AC rfl
  by_cases h9:s=9
  ·subst h9;exact kg (Qy 8 [.a]) rfl (by simp)<|Aj rfl (λ_=>MR n 0 99) (by simp [Ap])<|kg [.s] rfl (by simp)<|Ae (J _ (by simp [C3])) ⟨rfl,A8 (by simp),AD⟩ AC rfl
  exact kg [.f,.f,.f,.f,.f,.f,.f,.f,.f,.s] rfl (by simp [h1,h2,h3,h4,h5,h6,h7,h8,h9])<|Ae (J _ (by simp [C3,h1,h2,h3,h4,h5,h6,h7,h8,h9])) ⟨rfl,A8 (by simp),AD⟩ AC rfl
termination_by t=>SizeOf.sizeOf t
decreasing_by
 have:=Ct (AK ht);simp_wf;omega
mutual
def HG:Ty->Bool
 | .mk _ _ x ps=>Eb ps&&decide (x.length<=30)
def Eb:List Ty->Bool
 | []=>true
 | t::r=>HG t&&Eb r
end
theorem Mm:∀(t:Ty),Tq3 47 [.agg (dTyc t)] (.bool (HG t))
 | .mk s n x ps=>by
  refine Bl λhv=>?_;simp [Cx,Ez,dTyc,maxLen] at hv;refine AQ Bf func47 rfl [1,2,3]<|AS rfl<|Ak (λi:Nat=>[(3,.imm (.int .i64 i)),(1,.ref 1 0)]) (λ_=>[(1,some (.immb 25 4 (dTyc (.mk s n x ps))))]) [2,3] (λi=>ps.length-i)
   (λi=>i<=ps.length/\Eb ps=Eb (ps.drop i)) 0 ⟨AF _,rfl⟩ AD AC rfl λi hi ih=>?_
  refine Bb rfl<|Aa rfl (λh=>?_) (λh=>?_)
  ·simp at h;obtain ⟨t,ht⟩:=Am h;have e:=hi.2;rw [As ht] at e;refine Bb rfl<|Q8 rfl (AA ht)<|AS rfl<|Aj rfl (λ_=>Mm t) (by simp)<|AS rfl<|Aa rfl (λh=>?_) (λh=>?_)
   ·refine Bb rfl<|Ab rfl rfl (congrArg _ ?_);simp at h;simp [HG,e,Eb,h]
   ·refine Bb rfl ?_;simp at h;exact Ae (ih (i+1) (by omega) ⟨by omega,by rw [e];simp [Eb,h]⟩) ⟨M6,AC⟩ AC rfl
  ·refine Bb rfl<|Ab rfl rfl (congrArg _ ?_);simp at h;simp only [HG];rw [hi.2,Bh (by omega)];simp [Eb]
   norm_cast
termination_by t=>SizeOf.sizeOf t
decreasing_by
 have:=Ct (AK ht);simp_wf;omega
def kD (t:Ty):Bool:=decide (0<=Ci t 12)&&CP true t
theorem zc2 (t:Ty):Tq3 15 [.agg (dTyc t)] (.bool (kD t)):=by
 refine AQ Bf func15 rfl [1,2,3]<|AS rfl<|Aj rfl (λ_=>Jv t 12 (by decide) (by decide)) (by simp)<|AS rfl<|Aj rfl (λ_=>VP true t) (by simp [Ap])<|AS rfl<|Ab rfl rfl (congrArg _ ?_);simp [kD]
def Fp (t:Ty):Bool:=decide (0<=Ci t 12)&&CP false t
theorem RP (t:Ty):Tq3 20 [.agg (dTyc t)] (.bool (Fp t)):=by
 refine AQ Bf func20 rfl [1,2,3]<|AS rfl<|Aj rfl (λ_=>Jv t 12 (by decide) (by decide)) (by simp)<|AS rfl<|Aj rfl (λ_=>VP false t) (by simp [Ap])<|AS rfl<|Ab rfl rfl (congrArg _ ?_);simp [Fp]
def Cz (t:Ty):Bool:=decide (0<=Ci t 16)&&HG t
theorem Jx (t:Ty):Tq3 11 [.agg (dTyc t)] (.bool (Cz t)):=by
 refine AQ Bf func11 rfl [1,2,3]<|AS rfl<|Aj rfl (λ_=>Jv t 16 (by decide) (by decide)) (by simp)<|AS rfl<|Aj rfl (λ_=>Mm t) (by simp [Ap])<|AS rfl<|Ab rfl rfl (congrArg _ ?_);simp [Cz]
def Fg (s n:Int) (x:Str) (k:Nat):Bool :=
 if s=1\/s=5 then ((k:Int) == 0)&&n == 0&&x == []
 else if s=2 then ((k:Int) == 0)&&n == 0&&ER x
 else if s=3 then ((k:Int) == 0)&&x == []&&D4 n (-1000000000) 1000000000
 else if s=4 then ((k:Int) == 0)&&x == []&&D4 n 0 1
 else if s=6 then decide ((k:Int)<=3)&&n == 0&&E3 x
 else false
mutual
def Em:Ty->Bool
 | .mk s n x ps=>Fg s n x ps.length&&CZ ps
def CZ:List Ty->Bool
 | []=>true
 | t::r=>Em t&&CZ r
end
theorem cC:∀(t:Ty),Tq3 217 [.agg (dTyc t)] (.bool (Em t))
 | .mk s n x ps=>by
  refine Bl λhv=>?_;simp [Cx,Ez,dTyc,maxLen] at hv;refine AQ Bf func217 rfl [1,2,3] ?_;have J:∀is:Bool,is=Fg s n x ps.length->Tq2 Tryz.f217.ntmps (DY []) (Lb bI Tryz.f217.results.toList (.ret (.imm (.bool (Em (.mk s n x ps)))) []))
    [.code (Gx Tryz.f217 4)] [(4,.imm (.bool is)),(3,.imm (.int .i64 ps.length)),(1,.ref 1 0)] [(1,some (.immb 182 4 (dTyc (.mk s n x ps))))] [2,3]:=by
   intro is his;refine Bb rfl<|Ak (λy:Nat×Bool=>[(5,.imm (.int .i64 y.1)),(4,.imm (.bool y.2)),(3,.imm (.int .i64 ps.length)),(1,.ref 1 0)]) (λ_=>[(1,some (.immb 182 4 (dTyc (.mk s n x ps))))]) [2,3] (λy=>ps.length-y.1)
    (λy=>y.1<=ps.length/\Em (.mk s n x ps)=(y.2&&CZ (ps.drop y.1))) (0,is) ⟨AF _,by simp [Em,his]⟩ BJ AC rfl λy hi ih=>?_
   obtain ⟨i,b⟩:=y;obtain ⟨hi1,hi2⟩:=hi;simp only at hi1 hi2;refine Bb rfl<|Aa rfl (λh=>?_) (λh=>?_)
   ·simp at h;obtain ⟨t,ht⟩:=Am (l:=ps) (i:=i) (by omega);rw [As ht] at hi2;exact Bb rfl<|Q8 rfl (AA ht)<|AS rfl<|Aj rfl (λ_=>cC t) (by simp)<|AS rfl<|Ae (ih (i+1,Em t) (by simp only;omega) ⟨by simp only;omega,by simp only;rw [hi2,h.2];simp [CZ]⟩) ⟨M6,AH⟩ AC rfl
   ·refine Bb rfl<|Ab rfl rfl (congrArg _ ?_);rw [hi2];simp at h;by_cases hlt:i<ps.length
    ·rw [h hlt];rfl
    ·rw [Bh (by omega)];simp [CZ]
  by_cases h1:s=1
  ·subst h1;exact kg [.a,.a,.s] rfl (by simp)<|Ae (J _ (by simp [Fg])) ⟨rfl,A8 (by simp),AC⟩ AC rfl
  by_cases h2:s=2
  ·subst h2;exact kg [.a,.a,.a] rfl (by simp)<|Aj rfl (λ_=>Ic x) (by simp [Ap])<|kg [.s] rfl (by simp)<|Ae (J _ (by simp [Fg])) ⟨rfl,A8 (by simp),AC⟩ AC rfl
  by_cases h3:s=3
  ·subst h3;exact kg [.a,.a,.a,.a] rfl (by simp)<|Aj rfl (λ_=>MR n (-1000000000) 1000000000) (by simp [Ap])<|kg [.s] rfl (by simp)<|Ae (J _ (by simp [Fg])) ⟨rfl,A8 (by simp),AC⟩ AC rfl
  by_cases h4:s=4
  ·subst h4;exact kg (Qy 4 [.a]) rfl (by simp)<|Aj rfl (λ_=>MR n 0 1) (by simp [Ap])<|kg [.s] rfl (by simp)<|Ae (J _ (by simp [Fg])) ⟨rfl,A8 (by simp),AC⟩ AC rfl
  by_cases h5:s=5
  ·subst h5;exact kg [.a,.a,.s] rfl (by simp)<|Ae (J _ (by simp [Fg])) ⟨rfl,A8 (by simp),AC⟩ AC rfl
  by_cases h6:s=6
  ·subst h6;exact kg (Qy 5 [.a]) rfl (by simp)<|Aj rfl (λ_=>K0 x) (by simp [Ap])<|kg [.s] rfl (by simp)<|Ae (J _ (by simp [Fg])) ⟨rfl,A8 (by simp),AC⟩ AC rfl
  exact kg [.f,.f,.f,.f,.f,.f,.s] rfl (by simp [h1,h2,h3,h4,h5,h6])<|Ae (J _ (by simp [Fg,h1,h2,h3,h4,h5,h6])) ⟨rfl,A8 (by simp),AC⟩ AC rfl
termination_by t=>SizeOf.sizeOf t
decreasing_by
 have:=Ct (AK ht);simp_wf;omega
mutual
def B1:Tm->Int->Int->Int
 | .mk _ _ _ ks _,l,d=>if l<1\/d<1 then -1 else BT ks (l-1) (d-1)
def BT:List Tm->Int->Int->Int
 | [],l,_=>l
 | t::r,l,d=>if 0<=l then BT r (B1 t l d) d else l
end
mutual
theorem Hl:∀(t:Tm) (l d:Int),-1<=B1 t l d/\(-1<=l->B1 t l d<=l)
 | .mk _ _ _ ks _,l,d=>by
  simp only [B1];by_cases h:l<1\/d<1
  ·rw [if_pos h];omega
  ·rw [if_neg h];have:=JD ks (l-1) (d-1) (by omega);omega
theorem JD:∀(ts:List Tm) (l d:Int),-1<=l -> -1<=BT ts l d/\BT ts l d<=l
 | [],l,d,h=>by simp [BT,h]
 | t::r,l,d,h=>by
  simp only [BT];by_cases h0:0<=l
  ·rw [if_pos h0];have h1:=Hl t l d;have h2:=JD r (B1 t l d) d h1.1;omega
  ·rw [if_neg h0];omega
end
theorem RQ:∀(t:Tm) (l d:Int),-9223372036854775808<=l->l<=9223372036854775807 -> -9223372036854775807<=d->d<=9223372036854775807->Tq3 68 [.agg (Al t),.int .i64 l,.int .i64 d] (.int .i64 (B1 t l d))
 | .mk op n x ks ps,l,d,hl0,hl1,hd0,hd1=>by
  refine Bl λhv=>?_;simp [Cx,Ez,Al,maxLen] at hv;refine AQ Bf func68 rfl [1,2,3]<|AS rfl<|Aa rfl (λh=>?_) (λh=>?_)
  ·refine Bb rfl<|Ab rfl rfl (congrArg _ ?_);simp at h;simp only [B1];rw [if_pos (by omega)]
  simp at h;refine Bb rfl<|Ak (λx:Nat×Int=>[(7,.imm (.int .i64 x.1)),(1,.imm (.int .i64 x.2)),(2,.imm (.int .i64 d)),(3,.ref 1 0)]) (λ_=>[(1,some (.immb 49 5 (Al (.mk op n x ks ps))))]) [2,3] (λx=>ks.length-x.1)
   (λy=>y.1<=ks.length/\B1 (.mk op n x ks ps) l d=BT (ks.drop y.1) y.2 (d-1) /\ -1<=y.2/\y.2<l) (0,l-1)
   ⟨AF _,by simp only [B1,WG];rw [if_neg (by omega)],by simp only;omega,by simp only;omega⟩ ⟨rfl,M6,AD⟩ AC rfl λy hi ih=>?_
  obtain ⟨i,m⟩:=y;obtain ⟨hi1,hi2,hi3,hi4⟩:=hi;simp only at hi1 hi2 hi3 hi4;refine Bb rfl<|Aa rfl (λh=>?_) (λh=>?_)
  ·simp at h;obtain ⟨t,ht⟩:=Am (l:=ks) (i:=i) (by omega);rw [As ht] at hi2;refine Bb rfl<|Q8 rfl (E5 ht)<|AS rfl ?_;have hw:IntKind.i64.wrap (d-1)=d-1:=BW (by omega) (by omega);refine Aj rfl (v:=.int .i64 (B1 t m (d-1))) (λ_=>by rw [hw];exact RQ t m (d-1) (by omega) (by omega) (by omega) (by omega)) (by simp)<|AS rfl ?_;have hb:=Hl t m (d-1);exact Ae (ih (i+1,B1 t m (d-1)) (by simp only;omega) ⟨by simp only;omega,by simp only;rw [hi2];simp only [BT];rw [if_pos h.2],by simp only;omega,by simp only;omega⟩) ⟨M6,AH⟩ AC rfl
  ·refine Bb rfl<|Ab rfl rfl (congrArg _ ?_);rw [hi2];simp at h;by_cases hlt:i<ks.length
   ·obtain ⟨t,ht⟩:=Am hlt;rw [As ht];simp only [BT];rw [if_neg (by omega)]
   ·rw [Bh (by omega)];simp [BT]
termination_by t=>SizeOf.sizeOf t
decreasing_by
 have:=Ct (AK ht);simp_wf;omega
def Bq (n:Int) (x:Str) (p:Nat) (fn ft fp:Bool):Bool:=(fn||n == 0)&&(ft||x == [])&&(fp||((p:Int) == 0))
theorem BF (op n:Int) (x:Str) (ks:List Tm) (ps:List Ty) (a b c:Bool):Tq3 216 [.agg (Al (.mk op n x ks ps)),.bool a,.bool b,.bool c] (.bool (Bq n x ps.length a b c)):=by
 refine AQ Bf func216 rfl [1,2,3]<|kg [] rfl (by cases a <;> cases b <;> cases c <;> simp)<|Ab rfl rfl (congrArg _ ?_);cases a <;> cases b <;> cases c <;> simp [Bq]
mutual
def B9:Ty->Nat
 | .mk _ _ _ ps=>1+A1 ps
def A1:List Ty->Nat
 | []=>0
 | t::r=>B9 t+A1 r
end
mutual
theorem Fa:∀(t:Ty) (l:Int),0<=Ci t l->Ci t l+B9 t=l
 | .mk _ _ _ ps,l,h=>by
  simp only [Ci] at h ⊢;by_cases h0:l<1
  ·rw [if_pos h0] at h;omega
  ·rw [if_neg h0] at h ⊢;have:=JB ps (l-1) h;simp only [B9];omega
theorem JB:∀(ts:List Ty) (l:Int),0<=Cj ts l->Cj ts l+A1 ts=l
 | [],l,h=>by simp [Cj,A1]
 | t::r,l,h=>by
  simp only [Cj] at h ⊢;by_cases h0:0<=l
  ·rw [if_pos h0] at h ⊢;have h1:=JB r (Ci t l) h;have h2:=JC r (Ci t l) (IT t l).1;have h3:=Fa t l (by omega);simp only [A1];omega
  ·rw [if_neg h0] at h;omega
end
mutual
def B2:Ty->List Str
 | .mk s _ x ps=>if s=2 then [x] else AR ps
def AR:List Ty->List Str
 | []=>[]
 | t::r=>B2 t++AR r
end
mutual
theorem LG:∀t:Ty,(B2 t).length<=B9 t
 | .mk s _ x ps=>by
  simp only [B2,B9]
  split
  ·simp
  ·have:=HL ps;omega
theorem HL:∀ts:List Ty,(AR ts).length<=A1 ts
 | []=>by simp [AR]
 | t::r=>by
  have h1:=LG t;have h2:=HL r;simp only [AR,A1,AZ];omega
end
theorem Fl (a b:List Ty):AR (a++b)=AR a++AR b:=by
 induction a with
 | nil=>rfl
 | cons t r ih=>simp [AR,ih]
theorem Ee (a b:List Ty):A1 (a++b)=A1 a+A1 b:=by
 induction a with
 | nil=>simp [A1]
 | cons t r ih=>simp [A1,ih];omega
theorem EF {t:Ty} (h:ps[i]?=some t):A1 (ps.take i)+B9 t<=A1 ps:=by
 have e:ps=ps.take i++t::ps.drop (i+1):=by rw [<- As h,cQ]
 have:=congrArg A1 e;rw [Ee] at this;simp only [A1] at this;omega
theorem RC (l:List Str):∀c∈E6 l,c.length=1:=by
 intro c hc;simp only [E6,Cc] at hc;obtain ⟨a,_,rfl⟩:=hc;rfl
theorem Kz:∀(t:Ty),B9 t<=1000000->Tq3 155 [.agg (dTyc t)] (.sl (E6 (B2 t)))
 | .mk s n x ps,hN=>by
  refine Bl λhv=>?_;simp [Cx,Ez,dTyc,maxLen] at hv;refine AQ Bf func155 rfl [1,2,3,4,5]<|AS rfl<|Aa rfl (λh=>?_) (λh=>?_)
  ·refine Bb rfl<|Ab rfl rfl (congrArg _ ?_);simp at h;simp [B2,h,E6]
  simp at h;have hNp:A1 ps<=1000000:=by simp only [B9] at hN;omega
  refine Bb rfl<|Ak (λy:Nat×Bool×List (List V)=>[(4,.imm (.int .i64 y.1)),(3,match y.2.1 with | false=>.nils | true=>.own 2 y.2.2.length),(1,.ref 1 0)])
   (λy=>match y.2.1 with | false=>[(1,some (.immb 182 4 (dTyc (.mk s n x ps))))] | true=>[(2,some (.row 9 1 y.2.2)),(1,some (.immb 182 4 (dTyc (.mk s n x ps))))]) [3,4] (λy=>ps.length-y.1)
   (λy=>y.1<=ps.length/\E6 (AR (ps.take y.1))=y.2.2/\(y.2.1=false->y.2.2=[])) (0,false,[]) ⟨AF _,rfl,λ_=>rfl⟩ AH AC rfl λy hi ih=>?_
  obtain ⟨i,b,es⟩:=y;obtain ⟨hi1,hi2,hi3⟩:=hi;simp only at hi1 hi2 hi3;cases b with
  | false =>
   have hi3:=hi3 rfl;subst hi3;refine Bb rfl<|Aa rfl (λh=>?_) (λh=>?_)
   ·simp at h;obtain ⟨t,ht⟩:=Am h;have hnt:=EF ht;have hlt:=LG t;have hl2:=HL (ps.take i);have hlen:=congrArg List.length hi2;simp at hlen;exact Bb rfl<|Q8 rfl (AA ht)<|AS rfl<|Aj rfl (λ_=>Kz t (by omega)) (by simp)<|AS rfl<|Bn Bf rfl ⟨RC _,by simp [maxLen];omega,by simp;omega,trivial⟩<|AS rfl<|Bo 2 3 rfl<|Ae (ih (i+1,true,[]++E6 (B2 t)) (by simp only;omega) ⟨by simp only;omega,by simp only;rw [Bk ht,Fl,Pd,hi2];simp [AR],λh=>by cases h⟩) ⟨A8 (BW (by simp only;omega) (by simp only;omega)),AD⟩ AD rfl
   ·refine Bb rfl<|Ag ⟨_,rfl,?_,trivial⟩;simp at h;rw [CQ (by omega)] at hi2;simp only [B2];rw [if_neg (by assumption),hi2];rfl
  | true =>
   refine Bb rfl<|Aa rfl (λh=>?_) (λh=>?_)
   ·simp at h;obtain ⟨t,ht⟩:=Am h;have hnt:=EF ht;have hlt:=LG t;have hl2:=HL (ps.take i);have hlen:=congrArg List.length hi2;simp at hlen;exact Bb rfl<|Q8 rfl (AA ht)<|AS rfl<|Aj rfl (λ_=>Kz t (by omega)) (by simp)<|AS rfl<|Bn Bf rfl ⟨RC _,by simp [maxLen];omega,by simp;omega,trivial⟩<|AS rfl<|Bo 2 3 rfl<|Ae (ih (i+1,true,es++E6 (B2 t)) (by simp only;omega) ⟨by simp only;omega,by simp only;rw [Bk ht,Fl,Pd,hi2];simp [AR],λh=>by cases h⟩) ⟨A8 (BW (by simp only;omega) (by simp only;omega)),AD⟩ AD rfl
   ·refine Bv 2 rfl<|Bb rfl<|Ag ⟨_,rfl,?_,trivial⟩;simp at h;rw [CQ (by omega)] at hi2;simp only [B2];rw [if_neg (by assumption),hi2];rfl
termination_by t=>SizeOf.sizeOf t
decreasing_by
 all_goals
  have:=Ct (AK ht);simp_wf;omega
def BO (pre:List Str):List Str->Bool
 | []=>true
 | x::r=>!BS pre x&&BO (pre++[x]) r
def KL (l:List Str):Bool:=BO [] l
theorem iS (l:List Str) (n:Nat):(E6 l).take n=E6 (l.take n):=by simp [E6,Da]
theorem jL (l:List Str):Tq3 218 [.sl (E6 l)] (.bool (KL l)):=by
 refine Bl λhv=>?_;simp [Cx,Ez,maxLen] at hv;refine AQ Bf func218 rfl [1,2]<|AS rfl<|Ak (λi:Nat=>[(3,.imm (.int .i64 i)),(0,.imm (.sl (E6 l)))]) (λ_=>[]) [1] (λi=>l.length-i) (λi=>i<=l.length/\KL l=BO (l.take i) (l.drop i)) 0
  ⟨AF _,rfl⟩ AD trivial rfl λi hi ih=>?_
 refine Bb rfl<|Aa rfl (λh=>?_) (λh=>?_)
 ·simp at h;obtain ⟨t,ht⟩:=Am h;have e:=hi.2;rw [As ht] at e;refine kd [] rfl (by simp;exact ⟨by omega,RC l⟩)<|ki rfl (c:=[.str t]) (λ_=>⟨by simp,by simpa using RD ht,rfl⟩) (by simp)<|AS rfl<|Aj rfl (v:=.bool (BS (l.take i) t)) (λ_=>?_) (by simp) ?_
  ·have:=bE (l.take i) t;rw [<- iS] at this;exact this
  refine kg [] rfl (by first | exact ⟨by kernel_rfl,trivial⟩ | simp)<|Aa rfl (λh=>?_) (λh=>?_)
  ·refine Bb rfl<|Ab rfl rfl (congrArg _ ?_);rw [e];simp [BO,h]
  ·exact Bb rfl<|Ae (ih (i+1) (by omega) ⟨by omega,by rw [e,Bk ht];simp [BO,h]⟩) ⟨M6,AC⟩ trivial rfl
 ·refine Bb rfl<|Ab rfl rfl (congrArg _ ?_);simp at h;rw [hi.2,Bh (by omega)];rfl
def Gg (t:Ty):Bool:=decide (0<=Ci t 12)&&Em t&&KL (B2 t)
theorem yR (t:Ty):Tq3 144 [.agg (dTyc t)] (.bool (Gg t)):=by
 refine AQ Bf func144 rfl [1,2,3]<|AS rfl<|Aj rfl (λ_=>Kx t 12 (by decide) (by decide)) (by simp)<|AS rfl<|Aj rfl (λ_=>cC t) (by simp [Ap])<|AS rfl<|Aj rfl (v:=.sl (E6 (B2 t))) (λhc=>Kz t ?_) (by simp [Ap]) ?_
 ·simp [Ap] at hc;have:=Fa t 12 hc.1;omega
 refine AS rfl<|Aj rfl (λ_=>jL (B2 t)) (by simp [Ap])<|AS rfl<|Ab rfl rfl (congrArg _ ?_);simp [Gg]
def B0 (op n:Int) (x:Str) (k p:Nat):Bool :=
 if op=1 then ((k:Int) == 0)&&Bq n x p true false false&&D4 n (-1000000000) 1000000000
 else if op=2 then ((k:Int) == 0)&&Bq n x p true false false&&D4 n 0 1
 else if op=3\/op=21\/op=25\/op=28 then ((k:Int) == 0)&&Bq n x p false false false
 else if op=4 then ((k:Int) == 0)&&Bq n x p false true false&&ER x
 else if op=5\/op=27 then ((k:Int) == 1)&&Bq n x p false true false&&ER x
 else if op=7 then ((k:Int) == 2)&&Bq n x p false true false&&ER x
 else if op=8 then ((k:Int) == 3)&&Bq n x p false false false
 else if op=14 then decide ((k:Int)<=3)&&Bq n x p false true false&&E3 x
 else if op=15 then D4 p 1 5&&((k:Int) == 1+(p:Int))&&Bq n x p false false true
 else if op=16\/op=17\/op=19\/op=20\/op=23\/op=26 then ((k:Int) == 1)&&Bq n x p false false false
 else if op=24 then ((k:Int) == 1)&&Bq n x p true false false&&D4 n 0 3
 else if op=6\/op=9\/op=10\/op=11\/op=12\/op=13\/op=18\/op=22 then ((k:Int) == 2)&&Bq n x p false false false
 else false
theorem sP (op n:Int) (x:Str) (ks:List Tm) (ps:List Ty):Tq3 143 [.agg (Al (.mk op n x ks ps))] (.bool (B0 op n x ks.length ps.length)):=by
 refine Bl λhv=>?_;simp [Cx,Ez,Al,maxLen] at hv;refine AQ Bf func143 rfl [1,2,3] ?_;by_cases h1:op=1
 ·subst h1;exact kg [.a] rfl (by simp)<|Aj rfl (λ_=>BF 1 n x ks ps true false false) (by simp [Ap])<|AS rfl<|Aj rfl (λ_=>MR n (-1000000000) 1000000000) (by simp [Ap])<|AS rfl<|Ag ⟨_,rfl,tV (congrArg _ (by simp [B0])),trivial⟩
 by_cases h2:op=2
 ·subst h2;exact kg [.a,.a] rfl (by simp)<|Aj rfl (λ_=>BF 2 n x ks ps true false false) (by simp [Ap])<|AS rfl<|Aj rfl (λ_=>MR n 0 1) (by simp [Ap])<|AS rfl<|Ag ⟨_,rfl,tV (congrArg _ (by simp [B0])),trivial⟩
 by_cases h3:op=3
 ·subst h3;exact kg [.a,.a,.a,.a] rfl (by simp)<|Aj rfl (λ_=>BF 3 n x ks ps false false false) (by simp [Ap])<|AS rfl<|Ag ⟨_,rfl,tV (congrArg _ (by simp [B0])),trivial⟩
 by_cases h21:op=21
 ·subst h21;exact kg (Qy 4 [.a]) rfl (by simp)<|Aj rfl (λ_=>BF 21 n x ks ps false false false) (by simp [Ap])<|AS rfl<|Ag ⟨_,rfl,tV (congrArg _ (by simp [B0])),trivial⟩
 by_cases h25:op=25
 ·subst h25;exact kg (Qy 5 [.a]) rfl (by simp)<|Aj rfl (λ_=>BF 25 n x ks ps false false false) (by simp [Ap])<|AS rfl<|Ag ⟨_,rfl,tV (congrArg _ (by simp [B0])),trivial⟩
 by_cases h28:op=28
 ·subst h28;exact kg (Qy 5 [.a]) rfl (by simp)<|Aj rfl (λ_=>BF 28 n x ks ps false false false) (by simp [Ap])<|AS rfl<|Ag ⟨_,rfl,tV (congrArg _ (by simp [B0])),trivial⟩
 by_cases h4:op=4
 ·subst h4;exact kg (Qy 6 [.a]) rfl (by simp)<|Aj rfl (λ_=>BF 4 n x ks ps false true false) (by simp [Ap])<|AS rfl<|Aj rfl (λ_=>Ic x) (by simp [Ap])<|AS rfl<|Ag ⟨_,rfl,tV (congrArg _ (by simp [B0])),trivial⟩
 by_cases h5:op=5
 ·subst h5;exact kg (Qy 8 [.a]) rfl (by simp)<|Aj rfl (λ_=>BF 5 n x ks ps false true false) (by simp [Ap])<|AS rfl<|Aj rfl (λ_=>Ic x) (by simp [Ap])<|AS rfl<|Ag ⟨_,rfl,tV (congrArg _ (by simp [B0])),trivial⟩
 by_cases h27:op=27
 ·subst h27;exact kg (Qy 8 [.a]) rfl (by simp)<|Aj rfl (λ_=>BF 27 n x ks ps false true false) (by simp [Ap])<|AS rfl<|Aj rfl (λ_=>Ic x) (by simp [Ap])<|AS rfl<|Ag ⟨_,rfl,tV (congrArg _ (by simp [B0])),trivial⟩
 by_cases h7:op=7
 ·subst h7;exact kg (Qy 9 [.a]) rfl (by simp)<|Aj rfl (λ_=>BF 7 n x ks ps false true false) (by simp [Ap])<|AS rfl<|Aj rfl (λ_=>Ic x) (by simp [Ap])<|AS rfl<|Ag ⟨_,rfl,tV (congrArg _ (by simp [B0])),trivial⟩
 by_cases h8:op=8
 ·subst h8;exact kg (Qy 10 [.a]) rfl (by simp)<|Aj rfl (λ_=>BF 8 n x ks ps false false false) (by simp [Ap])<|AS rfl<|Ag ⟨_,rfl,tV (congrArg _ (by simp [B0])),trivial⟩
 by_cases h14:op=14
 ·subst h14;exact kg (Qy 11 [.a]) rfl (by simp)<|Aj rfl (λ_=>BF 14 n x ks ps false true false) (by simp [Ap])<|AS rfl<|Aj rfl (λ_=>K0 x) (by simp [Ap])<|AS rfl<|Ag ⟨_,rfl,tV (congrArg _ (by simp [B0])),trivial⟩
 by_cases h15:op=15
 ·subst h15;refine kg (Qy 12 [.a]) rfl (by simp)<|Aj rfl (v:=.bool (D4 ps.length 1 5)) (λ_=>by have:=MR ps.length 1 5;simpa using this) (by simp [Ap])<|AS rfl<|Aj rfl (λ_=>BF 15 n x ks ps false false true) (by simp [Ap])<|AS rfl ?_;have hw:IntKind.i64.wrap (1+(ps.length:Int))=1+ps.length\/D4 ps.length 1 5=false:=by
   by_cases hp:ps.length<=5
   ·exact .inl (BW (by omega) (by omega))
   ·exact .inr (by simp [D4];omega)
  refine Ab rfl rfl (congrArg _ ?_);rcases hw with hw | hw <;> simp [B0,hw]
 by_cases h16:op=16
 ·subst h16;exact kg (Qy 14 [.a]) rfl (by simp)<|Aj rfl (λ_=>BF 16 n x ks ps false false false) (by simp [Ap])<|AS rfl<|Ag ⟨_,rfl,tV (congrArg _ (by simp [B0])),trivial⟩
 by_cases h17:op=17
 ·subst h17;exact kg (Qy 15 [.a]) rfl (by simp)<|Aj rfl (λ_=>BF 17 n x ks ps false false false) (by simp [Ap])<|AS rfl<|Ag ⟨_,rfl,tV (congrArg _ (by simp [B0])),trivial⟩
 by_cases h19:op=19
 ·subst h19;exact kg (Qy 16 [.a]) rfl (by simp)<|Aj rfl (λ_=>BF 19 n x ks ps false false false) (by simp [Ap])<|AS rfl<|Ag ⟨_,rfl,tV (congrArg _ (by simp [B0])),trivial⟩
 by_cases h20:op=20
 ·subst h20;exact kg (Qy 17 [.a]) rfl (by simp)<|Aj rfl (λ_=>BF 20 n x ks ps false false false) (by simp [Ap])<|AS rfl<|Ag ⟨_,rfl,tV (congrArg _ (by simp [B0])),trivial⟩
 by_cases h23:op=23
 ·subst h23;exact kg (Qy 18 [.a]) rfl (by simp)<|Aj rfl (λ_=>BF 23 n x ks ps false false false) (by simp [Ap])<|AS rfl<|Ag ⟨_,rfl,tV (congrArg _ (by simp [B0])),trivial⟩
 by_cases h26:op=26
 ·subst h26;exact kg (Qy 18 [.a]) rfl (by simp)<|Aj rfl (λ_=>BF 26 n x ks ps false false false) (by simp [Ap])<|AS rfl<|Ag ⟨_,rfl,tV (congrArg _ (by simp [B0])),trivial⟩
 by_cases h24:op=24
 ·subst h24;exact kg (Qy 19 [.a]) rfl (by simp)<|Aj rfl (λ_=>BF 24 n x ks ps true false false) (by simp [Ap])<|AS rfl<|Aj rfl (λ_=>MR n 0 3) (by simp [Ap])<|AS rfl<|Ag ⟨_,rfl,tV (congrArg _ (by simp [B0])),trivial⟩
 by_cases h6:op=6
 ·subst h6;exact kg (Qy 21 [.a]) rfl (by simp)<|Aj rfl (λ_=>BF 6 n x ks ps false false false) (by simp [Ap])<|AS rfl<|Ag ⟨_,rfl,tV (congrArg _ (by simp [B0])),trivial⟩
 by_cases h9:op=9
 ·subst h9;exact kg (Qy 22 [.a]) rfl (by simp)<|Aj rfl (λ_=>BF 9 n x ks ps false false false) (by simp [Ap])<|AS rfl<|Ag ⟨_,rfl,tV (congrArg _ (by simp [B0])),trivial⟩
 by_cases h10:op=10
 ·subst h10;exact kg (Qy 23 [.a]) rfl (by simp)<|Aj rfl (λ_=>BF 10 n x ks ps false false false) (by simp [Ap])<|AS rfl<|Ag ⟨_,rfl,tV (congrArg _ (by simp [B0])),trivial⟩
 by_cases h11:op=11
 ·subst h11;exact kg (Qy 24 [.a]) rfl (by simp)<|Aj rfl (λ_=>BF 11 n x ks ps false false false) (by simp [Ap])<|AS rfl<|Ag ⟨_,rfl,tV (congrArg _ (by simp [B0])),trivial⟩
 by_cases h12:op=12
 ·subst h12;exact kg (Qy 25 [.a]) rfl (by simp)<|Aj rfl (λ_=>BF 12 n x ks ps false false false) (by simp [Ap])<|AS rfl<|Ag ⟨_,rfl,tV (congrArg _ (by simp [B0])),trivial⟩
 by_cases h13:op=13
 ·subst h13;exact kg (Qy 26 [.a]) rfl (by simp)<|Aj rfl (λ_=>BF 13 n x ks ps false false false) (by simp [Ap])<|AS rfl<|Ag ⟨_,rfl,tV (congrArg _ (by simp [B0])),trivial⟩
 by_cases h18:op=18
 ·subst h18;exact kg (Qy 27 [.a]) rfl (by simp)<|Aj rfl (λ_=>BF 18 n x ks ps false false false) (by simp [Ap])<|AS rfl<|Ag ⟨_,rfl,tV (congrArg _ (by simp [B0])),trivial⟩
 by_cases h22:op=22
 ·subst h22;exact kg (Qy 27 [.a]) rfl (by simp)<|Aj rfl (λ_=>BF 22 n x ks ps false false false) (by simp [Ap])<|AS rfl<|Ag ⟨_,rfl,tV (congrArg _ (by simp [B0])),trivial⟩
 exact kg [.f,.f,.f,.f,.f,.f,.f,.f,.f,.f,.f,.f,.f,.f,.f,.f,.f,.f,.f,.f,.f,.f,.f,.f,.f,.f,.f,.f] rfl (by simp [h1,h2,h3,h21,h25,h28,h4,h5,h27,h7,h8,h14,h15,h16,h17,h19,h20,h23,h26,h24,h6,h9,h10,h11,h12,h13,h18,h22])<|Ag ⟨_,rfl,tV (congrArg _ (by simp [B0,h1,h2,h3,h21,h25,h28,h4,h5,h27,h7,h8,h14,h15,h16,h17,h19,h20,h23,h26,h24,h6,h9,h10,h11,h12,h13,h18,h22])),trivial⟩
mutual
def Cb:Tm->Bool
 | .mk op n x ks ps=>B0 op n x ks.length ps.length&&ps.all Gg&&CY ks
def CY:List Tm->Bool
 | []=>true
 | t::r=>Cb t&&CY r
end
theorem Wy:∀(t:Tm),Tq3 85 [.agg (Al t)] (.bool (Cb t))
 | .mk op n x ks ps=>by
  refine Bl λhv=>?_;simp [Cx,Ez,Al,maxLen] at hv;refine AQ Bf func85 rfl [1,2,3]<|AS rfl<|Aj rfl (λ_=>sP op n x ks ps) (by simp)<|AS rfl<|Aa rfl (λh=>?_) (λh=>?_)
  ·refine Bb rfl<|Ab rfl rfl (congrArg _ ?_);simp at h;simp [Cb,h]
  simp at h;have hx:B0 op n x ks.length ps.length=true:=h;clear h;refine Bb rfl<|Ak (λi:Nat=>[(3,.imm (.int .i64 i)),(1,.ref 1 0)]) (λ_=>[(1,some (.immb 49 5 (Al (.mk op n x ks ps))))]) [2,3] (λi=>ps.length-i)
   (λi=>i<=ps.length/\(List.all · Gg) ps=(List.all · Gg) (ps.drop i)) 0 ⟨AF _,rfl⟩ AD AC rfl λi hi ih=>?_
  refine Bb rfl<|Aa rfl (λh=>?_) (λh=>?_)
  ·simp at h;obtain ⟨t,ht⟩:=Am h;have e:=hi.2;rw [As ht] at e;refine Bb rfl<|Q8 rfl (AA ht)<|AS rfl<|Aj rfl (λ_=>yR t) (by simp)<|AS rfl<|Aa rfl (λh=>?_) (λh=>?_)
   ·refine Bb rfl<|Ab rfl rfl (congrArg _ ?_);simp at h;simp [Cb,hx,e,CY,Zi,h]
   ·refine Bb rfl ?_;simp at h;exact Ae (ih (i+1) (by omega) ⟨by omega,by rw [e];simp [CY,Zi,h]⟩) ⟨M6,AC⟩ AC rfl
  simp at h;have hps:(List.all · Gg) ps=true:=by rw [hi.2,Bh (by omega)];rfl
  clear ih hi h;refine Bb rfl<|Ak (λi:Nat=>[(4,.imm (.int .i64 i)),(1,.ref 1 0)]) (λ_=>[(1,some (.immb 49 5 (Al (.mk op n x ks ps))))]) [2,3] (λi=>ks.length-i)
   (λi=>i<=ks.length/\CY ks=CY (ks.drop i)) 0 ⟨AF _,rfl⟩ AD AC rfl λi hi ih=>?_
  refine Bb rfl<|Aa rfl (λh=>?_) (λh=>?_)
  ·simp at h;obtain ⟨t,ht⟩:=Am h;have e:=hi.2;rw [As ht] at e;refine Bb rfl<|Q8 rfl (E5 ht)<|AS rfl<|Aj rfl (λ_=>Wy t) (by simp)<|AS rfl<|Aa rfl (λh=>?_) (λh=>?_)
   ·refine Bb rfl<|Ab rfl rfl (congrArg _ ?_);simp at h;simp [Cb,hx,e,CY,Zi,h]
   ·refine Bb rfl ?_;simp at h;exact Ae (ih (i+1) (by omega) ⟨by omega,by rw [e];simp [CY,Zi,h]⟩) ⟨M6,AC⟩ AC rfl
  simp at h;have hks:CY ks=true:=by rw [hi.2,Bh (by omega)];rfl
  clear ih hi h;refine Bb rfl<|Ab rfl rfl (congrArg _ ?_);simp only [Cb];have hps:ps.all Gg=true:=hps;rw [hps,hks];simp [hx]
termination_by t=>SizeOf.sizeOf t
decreasing_by
 have:=Ct (AK ht);simp_wf;omega
def O5 (t:Tm):Bool:=decide (0<=B1 t 60 14)&&Cb t
theorem dV (t:Tm):Tq3 29 [.agg (Al t)] (.bool (O5 t)):=by
 refine AQ Bf func29 rfl [1,2,3]<|AS rfl<|Aj rfl (λ_=>RQ t 60 14 (by decide) (by decide) (by decide) (by decide)) (by simp)<|AS rfl<|Aj rfl (λ_=>Wy t) (by simp [Ap])<|AS rfl<|Ab rfl rfl (congrArg _ ?_);simp [O5]
theorem Fm {f:α->β} {l:List α} {t:α} (h:l[i]?=some t):(l.map f)[i]?=some (f t):=by simp [h]
@[simp] theorem dCdc_length (c:Cd):(CK c).length=2:=rfl
@[simp] theorem dDtc_length (c:Dt):(BE c).length=2:=rfl
@[simp] theorem dMdc_length (m:Md):(Du m).length=3:=rfl
@[simp] theorem dFdc_length (c:Fd):(Cg c).length=15:=by simp [Cg]
def LW (c:Cd):Bool:=E3 c.name&&decide ((c.args.length:Int)<=3)&&c.args.all Fp
def H2 (d:Dt):Bool:=E3 d.name&&D4 d.cons.length 1 5&&d.cons.all LW
def MW (f:Fd):Bool:=ER f.name&&ER f.param&&Fp f.from_&&Fp f.to_&&O5 f.body
def D6 (m:Md):Bool:=ER m.name&&decide ((m.datas.length:Int)<=4)&&D4 m.funs.length 1 5&&m.datas.all H2&&m.funs.all MW
theorem uI (d:Dt):Tq3 84 [.agg (BE d)] (.bool (H2 d)):=by
 obtain ⟨nm,cs⟩:=d;refine Bl λhv=>?_;simp [Cx,Ez,BE,maxLen] at hv;refine AQ Bf func84 rfl [1,2,3]<|AS rfl<|Aj rfl (λ_=>K0 nm) (by simp)<|AS rfl<|Aj rfl (v:=.bool (D4 cs.length 1 5)) (λ_=>by have:=MR cs.length 1 5;simpa using this) (by simp [Ap])<|AS rfl<|Aa rfl (λh=>?_) (λh=>?_)
 ·refine Bb rfl<|Ab rfl rfl (congrArg _ ?_);simp at h;simp [H2];grind
 have hx:(E3 nm&&D4 cs.length 1 5)=true:=by simp at h ⊢;grind
 clear h;refine Bb rfl<|Ak (λi:Nat=>[(3,.imm (.int .i64 i)),(1,.ref 1 0)]) (λ_=>[(1,some (.immb 113 2 (BE ⟨nm,cs⟩)))]) [2,3] (λi=>cs.length-i)
  (λi=>i<=cs.length/\cs.all LW=(cs.drop i).all LW) 0 ⟨AF _,rfl⟩ AD AC rfl λi hi ih=>?_
 refine Bb rfl<|Aa rfl (λh=>?_) (λh=>?_)
 ·simp at h;obtain ⟨c,hc⟩:=Am h;have e:=hi.2;rw [As hc] at e;refine Bb rfl<|Q8 rfl (Fm hc) ?_;obtain ⟨cn,ag⟩:=c;refine AS rfl<|Aj rfl (λ_=>K0 cn) (by simp)<|AS rfl<|Aa rfl (λh=>?_) (λh=>?_)
  ·refine Bb rfl<|Ab rfl rfl (congrArg _ ?_);simp at h;have:LW ⟨cn,ag⟩=false:=by simp [LW];grind
   simp [H2,e,this]
  have hy:(E3 cn&&decide ((ag.length:Int)<=3))=true:=by simp at h ⊢;grind
  have hal:ag.length<=6:=by simp at hy;omega
  clear h;refine Bb rfl<|Ak (λj:Nat=>[(5,.imm (.int .i64 j)),(4,.ref 2 0),(3,.imm (.int .i64 i)),(1,.ref 1 0)]) (λ_=>[(2,some (.immb 178 2 (CK ⟨cn,ag⟩))),(1,some (.immb 113 2 (BE ⟨nm,cs⟩)))]) [3] (λj=>ag.length-j)
   (λj=>j<=ag.length/\ag.all Fp=(ag.drop j).all Fp) 0 ⟨AF _,rfl⟩ BJ AD rfl λj hj ihj=>?_
  refine Bb rfl<|Aa rfl (λh=>?_) (λh=>?_)
  ·simp at h;obtain ⟨t,ht⟩:=Am h;have ej:=hj.2;rw [As ht] at ej;refine Bb rfl<|Q8 rfl (AA ht)<|AS rfl<|Aj rfl (λ_=>RP t) (by simp)<|AS rfl<|Aa rfl (λh=>?_) (λh=>?_)
   ·refine Bb rfl<|Ab rfl rfl (congrArg _ ?_);simp at h;have:LW ⟨cn,ag⟩=false:=by simp only [LW];rw [ej];simp [h]
    simp [H2,e,this]
   ·refine Bb rfl ?_;simp at h;exact Ae (ihj (j+1) (by omega) ⟨by omega,by rw [ej];simp [h]⟩) ⟨M6,AH⟩ AD rfl
  ·simp at h;refine Bb rfl ?_;have:LW ⟨cn,ag⟩=true:=by
    simp only [LW];rw [hj.2,Bh (by omega)];simpa using hy
   exact Ae (ih (i+1) (by omega) ⟨by omega,by rw [e];simp [this]⟩) ⟨M6,AC⟩ AC rfl
 ·refine Bb rfl<|Ab rfl rfl (congrArg _ ?_);simp at h;simp only [H2];rw [hi.2,Bh (by omega)];simpa using hx.symm
theorem Uh (m:Md):Tq3 27 [.agg (Du m)] (.bool (D6 m)):=by
 obtain ⟨nm,ds,fs⟩:=m;refine Bl λhv=>?_;simp [Cx,Ez,Du,maxLen] at hv;refine AQ Bf func27 rfl [1,2,3]<|AS rfl<|Aj rfl (λ_=>Ic nm) (by simp)<|AS rfl<|Aj rfl (v:=.bool (D4 fs.length 1 5)) (λ_=>by have:=MR fs.length 1 5;simpa using this) (by simp [Ap])<|AS rfl<|Aa rfl (λh=>?_) (λh=>?_)
 ·refine Bb rfl<|Ab rfl rfl (congrArg _ ?_);simp at h;simp [D6];grind
 have hx:(ER nm&&decide ((ds.length:Int)<=4)&&D4 fs.length 1 5)=true:=by simp at h ⊢;grind
 clear h;refine Bb rfl<|Ak (λi:Nat=>[(3,.imm (.int .i64 i)),(1,.ref 1 0)]) (λ_=>[(1,some (.immb 43 3 (Du ⟨nm,ds,fs⟩)))]) [2,3] (λi=>ds.length-i)
  (λi=>i<=ds.length/\ds.all H2=(ds.drop i).all H2) 0 ⟨AF _,rfl⟩ AD AC rfl λi hi ih=>?_
 refine Bb rfl<|Aa rfl (λh=>?_) (λh=>?_)
 ·simp at h;obtain ⟨c,hc⟩:=Am h;have e:=hi.2;rw [As hc] at e;refine Bb rfl<|Q8 rfl (Fm hc)<|AS rfl<|Aj rfl (λ_=>uI c) (by simp)<|AS rfl<|Aa rfl (λh=>?_) (λh=>?_)
  ·refine Bb rfl<|Ab rfl rfl (congrArg _ ?_);simp at h;simp [D6,e,h]
  ·refine Bb rfl ?_;simp at h;exact Ae (ih (i+1) (by omega) ⟨by omega,by rw [e];simp [h]⟩) ⟨M6,AC⟩ AC rfl
 simp at h;have hds:ds.all H2=true:=by rw [hi.2,Bh (by omega)];rfl
 clear ih hi h;refine Bb rfl<|Ak (λi:Nat=>[(4,.imm (.int .i64 i)),(1,.ref 1 0)]) (λ_=>[(1,some (.immb 43 3 (Du ⟨nm,ds,fs⟩)))]) [2,3] (λi=>fs.length-i)
  (λi=>i<=fs.length/\fs.all MW=(fs.drop i).all MW) 0 ⟨AF _,rfl⟩ AD AC rfl λi hi ih=>?_
 refine Bb rfl<|Aa rfl (λh=>?_) (λh=>?_)
 ·simp at h;obtain ⟨c,hc⟩:=Am h;have e:=hi.2;rw [As hc] at e;refine Bb rfl<|Q8 rfl (Fm hc) ?_;obtain ⟨fnm,fpa,⟨s1,n1,x1,p1⟩,⟨s2,n2,x2,p2⟩,⟨op,n3,x3,ks,p3⟩⟩:=c;refine AS rfl<|Aj rfl (λ_=>Ic fnm) (by simp [Ap])<|AS rfl<|Aj rfl (λ_=>Ic fpa) (by simp [Ap])<|AS rfl<|Aj rfl (λ_=>RP (.mk s1 n1 x1 p1)) (by simp [Ap])<|AS rfl<|Aj rfl (λ_=>RP (.mk s2 n2 x2 p2)) (by simp [Ap])<|AS rfl<|Aj rfl (λ_=>dV (.mk op n3 x3 ks p3)) (by simp [Ap])<|AS rfl<|Aa rfl (λh=>?_) (λh=>?_)
  ·refine Bb rfl<|Ab rfl rfl (congrArg _ ?_);simp at h;have:MW ⟨fnm,fpa,.mk s1 n1 x1 p1,.mk s2 n2 x2 p2,.mk op n3 x3 ks p3⟩=false:=by simp [MW];grind
   simp [D6,e,this]
  ·refine Bb rfl ?_;simp at h;have:MW ⟨fnm,fpa,.mk s1 n1 x1 p1,.mk s2 n2 x2 p2,.mk op n3 x3 ks p3⟩=true:=by simp [MW];grind
   exact Ae (ih (i+1) (by omega) ⟨by omega,by rw [e];simp [this]⟩) ⟨M6,AC⟩ AC rfl
 ·refine Bb rfl<|Ab rfl rfl (congrArg _ ?_);simp at h;simp only [D6];rw [hds,hi.2,Bh (by omega)];simpa using hx.symm
def FW:V:=.iface 293 (.agg [])
def kE:TT:=bI++[
 (293,⟨.struct [],true,0,0,[]⟩),
 (195,⟨.struct [(0,3),(1,3)],true,2,16,[.imm (.int .i64 0),.imm (.int .i64 0)]⟩),
 (1,⟨.func,false,1,8,[.imm .nilfn]⟩)]
theorem Bi:TTok prog kE:=.of_eq (l:=[4,3,9,49,25,182,45,47,5,23,22,73,46,180,71,43,178,40,41,113,111,28,293,195,1]) (by kernel_rfl)
theorem td (path:List Pt) (h:run kE n 300 path todo env st ids [] = .at k env' st' ids' ob) (hob:AG ob) (hd:Tq1 n F Q k env' st' ids'):Tq2 n F Q todo env st ids:=L4 Bi Fh 300 path h hob hd
theorem GN (h:run kE n 300 [] todo env st ids [] = .at k env' st' ids' ob) (hd:Tq1 n F Q k env' st' ids') (hob:AG ob:=by simp):Tq2 n F Q todo env st ids:=td [] h hob hd
theorem tdqc (h:run kE n 300 [] todo env st ids [] = .at k env' st' ids' ob) (hd:Tq1 n F Q k env' st' ids') (hob:AG ob:=by simp [Ap]):Tq2 n F Q todo env st ids:=td [] h hob hd
theorem tg (path:List Pt) (h:run kE n 300 path todo env st ids [] = .at k env' st' ids' ob) (hob:AG ob) (hd:Tq1 n F Q k env' st' ids'):Tq1 n F Q todo env st ids:=J4 Bi Fh 300 path h hob hd
theorem Cy (h:run kE n 300 [] todo env st ids [] = .at k env' st' ids' ob) (hd:Tq1 n F Q k env' st' ids') (hob:AG ob:=by simp):Tq1 n F Q todo env st ids:=tg [] h hob hd
theorem tgqc (h:run kE n 300 [] todo env st ids [] = .at k env' st' ids' ob) (hd:Tq1 n F Q k env' st' ids') (hob:AG ob:=by simp [Ap]):Tq1 n F Q todo env st ids:=tg [] h hob hd
theorem ti (h:Se kE n env todo=some ⟨es,m,sz,e,g,ob,some t,todo'⟩) (hc:Ap g->0<=m/\es[m.toNat]?=some c/\c.length=sz) (hob:AG ob) (hk:Tq1 n F Q todo' ((t,gD g (.ip e c 0))::env) st ids):Tq1 n F Q todo env st ids:=HT Bi h hc hob hk
theorem SB (h:Se kE n env todo=some ⟨es,(i:Int),sz,e,g,ob,some t,todo'⟩) (hg:es[i]?=some c) (hk:Tq1 n F Q todo' ((t,gD g (.ip e c 0))::env) st ids) (hl:c.length=sz:=by simp) (hob:AG ob:=by simp):Tq1 n F Q todo env st ids:=ti h (λ_=>⟨by omega,by simpa using hg,hl⟩) hob hk
theorem tizc (h:Se kE n env todo=some ⟨es,(i:Int),sz,e,g,ob,some t,todo'⟩) (hg:es[i]?=some c) (hk:Tq1 n F Q todo' ((t,gD g (.ip e c 0))::env) st ids) (hl:c.length=sz:=by simp) (hob:AG ob:=by simp [Ap]):Tq1 n F Q todo env st ids:=ti h (λ_=>⟨by omega,by simpa using hg,hl⟩) hob hk
theorem jV:Tq3 254 [.bool true] (.tup []):=by
 exact AQ Bi func254 rfl [1,2]<|tg [.a] rfl (by simp)<|BP ⟨_,AD⟩
abbrev Tq4:=IR prog
theorem qX:Tq4 254 [.imm (.bool false)] [] (.pan FW):=by
 exact AQ Bi func254 rfl [1,2]<|tg [.a] rfl (by simp)<|IK rfl rfl rfl rfl
theorem BI (b:Bool) (h:b=true):Tq3 254 [.bool b] (.tup []):=by subst h;exact jV
theorem Cp (b:Bool) (h:b=false):Tq4 254 [.imm (.bool b)] [] (.pan FW):=by subst h;exact qX
def CN (a b:Int):Blk:=.immb 195 2 [.int .i64 a,.int .i64 b]
theorem Hc (n d x:Int) (h0:1<=n) (h1:n<=4611686018427387904) (hx:x<=d):Tq4 190 [.ref 1 0,.imm (.int .i64 x)] [(1,some (CN n d))] (.ret (.imm (.tup [])) [(1,some (CN (n-1) d))]):=by
 have hw:IntKind.i64.wrap (n-1)=n-1:=BW (by omega) (by omega);refine AQ Bi func190 rfl [2,3]<|Cy rfl<|Aj rfl (λ_=>BI _ (by simp [hw];omega)) (by simp)<|Cy rfl<|BP ⟨_,rfl,rfl,?_⟩;simp only [hw];exact AC
theorem Qp (n d x:Int) (h0 : -1<=n) (h1:n<=4611686018427387904) (hx:n<1\/d<x):Tq4 190 [.ref 1 0,.imm (.int .i64 x)] [(1,some (CN n d))] (.pan FW):=by
 have hw:IntKind.i64.wrap (n-1)=n-1:=BW (by omega) (by omega);exact AQ Bi func190 rfl [2,3]<|Cy rfl<|AI [] rfl (by simp) (Cp _ (by simp [hw];omega)) trivial rfl rfl
theorem Gt {t:Ty} (h:ps[i]?=some t):A1 (ps.drop i)=B9 t+A1 (ps.drop (i+1)):=by rw [As h];rfl
theorem KF:∀(t:Ty) (n:Int),(B9 t:Int)<=n->n<=4611686018427387904->Tq4 247 [.ref 1 0,.imm (.agg (dTyc t))] [(1,some (CN n 0))] (.ret (.imm (.tup [])) [(1,some (CN (n-B9 t) 0))])
 | .mk s m x ps,n,h0,h1=>by
  refine EI 1 rfl λhok=>?_;have hv:ps.length<=9223372036854775807:=by
   simp [Cx,Ez,dTyc,maxLen] at hok;have:=hok.1;omega
  refine AQ Bi func247 rfl [2,3,4] ?_;have hN:(1:Int)+A1 ps<=n:=by simp only [B9] at h0;omega
  refine Cy rfl<|C8 rfl (Hc n 0 0 (by omega) h1 (by decide)) Aw rfl<|Cy rfl<|Ak (λi:Nat=>[(11,.imm (.int .i64 i)),(10,.imm (.int .i64 ps.length)),(9,.imm (.sl (dTys ps))),(0,.ref 1 0)]) (λi=>[(1,some (CN (n-1-A1 (ps.take i)) 0))]) [2,3,4] (λi=>ps.length-i)
   (λi=>i<=ps.length) 0 (AF _) ⟨rfl,A8 (by simp),AD⟩ ⟨by simp [A1];rfl,trivial⟩ rfl λi hi ih=>?_
  refine GN rfl<|Aa rfl (λh=>?_) (λh=>?_)
  ·simp at h;obtain ⟨t,ht⟩:=Am h;have hnt:=EF ht;have hnd:=Gt ht;have htk:(A1 (ps.take (i+1)):Int)=A1 (ps.take i)+B9 t:=by rw [Bk ht,Ee];simp [A1]
   exact GN rfl<|SB rfl (AA ht)<|Cy rfl<|C8 rfl (KF t (n-1-A1 (ps.take i)) (by omega) (by omega)) Aw rfl<|Cy rfl<|Ae (ih (i+1) (by omega) (by omega)) ⟨M6,AH⟩ ⟨congrArg (λz=>CN z 0) (by omega),trivial⟩ rfl
  ·refine GN rfl ?_;simp at h;refine BP ⟨_,rfl,rfl,⟨?_,trivial⟩⟩;rw [CQ (by omega)];simp only [B9];exact congrArg (λz=>some (some (CN z 0))) (by omega)
termination_by t=>SizeOf.sizeOf t
decreasing_by
 all_goals
  have:=Ct (AK ht);simp_wf;omega
theorem Xt:∀(t:Ty) (n:Int),n<B9 t -> -1<=n->n<=4611686018427387904->Tq4 247 [.ref 1 0,.imm (.agg (dTyc t))] [(1,some (CN n 0))] (.pan FW)
 | .mk s m x ps,n,h0,hm1,h1=>by
  refine EI 1 rfl λhok=>?_;have hv:ps.length<=9223372036854775807:=by
   simp [Cx,Ez,dTyc,maxLen] at hok;have:=hok.1;omega
  refine AQ Bi func247 rfl [2,3,4] ?_;have hN:n<(1:Int)+A1 ps:=by simp only [B9] at h0;omega
  refine Cy rfl ?_;by_cases hn:n<1
  ·exact AI [(1,1)] rfl (by simp) (Qp n 0 0 (by omega) h1 (.inl hn)) Aw rfl rfl
  refine C8 rfl (Hc n 0 0 (by omega) h1 (by decide)) Aw rfl<|Cy rfl<|Ak (λi:Nat=>[(11,.imm (.int .i64 i)),(10,.imm (.int .i64 ps.length)),(9,.imm (.sl (dTys ps))),(0,.ref 1 0)]) (λi=>[(1,some (CN (n-1-A1 (ps.take i)) 0))]) [2,3,4] (λi=>ps.length-i)
   (λi=>i<=ps.length/\(A1 (ps.take i):Int)<=n-1/\n-1<A1 (ps.take i)+A1 (ps.drop i)) 0 ⟨AF _,by simp [A1];omega,by simp [A1];omega⟩ ⟨rfl,A8 (by simp),AD⟩ ⟨by simp [A1];rfl,trivial⟩ rfl λi hi ih=>?_
  refine GN rfl<|Aa rfl (λh=>?_) (λh=>?_)
  ·simp at h;obtain ⟨t,ht⟩:=Am h;have hnt:=EF ht;have hnd:=Gt ht;have htk:(A1 (ps.take (i+1)):Int)=A1 (ps.take i)+B9 t:=by rw [Bk ht,Ee];simp [A1]
   refine GN rfl<|SB rfl (AA ht)<|Cy rfl ?_;by_cases hle:(B9 t:Int)<=n-1-A1 (ps.take i)
   ·exact C8 rfl (KF t (n-1-A1 (ps.take i)) (by omega) (by omega)) Aw rfl<|Cy rfl<|Ae (ih (i+1) (by omega) ⟨by omega,by omega,by omega⟩) ⟨M6,AH⟩ ⟨congrArg (λz=>CN z 0) (by omega),trivial⟩ rfl
   ·exact AI [(1,1)] rfl (by simp) (Xt t (n-1-A1 (ps.take i)) (by omega) (by omega) (by omega)) Aw rfl rfl
  ·exfalso;simp at h;have:=hi.2;rw [CQ (by omega),Bh (by omega)] at this;simp [A1] at this;omega
termination_by t=>SizeOf.sizeOf t
decreasing_by
 all_goals
  have:=Ct (AK ht);simp_wf;omega
theorem MT:∀(t:Ty) (n:Int),(B9 t:Int)<=n->n<=4611686018427387904->Tq4 284 [.ref 1 0,.imm (.agg (dTyc t))] [(1,some (CN n 0))] (.ret (.imm (.tup [])) [(1,some (CN (n-B9 t) 0))])
 | .mk s m x ps,n,h0,h1=>by
  refine EI 1 rfl λhok=>?_;have hv:ps.length<=9223372036854775807:=by
   simp [Cx,Ez,dTyc,maxLen] at hok;have:=hok.1;omega
  refine AQ Bi func284 rfl [2,3,4] ?_;have hN:(1:Int)+A1 ps<=n:=by simp only [B9] at h0;omega
  refine Cy rfl<|C8 rfl (Hc n 0 0 (by omega) h1 (by decide)) Aw rfl<|Cy rfl<|Ak (λi:Nat=>[(11,.imm (.int .i64 i)),(10,.imm (.int .i64 ps.length)),(9,.imm (.sl (dTys ps))),(0,.ref 1 0)]) (λi=>[(1,some (CN (n-1-A1 (ps.take i)) 0))]) [2,3,4] (λi=>ps.length-i)
   (λi=>i<=ps.length) 0 (AF _) ⟨rfl,A8 (by simp),AD⟩ ⟨by simp [A1];rfl,trivial⟩ rfl λi hi ih=>?_
  refine GN rfl<|Aa rfl (λh=>?_) (λh=>?_)
  ·simp at h;obtain ⟨t,ht⟩:=Am h;have hnt:=EF ht;have hnd:=Gt ht;have htk:(A1 (ps.take (i+1)):Int)=A1 (ps.take i)+B9 t:=by rw [Bk ht,Ee];simp [A1]
   exact GN rfl<|SB rfl (AA ht)<|Cy rfl<|C8 rfl (MT t (n-1-A1 (ps.take i)) (by omega) (by omega)) Aw rfl<|Cy rfl<|Ae (ih (i+1) (by omega) (by omega)) ⟨M6,AH⟩ ⟨congrArg (λz=>CN z 0) (by omega),trivial⟩ rfl
  ·refine GN rfl ?_;simp at h;refine BP ⟨_,rfl,rfl,⟨?_,trivial⟩⟩;rw [CQ (by omega)];simp only [B9];exact congrArg (λz=>some (some (CN z 0))) (by omega)
termination_by t=>SizeOf.sizeOf t
decreasing_by
 all_goals
  have:=Ct (AK ht);simp_wf;omega
theorem cZ:∀(t:Ty) (n:Int),n<B9 t -> -1<=n->n<=4611686018427387904->Tq4 284 [.ref 1 0,.imm (.agg (dTyc t))] [(1,some (CN n 0))] (.pan FW)
 | .mk s m x ps,n,h0,hm1,h1=>by
  refine EI 1 rfl λhok=>?_;have hv:ps.length<=9223372036854775807:=by
   simp [Cx,Ez,dTyc,maxLen] at hok;have:=hok.1;omega
  refine AQ Bi func284 rfl [2,3,4] ?_;have hN:n<(1:Int)+A1 ps:=by simp only [B9] at h0;omega
  refine Cy rfl ?_;by_cases hn:n<1
  ·exact AI [(1,1)] rfl (by simp) (Qp n 0 0 (by omega) h1 (.inl hn)) Aw rfl rfl
  refine C8 rfl (Hc n 0 0 (by omega) h1 (by decide)) Aw rfl<|Cy rfl<|Ak (λi:Nat=>[(11,.imm (.int .i64 i)),(10,.imm (.int .i64 ps.length)),(9,.imm (.sl (dTys ps))),(0,.ref 1 0)]) (λi=>[(1,some (CN (n-1-A1 (ps.take i)) 0))]) [2,3,4] (λi=>ps.length-i)
   (λi=>i<=ps.length/\(A1 (ps.take i):Int)<=n-1/\n-1<A1 (ps.take i)+A1 (ps.drop i)) 0 ⟨AF _,by simp [A1];omega,by simp [A1];omega⟩ ⟨rfl,A8 (by simp),AD⟩ ⟨by simp [A1];rfl,trivial⟩ rfl λi hi ih=>?_
  refine GN rfl<|Aa rfl (λh=>?_) (λh=>?_)
  ·simp at h;obtain ⟨t,ht⟩:=Am h;have hnt:=EF ht;have hnd:=Gt ht;have htk:(A1 (ps.take (i+1)):Int)=A1 (ps.take i)+B9 t:=by rw [Bk ht,Ee];simp [A1]
   refine GN rfl<|SB rfl (AA ht)<|Cy rfl ?_;by_cases hle:(B9 t:Int)<=n-1-A1 (ps.take i)
   ·exact C8 rfl (MT t (n-1-A1 (ps.take i)) (by omega) (by omega)) Aw rfl<|Cy rfl<|Ae (ih (i+1) (by omega) ⟨by omega,by omega,by omega⟩) ⟨M6,AH⟩ ⟨congrArg (λz=>CN z 0) (by omega),trivial⟩ rfl
   ·exact AI [(1,1)] rfl (by simp) (cZ t (n-1-A1 (ps.take i)) (by omega) (by omega) (by omega)) Aw rfl rfl
  ·exfalso;simp at h;have:=hi.2;rw [CQ (by omega),Bh (by omega)] at this;simp [A1] at this;omega
termination_by t=>SizeOf.sizeOf t
decreasing_by
 all_goals
  have:=Ct (AK ht);simp_wf;omega
theorem Un:∀(ts:List Tm) (l d:Int),l<0->BT ts l d<0
 | [],l,d,h=>h
 | t::r,l,d,h=>by simp only [BT];rw [if_neg (by omega)];exact h
theorem KE:∀(t:Tm) (n dp x:Int),0<=n->n<=4611686018427387904->0<=dp->dp<=1000000->0<=x->x<=1000001->0<=B1 t n (dp-x+1)->Tq4 135 [.ref 1 0,.imm (.agg (Al t)),.imm (.int .i64 x)] [(1,some (CN n dp))] (.ret (.imm (.tup [])) [(1,some (CN (B1 t n (dp-x+1)) dp))])
 | .mk op nn tx ks ps,n,dp,x,h0,h1,hd0,hd1,hx0,hx1,hw=>by
  refine EI 1 rfl λhok=>?_;have hv:ks.length<=9223372036854775807:=by
   simp [Cx,Ez,Al,maxLen] at hok;have:=hok.1;omega
  refine AQ Bi func135 rfl [2,3,4] ?_;have hst:¬(n<1\/dp-x+1<1)->B1 (.mk op nn tx ks ps) n (dp-x+1)=BT ks (n-1) (dp-x):=λh=>by
   simp only [B1];rw [if_neg h];congr 1;omega
  refine Cy rfl ?_;by_cases hs:n<1\/dp-x+1<1
  ·exfalso;simp only [B1] at hw;rw [if_pos hs] at hw;omega
  have hs':1<=n/\x<=dp:=by omega
  refine C8 rfl (Hc n dp x (by omega) h1 (by omega)) Aw rfl<|Cy rfl<|Ak (λy:Nat×Int=>[(14,.imm (.int .i64 y.1)),(13,.imm (.int .i64 ks.length)),(12,.imm (.sl (Dq ks))),(0,.ref 1 0),(2,.imm (.int .i64 x))]) (λy=>[(1,some (CN y.2 dp))]) [2,3,4] (λy=>ks.length-y.1)
   (λy=>y.1<=ks.length/\B1 (.mk op nn tx ks ps) n (dp-x+1)=BT (ks.drop y.1) y.2 (dp-x)/\0<=y.2/\y.2<=n) (0,n-1) ⟨AF _,by simp only [WG];exact hst hs,by simp only;omega,by simp only;omega⟩ ⟨rfl,A8 (by simp),AH⟩ AC rfl λy hi ih=>?_
  obtain ⟨i,m⟩:=y;obtain ⟨hi1,hi2,hi3,hi4⟩:=hi;simp only at hi1 hi2 hi3 hi4;refine GN rfl<|Aa rfl (λh=>?_) (λh=>?_)
  ·simp at h;obtain ⟨t,ht⟩:=Am h;rw [As ht] at hi2;simp only [BT] at hi2;rw [if_pos hi3] at hi2;have hb:=Hl t m (dp-x);have hx:IntKind.i64.wrap (x+1)=x+1:=BW (by omega) (by omega);refine GN rfl<|SB rfl (E5 ht)<|Cy rfl ?_;have hdx:dp-(x+1)+1=dp-x:=by omega
   have hz:0<=B1 t m (dp-x):=by
    rw [hi2] at hw;rcases Int.lt_or_le (B1 t m (dp-x)) 0 with hl | hl
    ·exfalso;have:=Un (ks.drop (i+1)) (B1 t m (dp-x)) (dp-x) hl;omega
    ·exact hl
   exact C8 rfl (KE t m dp (IntKind.i64.wrap (x+1)) hi3 (by omega) hd0 hd1 (by omega) (by omega) (by rw [hx,hdx];exact hz)) Aw rfl<|Cy rfl<|Ae (ih (i+1,B1 t m (dp-x)) (by simp only;omega) ⟨by simp only;omega,hi2,by simp only;exact hz,by simp only;omega⟩) ⟨M6,BJ⟩ ⟨congrArg (λz=>CN z dp) (by simp only [hx,hdx]),trivial⟩ rfl
  ·refine GN rfl ?_;simp at h;refine BP ⟨_,rfl,rfl,⟨?_,trivial⟩⟩;rw [Bh (by omega)] at hi2;simp only [BT] at hi2;rw [hi2];rfl
termination_by t=>SizeOf.sizeOf t
decreasing_by
 all_goals
  have:=Ct (AK ht);simp_wf;omega
theorem Xs:∀(t:Tm) (n dp x:Int),0<=n->n<=4611686018427387904->0<=dp->dp<=1000000->0<=x->x<=1000001->B1 t n (dp-x+1)<0->Tq4 135 [.ref 1 0,.imm (.agg (Al t)),.imm (.int .i64 x)] [(1,some (CN n dp))] (.pan FW)
 | .mk op nn tx ks ps,n,dp,x,h0,h1,hd0,hd1,hx0,hx1,hw=>by
  refine EI 1 rfl λhok=>?_;have hv:ks.length<=9223372036854775807:=by
   simp [Cx,Ez,Al,maxLen] at hok;have:=hok.1;omega
  refine AQ Bi func135 rfl [2,3,4] ?_;have hst:¬(n<1\/dp-x+1<1)->B1 (.mk op nn tx ks ps) n (dp-x+1)=BT ks (n-1) (dp-x):=λh=>by
   simp only [B1];rw [if_neg h];congr 1;omega
  refine Cy rfl ?_;by_cases hs:n<1\/dp-x+1<1
  ·exact AI [(1,1)] rfl (by simp) (Qp n dp x (by omega) h1 (by omega)) Aw rfl rfl
  have hs':1<=n/\x<=dp:=by omega
  refine C8 rfl (Hc n dp x (by omega) h1 (by omega)) Aw rfl<|Cy rfl<|Ak (λy:Nat×Int=>[(14,.imm (.int .i64 y.1)),(13,.imm (.int .i64 ks.length)),(12,.imm (.sl (Dq ks))),(0,.ref 1 0),(2,.imm (.int .i64 x))]) (λy=>[(1,some (CN y.2 dp))]) [2,3,4] (λy=>ks.length-y.1)
   (λy=>y.1<=ks.length/\B1 (.mk op nn tx ks ps) n (dp-x+1)=BT (ks.drop y.1) y.2 (dp-x)/\0<=y.2/\y.2<=n) (0,n-1) ⟨AF _,by simp only [WG];exact hst hs,by simp only;omega,by simp only;omega⟩ ⟨rfl,A8 (by simp),AH⟩ AC rfl λy hi ih=>?_
  obtain ⟨i,m⟩:=y;obtain ⟨hi1,hi2,hi3,hi4⟩:=hi;simp only at hi1 hi2 hi3 hi4;refine GN rfl<|Aa rfl (λh=>?_) (λh=>?_)
  ·simp at h;obtain ⟨t,ht⟩:=Am h;rw [As ht] at hi2;simp only [BT] at hi2;rw [if_pos hi3] at hi2;have hb:=Hl t m (dp-x);have hx:IntKind.i64.wrap (x+1)=x+1:=BW (by omega) (by omega);refine GN rfl<|SB rfl (E5 ht)<|Cy rfl ?_;have hdx:dp-(x+1)+1=dp-x:=by omega
   by_cases hz:0<=B1 t m (dp-x)
   ·exact C8 rfl (KE t m dp (IntKind.i64.wrap (x+1)) hi3 (by omega) hd0 hd1 (by omega) (by omega) (by rw [hx,hdx];exact hz)) Aw rfl<|Cy rfl<|Ae (ih (i+1,B1 t m (dp-x)) (by simp only;omega) ⟨by simp only;omega,hi2,by simp only;exact hz,by simp only;omega⟩) ⟨M6,BJ⟩ ⟨congrArg (λz=>CN z dp) (by simp only [hx,hdx]),trivial⟩ rfl
   ·exact AI [(1,1)] rfl (by simp) (Xs t m dp (IntKind.i64.wrap (x+1)) hi3 (by omega) hd0 hd1 (by omega) (by omega) (by rw [hx,hdx];omega)) Aw rfl rfl
  ·exfalso;simp at h;rw [Bh (by omega)] at hi2;simp only [BT] at hi2;omega
termination_by t=>SizeOf.sizeOf t
decreasing_by
 all_goals
  have:=Ct (AK ht);simp_wf;omega
theorem aO {pos:Nat} {c:UInt8} (h:s[pos]?=some c) (hc:c.toNat<128):EK s pos=(c.toNat,1):=by
 have hg:(ByteArray.mk s.toArray).get! pos=c:=by simp [ByteArray.get!,h]
 simp only [EK,Utf8.decode,I5,hg];rw [if_pos hc]
theorem XJ {pos:Nat} {c:UInt8} (h:s[pos]?=some c) (hc:128<=c.toNat):128<=(EK s pos).1:=by
 have hg:(ByteArray.mk s.toArray).get! pos=c:=by simp [ByteArray.get!,h]
 simp only [EK,Utf8.decode,I5,hg,Utf8.runeError];rw [if_neg (by omega)]
 repeat' split
 all_goals first | (simp only;omega) | decide | (simp only [A2,decide_eq_true_eq] at *;omega)
theorem SK (s:Str):Tq3 131 [.str s] (.bool (Fr s)):=by
 refine AQ Bi func131 rfl [1,2]<|Cy rfl<|oS Bi rfl<|Cy rfl<|Ak (λi:Nat=>[(6,.iter 1)]) (λi=>[(1,some (.siter s i))]) [2] (λi=>s.length-i) (λi=>i<=s.length/\Fr s=Fr (s.drop i)) 0
  ⟨AF _,rfl⟩ AC AC rfl λi hi ih=>?_
 refine GN rfl ?_;by_cases hl:i<s.length
 ·obtain ⟨c,hc⟩:=Am hl;have e:=hi.2;rw [OA hc] at e;by_cases hlow:c.toNat<128
  ·refine dC rfl hl (aO hc hlow)<|tg [.a] rfl (by simp)<|Aa rfl (λh=>?_) (λh=>?_)
   ·refine GN rfl<|Ab rfl rfl (congrArg _ ?_);rw [e];simp at h;simp [UInt8.le_iff_toNat_le];omega
   ·refine GN rfl<|Ae (ih (i+1) (by omega) ⟨by omega,?_⟩) AC AC rfl;rw [e];simp at h;simp [UInt8.le_iff_toNat_le];omega
  ·refine dC (dc:=EK s i) rfl hl rfl ?_;have hh:=XJ hc (by omega);refine tg [.a] rfl (by simp)<|Aa rfl (λh=>?_) (λh=>?_)
   ·refine GN rfl<|Ab rfl rfl (congrArg _ ?_);rw [e];simp [UInt8.le_iff_toNat_le];omega
   ·exfalso;simp at h;omega
 ·refine tQ rfl (by omega)<|tg [.a] rfl (by simp)<|Ab rfl rfl (congrArg _ ?_);rw [hi.2,Bh (by omega)];rfl
theorem Z4 (s:Str) (h:Ra s=false):Tq3 132 [.str s] (.bool false):=by
 simp only [Ra,I9,BS,QP] at h;exact AQ Bi func132 rfl [1,2]<|tg [.f,.f,.f,.f,.f,.f,.f,.f,.f,.f,.f,.f,.f,.f,.f,.f,.f,.f,.f,.f,.f,.f,.f,.f,.f,.f,.f,.f,.f] rfl (by simp at h;simp;grind)<|Ab rfl rfl rfl
theorem gR:Tq3 132 [.str [98,111,111,108]] (.bool true):=by
 exact AQ Bi func132 rfl [1,2]<|tg [.a,.a] rfl (by simp)<|Ab rfl rfl rfl
theorem gQ:Tq3 132 [.str [99,101,108,108]] (.bool true):=by
 exact AQ Bi func132 rfl [1,2]<|tg [.a,.a,.a] rfl (by simp)<|Ab rfl rfl rfl
theorem gP:Tq3 132 [.str [99,104,97,110]] (.bool true):=by
 exact AQ Bi func132 rfl [1,2]<|tg [.a,.a,.a,.a] rfl (by simp)<|Ab rfl rfl rfl
theorem gO:Tq3 132 [.str [101,108,115,101]] (.bool true):=by
 exact AQ Bi func132 rfl [1,2]<|tg (Qy 4 [.a]) rfl (by simp)<|Ab rfl rfl rfl
theorem gN:Tq3 132 [.str [102,97,108,115,101]] (.bool true):=by
 exact AQ Bi func132 rfl [1,2]<|tg (Qy 5 [.a]) rfl (by simp)<|Ab rfl rfl rfl
theorem gM:Tq3 132 [.str [102,117,110]] (.bool true):=by
 exact AQ Bi func132 rfl [1,2]<|tg (Qy 6 [.a]) rfl (by simp)<|Ab rfl rfl rfl
theorem gL:Tq3 132 [.str [103,101,116]] (.bool true):=by
 exact AQ Bi func132 rfl [1,2]<|tg (Qy 7 [.a]) rfl (by simp)<|Ab rfl rfl rfl
theorem gK:Tq3 132 [.str [105,102]] (.bool true):=by
 exact AQ Bi func132 rfl [1,2]<|tg (Qy 8 [.a]) rfl (by simp)<|Ab rfl rfl rfl
theorem gJ:Tq3 132 [.str [105,110]] (.bool true):=by
 exact AQ Bi func132 rfl [1,2]<|tg (Qy 9 [.a]) rfl (by simp)<|Ab rfl rfl rfl
theorem gI:Tq3 132 [.str [105,110,112,117,116]] (.bool true):=by
 exact AQ Bi func132 rfl [1,2]<|tg (Qy 10 [.a]) rfl (by simp)<|Ab rfl rfl rfl
theorem ZM:Tq3 132 [.str [105,110,116]] (.bool true):=by
 exact AQ Bi func132 rfl [1,2]<|tg (Qy 11 [.a]) rfl (by simp)<|Ab rfl rfl rfl
theorem ZL:Tq3 132 [.str [106,111,105,110]] (.bool true):=by
 exact AQ Bi func132 rfl [1,2]<|tg (Qy 12 [.a]) rfl (by simp)<|Ab rfl rfl rfl
theorem ZK:Tq3 132 [.str [108,101,116]] (.bool true):=by
 exact AQ Bi func132 rfl [1,2]<|tg (Qy 13 [.a]) rfl (by simp)<|Ab rfl rfl rfl
theorem ZJ:Tq3 132 [.str [109,97,116,99,104]] (.bool true):=by
 exact AQ Bi func132 rfl [1,2]<|tg (Qy 14 [.a]) rfl (by simp)<|Ab rfl rfl rfl
theorem ZI:Tq3 132 [.str [109,111,100,117,108,101]] (.bool true):=by
 exact AQ Bi func132 rfl [1,2]<|tg (Qy 15 [.a]) rfl (by simp)<|Ab rfl rfl rfl
theorem ZH:Tq3 132 [.str [111,117,116]] (.bool true):=by
 exact AQ Bi func132 rfl [1,2]<|tg (Qy 16 [.a]) rfl (by simp)<|Ab rfl rfl rfl
theorem ZG:Tq3 132 [.str [112,97,117,115,101]] (.bool true):=by
 exact AQ Bi func132 rfl [1,2]<|tg (Qy 17 [.a]) rfl (by simp)<|Ab rfl rfl rfl
theorem ZF:Tq3 132 [.str [112,117,116]] (.bool true):=by
 exact AQ Bi func132 rfl [1,2]<|tg (Qy 18 [.a]) rfl (by simp)<|Ab rfl rfl rfl
theorem ZE:Tq3 132 [.str [114,101,115,101,116]] (.bool true):=by
 exact AQ Bi func132 rfl [1,2]<|tg (Qy 19 [.a]) rfl (by simp)<|Ab rfl rfl rfl
theorem ZD:Tq3 132 [.str [115,101,110,100]] (.bool true):=by
 exact AQ Bi func132 rfl [1,2]<|tg (Qy 20 [.a]) rfl (by simp)<|Ab rfl rfl rfl
theorem ZC:Tq3 132 [.str [115,104,105,102,116]] (.bool true):=by
 exact AQ Bi func132 rfl [1,2]<|tg (Qy 21 [.a]) rfl (by simp)<|Ab rfl rfl rfl
theorem ZB:Tq3 132 [.str [115,112,97,119,110]] (.bool true):=by
 exact AQ Bi func132 rfl [1,2]<|tg (Qy 22 [.a]) rfl (by simp)<|Ab rfl rfl rfl
theorem ZA:Tq3 132 [.str [116,97,107,101]] (.bool true):=by
 exact AQ Bi func132 rfl [1,2]<|tg (Qy 23 [.a]) rfl (by simp)<|Ab rfl rfl rfl
theorem Z9:Tq3 132 [.str [116,97,115,107]] (.bool true):=by
 exact AQ Bi func132 rfl [1,2]<|tg (Qy 24 [.a]) rfl (by simp)<|Ab rfl rfl rfl
theorem Z8:Tq3 132 [.str [116,104,101,110]] (.bool true):=by
 exact AQ Bi func132 rfl [1,2]<|tg (Qy 25 [.a]) rfl (by simp)<|Ab rfl rfl rfl
theorem Z7:Tq3 132 [.str [116,114,117,101]] (.bool true):=by
 exact AQ Bi func132 rfl [1,2]<|tg (Qy 26 [.a]) rfl (by simp)<|Ab rfl rfl rfl
theorem Z6:Tq3 132 [.str [116,121,112,101]] (.bool true):=by
 exact AQ Bi func132 rfl [1,2]<|tg (Qy 27 [.a]) rfl (by simp)<|Ab rfl rfl rfl
theorem Z5:Tq3 132 [.str [117,110,105,116]] (.bool true):=by
 exact AQ Bi func132 rfl [1,2]<|tg (Qy 28 [.a]) rfl (by simp)<|Ab rfl rfl rfl
theorem Z3 (s:Str):Tq3 132 [.str s] (.bool (Ra s)):=by
 cases h:Ra s with
 | false=>exact Z4 s h
 | true =>
  simp only [Ra,I9,BS,Hv,beq_iff_eq,Bool.or_false] at h;rcases h with rfl | rfl | rfl | rfl | rfl | rfl | rfl | rfl | rfl | rfl | rfl | rfl | rfl | rfl | rfl | rfl | rfl | rfl | rfl | rfl | rfl | rfl | rfl | rfl | rfl | rfl | rfl | rfl
  ·exact gR
  ·exact gQ
  ·exact gP
  ·exact gO
  ·exact gN
  ·exact gM
  ·exact gL
  ·exact gK
  ·exact gJ
  ·exact gI
  ·exact ZM
  ·exact ZL
  ·exact ZK
  ·exact ZJ
  ·exact ZI
  ·exact ZH
  ·exact ZG
  ·exact ZF
  ·exact ZE
  ·exact ZD
  ·exact ZC
  ·exact ZB
  ·exact ZA
  ·exact Z9
  ·exact Z8
  ·exact Z7
  ·exact Z6
  ·exact Z5
theorem Gy (s:Str):Tq3 73 [.str s] (.bool (ER s)):=by
 refine AQ Bi func73 rfl [1,2]<|Cy rfl<|Aj rfl (v:=.bool (Fr s)) (λh=>SK s) (by simp [Ap])<|Cy rfl<|Aj rfl (v:=.bool (Ra s)) (λh=>Z3 s) (by simp [Ap])<|Cy rfl<|Ab rfl rfl (congrArg _ ?_);cases s with
 | nil=>simp [ER]
 | cons a r=>simp [ER];norm_cast;simp
theorem E8 (s:Str):Tq3 183 [.str s] (.bool (E3 s)):=by
 refine AQ Bi func183 rfl [1,2]<|tg [] rfl (by cases s with | nil=>simp [Ap] | cons a r=>simp [Ap];omega)<|Aj rfl (v:=.bool (Fr (s.drop 1))) (λh=>SK _) (by simp [Ap])<|Cy rfl<|Ab rfl rfl (congrArg _ ?_);cases s with
 | nil=>simp [E3]
 | cons a r=>simp [E3,UInt8.le_iff_toNat_le,NV];norm_cast;simp
def AW (n:Int):Bool:=decide (-1000000000<=n)&&decide (n<=1000000000)
theorem Ji (n:Int):Tq3 256 [.int .i64 n] (.bool (AW n)):=by
 refine AQ Bi func256 rfl [1,2]<|Cy rfl<|Ab rfl rfl (congrArg _ ?_);simp [AW]
def Jz:D:=.imm (.tup [])
theorem L7 (holes:Bool):∀(t:Ty),CP holes t=true->Tq4 248 [.imm (.agg (dTyc t)),.imm (.bool holes)] [] (.ret Jz [])
 | .mk s n x ps,hy=>by
  refine EI 0 rfl λhok=>?_;have hv:ps.length<=9223372036854775807:=by
   simp [Cx,Ez,dTyc,maxLen] at hok;have:=hok.1;omega
  simp only [CP,UO] at hy;refine AQ Bi func248 rfl [1,2,3] ?_;have J:∀p:Nat,C3 holes s n x ps.length=(((ps.length:Int) == (p:Int))&&(s == 9||n == 0)&&(s == 8||x == []))->Tq2 Tryz.f248.ntmps (DY []) (Lb kE Tryz.f248.results.toList (.ret Jz []))
    [.code (Gx Tryz.f248 3)] [(4,.imm (.int .i64 p)),(1,.imm (.bool holes)),(2,.ref 1 0)] [(1,some (.immb 25 4 (dTyc (.mk s n x ps))))] [2,3]:=by
   intro p hp;have hc:(((ps.length:Int) == (p:Int))&&(s == 9||n == 0)&&(s == 8||x == []))=true:=by rw [<- hp];exact hy.1
   refine td [] rfl (by simp [Ap];grind)<|Aj rfl (λ_=>BI _ ?_) (by simp) ?_
   ·simp at hc ⊢;grind
   refine Cy rfl<|Ak (λi:Nat=>[(69,.imm (.int .i64 i)),(68,.imm (.int .i64 ps.length)),(67,.imm (.sl (dTys ps))),(1,.imm (.bool holes)),(2,.ref 1 0)]) (λ_=>[(1,some (.immb 25 4 (dTyc (.mk s n x ps))))]) [2,3] (λi=>ps.length-i)
    (λi=>i<=ps.length/\Ck holes (ps.drop i)=true) 0 ⟨AF _,hy.2⟩ ⟨rfl,A8 (by simp),AH⟩ AC rfl λi hi ih=>?_
   refine GN rfl ?_;have hi2:=hi.2;refine Aa rfl (λh=>?_) (λh=>?_)
   ·simp at h;obtain ⟨t,ht⟩:=Am h;rw [As ht] at hi2;simp only [Ck,UO] at hi2;exact GN rfl<|SB rfl (AA ht)<|Cy rfl<|Jf [] [] [] rfl (L7 holes t hi2.1) trivial rfl rfl<|Cy rfl<|Ae (ih (i+1) (by omega) ⟨by omega,hi2.2⟩) ⟨M6,BJ⟩ AC rfl
   ·exact GN rfl<|BP ⟨_,AD⟩
  by_cases h1:s=1
  ·subst h1;exact tg [.a,.a,.s] rfl (by simp)<|Ae (J 0 (by simp [C3])) AH AC rfl
  by_cases h2:s=2
  ·subst h2;exact tg [.a,.a,.a,.s] rfl (by simp)<|Ae (J 0 (by simp [C3])) AH AC rfl
  by_cases h3:s=3
  ·subst h3;exact tg [.a,.a,.a,.s] rfl (by simp)<|Ae (J 0 (by simp [C3])) AH AC rfl
  by_cases h4:s=4
  ·subst h4;exact tg (Qy 4 [.s]) rfl (by simp)<|Ae (J 2 (by simp [C3])) AH AC rfl
  by_cases h5:s=5
  ·subst h5;exact tg (Qy 6 [.s]) rfl (by simp)<|Ae (J 1 (by simp [C3])) AH AC rfl
  by_cases h6:s=6
  ·subst h6;exact tg (Qy 7 [.s]) rfl (by simp)<|Ae (J 1 (by simp [C3])) AH AC rfl
  by_cases h7:s=7
  ·subst h7;exact tg (Qy 7 [.s]) rfl (by simp)<|Ae (J 1 (by simp [C3])) AH AC rfl
  by_cases h8:s=8
  ·subst h8;by_cases hg:E3 x=true
   ·exact tg (Qy 7 [.a]) rfl (by simp [Ap])<|Aj rfl (λ_=>E8 x) (by simp)<|Cy rfl<|Aj rfl (λ_=>BI _ hg) (by simp)<|tg [.s] rfl (by simp)<|Ae (J 0 (by simp [C3,hg])) AH AC rfl
   ·exfalso;have:=hy.1;simp [C3] at this;simp at hg;grind
  by_cases h9:s=9
  ·subst h9;by_cases hg:(holes&&D4 n 0 99)=true
   ·exact tg (Qy 8 [.a]) rfl (by simp [Ap])<|Aj rfl (λ_=>BI _ (by simp [D4] at hg ⊢;grind)) (by simp)<|tg [.s] rfl (by simp)<|Ae (J 0 (by simp [C3,D4] at hg ⊢;grind)) AH AC rfl
   ·exfalso;have:=hy.1;simp [C3] at this;simp at hg;grind
  exfalso;have:=hy.1;simp [C3,h1,h2,h3,h4,h5,h6,h7,h8,h9] at this
termination_by t=>SizeOf.sizeOf t
decreasing_by
 all_goals
  have:=Ct (AK ht);simp_wf;omega
theorem SJ (holes:Bool):∀(t:Ty),CP holes t=false->Tq4 248 [.imm (.agg (dTyc t)),.imm (.bool holes)] [] (.pan FW)
 | .mk s n x ps,hy=>by
  refine EI 0 rfl λhok=>?_;have hv:ps.length<=9223372036854775807:=by
   simp [Cx,Ez,dTyc,maxLen] at hok;have:=hok.1;omega
  simp only [CP,LK] at hy;refine AQ Bi func248 rfl [1,2,3] ?_;have J:∀p:Nat,C3 holes s n x ps.length=(((ps.length:Int) == (p:Int))&&(s == 9||n == 0)&&(s == 8||x == []))->Tq2 Tryz.f248.ntmps (DY []) (Lb kE Tryz.f248.results.toList (.pan FW))
    [.code (Gx Tryz.f248 3)] [(4,.imm (.int .i64 p)),(1,.imm (.bool holes)),(2,.ref 1 0)] [(1,some (.immb 25 4 (dTyc (.mk s n x ps))))] [2,3]:=by
   intro p hp;by_cases hc:(((ps.length:Int) == (p:Int))&&(s == 9||n == 0)&&(s == 8||x == []))=true
   rotate_left
   ·exact td [] rfl (by simp [Ap];grind)<|AI [] rfl (by simp) (Cp _ (by simp at hc ⊢;grind)) trivial rfl rfl
   rw [hp,hc] at hy;simp only [Bool.true_eq_false,false_or] at hy;refine td [] rfl (by simp [Ap];grind)<|Aj rfl (λ_=>BI _ ?_) (by simp) ?_
   ·simp at hc ⊢;grind
   refine Cy rfl<|Ak (λi:Nat=>[(69,.imm (.int .i64 i)),(68,.imm (.int .i64 ps.length)),(67,.imm (.sl (dTys ps))),(1,.imm (.bool holes)),(2,.ref 1 0)]) (λ_=>[(1,some (.immb 25 4 (dTyc (.mk s n x ps))))]) [2,3] (λi=>ps.length-i)
    (λi=>i<=ps.length/\Ck holes (ps.drop i)=false) 0 ⟨AF _,hy⟩ ⟨rfl,A8 (by simp),AH⟩ AC rfl λi hi ih=>?_
   refine GN rfl ?_;have hi2:=hi.2;refine Aa rfl (λh=>?_) (λh=>?_)
   ·simp at h;obtain ⟨t,ht⟩:=Am h;rw [As ht] at hi2;simp only [Ck,LK] at hi2;refine GN rfl<|SB rfl (AA ht)<|Cy rfl ?_;by_cases hz:CP holes t=true
    ·exact Jf [] [] [] rfl (L7 holes t hz) trivial rfl rfl<|Cy rfl<|Ae (ih (i+1) (by omega) ⟨by omega,by rw [hz] at hi2;simpa using hi2⟩) ⟨M6,BJ⟩ AC rfl
    ·exact AI [] rfl (by simp) (SJ holes t (by simpa using hz)) trivial rfl rfl
   ·exfalso;simp at h;rw [Bh (by omega)] at hi2;simp [Ck] at hi2
  by_cases h1:s=1
  ·subst h1;exact tg [.a,.a,.s] rfl (by simp)<|Ae (J 0 (by simp [C3])) AH AC rfl
  by_cases h2:s=2
  ·subst h2;exact tg [.a,.a,.a,.s] rfl (by simp)<|Ae (J 0 (by simp [C3])) AH AC rfl
  by_cases h3:s=3
  ·subst h3;exact tg [.a,.a,.a,.s] rfl (by simp)<|Ae (J 0 (by simp [C3])) AH AC rfl
  by_cases h4:s=4
  ·subst h4;exact tg (Qy 4 [.s]) rfl (by simp)<|Ae (J 2 (by simp [C3])) AH AC rfl
  by_cases h5:s=5
  ·subst h5;exact tg (Qy 6 [.s]) rfl (by simp)<|Ae (J 1 (by simp [C3])) AH AC rfl
  by_cases h6:s=6
  ·subst h6;exact tg (Qy 7 [.s]) rfl (by simp)<|Ae (J 1 (by simp [C3])) AH AC rfl
  by_cases h7:s=7
  ·subst h7;exact tg (Qy 7 [.s]) rfl (by simp)<|Ae (J 1 (by simp [C3])) AH AC rfl
  by_cases h8:s=8
  ·subst h8;by_cases hg:E3 x=true
   ·exact tg (Qy 7 [.a]) rfl (by simp [Ap])<|Aj rfl (λ_=>E8 x) (by simp)<|Cy rfl<|Aj rfl (λ_=>BI _ hg) (by simp)<|tg [.s] rfl (by simp)<|Ae (J 0 (by simp [C3,hg])) AH AC rfl
   ·exact tg (Qy 7 [.a]) rfl (by simp [Ap])<|Aj rfl (λ_=>E8 x) (by simp)<|Cy rfl<|AI [] rfl (by simp) (Cp _ (by simpa using hg)) trivial rfl rfl
  by_cases h9:s=9
  ·subst h9;by_cases hg:(holes&&D4 n 0 99)=true
   ·exact tg (Qy 8 [.a]) rfl (by simp [Ap])<|Aj rfl (λ_=>BI _ (by simp [D4] at hg ⊢;grind)) (by simp)<|tg [.s] rfl (by simp)<|Ae (J 0 (by simp [C3,D4] at hg ⊢;grind)) AH AC rfl
   ·exact tg (Qy 8 [.a]) rfl (by simp [Ap])<|AI [] rfl (by simp) (Cp _ (by simp [D4] at hg ⊢;grind)) trivial rfl rfl
  exact tg [.f,.f,.f,.f,.f,.f,.f,.f,.f] rfl (by simp [h1,h2,h3,h4,h5,h6,h7,h8,h9])<|AI [] rfl (by simp) (Cp _ rfl) trivial rfl rfl
termination_by t=>SizeOf.sizeOf t
decreasing_by
 all_goals
  have:=Ct (AK ht);simp_wf;omega
theorem zS:∀(fn:Fn) (first cap:Array Value) (w:World),(Instr.makeFunc fn first cap).run prog w = .ok (.func fn first cap) w:=λ_ _ _ _=>rfl
theorem Xp (p:Addr) (w:World) :
  CallsD prog 253 #[.pointer (some p)] .returning w λe u' w'=>e = .returned (.tuple #[])/\u' = .returning/\w'=w:=by
 refine callsD_of_wpS func253 rfl λc₀ cs hu=>?_;apply wpS_seq;apply wpS_region;simp [wpOpsS,go_sem,recoverD,hu,Tryz.ntmps253,Exit.thenS];apply wpS_seq;apply wpS_region;simp [wpOpsS,go_sem,Exit.thenS];refine wpS_cond (t:=false) (by simp [Act.eval,Array.replicate]) ?_;simp only [if_false,E1];refine wpS_of_wp (wp_skip ?_);cases c₀;simp_all [bodyPostS,results,Tryz.results253]
theorem Xq (pb:Nat) (x:Value) (w:World) (hpb:pb<w.heap.size) (hx:w.cell? ⟨pb,0,none⟩=some x) (hz:w.frozen? ⟨pb,0,none⟩=false) :
  CallsD prog 253 #[.pointer (some ⟨pb,0,none⟩)] (.panicking [{ v:=.iface 293 (.agg #[]),recovered:=false }]) w λe u' w'=>e = .returned (.tuple #[]) /\
   u' = .panicking [{ v:=.iface 293 (.agg #[]),recovered:=true }]/\w'=(w.setCell ⟨pb,0,none⟩ (.bool false)).alloc (.cells #[] 293):=by
 refine callsD_of_wpS func253 rfl λc₀ cs hu=>?_;change Code.wpS _ _ _ { tmps:=#[.pointer (some ⟨pb,0,none⟩),undef,undef,undef,undef,undef,undef,undef,undef,undef,undef,undef,undef,undef,undef],defers:=[] } _ _;apply wpS_seq;apply wpS_region;simp [wpOpsS,go_sem,recoverD,hu,Tryz.ntmps253,Exit.thenS];apply wpS_seq;apply wpS_region;simp [wpOpsS,go_sem,Exit.thenS];refine wpS_cond (t:=true) (by simp [Act.eval,Array.replicate]) ?_;simp only [if_true];refine wpS_of_wp ?_;clear hu;have hta:∀w:World,(Instr.typeAssert (.iface 293 (.agg #[])) 20 293 true).run prog w = .ok (.tuple #[.agg #[],.bool true]) w:=λ_=>by kernel_rfl
 have hx':(w.alloc (.cells #[] 293)).cell? ⟨pb,0,none⟩=some x:=by rw [World.cell?_alloc_past _ _ _ hpb];exact hx
 have hz':(w.alloc (.cells #[] 293)).frozen? ⟨pb,0,none⟩=false:=by rw [RowKit.frozen?_alloc_cells];exact hz
 go_wp2
 simp [bodyPostS,results,Tryz.results253]
abbrev Tq6:=Calls prog
theorem Xo (g:FuncId) (fi ca:Array Value) (w:World) (K:World->Prop) (Kp:World->Prop)
  (hen:(callFunc g (fi++ca)).run prog (w.alloc (.cells #[.bool false] 4)) = .ok (.enter g (fi++ca)) (w.alloc (.cells #[.bool false] 4)))
  (hcall:Tq6 g (fi++ca) (w.alloc (.cells #[.bool false] 4)) λe w'=>match e with
   | .returned _=>K w'
   | .panicked chain=>chain=[{ v:=.iface 293 (.agg #[]),recovered:=false }]/\Kp w'
   | .outgrown=>False)
  (hK:∀w',K w'->w'.heap[w.heap.size]?=some (.cells #[.bool false] 4 (0,0))) (hKp:∀w',Kp w'->w'.heap[w.heap.size]?=some (.cells #[.bool false] 4 (0,0))) :
  Tq6 189 #[.func (.func g) fi ca] w λe w'=>(e = .returned (.bool true)/\∃w1,K w1/\w'=w1.setCell ⟨w.heap.size,0,none⟩ (.bool true)) \/
   (e = .returned (.bool false)/\∃w1,Kp w1/\w'=(w1.setCell ⟨w.heap.size,0,none⟩ (.bool false)).alloc (.cells #[] 293)):=by
 go_enter_defers func189,Tryz.ntmps189
 have zS:=zS
 go_wp2_with fail
 clear hen;refine hcall.mono ?_;intro e w' he;cases e with
 | outgrown=>exact he.elim
 | returned v =>
  have hc:w'.cell? ⟨w.heap.size,0,none⟩=some (.bool false):=by unfold World.cell?;simp [hK w' he]
  have hz:w'.frozen? ⟨w.heap.size,0,none⟩=false:=by unfold World.frozen?;simp [hK w' he]
  simp only
  go_wp2
  refine leaves_cons (f:=253) (args:=#[.pointer (some ⟨w.heap.size,0,none⟩)]) (by simp) (by simp [go_sem])<|(Xp ⟨w.heap.size,0,none⟩ _).mono ?_;rintro e u' w'' ⟨rfl,rfl,rfl⟩;simp [Leaves,settle,results,Tryz.results189,go_sem,hc];exact ⟨w',he,rfl⟩
 | panicked chain =>
  obtain ⟨rfl,he⟩:=he;have hc:w'.cell? ⟨w.heap.size,0,none⟩=some (.bool false):=by unfold World.cell?;simp [hKp w' he]
  have hz:w'.frozen? ⟨w.heap.size,0,none⟩=false:=by unfold World.frozen?;simp [hKp w' he]
  have hlt:w.heap.size<w'.heap.size:=(GH.1 (hKp w' he)).1;refine leaves_cons (f:=253) (args:=#[.pointer (some ⟨w.heap.size,0,none⟩)]) (by simp) (by simp [go_sem])<|(Xq w.heap.size _ _ hlt hc hz).mono ?_;rintro e u' w'' ⟨rfl,rfl,rfl⟩;have hc2:((w'.setCell ⟨w.heap.size,0,none⟩ (.bool false)).alloc (.cells #[] 293)).cell? ⟨w.heap.size,0,none⟩=some (.bool false):=by
   rw [Ek (hKp w' he),World.cell?_alloc_past _ _ _ (by simpa using hlt)];unfold World.cell?;simp [hlt]
  simp [Leaves,settle,results,Tryz.results189,go_sem,hc2];exact ⟨w',he,rfl⟩
theorem Jm:KV prog 189 293 4:=λg fi ca w K Kp h1 h2 h3 h4=>Xo g fi ca w K Kp h1 h2 h3 h4
theorem Nk {g: FuncId} {fg: Func} {cg: Code} (hg : prog.funcs[g]? = some fg) (hn : (fg.name == "runtime.NumGoroutine") = false) (hc : fg.body = some cg) (hE : Tq4 g [.ref 1 0] [(1, some (.immb t1 s1 x1))] (.ret Jz [(1, some (.immb t1 s1 y1))])) :
  Tq4 133 [.fn (.func g) [] [.ref 1 0]] [(1,some (.immb t1 s1 x1))] (.ret (.imm (.int .i64 0)) [(1,some (.immb t1 s1 y1))]):=by
 exact AQ Bi func133 rfl [2,3,4]<|Cy rfl<|C8 rfl (II func189 (by decide +kernel) rfl Jm hg hn hc hE) Aw rfl<|tg [.a] rfl (by simp)<|Ag ⟨_,rfl,tV rfl,AC⟩
theorem Pg {g: FuncId} {fg: Func} {cg: Code} (hg : prog.funcs[g]? = some fg) (hn : (fg.name == "runtime.NumGoroutine") = false) (hc : fg.body = some cg) (hE : Tq4 g [.ref 1 0] [(1, some (.immb t1 s1 x1))] (.pan FW)) :
  Tq4 133 [.fn (.func g) [] [.ref 1 0]] [(1,some (.immb t1 s1 x1))] (.ret (.imm (.int .i64 2)) []):=by
 exact AQ Bi func133 rfl [2,3,4]<|Cy rfl<|C8 rfl (Kh func189 (by decide +kernel) rfl Jm hg hn hc hE) Aw rfl<|tg [.a] rfl (by simp)<|Ab rfl rfl rfl
theorem Vx {g: FuncId} {fg: Func} {cg: Code} (hg : prog.funcs[g]? = some fg) (hn : (fg.name == "runtime.NumGoroutine") = false) (hc : fg.body = some cg) {y2: List V} (hE : Tq4 g [.ref 1 0, .ref 2 0] [(1, some (.immb t1 s1 x1)), (2, some (.immb t2 s2 x2))] (.ret Jz [(1, some (.immb t1 s1 y1)), (2, some (.immb t2 s2 y2))])) :
  Tq4 133 [.fn (.func g) [] [.ref 1 0,.ref 2 0]] [(1,some (.immb t1 s1 x1)),(2,some (.immb t2 s2 x2))] (.ret (.imm (.int .i64 0)) [(1,some (.immb t1 s1 y1)),(2,some (.immb t2 s2 y2))]):=by
 exact AQ Bi func133 rfl [3,4,5]<|Cy rfl<|Jf [] [(1,1),(2,2)] [] rfl (II func189 (by decide +kernel) rfl Jm hg hn hc hE) ⟨⟨rfl,rfl,rfl⟩,Aw⟩ rfl rfl<|tg [.a] rfl (by simp)<|Ag ⟨_,rfl,tV rfl,⟨rfl,AC⟩⟩
theorem XR {g: FuncId} {fg: Func} {cg: Code} (hg : prog.funcs[g]? = some fg) (hn : (fg.name == "runtime.NumGoroutine") = false) (hc : fg.body = some cg) (hE : Tq4 g [.ref 1 0, .ref 2 0] [(1, some (.immb t1 s1 x1)), (2, some (.immb t2 s2 x2))] (.pan FW)) :
  Tq4 133 [.fn (.func g) [] [.ref 1 0,.ref 2 0]] [(1,some (.immb t1 s1 x1)),(2,some (.immb t2 s2 x2))] (.ret (.imm (.int .i64 2)) []):=by
 exact AQ Bi func133 rfl [3,4,5]<|Cy rfl<|Jf [] [(1,1),(2,2)] [] rfl (Kh func189 (by decide +kernel) rfl Jm hg hn hc hE) ⟨⟨rfl,rfl,rfl⟩,Aw⟩ rfl rfl<|tg [.a] rfl (by simp)<|Ab rfl rfl rfl
def Su (b:Bool):V:=.int .i64 (bif b then 0 else 2)
def AV (holes:Bool) (t:Ty):Bool:=decide (B9 t<=12)&&CP holes t
theorem Xx (t:Ty) (holes:Bool) (h:AV holes t=true):Tq4 246 [.ref 1 0,.ref 2 0] [(1,some (.immb 25 4 (dTyc t))),(2,some (.immb 4 1 [.bool holes]))] (.ret Jz [(1,some (.immb 25 4 (dTyc t))),(2,some (.immb 4 1 [.bool holes]))]):=by
 simp only [AV,A2,decide_eq_true_eq] at h;exact AQ Bi func246 rfl [3,4,5]<|Cy rfl<|Jf [] [(3,1)] [] rfl (KF t 12 (by omega) (by decide)) Aw rfl rfl<|Cy rfl<|Jf [] [] [] rfl (L7 holes t h.2) trivial rfl rfl<|Cy rfl<|BP ⟨_,rfl,rfl,AD⟩
theorem aC (t:Ty) (holes:Bool) (h:AV holes t=false):Tq4 246 [.ref 1 0,.ref 2 0] [(1,some (.immb 25 4 (dTyc t))),(2,some (.immb 4 1 [.bool holes]))] (.pan FW):=by
 simp only [AV,LK,decide_eq_false_iff_not] at h;refine AQ Bi func246 rfl [3,4,5]<|Cy rfl ?_;by_cases h1:B9 t<=12
 ·exact Jf [] [(3,1)] [] rfl (KF t 12 (by omega) (by decide)) Aw rfl rfl<|Cy rfl<|AI [] rfl (by simp) (SJ holes t (by simpa [h1] using h)) trivial rfl rfl
 ·exact AI [(3,1)] rfl (by simp) (Xt t 12 (by omega) (by decide) (by decide)) Aw rfl rfl
theorem TM (t:Ty) (holes:Bool):Tq3 176 [.agg (dTyc t),.bool holes] (Su (AV holes t)):=by
 refine AQ Bi func176 rfl [1,2,3]<|Cy rfl ?_;cases h:AV holes t with
 | true =>
  exact Jf [] [(1,1),(2,2)] [] rfl (Vx func246 (by decide +kernel) rfl (Xx t holes h)) kZ rfl rfl<|Cy rfl<|Ab rfl rfl rfl
 | false =>
  exact Jf [] [(1,1),(2,2)] [] rfl (XR func246 (by decide +kernel) rfl (aC t holes h)) kZ rfl rfl<|Cy rfl<|Ab rfl rfl rfl
theorem V8 (t:Ty):Tq3 114 [.agg (dTyc t)] (Su (AV true t)):=by
 exact AQ Bi func114 rfl [1,2,3]<|Cy rfl<|Aj rfl (λ_=>TM t true) (by simp [Ap])<|Cy rfl<|Ab rfl rfl rfl
theorem PZ (t:Ty):Tq3 187 [.agg (dTyc t)] (.bool (AV false t)):=by
 refine AQ Bi func187 rfl [1,2,3]<|Cy rfl<|Aj rfl (λ_=>TM t false) (by simp [Ap])<|Cy rfl<|Ab rfl rfl (congrArg _ ?_);cases AV false t <;> rfl
def kG:TT:=kE++[
 (139,⟨.map 9 4,false,1,8,[.imm .nilmap]⟩)]
theorem Hn:TTok prog kG:=.of_eq (l:=[4,3,9,49,25,182,45,47,5,23,22,73,46,180,71,43,178,40,41,113,111,28,293,195,1,139]) (by kernel_rfl)
theorem pd (path:List Pt) (h:run kG n 300 path todo env st ids [] = .at k env' st' ids' ob) (hob:AG ob) (hd:Tq1 n F Q k env' st' ids'):Tq2 n F Q todo env st ids:=L4 Hn Fh 300 path h hob hd
theorem YJ (h:run kG n 300 [] todo env st ids [] = .at k env' st' ids' ob) (hd:Tq1 n F Q k env' st' ids') (hob:AG ob:=by simp):Tq2 n F Q todo env st ids:=pd [] h hob hd
theorem pdqc (h:run kG n 300 [] todo env st ids [] = .at k env' st' ids' ob) (hd:Tq1 n F Q k env' st' ids') (hob:AG ob:=by simp [Ap]):Tq2 n F Q todo env st ids:=pd [] h hob hd
theorem pg (path:List Pt) (h:run kG n 300 path todo env st ids [] = .at k env' st' ids' ob) (hob:AG ob) (hd:Tq1 n F Q k env' st' ids'):Tq1 n F Q todo env st ids:=J4 Hn Fh 300 path h hob hd
theorem LE (h:run kG n 300 [] todo env st ids [] = .at k env' st' ids' ob) (hd:Tq1 n F Q k env' st' ids') (hob:AG ob:=by simp):Tq1 n F Q todo env st ids:=pg [] h hob hd
theorem Wq (h:run kG n 300 [] todo env st ids [] = .at k env' st' ids' ob) (hd:Tq1 n F Q k env' st' ids') (hob:AG ob:=by simp [Ap]):Tq1 n F Q todo env st ids:=pg [] h hob hd
theorem pi (h:Se kG n env todo=some ⟨es,m,sz,e,g,ob,some t,todo'⟩) (hc:Ap g->0<=m/\es[m.toNat]?=some c/\c.length=sz) (hob:AG ob) (hk:Tq1 n F Q todo' ((t,gD g (.ip e c 0))::env) st ids):Tq1 n F Q todo env st ids:=HT Hn h hc hob hk
theorem piz (h:Se kG n env todo=some ⟨es,(i:Int),sz,e,g,ob,some t,todo'⟩) (hg:es[i]?=some c) (hk:Tq1 n F Q todo' ((t,gD g (.ip e c 0))::env) st ids) (hl:c.length=sz:=by simp) (hob:AG ob:=by simp):Tq1 n F Q todo env st ids:=pi h (λ_=>⟨by omega,by simpa using hg,hl⟩) hob hk
theorem pizc (h:Se kG n env todo=some ⟨es,(i:Int),sz,e,g,ob,some t,todo'⟩) (hg:es[i]?=some c) (hk:Tq1 n F Q todo' ((t,gD g (.ip e c 0))::env) st ids) (hl:c.length=sz:=by simp) (hob:AG ob:=by simp [Ap]):Tq1 n F Q todo env st ids:=pi h (λ_=>⟨by omega,by simpa using hg,hl⟩) hob hk
def Hr (l:List Str):List (V×V):=l.map λs=>(.str s,.bool true)
def RZ (l:List Str):Blk:=.map (Hr l)
theorem Gb (l:List Str):∀p∈Hr l,GV .str p.1=true:=by
 intro p hp;obtain ⟨s,_,rfl⟩:=Cc.1 hp;rfl
theorem pZ (s x:Str):(s == x)=(x == s):=by
 rw [EY,beq_iff_eq,beq_iff_eq];exact ⟨Eq.symm,Eq.symm⟩
theorem eT (l:List Str) (s:Str):G6 (Hr l) (.str s)=if BS l s then some (.bool true) else none:=by
 induction l with
 | nil=>rfl
 | cons x r ih =>
  simp only [Hr,Cv,G6,jN,BS] at ih ⊢;rw [ih];by_cases h:x=s
  ·subst h;simp
  ·have h1:(s == x)=false:=by simpa using λe=>h e.symm
   have h2:(x == s)=false:=by simpa using h
   simp [h1,h2]
theorem K3 (l:List Str) (s:Str):FC false (Hr l) (.str s) (.bool false) = .imm (.bool (BS l s)):=by
 simp only [FC,eT];cases BS l s <;> rfl
theorem VV (l:List Str) (s:Str) (h:BS l s=false):F2 (Hr l) (.str s) (.bool true)=Hr (l++[s]):=by
 induction l with
 | nil=>rfl
 | cons x r ih =>
  simp only [BS,QP] at h;have h1:(s == x)=false:=by rw [pZ];exact h.1
  simp only [Hr,Cv,F2,jN,h1,D0] at ih ⊢;simp [ih h.2]
theorem GI:∀(a b p:List Str),BO p (a++b)=(BO p a&&BO (p++a) b)
 | [],b,p=>by simp [BO]
 | x::r,b,p=>by simp [BO,GI r b (p++[x]),NV]
theorem N9:∀(t:Ty) (met:List Str),(Em t&&BO met (B2 t))=true->Tq4 285 [.imm (.agg (dTyc t)),.mapr 1] [(1,some (RZ met))] (.ret Jz [(1,some (RZ (met++B2 t)))])
 | .mk s n x ps,met,hy=>by
  refine EI 0 rfl λhok=>?_;have hv:ps.length<=9223372036854775807:=by
   simp [Cx,Ez,dTyc,maxLen] at hok;have:=hok.1;omega
  refine AQ Hn func285 rfl [2,3,4] ?_;have J:∀m0:List Str,(CZ ps&&BO m0 (AR ps))=true->m0++AR ps=met++B2 (.mk s n x ps)->Tq2 Tryz.f285.ntmps (DY [(1,some (RZ met))]) (Lb kG Tryz.f285.results.toList (.ret Jz [(1,some (RZ (met++B2 (.mk s n x ps))))]))
    [.code (Gx Tryz.f285 2)] [(1,.mapr 1),(2,.ref 2 0)] [(2,some (.immb 182 4 (dTyc (.mk s n x ps)))),(1,some (RZ m0))] [3,4]:=by
   intro m0 hy he;refine YJ rfl<|Ak (λi:Nat=>[(113,.imm (.int .i64 i)),(112,.imm (.int .i64 ps.length)),(111,.imm (.sl (dTys ps))),(1,.mapr 1),(2,.ref 2 0)]) (λi=>[(2,some (.immb 182 4 (dTyc (.mk s n x ps)))),(1,some (RZ (m0++AR (ps.take i))))]) [3,4] (λi=>ps.length-i)
    (λi=>i<=ps.length/\(CZ (ps.drop i)&&BO (m0++AR (ps.take i)) (AR (ps.drop i)))=true) 0 ⟨AF _,by simpa [AR] using hy⟩ ⟨rfl,A8 (by simp),AH⟩ ⟨rfl,by simp [AR];rfl,trivial⟩ rfl λi hi ih=>?_
   refine YJ rfl ?_;have hi2:=hi.2;refine Aa rfl (λh=>?_) (λh=>?_)
   ·simp at h;obtain ⟨t,ht⟩:=Am h;have htk:AR (ps.take (i+1))=AR (ps.take i)++B2 t:=by rw [Bk ht,Fl];simp [AR]
    rw [As ht] at hi2;simp only [CZ,AR,GI] at hi2;exact YJ rfl<|piz rfl (AA ht)<|LE rfl<|C8 rfl (N9 t (m0++AR (ps.take i)) (by simp only [A2] at hi2 ⊢;exact ⟨hi2.1.1,hi2.2.1⟩)) Aw rfl<|LE rfl<|Ae (ih (i+1) (by omega) ⟨by omega,by rw [htk,<- Cl];simp only [A2] at hi2 ⊢;exact ⟨hi2.1.2,hi2.2.2⟩⟩) ⟨M6,BJ⟩ ⟨rfl,by rw [htk,<- Cl];rfl,trivial⟩ rfl
   ·refine YJ rfl ?_;simp at h;refine BP ⟨_,rfl,rfl,⟨?_,trivial⟩⟩;rw [CQ (by omega),he];rfl
  simp only [Em,A2] at hy;obtain ⟨⟨hp,hps⟩,hdf⟩:=hy;by_cases h1:s=1
  ·subst h1;simp [Fg,D4] at hp;exact pg [.a,.a] rfl (by simp [Ap] <;> grind)<|Aj rfl (λ_=>BI _ (by simp [AW] at hp ⊢;grind)) (by simp)<|pg [.s] rfl (by simp)<|Ae (J met (by simpa [B2,hps] using hdf) (by simp [B2])) AD AD rfl
  by_cases h5:s=5
  ·subst h5;simp [Fg,D4] at hp;exact pg [.a,.a] rfl (by simp [Ap] <;> grind)<|Aj rfl (λ_=>BI _ (by simp [AW] at hp ⊢;grind)) (by simp)<|pg [.s] rfl (by simp)<|Ae (J met (by simpa [B2,hps] using hdf) (by simp [B2])) AD AD rfl
  by_cases h3:s=3
  ·subst h3;simp [Fg,D4] at hp;exact pg [.a,.a,.a,.a] rfl (by simp [Ap] <;> grind)<|Aj rfl (λ_=>Ji n) (by simp [Ap])<|Wq rfl<|Aj rfl (λ_=>BI _ (by simp [AW] at hp ⊢;grind)) (by simp)<|pg [.s] rfl (by simp)<|Ae (J met (by simpa [B2,hps] using hdf) (by simp [B2])) AD AD rfl
  by_cases h4:s=4
  ·subst h4;simp [Fg,D4] at hp;exact pg (Qy 4 [.a]) rfl (by simp [Ap] <;> grind)<|Aj rfl (λ_=>BI _ (by obtain ⟨⟨rfl,rfl⟩,ha,hb⟩:=hp;have:n=0\/n=1:=(by omega);rcases this with rfl | rfl <;> simp)) (by simp)<|pg [.s] rfl (by simp)<|Ae (J met (by simpa [B2,hps] using hdf) (by simp [B2])) AD AD rfl
  by_cases h6:s=6
  ·subst h6;simp [Fg,D4] at hp;exact pg (Qy 5 [.a]) rfl (by simp [Ap] <;> grind)<|Aj rfl (λ_=>E8 x) (by simp [Ap])<|Wq rfl<|Aj rfl (λ_=>BI _ (by simp [AW] at hp ⊢;grind)) (by simp)<|pg [.s] rfl (by simp)<|Ae (J met (by simpa [B2,hps] using hdf) (by simp [B2])) AD AD rfl
  by_cases h2:s=2
  ·subst h2;simp [Fg,D4] at hp;refine pg [.a,.a,.a] rfl (by simp [Ap] <;> grind)<|Aj rfl (λ_=>Gy x) (by simp [Ap])<|Wq rfl ?_;have hx:BS met x=false:=by simpa [B2,BO] using hdf
   refine CJ Hn 1 rfl rfl rfl (Gb met) (by simp [Ap]) (z:=.bool false) rfl (λ_=>.bool _) (K3 met x)<|Wq rfl<|Aj rfl (λ_=>BI _ (by simp at hp ⊢;rw [hx];grind)) (by simp)<|LE rfl<|Fs Hn rfl rfl rfl (Gb met) ?_;rw [VV met x hx];have he:ps=[]:=by simpa using hp.1.1
   subst he;exact pg [.s] rfl (by simp)<|Ae (J (met++[x]) (by simp [CZ,AR,BO]) (by simp [B2,AR])) AD AD rfl
  exfalso;simp [Fg,h1,h2,h3,h4,h5,h6] at hp
termination_by t=>SizeOf.sizeOf t
decreasing_by
 all_goals
  have:=Ct (AK ht);simp_wf;omega
theorem VF:∀(t:Ty) (met:List Str),(Em t&&BO met (B2 t))=false->Tq4 285 [.imm (.agg (dTyc t)),.mapr 1] [(1,some (RZ met))] (.pan FW)
 | .mk s n x ps,met,hy=>by
  refine EI 0 rfl λhok=>?_;have hv:ps.length<=9223372036854775807:=by
   simp [Cx,Ez,dTyc,maxLen] at hok;have:=hok.1;omega
  refine AQ Hn func285 rfl [2,3,4] ?_;have J:∀m0:List Str,(CZ ps&&BO m0 (AR ps))=false->Tq2 Tryz.f285.ntmps (DY [(1,some (RZ met))]) (Lb kG Tryz.f285.results.toList (.pan FW))
    [.code (Gx Tryz.f285 2)] [(1,.mapr 1),(2,.ref 2 0)] [(2,some (.immb 182 4 (dTyc (.mk s n x ps)))),(1,some (RZ m0))] [3,4]:=by
   intro m0 hy;refine YJ rfl<|Ak (λi:Nat=>[(113,.imm (.int .i64 i)),(112,.imm (.int .i64 ps.length)),(111,.imm (.sl (dTys ps))),(1,.mapr 1),(2,.ref 2 0)]) (λi=>[(2,some (.immb 182 4 (dTyc (.mk s n x ps)))),(1,some (RZ (m0++AR (ps.take i))))]) [3,4] (λi=>ps.length-i)
    (λi=>i<=ps.length/\(CZ (ps.drop i)&&BO (m0++AR (ps.take i)) (AR (ps.drop i)))=false) 0 ⟨AF _,by simpa [AR] using hy⟩ ⟨rfl,A8 (by simp),AH⟩ ⟨rfl,by simp [AR];rfl,trivial⟩ rfl λi hi ih=>?_
   refine YJ rfl ?_;have hi2:=hi.2;refine Aa rfl (λh=>?_) (λh=>?_)
   ·simp at h;obtain ⟨t,ht⟩:=Am h;have htk:AR (ps.take (i+1))=AR (ps.take i)++B2 t:=by rw [Bk ht,Fl];simp [AR]
    rw [As ht] at hi2;simp only [CZ,AR,GI] at hi2;refine YJ rfl<|piz rfl (AA ht)<|LE rfl ?_;by_cases hz:(Em t&&BO (m0++AR (ps.take i)) (B2 t))=true
    ·exact C8 rfl (N9 t (m0++AR (ps.take i)) hz) Aw rfl<|LE rfl<|Ae (ih (i+1) (by omega) ⟨by omega,by rw [htk,<- Cl];simp only [A2] at hz;rw [hz.1,hz.2] at hi2;simpa using hi2⟩) ⟨M6,BJ⟩ ⟨rfl,by rw [htk,<- Cl];rfl,trivial⟩ rfl
    ·exact AI [(1,1)] rfl (by simp) (VF t (m0++AR (ps.take i)) (by simpa using hz)) Aw rfl rfl
   ·exfalso;simp at h;rw [Bh (by omega)] at hi2;simp [CZ,AR,BO] at hi2
  by_cases h1:s=1
  ·subst h1;refine pg [.a,.a] rfl (by simp [Ap] <;> grind) ?_;by_cases hp:Fg 1 n x ps.length=true
   ·have hps:(CZ ps&&BO met (AR ps))=false:=by simpa [Em,hp,B2] using hy
    simp [Fg,D4] at hp;exact Aj rfl (λ_=>BI _ (by simp [AW] at hp ⊢;grind)) (by simp)<|pg [.s] rfl (by simp)<|Ae (J met hps) AD AD rfl
   ·simp [Fg,D4] at hp;exact AI [] rfl (by simp) (Cp _ (by simp [AW] at hp ⊢;grind)) trivial rfl rfl
  by_cases h5:s=5
  ·subst h5;refine pg [.a,.a] rfl (by simp [Ap] <;> grind) ?_;by_cases hp:Fg 5 n x ps.length=true
   ·have hps:(CZ ps&&BO met (AR ps))=false:=by simpa [Em,hp,B2] using hy
    simp [Fg,D4] at hp;exact Aj rfl (λ_=>BI _ (by simp [AW] at hp ⊢;grind)) (by simp)<|pg [.s] rfl (by simp)<|Ae (J met hps) AD AD rfl
   ·simp [Fg,D4] at hp;exact AI [] rfl (by simp) (Cp _ (by simp [AW] at hp ⊢;grind)) trivial rfl rfl
  by_cases h3:s=3
  ·subst h3;refine pg [.a,.a,.a,.a] rfl (by simp [Ap] <;> grind)<|Aj rfl (λ_=>Ji n) (by simp [Ap])<|Wq rfl ?_;by_cases hp:Fg 3 n x ps.length=true
   ·have hps:(CZ ps&&BO met (AR ps))=false:=by simpa [Em,hp,B2] using hy
    simp [Fg,D4] at hp;exact Aj rfl (λ_=>BI _ (by simp [AW] at hp ⊢;grind)) (by simp)<|pg [.s] rfl (by simp)<|Ae (J met hps) AD AD rfl
   ·simp [Fg,D4] at hp;exact AI [] rfl (by simp) (Cp _ (by simp [AW] at hp ⊢;grind)) trivial rfl rfl
  by_cases h4:s=4
  ·subst h4;refine pg (Qy 4 [.a]) rfl (by simp [Ap] <;> grind) ?_;by_cases hp:Fg 4 n x ps.length=true
   ·have hps:(CZ ps&&BO met (AR ps))=false:=by simpa [Em,hp,B2] using hy
    simp [Fg,D4] at hp;exact Aj rfl (λ_=>BI _ (by obtain ⟨⟨rfl,rfl⟩,ha,hb⟩:=hp;have:n=0\/n=1:=(by omega);rcases this with rfl | rfl <;> simp)) (by simp)<|pg [.s] rfl (by simp)<|Ae (J met hps) AD AD rfl
   ·simp [Fg,D4] at hp;exact AI [] rfl (by simp) (Cp _ (by simp [AW] at hp ⊢;grind)) trivial rfl rfl
  by_cases h6:s=6
  ·subst h6;refine pg (Qy 5 [.a]) rfl (by simp [Ap] <;> grind)<|Aj rfl (λ_=>E8 x) (by simp [Ap])<|Wq rfl ?_;by_cases hp:Fg 6 n x ps.length=true
   ·have hps:(CZ ps&&BO met (AR ps))=false:=by simpa [Em,hp,B2] using hy
    simp [Fg,D4] at hp;exact Aj rfl (λ_=>BI _ (by simp [AW] at hp ⊢;grind)) (by simp)<|pg [.s] rfl (by simp)<|Ae (J met hps) AD AD rfl
   ·simp [Fg,D4] at hp;exact AI [] rfl (by simp) (Cp _ (by simp [AW] at hp ⊢;grind)) trivial rfl rfl
  by_cases h2:s=2
  ·subst h2;refine pg [.a,.a,.a] rfl (by simp [Ap] <;> grind)<|Aj rfl (λ_=>Gy x) (by simp [Ap])<|Wq rfl<|CJ Hn 1 rfl rfl rfl (Gb met) (by simp [Ap]) (z:=.bool false) rfl (λ_=>.bool _) (K3 met x)<|Wq rfl<|AI [] rfl (by simp) (Cp _ ?_) trivial rfl rfl;simp [Em,Fg,B2,BO] at hy;cases hm:BS met x with
   | true=>simp
   | false =>
    simp only [hm] at hy;by_cases hq:ps=[]
    ·subst hq;simp [CZ] at hy ⊢;grind
    ·simp [hq]
  exact pg [.f,.f,.f,.f,.f,.f] rfl (by simp [h1,h2,h3,h4,h5,h6])<|AI [] rfl (by simp) (Cp _ rfl) trivial rfl rfl
termination_by t=>SizeOf.sizeOf t
decreasing_by
 all_goals
  have:=Ct (AK ht);simp_wf;omega
def CF (t:Ty):Bool:=decide (B9 t<=12)&&(Em t&&KL (B2 t))
theorem Sy (t:Ty) (h:CF t=true):Tq4 283 [.ref 1 0] [(1,some (.immb 182 4 (dTyc t)))] (.ret Jz [(1,some (.immb 182 4 (dTyc t)))]):=by
 simp only [CF,A2,decide_eq_true_eq] at h;exact AQ Hn func283 rfl [2,3,4]<|LE rfl<|Jf [] [(2,1)] [] rfl (MT t 12 (by omega) (by decide)) Aw rfl rfl<|LE rfl<|Ev rfl<|LE rfl<|Jf [] [(3,1)] [] rfl (N9 t [] (by simpa [KL] using h.2)) Aw rfl rfl<|LE rfl<|BP ⟨_,rfl,rfl,AC⟩
theorem Vy (t:Ty) (h:CF t=false):Tq4 283 [.ref 1 0] [(1,some (.immb 182 4 (dTyc t)))] (.pan FW):=by
 refine AQ Hn func283 rfl [2,3,4]<|LE rfl ?_;by_cases h1:B9 t<=12
 ·exact Jf [] [(2,1)] [] rfl (MT t 12 (by omega) (by decide)) Aw rfl rfl<|LE rfl<|Ev rfl<|LE rfl<|AI [(3,1)] rfl (by simp) (VF t [] (by simpa [CF,h1,KL] using h)) Aw rfl rfl
 ·exact AI [(2,1)] rfl (by simp) (cZ t 12 (by omega) (by decide) (by decide)) Aw rfl rfl
theorem Ps (t:Ty):Tq3 257 [.agg (dTyc t)] (Su (CF t)):=by
 refine AQ Hn func257 rfl [1,2,3]<|LE rfl ?_;cases h:CF t with
 | true =>
  exact C8 rfl (Nk func283 (by decide +kernel) rfl (Sy t h)) Aw rfl<|LE rfl<|Ab rfl rfl rfl
 | false =>
  exact C8 rfl (Pg func283 (by decide +kernel) rfl (Vy t h)) Aw rfl<|LE rfl<|Ab rfl rfl rfl
def kF:TT:=kG++[
 (296,⟨.struct [(0,4),(1,4),(2,4),(3,3)],true,4,16,[.imm (.bool false),.imm (.bool false),.imm (.bool false),.imm (.int .i64 0)]⟩)]
theorem Hm:TTok prog kF:=.of_eq (l:=[4,3,9,49,25,182,45,47,5,23,22,73,46,180,71,43,178,40,41,113,111,28,293,195,1,139,296]) (by kernel_rfl)
theorem sd (path:List Pt) (h:run kF n 300 path todo env st ids [] = .at k env' st' ids' ob) (hob:AG ob) (hd:Tq1 n F Q k env' st' ids'):Tq2 n F Q todo env st ids:=L4 Hm Fh 300 path h hob hd
theorem Pw (h:run kF n 300 [] todo env st ids [] = .at k env' st' ids' ob) (hd:Tq1 n F Q k env' st' ids') (hob:AG ob:=by simp):Tq2 n F Q todo env st ids:=sd [] h hob hd
theorem zG (h:run kF n 300 [] todo env st ids [] = .at k env' st' ids' ob) (hd:Tq1 n F Q k env' st' ids') (hob:AG ob:=by simp [Ap]):Tq2 n F Q todo env st ids:=sd [] h hob hd
theorem sg (path:List Pt) (h:run kF n 300 path todo env st ids [] = .at k env' st' ids' ob) (hob:AG ob) (hd:Tq1 n F Q k env' st' ids'):Tq1 n F Q todo env st ids:=J4 Hm Fh 300 path h hob hd
theorem EV (h:run kF n 300 [] todo env st ids [] = .at k env' st' ids' ob) (hd:Tq1 n F Q k env' st' ids') (hob:AG ob:=by simp):Tq1 n F Q todo env st ids:=sg [] h hob hd
theorem sgqc (h:run kF n 300 [] todo env st ids [] = .at k env' st' ids' ob) (hd:Tq1 n F Q k env' st' ids') (hob:AG ob:=by simp [Ap]):Tq1 n F Q todo env st ids:=sg [] h hob hd
theorem si (h:Se kF n env todo=some ⟨es,m,sz,e,g,ob,some t,todo'⟩) (hc:Ap g->0<=m/\es[m.toNat]?=some c/\c.length=sz) (hob:AG ob) (hk:Tq1 n F Q todo' ((t,gD g (.ip e c 0))::env) st ids):Tq1 n F Q todo env st ids:=HT Hm h hc hob hk
theorem Vg (h:Se kF n env todo=some ⟨es,(i:Int),sz,e,g,ob,some t,todo'⟩) (hg:es[i]?=some c) (hk:Tq1 n F Q todo' ((t,gD g (.ip e c 0))::env) st ids) (hl:c.length=sz:=by simp) (hob:AG ob:=by simp):Tq1 n F Q todo env st ids:=si h (λ_=>⟨by omega,by simpa using hg,hl⟩) hob hk
theorem sizc (h:Se kF n env todo=some ⟨es,(i:Int),sz,e,g,ob,some t,todo'⟩) (hg:es[i]?=some c) (hk:Tq1 n F Q todo' ((t,gD g (.ip e c 0))::env) st ids) (hl:c.length=sz:=by simp) (hob:AG ob:=by simp [Ap]):Tq1 n F Q todo env st ids:=si h (λ_=>⟨by omega,by simpa using hg,hl⟩) hob hk
structure Has where
 n:Bool
 text:Bool
 pats:Bool
 kids:Int
 is:Bool
def AT (op:Int) (k p:Nat):Has :=
 if op=1\/op=2 then ⟨true,false,false,0,true⟩
 else if op=3\/op=21\/op=25\/op=28 then ⟨false,false,false,0,true⟩
 else if op=4 then ⟨false,true,false,0,true⟩
 else if op=5\/op=27 then ⟨false,true,false,1,true⟩
 else if op=7 then ⟨false,true,false,2,true⟩
 else if op=8 then ⟨false,false,false,3,true⟩
 else if op=14 then ⟨false,true,false,(if (3:Int)<k then 3 else k),true⟩
 else if op=15 then ⟨false,false,true,(IntKind.i64.wrap (1+(p:Int))),true⟩
 else if op=16\/op=17\/op=19\/op=20\/op=23\/op=26 then ⟨false,false,false,1,true⟩
 else if op=24 then ⟨true,false,false,1,true⟩
 else if op=6\/op=9\/op=10\/op=11\/op=12\/op=13\/op=18\/op=22 then ⟨false,false,false,2,true⟩
 else ⟨false,false,false,0,false⟩
def Ex (h:Has):List V:=[.bool h.n,.bool h.text,.bool h.pats,.int .i64 h.kids]
theorem VT (op n:Int) (x:Str) (ks:List Tm) (ps:List Ty):Tq3 255 [.agg (Al (.mk op n x ks ps))] (.tup [.agg (Ex (AT op ks.length ps.length)),.bool (AT op ks.length ps.length).is]):=by
 refine Bl λhv=>?_;simp [Cx,Ez,Al,maxLen] at hv;refine AQ Hm func255 rfl [1,2,3] ?_;by_cases h1:op=1
 ·subst h1;refine sg [.a,.a] rfl (by simp)<|Ab rfl rfl ?_;simp [AT,Ex]
 by_cases h2:op=2
 ·subst h2;refine sg [.a,.a] rfl (by simp)<|Ab rfl rfl ?_;simp [AT,Ex]
 by_cases h3:op=3
 ·subst h3;refine sg [.a,.a,.a,.a] rfl (by simp)<|Ab rfl rfl ?_;simp [AT,Ex]
 by_cases h21:op=21
 ·subst h21;refine sg (Qy 4 [.a]) rfl (by simp)<|Ab rfl rfl ?_;simp [AT,Ex]
 by_cases h25:op=25
 ·subst h25;refine sg (Qy 5 [.a]) rfl (by simp)<|Ab rfl rfl ?_;simp [AT,Ex]
 by_cases h28:op=28
 ·subst h28;refine sg (Qy 5 [.a]) rfl (by simp)<|Ab rfl rfl ?_;simp [AT,Ex]
 by_cases h4:op=4
 ·subst h4;refine sg (Qy 6 [.a]) rfl (by simp)<|Ab rfl rfl ?_;simp [AT,Ex]
 by_cases h5:op=5
 ·subst h5;refine sg (Qy 8 [.a]) rfl (by simp)<|Ab rfl rfl ?_;simp [AT,Ex]
 by_cases h27:op=27
 ·subst h27;refine sg (Qy 8 [.a]) rfl (by simp)<|Ab rfl rfl ?_;simp [AT,Ex]
 by_cases h7:op=7
 ·subst h7;refine sg (Qy 9 [.a]) rfl (by simp)<|Ab rfl rfl ?_;simp [AT,Ex]
 by_cases h8:op=8
 ·subst h8;refine sg (Qy 10 [.a]) rfl (by simp)<|Ab rfl rfl ?_;simp [AT,Ex]
 by_cases h14:op=14
 ·subst h14;refine sg (Qy 11 [.a]) rfl (by simp)<|Ab rfl rfl ?_;simp [AT,Ex]
 by_cases h15:op=15
 ·subst h15;refine sg (Qy 12 [.a]) rfl (by simp)<|Ab rfl rfl ?_;simp [AT,Ex]
 by_cases h16:op=16
 ·subst h16;refine sg (Qy 14 [.a]) rfl (by simp)<|Ab rfl rfl ?_;simp [AT,Ex]
 by_cases h17:op=17
 ·subst h17;refine sg (Qy 15 [.a]) rfl (by simp)<|Ab rfl rfl ?_;simp [AT,Ex]
 by_cases h19:op=19
 ·subst h19;refine sg (Qy 16 [.a]) rfl (by simp)<|Ab rfl rfl ?_;simp [AT,Ex]
 by_cases h20:op=20
 ·subst h20;refine sg (Qy 17 [.a]) rfl (by simp)<|Ab rfl rfl ?_;simp [AT,Ex]
 by_cases h23:op=23
 ·subst h23;refine sg (Qy 18 [.a]) rfl (by simp)<|Ab rfl rfl ?_;simp [AT,Ex]
 by_cases h26:op=26
 ·subst h26;refine sg (Qy 18 [.a]) rfl (by simp)<|Ab rfl rfl ?_;simp [AT,Ex]
 by_cases h24:op=24
 ·subst h24;refine sg (Qy 19 [.a]) rfl (by simp)<|Ab rfl rfl ?_;simp [AT,Ex]
 by_cases h6:op=6
 ·subst h6;refine sg (Qy 21 [.a]) rfl (by simp)<|Ab rfl rfl ?_;simp [AT,Ex]
 by_cases h9:op=9
 ·subst h9;refine sg (Qy 22 [.a]) rfl (by simp)<|Ab rfl rfl ?_;simp [AT,Ex]
 by_cases h10:op=10
 ·subst h10;refine sg (Qy 23 [.a]) rfl (by simp)<|Ab rfl rfl ?_;simp [AT,Ex]
 by_cases h11:op=11
 ·subst h11;refine sg (Qy 24 [.a]) rfl (by simp)<|Ab rfl rfl ?_;simp [AT,Ex]
 by_cases h12:op=12
 ·subst h12;refine sg (Qy 25 [.a]) rfl (by simp)<|Ab rfl rfl ?_;simp [AT,Ex]
 by_cases h13:op=13
 ·subst h13;refine sg (Qy 26 [.a]) rfl (by simp)<|Ab rfl rfl ?_;simp [AT,Ex]
 by_cases h18:op=18
 ·subst h18;refine sg (Qy 27 [.a]) rfl (by simp)<|Ab rfl rfl ?_;simp [AT,Ex]
 by_cases h22:op=22
 ·subst h22;refine sg (Qy 27 [.a]) rfl (by simp)<|Ab rfl rfl ?_;simp [AT,Ex]
 refine sg [.f,.f,.f,.f,.f,.f,.f,.f,.f,.f,.f,.f,.f,.f,.f,.f,.f,.f,.f,.f,.f,.f,.f,.f,.f,.f,.f,.f] rfl (by simp [h1,h2,h3,h21,h25,h28,h4,h5,h27,h7,h8,h14,h15,h16,h17,h19,h20,h23,h26,h24,h6,h9,h10,h11,h12,h13,h18,h22])<|Ab rfl rfl ?_;simp [AT,Ex,h1,h2,h3,h21,h25,h28,h4,h5,h27,h7,h8,h14,h15,h16,h17,h19,h20,h23,h26,h24,h6,h9,h10,h11,h12,h13,h18,h22]
def CS (op n:Int) (x:Str) (k p:Nat):Bool:=let h:=AT op k p
 h.is&&((k:Int) == h.kids)&&(h.n||n == 0)&&(h.text||x == [])&&(h.pats||(p:Int) == 0)
def Cw (op:Int) (x:Str) (k p:Nat):Bool:=!((AT op k p).text&&op != 14)||ER x
theorem D7 (op n:Int) (x:Str) (ks:List Tm) (ps:List Ty) (hl:Cw op x ks.length ps.length=true):Tq2 Tryz.f191.ntmps (DY []) (Lb kF Tryz.f191.results.toList (.ret Jz []))
  [.code (Gx Tryz.f191 4)] [(1,.ref 1 0),(2,.ref 2 0)] [(2,some (.immb 296 4 (Ex (AT op ks.length ps.length)))),(1,some (.immb 49 5 (Al (.mk op n x ks ps))))] [3,4]:=by
 refine zG rfl<|Aa rfl (λh=>?_) (λh=>?_)
 ·refine Pw rfl<|Aj rfl (λ_=>Gy x) (by simp [Ap])<|EV rfl ?_;have hx:ER x=true:=by simp [Cw] at hl h;grind
  exact Aj rfl (λ_=>BI _ hx) (by simp)<|EV rfl<|BP ⟨_,AD⟩
 ·exact Pw rfl<|BP ⟨_,AD⟩
theorem Ej (op n:Int) (x:Str) (ks:List Tm) (ps:List Ty) (hl:Cw op x ks.length ps.length=false):Tq2 Tryz.f191.ntmps (DY []) (Lb kF Tryz.f191.results.toList (.pan FW))
  [.code (Gx Tryz.f191 4)] [(1,.ref 1 0),(2,.ref 2 0)] [(2,some (.immb 296 4 (Ex (AT op ks.length ps.length)))),(1,some (.immb 49 5 (Al (.mk op n x ks ps))))] [3,4]:=by
 refine zG rfl<|Aa rfl (λh=>?_) (λh=>?_)
 ·refine Pw rfl<|Aj rfl (λ_=>Gy x) (by simp [Ap])<|EV rfl ?_;have hx:ER x=false:=by simp [Cw] at hl h;grind
  exact AI [] rfl (by simp) (Cp _ hx) trivial rfl rfl
 ·exfalso;simp [Cw] at hl h;grind
def B3 (op n:Int) (x:Str) (ps:List Ty):Bool :=
 if op=1 then AW n
 else if op=2 then n == 0||n == 1
 else if op=24 then decide (0<=n)&&decide (n<4)
 else if op=14 then E3 x
 else if op=15 then decide (1<=(ps.length:Int))&&decide ((ps.length:Int)<=5)&&ps.all CF
 else true
def CH (op n:Int) (x:Str) (k:Nat) (ps:List Ty):Bool:=CS op n x k ps.length&&B3 op n x ps&&Cw op x k ps.length
theorem SM (op n:Int) (x:Str) (ks:List Tm) (ps:List Ty) (hy:CH op n x ks.length ps=true):Tq4 191 [.imm (.agg (Al (.mk op n x ks ps)))] [] (.ret Jz []):=by
 simp only [CH] at hy;refine AQ Hm func191 rfl [1,2,3,4]<|EV rfl<|Aj rfl (λ_=>VT op n x ks ps) (by simp [Ap])<|sg [] rfl (by simp [Ap,Ex] <;> grind) ?_;simp only [A2] at hy;obtain ⟨⟨hh,he⟩,hl⟩:=hy;refine Aj rfl (λ_=>BI _ (by simp [CS] at hh ⊢;grind)) (by simp) ?_;by_cases h1:op=1
 ·subst h1;refine sg [.a] rfl (by simp [Ap])<|Aj rfl (λ_=>Ji n) (by simp)<|EV rfl ?_;simp [B3] at he;exact Aj rfl (λ_=>BI _ (by first | exact he | (simp at he ⊢;grind) | (simp;grind) | grind)) (by simp)<|sg [.s] rfl (by simp)<|Ae (D7 _ n x ks ps hl) AD AD rfl
 by_cases h2:op=2
 ·subst h2;refine sg [.a,.a] rfl (by simp [Ap]) ?_;simp [B3] at he;exact Aj rfl (λ_=>BI _ (by first | exact he | (simp at he ⊢;grind) | (simp;grind) | grind)) (by simp)<|sg [.s] rfl (by simp)<|Ae (D7 _ n x ks ps hl) AD AD rfl
 by_cases h24:op=24
 ·subst h24;refine sg [.a,.a,.a] rfl (by simp [Ap]) ?_;simp [B3] at he;exact Aj rfl (λ_=>BI _ (by first | exact he | (simp at he ⊢;grind) | (simp;grind) | grind)) (by simp)<|sg [.s] rfl (by simp)<|Ae (D7 _ n x ks ps hl) AD AD rfl
 by_cases h14:op=14
 ·subst h14;refine sg [.a,.a,.a,.a] rfl (by simp [Ap])<|Aj rfl (λ_=>E8 x) (by simp)<|EV rfl ?_;simp [B3] at he;exact Aj rfl (λ_=>BI _ (by first | exact he | (simp at he ⊢;grind) | (simp;grind) | grind)) (by simp)<|sg [.s] rfl (by simp)<|Ae (D7 _ n x ks ps hl) AD AD rfl
 by_cases h15:op=15
 ·subst h15;refine sg (Qy 4 [.a]) rfl (by simp [Ap]) ?_;simp [B3] at he;refine Aj rfl (λ_=>BI _ (by simp;grind)) (by simp)<|EV rfl<|Ak (λi:Nat=>[(101,.imm (.int .i64 i)),(100,.imm (.int .i64 ps.length)),(99,.imm (.sl (dTys ps))),(1,.ref 1 0),(2,.ref 2 0)]) (λ_=>[(2,some (.immb 296 4 (Ex (AT 15 ks.length ps.length)))),(1,some (.immb 49 5 (Al (.mk 15 n x ks ps))))]) [3,4] (λi=>ps.length-i)
   (λi=>i<=ps.length/\(ps.drop i).all CF=true) 0 ⟨AF _,by simpa using he.2⟩ ⟨rfl,A8 (by simp),AH⟩ AD rfl λi hi ih=>?_
  refine Pw rfl ?_;have hi2:=hi.2;refine Aa rfl (λh=>?_) (λh=>?_)
  ·simp at h;obtain ⟨t,ht⟩:=Am h;rw [As ht,Zi] at hi2;refine Pw rfl<|Vg rfl (AA ht)<|EV rfl<|Aj rfl (λ_=>Ps t) (by simp)<|EV rfl ?_;simp only [A2] at hi2;have hz:=hi2.1;exact Aj rfl (λ_=>BI _ (by first | rfl | (rw [hz];rfl))) (by simp)<|EV rfl<|Ae (ih (i+1) (by omega) ⟨by omega,hi2.2⟩) ⟨M6,BJ⟩ AD rfl
  ·simp at h;rw [Bh (by omega)] at hi2;exact sd [.s] rfl (by simp)<|Ae (D7 _ n x ks ps hl) AD AD rfl
 exact sg [.f,.f,.f,.f,.f,.s] rfl (by simp [h1,h2,h24,h14,h15])<|Ae (D7 _ n x ks ps hl) AD AD rfl
theorem kL (op n:Int) (x:Str) (ks:List Tm) (ps:List Ty) (hy:CH op n x ks.length ps=false):Tq4 191 [.imm (.agg (Al (.mk op n x ks ps)))] [] (.pan FW):=by
 simp only [CH] at hy;refine AQ Hm func191 rfl [1,2,3,4]<|EV rfl<|Aj rfl (λ_=>VT op n x ks ps) (by simp [Ap])<|sg [] rfl (by simp [Ap,Ex] <;> grind) ?_;by_cases hh:CS op n x ks.length ps.length=true
 rotate_left
 ·exact AI [] rfl (by simp) (Cp _ (by simp [CS] at hh ⊢;grind)) trivial rfl rfl
 rw [hh] at hy;refine Aj rfl (λ_=>BI _ (by simp [CS] at hh ⊢;grind)) (by simp) ?_;by_cases h1:op=1
 ·subst h1;refine sg [.a] rfl (by simp [Ap])<|Aj rfl (λ_=>Ji n) (by simp)<|EV rfl ?_;by_cases he:B3 1 n x ps=true
  ·have hl:Cw 1 x ks.length ps.length=false:=by simpa [he] using hy
   simp [B3] at he;exact Aj rfl (λ_=>BI _ (by first | exact he | (simp at he ⊢;grind) | (simp;grind) | grind)) (by simp)<|sg [.s] rfl (by simp)<|Ae (Ej _ n x ks ps hl) AD AD rfl
  ·simp [B3] at he;exact AI [] rfl (by simp) (Cp _ (by first | exact he | (simp at he ⊢;grind) | (simp;grind) | grind)) trivial rfl rfl
 by_cases h2:op=2
 ·subst h2;refine sg [.a,.a] rfl (by simp [Ap]) ?_;by_cases he:B3 2 n x ps=true
  ·have hl:Cw 2 x ks.length ps.length=false:=by simpa [he] using hy
   simp [B3] at he;exact Aj rfl (λ_=>BI _ (by first | exact he | (simp at he ⊢;grind) | (simp;grind) | grind)) (by simp)<|sg [.s] rfl (by simp)<|Ae (Ej _ n x ks ps hl) AD AD rfl
  ·simp [B3] at he;exact AI [] rfl (by simp) (Cp _ (by first | exact he | (simp at he ⊢;grind) | (simp;grind) | grind)) trivial rfl rfl
 by_cases h24:op=24
 ·subst h24;refine sg [.a,.a,.a] rfl (by simp [Ap]) ?_;by_cases he:B3 24 n x ps=true
  ·have hl:Cw 24 x ks.length ps.length=false:=by simpa [he] using hy
   simp [B3] at he;exact Aj rfl (λ_=>BI _ (by first | exact he | (simp at he ⊢;grind) | (simp;grind) | grind)) (by simp)<|sg [.s] rfl (by simp)<|Ae (Ej _ n x ks ps hl) AD AD rfl
  ·simp [B3] at he;exact AI [] rfl (by simp) (Cp _ (by first | exact he | (simp at he ⊢;grind) | (simp;grind) | grind)) trivial rfl rfl
 by_cases h14:op=14
 ·subst h14;refine sg [.a,.a,.a,.a] rfl (by simp [Ap])<|Aj rfl (λ_=>E8 x) (by simp)<|EV rfl ?_;by_cases he:B3 14 n x ps=true
  ·have hl:Cw 14 x ks.length ps.length=false:=by simpa [he] using hy
   simp [B3] at he;exact Aj rfl (λ_=>BI _ (by first | exact he | (simp at he ⊢;grind) | (simp;grind) | grind)) (by simp)<|sg [.s] rfl (by simp)<|Ae (Ej _ n x ks ps hl) AD AD rfl
  ·simp [B3] at he;exact AI [] rfl (by simp) (Cp _ (by first | exact he | (simp at he ⊢;grind) | (simp;grind) | grind)) trivial rfl rfl
 by_cases h15:op=15
 ·subst h15;refine sg (Qy 4 [.a]) rfl (by simp [Ap]) ?_;by_cases he:(decide (1<=(ps.length:Int))&&decide ((ps.length:Int)<=5))=true
  rotate_left
  ·exact AI [] rfl (by simp) (Cp _ (by simp at he ⊢;grind)) trivial rfl rfl
  have he5:ps.length<=5:=by simp at he;omega
  have hy:ps.all CF=false\/Cw 15 x ks.length ps.length=false:=by
   have e:B3 15 n x ps=((decide (1<=(ps.length:Int))&&decide ((ps.length:Int)<=5))&&ps.all CF):=by simp only [B3];rfl
   rw [e,he] at hy;simpa only [JU,LK] using hy
  refine Aj rfl (λ_=>BI _ (by simp at he ⊢;grind)) (by simp)<|EV rfl<|Ak (λi:Nat=>[(101,.imm (.int .i64 i)),(100,.imm (.int .i64 ps.length)),(99,.imm (.sl (dTys ps))),(1,.ref 1 0),(2,.ref 2 0)]) (λ_=>[(2,some (.immb 296 4 (Ex (AT 15 ks.length ps.length)))),(1,some (.immb 49 5 (Al (.mk 15 n x ks ps))))]) [3,4] (λi=>ps.length-i)
   (λi=>i<=ps.length/\((ps.drop i).all CF=false\/Cw 15 x ks.length ps.length=false)) 0 ⟨AF _,hy⟩ ⟨rfl,A8 (by simp),AH⟩ AD rfl λi hi ih=>?_
  refine Pw rfl ?_;have hi2:=hi.2;refine Aa rfl (λh=>?_) (λh=>?_)
  ·simp at h;obtain ⟨t,ht⟩:=Am h;rw [As ht,Zi] at hi2;refine Pw rfl<|Vg rfl (AA ht)<|EV rfl<|Aj rfl (λ_=>Ps t) (by simp)<|EV rfl ?_;cases hz:CF t with
   | true =>
    rw [hz,JU] at hi2;exact Aj rfl (λ_=>BI _ (by first | rfl | (rw [hz];rfl))) (by simp)<|EV rfl<|Ae (ih (i+1) (by omega) ⟨by omega,hi2⟩) ⟨M6,BJ⟩ AD rfl
   | false=>exact AI [] rfl (by simp) (Cp _ (by first | rfl | (rw [hz];rfl))) trivial rfl rfl
  ·simp at h;rw [Bh (by omega)] at hi2;exact sd [.s] rfl (by simp)<|Ae (Ej _ n x ks ps (by simpa using hi2)) AD AD rfl
 exact sg [.f,.f,.f,.f,.f,.s] rfl (by simp [h1,h2,h24,h14,h15])<|Ae (Ej _ n x ks ps (by simpa [B3,h1,h2,h24,h14,h15] using hy)) AD AD rfl
mutual
def GS:Tm->Bool
 | .mk op n x ks ps=>CH op n x ks.length ps&&F9 ks
def F9:List Tm->Bool
 | []=>true
 | t::r=>GS t&&F9 r
end
theorem LA:∀(t:Tm),GS t=true->Tq4 136 [.imm (.agg (Al t))] [] (.ret Jz [])
 | .mk op n x ks ps,hy=>by
  refine EI 0 rfl λhok=>?_;have hv:ks.length<=9223372036854775807:=by
   simp [Cx,Ez,Al,maxLen] at hok;have:=hok.1;omega
  simp only [GS,UO] at hy;refine AQ Hm func136 rfl [1,2,3]<|EV rfl<|Jf [] [] [] rfl (SM op n x ks ps hy.1) trivial rfl rfl<|EV rfl<|Ak (λi:Nat=>[(9,.imm (.int .i64 i)),(8,.imm (.int .i64 ks.length)),(7,.imm (.sl (Dq ks))),(1,.ref 1 0)]) (λ_=>[(1,some (.immb 49 5 (Al (.mk op n x ks ps))))]) [2,3] (λi=>ks.length-i)
   (λi=>i<=ks.length/\F9 (ks.drop i)=true) 0 ⟨AF _,hy.2⟩ ⟨rfl,A8 (by simp),AD⟩ AC rfl λi hi ih=>?_
  refine Pw rfl ?_;have hi2:=hi.2;refine Aa rfl (λh=>?_) (λh=>?_)
  ·simp at h;obtain ⟨t,ht⟩:=Am h;rw [As ht] at hi2;simp only [F9,UO] at hi2;refine Pw rfl<|Vg rfl (E5 ht)<|EV rfl ?_
   ·exact Jf [] [] [] rfl (LA t hi2.1) trivial rfl rfl<|EV rfl<|Ae (ih (i+1) (by omega) ⟨by omega,hi2.2⟩) ⟨M6,AH⟩ AC rfl
  ·exact Pw rfl<|BP ⟨_,AD⟩
termination_by t=>SizeOf.sizeOf t
decreasing_by
 all_goals
  have:=Ct (AK ht);simp_wf;omega
theorem SL:∀(t:Tm),GS t=false->Tq4 136 [.imm (.agg (Al t))] [] (.pan FW)
 | .mk op n x ks ps,hy=>by
  refine EI 0 rfl λhok=>?_;have hv:ks.length<=9223372036854775807:=by
   simp [Cx,Ez,Al,maxLen] at hok;have:=hok.1;omega
  simp only [GS,LK] at hy;refine AQ Hm func136 rfl [1,2,3]<|EV rfl ?_;by_cases hn:CH op n x ks.length ps=true
  rotate_left
  ·exact AI [] rfl (by simp) (kL op n x ks ps (by simpa using hn)) trivial rfl rfl
  rw [hn] at hy;simp only [Bool.true_eq_false,false_or] at hy;refine Jf [] [] [] rfl (SM op n x ks ps hn) trivial rfl rfl<|EV rfl<|Ak (λi:Nat=>[(9,.imm (.int .i64 i)),(8,.imm (.int .i64 ks.length)),(7,.imm (.sl (Dq ks))),(1,.ref 1 0)]) (λ_=>[(1,some (.immb 49 5 (Al (.mk op n x ks ps))))]) [2,3] (λi=>ks.length-i)
   (λi=>i<=ks.length/\F9 (ks.drop i)=false) 0 ⟨AF _,hy⟩ ⟨rfl,A8 (by simp),AD⟩ AC rfl λi hi ih=>?_
  refine Pw rfl ?_;have hi2:=hi.2;refine Aa rfl (λh=>?_) (λh=>?_)
  ·simp at h;obtain ⟨t,ht⟩:=Am h;rw [As ht] at hi2;simp only [F9,LK] at hi2;refine Pw rfl<|Vg rfl (E5 ht)<|EV rfl ?_;by_cases hz:GS t=true
   ·exact Jf [] [] [] rfl (LA t hz) trivial rfl rfl<|EV rfl<|Ae (ih (i+1) (by omega) ⟨by omega,by rw [hz] at hi2;simpa using hi2⟩) ⟨M6,AH⟩ AC rfl
   ·exact AI [] rfl (by simp) (SL t (by simpa using hz)) trivial rfl rfl
  ·exfalso;simp at h;rw [Bh (by omega)] at hi2;simp [F9] at hi2
termination_by t=>SizeOf.sizeOf t
decreasing_by
 all_goals
  have:=Ct (AK ht);simp_wf;omega
def Im (t:Tm):Bool:=decide (0<=B1 t 60 14)&&GS t
theorem aS (t:Tm) (h:Im t=true):Tq4 134 [.ref 1 0] [(1,some (.immb 49 5 (Al t)))] (.ret Jz [(1,some (.immb 49 5 (Al t)))]):=by
 simp only [Im,A2,decide_eq_true_eq] at h;exact AQ Hm func134 rfl [2,3,4]<|EV rfl<|Jf [] [(2,1)] [] rfl (KE t 60 14 1 (by decide) (by decide) (by decide) (by decide) (by decide) (by decide) h.1) Aw rfl rfl<|EV rfl<|Jf [] [] [] rfl (LA t h.2) trivial rfl rfl<|EV rfl<|BP ⟨_,rfl,rfl,AC⟩
theorem jA (t:Tm) (h:Im t=false):Tq4 134 [.ref 1 0] [(1,some (.immb 49 5 (Al t)))] (.pan FW):=by
 refine AQ Hm func134 rfl [2,3,4]<|EV rfl ?_;by_cases h1:0<=B1 t 60 14
 ·exact Jf [] [(2,1)] [] rfl (KE t 60 14 1 (by decide) (by decide) (by decide) (by decide) (by decide) (by decide) h1) Aw rfl rfl<|EV rfl<|AI [] rfl (by simp) (SL t (by simpa [Im,h1] using h)) trivial rfl rfl
 ·exact AI [(2,1)] rfl (by simp) (Xs t 60 14 1 (by decide) (by decide) (by decide) (by decide) (by decide) (by decide) (by show B1 t 60 14<0;omega)) Aw rfl rfl
theorem Yh (t:Tm):Tq3 74 [.agg (Al t)] (Su (Im t)):=by
 refine AQ Hm func74 rfl [1,2,3]<|EV rfl ?_;cases h:Im t with
 | true =>
  exact C8 rfl (Nk func134 (by decide +kernel) rfl (aS t h)) Aw rfl<|EV rfl<|Ab rfl rfl rfl
 | false =>
  exact C8 rfl (Pg func134 (by decide +kernel) rfl (jA t h)) Aw rfl<|EV rfl<|Ab rfl rfl rfl
def qU:TT:=kF++[
 (190,⟨.iface,false,1,16,[.imm .niliface]⟩),
 (183,⟨.sl 190,false,1,24,[.nils]⟩),
 (185,⟨.struct [(0,113)],true,2,40,[.imm (.str []),.nils]⟩),
 (187,⟨.struct [(0,71)],true,15,224,[.imm (.str []),.imm (.str []),.imm (.int .i64 0),.imm (.int .i64 0),.imm (.str []),.nils,.imm (.int .i64 0),.imm (.int .i64 0),.imm (.str []),.nils,.imm (.int .i64 0),.imm (.int .i64 0),.imm (.str []),.nils,.nils]⟩),
 (26,⟨.func,false,1,8,[.imm .nilfn]⟩),
 (246,⟨.func,false,1,8,[.imm .nilfn]⟩),
 (191,⟨.func,false,1,8,[.imm .nilfn]⟩)]
theorem C5:TTok prog qU:=.of_eq (l:=[4,3,9,49,25,182,45,47,5,23,22,73,46,180,71,43,178,40,41,113,111,28,293,195,1,139,296,190,183,185,187,26,246,191]) (by kernel_rfl)
theorem ad (path:List Pt) (h:run qU n 300 path todo env st ids [] = .at k env' st' ids' ob) (hob:AG ob) (hd:Tq1 n F Q k env' st' ids'):Tq2 n F Q todo env st ids:=L4 C5 Fh 300 path h hob hd
theorem Es (h:run qU n 300 [] todo env st ids [] = .at k env' st' ids' ob) (hd:Tq1 n F Q k env' st' ids') (hob:AG ob:=by simp):Tq2 n F Q todo env st ids:=ad [] h hob hd
theorem adqc (h:run qU n 300 [] todo env st ids [] = .at k env' st' ids' ob) (hd:Tq1 n F Q k env' st' ids') (hob:AG ob:=by simp [Ap]):Tq2 n F Q todo env st ids:=ad [] h hob hd
theorem ag (path:List Pt) (h:run qU n 300 path todo env st ids [] = .at k env' st' ids' ob) (hob:AG ob) (hd:Tq1 n F Q k env' st' ids'):Tq1 n F Q todo env st ids:=J4 C5 Fh 300 path h hob hd
theorem Er (h:run qU n 300 [] todo env st ids [] = .at k env' st' ids' ob) (hd:Tq1 n F Q k env' st' ids') (hob:AG ob:=by simp):Tq1 n F Q todo env st ids:=ag [] h hob hd
theorem S9 (h:run qU n 300 [] todo env st ids [] = .at k env' st' ids' ob) (hd:Tq1 n F Q k env' st' ids') (hob:AG ob:=by simp [Ap]):Tq1 n F Q todo env st ids:=ag [] h hob hd
theorem ai (h:Se qU n env todo=some ⟨es,m,sz,e,g,ob,some t,todo'⟩) (hc:Ap g->0<=m/\es[m.toNat]?=some c/\c.length=sz) (hob:AG ob) (hk:Tq1 n F Q todo' ((t,gD g (.ip e c 0))::env) st ids):Tq1 n F Q todo env st ids:=HT C5 h hc hob hk
theorem Uz (h:Se qU n env todo=some ⟨es,(i:Int),sz,e,g,ob,some t,todo'⟩) (hg:es[i]?=some c) (hk:Tq1 n F Q todo' ((t,gD g (.ip e c 0))::env) st ids) (hl:c.length=sz:=by simp) (hob:AG ob:=by simp):Tq1 n F Q todo env st ids:=ai h (λ_=>⟨by omega,by simpa using hg,hl⟩) hob hk
theorem aizc (h:Se qU n env todo=some ⟨es,(i:Int),sz,e,g,ob,some t,todo'⟩) (hg:es[i]?=some c) (hk:Tq1 n F Q todo' ((t,gD g (.ip e c 0))::env) st ids) (hl:c.length=sz:=by simp) (hob:AG ob:=by simp [Ap]):Tq1 n F Q todo env st ids:=ai h (λ_=>⟨by omega,by simpa using hg,hl⟩) hob hk
def IG {α:Type} (q:α->Bool):List α->Nat->Int
 | [],_=>-1
 | e::r,i=>if q e then (i:Int) else IG q r (i+1)
theorem MS {α:Type} (q:α->Bool):∀(es:List α) (i:Nat),0<=IG q es i↔es.any q=true
 | [],i=>by simp [IG]
 | e::r,i=>by
  have ih:=MS q r (i+1);by_cases h:q e=true
  ·simp [IG,h]
  ·simp only [IG,h,Zh];simpa using ih
theorem xZ (g:FuncId) (tf:TypeId) (fv:V) (q:List V->Bool) (es:List (List V)) (hes:∀e∈es,e.length=4) (hlen:es.length<=9223372036854775806)
  (hq:∀e∈es,Tq4 g [.imm (.agg e),.ref 1 0] [(1,some (.immb tf 1 [fv]))] (.ret (.imm (.bool (q e))) [(1,some (.immb tf 1 [fv]))])) :
  Tq4 245 [.imm (.sl es),.fn (.func g) [] [.ref 1 0]] [(1,some (.immb tf 1 [fv]))] (.ret (.imm (.int .i64 (IG q es 0))) [(1,some (.immb tf 1 [fv]))]):=by
 refine AQ C5 func245 rfl [2,3,4]<|Er rfl<|Ak (λi:Nat=>[(8,.imm (.int .i64 i)),(7,.imm (.int .i64 es.length)),(0,.imm (.sl es)),(1,.fn (.func g) [] [.ref 1 0])]) (λ_=>[(1,some (.immb tf 1 [fv]))]) [2,3,4] (λi=>es.length-i)
  (λi=>i<=es.length/\IG q es 0=IG q (es.drop i) i) 0 ⟨AF _,rfl⟩ ⟨rfl,A8 (by simp),AD⟩ AC rfl λi hi ih=>?_
 refine Es rfl ?_;have hi2:=hi.2;refine Aa rfl (λh=>?_) (λh=>?_)
 ·simp at h;obtain ⟨e,he⟩:=Am h;have hm:=AK he;rw [As he] at hi2;refine Es rfl<|ai rfl (c:=e) (λ_=>⟨by simp,by simpa using he,hes e hm⟩) (by simp)<|ag [] rfl (by simp [hes e hm])<|C8 rfl (hq e hm) Aw rfl<|Er rfl<|Aa rfl (λh=>?_) (λh=>?_)
  ·exact Es rfl<|Ag ⟨_,rfl,tV (congrArg _ (by rw [hi2];simp [IG,h])),AC⟩
  ·exact Es rfl<|Ae (ih (i+1) (by omega) ⟨by omega,by rw [hi2];simp [IG,h]⟩) ⟨M6,AH⟩ AC rfl
 ·refine Es rfl ?_;simp at h;refine Ag ⟨_,rfl,tV (congrArg _ ?_),AC⟩;rw [hi2,Bh (by omega)];rfl
theorem iU (g:FuncId) (tf:TypeId) (fv:V) (q:List V->Bool) (es:List (List V)) (hes:∀e∈es,e.length=4) (hlen:es.length<=9223372036854775806)
  (hq:∀e∈es,Tq4 g [.imm (.agg e),.ref 1 0] [(1,some (.immb tf 1 [fv]))] (.ret (.imm (.bool (q e))) [(1,some (.immb tf 1 [fv]))])) :
  Tq4 174 [.imm (.sl es),.fn (.func g) [] [.ref 1 0]] [(1,some (.immb tf 1 [fv]))] (.ret (.imm (.bool (es.any q))) [(1,some (.immb tf 1 [fv]))]):=by
 refine AQ C5 func174 rfl [2,3,4]<|Er rfl<|C8 rfl (xZ g tf fv q es hes hlen hq) Aw rfl<|Er rfl<|Ag ⟨_,rfl,tV (congrArg _ ?_),AC⟩;rw [EY,<- MS q es 0];simp
theorem zae (g:FuncId) (e:List V) (hel:e.length=4) (b:Bool) (hq:Tq3 g [.agg e] (.bool b)) :
  Tq4 252 [.imm (.agg e),.ref 1 0] [(1,some (.immb 26 1 [.fn (.func g)]))] (.ret (.imm (.bool (!b))) [(1,some (.immb 26 1 [.fn (.func g)]))]):=by
 exact AQ C5 func252 rfl [2,3,4]<|ag [] rfl (by simp [hel])<|Jf [] [] [] rfl hq trivial rfl rfl<|Er rfl<|Ag ⟨_,rfl,tV rfl,AC⟩
theorem allT (g:FuncId) (q:List V->Bool) (es:List (List V)) (hes:∀e∈es,e.length=4) (hlen:es.length<=9223372036854775806) (hq:∀e∈es,Tq3 g [.agg e] (.bool (q e))) :
  Tq3 186 [.sl es,.fn (.func g)] (.bool (es.all q)):=by
 refine AQ C5 func186 rfl [1,2,3]<|Er rfl<|C8 rfl (iU 252 26 (.fn (.func g)) (λe=>!q e) es hes hlen (λe he=>zae g e (hes e he) (q e) (hq e he))) Aw rfl<|Er rfl<|Ab rfl rfl (congrArg _ ?_);rw [Zg];simp
theorem yB (g:FuncId) (tf:TypeId) (fv:V) (q:List V->Bool) (es:List (List V)) (hes:∀e∈es,e.length=2) (hlen:es.length<=9223372036854775806)
  (hq:∀e∈es,Tq4 g [.imm (.agg e),.ref 1 0] [(1,some (.immb tf 1 [fv]))] (.ret (.imm (.bool (q e))) [(1,some (.immb tf 1 [fv]))])) :
  Tq4 282 [.imm (.sl es),.fn (.func g) [] [.ref 1 0]] [(1,some (.immb tf 1 [fv]))] (.ret (.imm (.int .i64 (IG q es 0))) [(1,some (.immb tf 1 [fv]))]):=by
 refine AQ C5 func282 rfl [2,3,4]<|Er rfl<|Ak (λi:Nat=>[(8,.imm (.int .i64 i)),(7,.imm (.int .i64 es.length)),(0,.imm (.sl es)),(1,.fn (.func g) [] [.ref 1 0])]) (λ_=>[(1,some (.immb tf 1 [fv]))]) [2,3,4] (λi=>es.length-i)
  (λi=>i<=es.length/\IG q es 0=IG q (es.drop i) i) 0 ⟨AF _,rfl⟩ ⟨rfl,A8 (by simp),AD⟩ AC rfl λi hi ih=>?_
 refine Es rfl ?_;have hi2:=hi.2;refine Aa rfl (λh=>?_) (λh=>?_)
 ·simp at h;obtain ⟨e,he⟩:=Am h;have hm:=AK he;rw [As he] at hi2;refine Es rfl<|ai rfl (c:=e) (λ_=>⟨by simp,by simpa using he,hes e hm⟩) (by simp)<|ag [] rfl (by simp [hes e hm])<|C8 rfl (hq e hm) Aw rfl<|Er rfl<|Aa rfl (λh=>?_) (λh=>?_)
  ·exact Es rfl<|Ag ⟨_,rfl,tV (congrArg _ (by rw [hi2];simp [IG,h])),AC⟩
  ·exact Es rfl<|Ae (ih (i+1) (by omega) ⟨by omega,by rw [hi2];simp [IG,h]⟩) ⟨M6,AH⟩ AC rfl
 ·refine Es rfl ?_;simp at h;refine Ag ⟨_,rfl,tV (congrArg _ ?_),AC⟩;rw [hi2,Bh (by omega)];rfl
theorem iW (g:FuncId) (tf:TypeId) (fv:V) (q:List V->Bool) (es:List (List V)) (hes:∀e∈es,e.length=2) (hlen:es.length<=9223372036854775806)
  (hq:∀e∈es,Tq4 g [.imm (.agg e),.ref 1 0] [(1,some (.immb tf 1 [fv]))] (.ret (.imm (.bool (q e))) [(1,some (.immb tf 1 [fv]))])) :
  Tq4 250 [.imm (.sl es),.fn (.func g) [] [.ref 1 0]] [(1,some (.immb tf 1 [fv]))] (.ret (.imm (.bool (es.any q))) [(1,some (.immb tf 1 [fv]))]):=by
 refine AQ C5 func250 rfl [2,3,4]<|Er rfl<|C8 rfl (yB g tf fv q es hes hlen hq) Aw rfl<|Er rfl<|Ag ⟨_,rfl,tV (congrArg _ ?_),AC⟩;rw [EY,<- MS q es 0];simp
theorem zag (g:FuncId) (e:List V) (hel:e.length=2) (b:Bool) (hq:Tq3 g [.agg e] (.bool b)) :
  Tq4 251 [.imm (.agg e),.ref 1 0] [(1,some (.immb 246 1 [.fn (.func g)]))] (.ret (.imm (.bool (!b))) [(1,some (.immb 246 1 [.fn (.func g)]))]):=by
 exact AQ C5 func251 rfl [2,3,4]<|ag [] rfl (by simp [hel])<|Jf [] [] [] rfl hq trivial rfl rfl<|Er rfl<|Ag ⟨_,rfl,tV rfl,AC⟩
theorem allC (g:FuncId) (q:List V->Bool) (es:List (List V)) (hes:∀e∈es,e.length=2) (hlen:es.length<=9223372036854775806) (hq:∀e∈es,Tq3 g [.agg e] (.bool (q e))) :
  Tq3 184 [.sl es,.fn (.func g)] (.bool (es.all q)):=by
 refine AQ C5 func184 rfl [1,2,3]<|Er rfl<|C8 rfl (iW 251 246 (.fn (.func g)) (λe=>!q e) es hes hlen (λe he=>zag g e (hes e he) (q e) (hq e he))) Aw rfl<|Er rfl<|Ab rfl rfl (congrArg _ ?_);rw [Zg];simp
theorem yA (g:FuncId) (tf:TypeId) (fv:V) (q:V->Bool) (es:List V) (hlen:es.length<=9223372036854775806)
  (hq:∀e∈es,Tq4 g [.imm e,.ref 1 0] [(1,some (.immb tf 1 [fv]))] (.ret (.imm (.bool (q e))) [(1,some (.immb tf 1 [fv]))])) :
  Tq4 249 [.imm (.sl (es.map λx=>[x])),.fn (.func g) [] [.ref 1 0]] [(1,some (.immb tf 1 [fv]))] (.ret (.imm (.int .i64 (IG q es 0))) [(1,some (.immb tf 1 [fv]))]):=by
 refine AQ C5 func249 rfl [2,3,4]<|Er rfl<|Ak (λi:Nat=>[(8,.imm (.int .i64 i)),(7,.imm (.int .i64 es.length)),(0,.imm (.sl (es.map λx=>[x]))),(1,.fn (.func g) [] [.ref 1 0])]) (λ_=>[(1,some (.immb tf 1 [fv]))]) [2,3,4] (λi=>es.length-i)
  (λi=>i<=es.length/\IG q es 0=IG q (es.drop i) i) 0 ⟨AF _,rfl⟩ ⟨rfl,A8 (by simp),AD⟩ AC rfl λi hi ih=>?_
 refine Es rfl ?_;have hi2:=hi.2;refine Aa rfl (λh=>?_) (λh=>?_)
 ·simp at h;obtain ⟨e,he⟩:=Am h;have hm:=AK he;rw [As he] at hi2;refine Es rfl<|ai rfl (c:=[e]) (λ_=>⟨by simp,by simp [he],rfl⟩) (by simp)<|Er rfl<|C8 rfl (hq e hm) Aw rfl<|Er rfl<|Aa rfl (λh=>?_) (λh=>?_)
  ·exact Es rfl<|Ag ⟨_,rfl,tV (congrArg _ (by rw [hi2];simp [IG,h])),AC⟩
  ·exact Es rfl<|Ae (ih (i+1) (by omega) ⟨by omega,by rw [hi2];simp [IG,h]⟩) ⟨M6,AH⟩ AC rfl
 ·refine Es rfl ?_;simp at h;refine Ag ⟨_,rfl,tV (congrArg _ ?_),AC⟩;rw [hi2,Bh (by omega)];rfl
theorem iV (g:FuncId) (tf:TypeId) (fv:V) (q:V->Bool) (es:List V) (hlen:es.length<=9223372036854775806)
  (hq:∀e∈es,Tq4 g [.imm e,.ref 1 0] [(1,some (.immb tf 1 [fv]))] (.ret (.imm (.bool (q e))) [(1,some (.immb tf 1 [fv]))])) :
  Tq4 181 [.imm (.sl (es.map λx=>[x])),.fn (.func g) [] [.ref 1 0]] [(1,some (.immb tf 1 [fv]))] (.ret (.imm (.bool (es.any q))) [(1,some (.immb tf 1 [fv]))]):=by
 refine AQ C5 func181 rfl [2,3,4]<|Er rfl<|C8 rfl (yA g tf fv q es hlen hq) Aw rfl<|Er rfl<|Ag ⟨_,rfl,tV (congrArg _ ?_),AC⟩;rw [EY,<- MS q es 0];simp
theorem zaf (g:FuncId) (e:V) (b:Bool) (hq:Tq3 g [e] (.bool b)) :
  Tq4 182 [.imm e,.ref 1 0] [(1,some (.immb 191 1 [.fn (.func g)]))] (.ret (.imm (.bool (!b))) [(1,some (.immb 191 1 [.fn (.func g)]))]):=by
 exact AQ C5 func182 rfl [2,3,4]<|Er rfl<|Jf [] [] [] rfl hq trivial rfl rfl<|Er rfl<|Ag ⟨_,rfl,tV rfl,AC⟩
theorem allI (g:FuncId) (q:V->Bool) (es:List V) (hlen:es.length<=9223372036854775806) (hq:∀e∈es,Tq3 g [e] (.bool (q e))) :
  Tq3 127 [.sl (es.map λx=>[x]),.fn (.func g)] (.bool (es.all q)):=by
 refine AQ C5 func127 rfl [1,2,3]<|Er rfl<|C8 rfl (iV 182 191 (.fn (.func g)) (λe=>!q e) es hlen (λe he=>zaf g e (q e) (hq e he))) Aw rfl<|Er rfl<|Ab rfl rfl (congrArg _ ?_);rw [Zg];simp
def Kt:Sh->Bool
 | .iface | .other=>false
 | _=>true
structure PTa where
 t:TypeId
 v:V
 to_:TypeId
 dst:Option Nat
 todo:List DI
def pta (tt:TT) (n:Nat) (env:Env) (todo:List DI):Option PTa :=
 match NN todo with
 | some o=>match o.guard,o.op with
  | none,.typeAssert x _ to_ true=>match DN env x,lk tt to_,BK n o.dst,Bt todo ([],[]) with
   | some (.imm (.iface t v)),some i,true,some (_,_,todo')=>match Kt i.sh with
    | true=>some ⟨t,v,to_,o.dst,todo'⟩
    | false=>none
   | _,_,_,_=>none
  | _,_=>none
 | none=>none
theorem O6 {t to_ from_:TypeId} {i:TyI} (hi:TyOk P to_ i) (hc:Kt i.sh=true) {r:Value} (h:(t=to_/\r = .tuple #[v,.bool true])\/(t≠to_/\∃z,(P.info? to_).bind (·.zero)=some z/\r = .tuple #[z,.bool false])) :
  (Instr.typeAssert (.iface t v) from_ to_ true).run P w = .ok r w:=by
 have hu:∃dd,P.underlying to_=some dd/\∀ms,dd ≠ .interface ms:=by
  have:=hi.sh;generalize i.sh=sh at this hc;cases sh <;> simp only [Kt,E1] at hc <;> simp only [zbe] at this
  case struct fs=>obtain ⟨f,h1,_⟩:=this;exact ⟨_,h1,λ_ h=>by cases h⟩
  case func=>obtain ⟨a,b,c,h1⟩:=this;exact ⟨_,h1,λ_ h=>by cases h⟩
  all_goals exact ⟨_,this,λ_ h=>by cases h⟩
 obtain ⟨dd,hd,hne⟩:=hu;rcases h with ⟨rfl,rfl⟩ | ⟨hn,z,hz,rfl⟩
 ·cases dd <;> first | exact absurd rfl (hne _) | simp [Instr.typeAssert,run_underlying hd]
 ·have hz:=EB (w:=w) hz;cases dd <;> first | exact absurd rfl (hne _) | simp [Instr.typeAssert,run_underlying hd,hn,hz]
theorem Ds (htt:TTok P tt) {t0 to_:TypeId} {v0:V} {todo0:List DI} (h:pta tt n env todo=some ⟨t0,v0,to_,d0,todo0⟩) {r:List V} (hr:(t0=to_/\r=[v0,.bool true])\/(t0≠to_/\∃z zd,(P.info? to_).bind (·.zero)=some z/\(∀I,RepV I z zd)/\r=[zd,.bool false])) (hk:G P n F Q todo0 (BN d0 (.imm (.tup r)) env) st ids):G P n F Q todo env st ids:=by
 unfold pta at h
 split at h
 ·rename_i o ho
  split at h
  ·rename_i x from_ to' hg hop
   split at h
   ·rename_i t v i all o' todo' hx hi hd h1
    split at h
    ·rename_i hc;cases h;have ho':o'=o:=Dd ho h1;subst ho';refine BG (fr:=[]) (wr:=[]) (rd:=[]) h1 ?_ hd (λc hc=>by rw [hop] at hc;cases hc) hk;intro I μ st1 ids1 a w hag hst hon;refine ⟨λ_=>?_,λhw=>by rw [AL hg] at hw;cases hw⟩;have hops:=Bm hon;rw [hop] at hops;have rx:=(hops x (by simp [Op.operands]) _ hx).immInv;generalize hv:a.eval x=v at rx;cases rx with
     | iface _ u _ hu =>
      have fin:∀(z:Value) (b:Bool) (zd:V),(Instr.typeAssert (.iface t0 u) from_ to_ true).run P w = .ok (.tuple #[z,.bool b]) w->RepV I z zd->r=[zd,.bool b] ->
        valX P ((execOp a.eval o').run P w) (λv w'=>∃I' μ',StRep I' μ' ([]++st1) ids1 w'/\RepD I' μ' v (.imm (.tup r))/\μ.le μ'/\Ext I μ st1 w I' μ' ([]++st1) w') (KZ (KY Q) I μ st1 w):=by
       intro z b zd h1 h2 h3;have hrun:(execOp a.eval o').run P w = .ok (.value (.tuple #[z,.bool b])) w:=by
        simp only [execOp,hop,hv];exact A7 h1
       rw [hrun,h3];refine ⟨I,μ,hst,.imm _ _ (.tup _ _ rfl λi c x hc hx=>?_),Mu.le_refl μ,Ext.refl _ _ _ _⟩
       match i,hc,hx with
       | 0,hc,hx=>cases hc;cases hx;exact h2
       | 1,hc,hx=>cases hc;cases hx;exact .bool _
       | i+2,hc,hx=>simp at hx
      rcases hr with ⟨e1,e2⟩ | ⟨e1,z,zd,e2,e3,e4⟩
      ·exact fin u true v0 (O6 (htt _ _ hi) hc (.inl ⟨e1,rfl⟩)) hu e2
      ·exact fin z false zd (O6 (htt _ _ hi) hc (.inr ⟨e1,z,e2,rfl⟩)) (e3 I) e4
    ·cases h
   ·cases h
  ·cases h
 ·cases h
mutual
theorem RA:∀{a b:Ty},dTyc a=dTyc b->a=b
 | .mk s n x ps,.mk s' n' x' ps',h=>by
  simp only [dTyc,E2,V.int.injEq,V.str.injEq,V.sl.injEq,and_true,true_and] at h;obtain ⟨h1,h2,h3,h4⟩:=h;subst h1;subst h2;subst h3;rw [H3 h4]
theorem H3:∀{a b:List Ty},dTys a=dTys b->a=b
 | [],[],_=>rfl
 | [],_::_,h=>by simp [dTys] at h
 | _::_,[],h=>by simp [dTys] at h
 | x::r,y::t,h=>by
  simp only [dTys,E2] at h;rw [RA h.1,H3 h.2]
end
theorem RE {a b:Cd} (h:CK a=CK b):a=b:=by
 obtain ⟨a1,a2⟩:=a;obtain ⟨b1,b2⟩:=b;simp only [CK,E2,V.str.injEq,V.sl.injEq,and_true] at h;rw [h.1,H3 h.2]
open Classical in
noncomputable def qOf {α β:Type} (d:α->β) (f:α->Bool) (e:β):Bool:=decide (∃t,d t=e/\f t=true)
open Classical in
theorem UA {d:α->β} (hd:∀{a b},d a=d b->a=b) (f:α->Bool) (t:α):qOf d f (d t)=f t:=by
 unfold qOf;by_cases h:f t=true
 ·rw [h];exact decide_eq_true ⟨t,rfl,h⟩
 ·simp only [QN] at h;rw [h];refine decide_eq_false λ⟨u,h1,h2⟩=>?_;rw [hd h1,h] at h2;cases h2
theorem UB {d:α->β} (hd:∀{a b},d a=d b->a=b) (f:α->Bool) (l:List α):(l.map d).all (qOf d f)=l.all f:=by
 rw [NT];congr 1;funext t;exact UA hd f t
def Pe (c:Cd):Bool:=E3 c.name&&decide ((c.args.length:Int)<=3)&&c.args.all (AV false)
def H1 (d:Dt):Bool:=E3 d.name&&decide ((1:Int)<=d.cons.length)&&decide ((d.cons.length:Int)<=5)&&d.cons.all Pe
def Kk (f:Fd):Bool:=ER f.name&&ER f.param&&AV false f.from_&&AV false f.to_&&Im f.body
theorem qE (ts:List Ty) (h:ts.length<=9223372036854775806):Tq3 186 [.sl (dTys ts),.fn (.func 187)] (.bool (ts.all (AV false))):=by
 have:=allT 187 (qOf dTyc (AV false)) (dTys ts) (λe he=>by rw [CU] at he;obtain ⟨t,_,rfl⟩:=Cc.1 he;simp) (by simpa using h) (λe he=>by
  rw [CU] at he;obtain ⟨t,_,rfl⟩:=Cc.1 he;rw [UA RA];exact PZ t)
 rw [CU,UB RA] at this;rw [CU];exact this
theorem fA (c:Cd):Tq3 185 [.agg (CK c)] (.bool (Pe c)):=by
 obtain ⟨nm,ts⟩:=c;refine Bl λhv=>?_;simp [Cx,Ez,CK,maxLen] at hv;refine AQ C5 func185 rfl [1,2,3]<|S9 rfl<|Aj rfl (λ_=>E8 nm) (by simp [Ap])<|S9 rfl<|Aj rfl (λhg=>qE ts (by simp [Ap] at hg;omega)) (by simp [Ap])<|ag [] rfl (by simp [Ap] <;> grind)<|Ab rfl rfl (congrArg _ ?_);simp [Pe] <;> grind
theorem uS (cs:List Cd) (h:cs.length<=9223372036854775806):Tq3 184 [.sl (cs.map CK),.fn (.func 185)] (.bool (cs.all Pe)):=by
 have:=allC 185 (qOf CK Pe) (cs.map CK) (λe he=>by obtain ⟨t,_,rfl⟩:=Cc.1 he;rfl) (by simpa using h) (λe he=>by
  obtain ⟨t,_,rfl⟩:=Cc.1 he;rw [UA RE];exact fA t)
 rw [UB RE] at this;exact this
def Mz (d:Dt):V:=.iface 185 (.agg (BE d))
def JO (f:Fd):V:=.iface 187 (.agg (Cg f))
theorem Uk:∃z,(prog.info? 185).bind (·.zero)=some z/\∀I,RepV I z (.agg [.str [],.sl []]):=by
 refine ⟨.agg #[.string ⟨#[]⟩,.slice none 0 0],by kernel_rfl,λI=>.agg _ _ rfl (by decide) λi c x hc hx=>?_⟩
 match i,hc,hx with
 | 0,hc,hx=>cases hc;cases hx;exact .str _ _ rfl
 | 1,hc,hx=>cases hc;cases hx;exact .slnil
 | i+2,hc,hx=>simp at hx
theorem Y7 (d:Dt):Tq3 128 [Mz d] (.bool (H1 d)):=by
 obtain ⟨nm,cs⟩:=d;refine Bl λhv=>?_;simp [Cx,Ez,Mz,BE,maxLen] at hv;refine AQ C5 func128 rfl [1,2,3,4]<|S9 rfl<|Ds C5 rfl (.inl ⟨rfl,rfl⟩)<|ag [.a] rfl (by simp [Ap])<|Aj rfl (λ_=>E8 nm) (by simp [Ap])<|S9 rfl<|Aj rfl (λhg=>uS cs (by simp [Ap] at hg;omega)) (by simp [Ap])<|ag [] rfl (by simp [Ap] <;> grind)<|Ab rfl rfl (congrArg _ ?_);simp [H1] <;> grind
theorem eZ (f:Fd):Tq3 128 [JO f] (.bool (Kk f)):=by
 obtain ⟨nm,pm,⟨s1,n1,x1,p1⟩,⟨s2,n2,x2,p2⟩,⟨o3,n3,x3,k3,p3⟩⟩:=f;obtain ⟨z,hz,hzr⟩:=Uk;refine Bl λhv=>AQ C5 func128 rfl [1,2,3,4]<|S9 rfl<|Ds C5 rfl (.inr ⟨by decide,z,_,hz,hzr,rfl⟩)<|ag [.a] rfl (by simp [Ap])<|Ds C5 rfl (.inl ⟨rfl,rfl⟩)<|ag [.a] rfl (by simp [Ap])<|Aj rfl (λ_=>Gy nm) (by simp [Ap])<|S9 rfl<|Aj rfl (λ_=>Gy pm) (by simp [Ap])<|S9 rfl<|Aj rfl (λ_=>PZ (.mk s1 n1 x1 p1)) (by simp [Ap])<|S9 rfl<|Aj rfl (λ_=>PZ (.mk s2 n2 x2 p2)) (by simp [Ap])<|S9 rfl<|Aj rfl (λ_=>Yh (.mk o3 n3 x3 k3 p3)) (by simp [Ap])<|ag [] rfl (by simp [Ap] <;> grind)<|Ab rfl rfl (congrArg _ ?_);simp [Kk,Su] <;> grind
inductive Pt2 where
 | d (x:Dt)
 | f (x:Fd)
def pT:Pt2->V
 | .d x=>Mz x
 | .f x=>JO x
def Wu:Pt2->Bool
 | .d x=>H1 x
 | .f x=>Kk x
theorem lB (p:Pt2):Tq3 128 [pT p] (.bool (Wu p)):=by
 cases p with
 | d x=>exact Y7 x
 | f x=>exact eZ x
mutual
theorem pR:∀{a b:Tm},Al a=Al b->a=b
 | .mk s n x ks ps,.mk s' n' x' ks' ps',h=>by
  simp only [Al,E2,V.int.injEq,V.str.injEq,V.sl.injEq,and_true,true_and] at h;obtain ⟨h1,h2,h3,h4,h5⟩:=h;subst h1;subst h2;subst h3;rw [RB h4,H3 h5]
theorem RB:∀{a b:List Tm},Dq a=Dq b->a=b
 | [],[],_=>rfl
 | [],_::_,h=>by simp [Dq] at h
 | _::_,[],h=>by simp [Dq] at h
 | x::r,y::t,h=>by
  simp only [Dq,E2] at h;rw [pR h.1,RB h.2]
end
theorem M8:∀{a b:List Cd},a.map CK=b.map CK->a=b
 | [],[],_=>rfl
 | [],_::_,h=>by simp at h
 | _::_,[],h=>by simp at h
 | x::r,y::t,h=>by
  simp only [Cv,E2] at h;rw [RE h.1,M8 h.2]
theorem dM {a b:Pt2} (h:pT a=pT b):a=b:=by
 cases a with
 | d x=>cases b with
  | d y =>
   obtain ⟨x1,x2⟩:=x;obtain ⟨y1,y2⟩:=y;simp only [pT,Mz,BE,V.iface.injEq,V.agg.injEq,E2,V.str.injEq,V.sl.injEq,true_and,and_true] at h;rw [h.1,M8 h.2]
  | f y=>simp [pT,Mz,JO] at h
 | f x=>cases b with
  | d y=>simp [pT,Mz,JO] at h
  | f y =>
   obtain ⟨nm,pm,⟨s1,n1,x1,p1⟩,⟨s2,n2,x2,p2⟩,⟨o3,n3,x3,k3,p3⟩⟩:=x;obtain ⟨nm',pm',⟨s1',n1',x1',p1'⟩,⟨s2',n2',x2',p2'⟩,⟨o3',n3',x3',k3',p3'⟩⟩:=y;simp only [pT,JO,Cg,dTyc,Al,V.iface.injEq,V.agg.injEq,D0,G5,E2,V.str.injEq,V.int.injEq,V.sl.injEq,true_and,and_true] at h;obtain ⟨h1,h2,h3,h4,h5,h6,h7,h8,h9,h10,h11,h12,h13,h14,h15⟩:=h;rw [h1,h2,h3,h4,h5,H3 h6,h7,h8,h9,H3 h10,h11,h12,h13,RB h14,H3 h15]
theorem Yc (ps:List Pt2) (h:ps.length<=9223372036854775806):Tq3 127 [.sl (ps.map λp=>[pT p]),.fn (.func 128)] (.bool (ps.all Wu)):=by
 have:=allI 128 (qOf pT Wu) (ps.map pT) (by simpa using h) (λe he=>by
  obtain ⟨t,_,rfl⟩:=Cc.1 he;rw [UA dM];exact lB t)
 rw [UB dM,US] at this;exact this
def G3 (m:Md):Bool:=ER m.name&&decide ((m.datas.length:Int)<=4)&&decide ((1:Int)<=m.funs.length)&&decide ((m.funs.length:Int)<=5)&&m.datas.all H1&&m.funs.all Kk
def KX (l:List Pt2):List (List V):=l.map λp=>[pT p]
@[simp] theorem rowP_length (l:List Pt2):(KX l).length=l.length:=by simp [KX]
def uB (b:Bool) (k:Nat):D:=match b with
 | false=>.nils
 | true=>.own 2 k
def Vf (b:Bool) (m:Md) (es:List (List V)):St:=match b with
 | false=>[(1,some (.immb 43 3 (Du m)))]
 | true=>[(2,some (.row 190 1 es)),(1,some (.immb 43 3 (Du m)))]
theorem Qw (a b:List Pt2):KX (a++b)=KX a++KX b:=by simp [KX]
theorem dR (m:Md) (b:Bool) (es0:List (List V)) (hb:b=false->es0=[]) (he0:es0=KX (m.datas.map .d)) (hd:(m.datas.length:Int)<=4) (hf1:(1:Int)<=m.funs.length) (hf:(m.funs.length:Int)<=5) :
  Tq2 Tryz.f70.ntmps (DY []) (Lb qU Tryz.f70.results.toList (.ret (.imm (Su (m.datas.all H1&&m.funs.all Kk))) []))
   [.code (Gx Tryz.f70 4)] [(3,uB b es0.length),(1,.ref 1 0)] (Vf b m es0) [3,4]:=by
 cases b with
 | false =>
  have:=hb rfl;subst this;refine Es rfl<|Ak (λy:Nat×Bool×List (List V)=>[(47,.imm (.int .i64 y.1)),(46,.imm (.int .i64 m.funs.length)),(45,.imm (.sl (m.funs.map Cg))),(3,uB y.2.1 y.2.2.length),(1,.ref 1 0)])
   (λy=>Vf y.2.1 m y.2.2) [3,4] (λy=>m.funs.length-y.1)
   (λy=>y.1<=m.funs.length/\y.2.2=KX (m.datas.map .d++(m.funs.take y.1).map .f)/\(y.2.1=false->y.2.2=[])) (0,false,[]) ⟨AF _,by simpa using he0,λ_=>rfl⟩ ⟨rfl,A8 (by simp),AH⟩ AC rfl λy hi ih=>?_
  obtain ⟨i,b,es⟩:=y;obtain ⟨hi1,hi2,hi3⟩:=hi;simp only at hi1 hi2 hi3;have hlen:es.length<=9:=by
   have:=congrArg List.length hi2;simp at this;omega
  have hnext:∀f,m.funs[i]?=some f->es++[[JO f]]=KX (m.datas.map .d++(m.funs.take (i+1)).map .f):=λf hf=>by
   rw [Bk hf,CL,<- Cl,Qw,<- hi2];rfl
  have hend:¬i<m.funs.length->es=KX (m.datas.map .d++m.funs.map .f):=λh=>by
   rw [hi2,CQ (by omega)]
  cases b with
  | false =>
   have hi3:=hi3 rfl;subst hi3;refine Es rfl<|Aa rfl (λh=>?_) (λh=>?_)
   ·simp at h;obtain ⟨f,hf⟩:=Am h;exact Es rfl<|Uz rfl (Fm hf)<|Er rfl<|Bn C5 rfl ⟨by simp,by simp [maxLen],by simp,trivial⟩<|Er rfl<|Bo 2 4 rfl<|Ae (ih (i+1,true,[]++[[JO f]]) (by simp only;omega) ⟨by simp only;omega,hnext f hf,λh=>by cases h⟩) ⟨A8 (BW (by simp only;omega) (by simp only;omega)),BJ⟩ AD rfl
   ·simp at h;have:=congrArg List.length (hend (by omega));simp at this;omega
  | true =>
   refine Es rfl<|Aa rfl (λh=>?_) (λh=>?_)
   ·simp at h;obtain ⟨f,hf⟩:=Am h;exact Es rfl<|Uz rfl (Fm hf)<|Er rfl<|Bn C5 rfl ⟨by simp,by simp [maxLen];omega,by simp;omega,trivial⟩<|Er rfl<|Bo 2 4 rfl<|Ae (ih (i+1,true,es++[[JO f]]) (by simp only;omega) ⟨by simp only;omega,hnext f hf,λh=>by cases h⟩) ⟨A8 (BW (by simp only;omega) (by simp only;omega)),BJ⟩ AD rfl
   ·simp at h;refine At rfl<|Bv 2 rfl<|Es rfl<|Aj rfl (λ_=>by rw [hend (by omega)];exact Yc _ (by simp;omega)) (by simp)<|Er rfl ?_;have hall:(m.datas.map Pt2.d++m.funs.map Pt2.f).all Wu=(m.datas.all H1&&m.funs.all Kk):=by
     rw [Ii,NT,NT];rfl
    rw [hall];refine Aa rfl (λh=>?_) (λh=>?_)
    ·refine Es rfl<|Ab rfl rfl ?_;simp only [JX] at h;rw [h];rfl
    ·refine Es rfl<|Ab rfl rfl ?_;simp only [Bool.not_eq_false'] at h;rw [h];rfl
 | true =>
  refine Es rfl<|Ak (λy:Nat×Bool×List (List V)=>[(47,.imm (.int .i64 y.1)),(46,.imm (.int .i64 m.funs.length)),(45,.imm (.sl (m.funs.map Cg))),(3,uB y.2.1 y.2.2.length),(1,.ref 1 0)])
   (λy=>Vf y.2.1 m y.2.2) [3,4] (λy=>m.funs.length-y.1)
   (λy=>y.1<=m.funs.length/\y.2.2=KX (m.datas.map .d++(m.funs.take y.1).map .f)/\(y.2.1=false->y.2.2=[])) (0,true,es0) ⟨AF _,by simpa using he0,λh=>by cases h⟩ ⟨rfl,A8 (by simp),AH⟩ AD rfl λy hi ih=>?_
  obtain ⟨i,b,es⟩:=y;obtain ⟨hi1,hi2,hi3⟩:=hi;simp only at hi1 hi2 hi3;have hlen:es.length<=9:=by
   have:=congrArg List.length hi2;simp at this;omega
  have hnext:∀f,m.funs[i]?=some f->es++[[JO f]]=KX (m.datas.map .d++(m.funs.take (i+1)).map .f):=λf hf=>by
   rw [Bk hf,CL,<- Cl,Qw,<- hi2];rfl
  have hend:¬i<m.funs.length->es=KX (m.datas.map .d++m.funs.map .f):=λh=>by
   rw [hi2,CQ (by omega)]
  cases b with
  | false =>
   have hi3:=hi3 rfl;subst hi3;refine Es rfl<|Aa rfl (λh=>?_) (λh=>?_)
   ·simp at h;obtain ⟨f,hf⟩:=Am h;exact Es rfl<|Uz rfl (Fm hf)<|Er rfl<|Bn C5 rfl ⟨by simp,by simp [maxLen],by simp,trivial⟩<|Er rfl<|Bo 2 4 rfl<|Ae (ih (i+1,true,[]++[[JO f]]) (by simp only;omega) ⟨by simp only;omega,hnext f hf,λh=>by cases h⟩) ⟨A8 (BW (by simp only;omega) (by simp only;omega)),BJ⟩ AD rfl
   ·simp at h;have:=congrArg List.length (hend (by omega));simp at this;omega
  | true =>
   refine Es rfl<|Aa rfl (λh=>?_) (λh=>?_)
   ·simp at h;obtain ⟨f,hf⟩:=Am h;exact Es rfl<|Uz rfl (Fm hf)<|Er rfl<|Bn C5 rfl ⟨by simp,by simp [maxLen];omega,by simp;omega,trivial⟩<|Er rfl<|Bo 2 4 rfl<|Ae (ih (i+1,true,es++[[JO f]]) (by simp only;omega) ⟨by simp only;omega,hnext f hf,λh=>by cases h⟩) ⟨A8 (BW (by simp only;omega) (by simp only;omega)),BJ⟩ AD rfl
   ·simp at h;refine At rfl<|Bv 2 rfl<|Es rfl<|Aj rfl (λ_=>by rw [hend (by omega)];exact Yc _ (by simp;omega)) (by simp)<|Er rfl ?_;have hall:(m.datas.map Pt2.d++m.funs.map Pt2.f).all Wu=(m.datas.all H1&&m.funs.all Kk):=by
     rw [Ii,NT,NT];rfl
    rw [hall];refine Aa rfl (λh=>?_) (λh=>?_)
    ·refine Es rfl<|Ab rfl rfl ?_;simp only [JX] at h;rw [h];rfl
    ·refine Es rfl<|Ab rfl rfl ?_;simp only [Bool.not_eq_false'] at h;rw [h];rfl
theorem FR (m:Md):Tq3 70 [.agg (Du m)] (Su (G3 m)):=by
 refine Bl λhv=>?_;have hv1:m.datas.length<=9223372036854775807/\m.funs.length<=9223372036854775807:=by
  simp [Cx,Ez,Du,maxLen] at hv;omega
 refine AQ C5 func70 rfl [1,2,3,4]<|S9 rfl<|Aj rfl (λ_=>Gy m.name) (by simp [Ap])<|ag [] rfl (by simp [Ap] <;> grind)<|Aa rfl (λh=>?_) (λh=>?_)
 ·refine Es rfl<|Ab rfl rfl (congrArg _ ?_);have:G3 m=false:=by
   simp at h;simp [G3];grind
  rw [this];rfl
 have hx:ER m.name=true/\(m.datas.length:Int)<=4/\(1:Int)<=m.funs.length/\(m.funs.length:Int)<=5:=by
  simp at h;refine ⟨?_,?_,?_,?_⟩ <;> grind
 clear h;have hres:G3 m=(m.datas.all H1&&m.funs.all Kk):=by simp [G3,hx.1,hx.2.1,hx.2.2.1,hx.2.2.2]
 rw [hres];refine Es rfl<|Ak (λy:Nat×Bool×List (List V)=>[(33,.imm (.int .i64 y.1)),(32,.imm (.int .i64 m.datas.length)),(31,.imm (.sl (m.datas.map BE))),(3,uB y.2.1 y.2.2.length),(1,.ref 1 0)])
  (λy=>Vf y.2.1 m y.2.2) [3,4] (λy=>m.datas.length-y.1)
  (λy=>y.1<=m.datas.length/\y.2.2=KX ((m.datas.take y.1).map .d)/\(y.2.1=false->y.2.2=[])) (0,false,[]) ⟨AF _,rfl,λ_=>rfl⟩ ⟨rfl,A8 (by simp),AH⟩ AC rfl λy hi ih=>?_
 obtain ⟨i,b,es⟩:=y;obtain ⟨hi1,hi2,hi3⟩:=hi;simp only at hi1 hi2 hi3;have hlen:es.length<=4:=by
  have:=congrArg List.length hi2;simp at this;omega
 have hend:¬i<m.datas.length->es=KX (m.datas.map .d):=λh=>by
  rw [hi2,CQ (by omega)]
 have hnext:∀d,m.datas[i]?=some d->es++[[Mz d]]=KX ((m.datas.take (i+1)).map .d):=λd hd=>by
  rw [Bk hd,CL,Qw,<- hi2];rfl
 cases b with
 | false =>
  have hi3:=hi3 rfl;subst hi3;refine Es rfl<|Aa rfl (λh=>?_) (λh=>?_)
  ·simp at h;obtain ⟨d,hd⟩:=Am h;exact Es rfl<|Uz rfl (Fm hd)<|Er rfl<|Bn C5 rfl ⟨by simp,by simp [maxLen],by simp,trivial⟩<|Er rfl<|Bo 2 4 rfl<|Ae (ih (i+1,true,[]++[[Mz d]]) (by simp only;omega) ⟨by simp only;omega,hnext d hd,λh=>by cases h⟩) ⟨A8 (BW (by simp only;omega) (by simp only;omega)),BJ⟩ AD rfl
  ·simp at h;exact At rfl<|Ae (dR m false [] (λ_=>rfl) (hend (by omega)) hx.2.1 hx.2.2.1 hx.2.2.2) AD AC rfl
 | true =>
  refine Es rfl<|Aa rfl (λh=>?_) (λh=>?_)
  ·simp at h;obtain ⟨d,hd⟩:=Am h;exact Es rfl<|Uz rfl (Fm hd)<|Er rfl<|Bn C5 rfl ⟨by simp,by simp [maxLen];omega,by simp;omega,trivial⟩<|Er rfl<|Bo 2 4 rfl<|Ae (ih (i+1,true,es++[[Mz d]]) (by simp only;omega) ⟨by simp only;omega,hnext d hd,λh=>by cases h⟩) ⟨A8 (BW (by simp only;omega) (by simp only;omega)),BJ⟩ AD rfl
  ·simp at h;exact At rfl<|Ae (dR m true es (λh=>by cases h) (hend (by omega)) hx.2.1 hx.2.2.1 hx.2.2.2) AD AD rfl
def zaq (P:Program) (I:Imm) (μ:Mu) (st:St) (w:World) (d:D) (st':St) (r:Result Next):Prop :=
 valX P r (λu w'=>∃I' μ',RepD I' μ' u d/\StRep I' μ' st' [] w'/\Pin (DY st) μ μ'/\Ext I μ st w I' μ' st' w') (λ_ _=>False)
def V9 (j:Nat) (S:Bun):St:=[(0,some .pin),(j,some (.bun 0 S))]
def Oy (P:Program) (ds:List D) (S:Bun) (r:Bool) (S':Bun):Prop :=
 ∀I μ w b (xs:Array Value),μ 0=some (.func (.yield b) #[] #[])->StRep I μ (V9 1 S) [] w->RepL I μ xs.toList ds->zaq P I μ (V9 1 S) w (.imm (.bool r)) (V9 2 S') ((Instr.yield b xs).run P w)
theorem Eg:∀{st:St} {i:Nat} {b:Blk},Az st i b->i∈DY st
 | [],i,b,h=>by simp [Az,lk] at h
 | (s,x)::r,i,b,h=>by
  by_cases hs:s=i
  ·subst hs;simp [DY]
  ·have:Az r i b:=by unfold Az at h ⊢;rwa [A6 _ _ hs] at h
   simp only [DY,Cv,CA];exact .inr (Eg this)
theorem fV {s t:St} (h:Az s i b):Az (s++t) i b:=by
 have hm:i∈s.map (·.1):=Eg h;unfold Az at h ⊢;rwa [Gl hm]
theorem fU {s t:St} (hn:i∉DY s) (h:Az t i b):Az (s++t) i b:=by
 unfold Az at h ⊢;rwa [KA hn]
theorem xR {all:List Oper} (hg:Co all env o=some g) (hcx:¬Ap g):LD P Pn all o env st [] [] [] (gD g d):=by
 intro I μ st2 ids1 a w hag hst hon;have hwant:=FF hg hon;refine ⟨λhw=>absurd (hwant.1 hw) hcx,λ_=>⟨rfl,rfl,?_⟩⟩;cases g with
 | none=>exact absurd trivial hcx
 | some p=>exact .guard _ _ _ _ (λh=>absurd h hcx) (λ_=>rfl)
structure qG where
 id:Nat
 das:List D
 g:Option (Bool×Bool)
 ob:List Prop
 dst:Option Nat
 o:Oper
 all:List Oper
def jQ (n:Nat) (env:Env) (todo:List DI):Option qG :=
 match Bt todo ([],[]) with
 | some (all,o,_)=>match Co all env o,o.op with
  | some g,.call { callee:=.value (.tmp t),args:=⟨args⟩,.. }=>match lk env t,Ik (Ap g) env args,BK n o.dst with
   | some (.yld id),some (ds,ob),true=>some ⟨id,ds,g,ob,o.dst,o,all⟩
   | some (.guard c w (.yld id)),some (ds,ob),true=>some ⟨id,ds,g,(Ap g->c=w)::ob,o.dst,o,all⟩
   | _,_,_=>none
  | _,_=>none
 | none=>none
theorem RepD.yldInv {id:Nat} (h:RepD I μ v (.yld id)):∃b,μ id=some (.func (.yield b) #[] #[])/\v = .func (.yield b) #[] #[]:=by
 cases h with
 | yld b _ h=>exact ⟨b,h,rfl⟩
theorem zc3 {b:Nat} {args:List Operand} {ts:Array TypeId} (ho:o.op = .call { callee:=.value (.tmp t),args:=⟨args⟩,argTypes:=ts }) (hv:a.eval (.tmp t) = .func (.yield b) #[] #[]) :
  (execOp a.eval o).run P w=(Instr.yield b (args.map a.eval).toArray).run P w:=by
 simp only [execOp,ho,resolve,hv,Deferred.ofValue,Sem.run_bind,Sem.run_pure,Result.andThen_ok,invoke];congr 2;simp
theorem zc4 {c:qG} (h:jQ n env todo=some c) (hob:AG c.ob) (hcx:Ap c.g) :
  (∀f,∃todo',Bt todo f=some (c.all,c.o,todo'))/\Co c.all env c.o=some c.g/\BK n c.dst=true/\c.dst=c.o.dst/\(∀x,c.o.op ≠ .defer x) /\
  ∀I μ a,DG I μ env a c.o.op->∃b,∃xs:Array Value,μ c.id=some (.func (.yield b) #[] #[])/\RepL I μ xs.toList c.das/\∀w,(execOp a.eval c.o).run P w=(Instr.yield b xs).run P w:=by
 unfold jQ at h;have hnext:∀{all:List Oper} {o:Oper} {t:List DI},Bt todo ([],[])=some (all,o,t)->∀f,∃todo',Bt todo f=some (all,o,todo'):=by
  intro all o t h f;rcases I1 h with ⟨r,k,rfl,_⟩ | ⟨r,fs,k,rfl,_⟩
  ·exact ⟨_,rfl⟩
  ·exact ⟨_,rfl⟩
 split at h
 ·rename_i all o t h1
  split at h
  ·rename_i g t' args ts hg ho;have fin:∀{dv:D} {ds:List D} {ob:List Prop} {id:Nat},lk env t'=some dv->Ik (Ap g) env args=some (ds,ob)->AG ob->Ap g->(∀{I:Imm} {μ:Mu} {v:Value},RepD I μ v dv->∃b,μ id=some (.func (.yield b) #[] #[])/\v = .func (.yield b) #[] #[]) ->
     ∀I μ a,DG I μ env a o.op->∃b,∃xs:Array Value,μ id=some (.func (.yield b) #[] #[])/\RepL I μ xs.toList ds/\∀w,(execOp a.eval o).run P w=(Instr.yield b xs).run P w:=by
    intro dv ds ob id ht ha hob hcx hyl I μ a hop;rw [ho] at hop;have hargs:=G8 (I:=I) (μ:=μ) (a:=a) hcx ha hob λx hx=>hop x (by simp [Op.operands,Call.operands,hx]);obtain ⟨b,q1,q2⟩:=hyl (hop (.tmp t') (by simp [Op.operands,Call.operands]) _ ht);exact ⟨b,_,q1,by simpa using hargs,λw=>zc3 ho q2⟩
   split at h
   ·rename_i id ds ob ht ha hd;cases h;exact ⟨hnext h1,hg,hd,rfl,(λx hx=>by rw [ho] at hx;cases hx),fin ht ha hob hcx (λh=>h.yldInv)⟩
   ·rename_i cc ww id ds ob ht ha hd;cases h;exact ⟨hnext h1,hg,hd,rfl,(λx hx=>by rw [ho] at hx;cases hx),fin ht ha hob.2 hcx (λh=>(h.guardInv (hob.1 hcx)).yldInv)⟩
   ·cases h
  ·cases h
 ·cases h
theorem dB {c:qG} {r:Bool} (h:jQ n env todo=some c) (hob:AG c.ob) (hcx:Ap c.g) (hE:Oy P (F7 (Ep [(c.id,0),(j,1)]) c.das) S r S') (hy:lk st c.id=some (some .pin)) (hj:lk st j=some (some (.bun c.id S))) (hn:LH [(c.id,0),(j,1)] [(2,j2)] c.das (V9 1 S) (.imm (.bool r)) (V9 2 S') [j2]=true) (h1:Bt todo ([c.id,j],[c.id,j2,c.id,j])=some (c.all,c.o,todo')) (hids:ids=j2::ids') (hk:G P n F Q todo' (BN c.dst (gD c.g (.imm (.bool r))) env) ((c.id,some .pin)::(j2,some (.bun c.id S'))::(c.id,none)::(j,none)::st) ids'):G P n F Q todo env st ids:=by
 obtain ⟨_,q2,q3,q4,q5,q6⟩:=zc4 (P:=P) h hob hcx;rw [q4] at q3 hk;subst hids;have hN:=NQ hn;have hb:EZ [(c.id,0),(j,1)] st (V9 1 S):=by
  have hne:Nat.beq c.id j=false:=by
   have:=hN.inv;simp only [Cv,FB,Di,Br] at this;cases hb:Nat.beq c.id j with
   | false=>rfl
   | true =>
    have:=C7 hb;rw [<- this] at hj;rw [hy] at hj;cases hj
  have e0:lk (Br [(c.id,0),(j,1)]) 0=some c.id:=rfl;have e1:lk (Br [(c.id,0),(j,1)]) 1=some j:=rfl;have f0:lk [(c.id,0),(j,1)] c.id=some 0:=Ay _ _ _;have f1:lk [(c.id,0),(j,1)] j=some 1:=by
   have:c.id≠j:=λe=>by rw [e] at hne;simp at hne
   rw [A6 _ _ this];exact Ay _ _ _
  have g0:Ep [(c.id,0),(j,1)] c.id=0:=by simp [Ep,f0]
  refine ⟨?_,?_,trivial⟩
  ·simp only [e0,f0,hy];exact ⟨rfl,rfl,rfl⟩
  ·simp only [e1,f1,hj];refine ⟨rfl,?_,?_⟩
   ·simp only [U8,g0]
   ·simp only [UI,Di,f0,e0];simp
 have hl:LD P (KY Q) c.all c.o env st (FH [(c.id,0),(j,1)]) [j2] (EQ (Br [(c.id,0),(j,1)]++[(2,j2)]) (V9 2 S')++C2 (FH [(c.id,0),(j,1)])) (gD c.g (.imm (.bool r))):=by
  intro I μ st2 ids1 a w hag hst hon;have hwant:=FF q2 hon;refine ⟨λ_=>?_,λhw=>by rw [hwant.2 hcx] at hw;cases hw⟩;obtain ⟨b,xs,m1,m2,m3⟩:=q6 I μ a (Bm hon);have hb':=FP hag hb;obtain ⟨g1,g2,g3⟩:=Gp hst hb' hN.args m2;rw [m3];refine (hE I _ w b xs (by simpa [Ho,Br,lk] using m1) g1 g2).mono (λu w' hu=>?_) (λ_ _ h=>h.elim);obtain ⟨I',μ',r1,r2,r3,r4⟩:=hu;obtain ⟨ν,s1,s2,s3,s4⟩:=KT hst hb' hN r1 r2 r3 r4 g3;rw [<- KG] at s1 s4;refine ⟨I',ν,s1,?_,s3,s4⟩;cases hg:c.g with
  | none=>exact s2
  | some p=>rw [hg] at hcx;exact .guard _ _ _ _ (λ_=>s2) (λhn=>absurd hcx hn)
 have ew:EQ (Br [(c.id,0),(j,1)]++[(2,j2)]) (V9 2 S')++C2 (FH [(c.id,0),(j,1)])=[(c.id,some .pin),(j2,some (.bun c.id S')),(c.id,none),(j,none)]:=rfl;rw [ew] at hl;exact BG (fr:=[j2]) (wr:=[(c.id,some .pin),(j2,some (.bun c.id S')),(c.id,none),(j,none)]) h1 hl q3 q5 hk
structure wM where
 g:Option (Bool×Bool)
 dst:Option Nat
 todo:List DI
def vX (n:Nat) (env:Env) (todo:List DI):Option wM :=
 match Bt todo ([],[]) with
 | some (all,o,todo')=>match Co all env o,o.op,BK n o.dst with
  | some g,.call _,true=>some ⟨g,o.dst,todo'⟩
  | _,_,_=>none
 | none=>none
theorem PO {c:wM} (d:D) (h:vX n env todo=some c) (hcx:¬Ap c.g) (hk:G P n F Q c.todo (BN c.dst (gD c.g d) env) st ids):G P n F Q todo env st ids:=by
 unfold vX at h
 split at h
 ·rename_i all o todo' h1
  split at h
  ·rename_i g cc hg ho hd;cases h;exact BG (fr:=[]) (wr:=[]) h1 (xR hg hcx) hd (λx hx=>by rw [ho] at hx;cases hx) hk
  ·cases h
 ·cases h
def zar (pend:Option Code) (stB:St):DQ:=λx _ st _=>match x,pend with
 | .norm,none=>Iw st stB
 | .ret,some .ret=>Iw st stB
 | .exit j,some (.exit j')=>j=j'/\Iw st stB
 | _,_=>False
structure Nx where
 fn:FuncId
 ps:Array Tmp
 asg:Code
 body:Code
 tmps:Array Value
 E:Env
 F:List Nat
 μ0:Mu
def qJ (pend:Option Code) (r:Go.Loop):Prop:=r.state=(match pend with | none=>.ready | some _=>.done)/\r.pending=pend
def zad (L:Nx) (st:St) (pend:Option Code) (I:Imm) (w:World) (b:Nat) (bs:List Nat):Prop :=
 ∃(r:Go.Loop) (μ:Mu) (bs0:List Nat),bs=b::bs0/\w.heap[b]?=some (.loop r)/\qJ pend r/\(r.fn=L.fn/\r.params=L.ps/\r.assign=L.asg/\r.body=L.body/\r.tmps=L.tmps) /\
  (∀t d,lk L.E t=some d->RepD I μ (L.tmps.getD t undef) d)/\(∀i blk,Az st i blk->∃g,μ i=some g/\BlkRep I μ w g blk) /\
  (∀i j bi bj gi gj k,Az st i bi->Az st j bj->μ i=some gi->μ j=some gj->En gi k->En gj k->i=j)/\(∀k,k∈bs0↔Bu μ st k)/\b∉bs0/\Pin L.F L.μ0 μ
def Do (L:Nx) (st:St) (pend:Option Code):Bun where
 P:=zad L st pend
 mono:=λ{I J w b bs} h hp=>by
  obtain ⟨r,μ,bs0,h1,h2,h3,h4,h5,h6,h7,h8,h9,h10⟩:=hp;exact ⟨r,μ,bs0,h1,h2,h3,h4,λt d hl=>(h5 t d hl).mono h (Mu.le_refl μ),λi blk hl=>let ⟨g,q1,q2⟩:=h6 i blk hl;⟨g,q1,q2.mono h (Mu.le_refl μ)⟩,h7,h8,h9,h10⟩
 loc:=λ{I w w' b bs} h hp=>by
  obtain ⟨r,μ,bs0,h1,h2,h3,h4,h5,h6,h7,h8,h9,h10⟩:=hp;subst h1;exact ⟨r,μ,bs0,rfl,(h b (by simp)).trans h2,h3,h4,h5,λi blk hl=>let ⟨g,q1,q2⟩:=h6 i blk hl;⟨g,q1,q2.world λk hk=>h k (by simp [(h8 k).2 ⟨i,blk,g,hl,q1,hk⟩])⟩,h7,h8,h9,h10⟩
def Vz:Value->List Nat
 | .pointer (some a)=>[a.block]
 | .slice (some a) _ _=>[a.block]
 | .map (some c)=>[c]
 | .agg cs=>cs.toList.filterMap fun | .pointer (some a)=>some a.block | _=>none
 | .tuple ⟨[_,.agg cs]⟩=>cs.toList.filterMap fun | .pointer (some a)=>some a.block | _=>none
 | _=>[]
theorem Pj {g:Value} {k:Nat}:k∈Vz g↔En g k:=by
 unfold Vz En
 split <;> simp [eq_comm]
 all_goals
  constructor
  ·rintro ⟨a,h1,h2⟩
   split at h2
   ·cases h2;exact ⟨_,h1,rfl⟩
   ·cases h2
  ·rintro ⟨a,h1,h2⟩;exact ⟨_,h1,by rw [h2]⟩
open Classical in
theorem Q5 (μ:Mu) (st:St):∃l:List Nat,∀k,k∈l↔Bu μ st k:=by
 refine ⟨(DY st).flatMap λi=>if (∃b,Az st i b) then (match μ i with | some g=>Vz g | none=>[]) else [],λk=>?_⟩;rw [List.mem_flatMap];constructor
 ·rintro ⟨i,_,h⟩
  split at h
  ·rename_i hb;obtain ⟨b,hb⟩:=hb;cases hg:μ i with
   | none=>rw [hg] at h;cases h
   | some g=>rw [hg] at h;exact ⟨i,b,g,hb,hg,Pj.1 h⟩
  ·cases h
 ·rintro ⟨i,b,g,h1,h2,h3⟩;refine ⟨i,Eg h1,?_⟩;rw [if_pos ⟨b,h1⟩,h2];exact Pj.2 h3
def Rs (ids:List Nat) (E:Env) (st:St) (F:List Nat):Prop:=ids.Nodup/\∀i∈ids,i∉W1 E/\i∉F3 st/\i∉F
theorem sR:∀{st:St} {i:Nat} {b:Blk},Az st i b->i∈F3 st:=λh=>(EG h).1
theorem XW {L:Nx} {pend:Option Code} {b:Nat} {bs:List Nat} (h:zad L st pend I w b bs) (hf:Rs ids L.E st L.F) (hI:I.ok w) (hbs:∀k∈bs,I k=none/\k<w.heap.size) :
  ∃(r:Go.Loop) (ν:Mu) (bs0:List Nat),bs=b::bs0/\w.heap[b]?=some (.loop r)/\qJ pend r/\(r.fn=L.fn/\r.params=L.ps/\r.assign=L.asg/\r.body=L.body/\r.tmps=L.tmps) /\
   (∀t d,lk L.E t=some d->RepD I ν (L.tmps.getD t undef) d)/\StRep I ν st ids w/\(∀k,k∈bs0↔Bu ν st k)/\b∉bs0/\Pin L.F L.μ0 ν:=by
 obtain ⟨r,μ,bs0,h1,h2,h3,h4,h5,h6,h7,h8,h9,h10⟩:=h;obtain ⟨hf1,hf2⟩:=hf;obtain ⟨ν,hν⟩:∃ν:Mu,ν=λi=>if i∈ids then none else μ i:=⟨_,rfl⟩
 have hν1:∀i,i∉ids->ν i=μ i:=λi hi=>by rw [hν];exact if_neg hi
 have hv1:∀i,i∈W1 L.E\/i∈F3 st\/i∈L.F->ν i=μ i:=λi hi=>hν1 i λhm=>by
  obtain ⟨q1,q2,q3⟩:=hf2 i hm;rcases hi with h | h | h
  ·exact q1 h
  ·exact q2 h
  ·exact q3 h
 have hv2:∀{i bi},Az st i bi->ν i=μ i:=λhl=>hv1 _ (.inr (.inl (sR hl)));have hown:∀k,Bu ν st k↔Bu μ st k:=λk=>by
  constructor <;> rintro ⟨i,bi,g,q1,q2,q3⟩
  ·exact ⟨i,bi,g,q1,by rw [<- hv2 q1];exact q2,q3⟩
  ·exact ⟨i,bi,g,q1,by rw [hv2 q1];exact q2,q3⟩
 refine ⟨r,ν,bs0,h1,h2,h3,h4,λt d hl=>(h5 t d hl).sub λj hj g hg=>by rw [hv1 j (.inl (YT hl j hj))];exact hg,?_,λk=>by rw [hown k];exact h8 k,h9,λi hi g hg=>by rw [hv1 i (.inr (.inr hi))];exact h10 i hi g hg⟩;exact
  {imm:=hI
   blk:=λi bi hl=>by
    obtain ⟨g,q1,q2⟩:=h6 i bi hl;exact ⟨g,by rw [hv2 hl];exact q1,q2.sub λj hj g hg=>by rw [hv1 j (.inr (.inl ((EG hl).2 j hj)))];exact hg⟩
   apart:=λi bi g k hl hgi hk=>hbs k (by rw [h1];exact HR _ ((h8 k).2 ⟨i,bi,g,hl,by rw [<- hv2 hl];exact hgi,hk⟩))
   inj:=λi j bi bj gi gj k hi hj hgi hgj=>h7 i j bi bj gi gj k hi hj (by rw [<- hv2 hi];exact hgi) (by rw [<- hv2 hj];exact hgj)
   nodup:=hf1
   idsFree:=λi hi=>by rw [hν];exact if_pos hi }
theorem JA (hj:j≠0) {bi:Blk} (h:Az (V9 j S) i bi):(i=0/\bi = .pin)\/(i=j/\bi = .bun 0 S):=by
 rcases AB.1 h with h | ⟨_,h⟩
 ·exact .inl h
 ·rcases AB.1 h with h | ⟨_,h⟩
  ·exact .inr h
  ·simp [Az,lk] at h
def wF:Option Code->List DI
 | none=>[]
 | some c=>[.code c]
theorem Ol {g:Operand} {ps:Array Tmp} {asg body c:Code} {f y:Nat} {fc:Func} {df dc:List D} {stc stc' stx stB:St} {pend:Option Code} (hg:DN env g=some (.fn (.func f) df dc)) (hf:P.funcs[f]?=some fc) (hname : (fc.name == "runtime.NumGoroutine") = false) (hb : fc.body = some c) (hF : lA ∉ F) (hEE : eN env E) (hl : ∀ i b, Az (stc ++ stx) i b → Az st i b) (hE:∀L:Nx,P.funcs[L.fn]?.isSome->L.tmps.size=n->L.ps=ps->L.asg=asg->L.body=body->L.E=E->L.F=F ->
   IR P f (df ++ .yld y::dc) ((y,some .pin)::(j,some (.bun y (Do L stx none)))::stc) (.ret d ((y,some .pin)::(j2,some (.bun y (Do L stB pend)))::stc'))) (hdis:∀i∈DY stc,i∉DY stx) (hyj:y≠j/\y≠j2/\y∉DY stc/\j∉DY stc) (hcl:∀i,i∈I0 (df++dc)\/i∈F3 stc->i∈DY stc) (hfree:Rs ids' E stB F) (hk:DGo P n F Q (wF pend++k) E stB ids'):DGo P n F Q (.code (.rangeFunc g ps asg body)::k) env st ids:=by
 intro b cs I μ a w items hd hc;obtain ⟨is,rfl,hki⟩:=IM hd;rcases b.2 with hb0 | ⟨hb0,fcb,hfb⟩
 ·exact absurd hb0 hF
 have he:=run_enterLoop_outer (P:=P) (w:=w) b.1.fn a.tmps ps asg body;obtain ⟨ro,hro⟩:∃ro,ro=b.1.roundOf:=⟨_,rfl⟩
 have he':(Instr.enterLoop b.1.fn a.tmps ps asg body ro).run P w=(Instr.enterLoop b.1.fn a.tmps ps asg body none).run P w:=by rw [hro,hb0]
 rw [<- he',hro] at he;clear he';obtain ⟨L,hL⟩:∃L:Nx,L=⟨b.1.fn,ps,asg,body,a.tmps,E,F,μ⟩:=⟨_,rfl⟩
 obtain ⟨wa,hwa⟩:∃wa:World,wa=w.alloc (.deferred (some [])):=⟨_,rfl⟩
 rw [<- hwa] at he;have hwas:wa.heap.size=w.heap.size+1:=by rw [hwa];simp
 obtain ⟨R,hR⟩:∃R:Go.Loop,R={ state:=.ready,pending:=none,fn:=b.1.fn,tmps:=a.tmps,params:=ps,assign:=asg,body,defers:=w.heap.size }:=⟨_,rfl⟩
 rw [<- hR,<- hwas] at he;obtain ⟨w1,hw1⟩:∃w1:World,w1=wa.alloc (.loop R):=⟨_,rfl⟩
 rw [<- hw1] at he;have hw1s:w1.heap.size=w.heap.size+2:=by rw [hw1];simp;omega
 have hw1o:∀i,i<w.heap.size->w1.heap[i]?=w.heap[i]?:=λi hi=>by rw [hw1,CR wa _ (by omega),hwa];exact CR w _ hi
 have hw1m:w1.heap[w.heap.size]?=some (.deferred (some [])):=by rw [hw1,CR wa _ (by omega),hwa];exact Eu w _
 have hw1r:w1.heap[wa.heap.size]?=some (.loop R):=by rw [hw1];exact Eu wa _
 have hInew:∀k,w.heap.size<=k->I k=none:=λk hk=>by
  cases hI:I k with
  | none=>rfl
  | some o=>have:=BZ (hc.imm k o hI);omega
 have hS1:StRep I μ st ids w1:=hc.toStRep.other (by omega) (λi o hi=>hw1o i (BZ (hc.imm i o hi))) (λi hi=>hw1o i (Ed hc.toStRep hi));have hlx:∀i bi,Az stx i bi->Az st i bi:=λi bi h=>hl i bi (fU (λhm=>hdis i hm (Eg h)) h);have hlc:∀i bi,Az stc i bi->Az st i bi:=λi bi h=>hl i bi (fV h);obtain ⟨bs0,hbs0⟩:=Q5 μ stx;have hownx:∀k,k∈bs0->Bu μ st k:=λk hk=>let ⟨i,bi,g,h1,h2⟩:=(hbs0 k).1 hk;⟨i,bi,g,hlx i bi h1,h2⟩
 have hltx:∀k,k∈bs0->k<w.heap.size:=λk hk=>Ed hc.toStRep (hownx k hk);have hEnv:∀t d',lk E t=some d'->RepD I μ (a.tmps.getD t undef) d':=λt d' hl=>by
  obtain ⟨d,h1,h2⟩:=zau hEE t d' hl;exact Qh h2 (hc.env t d h1)
 have hB1:(Do L stx none).P I w1 wa.heap.size (wa.heap.size::bs0):=by
  refine ⟨R,μ,bs0,rfl,hw1r,⟨by rw [hR],by rw [hR]⟩,?_,?_,λi bi h=>hS1.blk i bi (hlx i bi h),λi j bi bj gi gj k hi hj=>hS1.inj i j bi bj gi gj k (hlx i bi hi) (hlx j bj hj),hbs0,λhm=>by have:=hltx _ hm;omega,?_⟩
  ·rw [hR,hL];exact ⟨rfl,rfl,rfl,rfl,rfl⟩
  ·rw [hL];exact hEnv
  ·rw [hL];exact .refl _ _
 obtain ⟨μc,hμc⟩:∃μc:Mu,μc=λi=>if i=y then some (.func (.yield wa.heap.size) #[] #[]) else if i=j then some (.agg (UD (wa.heap.size::bs0))) else μ i:=⟨_,rfl⟩
 have hmy:μc y=some (.func (.yield wa.heap.size) #[] #[]):=by rw [hμc];simp
 have hmj:μc j=some (.agg (UD (wa.heap.size::bs0))):=by rw [hμc];simp [Ne.symm hyj.1]
 have hmo:∀i∈DY stc,μc i=μ i:=λi hi=>by
  have h1:i≠y:=λe=>hyj.2.2.1 (e ▸ hi);have h2:i≠j:=λe=>hyj.2.2.2 (e ▸ hi);rw [hμc];simp [h1,h2]
 obtain ⟨st0,hst0⟩:∃st0:St,st0=(y,some .pin)::(j,some (.bun y (Do L stx none)))::stc:=⟨_,rfl⟩
 have hl0:∀{i bi},Az st0 i bi->(i=y/\bi = .pin)\/(i=j/\bi = .bun y (Do L stx none))\/(i≠y/\i≠j/\Az stc i bi):=λ{i bi} h=>by
  rw [hst0] at h;rcases AB.1 h with h | ⟨h1,h⟩
  ·exact .inl h
  ·rcases AB.1 h with h | ⟨h2,h⟩
   ·exact .inr (.inl h)
   ·exact .inr (.inr ⟨h1,h2,h⟩)
 have hown0:∀k,Bu μc st0 k->k=wa.heap.size\/k∈bs0\/Bu μ stc k:=λk ⟨i,bi,g,h1,h2,h3⟩=>by
  rcases hl0 h1 with ⟨rfl,rfl⟩ | ⟨rfl,rfl⟩ | ⟨_,_,h⟩
  ·rw [hmy] at h2;cases h2;exact h3.elim
  ·rw [hmj] at h2;cases h2;rcases CA.1 (DB.1 h3) with h | h
   ·exact .inl h
   ·exact .inr (.inl h)
  ·exact .inr (.inr ⟨i,bi,g,h,by rw [<- hmo i (Eg h)];exact h2,h3⟩)
 have hcx:∀{i bi g k},Az stc i bi->μ i=some g->En g k->k∉bs0:=λ{i bi g k} h1 h2 h3 hm=>by
  obtain ⟨i',bi',g',q1,q2,q3⟩:=(hbs0 k).1 hm;have:=hS1.inj i i' bi bi' g g' k (hlc i bi h1) (hlx i' bi' q1) h2 q2 h3 q3;subst this;exact hdis i (Eg h1) (Eg q1)
 have hS0:StRep I μc st0 [] w1:=by
  refine { imm:=hS1.imm,blk:=λi bi h=>?_,apart:=λi bi g k h hgi hk=>?_,inj:=λi i' bi bj gi gj k hi hj hgi hgj hki hkj=>?_,nodup:=.nil,idsFree:=λ_ h=>by simp at h }
  ·rcases hl0 h with ⟨rfl,rfl⟩ | ⟨rfl,rfl⟩ | ⟨_,_,h⟩
   ·exact ⟨_,hmy,_,rfl⟩
   ·exact ⟨_,hmj,_,_,hmy,rfl,hB1⟩
   ·obtain ⟨g,q1,q2⟩:=hS1.blk i bi (hlc i bi h);exact ⟨g,by rw [hmo i (Eg h)];exact q1,q2.sub λx hx g hg=>by rw [hmo x (hcl x (.inr ((EG h).2 x hx)))];exact hg⟩
  ·rcases hown0 k ⟨i,bi,g,h,hgi,hk⟩ with h | h | ⟨i',bi',g',q1,q2,q3⟩
   ·rw [h];exact ⟨hInew _ (by omega),by omega⟩
   ·obtain ⟨i',bi',g',q1,q2,q3⟩:=hownx k h;exact hS1.apart i' bi' g' k q1 q2 q3
   ·exact hS1.apart i' bi' g' k (hlc i' bi' q1) q2 q3
  ·rcases hl0 hi with ⟨rfl,rfl⟩ | ⟨rfl,rfl⟩ | ⟨_,_,hi⟩ <;> rcases hl0 hj with ⟨rfl,rfl⟩ | ⟨rfl,rfl⟩ | ⟨_,_,hj⟩
   ·rfl
   ·rw [hmy] at hgi;cases hgi;exact hki.elim
   ·rw [hmy] at hgi;cases hgi;exact hki.elim
   ·rw [hmy] at hgj;cases hgj;exact hkj.elim
   ·rfl
   ·rw [hmj] at hgi;cases hgi;have q:=hmo i' (Eg hj);rw [hgj] at q;rcases CA.1 (DB.1 hki) with h | h
    ·have:=(hS1.apart i' bj gj k (hlc _ _ hj) q.symm hkj)
     have hlt:=Ed hc.toStRep ⟨i',bj,gj,hlc _ _ hj,q.symm,hkj⟩;omega
    ·exact absurd h (hcx hj q.symm hkj)
   ·rw [hmy] at hgj;cases hgj;exact hkj.elim
   ·rw [hmj] at hgj;cases hgj;have q:=hmo i (Eg hi);rw [hgi] at q;rcases CA.1 (DB.1 hkj) with h | h
    ·have hlt:=Ed hc.toStRep ⟨i,bi,gi,hlc _ _ hi,q.symm,hki⟩;omega
    ·exact absurd h (hcx hi q.symm hki)
   ·have q1:=hmo i (Eg hi);have q2:=hmo i' (Eg hj);rw [hgi] at q1;rw [hgj] at q2;exact hS1.inj i i' bi bj gi gj k (hlc _ _ hi) (hlc _ _ hj) q1.symm q2.symm hki hkj
 have hvg:=Vq (I:=I) (μ:=μ) (a:=a) hg λt _ d hl=>hc.env t d hl;generalize hve:a.eval g=vg at hvg;cases hvg with
 | fn _ first cap _ _ hl1 hl2 q1 q2 =>
 have hnL:∀{l m:List D} {i},i∈I0 l\/i∈I0 m->i∈I0 (l++m):=λ{l m i} h=>by
  have:∀(l m:List D),I0 (l++m)=I0 l++I0 m:=λl m=>by
   induction l with
   | nil=>rfl
   | cons x r ih=>simp [I0,ih]
  rw [this];simpa using h
 have hargs:RepL I μc (first ++ #[Value.func (.yield wa.heap.size) #[] #[]]++cap).toList (df ++ .yld y::dc):=by
  have e:df ++ .yld y::dc=df++[.yld y]++dc:=by simp
  rw [e,JW,JW];have h1:RepL I μ first.toList df:=⟨by simpa using hl1,λi v d p q=>q1 i v d (by simpa using p) q⟩
  have h2:RepL I μ cap.toList dc:=⟨by simpa using hl2,λi v d p q=>q2 i v d (by simpa using p) q⟩
  refine RepL.append (RepL.append (h1.sub λx hx g hg=>?_) (.mk (.yld _ _ hmy) .nil)) (h2.sub λx hx g hg=>?_)
  ·rw [hmo x (hcl x (.inl (hnL (.inl hx))))];exact hg
  ·rw [hmo x (hcl x (.inl (hnL (.inr hx))))];exact hg
 have hEL:=hE L (by rw [hL];simp [hfb]) (by rw [hL];exact hc.size) (by rw [hL]) (by rw [hL]) (by rw [hL]) (by rw [hL]) (by rw [hL]);rw [<- hst0] at hEL;have hcall:=hEL I μc w1 _ hS0 hargs;rw [B6 hf hname hb] at hcall;have hres:∃dd,(resolve a.eval (rangeCall g wa.heap.size) 0).run P w1 = .ok dd w1/\(invoke dd.target dd.args).run P w1 = .ok (.enter f (first ++ #[Value.func (.yield wa.heap.size) #[] #[]]++cap)) w1:=by
  refine ⟨⟨.fn (.func f) cap,first ++ #[Value.func (.yield wa.heap.size) #[] #[]]⟩,?_,?_⟩
  ·have hcv:a.eval (.const (.func (.yield wa.heap.size) #[] #[])) = .func (.yield wa.heap.size) #[] #[]:=rfl;simp [rangeCall,resolve,Deferred.ofValue,hve,hcv]
  ·simpa [invoke] using B6 (w:=w1) hf hname hb (first ++ #[Value.func (.yield wa.heap.size) #[] #[]]++cap)
 obtain ⟨dd,hr1,hr2⟩:=hres;refine Pz he hr1 hr2 (Calls.mono hcall λen w3 hen=>?_);cases en with
 | panicked chain=>exact hen.elim
 | outgrown=>exact hen.elim
 | returned v =>
  obtain ⟨I',μ',p1,p2,p3,p4⟩:=hen;have hly:Az ((y,some .pin)::(j2,some (.bun y (Do L stB pend)))::stc') j2 (.bun y (Do L stB pend)):=AB.2 (.inr ⟨Ne.symm hyj.2.1,AB.2 (.inl ⟨rfl,rfl⟩)⟩);obtain ⟨g2,hg2,b2,bs2,hb2,rfl,hP2⟩:=p2.blk j2 _ hly;have hyy:μ' y=some (.func (.yield wa.heap.size) #[] #[]):=p3 y (by rw [hst0];simp [DY]) _ hmy;rw [hyy] at hb2;cases hb2;have hbs2:∀k∈bs2,I' k=none/\k<w3.heap.size:=λk hk=>p2.apart j2 _ _ k hly hg2 (DB.2 hk);obtain ⟨r,ν,bsN,e1,hrr,⟨hr2',hr3⟩,⟨hr4,hr5,hr6,hr7,hr8⟩,hE3,hS3,hownN,hnbN,hFN⟩:=XW hP2 (ids:=ids') (by rw [hL];exact hfree) p2.imm hbs2;subst e1;have hend:=run_endLoop (P:=P) hrr (by rw [hr2'];cases pend <;> simp)
  obtain ⟨w4,hw4⟩:∃w4:World,w4=w3.putObj wa.heap.size (.loop { r with state:=.exhausted }):=⟨_,rfl⟩
  have hend':(Instr.endLoop wa.heap.size).run P w3 = .ok pend w4:=by rw [hw4,hend,hr3]
  refine ⟨pend,w4,hend',?_⟩;have hlb:wa.heap.size<w3.heap.size:=BZ hrr;have hoth:∀i,i≠wa.heap.size->w4.heap[i]?=w3.heap[i]?:=λi hi=>by
   rw [hw4];unfold World.putObj;simp [FV (Ne.symm hi)]
  have hw4s:w4.heap.size=w3.heap.size:=by rw [hw4];unfold World.putObj;simp
  obtain ⟨hIb,_⟩:=hbs2 _ (QM ..);have hS4:StRep I' ν stB ids' w4:=hS3.other (by omega) (λi o hi=>hoth i (λe=>by rw [e,hIb] at hi;cases hi)) (λi hi=>hoth i (λe=>hnbN ((hownN _).2 (e ▸ hi))));have hsz3:=p4.size;have hno0:∀k,k<w.heap.size->¬Bu μ st k->¬Bu μc st0 k:=λk hk hno h=>by
   rcases hown0 k h with h | h | ⟨i,bi,g,q1,q2⟩
   ·omega
   ·exact hno (hownx k h)
   ·exact hno ⟨i,bi,g,hlc i bi q1,q2⟩
  have hblk:∀k,k<w1.heap.size->k≠wa.heap.size->¬Bu μc st0 k->w4.heap[k]?=w1.heap[k]?:=λk hk hne hno=>(hoth k hne).trans (p4.block k hk hno);have hfr:∀k,k<w1.heap.size->Bu ν stB k->Bu μc st0 k:=λk hk ho=>p4.fresh k hk ⟨j2,_,_,hly,hg2,DB.2 (HR _ ((hownN k).2 ho))⟩;have hExt:Ext I μ st w I' ν stB w4 :=
   {imm:=p4.imm
    os:=by rw [hw4];unfold World.putObj;exact p4.os.trans (by rw [hw1,hwa];rfl)
    tape:=by rw [hw4];unfold World.putObj;exact p4.tape.trans (by rw [hw1,hwa];rfl)
    output:=by rw [hw4];unfold World.putObj;exact p4.output.trans (by rw [hw1,hwa];rfl)
    size:=by omega
    block:=λk hk hno=>(hblk k (by omega) (by omega) (hno0 k hk hno)).trans (hw1o k hk)
    fresh:=λk hk ho=>by
     rcases hown0 k (hfr k (by omega) ho) with h | h | ⟨i,bi,g,q1,q2⟩
     ·omega
     ·exact hownx k h
     ·exact ⟨i,bi,g,hlc i bi q1,q2⟩
    old:=λk hk hno=>p4.old k (by omega) (hno0 k hk hno) }
  have hMk:MarksOk I' ν stB w4 ([{ target:=.collected w.heap.size,args:=#[] }]++a.defers):=by
   obtain ⟨rs,r1,r2,r3⟩:=hc.defers;refine ⟨w.heap.size::rs,by rw [r1];rfl,Lj.2 ⟨λhm=>?_,r2⟩,λr hr=>?_⟩
   ·have:=BZ (r3 _ hm).1;omega
   have hno:¬Bu μc st0 r/\r<w1.heap.size/\r≠wa.heap.size/\w1.heap[r]?=some (.deferred (some []))/\I r=none:=by
    rcases CA.1 hr with rfl | hr
    ·refine ⟨λh=>?_,by omega,by omega,hw1m,hInew _ (BL _)⟩;rcases hown0 _ h with h | h | ⟨i,bi,g,q1,q2,q3⟩
     ·omega
     ·have:=hltx _ h;omega
     ·have:=Ed hc.toStRep ⟨i,bi,g,hlc i bi q1,q2,q3⟩;omega
    ·obtain ⟨h1,h2,h3⟩:=r3 r hr;have hlt:=BZ h1;exact ⟨hno0 r hlt h3,by omega,by omega,(hw1o r hlt).trans h1,h2⟩
   obtain ⟨h1,h2,h3,h4,h5⟩:=hno;exact ⟨(hblk r h2 h3 h1).trans h4,(p4.old r h2 h1).trans h5,λho=>h1 (hfr r h2 ho)⟩
  have hC:Conc n I' ν E stB ids' { a with defers:=[{ target:=.collected w.heap.size,args:=#[] }]++a.defers } w4 :=
   {hS4 with size:=hc.size,env:=λt d hl=>by have:=hE3 t d (by rw [hL];exact hl);rw [hL] at this;exact this,defers:=hMk }
  have hden:V7 (wF pend++k) ((pend.map Item.code).toList++is):=by
   cases pend with
   | none=>exact hki
   | some c=>exact ⟨rfl,hki⟩
  refine Reach.mono (λe a' w' hp=>?_) (hk b cs I' ν _ w4 _ hden hC);obtain ⟨x',env',st',ids2,I2,μ2,t1,t2,t3,t4,t5,t6⟩:=hp;have hpin:Pin F μ ν:=by rw [hL] at hFN;exact hFN
  refine ⟨x',env',st',ids2,I2,μ2,t1,t2,t3,hpin.trans t4,hExt.trans t5,λr hr=>?_⟩;rcases t6 r hr with h | h
  ·simp only [nF,CA] at h;rcases h with h | h
   ·simp only [zO,Deferred.mk.injEq,Target.collected.injEq,and_true] at h;exact .inr (by omega)
   ·exact .inl h
  ·exact .inr (by omega)
theorem XG (t:Nat) {id:Nat} {ty:TypeId} (he:lk env t=some (.ref id off)) (hl:lk st id=some (some (.immb ty sz xs))) (h:DGo P n F Q todo ((t,.ip ty xs off)::env) ((id,none)::st) ids) :
  DGo P n F Q todo env st ids:=by
 intro b cs I μ a w items hd hc;have hlive:Az st id (.immb ty sz xs):=hl;obtain ⟨g,hg,hlen,gb,vs,rfl,hheap,hrep,hone⟩:=hc.blk id _ hlive;obtain ⟨hno,hlt⟩:=hc.apart id _ _ gb hlive hg rfl;obtain ⟨J,hJ⟩:∃J:Imm,J=λk=>if k=gb then some (.cells vs ty (0,0)) else I k:=⟨_,rfl⟩
 have hle:I.le J:=λk o h=>by
  have:k≠gb:=λe=>by rw [e,hno] at h;cases h
  rw [hJ];simp [this,h]
 have hJo:∀k o,J k=some o->I k=some o\/(k=gb/\w.heap[k]?=some o):=λk o h=>by
  rw [hJ] at h;by_cases hk:k=gb
  ·subst hk;simp at h;subst h;exact .inr ⟨rfl,hheap⟩
  ·simp [hk] at h;exact .inl h
 have hE:Ext I μ st w J μ ((id,none)::st) w :=
  {imm:=hle,os:=rfl,tape:=rfl,output:=rfl,size:=BL _
   block:=λ_ _ _=>rfl
   fresh:=λk _ ⟨i,bi,gi,h1,h2,h3⟩=>⟨i,bi,gi,(BV.1 h1).2,h2,h3⟩
   old:=λk _ ho=>by
    have:k≠gb:=λe=>ho (e ▸ ⟨id,_,_,hlive,hg,rfl⟩);rw [hJ];simp [this] }
 have hv:RepD I μ (a.tmps.getD t undef) (.ref id off):=hc.env t _ he;have hptr:a.tmps.getD t undef = .pointer (some ⟨gb,off,none⟩):=by
  generalize a.tmps.getD t undef=v at hv;cases hv with
  | ref b' _ _ hm=>rw [hg] at hm;cases hm;rfl
 have hip:RepD J μ (a.tmps.getD t undef) (.ip ty xs off):=by
  rw [hptr];have:=RepD.ip (I:=J) (μ:=μ) gb 0 ty xs off (λj=>(vs[j]?).getD undef) (λj x hx=>?_) (λj x hx=>?_)
  ·simpa using this
  ·have hj:j<vs.size:=by have:=hrep.1;have:=(AO.1 hx).1;simp at *;omega
   rw [hJ];simp only [Imm.cell,if_true,Dw,P2 hj,MB,true_and];exact hone _ (by simp)
  ·have hj:j<vs.size:=by have:=hrep.1;have:=(AO.1 hx).1;simp at *;omega
   simp only [P2 hj,MB];exact (hrep.2 j _ x (by simp [hj]) hx).mono hle
 have hc':Conc n J μ ((t,.ip ty xs off)::env) ((id,none)::st) ids a w :=
  {imm:=λk o h=>(hJo k o h).elim (λh=>hc.imm k o h) λh=>h.2
   blk:=λi bi hli=>by
    obtain ⟨_,h2⟩:=BV.1 hli;obtain ⟨gi,hgi,hr⟩:=hc.blk i bi h2;exact ⟨gi,hgi,hr.mono hle (Mu.le_refl μ)⟩
   apart:=λi bi gi k hli hgi hk=>by
    obtain ⟨h1,h2⟩:=BV.1 hli;obtain ⟨q1,q2⟩:=hc.apart i bi gi k h2 hgi hk;refine ⟨?_,q2⟩;cases hJk:J k with
    | none=>rfl
    | some o =>
     rcases hJo k o hJk with h | ⟨h,_⟩
     ·rw [q1] at h;cases h
     ·exact absurd (hc.inj i id bi _ gi _ k h2 hlive hgi hg hk (by rw [h];rfl)) h1
   inj:=λi j bi bj gi gj k hi hj hgi hgj hki hkj=>hc.inj i j bi bj gi gj k (BV.1 hi).2 (BV.1 hj).2 hgi hgj hki hkj
   nodup:=hc.nodup
   idsFree:=hc.idsFree
   size:=hc.size
   env:=λt' d hlt=>by
    by_cases ht:t=t'
    ·subst ht;rw [Ay] at hlt;cases hlt;exact hip
    ·rw [A6 _ _ ht] at hlt;exact (hc.env t' d hlt).mono hle (Mu.le_refl μ)
   defers:=hc.defers.ext hE }
 exact (h b cs J μ a w items hd hc').mono λe' a' w' hp=>hp.back (.refl _ _) hE
theorem KN (i j:Nat) {blk:Blk} (hl:lk st i=some (some blk)) (hj:(EX ids j&&JQ ids'&&Pl ids' ids && !EX ids' j)=true) (h:DGo P n F Q todo env ((j,some blk)::(i,none)::st) ids'):DGo P n F Q todo env st ids:=by
 intro b cs I μ a w items hd hc;simp only [A2,JX] at hj;obtain ⟨⟨⟨hj1,hj2⟩,hj3⟩,hj4⟩:=hj;have hlive:Az st i blk:=hl;obtain ⟨g,hg,hr⟩:=hc.blk i _ hlive;have hjn:μ j=none:=hc.idsFree j (BR.1 hj1);have hij:i≠j:=λe=>by rw [e,hjn] at hg;cases hg
 obtain ⟨ν,hν⟩:∃ν:Mu,ν=λk=>if k=j then some g else μ k:=⟨_,rfl⟩
 have hνj:ν j=some g:=by rw [hν];simp
 have hνo:∀k,k≠j->ν k=μ k:=λk hk=>by rw [hν];simp [hk]
 have hle:μ.le ν:=λk v hk=>by
  have:k≠j:=λe=>by rw [e,hjn] at hk;cases hk
  rw [hνo k this];exact hk
 have hst:∀k bk,Az ((j,some blk)::(i,none)::st) k bk->(k=j/\bk=blk)\/(k≠j/\k≠i/\Az st k bk):=λk bk h=>by
  rcases AB.1 h with h | ⟨h1,h⟩
  ·exact .inl h
  ·obtain ⟨h2,h3⟩:=BV.1 h;exact .inr ⟨h1,h2,h3⟩
 have hE:Ext I μ st w I ν ((j,some blk)::(i,none)::st) w :=
  {imm:=Imm.le_refl I,os:=rfl,tape:=rfl,output:=rfl,size:=BL _,block:=λ_ _ _=>rfl
   fresh:=λk _ ⟨x,bx,gx,h1,h2,h3⟩=>by
    rcases hst x bx h1 with ⟨rfl,rfl⟩ | ⟨q1,_,q3⟩
    ·rw [hνj] at h2;cases h2;exact ⟨i,_,_,hlive,hg,h3⟩
    ·exact ⟨x,bx,gx,q3,by rw [<- hνo x q1];exact h2,h3⟩
   old:=λ_ _ _=>rfl }
 have hc':Conc n I ν env ((j,some blk)::(i,none)::st) ids' a w :=
  {imm:=hc.imm
   blk:=λk bk hk=>by
    rcases hst k bk hk with ⟨rfl,rfl⟩ | ⟨q1,_,q3⟩
    ·exact ⟨g,hνj,hr.mono (Imm.le_refl I) hle⟩
    ·obtain ⟨g',h1,h2⟩:=hc.blk k bk q3;exact ⟨g',hle _ _ h1,h2.mono (Imm.le_refl I) hle⟩
   apart:=λk bk gk m hk hgk hm=>by
    rcases hst k bk hk with ⟨rfl,rfl⟩ | ⟨q1,_,q3⟩
    ·rw [hνj] at hgk;cases hgk;exact hc.apart i _ _ m hlive hg hm
    ·exact hc.apart k bk gk m q3 (by rw [<- hνo k q1];exact hgk) hm
   inj:=λk k' bk bk' gk gk' m hk hk' hgk hgk' hm hm'=>by
    rcases hst k bk hk with ⟨rfl,rfl⟩ | ⟨q1,p1,q3⟩ <;> rcases hst k' bk' hk' with ⟨rfl,rfl⟩ | ⟨q1',p1',q3'⟩
    ·rfl
    ·rw [hνj] at hgk;cases hgk;exact absurd (hc.inj k' i bk' _ gk' _ m q3' hlive (by rw [<- hνo k' q1'];exact hgk') hg hm' hm) p1'
    ·rw [hνj] at hgk';cases hgk';exact absurd (hc.inj k i bk _ gk _ m q3 hlive (by rw [<- hνo k q1];exact hgk) hg hm hm') p1
    ·exact hc.inj k k' bk bk' gk gk' m q3 q3' (by rw [<- hνo k q1];exact hgk) (by rw [<- hνo k' q1'];exact hgk') hm hm'
   nodup:=HK hj2
   idsFree:=λk hk=>by
    have h1:=hc.idsFree k (Fu hj3 k hk);have:k≠j:=λe=>by rw [<- e] at hj4;rw [BR.2 hk] at hj4;cases hj4
    rw [hνo k this];exact h1
   size:=hc.size
   env:=λt d hlt=>(hc.env t d hlt).mono (Imm.le_refl I) hle
   defers:=hc.defers.ext hE }
 exact (h b cs I ν a w items hd hc').mono λe' a' w' hp=>hp.back (.of_le hle) hE
inductive Yields (P:Program):List D->Bun->Bool->Bun->Prop where
 | nil (S:Bun):Yields P [] S true S
 | cons {d:D} {l:List D} {S S1 S2:Bun} {r:Bool} (h:Oy P [d] S true S1) (h1:Yields P l S1 r S2):Yields P (d::l) S r S2
 | stop {d:D} {l:List D} {S S1:Bun} (h:Oy P [d] S false S1):Yields P (d::l) S false S1
theorem Yields.split {m:List D} {r:Bool} (h:Yields P (l++m) S r S2):(∃S1,Yields P l S true S1/\Yields P m S1 r S2)\/(r=false/\Yields P l S false S2):=by
 induction l generalizing S with
 | nil=>exact .inl ⟨S,.nil S,h⟩
 | cons d l ih =>
  cases h with
  | cons h h1 =>
   rcases ih h1 with ⟨S1,q1,q2⟩ | ⟨q1,q2⟩
   ·exact .inl ⟨S1,.cons h q1,q2⟩
   ·exact .inr ⟨q1,.cons h q2⟩
  | stop h=>exact .inr ⟨rfl,.stop h⟩
theorem Yields.nilInv {r:Bool} (h:Yields P [] S r S2):r=true/\S2=S:=by
 cases h;exact ⟨rfl,rfl⟩
theorem Yields.all (S:Nat->Bun) (h:∀i d,l[i]?=some d->Oy P [d] (S i) true (S (i+1))):Yields P l (S 0) true (S l.length):=by
 have:∀(l:List D) (k:Nat),(∀i d,l[i]?=some d->Oy P [d] (S (k+i)) true (S (k+i+1)))->Yields P l (S k) true (S (k+l.length)):=by
  intro l
  induction l with
  | nil=>intro k _;exact .nil _
  | cons d l ih =>
   intro k h;have:=ih (k+1) λi d hi=>by
    have:=h (i+1) d (by simpa using hi)
    rwa [show k+1+i=k+(i+1) by omega]
   rw [show k+1+l.length=k+(d::l).length by simp;omega] at this;exact .cons (h 0 d rfl) this
 have:=this l 0 λi d hi=>by simpa using h i d hi
 simpa using this
def UM:TT:=qU++[
 (270,⟨.ptr 182,false,1,8,[.imm .nilp]⟩),
 (235,⟨.ptr 9,false,1,8,[.imm .nilp]⟩),
 (233,⟨.func,false,1,8,[.imm .nilfn]⟩),
 (232,⟨.func,false,1,8,[.imm .nilfn]⟩),
 (268,⟨.func,false,1,8,[.imm .nilfn]⟩),
 (312,⟨.func,false,1,8,[.imm .nilfn]⟩),
 (230,⟨.ptr 49,false,1,8,[.imm .nilp]⟩)]
theorem wS:TTok prog UM:=.of_eq (l:=[4,3,9,49,25,182,45,47,5,23,22,73,46,180,71,43,178,40,41,113,111,28,293,195,1,139,296,190,183,185,187,26,246,191,270,235,233,232,268,312,230]) (by kernel_rfl)
theorem nd (path:List Pt) (h:run UM n 300 path todo env st ids [] = .at k env' st' ids' ob) (hob:AG ob) (hd:Tq1 n F Q k env' st' ids'):Tq2 n F Q todo env st ids:=L4 wS Fh 300 path h hob hd
theorem ndqq (h:run UM n 300 [] todo env st ids [] = .at k env' st' ids' ob) (hd:Tq1 n F Q k env' st' ids') (hob:AG ob:=by simp):Tq2 n F Q todo env st ids:=nd [] h hob hd
theorem ndqc (h:run UM n 300 [] todo env st ids [] = .at k env' st' ids' ob) (hd:Tq1 n F Q k env' st' ids') (hob:AG ob:=by simp [Ap]):Tq2 n F Q todo env st ids:=nd [] h hob hd
def Lf:Ty->Str
 | .mk _ _ x _=>x
theorem Ki (l m:List Str) (x:Str):BS (l++m) x=(BS l x||BS m x):=by
 induction l with
 | nil=>simp [BS]
 | cons y r ih=>simp [BS,ih,UN]
theorem Yields.pre {m:List D} (h:∀x∈l,Oy P [x] S true S) (h1:Oy P [d] S false S'):Yields P (l++d::m) S false S':=by
 induction l with
 | nil=>exact .stop h1
 | cons x r ih=>exact .cons (h x (by simp)) (ih λy hy=>h y (by simp [hy]))
theorem OC {α:Type} {sz f:Nat} {ys:List α}:∀(es:List (List α)) (k:Nat) (c:List α),(∀e∈es,e.length=sz)->es[k]?=some c->f+ys.length<=sz ->
  (es.set k (c.take f++ys++c.drop (f+ys.length))).flatten=es.flatten.take (k*sz+f)++ys++es.flatten.drop (k*sz+f+ys.length)
 | [],_,_,_,h,_=>by simp at h
 | e::r,0,c,hs,h,hf=>by
  simp at h;subst h;have he:=hs e (by simp);simp only [List.set_cons_zero,JT,Nat.zero_mul,Dw];rw [List.take_append_of_le_length (by omega),List.drop_append_of_le_length (by omega)];simp
 | e::r,k+1,c,hs,h,hf=>by
  have he:=hs e (by simp);have ih:=OC r k c (λe h=>hs e (by simp [h])) (by simpa using h) hf;simp only [List.set_cons_succ,JT,ih];have e1:(k+1)*sz+f=e.length+(k*sz+f):=by rw [he,Ts];omega
  rw [e1,WH e.length,List.take_length_add_append,List.drop_length_add_append];simp
theorem RepVL.splice {ns:List Value} {ys:List V} (h:RepVL I vs xs) (k:RepVL I ns ys) (off:Nat):RepVL I (vs.take off++ns++vs.drop (off+ns.length)) (xs.take off++ys++xs.drop (off+ys.length)):=by
 have app:∀{a b:List Value} {x y:List V},RepVL I a x->RepVL I b y->RepVL I (a++b) (x++y):=λ{a b x y} p q =>
  ⟨by simp [p.1,q.1],λi v z h1 h2=>by
   rw [LO] at h1 h2;by_cases hi:i<a.length
   ·rw [if_pos hi] at h1;rw [if_pos (by rw [<- p.1];exact hi)] at h2;exact p.2 i v z h1 h2
   ·rw [if_neg hi] at h1;rw [if_neg (by rw [<- p.1];exact hi),<- p.1] at h2;exact q.2 _ v z h1 h2⟩
 refine app (app ⟨by simp [h.1],λi v z h1 h2=>?_⟩ k) ⟨by simp [h.1,k.1],λi v z h1 h2=>?_⟩
 ·rw [Dl] at h1 h2;by_cases hi:i<off
  ·rw [if_pos hi] at h1 h2;exact h.2 i v z h1 h2
  ·rw [if_neg hi] at h1;cases h1
 ·rw [ES] at h1 h2;rw [k.1] at h1;exact h.2 _ v z h1 h2
structure POi where
 id:Nat
 es:List (List V)
 m:Int
 sz:Nat
 g:Option (Bool×Bool)
 ob:List Prop
 t:Nat
 todo:List DI
def vN (tt:TT) (n:Nat) (env:Env) (st:St) (todo:List DI):Option POi :=
 match Bt todo ([],[]) with
 | some (all,o,_)=>match o.op,Co all env o with
  | .indexAddr t x i,some g=>match lk tt t,Mf (Ap g) env x,Mf (Ap g) env i with
   | some { sh:=.sl e,.. },some (.own id _,o1),some (.imm (.int _ m),o2)=>match lk tt e,lk st id,o.dst,BK n o.dst,Bt todo ([id],[]) with
    | some ti,some (some (.row _ sz es)),some t',true,some (_,_,todo')=>match Nat.beq sz ti.size with
     | true=>some ⟨id,es,m,sz,g,IS o1 o2,t',todo'⟩
     | false=>none
    | _,_,_,_,_=>none
   | _,_,_=>none
  | _,_=>none
 | none=>none
structure POl where
 id:Nat
 es:List (List V)
 k:Nat
 f:Nat
 sz:Nat
 i:TyI
 g:Option (Bool×Bool)
 ob:List Prop
 t:Nat
 todo:List DI
def lK (tt:TT) (n:Nat) (env:Env) (st:St) (todo:List DI):Option POl :=
 match Bt todo ([],[]) with
 | some (all,o,_)=>match o.op,Co all env o with
  | .load t x,some g=>match lk tt t,Mf (Ap g) env x with
   | some i,some (.elp id k sz f,o1)=>match lk st id,o.dst,BK n o.dst,Bt todo ([id],[]) with
    | some (some (.row _ sz' es)),some t',true,some (_,_,todo')=>match Nat.beq sz sz' with
     | true=>some ⟨id,es,k,f,sz,i,g,o1,t',todo'⟩
     | false=>none
    | _,_,_,_=>none
   | _,_=>none
  | _,_=>none
 | none=>none
structure POs where
 id:Nat
 e:TypeId
 es:List (List V)
 k:Nat
 f:Nat
 sz:Nat
 ys:List V
 n:Nat
 ob:List Prop
 todo:List DI
def bX (tt:TT) (env:Env) (st:St) (todo:List DI):Option POs :=
 match Bt todo ([],[]) with
 | some (_,o,_)=>match o.guard,o.dst,o.op with
  | none,none,.store t p x=>match lk tt t,DN env p,DN env x with
   | some i,some (.elp id k sz f),some dx=>match lk st id,Bt todo ([id],[id]),elemOf i.size dx with
    | some (some (.row e sz' es)),some (_,_,todo'),some (ys,ob)=>match Nat.beq sz sz' with
     | true=>some ⟨id,e,es,k,f,sz,ys,i.size,ob,todo'⟩
     | false=>none
    | _,_,_=>none
   | _,_,_=>none
  | _,_,_=>none
 | none=>none
theorem Jc {f f':List Nat×List Nat} {all all':List Oper} {o':Oper} (h:Bt todo f=some (all,o,k)) (h':Bt todo f'=some (all',o',todo')):all'=all/\o'=o:=by
 rcases I1 h with ⟨r,q,rfl,_⟩ | ⟨r,fs,q,rfl,_⟩
 ·simp [Bt] at h';exact ⟨h'.1.symm,h'.2.1.symm⟩
 ·simp [Bt] at h';exact ⟨h'.1.symm,h'.2.1.symm⟩
theorem Y2 {id:Nat} (hst:StRep I μ st ids w) (hl:Az st id (.row e sz es)) (hne:es≠[]) :
  ∃b cap cur,μ id=some (.slice (some ⟨b,0,none⟩) es.length cap)/\w.heap[b]?=some (.cells cur e (0,0))/\es.length<=cap/\cap<=maxLen/\cur.size=cap*sz /\
   RepVL I (cur.toList.take (es.length*sz)) es.flatten/\(∀c∈es,c.length=sz)/\(∀c∈es,∀x∈c,V.one x=true)/\0<sz:=by
 obtain ⟨g,hg,xs,⟨_,hown⟩,hrep,hsz,hone,hp⟩:=hst.blk id _ hl;rcases hown with ⟨_,h0⟩ | ⟨b,cap,cur,rfl,_,h2,h3,h4,h5,h6⟩
 ·exact absurd (Ll h0) hne
 ·rw [<- h6] at hrep;exact ⟨b,cap,cur,hg,h2,h3,h4,h5,hrep,hsz,hone,hp⟩
theorem FG (htt:TTok P tt) {c:POi} (h:vN tt n env st todo=some c) (hc:Ap c.g->0<=c.m/\c.m<c.es.length) (hob:AG c.ob)
  (hk:G P n F Q c.todo ((c.t,gD c.g (.elp c.id c.m.toNat c.sz 0))::env) st ids):G P n F Q todo env st ids:=by
 unfold vN at h
 split at h
 ·rename_i all o todo0 h0
  split at h
  ·rename_i t x i g hop hg
   split at h
   ·rename_i e _ _ _ _ id ln o1 kk m o2 ht hx hi
    split at h
    ·rename_i ti e' sz es t' all' o' todo' hti hl hdst hd h1
     split at h
     ·rename_i hsz;cases h;obtain ⟨rfl,rfl⟩:=Jc h0 h1;have hk:G P n F Q todo' (BN o'.dst (gD g (.elp id m.toNat sz 0)) env) st ids:=by rw [hdst];exact hk
      refine BG (fr:=[]) (wr:=[]) (rd:=[id]) h1 (D1 hg λI μ st1 ids1 a w hag hst hops hcx=>?_) (by rw [hdst] at hd ⊢;exact hd) (λc hc=>by rw [hop] at hc;cases hc) hk;rw [hop] at hops;obtain ⟨ho1,ho2⟩:=B8 hob;have rx:=DZ hx ho1 hcx (hops x (by simp [Op.operands]));have ri:=(DZ hi ho2 hcx (hops i (by simp [Op.operands]))).immInv.intInv;obtain ⟨c0,c1⟩:=hc hcx;simp only at c0 c1;have hl1:Az st1 id (.row e' sz es):=by unfold Az;rw [hag id (by simp)];exact hl
      obtain ⟨b,cap,cur,hmu,hheap,hcap,hcm,hcs,hrep,hlen,hone,hp⟩:=Y2 hst hl1 (by rintro rfl;simp at c1;omega);have hs:=C7 hsz;subst hs;have hu:P.underlying t=some (.slice e):=htt.sh ht;simp only [execOp,hop,ri];generalize hv:a.eval x=v at rx;cases rx with
      | own _ _ ad cp hm =>
       rw [hm] at hmu;cases hmu;have hr:=Oa (w:=w) hu (htt e ti hti) (b:=b) (off:=0) (len:=es.length) (cap:=cap) (kk:=kk) c0 (by omega);have hrun:(do pure (.value (<- Instr.indexAt t (.slice (some ⟨b,0,none⟩) es.length cap) (.int kk m))):Sem Next).run P w = .ok (.value (.pointer (some ⟨b,0+m.toNat*ti.size,none⟩))) w:=A7 hr;rw [hrun,Dw];exact ⟨I,μ,hst,.elp b id _ cap m.toNat ti.size 0 hm,Mu.le_refl μ,Ext.refl _ _ _ _⟩
     ·cases h
    ·cases h
   ·cases h
  ·cases h
 ·cases h
theorem PN (htt:TTok P tt) {c:POl} {e:List V} (h:lK tt n env st todo=some c) (hc:Ap c.g->c.es[c.k]?=some e) (hd:MD c.i (Nat.beq c.sz c.i.size) e c.f=some d) (hob:AG c.ob) (hk:G P n F Q c.todo ((c.t,gD c.g d)::env) st ids):G P n F Q todo env st ids:=by
 unfold lK at h
 split at h
 ·rename_i all o todo0 h0
  split at h
  ·rename_i t x g hop hg
   split at h
   ·rename_i i id kk sz f o1 ht hx
    split at h
    ·rename_i e' sz' es t' all' o' todo' hl hdst hd' h1
     split at h
     ·rename_i hsz;cases h;obtain ⟨rfl,rfl⟩:=Jc h0 h1;have hk:G P n F Q todo' (BN o'.dst (gD g d) env) st ids:=by rw [hdst];exact hk
      refine BG (fr:=[]) (wr:=[]) (rd:=[id]) h1 (D1 hg λI μ st1 ids1 a w hag hst hops hcx=>?_) (by rw [hdst] at hd' ⊢;exact hd') (λc hc=>by rw [hop] at hc;cases hc) hk;rw [hop] at hops;have rx:=DZ hx hob hcx (hops x (by simp [Op.operands]));have c1:=hc hcx;simp only at c1;have hs:=C7 hsz;subst hs;have hl1:Az st1 id (.row e' sz es):=by unfold Az;rw [hag id (by simp)];exact hl
      obtain ⟨b,cap,cur,hmu,hheap,hcap,hcm,hcs,hrep,hlen,hone,hp⟩:=Y2 hst hl1 (by rintro rfl;simp at c1);have he:=hlen e (AK c1);simp only [execOp,hop];generalize hv:a.eval x=v at rx;cases rx with
      | elp _ _ ln cp _ _ _ hm =>
       rw [hm] at hmu;cases hmu;have hcell:∀j y,e[j]?=some y->∃u,cur[kk*sz+j]?=some u/\RepV I u y/\u.oneCell'=true:=by
        intro j y hj;have h1:=C4 hlen kk e j y c1 hj;have hlt:kk*sz+j<(cur.toList.take (es.length*sz)).length:=by rw [hrep.1];exact (AO.1 h1).1
        have h2:=Bw hlt;have h3:=hrep.2 _ _ _ h2 h1;refine ⟨_,?_,h3,h3.one (hone e (AK c1) y (AK hj))⟩;rw [Dl] at h2
        split at h2
        ·simp
        ·cases h2
       obtain ⟨u,q1,q2⟩:=MC (P:=P) (w:=w) (I:=I) (μ:=μ) (htt t i ht) (b:=b) (o:=kk*sz) (off:=f) (xs:=e) (vs:=λj=>(cur[kk*sz+j]?).getD undef) (same:=Nat.beq sz i.size)
        (λj y hj=>by
         obtain ⟨u,k1,k2,k3⟩:=hcell j y hj;refine ⟨?_,by simp [k1,k3]⟩;rw [EL hheap (kk*sz+j) u (by simpa using k1)];simp [k1])
        (λj y hj=>by
         obtain ⟨u,k1,k2,k3⟩:=hcell j y hj;simpa [k1] using k2)
        (λ_ hs _=>by rw [he];exact C7 hs) hd
       have hrun:(do pure (.value (<- Instr.loadAt t (.pointer (some ⟨b,kk*sz+f,none⟩)))):Sem Next).run P w = .ok (.value u) w:=A7 q1;rw [hrun];exact ⟨I,μ,hst,q2,Mu.le_refl μ,Ext.refl _ _ _ _⟩
     ·cases h
    ·cases h
   ·cases h
  ·cases h
 ·cases h
theorem Kj (htt:TTok P tt) {c:POs} {e e':List V} (h:bX tt env st todo=some c) (hc:c.es[c.k]?=some e) (hf:c.f+c.n<=c.sz) (he':e'=e.take c.f++c.ys++e.drop (c.f+c.n)) (hob:AG c.ob)
  (hk:G P n F Q c.todo env ((c.id,some (.row c.e c.sz (c.es.set c.k e')))::st) ids):G P n F Q todo env st ids:=by
 unfold bX at h
 split at h
 ·rename_i all o todo0 h0
  split at h
  ·rename_i t p x hgd hdst hop
   split at h
   ·rename_i i id kk sz f dx ht hp hx
    split at h
    ·rename_i ty sz' es all' o' todo' ys ob hl h1 hel
     split at h
     ·rename_i hsz;cases h;obtain ⟨rfl,rfl⟩:=Jc h0 h1;have hs:=C7 hsz;subst hs;simp only at hc hf he' hob hk;have hk:G P n F Q todo' (BN o'.dst .undef env) ([(id,some (.row ty sz (es.set kk e')))]++st) ids:=by rw [hdst];exact hk
      refine BG (fr:=[]) (wr:=[(id,some (.row ty sz (es.set kk e')))]) (rd:=[id]) h1 ?_ (by simp [BK,hdst]) (λc hc=>by rw [hop] at hc;cases hc) hk;intro I μ st1 ids1 a w hag hst hon;refine ⟨λ_=>?_,λhw=>by rw [AL hgd] at hw;cases hw⟩;have hops:=Bm hon;rw [hop] at hops;have rp:=hops p (by simp [Op.operands]) _ hp;obtain ⟨r1,r2,r3,r4⟩:=Rw hel (hops x (by simp [Op.operands]) _ hx) hob;have hl1:Az st1 id (.row ty sz es):=by unfold Az;rw [hag id (by simp)];exact hl
      obtain ⟨b,cap,cur,hmu,hheap,hcap,hcm,hcs,hrep,hlen,hone,hpos⟩:=Y2 hst hl1 (by rintro rfl;simp at hc);have hkl:=(AO.1 hc).1;have hfit:kk*sz+f+i.size<=es.length*sz:=by
       have:(kk+1)*sz<=es.length*sz:=Zr _ hkl;rw [Ts] at this;omega
      have hcapz:es.length*sz<=cap*sz:=Zr _ hcap;generalize hv:a.eval p=v at rp;cases rp with
      | elp _ _ ln cp _ _ _ hm =>
       rw [hm] at hmu;cases hmu;have hvl:(a.eval x).cells.toList.length=i.size:=by simpa using r2
       have hrun:(execOp a.eval o').run P w = .ok .skip (w.setRow b (cur.toList.take (kk*sz+f)++(a.eval x).cells.toList++cur.toList.drop (kk*sz+f+(a.eval x).cells.toList.length)).toArray):=by
        simp only [execOp,hop,hv,Sem.run_bind,LB (htt t i ht) hheap r2 r4 (show kk*sz+f+(a.eval x).cells.toList.length<=cur.size by rw [hvl];omega),Result.andThen_ok,Sem.run_pure]
       rw [hrun];have hcl:cur.toList.length=cap*sz:=by simpa using hcs
       have hnew:BlkRep I μ (w.setRow b (cur.toList.take (kk*sz+f)++(a.eval x).cells.toList++cur.toList.drop (kk*sz+f+(a.eval x).cells.toList.length)).toArray) (.slice (some ⟨b,0,none⟩) es.length cap) (.row ty sz (es.set kk e')):=by
        subst he';have hys:ys.length=i.size:=r3;have e1:=OC (ys:=ys) es kk e hlen hc (by rw [hys];exact hf);rw [hys] at e1;have e2:(cur.toList.take (kk*sz+f)++(a.eval x).cells.toList++cur.toList.drop (kk*sz+f+(a.eval x).cells.toList.length)).take (es.length*sz) =
          (cur.toList.take (es.length*sz)).take (kk*sz+f)++(a.eval x).cells.toList++(cur.toList.take (es.length*sz)).drop (kk*sz+f+(a.eval x).cells.toList.length):=by
         rw [hvl,Cl,WE,WE,mU,mU,FA,hvl,Cl];rw [WD (by omega:kk*sz+f<=cur.toList.length),Nat.min_eq_right (by omega:kk*sz+f<=es.length*sz),WD (by omega:kk*sz+f<=es.length*sz)];rw [CQ (l:=(a.eval x).cells.toList) (by omega),List.drop_take];congr 3;omega
        have hR:=RepVL.splice hrep r1 (kk*sz+f);rw [hvl,hys] at hR;rw [hvl] at e2;have CO:(es.set kk (e.take f++ys++e.drop (f+i.size))).length=es.length:=by simp
        refine ⟨_,⟨?_,.inr ⟨b,cap,_,by rw [CO],AF _,setRow_heap w b cur _ ty _ hheap,by rw [CO];exact hcap,hcm,?_,rfl⟩⟩,?_,?_,?_,hpos⟩
        ·simp;omega
        ·simp;omega
        ·rw [CO,hvl,MA,e2];exact e1 ▸ hR
        ·intro c hc';rcases nC hc' with h | h
         ·exact hlen c h
         ·rw [h];have:=hlen e (AK hc);simp [hys];omega
        ·intro c hc' y hy;rcases nC hc' with h | h
         ·exact hone c h y hy
         ·rw [h] at hy;have h5:=hone e (AK hc);rcases BU.1 hy with hy | hy
          ·rcases BU.1 hy with hy | hy
           ·exact h5 y (Lo hy)
           ·obtain ⟨j,hj⟩:=DE.1 hy;have hjl:j<(a.eval x).cells.toList.length:=by rw [r1.1];exact (AO.1 hj).1
            exact (r1.2 j _ y (Bw hjl) hj).oneV (r4 _ (I6 _))
          ·exact h5 y (QJ hy)
       obtain ⟨q1,q2⟩:=hst.update (id:=id) (blk:=.row ty sz es) (g:=.slice (some ⟨b,0,none⟩) es.length cap) (b:=b) hl1 hm rfl (w':=w.setRow b _) (setRow_size w b _) rfl rfl rfl (λk hk=>setRow_other w b k _ hk) hnew;exact ⟨I,μ,q1,.undef _,Mu.le_refl μ,q2⟩
     ·cases h
    ·cases h
   ·cases h
  ·cases h
 ·cases h
def noMu:Mu:=λ_=>none
theorem sQ (μ:Mu):noMu.le μ:=λ_ _ h=>by cases h
def PV (I:Imm) (w:World) (b off:Nat) (ds:List D):Prop :=
 ∃vs t k,w.heap[b]?=some (.cells vs t k)/\∀j d,ds[j]?=some d->∃c,vs[off+j]?=some c/\c.oneCell'=true/\RepD I noMu c d
structure PRi where
 a:Addr
 len:Nat
 m:Int
 sz:Nat
 g:Option (Bool×Bool)
 ob:List Prop
 t:Nat
 todo:List DI
def vM (tt:TT) (n:Nat) (env:Env) (todo:List DI):Option PRi :=
 match Bt todo ([],[]) with
 | some (all,o,todo')=>match o.op,Co all env o with
  | .indexAddr t x i,some g=>match lk tt t,Mf (Ap g) env x,Mf (Ap g) env i with
   | some { sh:=.sl e,.. },some (.raw (.slice (some a) len _),o1),some (.imm (.int _ m),o2)=>match lk tt e,o.dst,BK n o.dst with
    | some ti,some t',true=>some ⟨a,len,m,ti.size,g,IS o1 o2,t',todo'⟩
    | _,_,_=>none
   | _,_,_=>none
  | _,_=>none
 | none=>none
structure PRl where
 b:Nat
 off:Nat
 i:TyI
 g:Option (Bool×Bool)
 ob:List Prop
 t:Nat
 todo:List DI
def lJ (tt:TT) (n:Nat) (env:Env) (id:Nat) (todo:List DI):Option PRl :=
 match Bt todo ([id],[]) with
 | some (all,o,todo')=>match o.op,Co all env o with
  | .load t x,some g=>match lk tt t,Mf (Ap g) env x with
   | some i,some (.raw (.pointer (some ⟨b,off,none⟩)),o1)=>match o.dst,BK n o.dst with
    | some t',true=>some ⟨b,off,i,g,o1,t',todo'⟩
    | _,_=>none
   | _,_=>none
  | _,_=>none
 | none=>none
theorem RepD.rawInv (h:RepD I μ v (.raw u)):v=u:=by cases h;rfl
theorem MU (htt:TTok P tt) {c:PRi} (h:vM tt n env todo=some c) (hs:c.a.spot=none) (hc:Ap c.g->0<=c.m/\c.m<c.len) (hob:AG c.ob)
  (hk:G P n F Q c.todo ((c.t,gD c.g (.raw (.pointer (some ⟨c.a.block,c.a.off+c.m.toNat*c.sz,none⟩))))::env) st ids):G P n F Q todo env st ids:=by
 unfold vM at h
 split at h
 ·rename_i all o todo' h1
  split at h
  ·rename_i t x i g hop hg
   split at h
   ·rename_i e _ _ _ _ ad len cap o1 kk m o2 ht hx hi
    split at h
    ·rename_i ti t' hti hdst hd;cases h;obtain ⟨b,off,spot⟩:=ad;simp only at hs;subst hs;have hk:G P n F Q todo' (BN o.dst (gD g (.raw (.pointer (some ⟨b,off+m.toNat*ti.size,none⟩)))) env) st ids:=by rw [hdst];exact hk
     refine BG (fr:=[]) (wr:=[]) (rd:=[]) h1 (D1 hg λI μ st1 ids1 a w _ hst hops hcx=>?_) (by rw [hdst] at hd ⊢;exact hd) (λc hc=>by rw [hop] at hc;cases hc) hk;rw [hop] at hops;obtain ⟨ho1,ho2⟩:=B8 hob;have rx:=(DZ hx ho1 hcx (hops x (by simp [Op.operands]))).rawInv;have ri:=(DZ hi ho2 hcx (hops i (by simp [Op.operands]))).immInv.intInv;obtain ⟨c0,c1⟩:=hc hcx;have hu:P.underlying t=some (.slice e):=htt.sh ht;simp only [execOp,hop,ri,rx];have hr:=Oa (w:=w) hu (htt e ti hti) (b:=b) (off:=off) (len:=len) (cap:=cap) (kk:=kk) c0 c1
     have hrun:(do pure (.value (<- Instr.indexAt t (.slice (some ⟨b,off,none⟩) len cap) (.int kk m))):Sem Next).run P w = .ok (.value (.pointer (some ⟨b,off+m.toNat*ti.size,none⟩))) w:=A7 hr;rw [hrun];exact ⟨I,μ,hst,.raw _ rfl,Mu.le_refl μ,Ext.refl _ _ _ _⟩
    ·cases h
   ·cases h
  ·cases h
 ·cases h
theorem sZ {t:TypeId} {i:TyI} (hi:TyOk P t i) {b:Nat} (h:PV I w b off ds) (hl:ds.length=i.size) (hd:Hw i true ds 0=some d) (μ:Mu) :
  ∃v,(Instr.loadAt t (.pointer (some ⟨b,off,none⟩))).run P w = .ok v w/\RepD I μ v d:=by
 obtain ⟨vs,bt,kk,hheap,hcs⟩:=h;have hcell:∀(j:Nat),j<ds.length->∃c d,ds[j]?=some d/\vs[off+j]?=some c/\c.oneCell'=true/\RepD I μ c d:=λj hj=>by
  obtain ⟨c,h1,h2,h3⟩:=hcs j _ (Bw hj);exact ⟨c,_,Bw hj,h1,h2,h3.mono (Imm.le_refl I) (sQ μ)⟩
 have hw:∀j,j<ds.length->w.cell? ⟨b,off+j,none⟩=some ((vs[off+j]?).getD undef):=λj hj=>by
  obtain ⟨c,d,_,h2,_⟩:=hcell j hj;rw [EL hheap (off+j) c (by simpa using h2)];simp [h2]
 cases ha:i.agg with
 | true =>
  simp only [Hw,ha] at hd;cases hd;have hr:=K9 hi b off (λj=>(vs[off+j]?).getD undef) (w:=w) (λj hj=>hw j (by omega)) (λhf=>by rw [ha] at hf;cases hf);rw [ha] at hr;simp only [if_true] at hr;refine ⟨_,hr,?_⟩;have:=He (I:=I) (μ:=μ) (vs:=(List.range i.size).map λj=>(vs[off+j]?).getD undef) (ds:=ds) ⟨by simp [hl],λj v d hv hd=>?_⟩ (λc hc=>?_)
  ·simpa using this
  ·rw [Et] at hv;obtain ⟨c,d',h1,h2,_,h4⟩:=hcell j (AO.1 hd).1;rw [h1] at hd;cases hd;cases hj:(List.range i.size)[j]? with
   | none=>rw [hj] at hv;cases hv
   | some q =>
    rw [hj] at hv;have:q=j:=by
     obtain ⟨h6,h7⟩:=AO.1 hj;simpa using h7.symm
    subst this;cases hv;simpa [h2] using h4
  ·obtain ⟨j,hj,rfl⟩:=Cc.1 hc;obtain ⟨c,d',_,h2,h3,_⟩:=hcell j (by rw [hl];simpa using hj);simpa [h2] using h3
 | false =>
  simp only [Hw,ha] at hd;have hlt:0<ds.length:=by
   cases ds with
   | nil=>simp [Mb] at hd
   | cons=>simp
  have hr:=K9 hi b off (λj=>(vs[off+j]?).getD undef) (w:=w) (λj hj=>hw j (by omega)) (λ_=>hw 0 hlt);rw [ha] at hr;simp only [E1,if_false] at hr;obtain ⟨c,d',h1,h2,_,h4⟩:=hcell 0 hlt;rw [Gh,h1] at hd;cases hd;rw [I5] at h2;exact ⟨_,hr,by simpa [h2] using h4⟩
theorem dD (htt:TTok P tt) (id:Nat) {c:PRl} (ds:List D) (h:lJ tt n env id todo=some c) (hl:lk st id=some (some (.hp A))) (hA:Ap c.g->∀vs I w bs,A.P vs I w bs->PV I w c.b c.off ds) (hlen:ds.length=c.i.size) (hd:Hw c.i true ds 0=some d) (hob:AG c.ob) (hk:G P n F Q c.todo ((c.t,gD c.g d)::env) st ids):G P n F Q todo env st ids:=by
 unfold lJ at h
 split at h
 ·rename_i all o todo' h1
  split at h
  ·rename_i t x g hop hg
   split at h
   ·rename_i i b off o1 ht hx
    split at h
    ·rename_i t' hdst hd';cases h;have hk:G P n F Q todo' (BN o.dst (gD g d) env) st ids:=by rw [hdst];exact hk
     refine BG (fr:=[]) (wr:=[]) (rd:=[id]) h1 (D1 hg λI μ st1 ids1 a w hag hst hops hcx=>?_) (by rw [hdst] at hd' ⊢;exact hd') (λc hc=>by rw [hop] at hc;cases hc) hk;rw [hop] at hops;have rx:=(DZ hx hob hcx (hops x (by simp [Op.operands]))).rawInv;have hl1:Az st1 id (.hp A):=by unfold Az;rw [hag id (by simp)];exact hl
     obtain ⟨gg,hg',us,bs,e1,e2⟩:=hst.blk id _ hl1;obtain ⟨v,q1,q2⟩:=sZ (P:=P) (htt t i ht) (hA hcx us I w bs e2) hlen hd μ;simp only [execOp,hop,rx];have hrun:(do pure (.value (<- Instr.loadAt t (.pointer (some ⟨b,off,none⟩)))):Sem Next).run P w = .ok (.value v) w:=A7 q1;rw [hrun];exact ⟨I,μ,hst,q2,Mu.le_refl μ,Ext.refl _ _ _ _⟩
    ·cases h
   ·cases h
  ·cases h
 ·cases h
def OH:List (Nat×Value×Blk)->St
 | []=>[]
 | (i,_,b)::r=>(i,some b)::OH r
def OJ:List (Nat×Value×Blk)->List Nat
 | []=>[]
 | (i,_,_)::r=>i::OJ r
def Ef (new:List (Nat×Value×Blk)) (μ:Mu):Mu:=λi=>match lk new i with
 | some p=>some p.1
 | none=>μ i
def cI (R:List Nat) (μ:Mu) (st:St) (b:Nat):Prop:=∃r blk g,r∈R/\Az st r blk/\μ r=some g/\En g b
theorem YU {new:List (Nat×Value×Blk)}:Az (OH new++st) i b->(∃g,(i,g,b)∈new/\lk new i=some (g,b))\/(lk new i=none/\Az st i b):=by
 induction new with
 | nil=>intro h;exact .inr ⟨rfl,h⟩
 | cons p r ih =>
  obtain ⟨k,g,x⟩:=p;intro h;simp only [OH,D0] at h;rcases AB.1 h with ⟨rfl,rfl⟩ | ⟨h1,h2⟩
  ·exact .inl ⟨g,by simp,Ay _ _ _⟩
  ·rw [A6 _ _ (λe=>h1 e.symm)];rcases ih h2 with ⟨g',q1,q2⟩ | h
   ·exact .inl ⟨g',by simp [q1],q2⟩
   ·exact .inr h
theorem W4 {new:List (Nat×Value×Blk)}:lk new i=none↔i∉OJ new:=by
 induction new with
 | nil=>simp [lk,OJ]
 | cons p r ih =>
  obtain ⟨k,g,x⟩:=p;by_cases h:k=i
  ·subst h;rw [Ay];simp [OJ]
  ·rw [A6 _ _ h,ih];simp [OJ];exact λ_ e=>h e.symm
theorem StRep.relay {R:List Nat} {new:List (Nat×Value×Blk)} (hst:StRep I μ st (OJ new++ids') w)
  (hown:∀p∈new,∀b,En p.2.1 b->cI R μ st b) (hdisj:∀p∈new,∀q∈new,∀b,En p.2.1 b->En q.2.1 b->p.1=q.1)
  (hI:I.le J) (hJ:J.ok w) (hold:∀b o,J b=some o->I b=some o\/(cI R μ st b/\∀p∈new,¬En p.2.1 b))
  (hrep:μ.le (Ef new μ)->∀p∈new,BlkRep J (Ef new μ) w p.2.1 p.2.2) :
  μ.le (Ef new μ)/\StRep J (Ef new μ) (OH new++(C2 R++st)) ids' w/\Ext I μ st w J (Ef new μ) (OH new++(C2 R++st)) w:=by
 have hnd:=Hu.1 hst.nodup;have hle:μ.le (Ef new μ):=λi v h=>by
  have:i∉OJ new:=λhi=>by rw [hst.idsFree i (by simp [hi])] at h;cases h
  simp [Ef,W4.2 this,h]
 have hcase:∀{i b},Az (OH new++(C2 R++st)) i b->(∃g,(i,g,b)∈new/\Ef new μ i=some g)\/(i∉R/\Az st i b/\Ef new μ i=μ i):=by
  intro i b h;rcases YU h with ⟨g,q1,q2⟩ | ⟨q1,q2⟩
  ·exact .inl ⟨g,q1,by simp [Ef,q2]⟩
  ·obtain ⟨h3,h4⟩:=LV q2;exact .inr ⟨h3,h4,by simp [Ef,q1]⟩
 have hold':∀{b},Bu μ st b->(∀r∈R,∀blk g,Az st r blk->μ r=some g->¬En g b)->J b=none:=by
  intro b ⟨i,blk,g,q1,q2,q3⟩ hR;have hI0:=(hst.apart i blk g b q1 q2 q3).1;cases hJb:J b with
  | none=>rfl
  | some o =>
   rcases hold b o hJb with h | ⟨⟨r,blk',g',k1,k2,k3,k4⟩,_⟩
   ·rw [hI0] at h;cases h
   ·exact absurd k4 (hR r k1 blk' g' k2 k3)
 have hE:Ext I μ st w J (Ef new μ) (OH new++(C2 R++st)) w :=
  {imm:=hI,os:=rfl,tape:=rfl,output:=rfl,size:=BL _,block:=λ_ _ _=>rfl
   fresh:=λb _ ⟨i,blk,g,q1,q2,q3⟩=>by
    rcases hcase q1 with ⟨g',k1,k2⟩ | ⟨_,k2,k3⟩
    ·rw [k2] at q2;cases q2;obtain ⟨r,blk',g',_,a2,a3,a4⟩:=hown _ k1 b q3;exact ⟨r,blk',g',a2,a3,a4⟩
    ·exact ⟨i,blk,g,k2,by rw [<- k3];exact q2,q3⟩
   old:=λb _ ho=>by
    cases hJb:J b with
    | none =>
     cases hIb:I b with
     | none=>rfl
     | some o=>rw [hI b o hIb] at hJb;cases hJb
    | some o =>
     rcases hold b o hJb with h | ⟨⟨r,blk,g,_,k2,k3,k4⟩,_⟩
     ·exact h.symm
     ·exact absurd ⟨r,blk,g,k2,k3,k4⟩ ho }
 refine ⟨hle,{ imm:=hJ,blk:=λi b hl=>?_,apart:=λi b g k hl hg hk=>?_,inj:=λi j bi bj gi gj k hi hj hgi hgj hki hkj=>?_,nodup:=hnd.2.1,idsFree:=λi hi=>?_ },hE⟩
 ·rcases hcase hl with ⟨g,k1,k2⟩ | ⟨_,k2,k3⟩
  ·exact ⟨g,k2,hrep hle _ k1⟩
  ·obtain ⟨g,q1,q2⟩:=hst.blk i b k2;exact ⟨g,by rw [k3];exact q1,q2.mono hI hle⟩
 ·rcases hcase hl with ⟨g',k1,k2⟩ | ⟨kR,k2,k3⟩
  ·rw [k2] at hg;cases hg;obtain ⟨r,blk',g',a1,a2,a3,a4⟩:=hown _ k1 k hk;obtain ⟨z1,z2⟩:=hst.apart r blk' g' k a2 a3 a4;refine ⟨?_,z2⟩;cases hJb:J k with
   | none=>rfl
   | some o =>
    rcases hold k o hJb with h | ⟨_,h⟩
    ·rw [z1] at h;cases h
    ·exact absurd hk (h _ k1)
  ·rw [k3] at hg;obtain ⟨z1,z2⟩:=hst.apart i b g k k2 hg hk;refine ⟨hold' ⟨i,b,g,k2,hg,hk⟩ λr hr blk' g' h1 h2 h3=>?_,z2⟩;exact kR (by rw [hst.inj i r b blk' g g' k k2 h1 hg h2 hk h3];exact hr)
 ·rcases hcase hi with ⟨g1,k1,k2⟩ | ⟨kR,k2,k3⟩
  ·rw [k2] at hgi;cases hgi;rcases hcase hj with ⟨g2,l1,l2⟩ | ⟨lR,l2,l3⟩
   ·rw [l2] at hgj;cases hgj;exact hdisj _ k1 _ l1 k hki hkj
   ·rw [l3] at hgj;obtain ⟨r,blk',g',a1,a2,a3,a4⟩:=hown _ k1 k hki;exact absurd (by rw [hst.inj j r bj blk' gj g' k l2 a2 hgj a3 hkj a4];exact a1) lR
  ·rw [k3] at hgi;rcases hcase hj with ⟨g2,l1,l2⟩ | ⟨lR,l2,l3⟩
   ·rw [l2] at hgj;cases hgj;obtain ⟨r,blk',g',a1,a2,a3,a4⟩:=hown _ l1 k hkj;exact absurd (by rw [hst.inj i r bi blk' gi g' k k2 a2 hgi a3 hki a4];exact a1) kR
   ·rw [l3] at hgj;exact hst.inj i j bi bj gi gj k k2 l2 hgi hgj hki hkj
 ·have:i∉OJ new:=λh=>hnd.2.2 i h i hi rfl;simp only [Ef,W4.2 this];exact hst.idsFree i (by simp [hi])
theorem EJ (h:∀I μ a w,Conc n I μ env st ids a w->∃J ν env' st' ids',StRep J ν st' ids' w/\(∀t d,lk env' t=some d->RepD J ν (a.tmps.getD t undef) d)/\Ext I μ st w J ν st' w/\Pin F μ ν/\DGo P n F Q todo env' st' ids') :
  DGo P n F Q todo env st ids:=by
 intro b cs I μ a w items hd hc;obtain ⟨J,ν,env',st',ids',h1,h2,h3,h4,h5⟩:=h I μ a w hc;exact (h5 b cs J ν a w items hd { h1 with size:=hc.size,env:=h2,defers:=hc.defers.ext h3 }).mono λe a' w' hp=>hp.back h4 h3
theorem uG (id i j:Nat) (B C:α->Asn) (hl:lk st id=some (some (.hp A))) (hA:∀vs I w bs,A.P vs I w bs->∃x b1 b2,(∀b∈b1,b∈bs)/\(∀b∈b2,b∈bs)/\(∀b∈b1,b∉b2)/\(B x).P [] I w b1/\(C x).P [] I w b2) (h:∀x,DGo P n F Q todo env ((i,some (.hp (B x)))::(j,some (.hp (C x)))::(id,none)::st) ids'):DGo P n F Q todo env st (i::j::ids'):=by
 refine EJ λI μ a w hc=>?_;obtain ⟨g,hg,vs,bs,rfl,hP⟩:=hc.blk id _ hl;obtain ⟨x,b1,b2,k1,k2,k3,k4,k5⟩:=hA vs I w bs hP;obtain ⟨q1,q2,q3⟩:=StRep.relay (R:=[id]) (new:=[(i,Xn [] b1,.hp (B x)),(j,Xn [] b2,.hp (C x))]) (ids':=ids') hc.toStRep
  (λp hp b hb=>by
   simp only [CA,LJ,or_false] at hp;rcases hp with rfl | rfl
   ·exact ⟨id,_,_,by simp,hl,hg,C0.2 (k1 b (C0.1 hb))⟩
   ·exact ⟨id,_,_,by simp,hl,hg,C0.2 (k2 b (C0.1 hb))⟩)
  (λp hp q hq b e1 e2=>by
   simp only [CA,LJ,or_false] at hp hq;rcases hp with rfl | rfl <;> rcases hq with rfl | rfl <;> first
    | rfl
    | exact absurd (C0.1 e2) (k3 b (C0.1 e1))
    | exact absurd (C0.1 e1) (k3 b (C0.1 e2))) (Imm.le_refl I) hc.imm (λb o h=>.inl h)
  (λ_ p hp=>by
   simp only [CA,LJ,or_false] at hp;rcases hp with rfl | rfl
   ·exact ⟨[],b1,rfl,k4⟩
   ·exact ⟨[],b2,rfl,k5⟩)
 exact ⟨I,_,env,_,ids',q2,λt d hd=>(hc.env t d hd).mono (Imm.le_refl I) q1,q3,.of_le q1,h x⟩
mutual
def YQ (id:Nat) (vs:List Value):D->D
 | .hv i k=>match Nat.beq i id,Mb vs k with
  | true,some v=>.raw v
  | _,_=>.hv i k
 | .agg cs=>.agg (YP id vs cs)
 | .tup cs=>.tup (YP id vs cs)
 | d=>d
def YP (id:Nat) (vs:List Value):List D->List D
 | []=>[]
 | d::r=>YQ id vs d::YP id vs r
end
def fN (id:Nat) (vs:List Value):Env->Env
 | []=>[]
 | (t,d)::r=>(t,YQ id vs d)::fN id vs r
def zN (id:Nat) (vs:List Value):Blk->Blk
 | .cells t sz cs=>.cells t sz (YP id vs cs)
 | b=>b
def Sf (id:Nat) (vs:List Value):St->St
 | []=>[]
 | (i,some b)::r=>(i,some (zN id vs b))::Sf id vs r
 | (i,none)::r=>(i,none)::Sf id vs r
theorem Ja (id:Nat) (vs:List Value):∀l:List D,YP id vs l=l.map (YQ id vs)
 | []=>rfl
 | d::r=>by simp [YP,Ja id vs r]
theorem RepD.opn {id:Nat} {bs:List Nat} (hm:μ id=some (Xn vs bs)) (h:RepD I μ v d):RepD I μ v (YQ id vs d):=by
 have at_:∀{l:List D} {i:Nat} {x:D},(YP id vs l)[i]?=some x->∃y,l[i]?=some y/\x=YQ id vs y:=by
  intro l i x hx;rw [Ja,Et] at hx;cases hl:l[i]? with
  | none=>rw [hl] at hx;cases hx
  | some y=>rw [hl] at hx;cases hx;exact ⟨y,rfl,rfl⟩
 induction h with
 | hv v i k us cs h hi h1 =>
  simp only [YQ]
  split
  ·rename_i u he hu;rw [C7 he,hm] at h;have hvs:vs=us/\bs=cs:=by
    simp only [Xn,Cf,Value.tuple.injEq,Array.mk.injEq,E2,Value.agg.injEq,and_true] at h;refine ⟨by simpa using h.1,?_⟩;have h2:=congrArg Array.toList h.2;simp only [UD] at h2;exact (List.map_inj_right (λx y e=>by simpa using e)).1 h2
   rw [Gh,hvs.1,hi] at hu;cases hu;exact .raw _ h1
  ·exact .hv v i k us cs h hi h1
 | agg cs ds hl h1 _ ih =>
  refine .agg cs _ (by rw [Ja,Dh,hl]) h1 λi c x hc hx=>?_;obtain ⟨y,hy,rfl⟩:=at_ hx;exact ih i c y hc hy
 | tup cs ds hl _ ih =>
  refine .tup cs _ (by rw [Ja,Dh,hl]) λi c x hc hx=>?_;obtain ⟨y,hy,rfl⟩:=at_ hx;exact ih i c y hc hy
 | undef v=>exact .undef v
 | imm v x hx=>exact .imm v x hx
 | nils=>exact .nils
 | ref b id off hm=>exact .ref b id off hm
 | ip b o t cs off vs hcell hrep=>exact .ip b o t cs off vs hcell hrep
 | own i len a cap hm=>exact .own i len a cap hm
 | elp b i len cap k sz f hm=>exact .elp b i len cap k sz f hm
 | mapr i b hm=>exact .mapr i b hm
 | iter i b hm=>exact .iter i b hm
 | fn f first cap df dc hf hc h1 h2 _ _=>exact .fn f first cap df dc hf hc h1 h2
 | iface t v d h _=>exact .iface t v d h
 | guard c want v d h hu _=>exact .guard c want v d h hu
 | clip a len es hr=>exact .clip a len es hr
 | slc b i off len cap hm hl hx=>exact .slc b i off len cap hm hl hx
 | yld b i hm=>exact .yld b i hm
 | raw v h=>exact .raw v h
theorem cJ {id:Nat} {vs:List Value}:∀{env:Env} {t:Nat} {d:D},lk (fN id vs env) t=some d->∃d0,lk env t=some d0/\d=YQ id vs d0
 | [],t,d,h=>by simp [fN,lk] at h
 | (s,x)::r,t,d,h=>by
  simp only [fN] at h;by_cases hs:s=t
  ·subst hs;rw [Ay] at h ⊢;cases h;exact ⟨x,rfl,rfl⟩
  ·rw [A6 _ _ hs] at h ⊢;exact cJ h
theorem NM {id:Nat} {vs:List Value} {i:Nat} {b:Blk}:∀{st:St},Az (Sf id vs st) i b->∃b0,Az st i b0/\b=zN id vs b0
 | [],h=>by simp [Sf,Az,lk] at h
 | (k,some x)::r,h=>by
  simp only [Sf] at h;rcases AB.1 h with ⟨h1,h2⟩ | ⟨h1,h2⟩
  ·exact ⟨x,by unfold Az;rw [h1,Ay],h2⟩
  ·obtain ⟨b0,q1,q2⟩:=NM h2;exact ⟨b0,AB.2 (.inr ⟨h1,q1⟩),q2⟩
 | (k,none)::r,h=>by
  simp only [Sf] at h;obtain ⟨h1,h2⟩:=BV.1 h;obtain ⟨b0,q1,q2⟩:=NM h2;exact ⟨b0,BV.2 ⟨h1,q1⟩,q2⟩
theorem StRep.retell (hst:StRep I μ st ids w) (h:∀i b,Az st1 i b->∃b0,Az st i b0/\∀g,BlkRep I μ w g b0->BlkRep I μ w g b):StRep I μ st1 ids w/\Ext I μ st w I μ st1 w:=by
 refine ⟨{ imm:=hst.imm,blk:=λi b hl=>?_,apart:=λi b g k hl hg hk=>?_,inj:=λi j bi bj gi gj k hi hj=>?_,nodup:=hst.nodup,idsFree:=hst.idsFree },?_⟩
 ·obtain ⟨b0,h1,h2⟩:=h i b hl;obtain ⟨g,hg,hr⟩:=hst.blk i b0 h1;exact ⟨g,hg,h2 g hr⟩
 ·obtain ⟨b0,h1,_⟩:=h i b hl;exact hst.apart i b0 g k h1 hg hk
 ·obtain ⟨b0,h1,_⟩:=h i bi hi;obtain ⟨b1,h2,_⟩:=h j bj hj;exact hst.inj i j b0 b1 gi gj k h1 h2
 ·exact { imm:=Imm.le_refl I,os:=rfl,tape:=rfl,output:=rfl,size:=BL _,block:=λ_ _ _=>rfl,old:=λ_ _ _=>rfl
          fresh:=λb _ ⟨i,bi,g,h1,h2⟩=>let ⟨b0,q,_⟩:=h i bi h1;⟨i,b0,g,q,h2⟩ }
theorem R4 (id j:Nat) (val:α->List Value) (B:α->Asn) (hl:lk st id=some (some (.hp A))) (hA:∀vs I w bs,A.P vs I w bs->∃x,vs=val x/\(B x).P [] I w bs) (h:∀x,DGo P n F Q todo (fN id (val x) env) ((j,some (.hp (B x)))::(id,none)::Sf id (val x) st) ids'):DGo P n F Q todo env st (j::ids'):=by
 refine EJ λI μ a w hc=>?_;obtain ⟨g,hg,vs,bs,rfl,hP⟩:=hc.blk id _ hl;obtain ⟨x,rfl,h2⟩:=hA vs I w bs hP;obtain ⟨p1,p2⟩:=hc.toStRep.retell (st1:=Sf id (val x) st) (λi b hlb=>by
  obtain ⟨b0,q1,rfl⟩:=NM hlb;refine ⟨b0,q1,λgb hb=>?_⟩;cases b0 with
  | cells t sz cs =>
   obtain ⟨hs,b,us,e1,e2,e3,e4⟩:=hb;exact ⟨by rw [Ja,Dh,hs],b,us,e1,e2,⟨by rw [Ja,Dh,e3.1],λi v y hv hy=>by
    rw [Ja,Et] at hy;cases hc':cs[i]? with
    | none=>rw [hc'] at hy;cases hy
    | some z=>rw [hc'] at hy;cases hy;exact (e3.2 i v z hv hc').opn hg⟩,e4⟩
  | _=>exact hb)
 have hl':Az (Sf id (val x) st) id (.hp A):=by
  have:∀{st:St},Az st id (.hp A)->Az (Sf id (val x) st) id (.hp A):=by
   intro st
   induction st with
   | nil=>intro h;simp [Az,lk] at h
   | cons p r ih =>
    obtain ⟨k,y⟩:=p;intro h;cases y with
    | none=>obtain ⟨h1,h2⟩:=BV.1 h;exact BV.2 ⟨h1,ih h2⟩
    | some y =>
     rcases AB.1 h with ⟨h1,h2⟩ | ⟨h1,h2⟩
     ·exact AB.2 (.inl ⟨h1,by rw [<- h2];rfl⟩)
     ·exact AB.2 (.inr ⟨h1,ih h2⟩)
  exact this hl
 obtain ⟨q1,q2,q3⟩:=StRep.relay (R:=[id]) (new:=[(j,Xn [] bs,.hp (B x))]) (ids':=ids') p1
  (λp hp b hb=>by
   rw [AN.1 hp] at hb;exact ⟨id,_,_,by simp,hl',hg,C0.2 (C0.1 hb)⟩)
  (λp hp q hq b _ _=>by rw [AN.1 hp,AN.1 hq]) (Imm.le_refl I) hc.imm (λb o h=>.inl h)
  (λ_ p hp=>by rw [AN.1 hp];exact ⟨[],bs,rfl,h2⟩)
 refine ⟨I,_,fN id (val x) env,_,ids',q2,λt d hd=>?_,p2.trans q3,.of_le q1,h x⟩;obtain ⟨d0,h0,rfl⟩:=cJ hd;exact ((hc.env t d0 h0).opn hg).mono (Imm.le_refl I) q1
def clD (j:Nat) (vs:List Value) (d d':D):Prop:=d=d'\/∃k v,d = .raw v/\d' = .hv j k/\vs[k]?=some v
def clL (j:Nat) (vs:List Value):List D->List D->Prop
 | [],[]=>True
 | d::r,d'::r'=>clD j vs d d'/\clL j vs r r'
 | _,_=>False
theorem XQ {j:Nat} {vs:List Value}:∀{ds ds':List D},clL j vs ds ds'->ds.length=ds'.length/\∀(i:Nat) (d':D),ds'[i]?=some d'->∃d,ds[i]?=some d/\clD j vs d d'
 | [],[],_=>⟨rfl,λi d h=>by simp at h⟩
 | d::r,d'::r',h=>by
  obtain ⟨h1,h2⟩:=XQ h.2;refine ⟨by simp [h1],λi x hx=>?_⟩;cases i with
  | zero=>simp at hx;subst hx;exact ⟨d,rfl,h.1⟩
  | succ i=>exact h2 i x (by simpa using hx)
 | [],_::_,h=>h.elim
 | _::_,[],h=>h.elim
theorem Om (id k j:Nat) {B:Asn} (vs:List Value) {t:TypeId} (ds':List D) (hl:lk st id=some (some (.hp B))) (hk:lk st k=some (some (.cells t sz ds))) (hA:∀us I w bs,B.P us I w bs->A.P vs I w bs) (hcl:clL j vs ds ds') (h:DGo P n F Q todo env ((k,some (.cells t sz ds'))::(j,some (.hp A))::(id,none)::st) ids'):DGo P n F Q todo env st (j::ids'):=by
 refine EJ λI μ a w hc=>?_;obtain ⟨g,hg,us,bs,rfl,hP⟩:=hc.blk id _ hl;obtain ⟨gk,hgk,hs,b,xs,rfl,hheap,hrep,hone⟩:=hc.blk k _ hk;have hjk:j≠k:=λe=>by rw [<- e,hc.idsFree j (by simp)] at hgk;cases hgk
 have hik:id≠k:=λe=>by subst e;rw [hl] at hk;cases hk
 obtain ⟨q1,q2,q3⟩:=StRep.relay (R:=[id]) (new:=[(j,Xn vs bs,.hp A)]) (ids':=ids') hc.toStRep
  (λp hp b hb=>by
   rw [AN.1 hp] at hb;exact ⟨id,_,_,by simp,hl,hg,C0.2 (C0.1 hb)⟩)
  (λp hp q hq b _ _=>by rw [AN.1 hp,AN.1 hq]) (Imm.le_refl I) hc.imm (λb o h=>.inl h)
  (λ_ p hp=>by rw [AN.1 hp];exact ⟨vs,bs,rfl,hA us I w bs hP⟩)
 have hk2:Az ((j,some (.hp A))::(id,none)::st) k (.cells t sz ds):=AB.2 (.inr ⟨hjk.symm,BV.2 ⟨hik.symm,hk⟩⟩);have hmj:Ef [(j,Xn vs bs,.hp A)] μ j=some (Xn vs bs):=by simp [Ef,lk]
 obtain ⟨c1,c2⟩:=XQ hcl;obtain ⟨p1,p2⟩:=q2.retell (st1:=(k,some (.cells t sz ds'))::(j,some (.hp A))::(id,none)::st) (λi bb hlb=>by
  rcases AB.1 hlb with ⟨rfl,rfl⟩ | ⟨_,h2⟩
  ·refine ⟨_,hk2,λgb hb=>?_⟩;obtain ⟨hs,b,us,e1,e2,e3,e4⟩:=hb;refine ⟨by rw [<- c1,hs],b,us,e1,e2,⟨by rw [<- c1,e3.1],λi v y hv hy=>?_⟩,e4⟩;obtain ⟨d,y1,y2⟩:=c2 i y hy;have hr:=e3.2 i v d hv y1;rcases y2 with rfl | ⟨kk,u,rfl,rfl,hu⟩
   ·exact hr
   ·have:=hr.rawInv;subst this;exact .hv _ j kk vs bs hmj hu (e4 _ (AK hv))
  ·exact ⟨_,h2,λ_ h=>h⟩)
 exact ⟨I,_,env,_,ids',p1,λt d hd=>(hc.env t d hd).mono (Imm.le_refl I) q1,q3.trans p2,.of_le q1,h⟩
def Imm.plus (I:Imm) (bs:List Nat) (w:World):Imm:=λb=>if EX bs b=true then w.heap[b]? else I b
theorem Vt (id k:Nat) {t:TypeId} (xs:List V) (hl:lk st id=some (some (.hp A))) (hk:lk st k=some (some (.cells t sz ds))) (hA:∀vs I J w bs,A.P vs I w bs->I.le J->(∀b∈bs,J b=w.heap[b]?)->∀(cs:List Value),RepL J noMu cs ds->RepVL J cs xs) (hnm:I0 ds=[]) (h:DGo P n F Q todo env ((k,some (.immb t sz xs))::(id,none)::st) ids):DGo P n F Q todo env st ids:=by
 refine EJ λI μ a w hc=>?_;obtain ⟨g,hg,vs,bs,rfl,hP⟩:=hc.blk id _ hl;obtain ⟨gk,hgk,hs,b,us,rfl,hheap,hrep,hone⟩:=hc.blk k _ hk;have hik:id≠k:=λe=>by subst e;rw [hl] at hk;cases hk
 have hbs:∀b∈bs,I b=none/\b<w.heap.size:=λb hb=>hc.apart id _ _ b hl hg (C0.2 hb);have hle:I.le (I.plus bs w):=λb o h=>by
  have:EX bs b=false:=by
   cases hm:EX bs b with
   | false=>rfl
   | true=>rw [(hbs b (BR.1 hm)).1] at h;cases h
  simp [Imm.plus,this,h]
 have hJb:∀b∈bs,I.plus bs w b=w.heap[b]?:=λb hb=>by simp [Imm.plus,BR.2 hb]
 obtain ⟨q1,q2,q3⟩:=StRep.relay (R:=[id]) (new:=[]) (ids':=ids) (J:=I.plus bs w) hc.toStRep (λp hp=>by cases hp) (λp hp=>by cases hp) hle
  (λb o h=>by
   unfold Imm.plus at h
   split at h
   ·exact h
   ·exact hc.imm b o h)
  (λb o h=>by
   unfold Imm.plus at h
   split at h
   ·rename_i hm;exact .inr ⟨⟨id,_,_,by simp,hl,hg,C0.2 (BR.1 hm)⟩,λp hp=>by cases hp⟩
   ·exact .inl h)
  (λ_ p hp=>by cases hp)
 have hk2:Az ((id,none)::st) k (.cells t sz ds):=BV.2 ⟨hik.symm,hk⟩;obtain ⟨p1,p2⟩:=q2.retell (st1:=(k,some (.immb t sz xs))::(id,none)::st) (λi bb hlb=>by
  rcases AB.1 hlb with ⟨rfl,rfl⟩ | ⟨_,h2⟩
  ·refine ⟨_,hk2,λgb hb=>?_⟩;obtain ⟨hs',b',us',e1,e2,e3,e4⟩:=hb;have hmu:Ef ([]:List (Nat×Value×Blk)) μ=μ:=by funext i;simp [Ef,lk]
   rw [hmu] at e3;have e3':RepL (I.plus bs w) noMu us'.toList ds:=e3.sub λj hj=>by rw [hnm] at hj;cases hj
   have hx':=hA vs I (I.plus bs w) w bs hP hle hJb us'.toList e3';exact ⟨by rw [<- hx'.1,e3.1,hs'],b',us',e1,e2,hx',e4⟩
  ·exact ⟨_,h2,λ_ h=>h⟩)
 exact ⟨_,_,env,_,ids,p1,λt d hd=>(hc.env t d hd).mono hle q1,q3.trans p2,.of_le q1,h⟩
def uW (e:TypeId) (sz:Nat) (es:List (List V)) (v:Value):Asn where
 P:=λ_ I w bs=>(v = .slice none 0 0/\es=[]/\bs=[])\/∃b cap cur,v = .slice (some ⟨b,0,none⟩) es.length cap/\bs=[b]/\w.heap[b]?=some (.cells cur e (0,0))/\es.length<=cap/\cap<=maxLen /\
  cur.size=cap*sz/\RepVL I (cur.toList.take (es.length*sz)) es.flatten/\(∀c∈es,c.length=sz)/\(∀c∈es,∀x∈c,V.one x=true)/\0<sz
 mono:=λh hp=>by
  rcases hp with hp | ⟨b,cap,cur,h1,h2,h3,h4,h5,h6,h7,h8⟩
  ·exact .inl hp
  ·exact .inr ⟨b,cap,cur,h1,h2,h3,h4,h5,h6,h7.mono h,h8⟩
 loc:=λh hp=>by
  rcases hp with hp | ⟨b,cap,cur,h1,h2,h3,h4⟩
  ·exact .inl hp
  ·exact .inr ⟨b,cap,cur,h1,h2,(h b (by simp [h2])).trans h3,h4⟩
end Go.Hk
