/- Owned memory by address: elements, loads and stores through raw pointers. (And what it stands on.) -/
import Derived.Test.YtcdpbkolkeeopaaGreatRb
import Derived.Test.YtcdpbkolkeeopaaGreatProg
import Derived.WalkKit
import Derived.RowKit3
import Derived.Laws.NewBlocks
import Derived.Defers
import Derived.Recover
set_option linter.all false
set_option maxRecDepth 100000
set_option maxHeartbeats 4000000
namespace Go.Hk
open Go.Proofs.Tryz
open Go.MapKept
open Go.Proofs
variable {ob:List Prop} {n sz i t b j i0 j2 off:Nat} {F ids ids':List Nat} {Q:DQ} {env env' E:Env} {st st' st0 st1:St} {todo todo' k:List DI} {g:Option (Bool×Bool)} {d:D} {es:List (List V)} {e:TypeId} {P:Program} {c xs:List V} {tt:TT} {I:Imm} {μ:Mu} {w:World} {Pn:V->Prop} {a:Act} {cx:Prop} {v u z:Value} {α β:Type} {m:Int} {S S' S2:Bun} {t1 t2: TypeId} {s1 s2: Nat} {x1 y1 x2: List V} {das l:List D} {f:FuncId} {x:V} {σ:Sb} {r r':Option Sb} {o:Oper} {d0:Option Nat} {L ps:List Ty} {s:Str}
def mH:V->V->Bool
 | .str a,.str b=>a == b
 | .int _ a,.int _ b=>a == b
 | .bool a,.bool b=>a == b
 | _,_=>false
def GH:List (V×V)->V->Option V
 | [],_=>none
 | (k,d)::r,x=>if mH x k then some d else GH r x
def FF:List (V×V)->V->V->List (V×V)
 | [],x,d=>[(x,d)]
 | (k,e)::r,x,d=>if mH x k then (x,d)::r else (k,e)::FF r x d
def JA:Sh->Option TypeDesc
 | .str=>some .string
 | .int k=>some (.int k)
 | _=>none
def Hs:Sh->V->Bool
 | .str,.str _=>true
 | .int k,.int k' _=>decide (k'=k)
 | _,_=>false
theorem Ll {t:TypeId} {sh:Sh} {dd:TypeDesc} (h:JA sh=some dd) (hs:PL P t sh):P.underlying t=some dd:=by
 cases sh <;> simp only [JA,reduceCtorEq,Ce] at h <;> subst h <;> exact hs
theorem H4 {sh:Sh} {dd:TypeDesc} (h:JA sh=some dd) (hk:Hs sh x=true) (hv:RepV I v x):IsKey dd v:=by
 cases sh <;> simp only [JA,reduceCtorEq,Ce] at h <;> subst h <;> cases x <;> simp [Hs] at hk <;> cases hv <;> simp [IsKey,hk]
theorem xR {sh:Sh} {y:V} (hx:Hs sh x=true) (hy:Hs sh y=true) (hv:RepV I v x) (hu:RepV I u y):mH x y=true↔v=u:=by
 cases x with
 | str a =>
  cases y with
  | str b =>
   obtain ⟨s,rfl,rfl⟩:=hv.strInv;obtain ⟨t,rfl,rfl⟩:=hu.strInv;simp only [mH,beq_iff_eq,Value.string.injEq];constructor
   ·intro h;obtain ⟨⟨s⟩⟩:=s;obtain ⟨⟨t⟩⟩:=t;simp at h;rw [h]
   ·intro h;rw [h]
  | _=>cases sh <;> simp [Hs] at hx hy
 | int k i =>
  cases y with
  | int k' j =>
   obtain rfl:=hv.intInv;obtain rfl:=hu.intInv;cases sh <;> simp [Hs] at hx hy;subst hx;subst hy;simp [mH]
  | _=>cases sh <;> simp [Hs] at hx hy
 | _=>cases sh <;> simp [Hs] at hx
theorem K6 {sh:Sh} {dd:TypeDesc} {v:Value} {x:V} (hd:JA sh=some dd) (hk:Hs sh x=true) (hv:RepV I v x):∀(l:List MapEntry) (kv:List (V×V)) (i:Nat),l.length=kv.length ->
  (∀(j:Nat) (e:MapEntry) (p:V×V),l[j]?=some e->kv[j]?=some p->RepV I e.key p.1/\RepV I e.val p.2)->(∀p∈kv,Hs sh p.1=true) ->
  (Instr.findNow dd v l i=some none/\GH kv x=none/\(∀y,FF kv x y=kv++[(x,y)])/\∀e∈l,e.key≠v) \/
   ∃j e y,Instr.findNow dd v l i=some (some (i+j,e.val))/\l[j]?=some e/\e.key=v/\GH kv x=some y/\RepV I e.val y/\∀z,FF kv x z=kv.set j (x,z)
 | [],[],i,_,_,_=>.inl ⟨rfl,rfl,λ_=>rfl,λ_ h=>by cases h⟩
 | [],_::_,_,h,_,_=>by simp at h
 | _::_,[],_,h,_,_=>by simp at h
 | e::l,p::kv,i,hl,h,hkv=>by
  obtain ⟨h1,h2⟩:=h 0 e p rfl rfl;obtain ⟨y,dy⟩:=p;have hky:=hkv (y,dy) (by simp);obtain ⟨r,hr,hiff⟩:=sameNow_of_keys (H4 hd hk hv) (H4 hd hky h1);have he:=xR hk hky hv h1;cases r with
  | true =>
   have hvy:=hiff.1 rfl;have:=he.2 hvy;exact .inr ⟨0,e,dy,by simp [Instr.findNow,hr],rfl,hvy.symm,by simp [GH,this],h2,λz=>by simp [FF,this]⟩
  | false =>
   have hne:v≠e.key:=λq=>by have:=hiff.2 q;cases this
   have hf:mH x y=false:=by
    cases hq:mH x y with
    | false=>rfl
    | true=>exact absurd (he.1 hq) hne
   rcases K6 hd hk hv l kv (i+1) (by simpa using hl) (λj e' p' a b=>h (j+1) e' p' (by simpa using a) (by simpa using b)) (λp' hp=>hkv p' (by simp [hp])) with ⟨q1,q2,q3,q4⟩ | ⟨j,e',y',q1,q2,q3,q4,q5,q6⟩
   ·refine .inl ⟨by simp [Instr.findNow,hr,q1],by simp [GH,hf,q2],λz=>by simp [FF,hf,q3],λe' he'=>?_⟩;rcases Cy.1 he' with rfl | he'
    ·exact λq=>hne q.symm
    ·exact q4 e' he'
   ·exact .inr ⟨j+1,e',y',by simp [Instr.findNow,hr,q1];omega,by simpa using q2,q3,by simp [GH,hf,q4],q5,λz=>by simp [FF,hf,q6]⟩
def pmk (n:Nat) (ids:List Nat) (todo:List DI):Option (Nat×List Nat×Option Nat×List DI) :=
 match NU todo,ids with
 | some o,id'::ids'=>match o.guard,o.op with
  | none,.makeMap _ none=>match BM n o.dst,Bm todo ([],[id']) with
   | true,some (_,_,todo')=>some (id',ids',o.dst,todo')
   | _,_=>none
  | _,_=>none
 | _,_=>none
theorem EF {ids0:List Nat} {todo0:List DI} (h:pmk n ids todo=some (i0,ids0,d0,todo0)) (hk:G P n F Q todo0 (BK d0 (.mapr i0) env) ((i0,some (.map []))::st) ids0):G P n F Q todo env st ids:=by
 unfold pmk at h
 split at h
 ·rename_i o id' ids' ho
  split at h
  ·rename_i t hg hop
   split at h
   ·rename_i all o' todo' hd h1;cases h;have ho':o'=o:=Dk ho h1;subst ho';refine BF (fr:=[i0]) (wr:=[(i0,some (.map []))]) (rd:=[]) h1 ?_ hd (λc hc=>by rw [hop] at hc;cases hc) hk;intro I μ st1 ids1 a w hag hst hon;refine ⟨λ_=>?_,λhw=>by rw [AH hg] at hw;cases hw⟩;have hrun:(execOp a.eval o').run P w = .ok (.value (.map (some w.heap.size))) (w.alloc (.map #[] 0)):=by
     simp only [execOp,hop,Oc];refine Ec ?_;simp only [Instr.makeMap,Sem.run_bind,Result.andThen_ok,Sem.run_pure,run_newObj];rfl
    rw [hrun];obtain ⟨μ',q1,q2,q3,q4⟩:=hst.allocO (.map #[] 0) (.map (some w.heap.size)) (λ_ h=>Eq.symm h) (.map []) (λμ' _=>⟨w.heap.size,#[],0,rfl,EC w _,rfl,stamped_empty 0,λi e p h=>by simp at h⟩);exact ⟨I,μ',q3,.mapr _ _ q1,q2,q4⟩
   ·cases h
  ·cases h
 ·cases h
theorem eO {id:Nat} {kv:List (V×V)} (hst:StRep I μ st ids w) (hl:A1 st id (.map kv)) (hv:RepD I μ v (.mapr id)) :
  ∃b es clock,v = .map (some b)/\μ id=some v/\w.heap[b]?=some (.map es clock)/\es.size=kv.length/\Stamped es clock/\∀(i:Nat) (e:MapEntry) (p:V×V),es[i]?=some e->kv[i]?=some p->RepV I e.key p.1/\RepV I e.val p.2:=by
 cases hv with
 | mapr _ b hm =>
  obtain ⟨g,hg,b',es,clock,rfl,h1,h2,h3,h4⟩:=hst.blk id _ hl;rw [hm] at hg;cases hg;exact ⟨b,es,clock,rfl,hm,h1,h2,h3,h4⟩
def nN:Op->Option (TypeId×Operand×Operand×Operand)
 | .mapUpdate t m x y=>some (t,m,x,y)
 | .insert t m x y=>some (t,m,x,y)
 | _=>none
theorem Ts {op:Op} {t:TypeId} {m x y:Operand} (h:nN op=some (t,m,x,y)):(op = .mapUpdate t m x y\/op = .insert t m x y)/\∀z∈[m,x,y],z∈op.operands.toList:=by
 unfold nN at h
 split at h
 ·cases h;exact ⟨.inl rfl,by simp [Op.operands]⟩
 ·cases h;exact ⟨.inr rfl,by simp [Op.operands]⟩
 ·cases h
def zF (tt:TT) (env:Env) (st:St) (todo:List DI):Option (Nat×List (V×V)×Sh×V×V×List DI) :=
 match NU todo with
 | some o=>match o.guard,nN o.op with
  | none,some (t,m,x,y)=>match o.dst,lk tt t,Eg env m,Eg env x,Eg env y with
   | none,some { sh:=.map kt _,.. },some (.mapr id),some (.imm kx),some dy=>match lk tt kt,lk st id,Bm todo ([id],[id]),vI dy with
    | some i,some (some (.map kv)),some (_,_,todo'),some vy=>some (id,kv,i.sh,kx,vy,todo')
    | _,_,_,_=>none
   | _,_,_,_,_=>none
  | _,_=>none
 | none=>none
theorem F6 (htt:TTok P tt) {kv:List (V×V)} {sh:Sh} {kx:V} {dy:V} {todo0:List DI} {dd:TypeDesc} (h:zF tt env st todo=some (i0,kv,sh,kx,dy,todo0)) (hd:JA sh=some dd) (hk:Hs sh kx=true) (hkv:∀p∈kv,Hs sh p.1=true) (hg:G P n F Q todo0 env ((i0,some (.map (FF kv kx dy)))::st) ids):G P n F Q todo env st ids:=by
 unfold zF at h
 split at h
 ·rename_i o ho
  split at h
  ·rename_i t m x y hgd hop
   split at h
   ·rename_i kt et _ _ _ _ id kx' dy' hdst ht hm hx hy
    split at h
    ·rename_i i kv' all o' todo' vy hi hl h1 hng;cases h;have ho':o'=o:=Dk ho h1;subst ho';have hg:G P n F Q todo0 (BK o'.dst .undef env) ((i0,some (.map (FF kv kx dy)))::st) ids:=by rw [hdst];exact hg
     refine BF (fr:=[]) (wr:=[(i0,some (.map (FF kv kx dy)))]) (rd:=[i0]) h1 ?_ (by simp [BM,hdst]) (λc hc=>by rcases (Ts hop).1 with e | e <;> rw [e] at hc <;> cases hc) hg;intro I μ st1 ids1 a w hag hst hon;refine ⟨λ_=>?_,λhw=>by rw [AH hgd] at hw;cases hw⟩;have hops:=Bj hon;obtain ⟨hop2,hop3⟩:=Ts hop;have hl1:A1 st1 i0 (.map kv):=by unfold A1;rw [hag i0 (by simp)];exact hl
     obtain ⟨b,es,clock,e1,hmu,hheap,hlen,hst2,hent⟩:=eO hst hl1 (hops m (hop3 m (by simp)) _ hm);have rx:=(hops x (hop3 x (by simp)) _ hx).immInv;have ry:=PO hng (hops y (hop3 y (by simp)) _ hy);have hu:P.underlying t=some (.map kt et):=htt.sh ht;have hkd:P.underlying kt=some dd:=Ll hd (htt.sh hi);have hik:=H4 hd hk rx;have hbl:=Cc hheap;have fin:∀(es':Array MapEntry) (c':Nat),(Instr.mapUpdate t (.map (some b)) (a.eval x) (a.eval y)).run P w = .ok () { w with heap:=w.heap.setIfInBounds b (.map es' c') }->es'.size=(FF kv kx dy).length->Stamped es' c' ->
       (∀(i:Nat) (e:MapEntry) (p:V×V),es'[i]?=some e->(FF kv kx dy)[i]?=some p->RepV I e.key p.1/\RepV I e.val p.2) ->
       valX P ((execOp a.eval o').run P w) (λv w'=>∃I' μ',StRep I' μ' ([(i0,some (.map (FF kv kx dy)))]++st1) ids1 w'/\RepD I' μ' v .undef/\μ.le μ'/\Ext I μ st1 w I' μ' ([(i0,some (.map (FF kv kx dy)))]++st1) w') (Lx (Lw Q) I μ st1 w):=by
      intro es' c' hr h2 h3 h4;have hrun:(execOp a.eval o').run P w = .ok .skip { w with heap:=w.heap.setIfInBounds b (.map es' c') }:=by
       rcases hop2 with e | e <;> (simp only [execOp,e,e1];simp [hr])
      rw [hrun];obtain ⟨q1,q2⟩:=hst.update (blk':=.map (FF kv kx dy)) (w':={ w with heap:=w.heap.setIfInBounds b (.map es' c') }) hl1 hmu (by rw [e1];rfl) (by simp) rfl rfl rfl
       (λk hk=>Gj (Ne.symm hk)) ⟨b,es',c',e1,by simp [hbl],h2,h3,h4⟩
      exact ⟨I,μ,q1,.undef _,Mu.le_refl μ,q2⟩
     rcases K6 (I:=I) hd hk rx es.toList kv 0 (by simpa using hlen) (λj e p h1 h2=>hent j e p (by simpa using h1) h2) hkv with ⟨q1,_,q3,q4⟩ | ⟨j,e,y',q1,q2,q3,_,q5,q6⟩
     ·refine fin _ _ ?_ (by rw [q3];simp [hlen]) (stamped_push hst2 (key:=a.eval x) (val:=a.eval y) q4) λi e p h1 h2=>?_
      ·simp [Instr.mapUpdate,run_underlying hu,MapKept.run_getObj_map hheap,MapKept.run_checkKey hkd hik,MapKept.run_findKey hkd q1,MapKept.run_setObj_map _ hheap,Result.andThen]
      ·rw [q3] at h2;rw [Ra] at h1;rw [Mg] at h2;by_cases hi:i=es.size
       ·rw [if_pos hi] at h1;cases h1;rw [if_neg (by omega)] at h2;rw [show i-kv.length=0 by omega] at h2;cases h2;exact ⟨rx,ry⟩
       ·rw [if_neg hi] at h1;have:=(GY.1 h1).1;rw [if_pos (by omega)] at h2;exact hent i e p h1 h2
     ·have hj:es[j]?=some e:=by simpa using q2
      have hkey:∀e',es[j]?=some e'->({ e' with key:=a.eval x,val:=a.eval y }:MapEntry).key=e'.key:=λe' he'=>by rw [hj] at he';cases he';exact q3.symm
      refine fin (es.modify j λe=>{ e with key:=a.eval x,val:=a.eval y }) clock ?_ (by rw [q6];simp [hlen]) (stamped_modify hst2 _ _ (λ_ _=>rfl) (λe' _ he'=>hkey e' he')) λi e' p h1 h2=>?_
      ·simp [Instr.mapUpdate,run_underlying hu,MapKept.run_getObj_map hheap,MapKept.run_checkKey hkd hik,MapKept.run_findKey hkd q1,hj,q3,MapKept.run_keyThatStays hik,MapKept.run_setObj_map _ hheap,Result.andThen]
      ·rw [q6] at h2;rw [Vn] at h1;rw [Vl] at h2;by_cases hi:j=i
       ·subst hi;rw [if_pos rfl,hj] at h1;cases h1;rw [if_pos rfl] at h2
        split at h2
        ·cases h2;exact ⟨rx,ry⟩
        ·cases h2
       ·rw [if_neg hi] at h1 h2;exact hent i e' p h1 h2
    ·cases h
   ·cases h
  ·cases h
 ·cases h
structure PMl where
 kv:List (V×V)
 sh:Sh
 kx:V
 et:TypeId
 two:Bool
 g:Option (Bool×Bool)
 ob:List Prop
 t:Nat
 todo:List DI
def oU (tt:TT) (n:Nat) (env:Env) (st:St) (nm:Nat) (todo:List DI):Option PMl :=
 match Bm todo ([nm],[]) with
 | some (all,o,todo')=>match o.op,Cq all env o with
  | .lookup t m k two,some g=>match lk tt t,Mv (Am g) env m,Mv (Am g) env k with
   | some { sh:=.map kt et,.. },some (.mapr id,o1),some (.imm kx,o2)=>match Nat.beq id nm,lk tt kt,lk st id,BM n o.dst with
    | true,some i,some (some (.map kv)),true=>match o.dst with
     | some t=>some ⟨kv,i.sh,kx,et,two,g,Jh o1 o2,t,todo'⟩
     | none=>none
    | _,_,_,_=>none
   | _,_,_=>none
  | _,_=>none
 | none=>none
theorem ET {t:TypeId} (h:(P.info? t).bind (·.zero)=some z):(zeroValue t).run P w = .ok z w:=by
 cases hi:P.info? t with
 | none=>rw [hi] at h;cases h
 | some inf =>
  rw [hi] at h;have h:inf.zero=some z:=h;simp [zeroValue,typeInfo,hi,h]
def FR (two:Bool) (kv:List (V×V)) (x:V) (zd:V):D :=
 let r:=match GH kv x with
  | some y=>(y,true)
  | none=>(zd,false)
 if two then .imm (.tup [r.1,.bool r.2]) else .imm r.1
theorem CR (htt:TTok P tt) (nm:Nat) {kv:List (V×V)} {sh:Sh} {kx:V} {et:TypeId} {two:Bool} {t0:Nat} {todo0:List DI} {dd:TypeDesc} {zd:V} {dr:D} (h:oU tt n env st nm todo=some ⟨kv,sh,kx,et,two,g,ob,t0,todo0⟩) (hd:JA sh=some dd) (hk:Hs sh kx=true) (hkv:∀p∈kv,Hs sh p.1=true) (hob:A4 ob) (hz:(P.info? et).bind (·.zero)=some z) (hzr:∀I,RepV I z zd) (hdr:FR two kv kx zd=dr) (hg:G P n F Q todo0 ((t0,gD g dr)::env) st ids):G P n F Q todo env st ids:=by
 unfold oU at h
 split at h
 ·rename_i all o todo' h1
  split at h
  ·rename_i t m k two' g' hop hgd
   split at h
   ·rename_i kt et' _ _ _ _ id o1 kx' o2 ht hm hx
    split at h
    ·rename_i i kv' hid hi hl hdo
     split at h
     ·rename_i t' hdst;cases h;have hid:=CD hid;subst hid;subst hdr;have hg:G P n F Q todo0 (BK o.dst (gD g (FR two kv kx zd)) env) st ids:=by rw [hdst];exact hg
      refine BF (fr:=[]) (wr:=[]) (rd:=[id]) h1 (D3 hgd λI μ st1 ids1 a w hag hst hops hcx=>?_) hdo (λc hc=>by rw [hop] at hc;cases hc) hg;rw [hop] at hops;obtain ⟨ho1,ho2⟩:=B4 hob;have rm:=Eh hm ho1 hcx (hops m (by simp [Op.operands]));have rx:=(Eh hx ho2 hcx (hops k (by simp [Op.operands]))).immInv;have hl1:A1 st1 id (.map kv):=by unfold A1;rw [hag id (by simp)];exact hl
      obtain ⟨b,es,clock,e1,hmu,hheap,hlen,hst2,hent⟩:=eO hst hl1 rm;have hu:P.underlying t=some (.map kt et):=htt.sh ht;have hkd:P.underlying kt=some dd:=Ll hd (htt.sh hi);have hik:=H4 hd hk rx;have fin:∀(v:Value) (ok:Bool) (d:V),(Instr.lookup t (.map (some b)) (a.eval k) two).run P w = .ok (if two then .tuple #[v,.bool ok] else v) w->RepV I v d ->
        FR two kv kx zd=(if two then .imm (.tup [d,.bool ok]) else .imm d) ->
        valX P ((execOp a.eval o).run P w) (λu w'=>∃I' μ',StRep I' μ' st1 ids1 w'/\RepD I' μ' u (FR two kv kx zd)/\μ.le μ'/\Ext I μ st1 w I' μ' st1 w') (Lx (Lw Q) I μ st1 w):=by
       intro v ok d hr hv he;have hrun:(execOp a.eval o).run P w = .ok (.value (if two then .tuple #[v,.bool ok] else v)) w:=by
        simp only [execOp,hop,e1];exact A7 hr
       rw [hrun];refine ⟨I,μ,hst,?_,Mu.le_refl μ,Ext.refl _ _ _ _⟩;rw [he];cases two with
       | false=>exact .imm _ _ hv
       | true =>
        refine .imm _ _ (.tup _ _ rfl λi c x hc hx=>?_)
        match i,hc,hx with
        | 0,hc,hx=>cases hc;cases hx;exact hv
        | 1,hc,hx=>cases hc;cases hx;exact .bool _
        | i+2,hc,hx=>simp at hx
      rcases K6 (I:=I) hd hk rx es.toList kv 0 (by simpa using hlen) (λj e p h1 h2=>hent j e p (by simpa using h1) h2) hkv with ⟨q1,q2,_,_⟩ | ⟨j,e,y',q1,q2,q3,q4,q5,q6⟩
      ·refine fin z false zd ?_ (hzr I) (by simp [FR,q2]);simp [Instr.lookup,run_underlying hu,MapKept.run_getObj_map hheap,MapKept.run_checkKey hkd hik,MapKept.run_findKey hkd q1,ET hz,Result.andThen]
      ·refine fin e.val true y' ?_ q5 (by simp [FR,q4]);simp [Instr.lookup,run_underlying hu,MapKept.run_getObj_map hheap,MapKept.run_checkKey hkd hik,MapKept.run_findKey hkd q1,Result.andThen]
     ·cases h
    ·cases h
   ·cases h
  ·cases h
 ·cases h
def Hi:Ty:=.mk 0 0 [] []
def Mr (L:List Ty):Sb:=λn=>if 0<=n then (match L[n.toNat]? with
 | some t=>if Cg t=0 then none else some t
 | none=>none) else none
theorem dI {t:Ty} (h:L[i]?=some t):Mr L (i:Int)=if Cg t=0 then none else some t:=by
 simp only [Mr];rw [if_pos (by omega),ZG,h]
theorem Tu (L:List Ty):Mr (L++[Hi])=Mr L:=by
 funext n;simp only [Mr]
 split
 ·rcases Mc n.toNat L.length with h | h | h
  ·rw [Pb h]
  ·rw [h,Pa (BQ _),Mb,JK (BQ _)];simp [Hi,Cg]
  ·rw [JK (by simp;omega),JK (by omega)]
 ·rfl
theorem vP {n:Int} {t:Ty} (h:0<=n/\n<L.length) (ht:Cg t≠0):Mr (L.set n.toNat t)=Ea (Mr L) n t:=by
 funext m;simp only [Mr,Ea];by_cases e:m=n
 ·subst e;rw [if_pos h.1,if_pos rfl,Vl,if_pos rfl,if_pos (by omega)];simp only;rw [if_neg ht]
 ·rw [if_neg e]
  split
  ·rw [Vl,if_neg (by omega)]
  ·rfl
theorem nQ (k:Nat):Mr (List.replicate k Hi)=λ_=>none:=by
 funext n;simp only [Mr]
 split
 ·rw [qS]
  split
  ·rename_i h;simp at h;rw [<- h.2];simp [Hi,Cg]
  ·rfl
 ·rfl
def mI (p:Int×Ty):V×V:=(.int .i64 p.1,.agg (dTyc p.2))
def BG:List (Int×Ty)->Sb
 | []=>λ_=>none
 | p::r=>λn=>if p.1=n then some p.2 else BG r n
def Q5:List (Int×Ty)->Int->Ty->List (Int×Ty)
 | [],n,t=>[(n,t)]
 | p::r,n,t=>if p.1=n then (p.1,t)::r else p::Q5 r n t
theorem Jm (t:Ty) (n:Int):∀M:List (Int×Ty),BG (Q5 M n t)=Ea (BG M) n t
 | []=>by funext m;simp only [Q5,BG,Ea];by_cases e:n=m <;> simp [e,eq_comm]
 | p::r=>by
  funext m;simp only [Q5];by_cases e:p.1=n
  ·rw [if_pos e];simp only [BG,Ea];by_cases e2:m=n
   ·subst e2;rw [if_pos e,if_pos rfl]
   ·rw [if_neg e2,if_neg (by omega),if_neg (by omega)]
  ·rw [if_neg e];simp only [BG,Jm t n r,Ea];by_cases e2:m=n
   ·subst e2;rw [if_neg e,if_pos rfl,if_pos rfl]
   ·rw [if_neg e2,if_neg e2]
theorem Lg (n m:Int):mH (.int .i64 n) (.int .i64 m)=decide (m=n):=by
 simp only [mH];by_cases e:m=n
 ·subst e;simp
 ·rw [decide_eq_false e];simp;exact λh=>e h.symm
theorem H2 (n:Int):∀M:List (Int×Ty),GH (M.map mI) (.int .i64 n)=(BG M n).map λt=>.agg (dTyc t)
 | []=>rfl
 | p::r=>by
  have ih:=H2 n r;simp only [C6,mI,GH,Lg,BG];by_cases e:p.1=n
  ·rw [decide_eq_true e,if_pos e];rfl
  ·rw [decide_eq_false e,if_neg e];exact ih
theorem Kb (n:Int) (t:Ty):∀M:List (Int×Ty),FF (M.map mI) (.int .i64 n) (.agg (dTyc t))=(Q5 M n t).map mI
 | []=>rfl
 | p::r=>by
  have ih:=Kb n t r;simp only [C6,mI,FF,Lg,Q5];by_cases e:p.1=n
  ·rw [decide_eq_true e,if_pos e,C6,e];rfl
  ·rw [decide_eq_false e,if_neg e,C6,<- ih];rfl
theorem XX {E:Sb->Ty->Ty->Option Sb->Prop} (h:∀σ a b r r',E σ a b r->E σ a b r'->r=r'):∀{xs ys:List Ty} {σ:Sb} {r r':Option Sb},Sj E σ xs ys r->Sj E σ xs ys r'->r=r'
 | [],[],_,_,_,h1,h2=>Eq.trans h1 (Eq.symm h2)
 | a::xs,b::ys,σ,r,r',h1,h2=>by
  rcases h1 with ⟨e1,rfl⟩ | ⟨σ1,e1,f1⟩
  ·rcases h2 with ⟨_,rfl⟩ | ⟨σ2,e2,_⟩
   ·rfl
   ·have:=h _ _ _ _ _ e1 e2;cases this
  ·rcases h2 with ⟨e2,_⟩ | ⟨σ2,e2,f2⟩
   ·have:=h _ _ _ _ _ e1 e2;cases this
   ·have:=h _ _ _ _ _ e1 e2;cases this;exact XX h f1 f2
 | [],_::_,_,_,_,h1,_=>h1.elim
 | _::_,[],_,_,_,h1,_=>h1.elim
theorem lG {E:Sb->Ty->Ty->Option Sb->Prop} (h:∀σ a b r r',E σ a b r->E σ a b r'->r=r') {u v:Ty} (h1:D0 E σ u v r) (h2:D0 E σ u v r'):r=r':=by
 by_cases u9:Cg u=9
 ·by_cases v9:Cg v=9
  ·by_cases e:num u=num v
   ·have a:r=some σ:=by simpa [D0,u9,v9,e] using h1
    have b:r'=some σ:=by simpa [D0,u9,v9,e] using h2
    rw [a,b]
   ·have a:r=some (Ea σ (max (num u) (num v)) (Aw (min (num u) (num v)))):=by simpa [D0,u9,v9,e] using h1
    have b:r'=some (Ea σ (max (num u) (num v)) (Aw (min (num u) (num v)))):=by simpa [D0,u9,v9,e] using h2
    rw [a,b]
  ·by_cases o:uN σ (num u) v
   ·have a:r=none:=by simpa [D0,u9,v9,o] using h1
    have b:r'=none:=by simpa [D0,u9,v9,o] using h2
    rw [a,b]
   ·have a:r=some (Ea σ (num u) v):=by simpa [D0,u9,v9,o] using h1
    have b:r'=some (Ea σ (num u) v):=by simpa [D0,u9,v9,o] using h2
    rw [a,b]
 ·by_cases v9:Cg v=9
  ·by_cases o:uN σ (num v) u
   ·have a:r=none:=by simpa [D0,u9,v9,o] using h1
    have b:r'=none:=by simpa [D0,u9,v9,o] using h2
    rw [a,b]
   ·have a:r=some (Ea σ (num v) u):=by simpa [D0,u9,v9,o] using h1
    have b:r'=some (Ea σ (num v) u):=by simpa [D0,u9,v9,o] using h2
    rw [a,b]
  ·by_cases o:HE u v
   ·have a:Sj E σ (Ft u) (Ft v) r:=by simpa [D0,u9,v9,o] using h1
    have b:Sj E σ (Ft u) (Ft v) r':=by simpa [D0,u9,v9,o] using h2
    exact XX h a b
   ·have a:r=none:=by simpa [D0,u9,v9,o] using h1
    have b:r'=none:=by simpa [D0,u9,v9,o] using h2
    rw [a,b]
theorem Ya:∀(k:Nat) (σ:Sb) (a b:Ty) (r r':Option Sb),U7 k σ a b r->U7 k σ a b r'->r=r'
 | 0,_,_,_,_,_,h,_=>h.elim
 | k+1,σ,a,b,r,r',⟨u,v,h1,h2,h3⟩,⟨u',v',g1,g2,g3⟩=>by
  obtain rfl:=cY h1 g1;obtain rfl:=cY h2 g2;exact lG (Ya k) h3 g3
theorem xQ {k k':Nat} {a b:Ty} (h:U7 k σ a b r) (h':U7 k' σ a b r'):r=r' :=
 Ya (max k k') σ a b r r' (Nn (Nat.le_max_left _ _) h) (Nn (Nat.le_max_right _ _) h')
theorem RC {H:Nat} {k:Nat} {θ:Int->Ty} {a b:Ty} (h:U7 k σ a b r) (hs:Sol σ θ) (hd:Dom H σ) (ha:Ck a=true) (hb:Ck b=true) (ia:inB H a) (ib:inB H b):yL H σ a b r:=by
 obtain ⟨k',r',h1,h2⟩:=fO H (Tb H σ) (EK (A8 θ a)) σ θ a b hs hd (BQ _) (λ_=>BQ _) ha hb ia ib;rw [xQ h h1];exact h2
mutual
def Ci:Ty->Int->Int
 | .mk _ _ _ ps,l=>if l<1 then -1 else Cl ps (l-1)
def Cl:List Ty->Int->Int
 | [],l=>l
 | t::r,l=>if 0<=l then Cl r (Ci t l) else l
end
mutual
theorem Ji:∀(t:Ty) (l:Int),-1<=Ci t l/\(-1<=l->Ci t l<=l)
 | .mk _ _ _ ps,l=>by
  simp only [Ci];by_cases h:l<1
  ·rw [if_pos h];omega
  ·rw [if_neg h];have:=JU ps (l-1) (by omega);omega
theorem JU:∀(ts:List Ty) (l:Int),-1<=l -> -1<=Cl ts l/\Cl ts l<=l
 | [],l,h=>by simp [Cl,h]
 | t::r,l,h=>by
  simp only [Cl];by_cases h0:0<=l
  ·rw [if_pos h0];have h1:=Ji t l;have h2:=JU r (Ci t l) h1.1;omega
  ·rw [if_neg h0];omega
end
theorem JC:∀(t:Ty) (l:Int),-9223372036854775808<=l->l<=9223372036854775807->Tq3 46 [.agg (dTyc t),.int .i64 l] (.int .i64 (Ci t l))
 | .mk s n x ps,l,hl0,hl1=>by
  refine B3 λhv=>?_;simp [CV,F0,dTyc,maxLen] at hv;refine Ad Be func46 rfl [1,2,3]<|AQ rfl<|Ab rfl (λh=>?_) (λh=>?_)
  ·refine Bb rfl<|Aa rfl rfl (congrArg _ ?_);simp at h;simp [Ci,h]
  simp at h;refine Bb rfl<|Ak (λx:Nat×Int=>[(5,.imm (.int .i64 x.1)),(1,.imm (.int .i64 x.2)),(2,.ref 1 0)]) (λ_=>[(1,some (.immb 25 4 (dTyc (.mk s n x ps))))]) [2,3] (λx=>ps.length-x.1)
   (λy=>y.1<=ps.length/\Ci (.mk s n x ps) l=Cl (ps.drop y.1) y.2 /\ -1<=y.2/\y.2<l) (0,l-1)
   ⟨AJ _,by simp [Ci];omega,by simp only;omega,by simp only;omega⟩ ⟨rfl,AU,A9⟩ A9 rfl λy hi ih=>?_
  obtain ⟨i,m⟩:=y;obtain ⟨hi1,hi2,hi3,hi4⟩:=hi;simp only at hi1 hi2 hi3 hi4;refine Bb rfl<|Ab rfl (λh=>?_) (λh=>?_)
  ·simp at h;obtain ⟨t,ht⟩:=Ao (l:=ps) (i:=i) (by omega);rw [Av ht] at hi2;refine Bb rfl<|SA rfl (AE ht)<|AQ rfl<|Aj rfl (λ_=>JC t m (by omega) (by omega)) (by simp)<|AQ rfl ?_;have hb:=Ji t m;refine Ac (ih (i+1,Ci t m) (by simp only;omega) ⟨by simp only;omega,by simp only;rw [hi2];simp [Cl];omega,by simp only;omega,by simp only;omega⟩) ⟨AU,AK⟩ A9 rfl
  ·refine Bb rfl<|Aa rfl rfl (congrArg _ ?_);rw [hi2];simp at h;by_cases hlt:i<ps.length
   ·obtain ⟨t,ht⟩:=Ao hlt;rw [Av ht];simp [Cl];omega
   ·rw [Bo (by omega)];simp [Cl]
termination_by t=>SizeOf.sizeOf t
decreasing_by
 have:=Cj (AF ht);simp_wf;omega
theorem KL:∀(t:Ty) (l:Int),-9223372036854775808<=l->l<=9223372036854775807->Tq3 179 [.agg (dTyc t),.int .i64 l] (.int .i64 (Ci t l))
 | .mk s n x ps,l,hl0,hl1=>by
  refine B3 λhv=>?_;simp [CV,F0,dTyc,maxLen] at hv;refine Ad Be func179 rfl [1,2,3]<|AQ rfl<|Ab rfl (λh=>?_) (λh=>?_)
  ·refine Bb rfl<|Aa rfl rfl (congrArg _ ?_);simp at h;simp [Ci,h]
  simp at h;refine Bb rfl<|Ak (λx:Nat×Int=>[(5,.imm (.int .i64 x.1)),(1,.imm (.int .i64 x.2)),(2,.ref 1 0)]) (λ_=>[(1,some (.immb 182 4 (dTyc (.mk s n x ps))))]) [2,3] (λx=>ps.length-x.1)
   (λy=>y.1<=ps.length/\Ci (.mk s n x ps) l=Cl (ps.drop y.1) y.2 /\ -1<=y.2/\y.2<l) (0,l-1)
   ⟨AJ _,by simp [Ci];omega,by simp only;omega,by simp only;omega⟩ ⟨rfl,AU,A9⟩ A9 rfl λy hi ih=>?_
  obtain ⟨i,m⟩:=y;obtain ⟨hi1,hi2,hi3,hi4⟩:=hi;simp only at hi1 hi2 hi3 hi4;refine Bb rfl<|Ab rfl (λh=>?_) (λh=>?_)
  ·simp at h;obtain ⟨t,ht⟩:=Ao (l:=ps) (i:=i) (by omega);rw [Av ht] at hi2;refine Bb rfl<|SA rfl (AE ht)<|AQ rfl<|Aj rfl (λ_=>KL t m (by omega) (by omega)) (by simp)<|AQ rfl ?_;have hb:=Ji t m;refine Ac (ih (i+1,Ci t m) (by simp only;omega) ⟨by simp only;omega,by simp only;rw [hi2];simp [Cl];omega,by simp only;omega,by simp only;omega⟩) ⟨AU,AK⟩ A9 rfl
  ·refine Bb rfl<|Aa rfl rfl (congrArg _ ?_);rw [hi2];simp at h;by_cases hlt:i<ps.length
   ·obtain ⟨t,ht⟩:=Ao hlt;rw [Av ht];simp [Cl];omega
   ·rw [Bo (by omega)];simp [Cl]
termination_by t=>SizeOf.sizeOf t
decreasing_by
 have:=Cj (AF ht);simp_wf;omega
def Ct (holes:Bool) (s n:Int) (x:Str) (k:Nat):Bool :=
 if s=1\/s=2\/s=3 then ((k:Int) == 0)&&n == 0&&x == []
 else if s=4 then ((k:Int) == 2)&&n == 0&&x == []
 else if s=5\/s=6\/s=7 then ((k:Int) == 1)&&n == 0&&x == []
 else if s=8 then ((k:Int) == 0)&&n == 0&&EN x
 else if s=9 then holes&&((k:Int) == 0)&&x == []&&Dz n 0 99
 else false
mutual
def BL (holes:Bool):Ty->Bool
 | .mk s n x ps=>Ct holes s n x ps.length&&B9 holes ps
def B9 (holes:Bool):List Ty->Bool
 | []=>true
 | t::r=>BL holes t&&B9 holes r
end
theorem Wp (holes:Bool):∀(t:Ty),Tq3 61 [.agg (dTyc t),.bool holes] (.bool (BL holes t))
 | .mk s n x ps=>by
  refine B3 λhv=>?_;simp [CV,F0,dTyc,maxLen] at hv;refine Ad Be func61 rfl [1,2,3] ?_;have J:∀is:Bool,is=Ct holes s n x ps.length->Tq2 Tryz.f61.ntmps (D8 []) (JD YC Tryz.f61.results.toList (.ret (.imm (.bool (BL holes (.mk s n x ps)))) []))
    [.code (FK Tryz.f61 4)] [(6,.imm (.bool is)),(5,.imm (.int .i64 ps.length)),(1,.imm (.bool holes)),(2,.ref 1 0)] [(1,some (.immb 25 4 (dTyc (.mk s n x ps))))] [2,3]:=by
   intro is his;refine Bb rfl<|Ak (λy:Nat×Bool=>[(7,.imm (.int .i64 y.1)),(6,.imm (.bool y.2)),(5,.imm (.int .i64 ps.length)),(1,.imm (.bool holes)),(2,.ref 1 0)]) (λ_=>[(1,some (.immb 25 4 (dTyc (.mk s n x ps))))]) [2,3] (λy=>ps.length-y.1)
    (λy=>y.1<=ps.length/\BL holes (.mk s n x ps)=(y.2&&B9 holes (ps.drop y.1))) (0,is) ⟨AJ _,by simp [BL,his]⟩ B6 A9 rfl λy hi ih=>?_
   obtain ⟨i,b⟩:=y;obtain ⟨hi1,hi2⟩:=hi;simp only at hi1 hi2;refine Bb rfl<|Ab rfl (λh=>?_) (λh=>?_)
   ·simp at h;obtain ⟨t,ht⟩:=Ao (l:=ps) (i:=i) (by omega);rw [Av ht] at hi2;refine Bb rfl<|SA rfl (AE ht)<|AQ rfl<|Aj rfl (λ_=>Wp holes t) (by simp)<|AQ rfl<|Ac (ih (i+1,BL holes t) (by simp only;omega) ⟨by simp only;omega,by simp only;rw [hi2,h.2];simp [B9]⟩) ⟨AU,Cb⟩ A9 rfl
   ·refine Bb rfl<|Aa rfl rfl (congrArg _ ?_);rw [hi2];simp at h;by_cases hlt:i<ps.length
    ·rw [h hlt];rfl
    ·rw [Bo (by omega)];simp [B9]
  by_cases h1:s=1
  ·subst h1;exact kg [.a,.a,.s] rfl (by simp)<|Ac (J _ (by simp [Ct])) ⟨rfl,BB (by simp),AK⟩ A9 rfl
  by_cases h2:s=2
  ·subst h2;exact kg [.a,.a,.a,.s] rfl (by simp)<|Ac (J _ (by simp [Ct])) ⟨rfl,BB (by simp),AK⟩ A9 rfl
  by_cases h3:s=3
  ·subst h3;exact kg [.a,.a,.a,.s] rfl (by simp)<|Ac (J _ (by simp [Ct])) ⟨rfl,BB (by simp),AK⟩ A9 rfl
  by_cases h4:s=4
  ·subst h4;exact kg (CU 4 [.s]) rfl (by simp)<|Ac (J _ (by simp [Ct])) ⟨rfl,BB (by simp),AK⟩ A9 rfl
  by_cases h5:s=5
  ·subst h5;exact kg (CU 6 [.s]) rfl (by simp)<|Ac (J _ (by simp [Ct])) ⟨rfl,BB (by simp),AK⟩ A9 rfl
  by_cases h6:s=6
  ·subst h6;exact kg (CU 7 [.s]) rfl (by simp)<|Ac (J _ (by simp [Ct])) ⟨rfl,BB (by simp),AK⟩ A9 rfl
  by_cases h7:s=7
  ·subst h7;exact kg (CU 7 [.s]) rfl (by simp)<|Ac (J _ (by simp [Ct])) ⟨rfl,BB (by simp),AK⟩ A9 rfl
  by_cases h8:s=8
  ·subst h8;exact kg (CU 7 [.a]) rfl (by simp)<|Aj rfl (λ_=>KO x) (by simp [Am])<|kg [.s] rfl (by simp)<|Ac (J _ (by simp [Ct])) ⟨rfl,BB (by simp),AK⟩ A9 rfl
  by_cases h9:s=9
  ·subst h9;exact kg (CU 8 [.a]) rfl (by simp)<|Aj rfl (λ_=>Nh n 0 99) (by simp [Am])<|kg [.s] rfl (by simp)<|Ac (J _ (by simp [Ct])) ⟨rfl,BB (by simp),AK⟩ A9 rfl
  exact kg [.f,.f,.f,.f,.f,.f,.f,.f,.f,.s] rfl (by simp [h1,h2,h3,h4,h5,h6,h7,h8,h9])<|Ac (J _ (by simp [Ct,h1,h2,h3,h4,h5,h6,h7,h8,h9])) ⟨rfl,BB (by simp),AK⟩ A9 rfl
termination_by t=>SizeOf.sizeOf t
decreasing_by
 have:=Cj (AF ht);simp_wf;omega
mutual
def Ih:Ty->Bool
 | .mk _ _ x ps=>Ej ps&&decide (x.length<=30)
def Ej:List Ty->Bool
 | []=>true
 | t::r=>Ih t&&Ej r
end
theorem M3:∀(t:Ty),Tq3 47 [.agg (dTyc t)] (.bool (Ih t))
 | .mk s n x ps=>by
  refine B3 λhv=>?_;simp [CV,F0,dTyc,maxLen] at hv;refine Ad Be func47 rfl [1,2,3]<|AQ rfl<|Ak (λi:Nat=>[(3,.imm (.int .i64 i)),(1,.ref 1 0)]) (λ_=>[(1,some (.immb 25 4 (dTyc (.mk s n x ps))))]) [2,3] (λi=>ps.length-i)
   (λi=>i<=ps.length/\Ej ps=Ej (ps.drop i)) 0 ⟨AJ _,rfl⟩ AK A9 rfl λi hi ih=>?_
  refine Bb rfl<|Ab rfl (λh=>?_) (λh=>?_)
  ·simp at h;obtain ⟨t,ht⟩:=Ao h;have e:=hi.2;rw [Av ht] at e;refine Bb rfl<|SA rfl (AE ht)<|AQ rfl<|Aj rfl (λ_=>M3 t) (by simp)<|AQ rfl<|Ab rfl (λh=>?_) (λh=>?_)
   ·refine Bb rfl<|Aa rfl rfl (congrArg _ ?_);simp at h;simp [Ih,e,Ej,h]
   ·refine Bb rfl ?_;simp at h;exact Ac (ih (i+1) (by omega) ⟨by omega,by rw [e];simp [Ej,h]⟩) ⟨AU,A9⟩ A9 rfl
  ·refine Bb rfl<|Aa rfl rfl (congrArg _ ?_);simp at h;simp only [Ih];rw [hi.2,Bo (by omega)];simp [Ej]
   norm_cast
termination_by t=>SizeOf.sizeOf t
decreasing_by
 have:=Cj (AF ht);simp_wf;omega
theorem OG:∀(t:Ty),Tq3 180 [.agg (dTyc t)] (.bool (Ih t))
 | .mk s n x ps=>by
  refine B3 λhv=>?_;simp [CV,F0,dTyc,maxLen] at hv;refine Ad Be func180 rfl [1,2,3]<|AQ rfl<|Ak (λi:Nat=>[(3,.imm (.int .i64 i)),(1,.ref 1 0)]) (λ_=>[(1,some (.immb 182 4 (dTyc (.mk s n x ps))))]) [2,3] (λi=>ps.length-i)
   (λi=>i<=ps.length/\Ej ps=Ej (ps.drop i)) 0 ⟨AJ _,rfl⟩ AK A9 rfl λi hi ih=>?_
  refine Bb rfl<|Ab rfl (λh=>?_) (λh=>?_)
  ·simp at h;obtain ⟨t,ht⟩:=Ao h;have e:=hi.2;rw [Av ht] at e;refine Bb rfl<|SA rfl (AE ht)<|AQ rfl<|Aj rfl (λ_=>OG t) (by simp)<|AQ rfl<|Ab rfl (λh=>?_) (λh=>?_)
   ·refine Bb rfl<|Aa rfl rfl (congrArg _ ?_);simp at h;simp [Ih,e,Ej,h]
   ·refine Bb rfl ?_;simp at h;exact Ac (ih (i+1) (by omega) ⟨by omega,by rw [e];simp [Ej,h]⟩) ⟨AU,A9⟩ A9 rfl
  ·refine Bb rfl<|Aa rfl rfl (congrArg _ ?_);simp at h;simp only [Ih];rw [hi.2,Bo (by omega)];simp [Ej]
   norm_cast
termination_by t=>SizeOf.sizeOf t
decreasing_by
 have:=Cj (AF ht);simp_wf;omega
def cW (t:Ty):Bool:=decide (0<=Ci t 12)&&BL true t
def Cw (t:Ty):Bool:=decide (0<=Ci t 12)&&BL false t
theorem KK (t:Ty):Tq3 20 [.agg (dTyc t)] (.bool (Cw t)):=by
 refine Ad Be func20 rfl [1,2,3]<|AQ rfl<|Aj rfl (λ_=>JC t 12 (by decide) (by decide)) (by simp)<|AQ rfl<|Aj rfl (λ_=>Wp false t) (by simp [Am])<|AQ rfl<|Aa rfl rfl (congrArg _ ?_);simp [Cw]
def BJ (t:Ty):Bool:=decide (0<=Ci t 16)&&Ih t
theorem Gc (t:Ty):Tq3 11 [.agg (dTyc t)] (.bool (BJ t)):=by
 refine Ad Be func11 rfl [1,2,3]<|AQ rfl<|Aj rfl (λ_=>JC t 16 (by decide) (by decide)) (by simp)<|AQ rfl<|Aj rfl (λ_=>M3 t) (by simp [Am])<|AQ rfl<|Aa rfl rfl (congrArg _ ?_);simp [BJ]
theorem Y7 (t:Ty):Tq3 126 [.agg (dTyc t)] (.bool (BJ t)):=by
 refine Ad Be func126 rfl [1,2,3]<|AQ rfl<|Aj rfl (λ_=>KL t 16 (by decide) (by decide)) (by simp)<|AQ rfl<|Aj rfl (λ_=>OG t) (by simp [Am])<|AQ rfl<|Aa rfl rfl (congrArg _ ?_);simp [BJ]
def Fo (s n:Int) (x:Str) (k:Nat):Bool :=
 if s=1\/s=5 then ((k:Int) == 0)&&n == 0&&x == []
 else if s=2 then ((k:Int) == 0)&&n == 0&&DH x
 else if s=3 then ((k:Int) == 0)&&x == []&&Dz n (-1000000000) 1000000000
 else if s=4 then ((k:Int) == 0)&&x == []&&Dz n 0 1
 else if s=6 then decide ((k:Int)<=3)&&n == 0&&EN x
 else false
mutual
def CZ:Ty->Bool
 | .mk s n x ps=>Fo s n x ps.length&&CQ ps
def CQ:List Ty->Bool
 | []=>true
 | t::r=>CZ t&&CQ r
end
theorem dV:∀(t:Ty),Tq3 217 [.agg (dTyc t)] (.bool (CZ t))
 | .mk s n x ps=>by
  refine B3 λhv=>?_;simp [CV,F0,dTyc,maxLen] at hv;refine Ad Be func217 rfl [1,2,3] ?_;have J:∀is:Bool,is=Fo s n x ps.length->Tq2 Tryz.f217.ntmps (D8 []) (JD YC Tryz.f217.results.toList (.ret (.imm (.bool (CZ (.mk s n x ps)))) []))
    [.code (FK Tryz.f217 4)] [(4,.imm (.bool is)),(3,.imm (.int .i64 ps.length)),(1,.ref 1 0)] [(1,some (.immb 182 4 (dTyc (.mk s n x ps))))] [2,3]:=by
   intro is his;refine Bb rfl<|Ak (λy:Nat×Bool=>[(5,.imm (.int .i64 y.1)),(4,.imm (.bool y.2)),(3,.imm (.int .i64 ps.length)),(1,.ref 1 0)]) (λ_=>[(1,some (.immb 182 4 (dTyc (.mk s n x ps))))]) [2,3] (λy=>ps.length-y.1)
    (λy=>y.1<=ps.length/\CZ (.mk s n x ps)=(y.2&&CQ (ps.drop y.1))) (0,is) ⟨AJ _,by simp [CZ,his]⟩ Cb A9 rfl λy hi ih=>?_
   obtain ⟨i,b⟩:=y;obtain ⟨hi1,hi2⟩:=hi;simp only at hi1 hi2;refine Bb rfl<|Ab rfl (λh=>?_) (λh=>?_)
   ·simp at h;obtain ⟨t,ht⟩:=Ao (l:=ps) (i:=i) (by omega);rw [Av ht] at hi2;exact Bb rfl<|SA rfl (AE ht)<|AQ rfl<|Aj rfl (λ_=>dV t) (by simp)<|AQ rfl<|Ac (ih (i+1,CZ t) (by simp only;omega) ⟨by simp only;omega,by simp only;rw [hi2,h.2];simp [CQ]⟩) ⟨AU,AC⟩ A9 rfl
   ·refine Bb rfl<|Aa rfl rfl (congrArg _ ?_);rw [hi2];simp at h;by_cases hlt:i<ps.length
    ·rw [h hlt];rfl
    ·rw [Bo (by omega)];simp [CQ]
  by_cases h1:s=1
  ·subst h1;exact kg [.a,.a,.s] rfl (by simp)<|Ac (J _ (by simp [Fo])) ⟨rfl,BB (by simp),A9⟩ A9 rfl
  by_cases h2:s=2
  ·subst h2;exact kg [.a,.a,.a] rfl (by simp)<|Aj rfl (λ_=>Hw x) (by simp [Am])<|kg [.s] rfl (by simp)<|Ac (J _ (by simp [Fo])) ⟨rfl,BB (by simp),A9⟩ A9 rfl
  by_cases h3:s=3
  ·subst h3;exact kg [.a,.a,.a,.a] rfl (by simp)<|Aj rfl (λ_=>Nh n (-1000000000) 1000000000) (by simp [Am])<|kg [.s] rfl (by simp)<|Ac (J _ (by simp [Fo])) ⟨rfl,BB (by simp),A9⟩ A9 rfl
  by_cases h4:s=4
  ·subst h4;exact kg (CU 4 [.a]) rfl (by simp)<|Aj rfl (λ_=>Nh n 0 1) (by simp [Am])<|kg [.s] rfl (by simp)<|Ac (J _ (by simp [Fo])) ⟨rfl,BB (by simp),A9⟩ A9 rfl
  by_cases h5:s=5
  ·subst h5;exact kg [.a,.a,.s] rfl (by simp)<|Ac (J _ (by simp [Fo])) ⟨rfl,BB (by simp),A9⟩ A9 rfl
  by_cases h6:s=6
  ·subst h6;exact kg (CU 5 [.a]) rfl (by simp)<|Aj rfl (λ_=>KO x) (by simp [Am])<|kg [.s] rfl (by simp)<|Ac (J _ (by simp [Fo])) ⟨rfl,BB (by simp),A9⟩ A9 rfl
  exact kg [.f,.f,.f,.f,.f,.f,.s] rfl (by simp [h1,h2,h3,h4,h5,h6])<|Ac (J _ (by simp [Fo,h1,h2,h3,h4,h5,h6])) ⟨rfl,BB (by simp),A9⟩ A9 rfl
termination_by t=>SizeOf.sizeOf t
decreasing_by
 have:=Cj (AF ht);simp_wf;omega
mutual
def AY:Tm->Int->Int->Int
 | .mk _ _ _ ks _,l,d=>if l<1\/d<1 then -1 else Bs ks (l-1) (d-1)
def Bs:List Tm->Int->Int->Int
 | [],l,_=>l
 | t::r,l,d=>if 0<=l then Bs r (AY t l d) d else l
end
mutual
theorem Gn:∀(t:Tm) (l d:Int),-1<=AY t l d/\(-1<=l->AY t l d<=l)
 | .mk _ _ _ ks _,l,d=>by
  simp only [AY];by_cases h:l<1\/d<1
  ·rw [if_pos h];omega
  ·rw [if_neg h];have:=If ks (l-1) (d-1) (by omega);omega
theorem If:∀(ts:List Tm) (l d:Int),-1<=l -> -1<=Bs ts l d/\Bs ts l d<=l
 | [],l,d,h=>by simp [Bs,h]
 | t::r,l,d,h=>by
  simp only [Bs];by_cases h0:0<=l
  ·rw [if_pos h0];have h1:=Gn t l d;have h2:=If r (AY t l d) d h1.1;omega
  ·rw [if_neg h0];omega
end
theorem Sd:∀(t:Tm) (l d:Int),-9223372036854775808<=l->l<=9223372036854775807 -> -9223372036854775807<=d->d<=9223372036854775807->Tq3 68 [.agg (dTmc t),.int .i64 l,.int .i64 d] (.int .i64 (AY t l d))
 | .mk op n x ks ps,l,d,hl0,hl1,hd0,hd1=>by
  refine B3 λhv=>?_;simp [CV,F0,dTmc,maxLen] at hv;refine Ad Be func68 rfl [1,2,3]<|AQ rfl<|Ab rfl (λh=>?_) (λh=>?_)
  ·refine Bb rfl<|Aa rfl rfl (congrArg _ ?_);simp at h;simp only [AY];rw [if_pos (by omega)]
  simp at h;refine Bb rfl<|Ak (λx:Nat×Int=>[(7,.imm (.int .i64 x.1)),(1,.imm (.int .i64 x.2)),(2,.imm (.int .i64 d)),(3,.ref 1 0)]) (λ_=>[(1,some (.immb 49 5 (dTmc (.mk op n x ks ps))))]) [2,3] (λx=>ks.length-x.1)
   (λy=>y.1<=ks.length/\AY (.mk op n x ks ps) l d=Bs (ks.drop y.1) y.2 (d-1) /\ -1<=y.2/\y.2<l) (0,l-1)
   ⟨AJ _,by simp only [AY,Xg];rw [if_neg (by omega)],by simp only;omega,by simp only;omega⟩ ⟨rfl,AU,AK⟩ A9 rfl λy hi ih=>?_
  obtain ⟨i,m⟩:=y;obtain ⟨hi1,hi2,hi3,hi4⟩:=hi;simp only at hi1 hi2 hi3 hi4;refine Bb rfl<|Ab rfl (λh=>?_) (λh=>?_)
  ·simp at h;obtain ⟨t,ht⟩:=Ao (l:=ks) (i:=i) (by omega);rw [Av ht] at hi2;refine Bb rfl<|SA rfl (Eu ht)<|AQ rfl ?_;have hw:IntKind.i64.wrap (d-1)=d-1:=GR (by omega) (by omega);refine Aj rfl (v:=.int .i64 (AY t m (d-1))) (λ_=>by rw [hw];exact Sd t m (d-1) (by omega) (by omega) (by omega) (by omega)) (by simp)<|AQ rfl ?_;have hb:=Gn t m (d-1);exact Ac (ih (i+1,AY t m (d-1)) (by simp only;omega) ⟨by simp only;omega,by simp only;rw [hi2];simp only [Bs];rw [if_pos h.2],by simp only;omega,by simp only;omega⟩) ⟨AU,AC⟩ A9 rfl
  ·refine Bb rfl<|Aa rfl rfl (congrArg _ ?_);rw [hi2];simp at h;by_cases hlt:i<ks.length
   ·obtain ⟨t,ht⟩:=Ao hlt;rw [Av ht];simp only [Bs];rw [if_neg (by omega)]
   ·rw [Bo (by omega)];simp [Bs]
termination_by t=>SizeOf.sizeOf t
decreasing_by
 have:=Cj (AF ht);simp_wf;omega
mutual
def FM:Tm->Bool
 | .mk _ _ x ks ps=>decide (x.length<=30)&&decide (ps.length<=8)&&ps.all BJ&&Ek ks
def Ek:List Tm->Bool
 | []=>true
 | t::r=>FM t&&Ek r
end
def Bk (n:Int) (x:Str) (p:Nat) (fn ft fp:Bool):Bool:=(fn||n == 0)&&(ft||x == [])&&(fp||((p:Int) == 0))
theorem M4:∀(t:Tm),Tq3 69 [.agg (dTmc t)] (.bool (FM t))
 | .mk op n x ks ps=>by
  refine B3 λhv=>?_;simp [CV,F0,dTmc,maxLen] at hv;refine Ad Be func69 rfl [1,2,3]<|AQ rfl<|Ab rfl (λh=>?_) (λh=>?_)
  ·refine Bb rfl<|Aa rfl rfl (congrArg _ ?_);simp at h;simp only [FM];by_cases h1:x.length<=30
   ·have h2:¬ps.length<=8:=by omega
    simp [h2]
   ·simp [h1]
  simp at h;have hx:x.length<=30/\ps.length<=8:=by omega
  clear h;refine Bb rfl<|Ak (λi:Nat=>[(3,.imm (.int .i64 i)),(1,.ref 1 0)]) (λ_=>[(1,some (.immb 49 5 (dTmc (.mk op n x ks ps))))]) [2,3] (λi=>ps.length-i)
   (λi=>i<=ps.length/\(List.all · BJ) ps=(List.all · BJ) (ps.drop i)) 0 ⟨AJ _,rfl⟩ AK A9 rfl λi hi ih=>?_
  refine Bb rfl<|Ab rfl (λh=>?_) (λh=>?_)
  ·simp at h;obtain ⟨t,ht⟩:=Ao h;have e:=hi.2;rw [Av ht] at e;refine Bb rfl<|SA rfl (AE ht)<|AQ rfl<|Aj rfl (λ_=>Y7 t) (by simp)<|AQ rfl<|Ab rfl (λh=>?_) (λh=>?_)
   ·refine Bb rfl<|Aa rfl rfl (congrArg _ ?_);simp at h;simp [FM,hx,e,Ek,Dd,h]
   ·refine Bb rfl ?_;simp at h;exact Ac (ih (i+1) (by omega) ⟨by omega,by rw [e];simp [Ek,Dd,h]⟩) ⟨AU,A9⟩ A9 rfl
  simp at h;have hps:(List.all · BJ) ps=true:=by rw [hi.2,Bo (by omega)];rfl
  clear ih hi h;refine Bb rfl<|Ak (λi:Nat=>[(4,.imm (.int .i64 i)),(1,.ref 1 0)]) (λ_=>[(1,some (.immb 49 5 (dTmc (.mk op n x ks ps))))]) [2,3] (λi=>ks.length-i)
   (λi=>i<=ks.length/\Ek ks=Ek (ks.drop i)) 0 ⟨AJ _,rfl⟩ AK A9 rfl λi hi ih=>?_
  refine Bb rfl<|Ab rfl (λh=>?_) (λh=>?_)
  ·simp at h;obtain ⟨t,ht⟩:=Ao h;have e:=hi.2;rw [Av ht] at e;refine Bb rfl<|SA rfl (Eu ht)<|AQ rfl<|Aj rfl (λ_=>M4 t) (by simp)<|AQ rfl<|Ab rfl (λh=>?_) (λh=>?_)
   ·refine Bb rfl<|Aa rfl rfl (congrArg _ ?_);simp at h;simp [FM,hx,e,Ek,Dd,h]
   ·refine Bb rfl ?_;simp at h;exact Ac (ih (i+1) (by omega) ⟨by omega,by rw [e];simp [Ek,Dd,h]⟩) ⟨AU,A9⟩ A9 rfl
  simp at h;have hks:Ek ks=true:=by rw [hi.2,Bo (by omega)];rfl
  clear ih hi h;refine Bb rfl<|Aa rfl rfl (congrArg _ ?_);simp only [FM];have hps:ps.all BJ=true:=hps;rw [hps,hks];simp [hx]
termination_by t=>SizeOf.sizeOf t
decreasing_by
 have:=Cj (AF ht);simp_wf;omega
def D1 (t:Tm):Bool:=decide (0<=AY t 80 16)&&FM t
theorem N9 (t:Tm):Tq3 25 [.agg (dTmc t)] (.bool (D1 t)):=by
 refine Ad Be func25 rfl [1,2,3]<|AQ rfl<|Aj rfl (λ_=>Sd t 80 16 (by decide) (by decide) (by decide) (by decide)) (by simp)<|AQ rfl<|Aj rfl (λ_=>M4 t) (by simp [Am])<|AQ rfl<|Aa rfl rfl (congrArg _ ?_);simp [D1]
theorem BD (op n:Int) (x:Str) (ks:List Tm) (ps:List Ty) (a b c:Bool):Tq3 216 [.agg (dTmc (.mk op n x ks ps)),.bool a,.bool b,.bool c] (.bool (Bk n x ps.length a b c)):=by
 refine Ad Be func216 rfl [1,2,3]<|kg [] rfl (by cases a <;> cases b <;> cases c <;> simp)<|Aa rfl rfl (congrArg _ ?_);cases a <;> cases b <;> cases c <;> simp [Bk]
mutual
def Bl:Ty->Nat
 | .mk _ _ _ ps=>1+A2 ps
def A2:List Ty->Nat
 | []=>0
 | t::r=>Bl t+A2 r
end
mutual
theorem Ex:∀(t:Ty) (l:Int),0<=Ci t l->Ci t l+Bl t=l
 | .mk _ _ _ ps,l,h=>by
  simp only [Ci] at h ⊢;by_cases h0:l<1
  ·rw [if_pos h0] at h;omega
  ·rw [if_neg h0] at h ⊢;have:=JT ps (l-1) h;simp only [Bl];omega
theorem JT:∀(ts:List Ty) (l:Int),0<=Cl ts l->Cl ts l+A2 ts=l
 | [],l,h=>by simp [Cl,A2]
 | t::r,l,h=>by
  simp only [Cl] at h ⊢;by_cases h0:0<=l
  ·rw [if_pos h0] at h ⊢;have h1:=JT r (Ci t l) h;have h2:=JU r (Ci t l) (Ji t l).1;have h3:=Ex t l (by omega);simp only [A2];omega
  ·rw [if_neg h0] at h;omega
end
mutual
def AV:Ty->List Str
 | .mk s _ x ps=>if s=2 then [x] else AM ps
def AM:List Ty->List Str
 | []=>[]
 | t::r=>AV t++AM r
end
mutual
theorem LY:∀t:Ty,(AV t).length<=Bl t
 | .mk s _ x ps=>by
  simp only [AV,Bl]
  split
  ·simp
  ·have:=Im ps;omega
theorem Im:∀ts:List Ty,(AM ts).length<=A2 ts
 | []=>by simp [AM]
 | t::r=>by
  have h1:=LY t;have h2:=Im r;simp only [AM,A2,B5];omega
end
theorem Fw (a b:List Ty):AM (a++b)=AM a++AM b:=by
 induction a with
 | nil=>rfl
 | cons t r ih=>simp [AM,ih]
theorem En (a b:List Ty):A2 (a++b)=A2 a+A2 b:=by
 induction a with
 | nil=>simp [A2]
 | cons t r ih=>simp [A2,ih];omega
theorem EU {t:Ty} (h:ps[i]?=some t):A2 (ps.take i)+Bl t<=A2 ps:=by
 have e:ps=ps.take i++t::ps.drop (i+1):=by rw [<- Av h,eP]
 have:=congrArg A2 e;rw [En] at this;simp only [A2] at this;omega
theorem Nv (l:List Str):∀c∈Dv l,c.length=1:=by
 intro c hc;simp only [Dv,C2] at hc;obtain ⟨a,_,rfl⟩:=hc;rfl
theorem I0:∀(t:Ty),Bl t<=1000000->Tq3 155 [.agg (dTyc t)] (.sl (Dv (AV t)))
 | .mk s n x ps,hN=>by
  refine B3 λhv=>?_;simp [CV,F0,dTyc,maxLen] at hv;refine Ad Be func155 rfl [1,2,3,4,5]<|AQ rfl<|Ab rfl (λh=>?_) (λh=>?_)
  ·refine Bb rfl<|Aa rfl rfl (congrArg _ ?_);simp at h;simp [AV,h,Dv]
  simp at h;have hNp:A2 ps<=1000000:=by simp only [Bl] at hN;omega
  refine Bb rfl<|Ak (λy:Nat×Bool×List (List V)=>[(4,.imm (.int .i64 y.1)),(3,match y.2.1 with | false=>.nils | true=>.own 2 y.2.2.length),(1,.ref 1 0)])
   (λy=>match y.2.1 with | false=>[(1,some (.immb 182 4 (dTyc (.mk s n x ps))))] | true=>[(2,some (.row 9 1 y.2.2)),(1,some (.immb 182 4 (dTyc (.mk s n x ps))))]) [3,4] (λy=>ps.length-y.1)
   (λy=>y.1<=ps.length/\Dv (AM (ps.take y.1))=y.2.2/\(y.2.1=false->y.2.2=[])) (0,false,[]) ⟨AJ _,rfl,λ_=>rfl⟩ AC A9 rfl λy hi ih=>?_
  obtain ⟨i,b,es⟩:=y;obtain ⟨hi1,hi2,hi3⟩:=hi;simp only at hi1 hi2 hi3;cases b with
  | false =>
   have hi3:=hi3 rfl;subst hi3;refine Bb rfl<|Ab rfl (λh=>?_) (λh=>?_)
   ·simp at h;obtain ⟨t,ht⟩:=Ao h;have hnt:=EU ht;have hlt:=LY t;have hl2:=Im (ps.take i);have hlen:=congrArg List.length hi2;simp at hlen;exact Bb rfl<|SA rfl (AE ht)<|AQ rfl<|Aj rfl (λ_=>I0 t (by omega)) (by simp)<|AQ rfl<|B7 Be rfl ⟨Nv _,by simp [maxLen];omega,by simp;omega,trivial⟩<|AQ rfl<|Bt 2 3 rfl<|Ac (ih (i+1,true,[]++Dv (AV t)) (by simp only;omega) ⟨by simp only;omega,by simp only;rw [Bp ht,Fw,Ix,hi2];simp [AM],λh=>by cases h⟩) ⟨BB (GR (by simp only;omega) (by simp only;omega)),AK⟩ AK rfl
   ·refine Bb rfl<|Ah ⟨_,rfl,?_,trivial⟩;simp at h;rw [Db (by omega)] at hi2;simp only [AV];rw [if_neg (by assumption),hi2];rfl
  | true =>
   refine Bb rfl<|Ab rfl (λh=>?_) (λh=>?_)
   ·simp at h;obtain ⟨t,ht⟩:=Ao h;have hnt:=EU ht;have hlt:=LY t;have hl2:=Im (ps.take i);have hlen:=congrArg List.length hi2;simp at hlen;exact Bb rfl<|SA rfl (AE ht)<|AQ rfl<|Aj rfl (λ_=>I0 t (by omega)) (by simp)<|AQ rfl<|B7 Be rfl ⟨Nv _,by simp [maxLen];omega,by simp;omega,trivial⟩<|AQ rfl<|Bt 2 3 rfl<|Ac (ih (i+1,true,es++Dv (AV t)) (by simp only;omega) ⟨by simp only;omega,by simp only;rw [Bp ht,Fw,Ix,hi2];simp [AM],λh=>by cases h⟩) ⟨BB (GR (by simp only;omega) (by simp only;omega)),AK⟩ AK rfl
   ·refine BC 2 rfl<|Bb rfl<|Ah ⟨_,rfl,?_,trivial⟩;simp at h;rw [Db (by omega)] at hi2;simp only [AV];rw [if_neg (by assumption),hi2];rfl
termination_by t=>SizeOf.sizeOf t
decreasing_by
 all_goals
  have:=Cj (AF ht);simp_wf;omega
def BP (pre:List Str):List Str->Bool
 | []=>true
 | x::r=>!BE pre x&&BP (pre++[x]) r
def Li (l:List Str):Bool:=BP [] l
theorem Ux (l:List Str) (n:Nat):(Dv l).take n=Dv (l.take n):=by simp [Dv,ZF]
theorem mD (l:List Str):Tq3 218 [.sl (Dv l)] (.bool (Li l)):=by
 refine B3 λhv=>?_;simp [CV,F0,maxLen] at hv;refine Ad Be func218 rfl [1,2]<|AQ rfl<|Ak (λi:Nat=>[(3,.imm (.int .i64 i)),(0,.imm (.sl (Dv l)))]) (λ_=>[]) [1] (λi=>l.length-i) (λi=>i<=l.length/\Li l=BP (l.take i) (l.drop i)) 0
  ⟨AJ _,rfl⟩ AK trivial rfl λi hi ih=>?_
 refine Bb rfl<|Ab rfl (λh=>?_) (λh=>?_)
 ·simp at h;obtain ⟨t,ht⟩:=Ao h;have e:=hi.2;rw [Av ht] at e;refine kd [] rfl (by simp;exact ⟨by omega,Nv l⟩)<|ki rfl (c:=[.str t]) (λ_=>⟨by simp,by simpa using HW ht,rfl⟩) (by simp)<|AQ rfl<|Aj rfl (v:=.bool (BE (l.take i) t)) (λ_=>?_) (by simp) ?_
  ·have:=VV (l.take i) t;rw [<- Ux] at this;exact this
  refine kg [] rfl (by first | exact ⟨by kernel_rfl,trivial⟩ | simp)<|Ab rfl (λh=>?_) (λh=>?_)
  ·refine Bb rfl<|Aa rfl rfl (congrArg _ ?_);rw [e];simp [BP,h]
  ·exact Bb rfl<|Ac (ih (i+1) (by omega) ⟨by omega,by rw [e,Bp ht];simp [BP,h]⟩) ⟨AU,A9⟩ trivial rfl
 ·refine Bb rfl<|Aa rfl rfl (congrArg _ ?_);simp at h;rw [hi.2,Bo (by omega)];rfl
def EM (t:Ty):Bool:=decide (0<=Ci t 12)&&CZ t&&Li (AV t)
theorem zbz (t:Ty):Tq3 144 [.agg (dTyc t)] (.bool (EM t)):=by
 refine Ad Be func144 rfl [1,2,3]<|AQ rfl<|Aj rfl (λ_=>KL t 12 (by decide) (by decide)) (by simp)<|AQ rfl<|Aj rfl (λ_=>dV t) (by simp [Am])<|AQ rfl<|Aj rfl (v:=.sl (Dv (AV t))) (λhc=>I0 t ?_) (by simp [Am]) ?_
 ·simp [Am] at hc;have:=Ex t 12 hc.1;omega
 refine AQ rfl<|Aj rfl (λ_=>mD (AV t)) (by simp [Am])<|AQ rfl<|Aa rfl rfl (congrArg _ ?_);simp [EM]
def Bv (op n:Int) (x:Str) (k p:Nat):Bool :=
 if op=1 then ((k:Int) == 0)&&Bk n x p true false false&&Dz n (-1000000000) 1000000000
 else if op=2 then ((k:Int) == 0)&&Bk n x p true false false&&Dz n 0 1
 else if op=3\/op=21\/op=25\/op=28 then ((k:Int) == 0)&&Bk n x p false false false
 else if op=4 then ((k:Int) == 0)&&Bk n x p false true false&&DH x
 else if op=5\/op=27 then ((k:Int) == 1)&&Bk n x p false true false&&DH x
 else if op=7 then ((k:Int) == 2)&&Bk n x p false true false&&DH x
 else if op=8 then ((k:Int) == 3)&&Bk n x p false false false
 else if op=14 then decide ((k:Int)<=3)&&Bk n x p false true false&&EN x
 else if op=15 then Dz p 1 5&&((k:Int) == 1+(p:Int))&&Bk n x p false false true
 else if op=16\/op=17\/op=19\/op=20\/op=23\/op=26 then ((k:Int) == 1)&&Bk n x p false false false
 else if op=24 then ((k:Int) == 1)&&Bk n x p true false false&&Dz n 0 3
 else if op=6\/op=9\/op=10\/op=11\/op=12\/op=13\/op=18\/op=22 then ((k:Int) == 2)&&Bk n x p false false false
 else false
theorem wD (op n:Int) (x:Str) (ks:List Tm) (ps:List Ty):Tq3 143 [.agg (dTmc (.mk op n x ks ps))] (.bool (Bv op n x ks.length ps.length)):=by
 refine B3 λhv=>?_;simp [CV,F0,dTmc,maxLen] at hv;refine Ad Be func143 rfl [1,2,3] ?_;by_cases h1:op=1
 ·subst h1;exact kg [.a] rfl (by simp)<|Aj rfl (λ_=>BD 1 n x ks ps true false false) (by simp [Am])<|AQ rfl<|Aj rfl (λ_=>Nh n (-1000000000) 1000000000) (by simp [Am])<|AQ rfl<|Ah ⟨_,rfl,tV (congrArg _ (by simp [Bv])),trivial⟩
 by_cases h2:op=2
 ·subst h2;exact kg [.a,.a] rfl (by simp)<|Aj rfl (λ_=>BD 2 n x ks ps true false false) (by simp [Am])<|AQ rfl<|Aj rfl (λ_=>Nh n 0 1) (by simp [Am])<|AQ rfl<|Ah ⟨_,rfl,tV (congrArg _ (by simp [Bv])),trivial⟩
 by_cases h3:op=3
 ·subst h3;exact kg [.a,.a,.a,.a] rfl (by simp)<|Aj rfl (λ_=>BD 3 n x ks ps false false false) (by simp [Am])<|AQ rfl<|Ah ⟨_,rfl,tV (congrArg _ (by simp [Bv])),trivial⟩
 by_cases h21:op=21
 ·subst h21;exact kg (CU 4 [.a]) rfl (by simp)<|Aj rfl (λ_=>BD 21 n x ks ps false false false) (by simp [Am])<|AQ rfl<|Ah ⟨_,rfl,tV (congrArg _ (by simp [Bv])),trivial⟩
 by_cases h25:op=25
 ·subst h25;exact kg (CU 5 [.a]) rfl (by simp)<|Aj rfl (λ_=>BD 25 n x ks ps false false false) (by simp [Am])<|AQ rfl<|Ah ⟨_,rfl,tV (congrArg _ (by simp [Bv])),trivial⟩
 by_cases h28:op=28
 ·subst h28;exact kg (CU 5 [.a]) rfl (by simp)<|Aj rfl (λ_=>BD 28 n x ks ps false false false) (by simp [Am])<|AQ rfl<|Ah ⟨_,rfl,tV (congrArg _ (by simp [Bv])),trivial⟩
 by_cases h4:op=4
 ·subst h4;exact kg (CU 6 [.a]) rfl (by simp)<|Aj rfl (λ_=>BD 4 n x ks ps false true false) (by simp [Am])<|AQ rfl<|Aj rfl (λ_=>Hw x) (by simp [Am])<|AQ rfl<|Ah ⟨_,rfl,tV (congrArg _ (by simp [Bv])),trivial⟩
 by_cases h5:op=5
 ·subst h5;exact kg (CU 8 [.a]) rfl (by simp)<|Aj rfl (λ_=>BD 5 n x ks ps false true false) (by simp [Am])<|AQ rfl<|Aj rfl (λ_=>Hw x) (by simp [Am])<|AQ rfl<|Ah ⟨_,rfl,tV (congrArg _ (by simp [Bv])),trivial⟩
 by_cases h27:op=27
 ·subst h27;exact kg (CU 8 [.a]) rfl (by simp)<|Aj rfl (λ_=>BD 27 n x ks ps false true false) (by simp [Am])<|AQ rfl<|Aj rfl (λ_=>Hw x) (by simp [Am])<|AQ rfl<|Ah ⟨_,rfl,tV (congrArg _ (by simp [Bv])),trivial⟩
 by_cases h7:op=7
 ·subst h7;exact kg (CU 9 [.a]) rfl (by simp)<|Aj rfl (λ_=>BD 7 n x ks ps false true false) (by simp [Am])<|AQ rfl<|Aj rfl (λ_=>Hw x) (by simp [Am])<|AQ rfl<|Ah ⟨_,rfl,tV (congrArg _ (by simp [Bv])),trivial⟩
 by_cases h8:op=8
 ·subst h8;exact kg (CU 10 [.a]) rfl (by simp)<|Aj rfl (λ_=>BD 8 n x ks ps false false false) (by simp [Am])<|AQ rfl<|Ah ⟨_,rfl,tV (congrArg _ (by simp [Bv])),trivial⟩
 by_cases h14:op=14
 ·subst h14;exact kg (CU 11 [.a]) rfl (by simp)<|Aj rfl (λ_=>BD 14 n x ks ps false true false) (by simp [Am])<|AQ rfl<|Aj rfl (λ_=>KO x) (by simp [Am])<|AQ rfl<|Ah ⟨_,rfl,tV (congrArg _ (by simp [Bv])),trivial⟩
 by_cases h15:op=15
 ·subst h15;refine kg (CU 12 [.a]) rfl (by simp)<|Aj rfl (v:=.bool (Dz ps.length 1 5)) (λ_=>by have:=Nh ps.length 1 5;simpa using this) (by simp [Am])<|AQ rfl<|Aj rfl (λ_=>BD 15 n x ks ps false false true) (by simp [Am])<|AQ rfl ?_;have hw:IntKind.i64.wrap (1+(ps.length:Int))=1+ps.length\/Dz ps.length 1 5=false:=by
   by_cases hp:ps.length<=5
   ·exact .inl (GR (by omega) (by omega))
   ·exact .inr (by simp [Dz];omega)
  refine Aa rfl rfl (congrArg _ ?_);rcases hw with hw | hw <;> simp [Bv,hw]
 by_cases h16:op=16
 ·subst h16;exact kg (CU 14 [.a]) rfl (by simp)<|Aj rfl (λ_=>BD 16 n x ks ps false false false) (by simp [Am])<|AQ rfl<|Ah ⟨_,rfl,tV (congrArg _ (by simp [Bv])),trivial⟩
 by_cases h17:op=17
 ·subst h17;exact kg (CU 15 [.a]) rfl (by simp)<|Aj rfl (λ_=>BD 17 n x ks ps false false false) (by simp [Am])<|AQ rfl<|Ah ⟨_,rfl,tV (congrArg _ (by simp [Bv])),trivial⟩
 by_cases h19:op=19
 ·subst h19;exact kg (CU 16 [.a]) rfl (by simp)<|Aj rfl (λ_=>BD 19 n x ks ps false false false) (by simp [Am])<|AQ rfl<|Ah ⟨_,rfl,tV (congrArg _ (by simp [Bv])),trivial⟩
 by_cases h20:op=20
 ·subst h20;exact kg (CU 17 [.a]) rfl (by simp)<|Aj rfl (λ_=>BD 20 n x ks ps false false false) (by simp [Am])<|AQ rfl<|Ah ⟨_,rfl,tV (congrArg _ (by simp [Bv])),trivial⟩
 by_cases h23:op=23
 ·subst h23;exact kg (CU 18 [.a]) rfl (by simp)<|Aj rfl (λ_=>BD 23 n x ks ps false false false) (by simp [Am])<|AQ rfl<|Ah ⟨_,rfl,tV (congrArg _ (by simp [Bv])),trivial⟩
 by_cases h26:op=26
 ·subst h26;exact kg (CU 18 [.a]) rfl (by simp)<|Aj rfl (λ_=>BD 26 n x ks ps false false false) (by simp [Am])<|AQ rfl<|Ah ⟨_,rfl,tV (congrArg _ (by simp [Bv])),trivial⟩
 by_cases h24:op=24
 ·subst h24;exact kg (CU 19 [.a]) rfl (by simp)<|Aj rfl (λ_=>BD 24 n x ks ps true false false) (by simp [Am])<|AQ rfl<|Aj rfl (λ_=>Nh n 0 3) (by simp [Am])<|AQ rfl<|Ah ⟨_,rfl,tV (congrArg _ (by simp [Bv])),trivial⟩
 by_cases h6:op=6
 ·subst h6;exact kg (CU 21 [.a]) rfl (by simp)<|Aj rfl (λ_=>BD 6 n x ks ps false false false) (by simp [Am])<|AQ rfl<|Ah ⟨_,rfl,tV (congrArg _ (by simp [Bv])),trivial⟩
 by_cases h9:op=9
 ·subst h9;exact kg (CU 22 [.a]) rfl (by simp)<|Aj rfl (λ_=>BD 9 n x ks ps false false false) (by simp [Am])<|AQ rfl<|Ah ⟨_,rfl,tV (congrArg _ (by simp [Bv])),trivial⟩
 by_cases h10:op=10
 ·subst h10;exact kg (CU 23 [.a]) rfl (by simp)<|Aj rfl (λ_=>BD 10 n x ks ps false false false) (by simp [Am])<|AQ rfl<|Ah ⟨_,rfl,tV (congrArg _ (by simp [Bv])),trivial⟩
 by_cases h11:op=11
 ·subst h11;exact kg (CU 24 [.a]) rfl (by simp)<|Aj rfl (λ_=>BD 11 n x ks ps false false false) (by simp [Am])<|AQ rfl<|Ah ⟨_,rfl,tV (congrArg _ (by simp [Bv])),trivial⟩
 by_cases h12:op=12
 ·subst h12;exact kg (CU 25 [.a]) rfl (by simp)<|Aj rfl (λ_=>BD 12 n x ks ps false false false) (by simp [Am])<|AQ rfl<|Ah ⟨_,rfl,tV (congrArg _ (by simp [Bv])),trivial⟩
 by_cases h13:op=13
 ·subst h13;exact kg (CU 26 [.a]) rfl (by simp)<|Aj rfl (λ_=>BD 13 n x ks ps false false false) (by simp [Am])<|AQ rfl<|Ah ⟨_,rfl,tV (congrArg _ (by simp [Bv])),trivial⟩
 by_cases h18:op=18
 ·subst h18;exact kg (CU 27 [.a]) rfl (by simp)<|Aj rfl (λ_=>BD 18 n x ks ps false false false) (by simp [Am])<|AQ rfl<|Ah ⟨_,rfl,tV (congrArg _ (by simp [Bv])),trivial⟩
 by_cases h22:op=22
 ·subst h22;exact kg (CU 27 [.a]) rfl (by simp)<|Aj rfl (λ_=>BD 22 n x ks ps false false false) (by simp [Am])<|AQ rfl<|Ah ⟨_,rfl,tV (congrArg _ (by simp [Bv])),trivial⟩
 exact kg [.f,.f,.f,.f,.f,.f,.f,.f,.f,.f,.f,.f,.f,.f,.f,.f,.f,.f,.f,.f,.f,.f,.f,.f,.f,.f,.f,.f] rfl (by simp [h1,h2,h3,h21,h25,h28,h4,h5,h27,h7,h8,h14,h15,h16,h17,h19,h20,h23,h26,h24,h6,h9,h10,h11,h12,h13,h18,h22])<|Ah ⟨_,rfl,tV (congrArg _ (by simp [Bv,h1,h2,h3,h21,h25,h28,h4,h5,h27,h7,h8,h14,h15,h16,h17,h19,h20,h23,h26,h24,h6,h9,h10,h11,h12,h13,h18,h22])),trivial⟩
mutual
def BU:Tm->Bool
 | .mk op n x ks ps=>Bv op n x ks.length ps.length&&ps.all EM&&Cm ks
def Cm:List Tm->Bool
 | []=>true
 | t::r=>BU t&&Cm r
end
theorem WR:∀(t:Tm),Tq3 85 [.agg (dTmc t)] (.bool (BU t))
 | .mk op n x ks ps=>by
  refine B3 λhv=>?_;simp [CV,F0,dTmc,maxLen] at hv;refine Ad Be func85 rfl [1,2,3]<|AQ rfl<|Aj rfl (λ_=>wD op n x ks ps) (by simp)<|AQ rfl<|Ab rfl (λh=>?_) (λh=>?_)
  ·refine Bb rfl<|Aa rfl rfl (congrArg _ ?_);simp at h;simp [BU,h]
  simp at h;have hx:Bv op n x ks.length ps.length=true:=h;clear h;refine Bb rfl<|Ak (λi:Nat=>[(3,.imm (.int .i64 i)),(1,.ref 1 0)]) (λ_=>[(1,some (.immb 49 5 (dTmc (.mk op n x ks ps))))]) [2,3] (λi=>ps.length-i)
   (λi=>i<=ps.length/\(List.all · EM) ps=(List.all · EM) (ps.drop i)) 0 ⟨AJ _,rfl⟩ AK A9 rfl λi hi ih=>?_
  refine Bb rfl<|Ab rfl (λh=>?_) (λh=>?_)
  ·simp at h;obtain ⟨t,ht⟩:=Ao h;have e:=hi.2;rw [Av ht] at e;refine Bb rfl<|SA rfl (AE ht)<|AQ rfl<|Aj rfl (λ_=>zbz t) (by simp)<|AQ rfl<|Ab rfl (λh=>?_) (λh=>?_)
   ·refine Bb rfl<|Aa rfl rfl (congrArg _ ?_);simp at h;simp [BU,hx,e,Cm,Dd,h]
   ·refine Bb rfl ?_;simp at h;exact Ac (ih (i+1) (by omega) ⟨by omega,by rw [e];simp [Cm,Dd,h]⟩) ⟨AU,A9⟩ A9 rfl
  simp at h;have hps:(List.all · EM) ps=true:=by rw [hi.2,Bo (by omega)];rfl
  clear ih hi h;refine Bb rfl<|Ak (λi:Nat=>[(4,.imm (.int .i64 i)),(1,.ref 1 0)]) (λ_=>[(1,some (.immb 49 5 (dTmc (.mk op n x ks ps))))]) [2,3] (λi=>ks.length-i)
   (λi=>i<=ks.length/\Cm ks=Cm (ks.drop i)) 0 ⟨AJ _,rfl⟩ AK A9 rfl λi hi ih=>?_
  refine Bb rfl<|Ab rfl (λh=>?_) (λh=>?_)
  ·simp at h;obtain ⟨t,ht⟩:=Ao h;have e:=hi.2;rw [Av ht] at e;refine Bb rfl<|SA rfl (Eu ht)<|AQ rfl<|Aj rfl (λ_=>WR t) (by simp)<|AQ rfl<|Ab rfl (λh=>?_) (λh=>?_)
   ·refine Bb rfl<|Aa rfl rfl (congrArg _ ?_);simp at h;simp [BU,hx,e,Cm,Dd,h]
   ·refine Bb rfl ?_;simp at h;exact Ac (ih (i+1) (by omega) ⟨by omega,by rw [e];simp [Cm,Dd,h]⟩) ⟨AU,A9⟩ A9 rfl
  simp at h;have hks:Cm ks=true:=by rw [hi.2,Bo (by omega)];rfl
  clear ih hi h;refine Bb rfl<|Aa rfl rfl (congrArg _ ?_);simp only [BU];have hps:ps.all EM=true:=hps;rw [hps,hks];simp [hx]
termination_by t=>SizeOf.sizeOf t
decreasing_by
 have:=Cj (AF ht);simp_wf;omega
def EB (t:Tm):Bool:=decide (0<=AY t 60 14)&&BU t
theorem VQ (t:Tm):Tq3 29 [.agg (dTmc t)] (.bool (EB t)):=by
 refine Ad Be func29 rfl [1,2,3]<|AQ rfl<|Aj rfl (λ_=>Sd t 60 14 (by decide) (by decide) (by decide) (by decide)) (by simp)<|AQ rfl<|Aj rfl (λ_=>WR t) (by simp [Am])<|AQ rfl<|Aa rfl rfl (congrArg _ ?_);simp [EB]
theorem Fx {f:α->β} {l:List α} {t:α} (h:l[i]?=some t):(l.map f)[i]?=some (f t):=by simp [h]
@[simp] theorem dCdc_length (c:Cd):(Fa c).length=2:=rfl
@[simp] theorem dDtc_length (c:Dt):(C7 c).length=2:=rfl
@[simp] theorem dMdc_length (m:Md):(dMdc m).length=3:=rfl
@[simp] theorem dFdc_length (c:Fd):(CG c).length=15:=by simp [CG]
def Lz (c:Cd):Bool:=EN c.name&&decide ((c.args.length:Int)<=3)&&c.args.all Cw
def He (d:Dt):Bool:=EN d.name&&Dz d.cons.length 1 5&&d.cons.all Lz
def ES (c:Cd):Bool:=decide ((c.name.length:Int)<=30)&&decide ((c.args.length:Int)<=6)&&c.args.all BJ
def Eb (d:Dt):Bool:=decide ((d.name.length:Int)<=30)&&decide ((d.cons.length:Int)<=8)&&d.cons.all ES
def K5 (f:Fd):Bool:=DH f.name&&DH f.param&&Cw f.from_&&Cw f.to_&&EB f.body
def BV (m:Md):Bool:=DH m.name&&decide ((m.datas.length:Int)<=4)&&Dz m.funs.length 1 5&&m.datas.all He&&m.funs.all K5
def Ez (f:Fd):Bool:=decide ((f.name.length:Int)<=30)&&decide ((f.param.length:Int)<=30)&&BJ f.from_&&BJ f.to_&&D1 f.body
def BY (m:Md):Bool:=decide ((m.name.length:Int)<=30)&&decide ((m.datas.length:Int)<=6)&&decide ((m.funs.length:Int)<=8)&&m.datas.all Eb&&m.funs.all Ez
theorem xZ (d:Dt):Tq3 84 [.agg (C7 d)] (.bool (He d)):=by
 obtain ⟨nm,cs⟩:=d;refine B3 λhv=>?_;simp [CV,F0,C7,maxLen] at hv;refine Ad Be func84 rfl [1,2,3]<|AQ rfl<|Aj rfl (λ_=>KO nm) (by simp)<|AQ rfl<|Aj rfl (v:=.bool (Dz cs.length 1 5)) (λ_=>by have:=Nh cs.length 1 5;simpa using this) (by simp [Am])<|AQ rfl<|Ab rfl (λh=>?_) (λh=>?_)
 ·refine Bb rfl<|Aa rfl rfl (congrArg _ ?_);simp at h;simp [He];grind
 have hx:(EN nm&&Dz cs.length 1 5)=true:=by simp at h ⊢;grind
 clear h;refine Bb rfl<|Ak (λi:Nat=>[(3,.imm (.int .i64 i)),(1,.ref 1 0)]) (λ_=>[(1,some (.immb 113 2 (C7 ⟨nm,cs⟩)))]) [2,3] (λi=>cs.length-i)
  (λi=>i<=cs.length/\cs.all Lz=(cs.drop i).all Lz) 0 ⟨AJ _,rfl⟩ AK A9 rfl λi hi ih=>?_
 refine Bb rfl<|Ab rfl (λh=>?_) (λh=>?_)
 ·simp at h;obtain ⟨c,hc⟩:=Ao h;have e:=hi.2;rw [Av hc] at e;refine Bb rfl<|SA rfl (Fx hc) ?_;obtain ⟨cn,ag⟩:=c;refine AQ rfl<|Aj rfl (λ_=>KO cn) (by simp)<|AQ rfl<|Ab rfl (λh=>?_) (λh=>?_)
  ·refine Bb rfl<|Aa rfl rfl (congrArg _ ?_);simp at h;have:Lz ⟨cn,ag⟩=false:=by simp [Lz];grind
   simp [He,e,this]
  have hy:(EN cn&&decide ((ag.length:Int)<=3))=true:=by simp at h ⊢;grind
  have hal:ag.length<=6:=by simp at hy;omega
  clear h;refine Bb rfl<|Ak (λj:Nat=>[(5,.imm (.int .i64 j)),(4,.ref 2 0),(3,.imm (.int .i64 i)),(1,.ref 1 0)]) (λ_=>[(2,some (.immb 178 2 (Fa ⟨cn,ag⟩))),(1,some (.immb 113 2 (C7 ⟨nm,cs⟩)))]) [3] (λj=>ag.length-j)
   (λj=>j<=ag.length/\ag.all Cw=(ag.drop j).all Cw) 0 ⟨AJ _,rfl⟩ Cb AK rfl λj hj ihj=>?_
  refine Bb rfl<|Ab rfl (λh=>?_) (λh=>?_)
  ·simp at h;obtain ⟨t,ht⟩:=Ao h;have ej:=hj.2;rw [Av ht] at ej;refine Bb rfl<|SA rfl (AE ht)<|AQ rfl<|Aj rfl (λ_=>KK t) (by simp)<|AQ rfl<|Ab rfl (λh=>?_) (λh=>?_)
   ·refine Bb rfl<|Aa rfl rfl (congrArg _ ?_);simp at h;have:Lz ⟨cn,ag⟩=false:=by simp only [Lz];rw [ej];simp [h]
    simp [He,e,this]
   ·refine Bb rfl ?_;simp at h;exact Ac (ihj (j+1) (by omega) ⟨by omega,by rw [ej];simp [h]⟩) ⟨AU,AC⟩ AK rfl
  ·simp at h;refine Bb rfl ?_;have:Lz ⟨cn,ag⟩=true:=by
    simp only [Lz];rw [hj.2,Bo (by omega)];simpa using hy
   exact Ac (ih (i+1) (by omega) ⟨by omega,by rw [e];simp [this]⟩) ⟨AU,A9⟩ A9 rfl
 ·refine Bb rfl<|Aa rfl rfl (congrArg _ ?_);simp at h;simp only [He];rw [hi.2,Bo (by omega)];simpa using hx.symm
theorem UG (d:Dt):Tq3 67 [.agg (C7 d)] (.bool (Eb d)):=by
 obtain ⟨nm,cs⟩:=d;refine B3 λhv=>?_;simp [CV,F0,C7,maxLen] at hv;refine Ad Be func67 rfl [1,2,3]<|AQ rfl<|Ab rfl (λh=>?_) (λh=>?_)
 ·refine Bb rfl<|Aa rfl rfl (congrArg _ ?_);simp at h;simp [Eb];grind
 have hx:(decide ((nm.length:Int)<=30)&&decide ((cs.length:Int)<=8))=true:=by simp at h ⊢;grind
 clear h;refine Bb rfl<|Ak (λi:Nat=>[(3,.imm (.int .i64 i)),(1,.ref 1 0)]) (λ_=>[(1,some (.immb 113 2 (C7 ⟨nm,cs⟩)))]) [2,3] (λi=>cs.length-i)
  (λi=>i<=cs.length/\cs.all ES=(cs.drop i).all ES) 0 ⟨AJ _,rfl⟩ AK A9 rfl λi hi ih=>?_
 refine Bb rfl<|Ab rfl (λh=>?_) (λh=>?_)
 ·simp at h;obtain ⟨c,hc⟩:=Ao h;have e:=hi.2;rw [Av hc] at e;refine Bb rfl<|SA rfl (Fx hc) ?_;obtain ⟨cn,ag⟩:=c;refine AQ rfl<|Ab rfl (λh=>?_) (λh=>?_)
  ·refine Bb rfl<|Aa rfl rfl (congrArg _ ?_);simp at h;have:ES ⟨cn,ag⟩=false:=by simp [ES];grind
   simp [Eb,e,this]
  have hy:(decide ((cn.length:Int)<=30)&&decide ((ag.length:Int)<=6))=true:=by simp at h ⊢;grind
  have hal:ag.length<=6:=by simp at hy;omega
  clear h;refine Bb rfl<|Ak (λj:Nat=>[(5,.imm (.int .i64 j)),(4,.ref 2 0),(3,.imm (.int .i64 i)),(1,.ref 1 0)]) (λ_=>[(2,some (.immb 178 2 (Fa ⟨cn,ag⟩))),(1,some (.immb 113 2 (C7 ⟨nm,cs⟩)))]) [3] (λj=>ag.length-j)
   (λj=>j<=ag.length/\ag.all BJ=(ag.drop j).all BJ) 0 ⟨AJ _,rfl⟩ Cb AK rfl λj hj ihj=>?_
  refine Bb rfl<|Ab rfl (λh=>?_) (λh=>?_)
  ·simp at h;obtain ⟨t,ht⟩:=Ao h;have ej:=hj.2;rw [Av ht] at ej;refine Bb rfl<|SA rfl (AE ht)<|AQ rfl<|Aj rfl (λ_=>Gc t) (by simp)<|AQ rfl<|Ab rfl (λh=>?_) (λh=>?_)
   ·refine Bb rfl<|Aa rfl rfl (congrArg _ ?_);simp at h;have:ES ⟨cn,ag⟩=false:=by simp only [ES];rw [ej];simp [h]
    simp [Eb,e,this]
   ·refine Bb rfl ?_;simp at h;exact Ac (ihj (j+1) (by omega) ⟨by omega,by rw [ej];simp [h]⟩) ⟨AU,AC⟩ AK rfl
  ·simp at h;refine Bb rfl ?_;have:ES ⟨cn,ag⟩=true:=by
    simp only [ES];rw [hj.2,Bo (by omega)];simpa using hy
   exact Ac (ih (i+1) (by omega) ⟨by omega,by rw [e];simp [this]⟩) ⟨AU,A9⟩ A9 rfl
 ·refine Bb rfl<|Aa rfl rfl (congrArg _ ?_);simp at h;simp only [Eb];rw [hi.2,Bo (by omega)];simpa using hx.symm
theorem U5 (m:Md):Tq3 27 [.agg (dMdc m)] (.bool (BV m)):=by
 obtain ⟨nm,ds,fs⟩:=m;refine B3 λhv=>?_;simp [CV,F0,dMdc,maxLen] at hv;refine Ad Be func27 rfl [1,2,3]<|AQ rfl<|Aj rfl (λ_=>Hw nm) (by simp)<|AQ rfl<|Aj rfl (v:=.bool (Dz fs.length 1 5)) (λ_=>by have:=Nh fs.length 1 5;simpa using this) (by simp [Am])<|AQ rfl<|Ab rfl (λh=>?_) (λh=>?_)
 ·refine Bb rfl<|Aa rfl rfl (congrArg _ ?_);simp at h;simp [BV];grind
 have hx:(DH nm&&decide ((ds.length:Int)<=4)&&Dz fs.length 1 5)=true:=by simp at h ⊢;grind
 clear h;refine Bb rfl<|Ak (λi:Nat=>[(3,.imm (.int .i64 i)),(1,.ref 1 0)]) (λ_=>[(1,some (.immb 43 3 (dMdc ⟨nm,ds,fs⟩)))]) [2,3] (λi=>ds.length-i)
  (λi=>i<=ds.length/\ds.all He=(ds.drop i).all He) 0 ⟨AJ _,rfl⟩ AK A9 rfl λi hi ih=>?_
 refine Bb rfl<|Ab rfl (λh=>?_) (λh=>?_)
 ·simp at h;obtain ⟨c,hc⟩:=Ao h;have e:=hi.2;rw [Av hc] at e;refine Bb rfl<|SA rfl (Fx hc)<|AQ rfl<|Aj rfl (λ_=>xZ c) (by simp)<|AQ rfl<|Ab rfl (λh=>?_) (λh=>?_)
  ·refine Bb rfl<|Aa rfl rfl (congrArg _ ?_);simp at h;simp [BV,e,h]
  ·refine Bb rfl ?_;simp at h;exact Ac (ih (i+1) (by omega) ⟨by omega,by rw [e];simp [h]⟩) ⟨AU,A9⟩ A9 rfl
 simp at h;have hds:ds.all He=true:=by rw [hi.2,Bo (by omega)];rfl
 clear ih hi h;refine Bb rfl<|Ak (λi:Nat=>[(4,.imm (.int .i64 i)),(1,.ref 1 0)]) (λ_=>[(1,some (.immb 43 3 (dMdc ⟨nm,ds,fs⟩)))]) [2,3] (λi=>fs.length-i)
  (λi=>i<=fs.length/\fs.all K5=(fs.drop i).all K5) 0 ⟨AJ _,rfl⟩ AK A9 rfl λi hi ih=>?_
 refine Bb rfl<|Ab rfl (λh=>?_) (λh=>?_)
 ·simp at h;obtain ⟨c,hc⟩:=Ao h;have e:=hi.2;rw [Av hc] at e;refine Bb rfl<|SA rfl (Fx hc) ?_;obtain ⟨fnm,fpa,⟨s1,n1,x1,p1⟩,⟨s2,n2,x2,p2⟩,⟨op,n3,x3,ks,p3⟩⟩:=c;refine AQ rfl<|Aj rfl (λ_=>Hw fnm) (by simp [Am])<|AQ rfl<|Aj rfl (λ_=>Hw fpa) (by simp [Am])<|AQ rfl<|Aj rfl (λ_=>KK (.mk s1 n1 x1 p1)) (by simp [Am])<|AQ rfl<|Aj rfl (λ_=>KK (.mk s2 n2 x2 p2)) (by simp [Am])<|AQ rfl<|Aj rfl (λ_=>VQ (.mk op n3 x3 ks p3)) (by simp [Am])<|AQ rfl<|Ab rfl (λh=>?_) (λh=>?_)
  ·refine Bb rfl<|Aa rfl rfl (congrArg _ ?_);simp at h;have:K5 ⟨fnm,fpa,.mk s1 n1 x1 p1,.mk s2 n2 x2 p2,.mk op n3 x3 ks p3⟩=false:=by simp [K5];grind
   simp [BV,e,this]
  ·refine Bb rfl ?_;simp at h;have:K5 ⟨fnm,fpa,.mk s1 n1 x1 p1,.mk s2 n2 x2 p2,.mk op n3 x3 ks p3⟩=true:=by simp [K5];grind
   exact Ac (ih (i+1) (by omega) ⟨by omega,by rw [e];simp [this]⟩) ⟨AU,A9⟩ A9 rfl
 ·refine Bb rfl<|Aa rfl rfl (congrArg _ ?_);simp at h;simp only [BV];rw [hds,hi.2,Bo (by omega)];simpa using hx.symm
theorem Se (m:Md):Tq3 23 [.agg (dMdc m)] (.bool (BY m)):=by
 obtain ⟨nm,ds,fs⟩:=m;refine B3 λhv=>?_;simp [CV,F0,dMdc,maxLen] at hv;refine Ad Be func23 rfl [1,2,3]<|AQ rfl<|Ab rfl (λh=>?_) (λh=>?_)
 ·refine Bb rfl<|Aa rfl rfl (congrArg _ ?_);simp at h;simp [BY];grind
 have hx:(decide ((nm.length:Int)<=30)&&decide ((ds.length:Int)<=6)&&decide ((fs.length:Int)<=8))=true:=by simp at h ⊢;grind
 clear h;refine Bb rfl<|Ak (λi:Nat=>[(3,.imm (.int .i64 i)),(1,.ref 1 0)]) (λ_=>[(1,some (.immb 43 3 (dMdc ⟨nm,ds,fs⟩)))]) [2,3] (λi=>ds.length-i)
  (λi=>i<=ds.length/\ds.all Eb=(ds.drop i).all Eb) 0 ⟨AJ _,rfl⟩ AK A9 rfl λi hi ih=>?_
 refine Bb rfl<|Ab rfl (λh=>?_) (λh=>?_)
 ·simp at h;obtain ⟨c,hc⟩:=Ao h;have e:=hi.2;rw [Av hc] at e;refine Bb rfl<|SA rfl (Fx hc)<|AQ rfl<|Aj rfl (λ_=>UG c) (by simp)<|AQ rfl<|Ab rfl (λh=>?_) (λh=>?_)
  ·refine Bb rfl<|Aa rfl rfl (congrArg _ ?_);simp at h;simp [BY,e,h]
  ·refine Bb rfl ?_;simp at h;exact Ac (ih (i+1) (by omega) ⟨by omega,by rw [e];simp [h]⟩) ⟨AU,A9⟩ A9 rfl
 simp at h;have hds:ds.all Eb=true:=by rw [hi.2,Bo (by omega)];rfl
 clear ih hi h;refine Bb rfl<|Ak (λi:Nat=>[(4,.imm (.int .i64 i)),(1,.ref 1 0)]) (λ_=>[(1,some (.immb 43 3 (dMdc ⟨nm,ds,fs⟩)))]) [2,3] (λi=>fs.length-i)
  (λi=>i<=fs.length/\fs.all Ez=(fs.drop i).all Ez) 0 ⟨AJ _,rfl⟩ AK A9 rfl λi hi ih=>?_
 refine Bb rfl<|Ab rfl (λh=>?_) (λh=>?_)
 ·simp at h;obtain ⟨c,hc⟩:=Ao h;have e:=hi.2;rw [Av hc] at e;refine Bb rfl<|SA rfl (Fx hc) ?_;obtain ⟨fnm,fpa,⟨s1,n1,x1,p1⟩,⟨s2,n2,x2,p2⟩,⟨op,n3,x3,ks,p3⟩⟩:=c;refine AQ rfl<|Aj rfl (λ_=>Gc (.mk s1 n1 x1 p1)) (by simp [Am])<|AQ rfl<|Aj rfl (λ_=>Gc (.mk s2 n2 x2 p2)) (by simp [Am])<|AQ rfl<|Aj rfl (λ_=>N9 (.mk op n3 x3 ks p3)) (by simp [Am])<|AQ rfl<|Ab rfl (λh=>?_) (λh=>?_)
  ·refine Bb rfl<|Aa rfl rfl (congrArg _ ?_);simp at h;have:Ez ⟨fnm,fpa,.mk s1 n1 x1 p1,.mk s2 n2 x2 p2,.mk op n3 x3 ks p3⟩=false:=by simp [Ez];grind
   simp [BY,e,this]
  ·refine Bb rfl ?_;simp at h;have:Ez ⟨fnm,fpa,.mk s1 n1 x1 p1,.mk s2 n2 x2 p2,.mk op n3 x3 ks p3⟩=true:=by simp [Ez];grind
   exact Ac (ih (i+1) (by omega) ⟨by omega,by rw [e];simp [this]⟩) ⟨AU,A9⟩ A9 rfl
 ·refine Bb rfl<|Aa rfl rfl (congrArg _ ?_);simp at h;simp only [BY];rw [hds,hi.2,Bo (by omega)];simpa using hx.symm
def Gl:V:=.iface 293 (.agg [])
def gT:TT:=YC++[
 (293,⟨.struct [],true,0,0,[]⟩),
 (195,⟨.struct [(0,3),(1,3)],true,2,16,[.imm (.int .i64 0),.imm (.int .i64 0)]⟩),
 (1,⟨.func,false,1,8,[.imm .nilfn]⟩)]
theorem Bh:TTok prog gT:=.of_eq (l:=[4,3,9,49,25,182,45,47,5,23,22,73,46,180,71,43,178,40,41,113,111,28,293,195,1]) (by kernel_rfl)
theorem td (path:List Pt) (h:run gT n 300 path todo env st ids [] = .at k env' st' ids' ob) (hob:A4 ob) (hd:Tq1 n F Q k env' st' ids'):Tq2 n F Q todo env st ids:=KC Bh Fi 300 path h hob hd
theorem Hl (h:run gT n 300 [] todo env st ids [] = .at k env' st' ids' ob) (hd:Tq1 n F Q k env' st' ids') (hob:A4 ob:=by simp):Tq2 n F Q todo env st ids:=td [] h hob hd
theorem tdqc (h:run gT n 300 [] todo env st ids [] = .at k env' st' ids' ob) (hd:Tq1 n F Q k env' st' ids') (hob:A4 ob:=by simp [Am]):Tq2 n F Q todo env st ids:=td [] h hob hd
theorem tg (path:List Pt) (h:run gT n 300 path todo env st ids [] = .at k env' st' ids' ob) (hob:A4 ob) (hd:Tq1 n F Q k env' st' ids'):Tq1 n F Q todo env st ids:=JL Bh Fi 300 path h hob hd
theorem C3 (h:run gT n 300 [] todo env st ids [] = .at k env' st' ids' ob) (hd:Tq1 n F Q k env' st' ids') (hob:A4 ob:=by simp):Tq1 n F Q todo env st ids:=tg [] h hob hd
theorem tgqc (h:run gT n 300 [] todo env st ids [] = .at k env' st' ids' ob) (hd:Tq1 n F Q k env' st' ids') (hob:A4 ob:=by simp [Am]):Tq1 n F Q todo env st ids:=tg [] h hob hd
theorem ti (h:FO gT n env todo=some ⟨es,m,sz,e,g,ob,some t,todo'⟩) (hc:Am g->0<=m/\es[m.toNat]?=some c/\c.length=sz) (hob:A4 ob) (hk:Tq1 n F Q todo' ((t,gD g (.ip e c 0))::env) st ids):Tq1 n F Q todo env st ids:=Ht Bh h hc hob hk
theorem yW (h:FO gT n env todo=some ⟨es,(i:Int),sz,e,g,ob,some t,todo'⟩) (hg:es[i]?=some c) (hk:Tq1 n F Q todo' ((t,gD g (.ip e c 0))::env) st ids) (hl:c.length=sz:=by simp) (hob:A4 ob:=by simp):Tq1 n F Q todo env st ids:=ti h (λ_=>⟨by omega,by simpa using hg,hl⟩) hob hk
theorem tizc (h:FO gT n env todo=some ⟨es,(i:Int),sz,e,g,ob,some t,todo'⟩) (hg:es[i]?=some c) (hk:Tq1 n F Q todo' ((t,gD g (.ip e c 0))::env) st ids) (hl:c.length=sz:=by simp) (hob:A4 ob:=by simp [Am]):Tq1 n F Q todo env st ids:=ti h (λ_=>⟨by omega,by simpa using hg,hl⟩) hob hk
theorem mQ:Tq3 254 [.bool true] (.tup []):=by
 exact Ad Bh func254 rfl [1,2]<|tg [.a] rfl (by simp)<|BR ⟨_,AK⟩
abbrev Tq4:=Hy prog
theorem vD:Tq4 254 [.imm (.bool false)] [] (.pan Gl):=by
 exact Ad Bh func254 rfl [1,2]<|tg [.a] rfl (by simp)<|IY rfl rfl rfl rfl
theorem BI (b:Bool) (h:b=true):Tq3 254 [.bool b] (.tup []):=by subst h;exact mQ
theorem Cs (b:Bool) (h:b=false):Tq4 254 [.imm (.bool b)] [] (.pan Gl):=by subst h;exact vD
def CT (a b:Int):Blk:=.immb 195 2 [.int .i64 a,.int .i64 b]
theorem Hz (n d x:Int) (h0:1<=n) (h1:n<=4611686018427387904) (hx:x<=d):Tq4 190 [.ref 1 0,.imm (.int .i64 x)] [(1,some (CT n d))] (.ret (.imm (.tup [])) [(1,some (CT (n-1) d))]):=by
 have hw:IntKind.i64.wrap (n-1)=n-1:=GR (by omega) (by omega);refine Ad Bh func190 rfl [2,3]<|C3 rfl<|Aj rfl (λ_=>BI _ (by simp [hw];omega)) (by simp)<|C3 rfl<|BR ⟨_,rfl,rfl,?_⟩;simp only [hw];exact A9
theorem Q0 (n d x:Int) (h0 : -1<=n) (h1:n<=4611686018427387904) (hx:n<1\/d<x):Tq4 190 [.ref 1 0,.imm (.int .i64 x)] [(1,some (CT n d))] (.pan Gl):=by
 have hw:IntKind.i64.wrap (n-1)=n-1:=GR (by omega) (by omega);exact Ad Bh func190 rfl [2,3]<|C3 rfl<|AD [] rfl (by simp) (Cs _ (by simp [hw];omega)) trivial rfl rfl
theorem G8 {t:Ty} (h:ps[i]?=some t):A2 (ps.drop i)=Bl t+A2 (ps.drop (i+1)):=by rw [Av h];rfl
theorem Lb:∀(t:Ty) (n:Int),(Bl t:Int)<=n->n<=4611686018427387904->Tq4 247 [.ref 1 0,.imm (.agg (dTyc t))] [(1,some (CT n 0))] (.ret (.imm (.tup [])) [(1,some (CT (n-Bl t) 0))])
 | .mk s m x ps,n,h0,h1=>by
  refine EX 1 rfl λhok=>?_;have hv:ps.length<=9223372036854775807:=by
   simp [CV,F0,dTyc,maxLen] at hok;have:=hok.1;omega
  refine Ad Bh func247 rfl [2,3,4] ?_;have hN:(1:Int)+A2 ps<=n:=by simp only [Bl] at h0;omega
  refine C3 rfl<|Ae rfl (Hz n 0 0 (by omega) h1 (by decide)) Ax rfl<|C3 rfl<|Ak (λi:Nat=>[(11,.imm (.int .i64 i)),(10,.imm (.int .i64 ps.length)),(9,.imm (.sl (AA ps))),(0,.ref 1 0)]) (λi=>[(1,some (CT (n-1-A2 (ps.take i)) 0))]) [2,3,4] (λi=>ps.length-i)
   (λi=>i<=ps.length) 0 (AJ _) ⟨rfl,BB (by simp),AK⟩ ⟨by simp [A2];rfl,trivial⟩ rfl λi hi ih=>?_
  refine Hl rfl<|Ab rfl (λh=>?_) (λh=>?_)
  ·simp at h;obtain ⟨t,ht⟩:=Ao h;have hnt:=EU ht;have hnd:=G8 ht;have htk:(A2 (ps.take (i+1)):Int)=A2 (ps.take i)+Bl t:=by rw [Bp ht,En];simp [A2]
   exact Hl rfl<|yW rfl (AE ht)<|C3 rfl<|Ae rfl (Lb t (n-1-A2 (ps.take i)) (by omega) (by omega)) Ax rfl<|C3 rfl<|Ac (ih (i+1) (by omega) (by omega)) ⟨AU,AC⟩ ⟨congrArg (λz=>CT z 0) (by omega),trivial⟩ rfl
  ·refine Hl rfl ?_;simp at h;refine BR ⟨_,rfl,rfl,⟨?_,trivial⟩⟩;rw [Db (by omega)];simp only [Bl];exact congrArg (λz=>some (some (CT z 0))) (by omega)
termination_by t=>SizeOf.sizeOf t
decreasing_by
 all_goals
  have:=Cj (AF ht);simp_wf;omega
theorem XI:∀(t:Ty) (n:Int),n<Bl t -> -1<=n->n<=4611686018427387904->Tq4 247 [.ref 1 0,.imm (.agg (dTyc t))] [(1,some (CT n 0))] (.pan Gl)
 | .mk s m x ps,n,h0,hm1,h1=>by
  refine EX 1 rfl λhok=>?_;have hv:ps.length<=9223372036854775807:=by
   simp [CV,F0,dTyc,maxLen] at hok;have:=hok.1;omega
  refine Ad Bh func247 rfl [2,3,4] ?_;have hN:n<(1:Int)+A2 ps:=by simp only [Bl] at h0;omega
  refine C3 rfl ?_;by_cases hn:n<1
  ·exact AD [(1,1)] rfl (by simp) (Q0 n 0 0 (by omega) h1 (.inl hn)) Ax rfl rfl
  refine Ae rfl (Hz n 0 0 (by omega) h1 (by decide)) Ax rfl<|C3 rfl<|Ak (λi:Nat=>[(11,.imm (.int .i64 i)),(10,.imm (.int .i64 ps.length)),(9,.imm (.sl (AA ps))),(0,.ref 1 0)]) (λi=>[(1,some (CT (n-1-A2 (ps.take i)) 0))]) [2,3,4] (λi=>ps.length-i)
   (λi=>i<=ps.length/\(A2 (ps.take i):Int)<=n-1/\n-1<A2 (ps.take i)+A2 (ps.drop i)) 0 ⟨AJ _,by simp [A2];omega,by simp [A2];omega⟩ ⟨rfl,BB (by simp),AK⟩ ⟨by simp [A2];rfl,trivial⟩ rfl λi hi ih=>?_
  refine Hl rfl<|Ab rfl (λh=>?_) (λh=>?_)
  ·simp at h;obtain ⟨t,ht⟩:=Ao h;have hnt:=EU ht;have hnd:=G8 ht;have htk:(A2 (ps.take (i+1)):Int)=A2 (ps.take i)+Bl t:=by rw [Bp ht,En];simp [A2]
   refine Hl rfl<|yW rfl (AE ht)<|C3 rfl ?_;by_cases hle:(Bl t:Int)<=n-1-A2 (ps.take i)
   ·exact Ae rfl (Lb t (n-1-A2 (ps.take i)) (by omega) (by omega)) Ax rfl<|C3 rfl<|Ac (ih (i+1) (by omega) ⟨by omega,by omega,by omega⟩) ⟨AU,AC⟩ ⟨congrArg (λz=>CT z 0) (by omega),trivial⟩ rfl
   ·exact AD [(1,1)] rfl (by simp) (XI t (n-1-A2 (ps.take i)) (by omega) (by omega) (by omega)) Ax rfl rfl
  ·exfalso;simp at h;have:=hi.2;rw [Db (by omega),Bo (by omega)] at this;simp [A2] at this;omega
termination_by t=>SizeOf.sizeOf t
decreasing_by
 all_goals
  have:=Cj (AF ht);simp_wf;omega
theorem Nj:∀(t:Ty) (n:Int),(Bl t:Int)<=n->n<=4611686018427387904->Tq4 284 [.ref 1 0,.imm (.agg (dTyc t))] [(1,some (CT n 0))] (.ret (.imm (.tup [])) [(1,some (CT (n-Bl t) 0))])
 | .mk s m x ps,n,h0,h1=>by
  refine EX 1 rfl λhok=>?_;have hv:ps.length<=9223372036854775807:=by
   simp [CV,F0,dTyc,maxLen] at hok;have:=hok.1;omega
  refine Ad Bh func284 rfl [2,3,4] ?_;have hN:(1:Int)+A2 ps<=n:=by simp only [Bl] at h0;omega
  refine C3 rfl<|Ae rfl (Hz n 0 0 (by omega) h1 (by decide)) Ax rfl<|C3 rfl<|Ak (λi:Nat=>[(11,.imm (.int .i64 i)),(10,.imm (.int .i64 ps.length)),(9,.imm (.sl (AA ps))),(0,.ref 1 0)]) (λi=>[(1,some (CT (n-1-A2 (ps.take i)) 0))]) [2,3,4] (λi=>ps.length-i)
   (λi=>i<=ps.length) 0 (AJ _) ⟨rfl,BB (by simp),AK⟩ ⟨by simp [A2];rfl,trivial⟩ rfl λi hi ih=>?_
  refine Hl rfl<|Ab rfl (λh=>?_) (λh=>?_)
  ·simp at h;obtain ⟨t,ht⟩:=Ao h;have hnt:=EU ht;have hnd:=G8 ht;have htk:(A2 (ps.take (i+1)):Int)=A2 (ps.take i)+Bl t:=by rw [Bp ht,En];simp [A2]
   exact Hl rfl<|yW rfl (AE ht)<|C3 rfl<|Ae rfl (Nj t (n-1-A2 (ps.take i)) (by omega) (by omega)) Ax rfl<|C3 rfl<|Ac (ih (i+1) (by omega) (by omega)) ⟨AU,AC⟩ ⟨congrArg (λz=>CT z 0) (by omega),trivial⟩ rfl
  ·refine Hl rfl ?_;simp at h;refine BR ⟨_,rfl,rfl,⟨?_,trivial⟩⟩;rw [Db (by omega)];simp only [Bl];exact congrArg (λz=>some (some (CT z 0))) (by omega)
termination_by t=>SizeOf.sizeOf t
decreasing_by
 all_goals
  have:=Cj (AF ht);simp_wf;omega
theorem fC:∀(t:Ty) (n:Int),n<Bl t -> -1<=n->n<=4611686018427387904->Tq4 284 [.ref 1 0,.imm (.agg (dTyc t))] [(1,some (CT n 0))] (.pan Gl)
 | .mk s m x ps,n,h0,hm1,h1=>by
  refine EX 1 rfl λhok=>?_;have hv:ps.length<=9223372036854775807:=by
   simp [CV,F0,dTyc,maxLen] at hok;have:=hok.1;omega
  refine Ad Bh func284 rfl [2,3,4] ?_;have hN:n<(1:Int)+A2 ps:=by simp only [Bl] at h0;omega
  refine C3 rfl ?_;by_cases hn:n<1
  ·exact AD [(1,1)] rfl (by simp) (Q0 n 0 0 (by omega) h1 (.inl hn)) Ax rfl rfl
  refine Ae rfl (Hz n 0 0 (by omega) h1 (by decide)) Ax rfl<|C3 rfl<|Ak (λi:Nat=>[(11,.imm (.int .i64 i)),(10,.imm (.int .i64 ps.length)),(9,.imm (.sl (AA ps))),(0,.ref 1 0)]) (λi=>[(1,some (CT (n-1-A2 (ps.take i)) 0))]) [2,3,4] (λi=>ps.length-i)
   (λi=>i<=ps.length/\(A2 (ps.take i):Int)<=n-1/\n-1<A2 (ps.take i)+A2 (ps.drop i)) 0 ⟨AJ _,by simp [A2];omega,by simp [A2];omega⟩ ⟨rfl,BB (by simp),AK⟩ ⟨by simp [A2];rfl,trivial⟩ rfl λi hi ih=>?_
  refine Hl rfl<|Ab rfl (λh=>?_) (λh=>?_)
  ·simp at h;obtain ⟨t,ht⟩:=Ao h;have hnt:=EU ht;have hnd:=G8 ht;have htk:(A2 (ps.take (i+1)):Int)=A2 (ps.take i)+Bl t:=by rw [Bp ht,En];simp [A2]
   refine Hl rfl<|yW rfl (AE ht)<|C3 rfl ?_;by_cases hle:(Bl t:Int)<=n-1-A2 (ps.take i)
   ·exact Ae rfl (Nj t (n-1-A2 (ps.take i)) (by omega) (by omega)) Ax rfl<|C3 rfl<|Ac (ih (i+1) (by omega) ⟨by omega,by omega,by omega⟩) ⟨AU,AC⟩ ⟨congrArg (λz=>CT z 0) (by omega),trivial⟩ rfl
   ·exact AD [(1,1)] rfl (by simp) (fC t (n-1-A2 (ps.take i)) (by omega) (by omega) (by omega)) Ax rfl rfl
  ·exfalso;simp at h;have:=hi.2;rw [Db (by omega),Bo (by omega)] at this;simp [A2] at this;omega
termination_by t=>SizeOf.sizeOf t
decreasing_by
 all_goals
  have:=Cj (AF ht);simp_wf;omega
theorem U9:∀(ts:List Tm) (l d:Int),l<0->Bs ts l d<0
 | [],l,d,h=>h
 | t::r,l,d,h=>by simp only [Bs];rw [if_neg (by omega)];exact h
theorem La:∀(t:Tm) (n dp x:Int),0<=n->n<=4611686018427387904->0<=dp->dp<=1000000->0<=x->x<=1000001->0<=AY t n (dp-x+1)->Tq4 135 [.ref 1 0,.imm (.agg (dTmc t)),.imm (.int .i64 x)] [(1,some (CT n dp))] (.ret (.imm (.tup [])) [(1,some (CT (AY t n (dp-x+1)) dp))])
 | .mk op nn tx ks ps,n,dp,x,h0,h1,hd0,hd1,hx0,hx1,hw=>by
  refine EX 1 rfl λhok=>?_;have hv:ks.length<=9223372036854775807:=by
   simp [CV,F0,dTmc,maxLen] at hok;have:=hok.1;omega
  refine Ad Bh func135 rfl [2,3,4] ?_;have hst:¬(n<1\/dp-x+1<1)->AY (.mk op nn tx ks ps) n (dp-x+1)=Bs ks (n-1) (dp-x):=λh=>by
   simp only [AY];rw [if_neg h];congr 1;omega
  refine C3 rfl ?_;by_cases hs:n<1\/dp-x+1<1
  ·exfalso;simp only [AY] at hw;rw [if_pos hs] at hw;omega
  have hs':1<=n/\x<=dp:=by omega
  refine Ae rfl (Hz n dp x (by omega) h1 (by omega)) Ax rfl<|C3 rfl<|Ak (λy:Nat×Int=>[(14,.imm (.int .i64 y.1)),(13,.imm (.int .i64 ks.length)),(12,.imm (.sl (EQ ks))),(0,.ref 1 0),(2,.imm (.int .i64 x))]) (λy=>[(1,some (CT y.2 dp))]) [2,3,4] (λy=>ks.length-y.1)
   (λy=>y.1<=ks.length/\AY (.mk op nn tx ks ps) n (dp-x+1)=Bs (ks.drop y.1) y.2 (dp-x)/\0<=y.2/\y.2<=n) (0,n-1) ⟨AJ _,by simp only [Xg];exact hst hs,by simp only;omega,by simp only;omega⟩ ⟨rfl,BB (by simp),AC⟩ A9 rfl λy hi ih=>?_
  obtain ⟨i,m⟩:=y;obtain ⟨hi1,hi2,hi3,hi4⟩:=hi;simp only at hi1 hi2 hi3 hi4;refine Hl rfl<|Ab rfl (λh=>?_) (λh=>?_)
  ·simp at h;obtain ⟨t,ht⟩:=Ao h;rw [Av ht] at hi2;simp only [Bs] at hi2;rw [if_pos hi3] at hi2;have hb:=Gn t m (dp-x);have hx:IntKind.i64.wrap (x+1)=x+1:=GR (by omega) (by omega);refine Hl rfl<|yW rfl (Eu ht)<|C3 rfl ?_;have hdx:dp-(x+1)+1=dp-x:=by omega
   have hz:0<=AY t m (dp-x):=by
    rw [hi2] at hw;rcases Int.lt_or_le (AY t m (dp-x)) 0 with hl | hl
    ·exfalso;have:=U9 (ks.drop (i+1)) (AY t m (dp-x)) (dp-x) hl;omega
    ·exact hl
   exact Ae rfl (La t m dp (IntKind.i64.wrap (x+1)) hi3 (by omega) hd0 hd1 (by omega) (by omega) (by rw [hx,hdx];exact hz)) Ax rfl<|C3 rfl<|Ac (ih (i+1,AY t m (dp-x)) (by simp only;omega) ⟨by simp only;omega,hi2,by simp only;exact hz,by simp only;omega⟩) ⟨AU,Cb⟩ ⟨congrArg (λz=>CT z dp) (by simp only [hx,hdx]),trivial⟩ rfl
  ·refine Hl rfl ?_;simp at h;refine BR ⟨_,rfl,rfl,⟨?_,trivial⟩⟩;rw [Bo (by omega)] at hi2;simp only [Bs] at hi2;rw [hi2];rfl
termination_by t=>SizeOf.sizeOf t
decreasing_by
 all_goals
  have:=Cj (AF ht);simp_wf;omega
theorem XH:∀(t:Tm) (n dp x:Int),0<=n->n<=4611686018427387904->0<=dp->dp<=1000000->0<=x->x<=1000001->AY t n (dp-x+1)<0->Tq4 135 [.ref 1 0,.imm (.agg (dTmc t)),.imm (.int .i64 x)] [(1,some (CT n dp))] (.pan Gl)
 | .mk op nn tx ks ps,n,dp,x,h0,h1,hd0,hd1,hx0,hx1,hw=>by
  refine EX 1 rfl λhok=>?_;have hv:ks.length<=9223372036854775807:=by
   simp [CV,F0,dTmc,maxLen] at hok;have:=hok.1;omega
  refine Ad Bh func135 rfl [2,3,4] ?_;have hst:¬(n<1\/dp-x+1<1)->AY (.mk op nn tx ks ps) n (dp-x+1)=Bs ks (n-1) (dp-x):=λh=>by
   simp only [AY];rw [if_neg h];congr 1;omega
  refine C3 rfl ?_;by_cases hs:n<1\/dp-x+1<1
  ·exact AD [(1,1)] rfl (by simp) (Q0 n dp x (by omega) h1 (by omega)) Ax rfl rfl
  have hs':1<=n/\x<=dp:=by omega
  refine Ae rfl (Hz n dp x (by omega) h1 (by omega)) Ax rfl<|C3 rfl<|Ak (λy:Nat×Int=>[(14,.imm (.int .i64 y.1)),(13,.imm (.int .i64 ks.length)),(12,.imm (.sl (EQ ks))),(0,.ref 1 0),(2,.imm (.int .i64 x))]) (λy=>[(1,some (CT y.2 dp))]) [2,3,4] (λy=>ks.length-y.1)
   (λy=>y.1<=ks.length/\AY (.mk op nn tx ks ps) n (dp-x+1)=Bs (ks.drop y.1) y.2 (dp-x)/\0<=y.2/\y.2<=n) (0,n-1) ⟨AJ _,by simp only [Xg];exact hst hs,by simp only;omega,by simp only;omega⟩ ⟨rfl,BB (by simp),AC⟩ A9 rfl λy hi ih=>?_
  obtain ⟨i,m⟩:=y;obtain ⟨hi1,hi2,hi3,hi4⟩:=hi;simp only at hi1 hi2 hi3 hi4;refine Hl rfl<|Ab rfl (λh=>?_) (λh=>?_)
  ·simp at h;obtain ⟨t,ht⟩:=Ao h;rw [Av ht] at hi2;simp only [Bs] at hi2;rw [if_pos hi3] at hi2;have hb:=Gn t m (dp-x);have hx:IntKind.i64.wrap (x+1)=x+1:=GR (by omega) (by omega);refine Hl rfl<|yW rfl (Eu ht)<|C3 rfl ?_;have hdx:dp-(x+1)+1=dp-x:=by omega
   by_cases hz:0<=AY t m (dp-x)
   ·exact Ae rfl (La t m dp (IntKind.i64.wrap (x+1)) hi3 (by omega) hd0 hd1 (by omega) (by omega) (by rw [hx,hdx];exact hz)) Ax rfl<|C3 rfl<|Ac (ih (i+1,AY t m (dp-x)) (by simp only;omega) ⟨by simp only;omega,hi2,by simp only;exact hz,by simp only;omega⟩) ⟨AU,Cb⟩ ⟨congrArg (λz=>CT z dp) (by simp only [hx,hdx]),trivial⟩ rfl
   ·exact AD [(1,1)] rfl (by simp) (XH t m dp (IntKind.i64.wrap (x+1)) hi3 (by omega) hd0 hd1 (by omega) (by omega) (by rw [hx,hdx];omega)) Ax rfl rfl
  ·exfalso;simp at h;rw [Bo (by omega)] at hi2;simp only [Bs] at hi2;omega
termination_by t=>SizeOf.sizeOf t
decreasing_by
 all_goals
  have:=Cj (AF ht);simp_wf;omega
theorem cB {pos:Nat} {c:UInt8} (h:s[pos]?=some c) (hc:c.toNat<128):EZ s pos=(c.toNat,1):=by
 have hg:(ByteArray.mk s.toArray).get! pos=c:=by simp [ByteArray.get!,h]
 simp only [EZ,Utf8.decode,Iq,hg];rw [if_pos hc]
theorem Ym {pos:Nat} {c:UInt8} (h:s[pos]?=some c) (hc:128<=c.toNat):128<=(EZ s pos).1:=by
 have hg:(ByteArray.mk s.toArray).get! pos=c:=by simp [ByteArray.get!,h]
 simp only [EZ,Utf8.decode,Iq,hg,Utf8.runeError];rw [if_neg (by omega)]
 repeat' split
 all_goals first | (simp only;omega) | decide | (simp only [Ap,decide_eq_true_eq] at *;omega)
theorem Td (s:Str):Tq3 131 [.str s] (.bool (F2 s)):=by
 refine Ad Bh func131 rfl [1,2]<|C3 rfl<|sO Bh rfl<|C3 rfl<|Ak (λi:Nat=>[(6,.iter 1)]) (λi=>[(1,some (.siter s i))]) [2] (λi=>s.length-i) (λi=>i<=s.length/\F2 s=F2 (s.drop i)) 0
  ⟨AJ _,rfl⟩ A9 A9 rfl λi hi ih=>?_
 refine Hl rfl ?_;by_cases hl:i<s.length
 ·obtain ⟨c,hc⟩:=Ao hl;have e:=hi.2;rw [OF hc] at e;by_cases hlow:c.toNat<128
  ·refine fF rfl hl (cB hc hlow)<|tg [.a] rfl (by simp)<|Ab rfl (λh=>?_) (λh=>?_)
   ·refine Hl rfl<|Aa rfl rfl (congrArg _ ?_);rw [e];simp at h;simp [UInt8.le_iff_toNat_le];omega
   ·refine Hl rfl<|Ac (ih (i+1) (by omega) ⟨by omega,?_⟩) A9 A9 rfl;rw [e];simp at h;simp [UInt8.le_iff_toNat_le];omega
  ·refine fF (dc:=EZ s i) rfl hl rfl ?_;have hh:=Ym hc (by omega);refine tg [.a] rfl (by simp)<|Ab rfl (λh=>?_) (λh=>?_)
   ·refine Hl rfl<|Aa rfl rfl (congrArg _ ?_);rw [e];simp [UInt8.le_iff_toNat_le];omega
   ·exfalso;simp at h;omega
 ·refine xF rfl (by omega)<|tg [.a] rfl (by simp)<|Aa rfl rfl (congrArg _ ?_);rw [hi.2,Bo (by omega)];rfl
theorem aF (s:Str) (h:Rn s=false):Tq3 132 [.str s] (.bool false):=by
 simp only [Rn,IR,BE,Kk] at h;exact Ad Bh func132 rfl [1,2]<|tg [.f,.f,.f,.f,.f,.f,.f,.f,.f,.f,.f,.f,.f,.f,.f,.f,.f,.f,.f,.f,.f,.f,.f,.f,.f,.f,.f,.f,.f] rfl (by simp at h;simp;grind)<|Aa rfl rfl rfl
theorem kI:Tq3 132 [.str [98,111,111,108]] (.bool true):=by
 exact Ad Bh func132 rfl [1,2]<|tg [.a,.a] rfl (by simp)<|Aa rfl rfl rfl
theorem kH:Tq3 132 [.str [99,101,108,108]] (.bool true):=by
 exact Ad Bh func132 rfl [1,2]<|tg [.a,.a,.a] rfl (by simp)<|Aa rfl rfl rfl
theorem kG:Tq3 132 [.str [99,104,97,110]] (.bool true):=by
 exact Ad Bh func132 rfl [1,2]<|tg [.a,.a,.a,.a] rfl (by simp)<|Aa rfl rfl rfl
theorem kF:Tq3 132 [.str [101,108,115,101]] (.bool true):=by
 exact Ad Bh func132 rfl [1,2]<|tg (CU 4 [.a]) rfl (by simp)<|Aa rfl rfl rfl
theorem kE:Tq3 132 [.str [102,97,108,115,101]] (.bool true):=by
 exact Ad Bh func132 rfl [1,2]<|tg (CU 5 [.a]) rfl (by simp)<|Aa rfl rfl rfl
theorem kD:Tq3 132 [.str [102,117,110]] (.bool true):=by
 exact Ad Bh func132 rfl [1,2]<|tg (CU 6 [.a]) rfl (by simp)<|Aa rfl rfl rfl
theorem kC:Tq3 132 [.str [103,101,116]] (.bool true):=by
 exact Ad Bh func132 rfl [1,2]<|tg (CU 7 [.a]) rfl (by simp)<|Aa rfl rfl rfl
theorem kB:Tq3 132 [.str [105,102]] (.bool true):=by
 exact Ad Bh func132 rfl [1,2]<|tg (CU 8 [.a]) rfl (by simp)<|Aa rfl rfl rfl
theorem kA:Tq3 132 [.str [105,110]] (.bool true):=by
 exact Ad Bh func132 rfl [1,2]<|tg (CU 9 [.a]) rfl (by simp)<|Aa rfl rfl rfl
theorem jZ:Tq3 132 [.str [105,110,112,117,116]] (.bool true):=by
 exact Ad Bh func132 rfl [1,2]<|tg (CU 10 [.a]) rfl (by simp)<|Aa rfl rfl rfl
theorem aX:Tq3 132 [.str [105,110,116]] (.bool true):=by
 exact Ad Bh func132 rfl [1,2]<|tg (CU 11 [.a]) rfl (by simp)<|Aa rfl rfl rfl
theorem aW:Tq3 132 [.str [106,111,105,110]] (.bool true):=by
 exact Ad Bh func132 rfl [1,2]<|tg (CU 12 [.a]) rfl (by simp)<|Aa rfl rfl rfl
theorem aV:Tq3 132 [.str [108,101,116]] (.bool true):=by
 exact Ad Bh func132 rfl [1,2]<|tg (CU 13 [.a]) rfl (by simp)<|Aa rfl rfl rfl
theorem aU:Tq3 132 [.str [109,97,116,99,104]] (.bool true):=by
 exact Ad Bh func132 rfl [1,2]<|tg (CU 14 [.a]) rfl (by simp)<|Aa rfl rfl rfl
theorem aT:Tq3 132 [.str [109,111,100,117,108,101]] (.bool true):=by
 exact Ad Bh func132 rfl [1,2]<|tg (CU 15 [.a]) rfl (by simp)<|Aa rfl rfl rfl
theorem aS:Tq3 132 [.str [111,117,116]] (.bool true):=by
 exact Ad Bh func132 rfl [1,2]<|tg (CU 16 [.a]) rfl (by simp)<|Aa rfl rfl rfl
theorem aR:Tq3 132 [.str [112,97,117,115,101]] (.bool true):=by
 exact Ad Bh func132 rfl [1,2]<|tg (CU 17 [.a]) rfl (by simp)<|Aa rfl rfl rfl
theorem aQ:Tq3 132 [.str [112,117,116]] (.bool true):=by
 exact Ad Bh func132 rfl [1,2]<|tg (CU 18 [.a]) rfl (by simp)<|Aa rfl rfl rfl
theorem aP:Tq3 132 [.str [114,101,115,101,116]] (.bool true):=by
 exact Ad Bh func132 rfl [1,2]<|tg (CU 19 [.a]) rfl (by simp)<|Aa rfl rfl rfl
theorem aO:Tq3 132 [.str [115,101,110,100]] (.bool true):=by
 exact Ad Bh func132 rfl [1,2]<|tg (CU 20 [.a]) rfl (by simp)<|Aa rfl rfl rfl
theorem aN:Tq3 132 [.str [115,104,105,102,116]] (.bool true):=by
 exact Ad Bh func132 rfl [1,2]<|tg (CU 21 [.a]) rfl (by simp)<|Aa rfl rfl rfl
theorem aM:Tq3 132 [.str [115,112,97,119,110]] (.bool true):=by
 exact Ad Bh func132 rfl [1,2]<|tg (CU 22 [.a]) rfl (by simp)<|Aa rfl rfl rfl
theorem aL:Tq3 132 [.str [116,97,107,101]] (.bool true):=by
 exact Ad Bh func132 rfl [1,2]<|tg (CU 23 [.a]) rfl (by simp)<|Aa rfl rfl rfl
theorem aK:Tq3 132 [.str [116,97,115,107]] (.bool true):=by
 exact Ad Bh func132 rfl [1,2]<|tg (CU 24 [.a]) rfl (by simp)<|Aa rfl rfl rfl
theorem aJ:Tq3 132 [.str [116,104,101,110]] (.bool true):=by
 exact Ad Bh func132 rfl [1,2]<|tg (CU 25 [.a]) rfl (by simp)<|Aa rfl rfl rfl
theorem aI:Tq3 132 [.str [116,114,117,101]] (.bool true):=by
 exact Ad Bh func132 rfl [1,2]<|tg (CU 26 [.a]) rfl (by simp)<|Aa rfl rfl rfl
theorem aH:Tq3 132 [.str [116,121,112,101]] (.bool true):=by
 exact Ad Bh func132 rfl [1,2]<|tg (CU 27 [.a]) rfl (by simp)<|Aa rfl rfl rfl
theorem aG:Tq3 132 [.str [117,110,105,116]] (.bool true):=by
 exact Ad Bh func132 rfl [1,2]<|tg (CU 28 [.a]) rfl (by simp)<|Aa rfl rfl rfl
theorem aE (s:Str):Tq3 132 [.str s] (.bool (Rn s)):=by
 cases h:Rn s with
 | false=>exact aF s h
 | true =>
  simp only [Rn,IR,BE,Ha,beq_iff_eq,Bool.or_false] at h;rcases h with rfl | rfl | rfl | rfl | rfl | rfl | rfl | rfl | rfl | rfl | rfl | rfl | rfl | rfl | rfl | rfl | rfl | rfl | rfl | rfl | rfl | rfl | rfl | rfl | rfl | rfl | rfl | rfl
  ·exact kI
  ·exact kH
  ·exact kG
  ·exact kF
  ·exact kE
  ·exact kD
  ·exact kC
  ·exact kB
  ·exact kA
  ·exact jZ
  ·exact aX
  ·exact aW
  ·exact aV
  ·exact aU
  ·exact aT
  ·exact aS
  ·exact aR
  ·exact aQ
  ·exact aP
  ·exact aO
  ·exact aN
  ·exact aM
  ·exact aL
  ·exact aK
  ·exact aJ
  ·exact aI
  ·exact aH
  ·exact aG
theorem GB (s:Str):Tq3 73 [.str s] (.bool (DH s)):=by
 refine Ad Bh func73 rfl [1,2]<|C3 rfl<|Aj rfl (v:=.bool (F2 s)) (λh=>Td s) (by simp [Am])<|C3 rfl<|Aj rfl (v:=.bool (Rn s)) (λh=>aE s) (by simp [Am])<|C3 rfl<|Aa rfl rfl (congrArg _ ?_);cases s with
 | nil=>simp [DH]
 | cons a r=>simp [DH];norm_cast;simp
theorem ER (s:Str):Tq3 183 [.str s] (.bool (EN s)):=by
 refine Ad Bh func183 rfl [1,2]<|tg [] rfl (by cases s with | nil=>simp [Am] | cons a r=>simp [Am];omega)<|Aj rfl (v:=.bool (F2 (s.drop 1))) (λh=>Td _) (by simp [Am])<|C3 rfl<|Aa rfl rfl (congrArg _ ?_);cases s with
 | nil=>simp [EN]
 | cons a r=>simp [EN,UInt8.le_iff_toNat_le,Me];norm_cast;simp
def AW (n:Int):Bool:=decide (-1000000000<=n)&&decide (n<=1000000000)
theorem Jz (n:Int):Tq3 256 [.int .i64 n] (.bool (AW n)):=by
 refine Ad Bh func256 rfl [1,2]<|C3 rfl<|Aa rfl rfl (congrArg _ ?_);simp [AW]
def JF:D:=.imm (.tup [])
theorem LQ (holes:Bool):∀(t:Ty),BL holes t=true->Tq4 248 [.imm (.agg (dTyc t)),.imm (.bool holes)] [] (.ret JF [])
 | .mk s n x ps,hy=>by
  refine EX 0 rfl λhok=>?_;have hv:ps.length<=9223372036854775807:=by
   simp [CV,F0,dTyc,maxLen] at hok;have:=hok.1;omega
  simp only [BL,Vk] at hy;refine Ad Bh func248 rfl [1,2,3] ?_;have J:∀p:Nat,Ct holes s n x ps.length=(((ps.length:Int) == (p:Int))&&(s == 9||n == 0)&&(s == 8||x == []))->Tq2 Tryz.f248.ntmps (D8 []) (JD gT Tryz.f248.results.toList (.ret JF []))
    [.code (FK Tryz.f248 3)] [(4,.imm (.int .i64 p)),(1,.imm (.bool holes)),(2,.ref 1 0)] [(1,some (.immb 25 4 (dTyc (.mk s n x ps))))] [2,3]:=by
   intro p hp;have hc:(((ps.length:Int) == (p:Int))&&(s == 9||n == 0)&&(s == 8||x == []))=true:=by rw [<- hp];exact hy.1
   refine td [] rfl (by simp [Am];grind)<|Aj rfl (λ_=>BI _ ?_) (by simp) ?_
   ·simp at hc ⊢;grind
   refine C3 rfl<|Ak (λi:Nat=>[(69,.imm (.int .i64 i)),(68,.imm (.int .i64 ps.length)),(67,.imm (.sl (AA ps))),(1,.imm (.bool holes)),(2,.ref 1 0)]) (λ_=>[(1,some (.immb 25 4 (dTyc (.mk s n x ps))))]) [2,3] (λi=>ps.length-i)
    (λi=>i<=ps.length/\B9 holes (ps.drop i)=true) 0 ⟨AJ _,hy.2⟩ ⟨rfl,BB (by simp),AC⟩ A9 rfl λi hi ih=>?_
   refine Hl rfl ?_;have hi2:=hi.2;refine Ab rfl (λh=>?_) (λh=>?_)
   ·simp at h;obtain ⟨t,ht⟩:=Ao h;rw [Av ht] at hi2;simp only [B9,Vk] at hi2;exact Hl rfl<|yW rfl (AE ht)<|C3 rfl<|Aq [] [] [] rfl (LQ holes t hi2.1) trivial rfl rfl<|C3 rfl<|Ac (ih (i+1) (by omega) ⟨by omega,hi2.2⟩) ⟨AU,Cb⟩ A9 rfl
   ·exact Hl rfl<|BR ⟨_,AK⟩
  by_cases h1:s=1
  ·subst h1;exact tg [.a,.a,.s] rfl (by simp)<|Ac (J 0 (by simp [Ct])) AC A9 rfl
  by_cases h2:s=2
  ·subst h2;exact tg [.a,.a,.a,.s] rfl (by simp)<|Ac (J 0 (by simp [Ct])) AC A9 rfl
  by_cases h3:s=3
  ·subst h3;exact tg [.a,.a,.a,.s] rfl (by simp)<|Ac (J 0 (by simp [Ct])) AC A9 rfl
  by_cases h4:s=4
  ·subst h4;exact tg (CU 4 [.s]) rfl (by simp)<|Ac (J 2 (by simp [Ct])) AC A9 rfl
  by_cases h5:s=5
  ·subst h5;exact tg (CU 6 [.s]) rfl (by simp)<|Ac (J 1 (by simp [Ct])) AC A9 rfl
  by_cases h6:s=6
  ·subst h6;exact tg (CU 7 [.s]) rfl (by simp)<|Ac (J 1 (by simp [Ct])) AC A9 rfl
  by_cases h7:s=7
  ·subst h7;exact tg (CU 7 [.s]) rfl (by simp)<|Ac (J 1 (by simp [Ct])) AC A9 rfl
  by_cases h8:s=8
  ·subst h8;by_cases hg:EN x=true
   ·exact tg (CU 7 [.a]) rfl (by simp [Am])<|Aj rfl (λ_=>ER x) (by simp)<|C3 rfl<|Aj rfl (λ_=>BI _ hg) (by simp)<|tg [.s] rfl (by simp)<|Ac (J 0 (by simp [Ct,hg])) AC A9 rfl
   ·exfalso;have:=hy.1;simp [Ct] at this;simp at hg;grind
  by_cases h9:s=9
  ·subst h9;by_cases hg:(holes&&Dz n 0 99)=true
   ·exact tg (CU 8 [.a]) rfl (by simp [Am])<|Aj rfl (λ_=>BI _ (by simp [Dz] at hg ⊢;grind)) (by simp)<|tg [.s] rfl (by simp)<|Ac (J 0 (by simp [Ct,Dz] at hg ⊢;grind)) AC A9 rfl
   ·exfalso;have:=hy.1;simp [Ct] at this;simp at hg;grind
  exfalso;have:=hy.1;simp [Ct,h1,h2,h3,h4,h5,h6,h7,h8,h9] at this
termination_by t=>SizeOf.sizeOf t
decreasing_by
 all_goals
  have:=Cj (AF ht);simp_wf;omega
theorem Tc (holes:Bool):∀(t:Ty),BL holes t=false->Tq4 248 [.imm (.agg (dTyc t)),.imm (.bool holes)] [] (.pan Gl)
 | .mk s n x ps,hy=>by
  refine EX 0 rfl λhok=>?_;have hv:ps.length<=9223372036854775807:=by
   simp [CV,F0,dTyc,maxLen] at hok;have:=hok.1;omega
  simp only [BL,Ma] at hy;refine Ad Bh func248 rfl [1,2,3] ?_;have J:∀p:Nat,Ct holes s n x ps.length=(((ps.length:Int) == (p:Int))&&(s == 9||n == 0)&&(s == 8||x == []))->Tq2 Tryz.f248.ntmps (D8 []) (JD gT Tryz.f248.results.toList (.pan Gl))
    [.code (FK Tryz.f248 3)] [(4,.imm (.int .i64 p)),(1,.imm (.bool holes)),(2,.ref 1 0)] [(1,some (.immb 25 4 (dTyc (.mk s n x ps))))] [2,3]:=by
   intro p hp;by_cases hc:(((ps.length:Int) == (p:Int))&&(s == 9||n == 0)&&(s == 8||x == []))=true
   rotate_left
   ·exact td [] rfl (by simp [Am];grind)<|AD [] rfl (by simp) (Cs _ (by simp at hc ⊢;grind)) trivial rfl rfl
   rw [hp,hc] at hy;simp only [Bool.true_eq_false,false_or] at hy;refine td [] rfl (by simp [Am];grind)<|Aj rfl (λ_=>BI _ ?_) (by simp) ?_
   ·simp at hc ⊢;grind
   refine C3 rfl<|Ak (λi:Nat=>[(69,.imm (.int .i64 i)),(68,.imm (.int .i64 ps.length)),(67,.imm (.sl (AA ps))),(1,.imm (.bool holes)),(2,.ref 1 0)]) (λ_=>[(1,some (.immb 25 4 (dTyc (.mk s n x ps))))]) [2,3] (λi=>ps.length-i)
    (λi=>i<=ps.length/\B9 holes (ps.drop i)=false) 0 ⟨AJ _,hy⟩ ⟨rfl,BB (by simp),AC⟩ A9 rfl λi hi ih=>?_
   refine Hl rfl ?_;have hi2:=hi.2;refine Ab rfl (λh=>?_) (λh=>?_)
   ·simp at h;obtain ⟨t,ht⟩:=Ao h;rw [Av ht] at hi2;simp only [B9,Ma] at hi2;refine Hl rfl<|yW rfl (AE ht)<|C3 rfl ?_;by_cases hz:BL holes t=true
    ·exact Aq [] [] [] rfl (LQ holes t hz) trivial rfl rfl<|C3 rfl<|Ac (ih (i+1) (by omega) ⟨by omega,by rw [hz] at hi2;simpa using hi2⟩) ⟨AU,Cb⟩ A9 rfl
    ·exact AD [] rfl (by simp) (Tc holes t (by simpa using hz)) trivial rfl rfl
   ·exfalso;simp at h;rw [Bo (by omega)] at hi2;simp [B9] at hi2
  by_cases h1:s=1
  ·subst h1;exact tg [.a,.a,.s] rfl (by simp)<|Ac (J 0 (by simp [Ct])) AC A9 rfl
  by_cases h2:s=2
  ·subst h2;exact tg [.a,.a,.a,.s] rfl (by simp)<|Ac (J 0 (by simp [Ct])) AC A9 rfl
  by_cases h3:s=3
  ·subst h3;exact tg [.a,.a,.a,.s] rfl (by simp)<|Ac (J 0 (by simp [Ct])) AC A9 rfl
  by_cases h4:s=4
  ·subst h4;exact tg (CU 4 [.s]) rfl (by simp)<|Ac (J 2 (by simp [Ct])) AC A9 rfl
  by_cases h5:s=5
  ·subst h5;exact tg (CU 6 [.s]) rfl (by simp)<|Ac (J 1 (by simp [Ct])) AC A9 rfl
  by_cases h6:s=6
  ·subst h6;exact tg (CU 7 [.s]) rfl (by simp)<|Ac (J 1 (by simp [Ct])) AC A9 rfl
  by_cases h7:s=7
  ·subst h7;exact tg (CU 7 [.s]) rfl (by simp)<|Ac (J 1 (by simp [Ct])) AC A9 rfl
  by_cases h8:s=8
  ·subst h8;by_cases hg:EN x=true
   ·exact tg (CU 7 [.a]) rfl (by simp [Am])<|Aj rfl (λ_=>ER x) (by simp)<|C3 rfl<|Aj rfl (λ_=>BI _ hg) (by simp)<|tg [.s] rfl (by simp)<|Ac (J 0 (by simp [Ct,hg])) AC A9 rfl
   ·exact tg (CU 7 [.a]) rfl (by simp [Am])<|Aj rfl (λ_=>ER x) (by simp)<|C3 rfl<|AD [] rfl (by simp) (Cs _ (by simpa using hg)) trivial rfl rfl
  by_cases h9:s=9
  ·subst h9;by_cases hg:(holes&&Dz n 0 99)=true
   ·exact tg (CU 8 [.a]) rfl (by simp [Am])<|Aj rfl (λ_=>BI _ (by simp [Dz] at hg ⊢;grind)) (by simp)<|tg [.s] rfl (by simp)<|Ac (J 0 (by simp [Ct,Dz] at hg ⊢;grind)) AC A9 rfl
   ·exact tg (CU 8 [.a]) rfl (by simp [Am])<|AD [] rfl (by simp) (Cs _ (by simp [Dz] at hg ⊢;grind)) trivial rfl rfl
  exact tg [.f,.f,.f,.f,.f,.f,.f,.f,.f] rfl (by simp [h1,h2,h3,h4,h5,h6,h7,h8,h9])<|AD [] rfl (by simp) (Cs _ rfl) trivial rfl rfl
termination_by t=>SizeOf.sizeOf t
decreasing_by
 all_goals
  have:=Cj (AF ht);simp_wf;omega
theorem hmf:∀(fn:Fn) (first cap:Array Value) (w:World),(Instr.makeFunc fn first cap).run prog w = .ok (.func fn first cap) w:=λ_ _ _ _=>rfl
theorem XB (p:Addr) (w:World) :
  CallsD prog 253 #[.pointer (some p)] .returning w λe u' w'=>e = .returned (.tuple #[])/\u' = .returning/\w'=w:=by
 refine callsD_of_wpS func253 rfl λc₀ cs hu=>?_;apply wpS_seq;apply wpS_region;simp [wpOpsS,go_sem,recoverD,hu,Tryz.ntmps253,Exit.thenS];apply wpS_seq;apply wpS_region;simp [wpOpsS,go_sem,Exit.thenS];refine wpS_cond (t:=false) (by simp [Act.eval,Array.replicate]) ?_;simp only [if_false,DK];refine wpS_of_wp (wp_skip ?_);cases c₀;simp_all [bodyPostS,results,Tryz.results253]
theorem XC (pb:Nat) (x:Value) (w:World) (hpb:pb<w.heap.size) (hx:w.cell? ⟨pb,0,none⟩=some x) (hz:w.frozen? ⟨pb,0,none⟩=false) :
  CallsD prog 253 #[.pointer (some ⟨pb,0,none⟩)] (.panicking [{ v:=.iface 293 (.agg #[]),recovered:=false }]) w λe u' w'=>e = .returned (.tuple #[]) /\
   u' = .panicking [{ v:=.iface 293 (.agg #[]),recovered:=true }]/\w'=(w.setCell ⟨pb,0,none⟩ (.bool false)).alloc (.cells #[] 293):=by
 refine callsD_of_wpS func253 rfl λc₀ cs hu=>?_;change Code.wpS _ _ _ { tmps:=#[.pointer (some ⟨pb,0,none⟩),undef,undef,undef,undef,undef,undef,undef,undef,undef,undef,undef,undef,undef,undef],defers:=[] } _ _;apply wpS_seq;apply wpS_region;simp [wpOpsS,go_sem,recoverD,hu,Tryz.ntmps253,Exit.thenS];apply wpS_seq;apply wpS_region;simp [wpOpsS,go_sem,Exit.thenS];refine wpS_cond (t:=true) (by simp [Act.eval,Array.replicate]) ?_;simp only [if_true];refine wpS_of_wp ?_;clear hu;have hta:∀w:World,(Instr.typeAssert (.iface 293 (.agg #[])) 20 293 true).run prog w = .ok (.tuple #[.agg #[],.bool true]) w:=λ_=>by kernel_rfl
 have hx':(w.alloc (.cells #[] 293)).cell? ⟨pb,0,none⟩=some x:=by rw [World.cell?_alloc_past _ _ _ hpb];exact hx
 have hz':(w.alloc (.cells #[] 293)).frozen? ⟨pb,0,none⟩=false:=by rw [RowKit.frozen?_alloc_cells];exact hz
 go_wp2
 simp [bodyPostS,results,Tryz.results253]
abbrev Tq6:=Calls prog
theorem XA (g:FuncId) (fi ca:Array Value) (w:World) (K:World->Prop) (Kp:World->Prop)
  (hen:(callFunc g (fi++ca)).run prog (w.alloc (.cells #[.bool false] 4)) = .ok (.enter g (fi++ca)) (w.alloc (.cells #[.bool false] 4)))
  (hcall:Tq6 g (fi++ca) (w.alloc (.cells #[.bool false] 4)) λe w'=>match e with
   | .returned _=>K w'
   | .panicked chain=>chain=[{ v:=.iface 293 (.agg #[]),recovered:=false }]/\Kp w'
   | .outgrown=>False)
  (hK:∀w',K w'->w'.heap[w.heap.size]?=some (.cells #[.bool false] 4 (0,0))) (hKp:∀w',Kp w'->w'.heap[w.heap.size]?=some (.cells #[.bool false] 4 (0,0))) :
  Tq6 189 #[.func (.func g) fi ca] w λe w'=>(e = .returned (.bool true)/\∃w1,K w1/\w'=w1.setCell ⟨w.heap.size,0,none⟩ (.bool true)) \/
   (e = .returned (.bool false)/\∃w1,Kp w1/\w'=(w1.setCell ⟨w.heap.size,0,none⟩ (.bool false)).alloc (.cells #[] 293)):=by
 go_enter_defers func189,Tryz.ntmps189
 have hmf:=hmf
 go_wp2_with fail
 clear hen;refine hcall.mono ?_;intro e w' he;cases e with
 | outgrown=>exact he.elim
 | returned v =>
  have hc:w'.cell? ⟨w.heap.size,0,none⟩=some (.bool false):=by unfold World.cell?;simp [hK w' he]
  have hz:w'.frozen? ⟨w.heap.size,0,none⟩=false:=by unfold World.frozen?;simp [hK w' he]
  simp only
  go_wp2
  refine leaves_cons (f:=253) (args:=#[.pointer (some ⟨w.heap.size,0,none⟩)]) (by simp) (by simp [go_sem])<|(XB ⟨w.heap.size,0,none⟩ _).mono ?_;rintro e u' w'' ⟨rfl,rfl,rfl⟩;simp [Leaves,settle,results,Tryz.results189,go_sem,hc];exact ⟨w',he,rfl⟩
 | panicked chain =>
  obtain ⟨rfl,he⟩:=he;have hc:w'.cell? ⟨w.heap.size,0,none⟩=some (.bool false):=by unfold World.cell?;simp [hKp w' he]
  have hz:w'.frozen? ⟨w.heap.size,0,none⟩=false:=by unfold World.frozen?;simp [hKp w' he]
  have hlt:w.heap.size<w'.heap.size:=(GY.1 (hKp w' he)).1;refine leaves_cons (f:=253) (args:=#[.pointer (some ⟨w.heap.size,0,none⟩)]) (by simp) (by simp [go_sem])<|(XC w.heap.size _ _ hlt hc hz).mono ?_;rintro e u' w'' ⟨rfl,rfl,rfl⟩;have hc2:((w'.setCell ⟨w.heap.size,0,none⟩ (.bool false)).alloc (.cells #[] 293)).cell? ⟨w.heap.size,0,none⟩=some (.bool false):=by
   rw [E0 (hKp w' he),World.cell?_alloc_past _ _ _ (by simpa using hlt)];unfold World.cell?;simp [hlt]
  simp [Leaves,settle,results,Tryz.results189,go_sem,hc2];exact ⟨w',he,rfl⟩
theorem J3:Ls prog 189 293 4:=λg fi ca w K Kp h1 h2 h3 h4=>XA g fi ca w K Kp h1 h2 h3 h4
theorem Nw {g: FuncId} {fg: Func} {cg: Code} (hg : prog.funcs[g]? = some fg) (hn : (fg.name == "runtime.NumGoroutine") = false) (hc : fg.body = some cg) (hE : Tq4 g [.ref 1 0] [(1, some (.immb t1 s1 x1))] (.ret JF [(1, some (.immb t1 s1 y1))])) :
  Tq4 133 [.fn (.func g) [] [.ref 1 0]] [(1,some (.immb t1 s1 x1))] (.ret (.imm (.int .i64 0)) [(1,some (.immb t1 s1 y1))]):=by
 exact Ad Bh func133 rfl [2,3,4]<|C3 rfl<|Ae rfl (IV func189 (by decide +kernel) rfl J3 hg hn hc hE) Ax rfl<|tg [.a] rfl (by simp)<|Ah ⟨_,rfl,tV rfl,A9⟩
theorem Pu {g: FuncId} {fg: Func} {cg: Code} (hg : prog.funcs[g]? = some fg) (hn : (fg.name == "runtime.NumGoroutine") = false) (hc : fg.body = some cg) (hE : Tq4 g [.ref 1 0] [(1, some (.immb t1 s1 x1))] (.pan Gl)) :
  Tq4 133 [.fn (.func g) [] [.ref 1 0]] [(1,some (.immb t1 s1 x1))] (.ret (.imm (.int .i64 2)) []):=by
 exact Ad Bh func133 rfl [2,3,4]<|C3 rfl<|Ae rfl (Kz func189 (by decide +kernel) rfl J3 hg hn hc hE) Ax rfl<|tg [.a] rfl (by simp)<|Aa rfl rfl rfl
theorem VN {g: FuncId} {fg: Func} {cg: Code} (hg : prog.funcs[g]? = some fg) (hn : (fg.name == "runtime.NumGoroutine") = false) (hc : fg.body = some cg) {y2: List V} (hE : Tq4 g [.ref 1 0, .ref 2 0] [(1, some (.immb t1 s1 x1)), (2, some (.immb t2 s2 x2))] (.ret JF [(1, some (.immb t1 s1 y1)), (2, some (.immb t2 s2 y2))])) :
  Tq4 133 [.fn (.func g) [] [.ref 1 0,.ref 2 0]] [(1,some (.immb t1 s1 x1)),(2,some (.immb t2 s2 x2))] (.ret (.imm (.int .i64 0)) [(1,some (.immb t1 s1 y1)),(2,some (.immb t2 s2 y2))]):=by
 exact Ad Bh func133 rfl [3,4,5]<|C3 rfl<|Aq [] [(1,1),(2,2)] [] rfl (IV func189 (by decide +kernel) rfl J3 hg hn hc hE) ⟨⟨rfl,rfl,rfl⟩,Ax⟩ rfl rfl<|tg [.a] rfl (by simp)<|Ah ⟨_,rfl,tV rfl,⟨rfl,A9⟩⟩
theorem Yv {g: FuncId} {fg: Func} {cg: Code} (hg : prog.funcs[g]? = some fg) (hn : (fg.name == "runtime.NumGoroutine") = false) (hc : fg.body = some cg) (hE : Tq4 g [.ref 1 0, .ref 2 0] [(1, some (.immb t1 s1 x1)), (2, some (.immb t2 s2 x2))] (.pan Gl)) :
  Tq4 133 [.fn (.func g) [] [.ref 1 0,.ref 2 0]] [(1,some (.immb t1 s1 x1)),(2,some (.immb t2 s2 x2))] (.ret (.imm (.int .i64 2)) []):=by
 exact Ad Bh func133 rfl [3,4,5]<|C3 rfl<|Aq [] [(1,1),(2,2)] [] rfl (Kz func189 (by decide +kernel) rfl J3 hg hn hc hE) ⟨⟨rfl,rfl,rfl⟩,Ax⟩ rfl rfl<|tg [.a] rfl (by simp)<|Aa rfl rfl rfl
def SI (b:Bool):V:=.int .i64 (bif b then 0 else 2)
def AO (holes:Bool) (t:Ty):Bool:=decide (Bl t<=12)&&BL holes t
theorem XQ (t:Ty) (holes:Bool) (h:AO holes t=true):Tq4 246 [.ref 1 0,.ref 2 0] [(1,some (.immb 25 4 (dTyc t))),(2,some (.immb 4 1 [.bool holes]))] (.ret JF [(1,some (.immb 25 4 (dTyc t))),(2,some (.immb 4 1 [.bool holes]))]):=by
 simp only [AO,Ap,decide_eq_true_eq] at h;exact Ad Bh func246 rfl [3,4,5]<|C3 rfl<|Aq [] [(3,1)] [] rfl (Lb t 12 (by omega) (by decide)) Ax rfl rfl<|C3 rfl<|Aq [] [] [] rfl (LQ holes t h.2) trivial rfl rfl<|C3 rfl<|BR ⟨_,rfl,rfl,AK⟩
theorem bP (t:Ty) (holes:Bool) (h:AO holes t=false):Tq4 246 [.ref 1 0,.ref 2 0] [(1,some (.immb 25 4 (dTyc t))),(2,some (.immb 4 1 [.bool holes]))] (.pan Gl):=by
 simp only [AO,Ma,decide_eq_false_iff_not] at h;refine Ad Bh func246 rfl [3,4,5]<|C3 rfl ?_;by_cases h1:Bl t<=12
 ·exact Aq [] [(3,1)] [] rfl (Lb t 12 (by omega) (by decide)) Ax rfl rfl<|C3 rfl<|AD [] rfl (by simp) (Tc holes t (by simpa [h1] using h)) trivial rfl rfl
 ·exact AD [(3,1)] rfl (by simp) (XI t 12 (by omega) (by decide) (by decide)) Ax rfl rfl
theorem Um (t:Ty) (holes:Bool):Tq3 176 [.agg (dTyc t),.bool holes] (SI (AO holes t)):=by
 refine Ad Bh func176 rfl [1,2,3]<|C3 rfl ?_;cases h:AO holes t with
 | true =>
  exact Aq [] [(1,1),(2,2)] [] rfl (VN func246 (by decide +kernel) rfl (XQ t holes h)) nX rfl rfl<|C3 rfl<|Aa rfl rfl rfl
 | false =>
  exact Aq [] [(1,1),(2,2)] [] rfl (Yv func246 (by decide +kernel) rfl (bP t holes h)) nX rfl rfl<|C3 rfl<|Aa rfl rfl rfl
theorem VY (t:Ty):Tq3 114 [.agg (dTyc t)] (SI (AO true t)):=by
 exact Ad Bh func114 rfl [1,2,3]<|C3 rfl<|Aj rfl (λ_=>Um t true) (by simp [Am])<|C3 rfl<|Aa rfl rfl rfl
theorem Qh (t:Ty):Tq3 187 [.agg (dTyc t)] (.bool (AO false t)):=by
 refine Ad Bh func187 rfl [1,2,3]<|C3 rfl<|Aj rfl (λ_=>Um t false) (by simp [Am])<|C3 rfl<|Aa rfl rfl (congrArg _ ?_);cases AO false t <;> rfl
def gV:TT:=gT++[
 (139,⟨.map 9 4,false,1,8,[.imm .nilmap]⟩)]
theorem H9:TTok prog gV:=.of_eq (l:=[4,3,9,49,25,182,45,47,5,23,22,73,46,180,71,43,178,40,41,113,111,28,293,195,1,139]) (by kernel_rfl)
theorem pd (path:List Pt) (h:run gV n 300 path todo env st ids [] = .at k env' st' ids' ob) (hob:A4 ob) (hd:Tq1 n F Q k env' st' ids'):Tq2 n F Q todo env st ids:=KC H9 Fi 300 path h hob hd
theorem Zl (h:run gV n 300 [] todo env st ids [] = .at k env' st' ids' ob) (hd:Tq1 n F Q k env' st' ids') (hob:A4 ob:=by simp):Tq2 n F Q todo env st ids:=pd [] h hob hd
theorem pdqc (h:run gV n 300 [] todo env st ids [] = .at k env' st' ids' ob) (hd:Tq1 n F Q k env' st' ids') (hob:A4 ob:=by simp [Am]):Tq2 n F Q todo env st ids:=pd [] h hob hd
theorem pg (path:List Pt) (h:run gV n 300 path todo env st ids [] = .at k env' st' ids' ob) (hob:A4 ob) (hd:Tq1 n F Q k env' st' ids'):Tq1 n F Q todo env st ids:=JL H9 Fi 300 path h hob hd
theorem LV (h:run gV n 300 [] todo env st ids [] = .at k env' st' ids' ob) (hd:Tq1 n F Q k env' st' ids') (hob:A4 ob:=by simp):Tq1 n F Q todo env st ids:=pg [] h hob hd
theorem WK (h:run gV n 300 [] todo env st ids [] = .at k env' st' ids' ob) (hd:Tq1 n F Q k env' st' ids') (hob:A4 ob:=by simp [Am]):Tq1 n F Q todo env st ids:=pg [] h hob hd
theorem pi (h:FO gV n env todo=some ⟨es,m,sz,e,g,ob,some t,todo'⟩) (hc:Am g->0<=m/\es[m.toNat]?=some c/\c.length=sz) (hob:A4 ob) (hk:Tq1 n F Q todo' ((t,gD g (.ip e c 0))::env) st ids):Tq1 n F Q todo env st ids:=Ht H9 h hc hob hk
theorem piz (h:FO gV n env todo=some ⟨es,(i:Int),sz,e,g,ob,some t,todo'⟩) (hg:es[i]?=some c) (hk:Tq1 n F Q todo' ((t,gD g (.ip e c 0))::env) st ids) (hl:c.length=sz:=by simp) (hob:A4 ob:=by simp):Tq1 n F Q todo env st ids:=pi h (λ_=>⟨by omega,by simpa using hg,hl⟩) hob hk
theorem pizc (h:FO gV n env todo=some ⟨es,(i:Int),sz,e,g,ob,some t,todo'⟩) (hg:es[i]?=some c) (hk:Tq1 n F Q todo' ((t,gD g (.ip e c 0))::env) st ids) (hl:c.length=sz:=by simp) (hob:A4 ob:=by simp [Am]):Tq1 n F Q todo env st ids:=pi h (λ_=>⟨by omega,by simpa using hg,hl⟩) hob hk
def HD (l:List Str):List (V×V):=l.map λs=>(.str s,.bool true)
def Sq (l:List Str):Blk:=.map (HD l)
theorem Gq (l:List Str):∀p∈HD l,Hs .str p.1=true:=by
 intro p hp;obtain ⟨s,_,rfl⟩:=C2.1 hp;rfl
theorem tZ (s x:Str):(s == x)=(x == s):=by
 rw [Fq,beq_iff_eq,beq_iff_eq];exact ⟨Eq.symm,Eq.symm⟩
theorem iE (l:List Str) (s:Str):GH (HD l) (.str s)=if BE l s then some (.bool true) else none:=by
 induction l with
 | nil=>rfl
 | cons x r ih =>
  simp only [HD,C6,GH,mH,BE] at ih ⊢;rw [ih];by_cases h:x=s
  ·subst h;simp
  ·have h1:(s == x)=false:=by simpa using λe=>h e.symm
   have h2:(x == s)=false:=by simpa using h
   simp [h1,h2]
theorem KR (l:List Str) (s:Str):FR false (HD l) (.str s) (.bool false) = .imm (.bool (BE l s)):=by
 simp only [FR,iE];cases BE l s <;> rfl
theorem Wx (l:List Str) (s:Str) (h:BE l s=false):FF (HD l) (.str s) (.bool true)=HD (l++[s]):=by
 induction l with
 | nil=>rfl
 | cons x r ih =>
  simp only [BE,Kk] at h;have h1:(s == x)=false:=by rw [tZ];exact h.1
  simp only [HD,C6,FF,mH,h1,De] at ih ⊢;simp [ih h.2]
theorem Hb:∀(a b p:List Str),BP p (a++b)=(BP p a&&BP (p++a) b)
 | [],b,p=>by simp [BP]
 | x::r,b,p=>by simp [BP,Hb r b (p++[x]),Me]
theorem NI:∀(t:Ty) (met:List Str),(CZ t&&BP met (AV t))=true->Tq4 285 [.imm (.agg (dTyc t)),.mapr 1] [(1,some (Sq met))] (.ret JF [(1,some (Sq (met++AV t)))])
 | .mk s n x ps,met,hy=>by
  refine EX 0 rfl λhok=>?_;have hv:ps.length<=9223372036854775807:=by
   simp [CV,F0,dTyc,maxLen] at hok;have:=hok.1;omega
  refine Ad H9 func285 rfl [2,3,4] ?_;have J:∀m0:List Str,(CQ ps&&BP m0 (AM ps))=true->m0++AM ps=met++AV (.mk s n x ps)->Tq2 Tryz.f285.ntmps (D8 [(1,some (Sq met))]) (JD gV Tryz.f285.results.toList (.ret JF [(1,some (Sq (met++AV (.mk s n x ps))))]))
    [.code (FK Tryz.f285 2)] [(1,.mapr 1),(2,.ref 2 0)] [(2,some (.immb 182 4 (dTyc (.mk s n x ps)))),(1,some (Sq m0))] [3,4]:=by
   intro m0 hy he;refine Zl rfl<|Ak (λi:Nat=>[(113,.imm (.int .i64 i)),(112,.imm (.int .i64 ps.length)),(111,.imm (.sl (AA ps))),(1,.mapr 1),(2,.ref 2 0)]) (λi=>[(2,some (.immb 182 4 (dTyc (.mk s n x ps)))),(1,some (Sq (m0++AM (ps.take i))))]) [3,4] (λi=>ps.length-i)
    (λi=>i<=ps.length/\(CQ (ps.drop i)&&BP (m0++AM (ps.take i)) (AM (ps.drop i)))=true) 0 ⟨AJ _,by simpa [AM] using hy⟩ ⟨rfl,BB (by simp),AC⟩ ⟨rfl,by simp [AM];rfl,trivial⟩ rfl λi hi ih=>?_
   refine Zl rfl ?_;have hi2:=hi.2;refine Ab rfl (λh=>?_) (λh=>?_)
   ·simp at h;obtain ⟨t,ht⟩:=Ao h;have htk:AM (ps.take (i+1))=AM (ps.take i)++AV t:=by rw [Bp ht,Fw];simp [AM]
    rw [Av ht] at hi2;simp only [CQ,AM,Hb] at hi2;exact Zl rfl<|piz rfl (AE ht)<|LV rfl<|Ae rfl (NI t (m0++AM (ps.take i)) (by simp only [Ap] at hi2 ⊢;exact ⟨hi2.1.1,hi2.2.1⟩)) Ax rfl<|LV rfl<|Ac (ih (i+1) (by omega) ⟨by omega,by rw [htk,<- CF];simp only [Ap] at hi2 ⊢;exact ⟨hi2.1.2,hi2.2.2⟩⟩) ⟨AU,Cb⟩ ⟨rfl,by rw [htk,<- CF];rfl,trivial⟩ rfl
   ·refine Zl rfl ?_;simp at h;refine BR ⟨_,rfl,rfl,⟨?_,trivial⟩⟩;rw [Db (by omega),he];rfl
  simp only [CZ,Ap] at hy;obtain ⟨⟨hp,hps⟩,hdf⟩:=hy;by_cases h1:s=1
  ·subst h1;simp [Fo,Dz] at hp;exact pg [.a,.a] rfl (by simp [Am] <;> grind)<|Aj rfl (λ_=>BI _ (by simp [AW] at hp ⊢;grind)) (by simp)<|pg [.s] rfl (by simp)<|Ac (J met (by simpa [AV,hps] using hdf) (by simp [AV])) AK AK rfl
  by_cases h5:s=5
  ·subst h5;simp [Fo,Dz] at hp;exact pg [.a,.a] rfl (by simp [Am] <;> grind)<|Aj rfl (λ_=>BI _ (by simp [AW] at hp ⊢;grind)) (by simp)<|pg [.s] rfl (by simp)<|Ac (J met (by simpa [AV,hps] using hdf) (by simp [AV])) AK AK rfl
  by_cases h3:s=3
  ·subst h3;simp [Fo,Dz] at hp;exact pg [.a,.a,.a,.a] rfl (by simp [Am] <;> grind)<|Aj rfl (λ_=>Jz n) (by simp [Am])<|WK rfl<|Aj rfl (λ_=>BI _ (by simp [AW] at hp ⊢;grind)) (by simp)<|pg [.s] rfl (by simp)<|Ac (J met (by simpa [AV,hps] using hdf) (by simp [AV])) AK AK rfl
  by_cases h4:s=4
  ·subst h4;simp [Fo,Dz] at hp;exact pg (CU 4 [.a]) rfl (by simp [Am] <;> grind)<|Aj rfl (λ_=>BI _ (by obtain ⟨⟨rfl,rfl⟩,ha,hb⟩:=hp;have:n=0\/n=1:=(by omega);rcases this with rfl | rfl <;> simp)) (by simp)<|pg [.s] rfl (by simp)<|Ac (J met (by simpa [AV,hps] using hdf) (by simp [AV])) AK AK rfl
  by_cases h6:s=6
  ·subst h6;simp [Fo,Dz] at hp;exact pg (CU 5 [.a]) rfl (by simp [Am] <;> grind)<|Aj rfl (λ_=>ER x) (by simp [Am])<|WK rfl<|Aj rfl (λ_=>BI _ (by simp [AW] at hp ⊢;grind)) (by simp)<|pg [.s] rfl (by simp)<|Ac (J met (by simpa [AV,hps] using hdf) (by simp [AV])) AK AK rfl
  by_cases h2:s=2
  ·subst h2;simp [Fo,Dz] at hp;refine pg [.a,.a,.a] rfl (by simp [Am] <;> grind)<|Aj rfl (λ_=>GB x) (by simp [Am])<|WK rfl ?_;have hx:BE met x=false:=by simpa [AV,BP] using hdf
   refine CR H9 1 rfl rfl rfl (Gq met) (by simp [Am]) (z:=.bool false) rfl (λ_=>.bool _) (KR met x)<|WK rfl<|Aj rfl (λ_=>BI _ (by simp at hp ⊢;rw [hx];grind)) (by simp)<|LV rfl<|F6 H9 rfl rfl rfl (Gq met) ?_;rw [Wx met x hx];have he:ps=[]:=by simpa using hp.1.1
   subst he;exact pg [.s] rfl (by simp)<|Ac (J (met++[x]) (by simp [CQ,AM,BP]) (by simp [AV,AM])) AK AK rfl
  exfalso;simp [Fo,h1,h2,h3,h4,h5,h6] at hp
termination_by t=>SizeOf.sizeOf t
decreasing_by
 all_goals
  have:=Cj (AF ht);simp_wf;omega
theorem Wf:∀(t:Ty) (met:List Str),(CZ t&&BP met (AV t))=false->Tq4 285 [.imm (.agg (dTyc t)),.mapr 1] [(1,some (Sq met))] (.pan Gl)
 | .mk s n x ps,met,hy=>by
  refine EX 0 rfl λhok=>?_;have hv:ps.length<=9223372036854775807:=by
   simp [CV,F0,dTyc,maxLen] at hok;have:=hok.1;omega
  refine Ad H9 func285 rfl [2,3,4] ?_;have J:∀m0:List Str,(CQ ps&&BP m0 (AM ps))=false->Tq2 Tryz.f285.ntmps (D8 [(1,some (Sq met))]) (JD gV Tryz.f285.results.toList (.pan Gl))
    [.code (FK Tryz.f285 2)] [(1,.mapr 1),(2,.ref 2 0)] [(2,some (.immb 182 4 (dTyc (.mk s n x ps)))),(1,some (Sq m0))] [3,4]:=by
   intro m0 hy;refine Zl rfl<|Ak (λi:Nat=>[(113,.imm (.int .i64 i)),(112,.imm (.int .i64 ps.length)),(111,.imm (.sl (AA ps))),(1,.mapr 1),(2,.ref 2 0)]) (λi=>[(2,some (.immb 182 4 (dTyc (.mk s n x ps)))),(1,some (Sq (m0++AM (ps.take i))))]) [3,4] (λi=>ps.length-i)
    (λi=>i<=ps.length/\(CQ (ps.drop i)&&BP (m0++AM (ps.take i)) (AM (ps.drop i)))=false) 0 ⟨AJ _,by simpa [AM] using hy⟩ ⟨rfl,BB (by simp),AC⟩ ⟨rfl,by simp [AM];rfl,trivial⟩ rfl λi hi ih=>?_
   refine Zl rfl ?_;have hi2:=hi.2;refine Ab rfl (λh=>?_) (λh=>?_)
   ·simp at h;obtain ⟨t,ht⟩:=Ao h;have htk:AM (ps.take (i+1))=AM (ps.take i)++AV t:=by rw [Bp ht,Fw];simp [AM]
    rw [Av ht] at hi2;simp only [CQ,AM,Hb] at hi2;refine Zl rfl<|piz rfl (AE ht)<|LV rfl ?_;by_cases hz:(CZ t&&BP (m0++AM (ps.take i)) (AV t))=true
    ·exact Ae rfl (NI t (m0++AM (ps.take i)) hz) Ax rfl<|LV rfl<|Ac (ih (i+1) (by omega) ⟨by omega,by rw [htk,<- CF];simp only [Ap] at hz;rw [hz.1,hz.2] at hi2;simpa using hi2⟩) ⟨AU,Cb⟩ ⟨rfl,by rw [htk,<- CF];rfl,trivial⟩ rfl
    ·exact AD [(1,1)] rfl (by simp) (Wf t (m0++AM (ps.take i)) (by simpa using hz)) Ax rfl rfl
   ·exfalso;simp at h;rw [Bo (by omega)] at hi2;simp [CQ,AM,BP] at hi2
  by_cases h1:s=1
  ·subst h1;refine pg [.a,.a] rfl (by simp [Am] <;> grind) ?_;by_cases hp:Fo 1 n x ps.length=true
   ·have hps:(CQ ps&&BP met (AM ps))=false:=by simpa [CZ,hp,AV] using hy
    simp [Fo,Dz] at hp;exact Aj rfl (λ_=>BI _ (by simp [AW] at hp ⊢;grind)) (by simp)<|pg [.s] rfl (by simp)<|Ac (J met hps) AK AK rfl
   ·simp [Fo,Dz] at hp;exact AD [] rfl (by simp) (Cs _ (by simp [AW] at hp ⊢;grind)) trivial rfl rfl
  by_cases h5:s=5
  ·subst h5;refine pg [.a,.a] rfl (by simp [Am] <;> grind) ?_;by_cases hp:Fo 5 n x ps.length=true
   ·have hps:(CQ ps&&BP met (AM ps))=false:=by simpa [CZ,hp,AV] using hy
    simp [Fo,Dz] at hp;exact Aj rfl (λ_=>BI _ (by simp [AW] at hp ⊢;grind)) (by simp)<|pg [.s] rfl (by simp)<|Ac (J met hps) AK AK rfl
   ·simp [Fo,Dz] at hp;exact AD [] rfl (by simp) (Cs _ (by simp [AW] at hp ⊢;grind)) trivial rfl rfl
  by_cases h3:s=3
  ·subst h3;refine pg [.a,.a,.a,.a] rfl (by simp [Am] <;> grind)<|Aj rfl (λ_=>Jz n) (by simp [Am])<|WK rfl ?_;by_cases hp:Fo 3 n x ps.length=true
   ·have hps:(CQ ps&&BP met (AM ps))=false:=by simpa [CZ,hp,AV] using hy
    simp [Fo,Dz] at hp;exact Aj rfl (λ_=>BI _ (by simp [AW] at hp ⊢;grind)) (by simp)<|pg [.s] rfl (by simp)<|Ac (J met hps) AK AK rfl
   ·simp [Fo,Dz] at hp;exact AD [] rfl (by simp) (Cs _ (by simp [AW] at hp ⊢;grind)) trivial rfl rfl
  by_cases h4:s=4
  ·subst h4;refine pg (CU 4 [.a]) rfl (by simp [Am] <;> grind) ?_;by_cases hp:Fo 4 n x ps.length=true
   ·have hps:(CQ ps&&BP met (AM ps))=false:=by simpa [CZ,hp,AV] using hy
    simp [Fo,Dz] at hp;exact Aj rfl (λ_=>BI _ (by obtain ⟨⟨rfl,rfl⟩,ha,hb⟩:=hp;have:n=0\/n=1:=(by omega);rcases this with rfl | rfl <;> simp)) (by simp)<|pg [.s] rfl (by simp)<|Ac (J met hps) AK AK rfl
   ·simp [Fo,Dz] at hp;exact AD [] rfl (by simp) (Cs _ (by simp [AW] at hp ⊢;grind)) trivial rfl rfl
  by_cases h6:s=6
  ·subst h6;refine pg (CU 5 [.a]) rfl (by simp [Am] <;> grind)<|Aj rfl (λ_=>ER x) (by simp [Am])<|WK rfl ?_;by_cases hp:Fo 6 n x ps.length=true
   ·have hps:(CQ ps&&BP met (AM ps))=false:=by simpa [CZ,hp,AV] using hy
    simp [Fo,Dz] at hp;exact Aj rfl (λ_=>BI _ (by simp [AW] at hp ⊢;grind)) (by simp)<|pg [.s] rfl (by simp)<|Ac (J met hps) AK AK rfl
   ·simp [Fo,Dz] at hp;exact AD [] rfl (by simp) (Cs _ (by simp [AW] at hp ⊢;grind)) trivial rfl rfl
  by_cases h2:s=2
  ·subst h2;refine pg [.a,.a,.a] rfl (by simp [Am] <;> grind)<|Aj rfl (λ_=>GB x) (by simp [Am])<|WK rfl<|CR H9 1 rfl rfl rfl (Gq met) (by simp [Am]) (z:=.bool false) rfl (λ_=>.bool _) (KR met x)<|WK rfl<|AD [] rfl (by simp) (Cs _ ?_) trivial rfl rfl;simp [CZ,Fo,AV,BP] at hy;cases hm:BE met x with
   | true=>simp
   | false =>
    simp only [hm] at hy;by_cases hq:ps=[]
    ·subst hq;simp [CQ] at hy ⊢;grind
    ·simp [hq]
  exact pg [.f,.f,.f,.f,.f,.f] rfl (by simp [h1,h2,h3,h4,h5,h6])<|AD [] rfl (by simp) (Cs _ rfl) trivial rfl rfl
termination_by t=>SizeOf.sizeOf t
decreasing_by
 all_goals
  have:=Cj (AF ht);simp_wf;omega
def CM (t:Ty):Bool:=decide (Bl t<=12)&&(CZ t&&Li (AV t))
theorem SN (t:Ty) (h:CM t=true):Tq4 283 [.ref 1 0] [(1,some (.immb 182 4 (dTyc t)))] (.ret JF [(1,some (.immb 182 4 (dTyc t)))]):=by
 simp only [CM,Ap,decide_eq_true_eq] at h;exact Ad H9 func283 rfl [2,3,4]<|LV rfl<|Aq [] [(2,1)] [] rfl (Nj t 12 (by omega) (by decide)) Ax rfl rfl<|LV rfl<|EF rfl<|LV rfl<|Aq [] [(3,1)] [] rfl (NI t [] (by simpa [Li] using h.2)) Ax rfl rfl<|LV rfl<|BR ⟨_,rfl,rfl,A9⟩
theorem VO (t:Ty) (h:CM t=false):Tq4 283 [.ref 1 0] [(1,some (.immb 182 4 (dTyc t)))] (.pan Gl):=by
 refine Ad H9 func283 rfl [2,3,4]<|LV rfl ?_;by_cases h1:Bl t<=12
 ·exact Aq [] [(2,1)] [] rfl (Nj t 12 (by omega) (by decide)) Ax rfl rfl<|LV rfl<|EF rfl<|LV rfl<|AD [(3,1)] rfl (by simp) (Wf t [] (by simpa [CM,h1,Li] using h)) Ax rfl rfl
 ·exact AD [(2,1)] rfl (by simp) (fC t 12 (by omega) (by decide) (by decide)) Ax rfl rfl
theorem P3 (t:Ty):Tq3 257 [.agg (dTyc t)] (SI (CM t)):=by
 refine Ad H9 func257 rfl [1,2,3]<|LV rfl ?_;cases h:CM t with
 | true =>
  exact Ae rfl (Nw func283 (by decide +kernel) rfl (SN t h)) Ax rfl<|LV rfl<|Aa rfl rfl rfl
 | false =>
  exact Ae rfl (Pu func283 (by decide +kernel) rfl (VO t h)) Ax rfl<|LV rfl<|Aa rfl rfl rfl
def gU:TT:=gV++[
 (296,⟨.struct [(0,4),(1,4),(2,4),(3,3)],true,4,16,[.imm (.bool false),.imm (.bool false),.imm (.bool false),.imm (.int .i64 0)]⟩)]
theorem H8:TTok prog gU:=.of_eq (l:=[4,3,9,49,25,182,45,47,5,23,22,73,46,180,71,43,178,40,41,113,111,28,293,195,1,139,296]) (by kernel_rfl)
theorem sd (path:List Pt) (h:run gU n 300 path todo env st ids [] = .at k env' st' ids' ob) (hob:A4 ob) (hd:Tq1 n F Q k env' st' ids'):Tq2 n F Q todo env st ids:=KC H8 Fi 300 path h hob hd
theorem P6 (h:run gU n 300 [] todo env st ids [] = .at k env' st' ids' ob) (hd:Tq1 n F Q k env' st' ids') (hob:A4 ob:=by simp):Tq2 n F Q todo env st ids:=sd [] h hob hd
theorem zcj (h:run gU n 300 [] todo env st ids [] = .at k env' st' ids' ob) (hd:Tq1 n F Q k env' st' ids') (hob:A4 ob:=by simp [Am]):Tq2 n F Q todo env st ids:=sd [] h hob hd
theorem sg (path:List Pt) (h:run gU n 300 path todo env st ids [] = .at k env' st' ids' ob) (hob:A4 ob) (hd:Tq1 n F Q k env' st' ids'):Tq1 n F Q todo env st ids:=JL H8 Fi 300 path h hob hd
theorem Fm (h:run gU n 300 [] todo env st ids [] = .at k env' st' ids' ob) (hd:Tq1 n F Q k env' st' ids') (hob:A4 ob:=by simp):Tq1 n F Q todo env st ids:=sg [] h hob hd
theorem sgqc (h:run gU n 300 [] todo env st ids [] = .at k env' st' ids' ob) (hd:Tq1 n F Q k env' st' ids') (hob:A4 ob:=by simp [Am]):Tq1 n F Q todo env st ids:=sg [] h hob hd
theorem si (h:FO gU n env todo=some ⟨es,m,sz,e,g,ob,some t,todo'⟩) (hc:Am g->0<=m/\es[m.toNat]?=some c/\c.length=sz) (hob:A4 ob) (hk:Tq1 n F Q todo' ((t,gD g (.ip e c 0))::env) st ids):Tq1 n F Q todo env st ids:=Ht H8 h hc hob hk
theorem siz (h:FO gU n env todo=some ⟨es,(i:Int),sz,e,g,ob,some t,todo'⟩) (hg:es[i]?=some c) (hk:Tq1 n F Q todo' ((t,gD g (.ip e c 0))::env) st ids) (hl:c.length=sz:=by simp) (hob:A4 ob:=by simp):Tq1 n F Q todo env st ids:=si h (λ_=>⟨by omega,by simpa using hg,hl⟩) hob hk
theorem sizc (h:FO gU n env todo=some ⟨es,(i:Int),sz,e,g,ob,some t,todo'⟩) (hg:es[i]?=some c) (hk:Tq1 n F Q todo' ((t,gD g (.ip e c 0))::env) st ids) (hl:c.length=sz:=by simp) (hob:A4 ob:=by simp [Am]):Tq1 n F Q todo env st ids:=si h (λ_=>⟨by omega,by simpa using hg,hl⟩) hob hk
structure Has where
 n:Bool
 text:Bool
 pats:Bool
 kids:Int
 is:Bool
def AS (op:Int) (k p:Nat):Has :=
 if op=1\/op=2 then ⟨true,false,false,0,true⟩
 else if op=3\/op=21\/op=25\/op=28 then ⟨false,false,false,0,true⟩
 else if op=4 then ⟨false,true,false,0,true⟩
 else if op=5\/op=27 then ⟨false,true,false,1,true⟩
 else if op=7 then ⟨false,true,false,2,true⟩
 else if op=8 then ⟨false,false,false,3,true⟩
 else if op=14 then ⟨false,true,false,(if (3:Int)<k then 3 else k),true⟩
 else if op=15 then ⟨false,false,true,(IntKind.i64.wrap (1+(p:Int))),true⟩
 else if op=16\/op=17\/op=19\/op=20\/op=23\/op=26 then ⟨false,false,false,1,true⟩
 else if op=24 then ⟨true,false,false,1,true⟩
 else if op=6\/op=9\/op=10\/op=11\/op=12\/op=13\/op=18\/op=22 then ⟨false,false,false,2,true⟩
 else ⟨false,false,false,0,false⟩
def EG (h:Has):List V:=[.bool h.n,.bool h.text,.bool h.pats,.int .i64 h.kids]
theorem Wv (op n:Int) (x:Str) (ks:List Tm) (ps:List Ty):Tq3 255 [.agg (dTmc (.mk op n x ks ps))] (.tup [.agg (EG (AS op ks.length ps.length)),.bool (AS op ks.length ps.length).is]):=by
 refine B3 λhv=>?_;simp [CV,F0,dTmc,maxLen] at hv;refine Ad H8 func255 rfl [1,2,3] ?_;by_cases h1:op=1
 ·subst h1;refine sg [.a,.a] rfl (by simp)<|Aa rfl rfl ?_;simp [AS,EG]
 by_cases h2:op=2
 ·subst h2;refine sg [.a,.a] rfl (by simp)<|Aa rfl rfl ?_;simp [AS,EG]
 by_cases h3:op=3
 ·subst h3;refine sg [.a,.a,.a,.a] rfl (by simp)<|Aa rfl rfl ?_;simp [AS,EG]
 by_cases h21:op=21
 ·subst h21;refine sg (CU 4 [.a]) rfl (by simp)<|Aa rfl rfl ?_;simp [AS,EG]
 by_cases h25:op=25
 ·subst h25;refine sg (CU 5 [.a]) rfl (by simp)<|Aa rfl rfl ?_;simp [AS,EG]
 by_cases h28:op=28
 ·subst h28;refine sg (CU 5 [.a]) rfl (by simp)<|Aa rfl rfl ?_;simp [AS,EG]
 by_cases h4:op=4
 ·subst h4;refine sg (CU 6 [.a]) rfl (by simp)<|Aa rfl rfl ?_;simp [AS,EG]
 by_cases h5:op=5
 ·subst h5;refine sg (CU 8 [.a]) rfl (by simp)<|Aa rfl rfl ?_;simp [AS,EG]
 by_cases h27:op=27
 ·subst h27;refine sg (CU 8 [.a]) rfl (by simp)<|Aa rfl rfl ?_;simp [AS,EG]
 by_cases h7:op=7
 ·subst h7;refine sg (CU 9 [.a]) rfl (by simp)<|Aa rfl rfl ?_;simp [AS,EG]
 by_cases h8:op=8
 ·subst h8;refine sg (CU 10 [.a]) rfl (by simp)<|Aa rfl rfl ?_;simp [AS,EG]
 by_cases h14:op=14
 ·subst h14;refine sg (CU 11 [.a]) rfl (by simp)<|Aa rfl rfl ?_;simp [AS,EG]
 by_cases h15:op=15
 ·subst h15;refine sg (CU 12 [.a]) rfl (by simp)<|Aa rfl rfl ?_;simp [AS,EG]
 by_cases h16:op=16
 ·subst h16;refine sg (CU 14 [.a]) rfl (by simp)<|Aa rfl rfl ?_;simp [AS,EG]
 by_cases h17:op=17
 ·subst h17;refine sg (CU 15 [.a]) rfl (by simp)<|Aa rfl rfl ?_;simp [AS,EG]
 by_cases h19:op=19
 ·subst h19;refine sg (CU 16 [.a]) rfl (by simp)<|Aa rfl rfl ?_;simp [AS,EG]
 by_cases h20:op=20
 ·subst h20;refine sg (CU 17 [.a]) rfl (by simp)<|Aa rfl rfl ?_;simp [AS,EG]
 by_cases h23:op=23
 ·subst h23;refine sg (CU 18 [.a]) rfl (by simp)<|Aa rfl rfl ?_;simp [AS,EG]
 by_cases h26:op=26
 ·subst h26;refine sg (CU 18 [.a]) rfl (by simp)<|Aa rfl rfl ?_;simp [AS,EG]
 by_cases h24:op=24
 ·subst h24;refine sg (CU 19 [.a]) rfl (by simp)<|Aa rfl rfl ?_;simp [AS,EG]
 by_cases h6:op=6
 ·subst h6;refine sg (CU 21 [.a]) rfl (by simp)<|Aa rfl rfl ?_;simp [AS,EG]
 by_cases h9:op=9
 ·subst h9;refine sg (CU 22 [.a]) rfl (by simp)<|Aa rfl rfl ?_;simp [AS,EG]
 by_cases h10:op=10
 ·subst h10;refine sg (CU 23 [.a]) rfl (by simp)<|Aa rfl rfl ?_;simp [AS,EG]
 by_cases h11:op=11
 ·subst h11;refine sg (CU 24 [.a]) rfl (by simp)<|Aa rfl rfl ?_;simp [AS,EG]
 by_cases h12:op=12
 ·subst h12;refine sg (CU 25 [.a]) rfl (by simp)<|Aa rfl rfl ?_;simp [AS,EG]
 by_cases h13:op=13
 ·subst h13;refine sg (CU 26 [.a]) rfl (by simp)<|Aa rfl rfl ?_;simp [AS,EG]
 by_cases h18:op=18
 ·subst h18;refine sg (CU 27 [.a]) rfl (by simp)<|Aa rfl rfl ?_;simp [AS,EG]
 by_cases h22:op=22
 ·subst h22;refine sg (CU 27 [.a]) rfl (by simp)<|Aa rfl rfl ?_;simp [AS,EG]
 refine sg [.f,.f,.f,.f,.f,.f,.f,.f,.f,.f,.f,.f,.f,.f,.f,.f,.f,.f,.f,.f,.f,.f,.f,.f,.f,.f,.f,.f] rfl (by simp [h1,h2,h3,h21,h25,h28,h4,h5,h27,h7,h8,h14,h15,h16,h17,h19,h20,h23,h26,h24,h6,h9,h10,h11,h12,h13,h18,h22])<|Aa rfl rfl ?_;simp [AS,EG,h1,h2,h3,h21,h25,h28,h4,h5,h27,h7,h8,h14,h15,h16,h17,h19,h20,h23,h26,h24,h6,h9,h10,h11,h12,h13,h18,h22]
def CX (op n:Int) (x:Str) (k p:Nat):Bool:=let h:=AS op k p
 h.is&&((k:Int) == h.kids)&&(h.n||n == 0)&&(h.text||x == [])&&(h.pats||(p:Int) == 0)
def C1 (op:Int) (x:Str) (k p:Nat):Bool:=!((AS op k p).text&&op != 14)||DH x
theorem D9 (op n:Int) (x:Str) (ks:List Tm) (ps:List Ty) (hl:C1 op x ks.length ps.length=true):Tq2 Tryz.f191.ntmps (D8 []) (JD gU Tryz.f191.results.toList (.ret JF []))
  [.code (FK Tryz.f191 4)] [(1,.ref 1 0),(2,.ref 2 0)] [(2,some (.immb 296 4 (EG (AS op ks.length ps.length)))),(1,some (.immb 49 5 (dTmc (.mk op n x ks ps))))] [3,4]:=by
 refine zcj rfl<|Ab rfl (λh=>?_) (λh=>?_)
 ·refine P6 rfl<|Aj rfl (λ_=>GB x) (by simp [Am])<|Fm rfl ?_;have hx:DH x=true:=by simp [C1] at hl h;grind
  exact Aj rfl (λ_=>BI _ hx) (by simp)<|Fm rfl<|BR ⟨_,AK⟩
 ·exact P6 rfl<|BR ⟨_,AK⟩
theorem Ey (op n:Int) (x:Str) (ks:List Tm) (ps:List Ty) (hl:C1 op x ks.length ps.length=false):Tq2 Tryz.f191.ntmps (D8 []) (JD gU Tryz.f191.results.toList (.pan Gl))
  [.code (FK Tryz.f191 4)] [(1,.ref 1 0),(2,.ref 2 0)] [(2,some (.immb 296 4 (EG (AS op ks.length ps.length)))),(1,some (.immb 49 5 (dTmc (.mk op n x ks ps))))] [3,4]:=by
 refine zcj rfl<|Ab rfl (λh=>?_) (λh=>?_)
 ·refine P6 rfl<|Aj rfl (λ_=>GB x) (by simp [Am])<|Fm rfl ?_;have hx:DH x=false:=by simp [C1] at hl h;grind
  exact AD [] rfl (by simp) (Cs _ hx) trivial rfl rfl
 ·exfalso;simp [C1] at hl h;grind
def Bz (op n:Int) (x:Str) (ps:List Ty):Bool :=
 if op=1 then AW n
 else if op=2 then n == 0||n == 1
 else if op=24 then decide (0<=n)&&decide (n<4)
 else if op=14 then EN x
 else if op=15 then decide (1<=(ps.length:Int))&&decide ((ps.length:Int)<=5)&&ps.all CM
 else true
def CO (op n:Int) (x:Str) (k:Nat) (ps:List Ty):Bool:=CX op n x k ps.length&&Bz op n x ps&&C1 op x k ps.length
theorem Tf (op n:Int) (x:Str) (ks:List Tm) (ps:List Ty) (hy:CO op n x ks.length ps=true):Tq4 191 [.imm (.agg (dTmc (.mk op n x ks ps)))] [] (.ret JF []):=by
 simp only [CO] at hy;refine Ad H8 func191 rfl [1,2,3,4]<|Fm rfl<|Aj rfl (λ_=>Wv op n x ks ps) (by simp [Am])<|sg [] rfl (by simp [Am,EG] <;> grind) ?_;simp only [Ap] at hy;obtain ⟨⟨hh,he⟩,hl⟩:=hy;refine Aj rfl (λ_=>BI _ (by simp [CX] at hh ⊢;grind)) (by simp) ?_;by_cases h1:op=1
 ·subst h1;refine sg [.a] rfl (by simp [Am])<|Aj rfl (λ_=>Jz n) (by simp)<|Fm rfl ?_;simp [Bz] at he;exact Aj rfl (λ_=>BI _ (by first | exact he | (simp at he ⊢;grind) | (simp;grind) | grind)) (by simp)<|sg [.s] rfl (by simp)<|Ac (D9 _ n x ks ps hl) AK AK rfl
 by_cases h2:op=2
 ·subst h2;refine sg [.a,.a] rfl (by simp [Am]) ?_;simp [Bz] at he;exact Aj rfl (λ_=>BI _ (by first | exact he | (simp at he ⊢;grind) | (simp;grind) | grind)) (by simp)<|sg [.s] rfl (by simp)<|Ac (D9 _ n x ks ps hl) AK AK rfl
 by_cases h24:op=24
 ·subst h24;refine sg [.a,.a,.a] rfl (by simp [Am]) ?_;simp [Bz] at he;exact Aj rfl (λ_=>BI _ (by first | exact he | (simp at he ⊢;grind) | (simp;grind) | grind)) (by simp)<|sg [.s] rfl (by simp)<|Ac (D9 _ n x ks ps hl) AK AK rfl
 by_cases h14:op=14
 ·subst h14;refine sg [.a,.a,.a,.a] rfl (by simp [Am])<|Aj rfl (λ_=>ER x) (by simp)<|Fm rfl ?_;simp [Bz] at he;exact Aj rfl (λ_=>BI _ (by first | exact he | (simp at he ⊢;grind) | (simp;grind) | grind)) (by simp)<|sg [.s] rfl (by simp)<|Ac (D9 _ n x ks ps hl) AK AK rfl
 by_cases h15:op=15
 ·subst h15;refine sg (CU 4 [.a]) rfl (by simp [Am]) ?_;simp [Bz] at he;refine Aj rfl (λ_=>BI _ (by simp;grind)) (by simp)<|Fm rfl<|Ak (λi:Nat=>[(101,.imm (.int .i64 i)),(100,.imm (.int .i64 ps.length)),(99,.imm (.sl (AA ps))),(1,.ref 1 0),(2,.ref 2 0)]) (λ_=>[(2,some (.immb 296 4 (EG (AS 15 ks.length ps.length)))),(1,some (.immb 49 5 (dTmc (.mk 15 n x ks ps))))]) [3,4] (λi=>ps.length-i)
   (λi=>i<=ps.length/\(ps.drop i).all CM=true) 0 ⟨AJ _,by simpa using he.2⟩ ⟨rfl,BB (by simp),AC⟩ AK rfl λi hi ih=>?_
  refine P6 rfl ?_;have hi2:=hi.2;refine Ab rfl (λh=>?_) (λh=>?_)
  ·simp at h;obtain ⟨t,ht⟩:=Ao h;rw [Av ht,Dd] at hi2;refine P6 rfl<|siz rfl (AE ht)<|Fm rfl<|Aj rfl (λ_=>P3 t) (by simp)<|Fm rfl ?_;simp only [Ap] at hi2;have hz:=hi2.1;exact Aj rfl (λ_=>BI _ (by first | rfl | (rw [hz];rfl))) (by simp)<|Fm rfl<|Ac (ih (i+1) (by omega) ⟨by omega,hi2.2⟩) ⟨AU,Cb⟩ AK rfl
  ·simp at h;rw [Bo (by omega)] at hi2;exact sd [.s] rfl (by simp)<|Ac (D9 _ n x ks ps hl) AK AK rfl
 exact sg [.f,.f,.f,.f,.f,.s] rfl (by simp [h1,h2,h24,h14,h15])<|Ac (D9 _ n x ks ps hl) AK AK rfl
theorem nD (op n:Int) (x:Str) (ks:List Tm) (ps:List Ty) (hy:CO op n x ks.length ps=false):Tq4 191 [.imm (.agg (dTmc (.mk op n x ks ps)))] [] (.pan Gl):=by
 simp only [CO] at hy;refine Ad H8 func191 rfl [1,2,3,4]<|Fm rfl<|Aj rfl (λ_=>Wv op n x ks ps) (by simp [Am])<|sg [] rfl (by simp [Am,EG] <;> grind) ?_;by_cases hh:CX op n x ks.length ps.length=true
 rotate_left
 ·exact AD [] rfl (by simp) (Cs _ (by simp [CX] at hh ⊢;grind)) trivial rfl rfl
 rw [hh] at hy;refine Aj rfl (λ_=>BI _ (by simp [CX] at hh ⊢;grind)) (by simp) ?_;by_cases h1:op=1
 ·subst h1;refine sg [.a] rfl (by simp [Am])<|Aj rfl (λ_=>Jz n) (by simp)<|Fm rfl ?_;by_cases he:Bz 1 n x ps=true
  ·have hl:C1 1 x ks.length ps.length=false:=by simpa [he] using hy
   simp [Bz] at he;exact Aj rfl (λ_=>BI _ (by first | exact he | (simp at he ⊢;grind) | (simp;grind) | grind)) (by simp)<|sg [.s] rfl (by simp)<|Ac (Ey _ n x ks ps hl) AK AK rfl
  ·simp [Bz] at he;exact AD [] rfl (by simp) (Cs _ (by first | exact he | (simp at he ⊢;grind) | (simp;grind) | grind)) trivial rfl rfl
 by_cases h2:op=2
 ·subst h2;refine sg [.a,.a] rfl (by simp [Am]) ?_;by_cases he:Bz 2 n x ps=true
  ·have hl:C1 2 x ks.length ps.length=false:=by simpa [he] using hy
   simp [Bz] at he;exact Aj rfl (λ_=>BI _ (by first | exact he | (simp at he ⊢;grind) | (simp;grind) | grind)) (by simp)<|sg [.s] rfl (by simp)<|Ac (Ey _ n x ks ps hl) AK AK rfl
  ·simp [Bz] at he;exact AD [] rfl (by simp) (Cs _ (by first | exact he | (simp at he ⊢;grind) | (simp;grind) | grind)) trivial rfl rfl
 by_cases h24:op=24
 ·subst h24;refine sg [.a,.a,.a] rfl (by simp [Am]) ?_;by_cases he:Bz 24 n x ps=true
  ·have hl:C1 24 x ks.length ps.length=false:=by simpa [he] using hy
   simp [Bz] at he;exact Aj rfl (λ_=>BI _ (by first | exact he | (simp at he ⊢;grind) | (simp;grind) | grind)) (by simp)<|sg [.s] rfl (by simp)<|Ac (Ey _ n x ks ps hl) AK AK rfl
  ·simp [Bz] at he;exact AD [] rfl (by simp) (Cs _ (by first | exact he | (simp at he ⊢;grind) | (simp;grind) | grind)) trivial rfl rfl
 by_cases h14:op=14
 ·subst h14;refine sg [.a,.a,.a,.a] rfl (by simp [Am])<|Aj rfl (λ_=>ER x) (by simp)<|Fm rfl ?_;by_cases he:Bz 14 n x ps=true
  ·have hl:C1 14 x ks.length ps.length=false:=by simpa [he] using hy
   simp [Bz] at he;exact Aj rfl (λ_=>BI _ (by first | exact he | (simp at he ⊢;grind) | (simp;grind) | grind)) (by simp)<|sg [.s] rfl (by simp)<|Ac (Ey _ n x ks ps hl) AK AK rfl
  ·simp [Bz] at he;exact AD [] rfl (by simp) (Cs _ (by first | exact he | (simp at he ⊢;grind) | (simp;grind) | grind)) trivial rfl rfl
 by_cases h15:op=15
 ·subst h15;refine sg (CU 4 [.a]) rfl (by simp [Am]) ?_;by_cases he:(decide (1<=(ps.length:Int))&&decide ((ps.length:Int)<=5))=true
  rotate_left
  ·exact AD [] rfl (by simp) (Cs _ (by simp at he ⊢;grind)) trivial rfl rfl
  have he5:ps.length<=5:=by simp at he;omega
  have hy:ps.all CM=false\/C1 15 x ks.length ps.length=false:=by
   have e:Bz 15 n x ps=((decide (1<=(ps.length:Int))&&decide ((ps.length:Int)<=5))&&ps.all CM):=by simp only [Bz];rfl
   rw [e,he] at hy;simpa only [Jx,Ma] using hy
  refine Aj rfl (λ_=>BI _ (by simp at he ⊢;grind)) (by simp)<|Fm rfl<|Ak (λi:Nat=>[(101,.imm (.int .i64 i)),(100,.imm (.int .i64 ps.length)),(99,.imm (.sl (AA ps))),(1,.ref 1 0),(2,.ref 2 0)]) (λ_=>[(2,some (.immb 296 4 (EG (AS 15 ks.length ps.length)))),(1,some (.immb 49 5 (dTmc (.mk 15 n x ks ps))))]) [3,4] (λi=>ps.length-i)
   (λi=>i<=ps.length/\((ps.drop i).all CM=false\/C1 15 x ks.length ps.length=false)) 0 ⟨AJ _,hy⟩ ⟨rfl,BB (by simp),AC⟩ AK rfl λi hi ih=>?_
  refine P6 rfl ?_;have hi2:=hi.2;refine Ab rfl (λh=>?_) (λh=>?_)
  ·simp at h;obtain ⟨t,ht⟩:=Ao h;rw [Av ht,Dd] at hi2;refine P6 rfl<|siz rfl (AE ht)<|Fm rfl<|Aj rfl (λ_=>P3 t) (by simp)<|Fm rfl ?_;cases hz:CM t with
   | true =>
    rw [hz,Jx] at hi2;exact Aj rfl (λ_=>BI _ (by first | rfl | (rw [hz];rfl))) (by simp)<|Fm rfl<|Ac (ih (i+1) (by omega) ⟨by omega,hi2⟩) ⟨AU,Cb⟩ AK rfl
   | false=>exact AD [] rfl (by simp) (Cs _ (by first | rfl | (rw [hz];rfl))) trivial rfl rfl
  ·simp at h;rw [Bo (by omega)] at hi2;exact sd [.s] rfl (by simp)<|Ac (Ey _ n x ks ps (by simpa using hi2)) AK AK rfl
 exact sg [.f,.f,.f,.f,.f,.s] rfl (by simp [h1,h2,h24,h14,h15])<|Ac (Ey _ n x ks ps (by simpa [Bz,h1,h2,h24,h14,h15] using hy)) AK AK rfl
mutual
def Ho:Tm->Bool
 | .mk op n x ks ps=>CO op n x ks.length ps&&FQ ks
def FQ:List Tm->Bool
 | []=>true
 | t::r=>Ho t&&FQ r
end
theorem LS:∀(t:Tm),Ho t=true->Tq4 136 [.imm (.agg (dTmc t))] [] (.ret JF [])
 | .mk op n x ks ps,hy=>by
  refine EX 0 rfl λhok=>?_;have hv:ks.length<=9223372036854775807:=by
   simp [CV,F0,dTmc,maxLen] at hok;have:=hok.1;omega
  simp only [Ho,Vk] at hy;refine Ad H8 func136 rfl [1,2,3]<|Fm rfl<|Aq [] [] [] rfl (Tf op n x ks ps hy.1) trivial rfl rfl<|Fm rfl<|Ak (λi:Nat=>[(9,.imm (.int .i64 i)),(8,.imm (.int .i64 ks.length)),(7,.imm (.sl (EQ ks))),(1,.ref 1 0)]) (λ_=>[(1,some (.immb 49 5 (dTmc (.mk op n x ks ps))))]) [2,3] (λi=>ks.length-i)
   (λi=>i<=ks.length/\FQ (ks.drop i)=true) 0 ⟨AJ _,hy.2⟩ ⟨rfl,BB (by simp),AK⟩ A9 rfl λi hi ih=>?_
  refine P6 rfl ?_;have hi2:=hi.2;refine Ab rfl (λh=>?_) (λh=>?_)
  ·simp at h;obtain ⟨t,ht⟩:=Ao h;rw [Av ht] at hi2;simp only [FQ,Vk] at hi2;refine P6 rfl<|siz rfl (Eu ht)<|Fm rfl ?_
   ·exact Aq [] [] [] rfl (LS t hi2.1) trivial rfl rfl<|Fm rfl<|Ac (ih (i+1) (by omega) ⟨by omega,hi2.2⟩) ⟨AU,AC⟩ A9 rfl
  ·exact P6 rfl<|BR ⟨_,AK⟩
termination_by t=>SizeOf.sizeOf t
decreasing_by
 all_goals
  have:=Cj (AF ht);simp_wf;omega
theorem Te:∀(t:Tm),Ho t=false->Tq4 136 [.imm (.agg (dTmc t))] [] (.pan Gl)
 | .mk op n x ks ps,hy=>by
  refine EX 0 rfl λhok=>?_;have hv:ks.length<=9223372036854775807:=by
   simp [CV,F0,dTmc,maxLen] at hok;have:=hok.1;omega
  simp only [Ho,Ma] at hy;refine Ad H8 func136 rfl [1,2,3]<|Fm rfl ?_;by_cases hn:CO op n x ks.length ps=true
  rotate_left
  ·exact AD [] rfl (by simp) (nD op n x ks ps (by simpa using hn)) trivial rfl rfl
  rw [hn] at hy;simp only [Bool.true_eq_false,false_or] at hy;refine Aq [] [] [] rfl (Tf op n x ks ps hn) trivial rfl rfl<|Fm rfl<|Ak (λi:Nat=>[(9,.imm (.int .i64 i)),(8,.imm (.int .i64 ks.length)),(7,.imm (.sl (EQ ks))),(1,.ref 1 0)]) (λ_=>[(1,some (.immb 49 5 (dTmc (.mk op n x ks ps))))]) [2,3] (λi=>ks.length-i)
   (λi=>i<=ks.length/\FQ (ks.drop i)=false) 0 ⟨AJ _,hy⟩ ⟨rfl,BB (by simp),AK⟩ A9 rfl λi hi ih=>?_
  refine P6 rfl ?_;have hi2:=hi.2;refine Ab rfl (λh=>?_) (λh=>?_)
  ·simp at h;obtain ⟨t,ht⟩:=Ao h;rw [Av ht] at hi2;simp only [FQ,Ma] at hi2;refine P6 rfl<|siz rfl (Eu ht)<|Fm rfl ?_;by_cases hz:Ho t=true
   ·exact Aq [] [] [] rfl (LS t hz) trivial rfl rfl<|Fm rfl<|Ac (ih (i+1) (by omega) ⟨by omega,by rw [hz] at hi2;simpa using hi2⟩) ⟨AU,AC⟩ A9 rfl
   ·exact AD [] rfl (by simp) (Te t (by simpa using hz)) trivial rfl rfl
  ·exfalso;simp at h;rw [Bo (by omega)] at hi2;simp [FQ] at hi2
termination_by t=>SizeOf.sizeOf t
decreasing_by
 all_goals
  have:=Cj (AF ht);simp_wf;omega
def G3 (t:Tm):Bool:=decide (0<=AY t 60 14)&&Ho t
theorem cH (t:Tm) (h:G3 t=true):Tq4 134 [.ref 1 0] [(1,some (.immb 49 5 (dTmc t)))] (.ret JF [(1,some (.immb 49 5 (dTmc t)))]):=by
 simp only [G3,Ap,decide_eq_true_eq] at h;exact Ad H8 func134 rfl [2,3,4]<|Fm rfl<|Aq [] [(2,1)] [] rfl (La t 60 14 1 (by decide) (by decide) (by decide) (by decide) (by decide) (by decide) h.1) Ax rfl rfl<|Fm rfl<|Aq [] [] [] rfl (LS t h.2) trivial rfl rfl<|Fm rfl<|BR ⟨_,rfl,rfl,A9⟩
theorem lT (t:Tm) (h:G3 t=false):Tq4 134 [.ref 1 0] [(1,some (.immb 49 5 (dTmc t)))] (.pan Gl):=by
 refine Ad H8 func134 rfl [2,3,4]<|Fm rfl ?_;by_cases h1:0<=AY t 60 14
 ·exact Aq [] [(2,1)] [] rfl (La t 60 14 1 (by decide) (by decide) (by decide) (by decide) (by decide) (by decide) h1) Ax rfl rfl<|Fm rfl<|AD [] rfl (by simp) (Te t (by simpa [G3,h1] using h)) trivial rfl rfl
 ·exact AD [(2,1)] rfl (by simp) (XH t 60 14 1 (by decide) (by decide) (by decide) (by decide) (by decide) (by decide) (by show AY t 60 14<0;omega)) Ax rfl rfl
theorem YA (t:Tm):Tq3 74 [.agg (dTmc t)] (SI (G3 t)):=by
 refine Ad H8 func74 rfl [1,2,3]<|Fm rfl ?_;cases h:G3 t with
 | true =>
  exact Ae rfl (Nw func134 (by decide +kernel) rfl (cH t h)) Ax rfl<|Fm rfl<|Aa rfl rfl rfl
 | false =>
  exact Ae rfl (Pu func134 (by decide +kernel) rfl (lT t h)) Ax rfl<|Fm rfl<|Aa rfl rfl rfl
def mF:TT:=gU++[
 (190,⟨.iface,false,1,16,[.imm .niliface]⟩),
 (183,⟨.sl 190,false,1,24,[.nils]⟩),
 (185,⟨.struct [(0,113)],true,2,40,[.imm (.str []),.nils]⟩),
 (187,⟨.struct [(0,71)],true,15,224,[.imm (.str []),.imm (.str []),.imm (.int .i64 0),.imm (.int .i64 0),.imm (.str []),.nils,.imm (.int .i64 0),.imm (.int .i64 0),.imm (.str []),.nils,.imm (.int .i64 0),.imm (.int .i64 0),.imm (.str []),.nils,.nils]⟩),
 (26,⟨.func,false,1,8,[.imm .nilfn]⟩),
 (246,⟨.func,false,1,8,[.imm .nilfn]⟩),
 (191,⟨.func,false,1,8,[.imm .nilfn]⟩)]
theorem CA:TTok prog mF:=.of_eq (l:=[4,3,9,49,25,182,45,47,5,23,22,73,46,180,71,43,178,40,41,113,111,28,293,195,1,139,296,190,183,185,187,26,246,191]) (by kernel_rfl)
theorem ad (path:List Pt) (h:run mF n 300 path todo env st ids [] = .at k env' st' ids' ob) (hob:A4 ob) (hd:Tq1 n F Q k env' st' ids'):Tq2 n F Q todo env st ids:=KC CA Fi 300 path h hob hd
theorem EA (h:run mF n 300 [] todo env st ids [] = .at k env' st' ids' ob) (hd:Tq1 n F Q k env' st' ids') (hob:A4 ob:=by simp):Tq2 n F Q todo env st ids:=ad [] h hob hd
theorem adqc (h:run mF n 300 [] todo env st ids [] = .at k env' st' ids' ob) (hd:Tq1 n F Q k env' st' ids') (hob:A4 ob:=by simp [Am]):Tq2 n F Q todo env st ids:=ad [] h hob hd
theorem ag (path:List Pt) (h:run mF n 300 path todo env st ids [] = .at k env' st' ids' ob) (hob:A4 ob) (hd:Tq1 n F Q k env' st' ids'):Tq1 n F Q todo env st ids:=JL CA Fi 300 path h hob hd
theorem E9 (h:run mF n 300 [] todo env st ids [] = .at k env' st' ids' ob) (hd:Tq1 n F Q k env' st' ids') (hob:A4 ob:=by simp):Tq1 n F Q todo env st ids:=ag [] h hob hd
theorem SQ (h:run mF n 300 [] todo env st ids [] = .at k env' st' ids' ob) (hd:Tq1 n F Q k env' st' ids') (hob:A4 ob:=by simp [Am]):Tq1 n F Q todo env st ids:=ag [] h hob hd
theorem ai (h:FO mF n env todo=some ⟨es,m,sz,e,g,ob,some t,todo'⟩) (hc:Am g->0<=m/\es[m.toNat]?=some c/\c.length=sz) (hob:A4 ob) (hk:Tq1 n F Q todo' ((t,gD g (.ip e c 0))::env) st ids):Tq1 n F Q todo env st ids:=Ht CA h hc hob hk
theorem aiz (h:FO mF n env todo=some ⟨es,(i:Int),sz,e,g,ob,some t,todo'⟩) (hg:es[i]?=some c) (hk:Tq1 n F Q todo' ((t,gD g (.ip e c 0))::env) st ids) (hl:c.length=sz:=by simp) (hob:A4 ob:=by simp):Tq1 n F Q todo env st ids:=ai h (λ_=>⟨by omega,by simpa using hg,hl⟩) hob hk
theorem aizc (h:FO mF n env todo=some ⟨es,(i:Int),sz,e,g,ob,some t,todo'⟩) (hg:es[i]?=some c) (hk:Tq1 n F Q todo' ((t,gD g (.ip e c 0))::env) st ids) (hl:c.length=sz:=by simp) (hob:A4 ob:=by simp [Am]):Tq1 n F Q todo env st ids:=ai h (λ_=>⟨by omega,by simpa using hg,hl⟩) hob hk
def IU {α:Type} (q:α->Bool):List α->Nat->Int
 | [],_=>-1
 | e::r,i=>if q e then (i:Int) else IU q r (i+1)
theorem Ni {α:Type} (q:α->Bool):∀(es:List α) (i:Nat),0<=IU q es i↔es.any q=true
 | [],i=>by simp [IU]
 | e::r,i=>by
  have ih:=Ni q r (i+1);by_cases h:q e=true
  ·simp [IU,h]
  ·simp only [IU,h,Vj];simpa using ih
theorem zbd (g:FuncId) (tf:TypeId) (fv:V) (q:List V->Bool) (es:List (List V)) (hes:∀e∈es,e.length=4) (hlen:es.length<=9223372036854775806)
  (hq:∀e∈es,Tq4 g [.imm (.agg e),.ref 1 0] [(1,some (.immb tf 1 [fv]))] (.ret (.imm (.bool (q e))) [(1,some (.immb tf 1 [fv]))])) :
  Tq4 245 [.imm (.sl es),.fn (.func g) [] [.ref 1 0]] [(1,some (.immb tf 1 [fv]))] (.ret (.imm (.int .i64 (IU q es 0))) [(1,some (.immb tf 1 [fv]))]):=by
 refine Ad CA func245 rfl [2,3,4]<|E9 rfl<|Ak (λi:Nat=>[(8,.imm (.int .i64 i)),(7,.imm (.int .i64 es.length)),(0,.imm (.sl es)),(1,.fn (.func g) [] [.ref 1 0])]) (λ_=>[(1,some (.immb tf 1 [fv]))]) [2,3,4] (λi=>es.length-i)
  (λi=>i<=es.length/\IU q es 0=IU q (es.drop i) i) 0 ⟨AJ _,rfl⟩ ⟨rfl,BB (by simp),AK⟩ A9 rfl λi hi ih=>?_
 refine EA rfl ?_;have hi2:=hi.2;refine Ab rfl (λh=>?_) (λh=>?_)
 ·simp at h;obtain ⟨e,he⟩:=Ao h;have hm:=AF he;rw [Av he] at hi2;refine EA rfl<|ai rfl (c:=e) (λ_=>⟨by simp,by simpa using he,hes e hm⟩) (by simp)<|ag [] rfl (by simp [hes e hm])<|Ae rfl (hq e hm) Ax rfl<|E9 rfl<|Ab rfl (λh=>?_) (λh=>?_)
  ·exact EA rfl<|Ah ⟨_,rfl,tV (congrArg _ (by rw [hi2];simp [IU,h])),A9⟩
  ·exact EA rfl<|Ac (ih (i+1) (by omega) ⟨by omega,by rw [hi2];simp [IU,h]⟩) ⟨AU,AC⟩ A9 rfl
 ·refine EA rfl ?_;simp at h;refine Ah ⟨_,rfl,tV (congrArg _ ?_),A9⟩;rw [hi2,Bo (by omega)];rfl
theorem lM (g:FuncId) (tf:TypeId) (fv:V) (q:List V->Bool) (es:List (List V)) (hes:∀e∈es,e.length=4) (hlen:es.length<=9223372036854775806)
  (hq:∀e∈es,Tq4 g [.imm (.agg e),.ref 1 0] [(1,some (.immb tf 1 [fv]))] (.ret (.imm (.bool (q e))) [(1,some (.immb tf 1 [fv]))])) :
  Tq4 174 [.imm (.sl es),.fn (.func g) [] [.ref 1 0]] [(1,some (.immb tf 1 [fv]))] (.ret (.imm (.bool (es.any q))) [(1,some (.immb tf 1 [fv]))]):=by
 refine Ad CA func174 rfl [2,3,4]<|E9 rfl<|Ae rfl (zbd g tf fv q es hes hlen hq) Ax rfl<|E9 rfl<|Ah ⟨_,rfl,tV (congrArg _ ?_),A9⟩;rw [Fq,<- Ni q es 0];simp
theorem zc9 (g:FuncId) (e:List V) (hel:e.length=4) (b:Bool) (hq:Tq3 g [.agg e] (.bool b)) :
  Tq4 252 [.imm (.agg e),.ref 1 0] [(1,some (.immb 26 1 [.fn (.func g)]))] (.ret (.imm (.bool (!b))) [(1,some (.immb 26 1 [.fn (.func g)]))]):=by
 exact Ad CA func252 rfl [2,3,4]<|ag [] rfl (by simp [hel])<|Aq [] [] [] rfl hq trivial rfl rfl<|E9 rfl<|Ah ⟨_,rfl,tV rfl,A9⟩
theorem allT (g:FuncId) (q:List V->Bool) (es:List (List V)) (hes:∀e∈es,e.length=4) (hlen:es.length<=9223372036854775806) (hq:∀e∈es,Tq3 g [.agg e] (.bool (q e))) :
  Tq3 186 [.sl es,.fn (.func g)] (.bool (es.all q)):=by
 refine Ad CA func186 rfl [1,2,3]<|E9 rfl<|Ae rfl (lM 252 26 (.fn (.func g)) (λe=>!q e) es hes hlen (λe he=>zc9 g e (hes e he) (q e) (hq e he))) Ax rfl<|E9 rfl<|Aa rfl rfl (congrArg _ ?_);rw [ZE];simp
theorem zbf (g:FuncId) (tf:TypeId) (fv:V) (q:List V->Bool) (es:List (List V)) (hes:∀e∈es,e.length=2) (hlen:es.length<=9223372036854775806)
  (hq:∀e∈es,Tq4 g [.imm (.agg e),.ref 1 0] [(1,some (.immb tf 1 [fv]))] (.ret (.imm (.bool (q e))) [(1,some (.immb tf 1 [fv]))])) :
  Tq4 282 [.imm (.sl es),.fn (.func g) [] [.ref 1 0]] [(1,some (.immb tf 1 [fv]))] (.ret (.imm (.int .i64 (IU q es 0))) [(1,some (.immb tf 1 [fv]))]):=by
 refine Ad CA func282 rfl [2,3,4]<|E9 rfl<|Ak (λi:Nat=>[(8,.imm (.int .i64 i)),(7,.imm (.int .i64 es.length)),(0,.imm (.sl es)),(1,.fn (.func g) [] [.ref 1 0])]) (λ_=>[(1,some (.immb tf 1 [fv]))]) [2,3,4] (λi=>es.length-i)
  (λi=>i<=es.length/\IU q es 0=IU q (es.drop i) i) 0 ⟨AJ _,rfl⟩ ⟨rfl,BB (by simp),AK⟩ A9 rfl λi hi ih=>?_
 refine EA rfl ?_;have hi2:=hi.2;refine Ab rfl (λh=>?_) (λh=>?_)
 ·simp at h;obtain ⟨e,he⟩:=Ao h;have hm:=AF he;rw [Av he] at hi2;refine EA rfl<|ai rfl (c:=e) (λ_=>⟨by simp,by simpa using he,hes e hm⟩) (by simp)<|ag [] rfl (by simp [hes e hm])<|Ae rfl (hq e hm) Ax rfl<|E9 rfl<|Ab rfl (λh=>?_) (λh=>?_)
  ·exact EA rfl<|Ah ⟨_,rfl,tV (congrArg _ (by rw [hi2];simp [IU,h])),A9⟩
  ·exact EA rfl<|Ac (ih (i+1) (by omega) ⟨by omega,by rw [hi2];simp [IU,h]⟩) ⟨AU,AC⟩ A9 rfl
 ·refine EA rfl ?_;simp at h;refine Ah ⟨_,rfl,tV (congrArg _ ?_),A9⟩;rw [hi2,Bo (by omega)];rfl
theorem lO (g:FuncId) (tf:TypeId) (fv:V) (q:List V->Bool) (es:List (List V)) (hes:∀e∈es,e.length=2) (hlen:es.length<=9223372036854775806)
  (hq:∀e∈es,Tq4 g [.imm (.agg e),.ref 1 0] [(1,some (.immb tf 1 [fv]))] (.ret (.imm (.bool (q e))) [(1,some (.immb tf 1 [fv]))])) :
  Tq4 250 [.imm (.sl es),.fn (.func g) [] [.ref 1 0]] [(1,some (.immb tf 1 [fv]))] (.ret (.imm (.bool (es.any q))) [(1,some (.immb tf 1 [fv]))]):=by
 refine Ad CA func250 rfl [2,3,4]<|E9 rfl<|Ae rfl (zbf g tf fv q es hes hlen hq) Ax rfl<|E9 rfl<|Ah ⟨_,rfl,tV (congrArg _ ?_),A9⟩;rw [Fq,<- Ni q es 0];simp
theorem zdb (g:FuncId) (e:List V) (hel:e.length=2) (b:Bool) (hq:Tq3 g [.agg e] (.bool b)) :
  Tq4 251 [.imm (.agg e),.ref 1 0] [(1,some (.immb 246 1 [.fn (.func g)]))] (.ret (.imm (.bool (!b))) [(1,some (.immb 246 1 [.fn (.func g)]))]):=by
 exact Ad CA func251 rfl [2,3,4]<|ag [] rfl (by simp [hel])<|Aq [] [] [] rfl hq trivial rfl rfl<|E9 rfl<|Ah ⟨_,rfl,tV rfl,A9⟩
theorem allC (g:FuncId) (q:List V->Bool) (es:List (List V)) (hes:∀e∈es,e.length=2) (hlen:es.length<=9223372036854775806) (hq:∀e∈es,Tq3 g [.agg e] (.bool (q e))) :
  Tq3 184 [.sl es,.fn (.func g)] (.bool (es.all q)):=by
 refine Ad CA func184 rfl [1,2,3]<|E9 rfl<|Ae rfl (lO 251 246 (.fn (.func g)) (λe=>!q e) es hes hlen (λe he=>zdb g e (hes e he) (q e) (hq e he))) Ax rfl<|E9 rfl<|Aa rfl rfl (congrArg _ ?_);rw [ZE];simp
theorem zbe (g:FuncId) (tf:TypeId) (fv:V) (q:V->Bool) (es:List V) (hlen:es.length<=9223372036854775806)
  (hq:∀e∈es,Tq4 g [.imm e,.ref 1 0] [(1,some (.immb tf 1 [fv]))] (.ret (.imm (.bool (q e))) [(1,some (.immb tf 1 [fv]))])) :
  Tq4 249 [.imm (.sl (es.map λx=>[x])),.fn (.func g) [] [.ref 1 0]] [(1,some (.immb tf 1 [fv]))] (.ret (.imm (.int .i64 (IU q es 0))) [(1,some (.immb tf 1 [fv]))]):=by
 refine Ad CA func249 rfl [2,3,4]<|E9 rfl<|Ak (λi:Nat=>[(8,.imm (.int .i64 i)),(7,.imm (.int .i64 es.length)),(0,.imm (.sl (es.map λx=>[x]))),(1,.fn (.func g) [] [.ref 1 0])]) (λ_=>[(1,some (.immb tf 1 [fv]))]) [2,3,4] (λi=>es.length-i)
  (λi=>i<=es.length/\IU q es 0=IU q (es.drop i) i) 0 ⟨AJ _,rfl⟩ ⟨rfl,BB (by simp),AK⟩ A9 rfl λi hi ih=>?_
 refine EA rfl ?_;have hi2:=hi.2;refine Ab rfl (λh=>?_) (λh=>?_)
 ·simp at h;obtain ⟨e,he⟩:=Ao h;have hm:=AF he;rw [Av he] at hi2;refine EA rfl<|ai rfl (c:=[e]) (λ_=>⟨by simp,by simp [he],rfl⟩) (by simp)<|E9 rfl<|Ae rfl (hq e hm) Ax rfl<|E9 rfl<|Ab rfl (λh=>?_) (λh=>?_)
  ·exact EA rfl<|Ah ⟨_,rfl,tV (congrArg _ (by rw [hi2];simp [IU,h])),A9⟩
  ·exact EA rfl<|Ac (ih (i+1) (by omega) ⟨by omega,by rw [hi2];simp [IU,h]⟩) ⟨AU,AC⟩ A9 rfl
 ·refine EA rfl ?_;simp at h;refine Ah ⟨_,rfl,tV (congrArg _ ?_),A9⟩;rw [hi2,Bo (by omega)];rfl
theorem lN (g:FuncId) (tf:TypeId) (fv:V) (q:V->Bool) (es:List V) (hlen:es.length<=9223372036854775806)
  (hq:∀e∈es,Tq4 g [.imm e,.ref 1 0] [(1,some (.immb tf 1 [fv]))] (.ret (.imm (.bool (q e))) [(1,some (.immb tf 1 [fv]))])) :
  Tq4 181 [.imm (.sl (es.map λx=>[x])),.fn (.func g) [] [.ref 1 0]] [(1,some (.immb tf 1 [fv]))] (.ret (.imm (.bool (es.any q))) [(1,some (.immb tf 1 [fv]))]):=by
 refine Ad CA func181 rfl [2,3,4]<|E9 rfl<|Ae rfl (zbe g tf fv q es hlen hq) Ax rfl<|E9 rfl<|Ah ⟨_,rfl,tV (congrArg _ ?_),A9⟩;rw [Fq,<- Ni q es 0];simp
theorem zda (g:FuncId) (e:V) (b:Bool) (hq:Tq3 g [e] (.bool b)) :
  Tq4 182 [.imm e,.ref 1 0] [(1,some (.immb 191 1 [.fn (.func g)]))] (.ret (.imm (.bool (!b))) [(1,some (.immb 191 1 [.fn (.func g)]))]):=by
 exact Ad CA func182 rfl [2,3,4]<|E9 rfl<|Aq [] [] [] rfl hq trivial rfl rfl<|E9 rfl<|Ah ⟨_,rfl,tV rfl,A9⟩
theorem allI (g:FuncId) (q:V->Bool) (es:List V) (hlen:es.length<=9223372036854775806) (hq:∀e∈es,Tq3 g [e] (.bool (q e))) :
  Tq3 127 [.sl (es.map λx=>[x]),.fn (.func g)] (.bool (es.all q)):=by
 refine Ad CA func127 rfl [1,2,3]<|E9 rfl<|Ae rfl (lN 182 191 (.fn (.func g)) (λe=>!q e) es hlen (λe he=>zda g e (q e) (hq e he))) Ax rfl<|E9 rfl<|Aa rfl rfl (congrArg _ ?_);rw [ZE];simp
def KF:Sh->Bool
 | .iface | .other=>false
 | _=>true
structure PTa where
 t:TypeId
 v:V
 to_:TypeId
 dst:Option Nat
 todo:List DI
def pta (tt:TT) (n:Nat) (env:Env) (todo:List DI):Option PTa :=
 match NU todo with
 | some o=>match o.guard,o.op with
  | none,.typeAssert x _ to_ true=>match Eg env x,lk tt to_,BM n o.dst,Bm todo ([],[]) with
   | some (.imm (.iface t v)),some i,true,some (_,_,todo')=>match KF i.sh with
    | true=>some ⟨t,v,to_,o.dst,todo'⟩
    | false=>none
   | _,_,_,_=>none
  | _,_=>none
 | none=>none
theorem OB {t to_ from_:TypeId} {i:TyI} (hi:TyOk P to_ i) (hc:KF i.sh=true) {r:Value} (h:(t=to_/\r = .tuple #[v,.bool true])\/(t≠to_/\∃z,(P.info? to_).bind (·.zero)=some z/\r = .tuple #[z,.bool false])) :
  (Instr.typeAssert (.iface t v) from_ to_ true).run P w = .ok r w:=by
 have hu:∃dd,P.underlying to_=some dd/\∀ms,dd ≠ .interface ms:=by
  have:=hi.sh;generalize i.sh=sh at this hc;cases sh <;> simp only [KF,DK] at hc <;> simp only [PL] at this
  case struct fs=>obtain ⟨f,h1,_⟩:=this;exact ⟨_,h1,λ_ h=>by cases h⟩
  case func=>obtain ⟨a,b,c,h1⟩:=this;exact ⟨_,h1,λ_ h=>by cases h⟩
  all_goals exact ⟨_,this,λ_ h=>by cases h⟩
 obtain ⟨dd,hd,hne⟩:=hu;rcases h with ⟨rfl,rfl⟩ | ⟨hn,z,hz,rfl⟩
 ·cases dd <;> first | exact absurd rfl (hne _) | simp [Instr.typeAssert,run_underlying hd]
 ·have hz:=ET (w:=w) hz;cases dd <;> first | exact absurd rfl (hne _) | simp [Instr.typeAssert,run_underlying hd,hn,hz]
theorem Dw (htt:TTok P tt) {t0 to_:TypeId} {v0:V} {todo0:List DI} (h:pta tt n env todo=some ⟨t0,v0,to_,d0,todo0⟩) {r:List V} (hr:(t0=to_/\r=[v0,.bool true])\/(t0≠to_/\∃z zd,(P.info? to_).bind (·.zero)=some z/\(∀I,RepV I z zd)/\r=[zd,.bool false])) (hk:G P n F Q todo0 (BK d0 (.imm (.tup r)) env) st ids):G P n F Q todo env st ids:=by
 unfold pta at h
 split at h
 ·rename_i o ho
  split at h
  ·rename_i x from_ to' hg hop
   split at h
   ·rename_i t v i all o' todo' hx hi hd h1
    split at h
    ·rename_i hc;cases h;have ho':o'=o:=Dk ho h1;subst ho';refine BF (fr:=[]) (wr:=[]) (rd:=[]) h1 ?_ hd (λc hc=>by rw [hop] at hc;cases hc) hk;intro I μ st1 ids1 a w hag hst hon;refine ⟨λ_=>?_,λhw=>by rw [AH hg] at hw;cases hw⟩;have hops:=Bj hon;rw [hop] at hops;have rx:=(hops x (by simp [Op.operands]) _ hx).immInv;generalize hv:a.eval x=v at rx;cases rx with
     | iface _ u _ hu =>
      have fin:∀(z:Value) (b:Bool) (zd:V),(Instr.typeAssert (.iface t0 u) from_ to_ true).run P w = .ok (.tuple #[z,.bool b]) w->RepV I z zd->r=[zd,.bool b] ->
        valX P ((execOp a.eval o').run P w) (λv w'=>∃I' μ',StRep I' μ' ([]++st1) ids1 w'/\RepD I' μ' v (.imm (.tup r))/\μ.le μ'/\Ext I μ st1 w I' μ' ([]++st1) w') (Lx (Lw Q) I μ st1 w):=by
       intro z b zd h1 h2 h3;have hrun:(execOp a.eval o').run P w = .ok (.value (.tuple #[z,.bool b])) w:=by
        simp only [execOp,hop,hv];exact A7 h1
       rw [hrun,h3];refine ⟨I,μ,hst,.imm _ _ (.tup _ _ rfl λi c x hc hx=>?_),Mu.le_refl μ,Ext.refl _ _ _ _⟩
       match i,hc,hx with
       | 0,hc,hx=>cases hc;cases hx;exact h2
       | 1,hc,hx=>cases hc;cases hx;exact .bool _
       | i+2,hc,hx=>simp at hx
      rcases hr with ⟨e1,e2⟩ | ⟨e1,z,zd,e2,e3,e4⟩
      ·exact fin u true v0 (OB (htt _ _ hi) hc (.inl ⟨e1,rfl⟩)) hu e2
      ·exact fin z false zd (OB (htt _ _ hi) hc (.inr ⟨e1,z,e2,rfl⟩)) (e3 I) e4
    ·cases h
   ·cases h
  ·cases h
 ·cases h
mutual
theorem RM:∀{a b:Ty},dTyc a=dTyc b->a=b
 | .mk s n x ps,.mk s' n' x' ps',h=>by
  simp only [dTyc,DM,V.int.injEq,V.str.injEq,V.sl.injEq,and_true,true_and] at h;obtain ⟨h1,h2,h3,h4⟩:=h;subst h1;subst h2;subst h3;rw [HV h4]
theorem HV:∀{a b:List Ty},AA a=AA b->a=b
 | [],[],_=>rfl
 | [],_::_,h=>by simp [AA] at h
 | _::_,[],h=>by simp [AA] at h
 | x::r,y::t,h=>by
  simp only [AA,DM] at h;rw [RM h.1,HV h.2]
end
theorem RP {a b:Cd} (h:Fa a=Fa b):a=b:=by
 obtain ⟨a1,a2⟩:=a;obtain ⟨b1,b2⟩:=b;simp only [Fa,DM,V.str.injEq,V.sl.injEq,and_true] at h;rw [h.1,HV h.2]
open Classical in
noncomputable def qOf {α β:Type} (d:α->β) (f:α->Bool) (e:β):Bool:=decide (∃t,d t=e/\f t=true)
open Classical in
theorem UR {d:α->β} (hd:∀{a b},d a=d b->a=b) (f:α->Bool) (t:α):qOf d f (d t)=f t:=by
 unfold qOf;by_cases h:f t=true
 ·rw [h];exact decide_eq_true ⟨t,rfl,h⟩
 ·simp only [QZ] at h;rw [h];refine decide_eq_false λ⟨u,h1,h2⟩=>?_;rw [hd h1,h] at h2;cases h2
theorem US {d:α->β} (hd:∀{a b},d a=d b->a=b) (f:α->Bool) (l:List α):(l.map d).all (qOf d f)=l.all f:=by
 rw [Ob];congr 1;funext t;exact UR hd f t
def Ps (c:Cd):Bool:=EN c.name&&decide ((c.args.length:Int)<=3)&&c.args.all (AO false)
def HU (d:Dt):Bool:=EN d.name&&decide ((1:Int)<=d.cons.length)&&decide ((d.cons.length:Int)<=5)&&d.cons.all Ps
def K4 (f:Fd):Bool:=DH f.name&&DH f.param&&AO false f.from_&&AO false f.to_&&G3 f.body
theorem uF (ts:List Ty) (h:ts.length<=9223372036854775806):Tq3 186 [.sl (AA ts),.fn (.func 187)] (.bool (ts.all (AO false))):=by
 have:=allT 187 (qOf dTyc (AO false)) (AA ts) (λe he=>by rw [Dg] at he;obtain ⟨t,_,rfl⟩:=C2.1 he;simp) (by simpa using h) (λe he=>by
  rw [Dg] at he;obtain ⟨t,_,rfl⟩:=C2.1 he;rw [UR RM];exact Qh t)
 rw [Dg,US RM] at this;rw [Dg];exact this
theorem iP (c:Cd):Tq3 185 [.agg (Fa c)] (.bool (Ps c)):=by
 obtain ⟨nm,ts⟩:=c;refine B3 λhv=>?_;simp [CV,F0,Fa,maxLen] at hv;refine Ad CA func185 rfl [1,2,3]<|SQ rfl<|Aj rfl (λ_=>ER nm) (by simp [Am])<|SQ rfl<|Aj rfl (λhg=>uF ts (by simp [Am] at hg;omega)) (by simp [Am])<|ag [] rfl (by simp [Am] <;> grind)<|Aa rfl rfl (congrArg _ ?_);simp [Ps] <;> grind
theorem yK (cs:List Cd) (h:cs.length<=9223372036854775806):Tq3 184 [.sl (cs.map Fa),.fn (.func 185)] (.bool (cs.all Ps)):=by
 have:=allC 185 (qOf Fa Ps) (cs.map Fa) (λe he=>by obtain ⟨t,_,rfl⟩:=C2.1 he;rfl) (by simpa using h) (λe he=>by
  obtain ⟨t,_,rfl⟩:=C2.1 he;rw [UR RP];exact iP t)
 rw [US RP] at this;exact this
def ME (d:Dt):V:=.iface 185 (.agg (C7 d))
def Kf (f:Fd):V:=.iface 187 (.agg (CG f))
theorem U8:∃z,(prog.info? 185).bind (·.zero)=some z/\∀I,RepV I z (.agg [.str [],.sl []]):=by
 refine ⟨.agg #[.string ⟨#[]⟩,.slice none 0 0],by kernel_rfl,λI=>.agg _ _ rfl (by decide) λi c x hc hx=>?_⟩
 match i,hc,hx with
 | 0,hc,hx=>cases hc;cases hx;exact .str _ _ rfl
 | 1,hc,hx=>cases hc;cases hx;exact .slnil
 | i+2,hc,hx=>simp at hx
theorem YZ (d:Dt):Tq3 128 [ME d] (.bool (HU d)):=by
 obtain ⟨nm,cs⟩:=d;refine B3 λhv=>?_;simp [CV,F0,ME,C7,maxLen] at hv;refine Ad CA func128 rfl [1,2,3,4]<|SQ rfl<|Dw CA rfl (.inl ⟨rfl,rfl⟩)<|ag [.a] rfl (by simp [Am])<|Aj rfl (λ_=>ER nm) (by simp [Am])<|SQ rfl<|Aj rfl (λhg=>yK cs (by simp [Am] at hg;omega)) (by simp [Am])<|ag [] rfl (by simp [Am] <;> grind)<|Aa rfl rfl (congrArg _ ?_);simp [HU] <;> grind
theorem iO (f:Fd):Tq3 128 [Kf f] (.bool (K4 f)):=by
 obtain ⟨nm,pm,⟨s1,n1,x1,p1⟩,⟨s2,n2,x2,p2⟩,⟨o3,n3,x3,k3,p3⟩⟩:=f;obtain ⟨z,hz,hzr⟩:=U8;refine B3 λhv=>Ad CA func128 rfl [1,2,3,4]<|SQ rfl<|Dw CA rfl (.inr ⟨by decide,z,_,hz,hzr,rfl⟩)<|ag [.a] rfl (by simp [Am])<|Dw CA rfl (.inl ⟨rfl,rfl⟩)<|ag [.a] rfl (by simp [Am])<|Aj rfl (λ_=>GB nm) (by simp [Am])<|SQ rfl<|Aj rfl (λ_=>GB pm) (by simp [Am])<|SQ rfl<|Aj rfl (λ_=>Qh (.mk s1 n1 x1 p1)) (by simp [Am])<|SQ rfl<|Aj rfl (λ_=>Qh (.mk s2 n2 x2 p2)) (by simp [Am])<|SQ rfl<|Aj rfl (λ_=>YA (.mk o3 n3 x3 k3 p3)) (by simp [Am])<|ag [] rfl (by simp [Am] <;> grind)<|Aa rfl rfl (congrArg _ ?_);simp [K4,SI] <;> grind
inductive Pt2 where
 | d (x:Dt)
 | f (x:Fd)
def tQ:Pt2->V
 | .d x=>ME x
 | .f x=>Kf x
def WM:Pt2->Bool
 | .d x=>HU x
 | .f x=>K4 x
theorem oC (p:Pt2):Tq3 128 [tQ p] (.bool (WM p)):=by
 cases p with
 | d x=>exact YZ x
 | f x=>exact iO x
mutual
theorem tP:∀{a b:Tm},dTmc a=dTmc b->a=b
 | .mk s n x ks ps,.mk s' n' x' ks' ps',h=>by
  simp only [dTmc,DM,V.int.injEq,V.str.injEq,V.sl.injEq,and_true,true_and] at h;obtain ⟨h1,h2,h3,h4,h5⟩:=h;subst h1;subst h2;subst h3;rw [RN h4,HV h5]
theorem RN:∀{a b:List Tm},EQ a=EQ b->a=b
 | [],[],_=>rfl
 | [],_::_,h=>by simp [EQ] at h
 | _::_,[],h=>by simp [EQ] at h
 | x::r,y::t,h=>by
  simp only [EQ,DM] at h;rw [tP h.1,RN h.2]
end
theorem MR:∀{a b:List Cd},a.map Fa=b.map Fa->a=b
 | [],[],_=>rfl
 | [],_::_,h=>by simp at h
 | _::_,[],h=>by simp at h
 | x::r,y::t,h=>by
  simp only [C6,DM] at h;rw [RP h.1,MR h.2]
theorem fR {a b:Pt2} (h:tQ a=tQ b):a=b:=by
 cases a with
 | d x=>cases b with
  | d y =>
   obtain ⟨x1,x2⟩:=x;obtain ⟨y1,y2⟩:=y;simp only [tQ,ME,C7,V.iface.injEq,V.agg.injEq,DM,V.str.injEq,V.sl.injEq,true_and,and_true] at h;rw [h.1,MR h.2]
  | f y=>simp [tQ,ME,Kf] at h
 | f x=>cases b with
  | d y=>simp [tQ,ME,Kf] at h
  | f y =>
   obtain ⟨nm,pm,⟨s1,n1,x1,p1⟩,⟨s2,n2,x2,p2⟩,⟨o3,n3,x3,k3,p3⟩⟩:=x;obtain ⟨nm',pm',⟨s1',n1',x1',p1'⟩,⟨s2',n2',x2',p2'⟩,⟨o3',n3',x3',k3',p3'⟩⟩:=y;simp only [tQ,Kf,CG,dTyc,dTmc,V.iface.injEq,V.agg.injEq,De,IO,DM,V.str.injEq,V.int.injEq,V.sl.injEq,true_and,and_true] at h;obtain ⟨h1,h2,h3,h4,h5,h6,h7,h8,h9,h10,h11,h12,h13,h14,h15⟩:=h;rw [h1,h2,h3,h4,h5,HV h6,h7,h8,h9,HV h10,h11,h12,h13,RN h14,HV h15]
theorem Y5 (ps:List Pt2) (h:ps.length<=9223372036854775806):Tq3 127 [.sl (ps.map λp=>[tQ p]),.fn (.func 128)] (.bool (ps.all WM)):=by
 have:=allI 128 (qOf tQ WM) (ps.map tQ) (by simpa using h) (λe he=>by
  obtain ⟨t,_,rfl⟩:=C2.1 he;rw [UR fR];exact oC t)
 rw [US fR,Rc] at this;exact this
def Hc (m:Md):Bool:=DH m.name&&decide ((m.datas.length:Int)<=4)&&decide ((1:Int)<=m.funs.length)&&decide ((m.funs.length:Int)<=5)&&m.datas.all HU&&m.funs.all K4
def Lu (l:List Pt2):List (List V):=l.map λp=>[tQ p]
@[simp] theorem rowP_length (l:List Pt2):(Lu l).length=l.length:=by simp [Lu]
def xS (b:Bool) (k:Nat):D:=match b with
 | false=>.nils
 | true=>.own 2 k
def stP (b:Bool) (m:Md) (es:List (List V)):St:=match b with
 | false=>[(1,some (.immb 43 3 (dMdc m)))]
 | true=>[(2,some (.row 190 1 es)),(1,some (.immb 43 3 (dMdc m)))]
theorem Q9 (a b:List Pt2):Lu (a++b)=Lu a++Lu b:=by simp [Lu]
theorem fY (m:Md) (b:Bool) (es0:List (List V)) (hb:b=false->es0=[]) (he0:es0=Lu (m.datas.map .d)) (hd:(m.datas.length:Int)<=4) (hf1:(1:Int)<=m.funs.length) (hf:(m.funs.length:Int)<=5) :
  Tq2 Tryz.f70.ntmps (D8 []) (JD mF Tryz.f70.results.toList (.ret (.imm (SI (m.datas.all HU&&m.funs.all K4))) []))
   [.code (FK Tryz.f70 4)] [(3,xS b es0.length),(1,.ref 1 0)] (stP b m es0) [3,4]:=by
 cases b with
 | false =>
  have:=hb rfl;subst this;refine EA rfl<|Ak (λy:Nat×Bool×List (List V)=>[(47,.imm (.int .i64 y.1)),(46,.imm (.int .i64 m.funs.length)),(45,.imm (.sl (m.funs.map CG))),(3,xS y.2.1 y.2.2.length),(1,.ref 1 0)])
   (λy=>stP y.2.1 m y.2.2) [3,4] (λy=>m.funs.length-y.1)
   (λy=>y.1<=m.funs.length/\y.2.2=Lu (m.datas.map .d++(m.funs.take y.1).map .f)/\(y.2.1=false->y.2.2=[])) (0,false,[]) ⟨AJ _,by simpa using he0,λ_=>rfl⟩ ⟨rfl,BB (by simp),AC⟩ A9 rfl λy hi ih=>?_
  obtain ⟨i,b,es⟩:=y;obtain ⟨hi1,hi2,hi3⟩:=hi;simp only at hi1 hi2 hi3;have hlen:es.length<=9:=by
   have:=congrArg List.length hi2;simp at this;omega
  have hnext:∀f,m.funs[i]?=some f->es++[[Kf f]]=Lu (m.datas.map .d++(m.funs.take (i+1)).map .f):=λf hf=>by
   rw [Bp hf,CE,<- CF,Q9,<- hi2];rfl
  have hend:¬i<m.funs.length->es=Lu (m.datas.map .d++m.funs.map .f):=λh=>by
   rw [hi2,Db (by omega)]
  cases b with
  | false =>
   have hi3:=hi3 rfl;subst hi3;refine EA rfl<|Ab rfl (λh=>?_) (λh=>?_)
   ·simp at h;obtain ⟨f,hf⟩:=Ao h;exact EA rfl<|aiz rfl (Fx hf)<|E9 rfl<|B7 CA rfl ⟨by simp,by simp [maxLen],by simp,trivial⟩<|E9 rfl<|Bt 2 4 rfl<|Ac (ih (i+1,true,[]++[[Kf f]]) (by simp only;omega) ⟨by simp only;omega,hnext f hf,λh=>by cases h⟩) ⟨BB (GR (by simp only;omega) (by simp only;omega)),Cb⟩ AK rfl
   ·simp at h;have:=congrArg List.length (hend (by omega));simp at this;omega
  | true =>
   refine EA rfl<|Ab rfl (λh=>?_) (λh=>?_)
   ·simp at h;obtain ⟨f,hf⟩:=Ao h;exact EA rfl<|aiz rfl (Fx hf)<|E9 rfl<|B7 CA rfl ⟨by simp,by simp [maxLen];omega,by simp;omega,trivial⟩<|E9 rfl<|Bt 2 4 rfl<|Ac (ih (i+1,true,es++[[Kf f]]) (by simp only;omega) ⟨by simp only;omega,hnext f hf,λh=>by cases h⟩) ⟨BB (GR (by simp only;omega) (by simp only;omega)),Cb⟩ AK rfl
   ·simp at h;refine Az rfl<|BC 2 rfl<|EA rfl<|Aj rfl (λ_=>by rw [hend (by omega)];exact Y5 _ (by simp;omega)) (by simp)<|E9 rfl ?_;have hall:(m.datas.map Pt2.d++m.funs.map Pt2.f).all WM=(m.datas.all HU&&m.funs.all K4):=by
     rw [HJ,Ob,Ob];rfl
    rw [hall];refine Ab rfl (λh=>?_) (λh=>?_)
    ·refine EA rfl<|Aa rfl rfl ?_;simp only [HN] at h;rw [h];rfl
    ·refine EA rfl<|Aa rfl rfl ?_;simp only [ZD] at h;rw [h];rfl
 | true =>
  refine EA rfl<|Ak (λy:Nat×Bool×List (List V)=>[(47,.imm (.int .i64 y.1)),(46,.imm (.int .i64 m.funs.length)),(45,.imm (.sl (m.funs.map CG))),(3,xS y.2.1 y.2.2.length),(1,.ref 1 0)])
   (λy=>stP y.2.1 m y.2.2) [3,4] (λy=>m.funs.length-y.1)
   (λy=>y.1<=m.funs.length/\y.2.2=Lu (m.datas.map .d++(m.funs.take y.1).map .f)/\(y.2.1=false->y.2.2=[])) (0,true,es0) ⟨AJ _,by simpa using he0,λh=>by cases h⟩ ⟨rfl,BB (by simp),AC⟩ AK rfl λy hi ih=>?_
  obtain ⟨i,b,es⟩:=y;obtain ⟨hi1,hi2,hi3⟩:=hi;simp only at hi1 hi2 hi3;have hlen:es.length<=9:=by
   have:=congrArg List.length hi2;simp at this;omega
  have hnext:∀f,m.funs[i]?=some f->es++[[Kf f]]=Lu (m.datas.map .d++(m.funs.take (i+1)).map .f):=λf hf=>by
   rw [Bp hf,CE,<- CF,Q9,<- hi2];rfl
  have hend:¬i<m.funs.length->es=Lu (m.datas.map .d++m.funs.map .f):=λh=>by
   rw [hi2,Db (by omega)]
  cases b with
  | false =>
   have hi3:=hi3 rfl;subst hi3;refine EA rfl<|Ab rfl (λh=>?_) (λh=>?_)
   ·simp at h;obtain ⟨f,hf⟩:=Ao h;exact EA rfl<|aiz rfl (Fx hf)<|E9 rfl<|B7 CA rfl ⟨by simp,by simp [maxLen],by simp,trivial⟩<|E9 rfl<|Bt 2 4 rfl<|Ac (ih (i+1,true,[]++[[Kf f]]) (by simp only;omega) ⟨by simp only;omega,hnext f hf,λh=>by cases h⟩) ⟨BB (GR (by simp only;omega) (by simp only;omega)),Cb⟩ AK rfl
   ·simp at h;have:=congrArg List.length (hend (by omega));simp at this;omega
  | true =>
   refine EA rfl<|Ab rfl (λh=>?_) (λh=>?_)
   ·simp at h;obtain ⟨f,hf⟩:=Ao h;exact EA rfl<|aiz rfl (Fx hf)<|E9 rfl<|B7 CA rfl ⟨by simp,by simp [maxLen];omega,by simp;omega,trivial⟩<|E9 rfl<|Bt 2 4 rfl<|Ac (ih (i+1,true,es++[[Kf f]]) (by simp only;omega) ⟨by simp only;omega,hnext f hf,λh=>by cases h⟩) ⟨BB (GR (by simp only;omega) (by simp only;omega)),Cb⟩ AK rfl
   ·simp at h;refine Az rfl<|BC 2 rfl<|EA rfl<|Aj rfl (λ_=>by rw [hend (by omega)];exact Y5 _ (by simp;omega)) (by simp)<|E9 rfl ?_;have hall:(m.datas.map Pt2.d++m.funs.map Pt2.f).all WM=(m.datas.all HU&&m.funs.all K4):=by
     rw [HJ,Ob,Ob];rfl
    rw [hall];refine Ab rfl (λh=>?_) (λh=>?_)
    ·refine EA rfl<|Aa rfl rfl ?_;simp only [HN] at h;rw [h];rfl
    ·refine EA rfl<|Aa rfl rfl ?_;simp only [ZD] at h;rw [h];rfl
theorem Gd (m:Md):Tq3 70 [.agg (dMdc m)] (SI (Hc m)):=by
 refine B3 λhv=>?_;have hv1:m.datas.length<=9223372036854775807/\m.funs.length<=9223372036854775807:=by
  simp [CV,F0,dMdc,maxLen] at hv;omega
 refine Ad CA func70 rfl [1,2,3,4]<|SQ rfl<|Aj rfl (λ_=>GB m.name) (by simp [Am])<|ag [] rfl (by simp [Am] <;> grind)<|Ab rfl (λh=>?_) (λh=>?_)
 ·refine EA rfl<|Aa rfl rfl (congrArg _ ?_);have:Hc m=false:=by
   simp at h;simp [Hc];grind
  rw [this];rfl
 have hx:DH m.name=true/\(m.datas.length:Int)<=4/\(1:Int)<=m.funs.length/\(m.funs.length:Int)<=5:=by
  simp at h;refine ⟨?_,?_,?_,?_⟩ <;> grind
 clear h;have hres:Hc m=(m.datas.all HU&&m.funs.all K4):=by simp [Hc,hx.1,hx.2.1,hx.2.2.1,hx.2.2.2]
 rw [hres];refine EA rfl<|Ak (λy:Nat×Bool×List (List V)=>[(33,.imm (.int .i64 y.1)),(32,.imm (.int .i64 m.datas.length)),(31,.imm (.sl (m.datas.map C7))),(3,xS y.2.1 y.2.2.length),(1,.ref 1 0)])
  (λy=>stP y.2.1 m y.2.2) [3,4] (λy=>m.datas.length-y.1)
  (λy=>y.1<=m.datas.length/\y.2.2=Lu ((m.datas.take y.1).map .d)/\(y.2.1=false->y.2.2=[])) (0,false,[]) ⟨AJ _,rfl,λ_=>rfl⟩ ⟨rfl,BB (by simp),AC⟩ A9 rfl λy hi ih=>?_
 obtain ⟨i,b,es⟩:=y;obtain ⟨hi1,hi2,hi3⟩:=hi;simp only at hi1 hi2 hi3;have hlen:es.length<=4:=by
  have:=congrArg List.length hi2;simp at this;omega
 have hend:¬i<m.datas.length->es=Lu (m.datas.map .d):=λh=>by
  rw [hi2,Db (by omega)]
 have hnext:∀d,m.datas[i]?=some d->es++[[ME d]]=Lu ((m.datas.take (i+1)).map .d):=λd hd=>by
  rw [Bp hd,CE,Q9,<- hi2];rfl
 cases b with
 | false =>
  have hi3:=hi3 rfl;subst hi3;refine EA rfl<|Ab rfl (λh=>?_) (λh=>?_)
  ·simp at h;obtain ⟨d,hd⟩:=Ao h;exact EA rfl<|aiz rfl (Fx hd)<|E9 rfl<|B7 CA rfl ⟨by simp,by simp [maxLen],by simp,trivial⟩<|E9 rfl<|Bt 2 4 rfl<|Ac (ih (i+1,true,[]++[[ME d]]) (by simp only;omega) ⟨by simp only;omega,hnext d hd,λh=>by cases h⟩) ⟨BB (GR (by simp only;omega) (by simp only;omega)),Cb⟩ AK rfl
  ·simp at h;exact Az rfl<|Ac (fY m false [] (λ_=>rfl) (hend (by omega)) hx.2.1 hx.2.2.1 hx.2.2.2) AK A9 rfl
 | true =>
  refine EA rfl<|Ab rfl (λh=>?_) (λh=>?_)
  ·simp at h;obtain ⟨d,hd⟩:=Ao h;exact EA rfl<|aiz rfl (Fx hd)<|E9 rfl<|B7 CA rfl ⟨by simp,by simp [maxLen];omega,by simp;omega,trivial⟩<|E9 rfl<|Bt 2 4 rfl<|Ac (ih (i+1,true,es++[[ME d]]) (by simp only;omega) ⟨by simp only;omega,hnext d hd,λh=>by cases h⟩) ⟨BB (GR (by simp only;omega) (by simp only;omega)),Cb⟩ AK rfl
  ·simp at h;exact Az rfl<|Ac (fY m true es (λh=>by cases h) (hend (by omega)) hx.2.1 hx.2.2.1 hx.2.2.2) AK AK rfl
def zdk (P:Program) (I:Imm) (μ:Mu) (st:St) (w:World) (d:D) (st':St) (r:Result Next):Prop :=
 valX P r (λu w'=>∃I' μ',RepD I' μ' u d/\StRep I' μ' st' [] w'/\Pin (D8 st) μ μ'/\Ext I μ st w I' μ' st' w') (λ_ _=>False)
def VZ (j:Nat) (S:Bun):St:=[(0,some .pin),(j,some (.bun 0 S))]
def O3 (P:Program) (ds:List D) (S:Bun) (r:Bool) (S':Bun):Prop :=
 ∀I μ w b (xs:Array Value),μ 0=some (.func (.yield b) #[] #[])->StRep I μ (VZ 1 S) [] w->RepL I μ xs.toList ds->zdk P I μ (VZ 1 S) w (.imm (.bool r)) (VZ 2 S') ((Instr.yield b xs).run P w)
theorem Er:∀{st:St} {i:Nat} {b:Blk},A1 st i b->i∈D8 st
 | [],i,b,h=>by simp [A1,lk] at h
 | (s,x)::r,i,b,h=>by
  by_cases hs:s=i
  ·subst hs;simp [D8]
  ·have:A1 r i b:=by unfold A1 at h ⊢;rwa [A6 _ _ hs] at h
   simp only [D8,C6,Cy];exact .inr (Er this)
theorem jM {s t:St} {b:Blk} (h:A1 s i b):A1 (s++t) i b:=by
 have hm:i∈s.map (·.1):=Er h;unfold A1 at h ⊢;rwa [Gy hm]
theorem jL {s t:St} {b:Blk} (hn:i∉D8 s) (h:A1 t i b):A1 (s++t) i b:=by
 unfold A1 at h ⊢;rwa [KX hn]
theorem za5 {all:List Oper} (hg:Cq all env o=some g) (hcx:¬Am g):LD P Pn all o env st [] [] [] (gD g d):=by
 intro I μ st2 ids1 a w hag hst hon;have hwant:=FT hg hon;refine ⟨λhw=>absurd (hwant.1 hw) hcx,λ_=>⟨rfl,rfl,?_⟩⟩;cases g with
 | none=>exact absurd trivial hcx
 | some p=>exact .guard _ _ _ _ (λh=>absurd h hcx) (λ_=>rfl)
structure uH where
 id:Nat
 das:List D
 g:Option (Bool×Bool)
 ob:List Prop
 dst:Option Nat
 o:Oper
 all:List Oper
def mJ (n:Nat) (env:Env) (todo:List DI):Option uH :=
 match Bm todo ([],[]) with
 | some (all,o,_)=>match Cq all env o,o.op with
  | some g,.call { callee:=.value (.tmp t),args:=⟨args⟩,.. }=>match lk env t,I7 (Am g) env args,BM n o.dst with
   | some (.yld id),some (ds,ob),true=>some ⟨id,ds,g,ob,o.dst,o,all⟩
   | some (.guard c w (.yld id)),some (ds,ob),true=>some ⟨id,ds,g,(Am g->c=w)::ob,o.dst,o,all⟩
   | _,_,_=>none
  | _,_=>none
 | none=>none
theorem RepD.yldInv {id:Nat} (h:RepD I μ v (.yld id)):∃b,μ id=some (.func (.yield b) #[] #[])/\v = .func (.yield b) #[] #[]:=by
 cases h with
 | yld b _ h=>exact ⟨b,h,rfl⟩
theorem gL {args:List Operand} {ts:Array TypeId} (ho:o.op = .call { callee:=.value (.tmp t),args:=⟨args⟩,argTypes:=ts }) (hv:a.eval (.tmp t) = .func (.yield b) #[] #[]) :
  (execOp a.eval o).run P w=(Instr.yield b (args.map a.eval).toArray).run P w:=by
 simp only [execOp,ho,resolve,hv,Deferred.ofValue,Sem.run_bind,Sem.run_pure,Result.andThen_ok,invoke];congr 2;simp
theorem gM {c:uH} (h:mJ n env todo=some c) (hob:A4 c.ob) (hcx:Am c.g) :
  (∀f,∃todo',Bm todo f=some (c.all,c.o,todo'))/\Cq c.all env c.o=some c.g/\BM n c.dst=true/\c.dst=c.o.dst/\(∀x,c.o.op ≠ .defer x) /\
  ∀I μ a,DR I μ env a c.o.op->∃b,∃xs:Array Value,μ c.id=some (.func (.yield b) #[] #[])/\RepL I μ xs.toList c.das/\∀w,(execOp a.eval c.o).run P w=(Instr.yield b xs).run P w:=by
 unfold mJ at h;have hnext:∀{all:List Oper} {o:Oper} {t:List DI},Bm todo ([],[])=some (all,o,t)->∀f,∃todo',Bm todo f=some (all,o,todo'):=by
  intro all o t h f;rcases IK h with ⟨r,k,rfl,_⟩ | ⟨r,fs,k,rfl,_⟩
  ·exact ⟨_,rfl⟩
  ·exact ⟨_,rfl⟩
 split at h
 ·rename_i all o t h1
  split at h
  ·rename_i g t' args ts hg ho;have fin:∀{dv:D} {ds:List D} {ob:List Prop} {id:Nat},lk env t'=some dv->I7 (Am g) env args=some (ds,ob)->A4 ob->Am g->(∀{I:Imm} {μ:Mu} {v:Value},RepD I μ v dv->∃b,μ id=some (.func (.yield b) #[] #[])/\v = .func (.yield b) #[] #[]) ->
     ∀I μ a,DR I μ env a o.op->∃b,∃xs:Array Value,μ id=some (.func (.yield b) #[] #[])/\RepL I μ xs.toList ds/\∀w,(execOp a.eval o).run P w=(Instr.yield b xs).run P w:=by
    intro dv ds ob id ht ha hob hcx hyl I μ a hop;rw [ho] at hop;have hargs:=GK (I:=I) (μ:=μ) (a:=a) hcx ha hob λx hx=>hop x (by simp [Op.operands,Call.operands,hx]);obtain ⟨b,q1,q2⟩:=hyl (hop (.tmp t') (by simp [Op.operands,Call.operands]) _ ht);exact ⟨b,_,q1,by simpa using hargs,λw=>gL ho q2⟩
   split at h
   ·rename_i id ds ob ht ha hd;cases h;exact ⟨hnext h1,hg,hd,rfl,(λx hx=>by rw [ho] at hx;cases hx),fin ht ha hob hcx (λh=>h.yldInv)⟩
   ·rename_i cc ww id ds ob ht ha hd;cases h;exact ⟨hnext h1,hg,hd,rfl,(λx hx=>by rw [ho] at hx;cases hx),fin ht ha hob.2 hcx (λh=>(h.guardInv (hob.1 hcx)).yldInv)⟩
   ·cases h
  ·cases h
 ·cases h
theorem fE {c:uH} {r:Bool} (h:mJ n env todo=some c) (hob:A4 c.ob) (hcx:Am c.g) (hE:O3 P (F3 (DN [(c.id,0),(j,1)]) c.das) S r S') (hy:lk st c.id=some (some .pin)) (hj:lk st j=some (some (.bun c.id S))) (hn:Ju [(c.id,0),(j,1)] [(2,j2)] c.das (VZ 1 S) (.imm (.bool r)) (VZ 2 S') [j2]=true) (h1:Bm todo ([c.id,j],[c.id,j2,c.id,j])=some (c.all,c.o,todo')) (hids:ids=j2::ids') (hk:G P n F Q todo' (BK c.dst (gD c.g (.imm (.bool r))) env) ((c.id,some .pin)::(j2,some (.bun c.id S'))::(c.id,none)::(j,none)::st) ids'):G P n F Q todo env st ids:=by
 obtain ⟨_,q2,q3,q4,q5,q6⟩:=gM (P:=P) h hob hcx;rw [q4] at q3 hk;subst hids;have hN:=NX hn;have hb:E8 [(c.id,0),(j,1)] st (VZ 1 S):=by
  have hne:Nat.beq c.id j=false:=by
   have:=hN.inv;simp only [C6,HL,Do,Bg] at this;cases hb:Nat.beq c.id j with
   | false=>rfl
   | true =>
    have:=CD hb;rw [<- this] at hj;rw [hy] at hj;cases hj
  have e0:lk (Bg [(c.id,0),(j,1)]) 0=some c.id:=rfl;have e1:lk (Bg [(c.id,0),(j,1)]) 1=some j:=rfl;have f0:lk [(c.id,0),(j,1)] c.id=some 0:=A0 _ _ _;have f1:lk [(c.id,0),(j,1)] j=some 1:=by
   have:c.id≠j:=λe=>by rw [e] at hne;simp at hne
   rw [A6 _ _ this];exact A0 _ _ _
  have g0:DN [(c.id,0),(j,1)] c.id=0:=by simp [DN,f0]
  refine ⟨?_,?_,trivial⟩
  ·simp only [e0,f0,hy];exact ⟨rfl,rfl,rfl⟩
  ·simp only [e1,f1,hj];refine ⟨rfl,?_,?_⟩
   ·simp only [UP,g0]
   ·simp only [UZ,Do,f0,e0];simp
 have hl:LD P (Lw Q) c.all c.o env st (EO [(c.id,0),(j,1)]) [j2] (DV (Bg [(c.id,0),(j,1)]++[(2,j2)]) (VZ 2 S')++Co (EO [(c.id,0),(j,1)])) (gD c.g (.imm (.bool r))):=by
  intro I μ st2 ids1 a w hag hst hon;have hwant:=FT q2 hon;refine ⟨λ_=>?_,λhw=>by rw [hwant.2 hcx] at hw;cases hw⟩;obtain ⟨b,xs,m1,m2,m3⟩:=q6 I μ a (Bj hon);have hb':=Gb hag hb;obtain ⟨g1,g2,g3⟩:=G4 hst hb' hN.args m2;rw [m3];refine (hE I _ w b xs (by simpa [HA,Bg,lk] using m1) g1 g2).mono (λu w' hu=>?_) (λ_ _ h=>h.elim);obtain ⟨I',μ',r1,r2,r3,r4⟩:=hu;obtain ⟨ν,s1,s2,s3,s4⟩:=Lq hst hb' hN r1 r2 r3 r4 g3;rw [<- Ld] at s1 s4;refine ⟨I',ν,s1,?_,s3,s4⟩;cases hg:c.g with
  | none=>exact s2
  | some p=>rw [hg] at hcx;exact .guard _ _ _ _ (λ_=>s2) (λhn=>absurd hcx hn)
 have ew:DV (Bg [(c.id,0),(j,1)]++[(2,j2)]) (VZ 2 S')++Co (EO [(c.id,0),(j,1)])=[(c.id,some .pin),(j2,some (.bun c.id S')),(c.id,none),(j,none)]:=rfl;rw [ew] at hl;exact BF (fr:=[j2]) (wr:=[(c.id,some .pin),(j2,some (.bun c.id S')),(c.id,none),(j,none)]) h1 hl q3 q5 hk
structure zac where
 g:Option (Bool×Bool)
 dst:Option Nat
 todo:List DI
def zO (n:Nat) (env:Env) (todo:List DI):Option zac :=
 match Bm todo ([],[]) with
 | some (all,o,todo')=>match Cq all env o,o.op,BM n o.dst with
  | some g,.call _,true=>some ⟨g,o.dst,todo'⟩
  | _,_,_=>none
 | none=>none
theorem PX {c:zac} (d:D) (h:zO n env todo=some c) (hcx:¬Am c.g) (hk:G P n F Q c.todo (BK c.dst (gD c.g d) env) st ids):G P n F Q todo env st ids:=by
 unfold zO at h
 split at h
 ·rename_i all o todo' h1
  split at h
  ·rename_i g cc hg ho hd;cases h;exact BF (fr:=[]) (wr:=[]) h1 (za5 hg hcx) hd (λx hx=>by rw [ho] at hx;cases hx) hk
  ·cases h
 ·cases h
def zdl (pend:Option Code) (stB:St):DQ:=λx _ st _=>match x,pend with
 | .norm,none=>IF st stB
 | .ret,some .ret=>IF st stB
 | .exit j,some (.exit j')=>j=j'/\IF st stB
 | _,_=>False
structure NB where
 fn:FuncId
 ps:Array Tmp
 asg:Code
 body:Code
 tmps:Array Value
 E:Env
 F:List Nat
 μ0:Mu
def uK (pend:Option Code) (r:Go.Loop):Prop:=r.state=(match pend with | none=>.ready | some _=>.done)/\r.pending=pend
def zc7 (L:NB) (st:St) (pend:Option Code) (I:Imm) (w:World) (b:Nat) (bs:List Nat):Prop :=
 ∃(r:Go.Loop) (μ:Mu) (bs0:List Nat),bs=b::bs0/\w.heap[b]?=some (.loop r)/\uK pend r/\(r.fn=L.fn/\r.params=L.ps/\r.assign=L.asg/\r.body=L.body/\r.tmps=L.tmps) /\
  (∀t d,lk L.E t=some d->RepD I μ (L.tmps.getD t undef) d)/\(∀i blk,A1 st i blk->∃g,μ i=some g/\BlkRep I μ w g blk) /\
  (∀i j bi bj gi gj k,A1 st i bi->A1 st j bj->μ i=some gi->μ j=some gj->E6 gi k->E6 gj k->i=j)/\(∀k,k∈bs0↔Bq μ st k)/\b∉bs0/\Pin L.F L.μ0 μ
def Ds (L:NB) (st:St) (pend:Option Code):Bun where
 P:=zc7 L st pend
 mono:=λ{I J w b bs} h hp=>by
  obtain ⟨r,μ,bs0,h1,h2,h3,h4,h5,h6,h7,h8,h9,h10⟩:=hp;exact ⟨r,μ,bs0,h1,h2,h3,h4,λt d hl=>(h5 t d hl).mono h (Mu.le_refl μ),λi blk hl=>let ⟨g,q1,q2⟩:=h6 i blk hl;⟨g,q1,q2.mono h (Mu.le_refl μ)⟩,h7,h8,h9,h10⟩
 loc:=λ{I w w' b bs} h hp=>by
  obtain ⟨r,μ,bs0,h1,h2,h3,h4,h5,h6,h7,h8,h9,h10⟩:=hp;subst h1;exact ⟨r,μ,bs0,rfl,(h b (by simp)).trans h2,h3,h4,h5,λi blk hl=>let ⟨g,q1,q2⟩:=h6 i blk hl;⟨g,q1,q2.world λk hk=>h k (by simp [(h8 k).2 ⟨i,blk,g,hl,q1,hk⟩])⟩,h7,h8,h9,h10⟩
def VP:Value->List Nat
 | .pointer (some a)=>[a.block]
 | .slice (some a) _ _=>[a.block]
 | .map (some c)=>[c]
 | .agg cs=>cs.toList.filterMap fun | .pointer (some a)=>some a.block | _=>none
 | .tuple ⟨[_,.agg cs]⟩=>cs.toList.filterMap fun | .pointer (some a)=>some a.block | _=>none
 | _=>[]
theorem Px {g:Value} {k:Nat}:k∈VP g↔E6 g k:=by
 unfold VP E6
 split <;> simp [eq_comm]
 all_goals
  constructor
  ·rintro ⟨a,h1,h2⟩
   split at h2
   ·cases h2;exact ⟨_,h1,rfl⟩
   ·cases h2
  ·rintro ⟨a,h1,h2⟩;exact ⟨_,h1,by rw [h2]⟩
open Classical in
theorem QI (μ:Mu) (st:St):∃l:List Nat,∀k,k∈l↔Bq μ st k:=by
 refine ⟨(D8 st).flatMap λi=>if (∃b,A1 st i b) then (match μ i with | some g=>VP g | none=>[]) else [],λk=>?_⟩;rw [List.mem_flatMap];constructor
 ·rintro ⟨i,_,h⟩
  split at h
  ·rename_i hb;obtain ⟨b,hb⟩:=hb;cases hg:μ i with
   | none=>rw [hg] at h;cases h
   | some g=>rw [hg] at h;exact ⟨i,b,g,hb,hg,Px.1 h⟩
  ·cases h
 ·rintro ⟨i,b,g,h1,h2,h3⟩;refine ⟨i,Er h1,?_⟩;rw [if_pos ⟨b,h1⟩,h2];exact Px.2 h3
def RA (ids:List Nat) (E:Env) (st:St) (F:List Nat):Prop:=ids.Nodup/\∀i∈ids,i∉WU E/\i∉F4 st/\i∉F
theorem wG:∀{st:St} {i:Nat} {b:Blk},A1 st i b->i∈F4 st:=λh=>(EV h).1
theorem Y0 {L:NB} {pend:Option Code} {bs:List Nat} (h:zc7 L st pend I w b bs) (hf:RA ids L.E st L.F) (hI:I.ok w) (hbs:∀k∈bs,I k=none/\k<w.heap.size) :
  ∃(r:Go.Loop) (ν:Mu) (bs0:List Nat),bs=b::bs0/\w.heap[b]?=some (.loop r)/\uK pend r/\(r.fn=L.fn/\r.params=L.ps/\r.assign=L.asg/\r.body=L.body/\r.tmps=L.tmps) /\
   (∀t d,lk L.E t=some d->RepD I ν (L.tmps.getD t undef) d)/\StRep I ν st ids w/\(∀k,k∈bs0↔Bq ν st k)/\b∉bs0/\Pin L.F L.μ0 ν:=by
 obtain ⟨r,μ,bs0,h1,h2,h3,h4,h5,h6,h7,h8,h9,h10⟩:=h;obtain ⟨hf1,hf2⟩:=hf;obtain ⟨ν,hν⟩:∃ν:Mu,ν=λi=>if i∈ids then none else μ i:=⟨_,rfl⟩
 have hν1:∀i,i∉ids->ν i=μ i:=λi hi=>by rw [hν];exact if_neg hi
 have hv1:∀i,i∈WU L.E\/i∈F4 st\/i∈L.F->ν i=μ i:=λi hi=>hν1 i λhm=>by
  obtain ⟨q1,q2,q3⟩:=hf2 i hm;rcases hi with h | h | h
  ·exact q1 h
  ·exact q2 h
  ·exact q3 h
 have hv2:∀{i bi},A1 st i bi->ν i=μ i:=λhl=>hv1 _ (.inr (.inl (wG hl)));have hown:∀k,Bq ν st k↔Bq μ st k:=λk=>by
  constructor <;> rintro ⟨i,bi,g,q1,q2,q3⟩
  ·exact ⟨i,bi,g,q1,by rw [<- hv2 q1];exact q2,q3⟩
  ·exact ⟨i,bi,g,q1,by rw [hv2 q1];exact q2,q3⟩
 refine ⟨r,ν,bs0,h1,h2,h3,h4,λt d hl=>(h5 t d hl).sub λj hj g hg=>by rw [hv1 j (.inl (Zx hl j hj))];exact hg,?_,λk=>by rw [hown k];exact h8 k,h9,λi hi g hg=>by rw [hv1 i (.inr (.inr hi))];exact h10 i hi g hg⟩;exact
  {imm:=hI
   blk:=λi bi hl=>by
    obtain ⟨g,q1,q2⟩:=h6 i bi hl;exact ⟨g,by rw [hv2 hl];exact q1,q2.sub λj hj g hg=>by rw [hv1 j (.inr (.inl ((EV hl).2 j hj)))];exact hg⟩
   apart:=λi bi g k hl hgi hk=>hbs k (by rw [h1];exact Ip _ ((h8 k).2 ⟨i,bi,g,hl,by rw [<- hv2 hl];exact hgi,hk⟩))
   inj:=λi j bi bj gi gj k hi hj hgi hgj=>h7 i j bi bj gi gj k hi hj (by rw [<- hv2 hi];exact hgi) (by rw [<- hv2 hj];exact hgj)
   nodup:=hf1
   idsFree:=λi hi=>by rw [hν];exact if_pos hi }
theorem JR (hj:j≠0) {bi:Blk} (h:A1 (VZ j S) i bi):(i=0/\bi = .pin)\/(i=j/\bi = .bun 0 S):=by
 rcases AB.1 h with h | ⟨_,h⟩
 ·exact .inl h
 ·rcases AB.1 h with h | ⟨_,h⟩
  ·exact .inr h
  ·simp [A1,lk] at h
def zU:Option Code->List DI
 | none=>[]
 | some c=>[.code c]
theorem Ou {g:Operand} {ps:Array Tmp} {asg body c:Code} {f y:Nat} {fc:Func} {df dc:List D} {stc stc' stx stB:St} {pend:Option Code} (hg:Eg env g=some (.fn (.func f) df dc)) (hf:P.funcs[f]?=some fc) (hname : (fc.name == "runtime.NumGoroutine") = false) (hb : fc.body = some c) (hF : nZ ∉ F) (hEE : hZ env E) (hl : ∀ i b, A1 (stc ++ stx) i b → A1 st i b) (hE:∀L:NB,P.funcs[L.fn]?.isSome->L.tmps.size=n->L.ps=ps->L.asg=asg->L.body=body->L.E=E->L.F=F ->
   Hy P f (df ++ .yld y::dc) ((y,some .pin)::(j,some (.bun y (Ds L stx none)))::stc) (.ret d ((y,some .pin)::(j2,some (.bun y (Ds L stB pend)))::stc'))) (hdis:∀i∈D8 stc,i∉D8 stx) (hyj:y≠j/\y≠j2/\y∉D8 stc/\j∉D8 stc) (hcl:∀i,i∈IB (df++dc)\/i∈F4 stc->i∈D8 stc) (hfree:RA ids' E stB F) (hk:DGo P n F Q (zU pend++k) E stB ids'):DGo P n F Q (.code (.rangeFunc g ps asg body)::k) env st ids:=by
 intro b cs I μ a w items hd hc;obtain ⟨is,rfl,hki⟩:=Ja hd;rcases b.2 with hb0 | ⟨hb0,fcb,hfb⟩
 ·exact absurd hb0 hF
 have he:=run_enterLoop_outer (P:=P) (w:=w) b.1.fn a.tmps ps asg body;obtain ⟨ro,hro⟩:∃ro,ro=b.1.roundOf:=⟨_,rfl⟩
 have he':(Instr.enterLoop b.1.fn a.tmps ps asg body ro).run P w=(Instr.enterLoop b.1.fn a.tmps ps asg body none).run P w:=by rw [hro,hb0]
 rw [<- he',hro] at he;clear he';obtain ⟨L,hL⟩:∃L:NB,L=⟨b.1.fn,ps,asg,body,a.tmps,E,F,μ⟩:=⟨_,rfl⟩
 obtain ⟨wa,hwa⟩:∃wa:World,wa=w.alloc (.deferred (some [])):=⟨_,rfl⟩
 rw [<- hwa] at he;have hwas:wa.heap.size=w.heap.size+1:=by rw [hwa];simp
 obtain ⟨R,hR⟩:∃R:Go.Loop,R={ state:=.ready,pending:=none,fn:=b.1.fn,tmps:=a.tmps,params:=ps,assign:=asg,body,defers:=w.heap.size }:=⟨_,rfl⟩
 rw [<- hR,<- hwas] at he;obtain ⟨w1,hw1⟩:∃w1:World,w1=wa.alloc (.loop R):=⟨_,rfl⟩
 rw [<- hw1] at he;have hw1s:w1.heap.size=w.heap.size+2:=by rw [hw1];simp;omega
 have hw1o:∀i,i<w.heap.size->w1.heap[i]?=w.heap[i]?:=λi hi=>by rw [hw1,CW wa _ (by omega),hwa];exact CW w _ hi
 have hw1m:w1.heap[w.heap.size]?=some (.deferred (some [])):=by rw [hw1,CW wa _ (by omega),hwa];exact EC w _
 have hw1r:w1.heap[wa.heap.size]?=some (.loop R):=by rw [hw1];exact EC wa _
 have hInew:∀k,w.heap.size<=k->I k=none:=λk hk=>by
  cases hI:I k with
  | none=>rfl
  | some o=>have:=Cc (hc.imm k o hI);omega
 have hS1:StRep I μ st ids w1:=hc.toStRep.other (by omega) (λi o hi=>hw1o i (Cc (hc.imm i o hi))) (λi hi=>hw1o i (Em hc.toStRep hi));have hlx:∀i bi,A1 stx i bi->A1 st i bi:=λi bi h=>hl i bi (jL (λhm=>hdis i hm (Er h)) h);have hlc:∀i bi,A1 stc i bi->A1 st i bi:=λi bi h=>hl i bi (jM h);obtain ⟨bs0,hbs0⟩:=QI μ stx;have hownx:∀k,k∈bs0->Bq μ st k:=λk hk=>let ⟨i,bi,g,h1,h2⟩:=(hbs0 k).1 hk;⟨i,bi,g,hlx i bi h1,h2⟩
 have hltx:∀k,k∈bs0->k<w.heap.size:=λk hk=>Em hc.toStRep (hownx k hk);have hEnv:∀t d',lk E t=some d'->RepD I μ (a.tmps.getD t undef) d':=λt d' hl=>by
  obtain ⟨d,h1,h2⟩:=NK hEE t d' hl;exact Qr h2 (hc.env t d h1)
 have hB1:(Ds L stx none).P I w1 wa.heap.size (wa.heap.size::bs0):=by
  refine ⟨R,μ,bs0,rfl,hw1r,⟨by rw [hR],by rw [hR]⟩,?_,?_,λi bi h=>hS1.blk i bi (hlx i bi h),λi j bi bj gi gj k hi hj=>hS1.inj i j bi bj gi gj k (hlx i bi hi) (hlx j bj hj),hbs0,λhm=>by have:=hltx _ hm;omega,?_⟩
  ·rw [hR,hL];exact ⟨rfl,rfl,rfl,rfl,rfl⟩
  ·rw [hL];exact hEnv
  ·rw [hL];exact .refl _ _
 obtain ⟨μc,hμc⟩:∃μc:Mu,μc=λi=>if i=y then some (.func (.yield wa.heap.size) #[] #[]) else if i=j then some (.agg (UU (wa.heap.size::bs0))) else μ i:=⟨_,rfl⟩
 have hmy:μc y=some (.func (.yield wa.heap.size) #[] #[]):=by rw [hμc];simp
 have hmj:μc j=some (.agg (UU (wa.heap.size::bs0))):=by rw [hμc];simp [Ne.symm hyj.1]
 have hmo:∀i∈D8 stc,μc i=μ i:=λi hi=>by
  have h1:i≠y:=λe=>hyj.2.2.1 (e ▸ hi);have h2:i≠j:=λe=>hyj.2.2.2 (e ▸ hi);rw [hμc];simp [h1,h2]
 obtain ⟨st0,hst0⟩:∃st0:St,st0=(y,some .pin)::(j,some (.bun y (Ds L stx none)))::stc:=⟨_,rfl⟩
 have hl0:∀{i bi},A1 st0 i bi->(i=y/\bi = .pin)\/(i=j/\bi = .bun y (Ds L stx none))\/(i≠y/\i≠j/\A1 stc i bi):=λ{i bi} h=>by
  rw [hst0] at h;rcases AB.1 h with h | ⟨h1,h⟩
  ·exact .inl h
  ·rcases AB.1 h with h | ⟨h2,h⟩
   ·exact .inr (.inl h)
   ·exact .inr (.inr ⟨h1,h2,h⟩)
 have hown0:∀k,Bq μc st0 k->k=wa.heap.size\/k∈bs0\/Bq μ stc k:=λk ⟨i,bi,g,h1,h2,h3⟩=>by
  rcases hl0 h1 with ⟨rfl,rfl⟩ | ⟨rfl,rfl⟩ | ⟨_,_,h⟩
  ·rw [hmy] at h2;cases h2;exact h3.elim
  ·rw [hmj] at h2;cases h2;rcases Cy.1 (DF.1 h3) with h | h
   ·exact .inl h
   ·exact .inr (.inl h)
  ·exact .inr (.inr ⟨i,bi,g,h,by rw [<- hmo i (Er h)];exact h2,h3⟩)
 have hcx:∀{i bi g k},A1 stc i bi->μ i=some g->E6 g k->k∉bs0:=λ{i bi g k} h1 h2 h3 hm=>by
  obtain ⟨i',bi',g',q1,q2,q3⟩:=(hbs0 k).1 hm;have:=hS1.inj i i' bi bi' g g' k (hlc i bi h1) (hlx i' bi' q1) h2 q2 h3 q3;subst this;exact hdis i (Er h1) (Er q1)
 have hS0:StRep I μc st0 [] w1:=by
  refine { imm:=hS1.imm,blk:=λi bi h=>?_,apart:=λi bi g k h hgi hk=>?_,inj:=λi i' bi bj gi gj k hi hj hgi hgj hki hkj=>?_,nodup:=.nil,idsFree:=λ_ h=>by simp at h }
  ·rcases hl0 h with ⟨rfl,rfl⟩ | ⟨rfl,rfl⟩ | ⟨_,_,h⟩
   ·exact ⟨_,hmy,_,rfl⟩
   ·exact ⟨_,hmj,_,_,hmy,rfl,hB1⟩
   ·obtain ⟨g,q1,q2⟩:=hS1.blk i bi (hlc i bi h);exact ⟨g,by rw [hmo i (Er h)];exact q1,q2.sub λx hx g hg=>by rw [hmo x (hcl x (.inr ((EV h).2 x hx)))];exact hg⟩
  ·rcases hown0 k ⟨i,bi,g,h,hgi,hk⟩ with h | h | ⟨i',bi',g',q1,q2,q3⟩
   ·rw [h];exact ⟨hInew _ (by omega),by omega⟩
   ·obtain ⟨i',bi',g',q1,q2,q3⟩:=hownx k h;exact hS1.apart i' bi' g' k q1 q2 q3
   ·exact hS1.apart i' bi' g' k (hlc i' bi' q1) q2 q3
  ·rcases hl0 hi with ⟨rfl,rfl⟩ | ⟨rfl,rfl⟩ | ⟨_,_,hi⟩ <;> rcases hl0 hj with ⟨rfl,rfl⟩ | ⟨rfl,rfl⟩ | ⟨_,_,hj⟩
   ·rfl
   ·rw [hmy] at hgi;cases hgi;exact hki.elim
   ·rw [hmy] at hgi;cases hgi;exact hki.elim
   ·rw [hmy] at hgj;cases hgj;exact hkj.elim
   ·rfl
   ·rw [hmj] at hgi;cases hgi;have q:=hmo i' (Er hj);rw [hgj] at q;rcases Cy.1 (DF.1 hki) with h | h
    ·have:=(hS1.apart i' bj gj k (hlc _ _ hj) q.symm hkj)
     have hlt:=Em hc.toStRep ⟨i',bj,gj,hlc _ _ hj,q.symm,hkj⟩;omega
    ·exact absurd h (hcx hj q.symm hkj)
   ·rw [hmy] at hgj;cases hgj;exact hkj.elim
   ·rw [hmj] at hgj;cases hgj;have q:=hmo i (Er hi);rw [hgi] at q;rcases Cy.1 (DF.1 hkj) with h | h
    ·have hlt:=Em hc.toStRep ⟨i,bi,gi,hlc _ _ hi,q.symm,hki⟩;omega
    ·exact absurd h (hcx hi q.symm hki)
   ·have q1:=hmo i (Er hi);have q2:=hmo i' (Er hj);rw [hgi] at q1;rw [hgj] at q2;exact hS1.inj i i' bi bj gi gj k (hlc _ _ hi) (hlc _ _ hj) q1.symm q2.symm hki hkj
 have hvg:=VE (I:=I) (μ:=μ) (a:=a) hg λt _ d hl=>hc.env t d hl;generalize hve:a.eval g=vg at hvg;cases hvg with
 | fn _ first cap _ _ hl1 hl2 q1 q2 =>
 have hnL:∀{l m:List D} {i},i∈IB l\/i∈IB m->i∈IB (l++m):=λ{l m i} h=>by
  have:∀(l m:List D),IB (l++m)=IB l++IB m:=λl m=>by
   induction l with
   | nil=>rfl
   | cons x r ih=>simp [IB,ih]
  rw [this];simpa using h
 have hargs:RepL I μc (first ++ #[Value.func (.yield wa.heap.size) #[] #[]]++cap).toList (df ++ .yld y::dc):=by
  have e:df ++ .yld y::dc=df++[.yld y]++dc:=by simp
  rw [e,Km,Km];have h1:RepL I μ first.toList df:=⟨by simpa using hl1,λi v d p q=>q1 i v d (by simpa using p) q⟩
  have h2:RepL I μ cap.toList dc:=⟨by simpa using hl2,λi v d p q=>q2 i v d (by simpa using p) q⟩
  refine RepL.append (RepL.append (h1.sub λx hx g hg=>?_) (.mk (.yld _ _ hmy) .nil)) (h2.sub λx hx g hg=>?_)
  ·rw [hmo x (hcl x (.inl (hnL (.inl hx))))];exact hg
  ·rw [hmo x (hcl x (.inl (hnL (.inr hx))))];exact hg
 have hEL:=hE L (by rw [hL];simp [hfb]) (by rw [hL];exact hc.size) (by rw [hL]) (by rw [hL]) (by rw [hL]) (by rw [hL]) (by rw [hL]);rw [<- hst0] at hEL;have hcall:=hEL I μc w1 _ hS0 hargs;rw [B1 hf hname hb] at hcall;have hres:∃dd,(resolve a.eval (rangeCall g wa.heap.size) 0).run P w1 = .ok dd w1/\(invoke dd.target dd.args).run P w1 = .ok (.enter f (first ++ #[Value.func (.yield wa.heap.size) #[] #[]]++cap)) w1:=by
  refine ⟨⟨.fn (.func f) cap,first ++ #[Value.func (.yield wa.heap.size) #[] #[]]⟩,?_,?_⟩
  ·have hcv:a.eval (.const (.func (.yield wa.heap.size) #[] #[])) = .func (.yield wa.heap.size) #[] #[]:=rfl;simp [rangeCall,resolve,Deferred.ofValue,hve,hcv]
  ·simpa [invoke] using B1 (w:=w1) hf hname hb (first ++ #[Value.func (.yield wa.heap.size) #[] #[]]++cap)
 obtain ⟨dd,hr1,hr2⟩:=hres;refine P9 he hr1 hr2 (Calls.mono hcall λen w3 hen=>?_);cases en with
 | panicked chain=>exact hen.elim
 | outgrown=>exact hen.elim
 | returned v =>
  obtain ⟨I',μ',p1,p2,p3,p4⟩:=hen;have hly:A1 ((y,some .pin)::(j2,some (.bun y (Ds L stB pend)))::stc') j2 (.bun y (Ds L stB pend)):=AB.2 (.inr ⟨Ne.symm hyj.2.1,AB.2 (.inl ⟨rfl,rfl⟩)⟩);obtain ⟨g2,hg2,b2,bs2,hb2,rfl,hP2⟩:=p2.blk j2 _ hly;have hyy:μ' y=some (.func (.yield wa.heap.size) #[] #[]):=p3 y (by rw [hst0];simp [D8]) _ hmy;rw [hyy] at hb2;cases hb2;have hbs2:∀k∈bs2,I' k=none/\k<w3.heap.size:=λk hk=>p2.apart j2 _ _ k hly hg2 (DF.2 hk);obtain ⟨r,ν,bsN,e1,hrr,⟨hr2',hr3⟩,⟨hr4,hr5,hr6,hr7,hr8⟩,hE3,hS3,hownN,hnbN,hFN⟩:=Y0 hP2 (ids:=ids') (by rw [hL];exact hfree) p2.imm hbs2;subst e1;have hend:=run_endLoop (P:=P) hrr (by rw [hr2'];cases pend <;> simp)
  obtain ⟨w4,hw4⟩:∃w4:World,w4=w3.putObj wa.heap.size (.loop { r with state:=.exhausted }):=⟨_,rfl⟩
  have hend':(Instr.endLoop wa.heap.size).run P w3 = .ok pend w4:=by rw [hw4,hend,hr3]
  refine ⟨pend,w4,hend',?_⟩;have hlb:wa.heap.size<w3.heap.size:=Cc hrr;have hoth:∀i,i≠wa.heap.size->w4.heap[i]?=w3.heap[i]?:=λi hi=>by
   rw [hw4];unfold World.putObj;simp [Gj (Ne.symm hi)]
  have hw4s:w4.heap.size=w3.heap.size:=by rw [hw4];unfold World.putObj;simp
  obtain ⟨hIb,_⟩:=hbs2 _ (QY ..);have hS4:StRep I' ν stB ids' w4:=hS3.other (by omega) (λi o hi=>hoth i (λe=>by rw [e,hIb] at hi;cases hi)) (λi hi=>hoth i (λe=>hnbN ((hownN _).2 (e ▸ hi))));have hsz3:=p4.size;have hno0:∀k,k<w.heap.size->¬Bq μ st k->¬Bq μc st0 k:=λk hk hno h=>by
   rcases hown0 k h with h | h | ⟨i,bi,g,q1,q2⟩
   ·omega
   ·exact hno (hownx k h)
   ·exact hno ⟨i,bi,g,hlc i bi q1,q2⟩
  have hblk:∀k,k<w1.heap.size->k≠wa.heap.size->¬Bq μc st0 k->w4.heap[k]?=w1.heap[k]?:=λk hk hne hno=>(hoth k hne).trans (p4.block k hk hno);have hfr:∀k,k<w1.heap.size->Bq ν stB k->Bq μc st0 k:=λk hk ho=>p4.fresh k hk ⟨j2,_,_,hly,hg2,DF.2 (Ip _ ((hownN k).2 ho))⟩;have hExt:Ext I μ st w I' ν stB w4 :=
   {imm:=p4.imm
    os:=by rw [hw4];unfold World.putObj;exact p4.os.trans (by rw [hw1,hwa];rfl)
    tape:=by rw [hw4];unfold World.putObj;exact p4.tape.trans (by rw [hw1,hwa];rfl)
    output:=by rw [hw4];unfold World.putObj;exact p4.output.trans (by rw [hw1,hwa];rfl)
    size:=by omega
    block:=λk hk hno=>(hblk k (by omega) (by omega) (hno0 k hk hno)).trans (hw1o k hk)
    fresh:=λk hk ho=>by
     rcases hown0 k (hfr k (by omega) ho) with h | h | ⟨i,bi,g,q1,q2⟩
     ·omega
     ·exact hownx k h
     ·exact ⟨i,bi,g,hlc i bi q1,q2⟩
    old:=λk hk hno=>p4.old k (by omega) (hno0 k hk hno) }
  have hMk:MarksOk I' ν stB w4 ([{ target:=.collected w.heap.size,args:=#[] }]++a.defers):=by
   obtain ⟨rs,r1,r2,r3⟩:=hc.defers;refine ⟨w.heap.size::rs,by rw [r1];rfl,L6.2 ⟨λhm=>?_,r2⟩,λr hr=>?_⟩
   ·have:=Cc (r3 _ hm).1;omega
   have hno:¬Bq μc st0 r/\r<w1.heap.size/\r≠wa.heap.size/\w1.heap[r]?=some (.deferred (some []))/\I r=none:=by
    rcases Cy.1 hr with rfl | hr
    ·refine ⟨λh=>?_,by omega,by omega,hw1m,hInew _ (BQ _)⟩;rcases hown0 _ h with h | h | ⟨i,bi,g,q1,q2,q3⟩
     ·omega
     ·have:=hltx _ h;omega
     ·have:=Em hc.toStRep ⟨i,bi,g,hlc i bi q1,q2,q3⟩;omega
    ·obtain ⟨h1,h2,h3⟩:=r3 r hr;have hlt:=Cc h1;exact ⟨hno0 r hlt h3,by omega,by omega,(hw1o r hlt).trans h1,h2⟩
   obtain ⟨h1,h2,h3,h4,h5⟩:=hno;exact ⟨(hblk r h2 h3 h1).trans h4,(p4.old r h2 h1).trans h5,λho=>h1 (hfr r h2 ho)⟩
  have hC:Conc n I' ν E stB ids' { a with defers:=[{ target:=.collected w.heap.size,args:=#[] }]++a.defers } w4 :=
   {hS4 with size:=hc.size,env:=λt d hl=>by have:=hE3 t d (by rw [hL];exact hl);rw [hL] at this;exact this,defers:=hMk }
  have hden:VX (zU pend++k) ((pend.map Item.code).toList++is):=by
   cases pend with
   | none=>exact hki
   | some c=>exact ⟨rfl,hki⟩
  refine Reach.mono (λe a' w' hp=>?_) (hk b cs I' ν _ w4 _ hden hC);obtain ⟨x',env',st',ids2,I2,μ2,t1,t2,t3,t4,t5,t6⟩:=hp;have hpin:Pin F μ ν:=by rw [hL] at hFN;exact hFN
  refine ⟨x',env',st',ids2,I2,μ2,t1,t2,t3,hpin.trans t4,hExt.trans t5,λr hr=>?_⟩;rcases t6 r hr with h | h
  ·simp only [qV,Cy] at h;rcases h with h | h
   ·simp only [mkD,Deferred.mk.injEq,Target.collected.injEq,and_true] at h;exact .inr (by omega)
   ·exact .inl h
  ·exact .inr (by omega)
theorem Yj (t:Nat) {id:Nat} {ty:TypeId} (he:lk env t=some (.ref id off)) (hl:lk st id=some (some (.immb ty sz xs))) (h:DGo P n F Q todo ((t,.ip ty xs off)::env) ((id,none)::st) ids) :
  DGo P n F Q todo env st ids:=by
 intro b cs I μ a w items hd hc;have hlive:A1 st id (.immb ty sz xs):=hl;obtain ⟨g,hg,hlen,gb,vs,rfl,hheap,hrep,hone⟩:=hc.blk id _ hlive;obtain ⟨hno,hlt⟩:=hc.apart id _ _ gb hlive hg rfl;obtain ⟨J,hJ⟩:∃J:Imm,J=λk=>if k=gb then some (.cells vs ty (0,0)) else I k:=⟨_,rfl⟩
 have hle:I.le J:=λk o h=>by
  have:k≠gb:=λe=>by rw [e,hno] at h;cases h
  rw [hJ];simp [this,h]
 have hJo:∀k o,J k=some o->I k=some o\/(k=gb/\w.heap[k]?=some o):=λk o h=>by
  rw [hJ] at h;by_cases hk:k=gb
  ·subst hk;simp at h;subst h;exact .inr ⟨rfl,hheap⟩
  ·simp [hk] at h;exact .inl h
 have hE:Ext I μ st w J μ ((id,none)::st) w :=
  {imm:=hle,os:=rfl,tape:=rfl,output:=rfl,size:=BQ _
   block:=λ_ _ _=>rfl
   fresh:=λk _ ⟨i,bi,gi,h1,h2,h3⟩=>⟨i,bi,gi,(BZ.1 h1).2,h2,h3⟩
   old:=λk _ ho=>by
    have:k≠gb:=λe=>ho (e ▸ ⟨id,_,_,hlive,hg,rfl⟩);rw [hJ];simp [this] }
 have hv:RepD I μ (a.tmps.getD t undef) (.ref id off):=hc.env t _ he;have hptr:a.tmps.getD t undef = .pointer (some ⟨gb,off,none⟩):=by
  generalize a.tmps.getD t undef=v at hv;cases hv with
  | ref b' _ _ hm=>rw [hg] at hm;cases hm;rfl
 have hip:RepD J μ (a.tmps.getD t undef) (.ip ty xs off):=by
  rw [hptr];have:=RepD.ip (I:=J) (μ:=μ) gb 0 ty xs off (λj=>(vs[j]?).getD undef) (λj x hx=>?_) (λj x hx=>?_)
  ·simpa using this
  ·have hj:j<vs.size:=by have:=hrep.1;have:=(AL.1 hx).1;simp at *;omega
   rw [hJ];simp only [Imm.cell,if_true,Dh,PB hj,MV,true_and];exact hone _ (by simp)
  ·have hj:j<vs.size:=by have:=hrep.1;have:=(AL.1 hx).1;simp at *;omega
   simp only [PB hj,MV];exact (hrep.2 j _ x (by simp [hj]) hx).mono hle
 have hc':Conc n J μ ((t,.ip ty xs off)::env) ((id,none)::st) ids a w :=
  {imm:=λk o h=>(hJo k o h).elim (λh=>hc.imm k o h) λh=>h.2
   blk:=λi bi hli=>by
    obtain ⟨_,h2⟩:=BZ.1 hli;obtain ⟨gi,hgi,hr⟩:=hc.blk i bi h2;exact ⟨gi,hgi,hr.mono hle (Mu.le_refl μ)⟩
   apart:=λi bi gi k hli hgi hk=>by
    obtain ⟨h1,h2⟩:=BZ.1 hli;obtain ⟨q1,q2⟩:=hc.apart i bi gi k h2 hgi hk;refine ⟨?_,q2⟩;cases hJk:J k with
    | none=>rfl
    | some o =>
     rcases hJo k o hJk with h | ⟨h,_⟩
     ·rw [q1] at h;cases h
     ·exact absurd (hc.inj i id bi _ gi _ k h2 hlive hgi hg hk (by rw [h];rfl)) h1
   inj:=λi j bi bj gi gj k hi hj hgi hgj hki hkj=>hc.inj i j bi bj gi gj k (BZ.1 hi).2 (BZ.1 hj).2 hgi hgj hki hkj
   nodup:=hc.nodup
   idsFree:=hc.idsFree
   size:=hc.size
   env:=λt' d hlt=>by
    by_cases ht:t=t'
    ·subst ht;rw [A0] at hlt;cases hlt;exact hip
    ·rw [A6 _ _ ht] at hlt;exact (hc.env t' d hlt).mono hle (Mu.le_refl μ)
   defers:=hc.defers.ext hE }
 exact (h b cs J μ a w items hd hc').mono λe' a' w' hp=>hp.back (.refl _ _) hE
theorem Lk (i j:Nat) {blk:Blk} (hl:lk st i=some (some blk)) (hj:(Fp ids j&&Jr ids'&&LN ids' ids && !Fp ids' j)=true) (h:DGo P n F Q todo env ((j,some blk)::(i,none)::st) ids'):DGo P n F Q todo env st ids:=by
 intro b cs I μ a w items hd hc;simp only [Ap,HN] at hj;obtain ⟨⟨⟨hj1,hj2⟩,hj3⟩,hj4⟩:=hj;have hlive:A1 st i blk:=hl;obtain ⟨g,hg,hr⟩:=hc.blk i _ hlive;have hjn:μ j=none:=hc.idsFree j (BT.1 hj1);have hij:i≠j:=λe=>by rw [e,hjn] at hg;cases hg
 obtain ⟨ν,hν⟩:∃ν:Mu,ν=λk=>if k=j then some g else μ k:=⟨_,rfl⟩
 have hνj:ν j=some g:=by rw [hν];simp
 have hνo:∀k,k≠j->ν k=μ k:=λk hk=>by rw [hν];simp [hk]
 have hle:μ.le ν:=λk v hk=>by
  have:k≠j:=λe=>by rw [e,hjn] at hk;cases hk
  rw [hνo k this];exact hk
 have hst:∀k bk,A1 ((j,some blk)::(i,none)::st) k bk->(k=j/\bk=blk)\/(k≠j/\k≠i/\A1 st k bk):=λk bk h=>by
  rcases AB.1 h with h | ⟨h1,h⟩
  ·exact .inl h
  ·obtain ⟨h2,h3⟩:=BZ.1 h;exact .inr ⟨h1,h2,h3⟩
 have hE:Ext I μ st w I ν ((j,some blk)::(i,none)::st) w :=
  {imm:=Imm.le_refl I,os:=rfl,tape:=rfl,output:=rfl,size:=BQ _,block:=λ_ _ _=>rfl
   fresh:=λk _ ⟨x,bx,gx,h1,h2,h3⟩=>by
    rcases hst x bx h1 with ⟨rfl,rfl⟩ | ⟨q1,_,q3⟩
    ·rw [hνj] at h2;cases h2;exact ⟨i,_,_,hlive,hg,h3⟩
    ·exact ⟨x,bx,gx,q3,by rw [<- hνo x q1];exact h2,h3⟩
   old:=λ_ _ _=>rfl }
 have hc':Conc n I ν env ((j,some blk)::(i,none)::st) ids' a w :=
  {imm:=hc.imm
   blk:=λk bk hk=>by
    rcases hst k bk hk with ⟨rfl,rfl⟩ | ⟨q1,_,q3⟩
    ·exact ⟨g,hνj,hr.mono (Imm.le_refl I) hle⟩
    ·obtain ⟨g',h1,h2⟩:=hc.blk k bk q3;exact ⟨g',hle _ _ h1,h2.mono (Imm.le_refl I) hle⟩
   apart:=λk bk gk m hk hgk hm=>by
    rcases hst k bk hk with ⟨rfl,rfl⟩ | ⟨q1,_,q3⟩
    ·rw [hνj] at hgk;cases hgk;exact hc.apart i _ _ m hlive hg hm
    ·exact hc.apart k bk gk m q3 (by rw [<- hνo k q1];exact hgk) hm
   inj:=λk k' bk bk' gk gk' m hk hk' hgk hgk' hm hm'=>by
    rcases hst k bk hk with ⟨rfl,rfl⟩ | ⟨q1,p1,q3⟩ <;> rcases hst k' bk' hk' with ⟨rfl,rfl⟩ | ⟨q1',p1',q3'⟩
    ·rfl
    ·rw [hνj] at hgk;cases hgk;exact absurd (hc.inj k' i bk' _ gk' _ m q3' hlive (by rw [<- hνo k' q1'];exact hgk') hg hm' hm) p1'
    ·rw [hνj] at hgk';cases hgk';exact absurd (hc.inj k i bk _ gk _ m q3 hlive (by rw [<- hνo k q1];exact hgk) hg hm hm') p1
    ·exact hc.inj k k' bk bk' gk gk' m q3 q3' (by rw [<- hνo k q1];exact hgk) (by rw [<- hνo k' q1'];exact hgk') hm hm'
   nodup:=Il hj2
   idsFree:=λk hk=>by
    have h1:=hc.idsFree k (F8 hj3 k hk);have:k≠j:=λe=>by rw [<- e] at hj4;rw [BT.2 hk] at hj4;cases hj4
    rw [hνo k this];exact h1
   size:=hc.size
   env:=λt d hlt=>(hc.env t d hlt).mono (Imm.le_refl I) hle
   defers:=hc.defers.ext hE }
 exact (h b cs I ν a w items hd hc').mono λe' a' w' hp=>hp.back (.of_le hle) hE
inductive Yields (P:Program):List D->Bun->Bool->Bun->Prop where
 | nil (S:Bun):Yields P [] S true S
 | cons {d:D} {l:List D} {S S1 S2:Bun} {r:Bool} (h:O3 P [d] S true S1) (h1:Yields P l S1 r S2):Yields P (d::l) S r S2
 | stop {d:D} {l:List D} {S S1:Bun} (h:O3 P [d] S false S1):Yields P (d::l) S false S1
theorem Yields.split {m:List D} {r:Bool} (h:Yields P (l++m) S r S2):(∃S1,Yields P l S true S1/\Yields P m S1 r S2)\/(r=false/\Yields P l S false S2):=by
 induction l generalizing S with
 | nil=>exact .inl ⟨S,.nil S,h⟩
 | cons d l ih =>
  cases h with
  | cons h h1 =>
   rcases ih h1 with ⟨S1,q1,q2⟩ | ⟨q1,q2⟩
   ·exact .inl ⟨S1,.cons h q1,q2⟩
   ·exact .inr ⟨q1,.cons h q2⟩
  | stop h=>exact .inr ⟨rfl,.stop h⟩
theorem Yields.nilInv {r:Bool} (h:Yields P [] S r S2):r=true/\S2=S:=by
 cases h;exact ⟨rfl,rfl⟩
theorem Yields.all (S:Nat->Bun) (h:∀i d,l[i]?=some d->O3 P [d] (S i) true (S (i+1))):Yields P l (S 0) true (S l.length):=by
 have:∀(l:List D) (k:Nat),(∀i d,l[i]?=some d->O3 P [d] (S (k+i)) true (S (k+i+1)))->Yields P l (S k) true (S (k+l.length)):=by
  intro l
  induction l with
  | nil=>intro k _;exact .nil _
  | cons d l ih =>
   intro k h;have:=ih (k+1) λi d hi=>by
    have:=h (i+1) d (by simpa using hi)
    rwa [show k+1+i=k+(i+1) by omega]
   rw [show k+1+l.length=k+(d::l).length by simp;omega] at this;exact .cons (h 0 d rfl) this
 have:=this l 0 λi d hi=>by simpa using h i d hi
 simpa using this
def ttN:TT:=mF++[
 (270,⟨.ptr 182,false,1,8,[.imm .nilp]⟩),
 (235,⟨.ptr 9,false,1,8,[.imm .nilp]⟩),
 (233,⟨.func,false,1,8,[.imm .nilfn]⟩),
 (232,⟨.func,false,1,8,[.imm .nilfn]⟩),
 (268,⟨.func,false,1,8,[.imm .nilfn]⟩),
 (312,⟨.func,false,1,8,[.imm .nilfn]⟩),
 (230,⟨.ptr 49,false,1,8,[.imm .nilp]⟩)]
theorem zak:TTok prog ttN:=.of_eq (l:=[4,3,9,49,25,182,45,47,5,23,22,73,46,180,71,43,178,40,41,113,111,28,293,195,1,139,296,190,183,185,187,26,246,191,270,235,233,232,268,312,230]) (by kernel_rfl)
theorem nd (path:List Pt) (h:run ttN n 300 path todo env st ids [] = .at k env' st' ids' ob) (hob:A4 ob) (hd:Tq1 n F Q k env' st' ids'):Tq2 n F Q todo env st ids:=KC zak Fi 300 path h hob hd
theorem ndqq (h:run ttN n 300 [] todo env st ids [] = .at k env' st' ids' ob) (hd:Tq1 n F Q k env' st' ids') (hob:A4 ob:=by simp):Tq2 n F Q todo env st ids:=nd [] h hob hd
theorem ndqc (h:run ttN n 300 [] todo env st ids [] = .at k env' st' ids' ob) (hd:Tq1 n F Q k env' st' ids') (hob:A4 ob:=by simp [Am]):Tq2 n F Q todo env st ids:=nd [] h hob hd
mutual
def UV:Ty->List Ty
 | .mk s n x ps=>(if s=2 then [.mk s n x ps] else [])++M9 ps
def M9:List Ty->List Ty
 | []=>[]
 | t::r=>UV t++M9 r
end
def JY:Ty->Str
 | .mk _ _ x _=>x
def oR (t:Ty):List Str:=(UV t).map JY
theorem K0 (l m:List Str) (x:Str):BE (l++m) x=(BE l x||BE m x):=by
 induction l with
 | nil=>simp [BE]
 | cons y r ih=>simp [BE,ih,Vi]
theorem Yields.pre {m:List D} (h:∀x∈l,O3 P [x] S true S) (h1:O3 P [d] S false S'):Yields P (l++d::m) S false S':=by
 induction l with
 | nil=>exact .stop h1
 | cons x r ih=>exact .cons (h x (by simp)) (ih λy hy=>h y (by simp [hy]))
def FP (op kid:Int):Bool:=op == 5||op == 27||(op == 7&&kid == 1)
def Gi (op kid:Int):Bool:=op == 15&&decide (0<kid)
def mE:TT:=ttN++[
 (225,⟨.ptr 264,false,1,8,[.imm .nilp]⟩),
 (262,⟨.struct [(0,9),(1,9)],true,2,32,[.imm (.str []),.imm (.str [])]⟩),
 (264,⟨.struct [(0,262),(2,225)],true,3,40,[.imm (.str []),.imm (.str []),.imm .nilp]⟩)]
theorem Jk:TTok prog mE:=.of_eq (l:=[4,3,9,49,25,182,45,47,5,23,22,73,46,180,71,43,178,40,41,113,111,28,293,195,1,139,296,190,183,185,187,26,246,191,270,235,233,232,268,312,230,225,262,264]) (by kernel_rfl)
theorem fd_ (path:List Pt) (h:run mE n 300 path todo env st ids [] = .at k env' st' ids' ob) (hob:A4 ob) (hd:Tq1 n F Q k env' st' ids'):Tq2 n F Q todo env st ids:=KC Jk Fi 300 path h hob hd
theorem DP (h:run mE n 300 [] todo env st ids [] = .at k env' st' ids' ob) (hd:Tq1 n F Q k env' st' ids') (hob:A4 ob:=by simp):Tq2 n F Q todo env st ids:=fd_ [] h hob hd
theorem fd_qc (h:run mE n 300 [] todo env st ids [] = .at k env' st' ids' ob) (hd:Tq1 n F Q k env' st' ids') (hob:A4 ob:=by simp [Am]):Tq2 n F Q todo env st ids:=fd_ [] h hob hd
theorem fg_ (path:List Pt) (h:run mE n 300 path todo env st ids [] = .at k env' st' ids' ob) (hob:A4 ob) (hd:Tq1 n F Q k env' st' ids'):Tq1 n F Q todo env st ids:=JL Jk Fi 300 path h hob hd
theorem JM (h:run mE n 300 [] todo env st ids [] = .at k env' st' ids' ob) (hd:Tq1 n F Q k env' st' ids') (hob:A4 ob:=by simp):Tq1 n F Q todo env st ids:=fg_ [] h hob hd
theorem fL (h:run mE n 300 [] todo env st ids [] = .at k env' st' ids' ob) (hd:Tq1 n F Q k env' st' ids') (hob:A4 ob:=by simp [Am]):Tq1 n F Q todo env st ids:=fg_ [] h hob hd
theorem xL (h:FO mE n env todo=some ⟨es,m,sz,e,g,ob,some t,todo'⟩) (hc:Am g->0<=m/\es[m.toNat]?=some c/\c.length=sz) (hob:A4 ob) (hk:Tq1 n F Q todo' ((t,gD g (.ip e c 0))::env) st ids):Tq1 n F Q todo env st ids:=Ht Jk h hc hob hk
theorem fi_z (h:FO mE n env todo=some ⟨es,(i:Int),sz,e,g,ob,some t,todo'⟩) (hg:es[i]?=some c) (hk:Tq1 n F Q todo' ((t,gD g (.ip e c 0))::env) st ids) (hl:c.length=sz:=by simp) (hob:A4 ob:=by simp):Tq1 n F Q todo env st ids:=xL h (λ_=>⟨by omega,by simpa using hg,hl⟩) hob hk
theorem fi_zc (h:FO mE n env todo=some ⟨es,(i:Int),sz,e,g,ob,some t,todo'⟩) (hg:es[i]?=some c) (hk:Tq1 n F Q todo' ((t,gD g (.ip e c 0))::env) st ids) (hl:c.length=sz:=by simp) (hob:A4 ob:=by simp [Am]):Tq1 n F Q todo env st ids:=xL h (λ_=>⟨by omega,by simpa using hg,hl⟩) hob hk
theorem OJ {α:Type} {sz f:Nat} {ys:List α}:∀(es:List (List α)) (k:Nat) (c:List α),(∀e∈es,e.length=sz)->es[k]?=some c->f+ys.length<=sz ->
  (es.set k (c.take f++ys++c.drop (f+ys.length))).flatten=es.flatten.take (k*sz+f)++ys++es.flatten.drop (k*sz+f+ys.length)
 | [],_,_,_,h,_=>by simp at h
 | e::r,0,c,hs,h,hf=>by
  simp at h;subst h;have he:=hs e (by simp);simp only [List.set_cons_zero,Ki,Nat.zero_mul,Dh];rw [qR (by omega),List.drop_append_of_le_length (by omega)];simp
 | e::r,k+1,c,hs,h,hf=>by
  have he:=hs e (by simp);have ih:=OJ r k c (λe h=>hs e (by simp [h])) (by simpa using h) hf;simp only [List.set_cons_succ,Ki,ih];have e1:(k+1)*sz+f=e.length+(k*sz+f):=by rw [he,QU];omega
  rw [e1,Xh e.length,List.take_length_add_append,List.drop_length_add_append];simp
theorem RepVL.splice {vs ns:List Value} {ys:List V} (h:RepVL I vs xs) (k:RepVL I ns ys) (off:Nat):RepVL I (vs.take off++ns++vs.drop (off+ns.length)) (xs.take off++ys++xs.drop (off+ys.length)):=by
 have app:∀{a b:List Value} {x y:List V},RepVL I a x->RepVL I b y->RepVL I (a++b) (x++y):=λ{a b x y} p q =>
  ⟨by simp [p.1,q.1],λi v z h1 h2=>by
   rw [Mg] at h1 h2;by_cases hi:i<a.length
   ·rw [if_pos hi] at h1;rw [if_pos (by rw [<- p.1];exact hi)] at h2;exact p.2 i v z h1 h2
   ·rw [if_neg hi] at h1;rw [if_neg (by rw [<- p.1];exact hi),<- p.1] at h2;exact q.2 _ v z h1 h2⟩
 refine app (app ⟨by simp [h.1],λi v z h1 h2=>?_⟩ k) ⟨by simp [h.1,k.1],λi v z h1 h2=>?_⟩
 ·rw [D6] at h1 h2;by_cases hi:i<off
  ·rw [if_pos hi] at h1 h2;exact h.2 i v z h1 h2
  ·rw [if_neg hi] at h1;cases h1
 ·rw [Fj] at h1 h2;rw [k.1] at h1;exact h.2 _ v z h1 h2
structure POi where
 id:Nat
 es:List (List V)
 m:Int
 sz:Nat
 g:Option (Bool×Bool)
 ob:List Prop
 t:Nat
 todo:List DI
def zE (tt:TT) (n:Nat) (env:Env) (st:St) (todo:List DI):Option POi :=
 match Bm todo ([],[]) with
 | some (all,o,_)=>match o.op,Cq all env o with
  | .indexAddr t x i,some g=>match lk tt t,Mv (Am g) env x,Mv (Am g) env i with
   | some { sh:=.sl e,.. },some (.own id _,o1),some (.imm (.int _ m),o2)=>match lk tt e,lk st id,o.dst,BM n o.dst,Bm todo ([id],[]) with
    | some ti,some (some (.row _ sz es)),some t',true,some (_,_,todo')=>match Nat.beq sz ti.size with
     | true=>some ⟨id,es,m,sz,g,Jh o1 o2,t',todo'⟩
     | false=>none
    | _,_,_,_,_=>none
   | _,_,_=>none
  | _,_=>none
 | none=>none
structure POl where
 id:Nat
 es:List (List V)
 k:Nat
 f:Nat
 sz:Nat
 i:TyI
 g:Option (Bool×Bool)
 ob:List Prop
 t:Nat
 todo:List DI
def oQ (tt:TT) (n:Nat) (env:Env) (st:St) (todo:List DI):Option POl :=
 match Bm todo ([],[]) with
 | some (all,o,_)=>match o.op,Cq all env o with
  | .load t x,some g=>match lk tt t,Mv (Am g) env x with
   | some i,some (.elp id k sz f,o1)=>match lk st id,o.dst,BM n o.dst,Bm todo ([id],[]) with
    | some (some (.row _ sz' es)),some t',true,some (_,_,todo')=>match Nat.beq sz sz' with
     | true=>some ⟨id,es,k,f,sz,i,g,o1,t',todo'⟩
     | false=>none
    | _,_,_,_=>none
   | _,_=>none
  | _,_=>none
 | none=>none
structure POs where
 id:Nat
 e:TypeId
 es:List (List V)
 k:Nat
 f:Nat
 sz:Nat
 ys:List V
 n:Nat
 ob:List Prop
 todo:List DI
def dQ (tt:TT) (env:Env) (st:St) (todo:List DI):Option POs :=
 match Bm todo ([],[]) with
 | some (_,o,_)=>match o.guard,o.dst,o.op with
  | none,none,.store t p x=>match lk tt t,Eg env p,Eg env x with
   | some i,some (.elp id k sz f),some dx=>match lk st id,Bm todo ([id],[id]),elemOf i.size dx with
    | some (some (.row e sz' es)),some (_,_,todo'),some (ys,ob)=>match Nat.beq sz sz' with
     | true=>some ⟨id,e,es,k,f,sz,ys,i.size,ob,todo'⟩
     | false=>none
    | _,_,_=>none
   | _,_,_=>none
  | _,_,_=>none
 | none=>none
theorem Jt {f f':List Nat×List Nat} {all all':List Oper} {o':Oper} (h:Bm todo f=some (all,o,k)) (h':Bm todo f'=some (all',o',todo')):all'=all/\o'=o:=by
 rcases IK h with ⟨r,q,rfl,_⟩ | ⟨r,fs,q,rfl,_⟩
 ·simp [Bm] at h';exact ⟨h'.1.symm,h'.2.1.symm⟩
 ·simp [Bm] at h';exact ⟨h'.1.symm,h'.2.1.symm⟩
theorem YU {id:Nat} (hst:StRep I μ st ids w) (hl:A1 st id (.row e sz es)) (hne:es≠[]) :
  ∃b cap cur,μ id=some (.slice (some ⟨b,0,none⟩) es.length cap)/\w.heap[b]?=some (.cells cur e (0,0))/\es.length<=cap/\cap<=maxLen/\cur.size=cap*sz /\
   RepVL I (cur.toList.take (es.length*sz)) es.flatten/\(∀c∈es,c.length=sz)/\(∀c∈es,∀x∈c,V.one x=true)/\0<sz:=by
 obtain ⟨g,hg,xs,⟨_,hown⟩,hrep,hsz,hone,hp⟩:=hst.blk id _ hl;rcases hown with ⟨_,h0⟩ | ⟨b,cap,cur,rfl,_,h2,h3,h4,h5,h6⟩
 ·exact absurd (L7 h0) hne
 ·rw [<- h6] at hrep;exact ⟨b,cap,cur,hg,h2,h3,h4,h5,hrep,hsz,hone,hp⟩
theorem FU (htt:TTok P tt) {c:POi} (h:zE tt n env st todo=some c) (hc:Am c.g->0<=c.m/\c.m<c.es.length) (hob:A4 c.ob)
  (hk:G P n F Q c.todo ((c.t,gD c.g (.elp c.id c.m.toNat c.sz 0))::env) st ids):G P n F Q todo env st ids:=by
 unfold zE at h
 split at h
 ·rename_i all o todo0 h0
  split at h
  ·rename_i t x i g hop hg
   split at h
   ·rename_i e _ _ _ _ id ln o1 kk m o2 ht hx hi
    split at h
    ·rename_i ti e' sz es t' all' o' todo' hti hl hdst hd h1
     split at h
     ·rename_i hsz;cases h;obtain ⟨rfl,rfl⟩:=Jt h0 h1;have hk:G P n F Q todo' (BK o'.dst (gD g (.elp id m.toNat sz 0)) env) st ids:=by rw [hdst];exact hk
      refine BF (fr:=[]) (wr:=[]) (rd:=[id]) h1 (D3 hg λI μ st1 ids1 a w hag hst hops hcx=>?_) (by rw [hdst] at hd ⊢;exact hd) (λc hc=>by rw [hop] at hc;cases hc) hk;rw [hop] at hops;obtain ⟨ho1,ho2⟩:=B4 hob;have rx:=Eh hx ho1 hcx (hops x (by simp [Op.operands]));have ri:=(Eh hi ho2 hcx (hops i (by simp [Op.operands]))).immInv.intInv;obtain ⟨c0,c1⟩:=hc hcx;simp only at c0 c1;have hl1:A1 st1 id (.row e' sz es):=by unfold A1;rw [hag id (by simp)];exact hl
      obtain ⟨b,cap,cur,hmu,hheap,hcap,hcm,hcs,hrep,hlen,hone,hp⟩:=YU hst hl1 (by rintro rfl;simp at c1;omega);have hs:=CD hsz;subst hs;have hu:P.underlying t=some (.slice e):=htt.sh ht;simp only [execOp,hop,ri];generalize hv:a.eval x=v at rx;cases rx with
      | own _ _ ad cp hm =>
       rw [hm] at hmu;cases hmu;have hr:=Of (w:=w) hu (htt e ti hti) (b:=b) (off:=0) (len:=es.length) (cap:=cap) (kk:=kk) c0 (by omega);have hrun:(do pure (.value (<- Instr.indexAt t (.slice (some ⟨b,0,none⟩) es.length cap) (.int kk m))):Sem Next).run P w = .ok (.value (.pointer (some ⟨b,0+m.toNat*ti.size,none⟩))) w:=A7 hr;rw [hrun,Dh];exact ⟨I,μ,hst,.elp b id _ cap m.toNat ti.size 0 hm,Mu.le_refl μ,Ext.refl _ _ _ _⟩
     ·cases h
    ·cases h
   ·cases h
  ·cases h
 ·cases h
theorem PW (htt:TTok P tt) {c:POl} {e:List V} (h:oQ tt n env st todo=some c) (hc:Am c.g->c.es[c.k]?=some e) (hd:MX c.i (Nat.beq c.sz c.i.size) e c.f=some d) (hob:A4 c.ob) (hk:G P n F Q c.todo ((c.t,gD c.g d)::env) st ids):G P n F Q todo env st ids:=by
 unfold oQ at h
 split at h
 ·rename_i all o todo0 h0
  split at h
  ·rename_i t x g hop hg
   split at h
   ·rename_i i id kk sz f o1 ht hx
    split at h
    ·rename_i e' sz' es t' all' o' todo' hl hdst hd' h1
     split at h
     ·rename_i hsz;cases h;obtain ⟨rfl,rfl⟩:=Jt h0 h1;have hk:G P n F Q todo' (BK o'.dst (gD g d) env) st ids:=by rw [hdst];exact hk
      refine BF (fr:=[]) (wr:=[]) (rd:=[id]) h1 (D3 hg λI μ st1 ids1 a w hag hst hops hcx=>?_) (by rw [hdst] at hd' ⊢;exact hd') (λc hc=>by rw [hop] at hc;cases hc) hk;rw [hop] at hops;have rx:=Eh hx hob hcx (hops x (by simp [Op.operands]));have c1:=hc hcx;simp only at c1;have hs:=CD hsz;subst hs;have hl1:A1 st1 id (.row e' sz es):=by unfold A1;rw [hag id (by simp)];exact hl
      obtain ⟨b,cap,cur,hmu,hheap,hcap,hcm,hcs,hrep,hlen,hone,hp⟩:=YU hst hl1 (by rintro rfl;simp at c1);have he:=hlen e (AF c1);simp only [execOp,hop];generalize hv:a.eval x=v at rx;cases rx with
      | elp _ _ ln cp _ _ _ hm =>
       rw [hm] at hmu;cases hmu;have hcell:∀j y,e[j]?=some y->∃u,cur[kk*sz+j]?=some u/\RepV I u y/\u.oneCell'=true:=by
        intro j y hj;have h1:=C8 hlen kk e j y c1 hj;have hlt:kk*sz+j<(cur.toList.take (es.length*sz)).length:=by rw [hrep.1];exact (AL.1 h1).1
        have h2:=Br hlt;have h3:=hrep.2 _ _ _ h2 h1;refine ⟨_,?_,h3,h3.one (hone e (AF c1) y (AF hj))⟩;rw [D6] at h2
        split at h2
        ·simp
        ·cases h2
       obtain ⟨u,q1,q2⟩:=MW (P:=P) (w:=w) (I:=I) (μ:=μ) (htt t i ht) (b:=b) (o:=kk*sz) (off:=f) (xs:=e) (vs:=λj=>(cur[kk*sz+j]?).getD undef) (same:=Nat.beq sz i.size)
        (λj y hj=>by
         obtain ⟨u,k1,k2,k3⟩:=hcell j y hj;refine ⟨?_,by simp [k1,k3]⟩;rw [Fb hheap (kk*sz+j) u (by simpa using k1)];simp [k1])
        (λj y hj=>by
         obtain ⟨u,k1,k2,k3⟩:=hcell j y hj;simpa [k1] using k2)
        (λ_ hs _=>by rw [he];exact CD hs) hd
       have hrun:(do pure (.value (<- Instr.loadAt t (.pointer (some ⟨b,kk*sz+f,none⟩)))):Sem Next).run P w = .ok (.value u) w:=A7 q1;rw [hrun];exact ⟨I,μ,hst,q2,Mu.le_refl μ,Ext.refl _ _ _ _⟩
     ·cases h
    ·cases h
   ·cases h
  ·cases h
 ·cases h
theorem K3 (htt:TTok P tt) {c:POs} {e e':List V} (h:dQ tt env st todo=some c) (hc:c.es[c.k]?=some e) (hf:c.f+c.n<=c.sz) (he':e'=e.take c.f++c.ys++e.drop (c.f+c.n)) (hob:A4 c.ob)
  (hk:G P n F Q c.todo env ((c.id,some (.row c.e c.sz (c.es.set c.k e')))::st) ids):G P n F Q todo env st ids:=by
 unfold dQ at h
 split at h
 ·rename_i all o todo0 h0
  split at h
  ·rename_i t p x hgd hdst hop
   split at h
   ·rename_i i id kk sz f dx ht hp hx
    split at h
    ·rename_i ty sz' es all' o' todo' ys ob hl h1 hel
     split at h
     ·rename_i hsz;cases h;obtain ⟨rfl,rfl⟩:=Jt h0 h1;have hs:=CD hsz;subst hs;simp only at hc hf he' hob hk;have hk:G P n F Q todo' (BK o'.dst .undef env) ([(id,some (.row ty sz (es.set kk e')))]++st) ids:=by rw [hdst];exact hk
      refine BF (fr:=[]) (wr:=[(id,some (.row ty sz (es.set kk e')))]) (rd:=[id]) h1 ?_ (by simp [BM,hdst]) (λc hc=>by rw [hop] at hc;cases hc) hk;intro I μ st1 ids1 a w hag hst hon;refine ⟨λ_=>?_,λhw=>by rw [AH hgd] at hw;cases hw⟩;have hops:=Bj hon;rw [hop] at hops;have rp:=hops p (by simp [Op.operands]) _ hp;obtain ⟨r1,r2,r3,r4⟩:=RD hel (hops x (by simp [Op.operands]) _ hx) hob;have hl1:A1 st1 id (.row ty sz es):=by unfold A1;rw [hag id (by simp)];exact hl
      obtain ⟨b,cap,cur,hmu,hheap,hcap,hcm,hcs,hrep,hlen,hone,hpos⟩:=YU hst hl1 (by rintro rfl;simp at hc);have hkl:=(AL.1 hc).1;have hfit:kk*sz+f+i.size<=es.length*sz:=by
       have:(kk+1)*sz<=es.length*sz:=ZP _ hkl;rw [QU] at this;omega
      have hcapz:es.length*sz<=cap*sz:=ZP _ hcap;generalize hv:a.eval p=v at rp;cases rp with
      | elp _ _ ln cp _ _ _ hm =>
       rw [hm] at hmu;cases hmu;have hvl:(a.eval x).cells.toList.length=i.size:=by simpa using r2
       have hrun:(execOp a.eval o').run P w = .ok .skip (w.setRow b (cur.toList.take (kk*sz+f)++(a.eval x).cells.toList++cur.toList.drop (kk*sz+f+(a.eval x).cells.toList.length)).toArray):=by
        simp only [execOp,hop,hv,Sem.run_bind,LT (htt t i ht) hheap r2 r4 (show kk*sz+f+(a.eval x).cells.toList.length<=cur.size by rw [hvl];omega),Result.andThen_ok,Sem.run_pure]
       rw [hrun];have hcl:cur.toList.length=cap*sz:=by simpa using hcs
       have hnew:BlkRep I μ (w.setRow b (cur.toList.take (kk*sz+f)++(a.eval x).cells.toList++cur.toList.drop (kk*sz+f+(a.eval x).cells.toList.length)).toArray) (.slice (some ⟨b,0,none⟩) es.length cap) (.row ty sz (es.set kk e')):=by
        subst he';have hys:ys.length=i.size:=r3;have e1:=OJ (ys:=ys) es kk e hlen hc (by rw [hys];exact hf);rw [hys] at e1;have e2:(cur.toList.take (kk*sz+f)++(a.eval x).cells.toList++cur.toList.drop (kk*sz+f+(a.eval x).cells.toList.length)).take (es.length*sz) =
          (cur.toList.take (es.length*sz)).take (kk*sz+f)++(a.eval x).cells.toList++(cur.toList.take (es.length*sz)).drop (kk*sz+f+(a.eval x).cells.toList.length):=by
         rw [hvl,CF,Xf,Xf,qF,qF,HH,hvl,CF];rw [Xe (by omega:kk*sz+f<=cur.toList.length),Nat.min_eq_right (by omega:kk*sz+f<=es.length*sz),Xe (by omega:kk*sz+f<=es.length*sz)];rw [Db (l:=(a.eval x).cells.toList) (by omega),List.drop_take];congr 3;omega
        have hR:=RepVL.splice hrep r1 (kk*sz+f);rw [hvl,hys] at hR;rw [hvl] at e2;have CL:(es.set kk (e.take f++ys++e.drop (f+i.size))).length=es.length:=by simp
        refine ⟨_,⟨?_,.inr ⟨b,cap,_,by rw [CL],AJ _,setRow_heap w b cur _ ty _ hheap,by rw [CL];exact hcap,hcm,?_,rfl⟩⟩,?_,?_,?_,hpos⟩
        ·simp;omega
        ·simp;omega
        ·rw [CL,hvl,MT,e2];exact e1 ▸ hR
        ·intro c hc';rcases qQ hc' with h | h
         ·exact hlen c h
         ·rw [h];have:=hlen e (AF hc);simp [hys];omega
        ·intro c hc' y hy;rcases qQ hc' with h | h
         ·exact hone c h y hy
         ·rw [h] at hy;have h5:=hone e (AF hc);rcases BN.1 hy with hy | hy
          ·rcases BN.1 hy with hy | hy
           ·exact h5 y (LA hy)
           ·obtain ⟨j,hj⟩:=DL.1 hy;have hjl:j<(a.eval x).cells.toList.length:=by rw [r1.1];exact (AL.1 hj).1
            exact (r1.2 j _ y (Br hjl) hj).oneV (r4 _ (IP _))
          ·exact h5 y (Pd hy)
       obtain ⟨q1,q2⟩:=hst.update (id:=id) (blk:=.row ty sz es) (g:=.slice (some ⟨b,0,none⟩) es.length cap) (b:=b) hl1 hm rfl (w':=w.setRow b _) (setRow_size w b _) rfl rfl rfl (λk hk=>setRow_other w b k _ hk) hnew;exact ⟨I,μ,q1,.undef _,Mu.le_refl μ,q2⟩
     ·cases h
    ·cases h
   ·cases h
  ·cases h
 ·cases h
def noMu:Mu:=λ_=>none
theorem wF (μ:Mu):noMu.le μ:=λ_ _ h=>by cases h
def Qd (I:Imm) (w:World) (b off:Nat) (ds:List D):Prop :=
 ∃vs t k,w.heap[b]?=some (.cells vs t k)/\∀j d,ds[j]?=some d->∃c,vs[off+j]?=some c/\c.oneCell'=true/\RepD I noMu c d
structure PRi where
 a:Addr
 len:Nat
 m:Int
 sz:Nat
 g:Option (Bool×Bool)
 ob:List Prop
 t:Nat
 todo:List DI
def zD (tt:TT) (n:Nat) (env:Env) (todo:List DI):Option PRi :=
 match Bm todo ([],[]) with
 | some (all,o,todo')=>match o.op,Cq all env o with
  | .indexAddr t x i,some g=>match lk tt t,Mv (Am g) env x,Mv (Am g) env i with
   | some { sh:=.sl e,.. },some (.raw (.slice (some a) len _),o1),some (.imm (.int _ m),o2)=>match lk tt e,o.dst,BM n o.dst with
    | some ti,some t',true=>some ⟨a,len,m,ti.size,g,Jh o1 o2,t',todo'⟩
    | _,_,_=>none
   | _,_,_=>none
  | _,_=>none
 | none=>none
structure PRl where
 b:Nat
 off:Nat
 i:TyI
 g:Option (Bool×Bool)
 ob:List Prop
 t:Nat
 todo:List DI
def oP (tt:TT) (n:Nat) (env:Env) (id:Nat) (todo:List DI):Option PRl :=
 match Bm todo ([id],[]) with
 | some (all,o,todo')=>match o.op,Cq all env o with
  | .load t x,some g=>match lk tt t,Mv (Am g) env x with
   | some i,some (.raw (.pointer (some ⟨b,off,none⟩)),o1)=>match o.dst,BM n o.dst with
    | some t',true=>some ⟨b,off,i,g,o1,t',todo'⟩
    | _,_=>none
   | _,_=>none
  | _,_=>none
 | none=>none
theorem RepD.rawInv (h:RepD I μ v (.raw u)):v=u:=by cases h;rfl
theorem Nk (htt:TTok P tt) {c:PRi} (h:zD tt n env todo=some c) (hs:c.a.spot=none) (hc:Am c.g->0<=c.m/\c.m<c.len) (hob:A4 c.ob)
  (hk:G P n F Q c.todo ((c.t,gD c.g (.raw (.pointer (some ⟨c.a.block,c.a.off+c.m.toNat*c.sz,none⟩))))::env) st ids):G P n F Q todo env st ids:=by
 unfold zD at h
 split at h
 ·rename_i all o todo' h1
  split at h
  ·rename_i t x i g hop hg
   split at h
   ·rename_i e _ _ _ _ ad len cap o1 kk m o2 ht hx hi
    split at h
    ·rename_i ti t' hti hdst hd;cases h;obtain ⟨b,off,spot⟩:=ad;simp only at hs;subst hs;have hk:G P n F Q todo' (BK o.dst (gD g (.raw (.pointer (some ⟨b,off+m.toNat*ti.size,none⟩)))) env) st ids:=by rw [hdst];exact hk
     refine BF (fr:=[]) (wr:=[]) (rd:=[]) h1 (D3 hg λI μ st1 ids1 a w _ hst hops hcx=>?_) (by rw [hdst] at hd ⊢;exact hd) (λc hc=>by rw [hop] at hc;cases hc) hk;rw [hop] at hops;obtain ⟨ho1,ho2⟩:=B4 hob;have rx:=(Eh hx ho1 hcx (hops x (by simp [Op.operands]))).rawInv;have ri:=(Eh hi ho2 hcx (hops i (by simp [Op.operands]))).immInv.intInv;obtain ⟨c0,c1⟩:=hc hcx;have hu:P.underlying t=some (.slice e):=htt.sh ht;simp only [execOp,hop,ri,rx];have hr:=Of (w:=w) hu (htt e ti hti) (b:=b) (off:=off) (len:=len) (cap:=cap) (kk:=kk) c0 c1
     have hrun:(do pure (.value (<- Instr.indexAt t (.slice (some ⟨b,off,none⟩) len cap) (.int kk m))):Sem Next).run P w = .ok (.value (.pointer (some ⟨b,off+m.toNat*ti.size,none⟩))) w:=A7 hr;rw [hrun];exact ⟨I,μ,hst,.raw _ rfl,Mu.le_refl μ,Ext.refl _ _ _ _⟩
    ·cases h
   ·cases h
  ·cases h
 ·cases h
theorem wN {t:TypeId} {i:TyI} (hi:TyOk P t i) {ds:List D} (h:Qd I w b off ds) (hl:ds.length=i.size) (hd:HO i true ds 0=some d) (μ:Mu) :
  ∃v,(Instr.loadAt t (.pointer (some ⟨b,off,none⟩))).run P w = .ok v w/\RepD I μ v d:=by
 obtain ⟨vs,bt,kk,hheap,hcs⟩:=h;have hcell:∀(j:Nat),j<ds.length->∃c d,ds[j]?=some d/\vs[off+j]?=some c/\c.oneCell'=true/\RepD I μ c d:=λj hj=>by
  obtain ⟨c,h1,h2,h3⟩:=hcs j _ (Br hj);exact ⟨c,_,Br hj,h1,h2,h3.mono (Imm.le_refl I) (wF μ)⟩
 have hw:∀j,j<ds.length->w.cell? ⟨b,off+j,none⟩=some ((vs[off+j]?).getD undef):=λj hj=>by
  obtain ⟨c,d,_,h2,_⟩:=hcell j hj;rw [Fb hheap (off+j) c (by simpa using h2)];simp [h2]
 cases ha:i.agg with
 | true =>
  simp only [HO,ha] at hd;cases hd;have hr:=KW hi b off (λj=>(vs[off+j]?).getD undef) (w:=w) (λj hj=>hw j (by omega)) (λhf=>by rw [ha] at hf;cases hf);rw [ha] at hr;simp only [if_true] at hr;refine ⟨_,hr,?_⟩;have:=H1 (I:=I) (μ:=μ) (vs:=(List.range i.size).map λj=>(vs[off+j]?).getD undef) (ds:=ds) ⟨by simp [hl],λj v d hv hd=>?_⟩ (λc hc=>?_)
  ·simpa using this
  ·rw [Ep] at hv;obtain ⟨c,d',h1,h2,_,h4⟩:=hcell j (AL.1 hd).1;rw [h1] at hd;cases hd;cases hj:(List.range i.size)[j]? with
   | none=>rw [hj] at hv;cases hv
   | some q =>
    rw [hj] at hv;have:q=j:=by
     obtain ⟨h6,h7⟩:=AL.1 hj;simpa using h7.symm
    subst this;cases hv;simpa [h2] using h4
  ·obtain ⟨j,hj,rfl⟩:=C2.1 hc;obtain ⟨c,d',_,h2,h3,_⟩:=hcell j (by rw [hl];simpa using hj);simpa [h2] using h3
 | false =>
  simp only [HO,ha] at hd;have hlt:0<ds.length:=by
   cases ds with
   | nil=>simp [Ms] at hd
   | cons=>simp
  have hr:=KW hi b off (λj=>(vs[off+j]?).getD undef) (w:=w) (λj hj=>hw j (by omega)) (λ_=>hw 0 hlt);rw [ha] at hr;simp only [DK,if_false] at hr;obtain ⟨c,d',h1,h2,_,h4⟩:=hcell 0 hlt;rw [Gv,h1] at hd;cases hd;rw [Iq] at h2;exact ⟨_,hr,by simpa [h2] using h4⟩
theorem fG (htt:TTok P tt) (id:Nat) {A:Asn} {c:PRl} (ds:List D) (h:oP tt n env id todo=some c) (hl:lk st id=some (some (.hp A))) (hA:Am c.g->∀vs I w bs,A.P vs I w bs->Qd I w c.b c.off ds) (hlen:ds.length=c.i.size) (hd:HO c.i true ds 0=some d) (hob:A4 c.ob) (hk:G P n F Q c.todo ((c.t,gD c.g d)::env) st ids):G P n F Q todo env st ids:=by
 unfold oP at h
 split at h
 ·rename_i all o todo' h1
  split at h
  ·rename_i t x g hop hg
   split at h
   ·rename_i i b off o1 ht hx
    split at h
    ·rename_i t' hdst hd';cases h;have hk:G P n F Q todo' (BK o.dst (gD g d) env) st ids:=by rw [hdst];exact hk
     refine BF (fr:=[]) (wr:=[]) (rd:=[id]) h1 (D3 hg λI μ st1 ids1 a w hag hst hops hcx=>?_) (by rw [hdst] at hd' ⊢;exact hd') (λc hc=>by rw [hop] at hc;cases hc) hk;rw [hop] at hops;have rx:=(Eh hx hob hcx (hops x (by simp [Op.operands]))).rawInv;have hl1:A1 st1 id (.hp A):=by unfold A1;rw [hag id (by simp)];exact hl
     obtain ⟨gg,hg',us,bs,e1,e2⟩:=hst.blk id _ hl1;obtain ⟨v,q1,q2⟩:=wN (P:=P) (htt t i ht) (hA hcx us I w bs e2) hlen hd μ;simp only [execOp,hop,rx];have hrun:(do pure (.value (<- Instr.loadAt t (.pointer (some ⟨b,off,none⟩)))):Sem Next).run P w = .ok (.value v) w:=A7 q1;rw [hrun];exact ⟨I,μ,hst,q2,Mu.le_refl μ,Ext.refl _ _ _ _⟩
    ·cases h
   ·cases h
  ·cases h
 ·cases h
end Go.Hk
