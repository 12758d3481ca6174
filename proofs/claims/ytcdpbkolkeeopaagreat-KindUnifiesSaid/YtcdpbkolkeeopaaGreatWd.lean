/- Contracts of package kind: stands. (And what it stands on.) -/
import Derived.Test.YtcdpbkolkeeopaaGreatWc
import Derived.Sort.Walk0
import Derived.Laws.MakeOwn
import Derived.Test.YtcdpbkolkeeopaaGreatWb
set_option linter.defProp false
set_option linter.unnecessarySimpa false
set_option linter.unusedSimpArgs false
set_option linter.unusedVariables false

set_option maxRecDepth 100000
set_option maxHeartbeats 4000000
namespace Go.Hk
def rI (e:TypeId) (sz:Nat) (es:List (List V)) (v:Value):Asn where
 P:=λ_ I w bs=>(v = .slice none 0 0/\es=[]/\bs=[])\/∃b cap cur,v = .slice (some ⟨b,0,none⟩) es.length cap/\bs=[b]/\w.heap[b]?=some (.cells cur e (0,0))/\es.length<=cap/\cap<=maxLen /\
  cur.size=cap*sz/\RepVL I (cur.toList.take (es.length*sz)) es.flatten/\(∀c∈es,c.length=sz)/\(∀c∈es,∀x∈c,V.one x=true)/\0<sz
 mono:=λh hp=>by
  rcases hp with hp | ⟨b,cap,cur,h1,h2,h3,h4,h5,h6,h7,h8⟩
  ·exact .inl hp
  ·exact .inr ⟨b,cap,cur,h1,h2,h3,h4,h5,h6,h7.mono h,h8⟩
 loc:=λh hp=>by
  rcases hp with hp | ⟨b,cap,cur,h1,h2,h3,h4⟩
  ·exact .inl hp
  ·exact .inr ⟨b,cap,cur,h1,h2,(h b (by simp [h2])).trans h3,h4⟩
section
variable {P:Program} {n:Nat} {F:List Nat} {Q:DQ} {tt:TT} {env env':Env} {st st':St} {ids ids':List Nat} {todo:List DI} {I J:Imm} {μ:Mu} {w:World} {a:Act} {d:D}
end
end Go.Hk
namespace Go.Hk
structure PA0 where
 dx:D
 dst:Option Nat
 todo:List DI
def sD (tt:TT) (n:Nat) (env:Env) (todo:List DI):Option PA0 :=
 match Bh todo ([],[]) with
 | some (_,o,todo')=>match o.guard,o.op with
  | none,.call { callee:=.builtin .append,args:=⟨[x,y]⟩,argTypes:=⟨[t,t']⟩ }=>match Nat.beq t t',lk tt t,DT env x,DT env y with
   | true,some { sh:=.sl e,.. },some (.clip es),some (.imm (.sl []))=>match lk tt e,BB n o.dst with
    | some _,true=>some ⟨.clip es,o.dst,todo'⟩
    | _,_=>none
   | true,some { sh:=.sl e,.. },some (.imm (.sl es)),some (.imm (.sl []))=>match lk tt e,BB n o.dst with
    | some _,true=>some ⟨.imm (.sl es),o.dst,todo'⟩
    | _,_=>none
   | _,_,_,_=>none
  | _,_=>none
 | none=>none
structure PEn where
 es:List (List V)
 eq:Bool
 dst:Option Nat
 todo:List DI
def wB (tt:TT) (n:Nat) (env:Env) (todo:List DI):Option PEn :=
 match Bh todo ([],[]) with
 | some (_,o,todo')=>match o.guard,o.op with
  | none,.binOp .eql t x y _=>match lk tt t,DT env x,DT env y,BB n o.dst with
   | some { sh:=.sl _,.. },some (.imm (.sl es)),some .nils,true=>some ⟨es,true,o.dst,todo'⟩
   | _,_,_,_=>none
  | none,.binOp .neq t x y _=>match lk tt t,DT env x,DT env y,BB n o.dst with
   | some { sh:=.sl _,.. },some (.imm (.sl es)),some .nils,true=>some ⟨es,false,o.dst,todo'⟩
   | _,_,_,_=>none
  | _,_=>none
 | none=>none
def vF (x:V):Asn where
 P:=λvs I _ bs=>bs=[]/\∃v,vs=[v]/\RepV I v x/\v.oneCell'=true
 mono:=λh ⟨h1,v,h2,h3,h4⟩=>⟨h1,v,h2,h3.mono h,h4⟩
 loc:=λ_ h=>h
def uX (e:TypeId) (sz:Nat) (es:List (List V)):Asn where
 P:=λvs I w bs=>∃v,vs=[v]/\(rI e sz es v).P [] I w bs
 mono:=λh ⟨v,h1,h2⟩=>⟨v,h1,(rI e sz es v).mono h h2⟩
 loc:=λh ⟨v,h1,h2⟩=>⟨v,h1,(rI e sz es v).loc h h2⟩
def hvOk (I:Imm) (j:Nat) (vs:List Value) (c:Value) (d:D):Prop:=match d with
 | .hv i k=>i=j/\vs[k]?=some c
 | d=>RepD I noMu c d
def Mw (A B:Asn) (A':Asn) (j b off:Nat) (ds:List D):Prop:=∀us vs I w b1 b2,A.P us I w b1->B.P vs I w b2->(∀b∈b1,b∉b2)->b∈b1/\∃cur t,w.heap[b]?=some (.cells cur t (0,0))/\off+ds.length<=cur.size /\
 ∀cs:List Value,cs.length=ds.length->(∀(i:Nat) (c:Value) (d:D),cs[i]?=some c->ds[i]?=some d->hvOk I j vs c d)->(∀c∈cs,c.oneCell'=true) ->
  ∃bs,(∀b∈bs,b∈b1\/b∈b2)/\A'.P [] I (w.setRow b (cur.toList.take off++cs++cur.toList.drop (off+ds.length)).toArray) bs
def Si (j:Nat):List D->Bool
 | []=>true
 | .hv i _::r=>Nat.beq i j&&Si j r
 | d::r=>(match IT d with | []=>true | _=>false)&&Si j r
structure PRj where
 b:Nat
 off:Nat
 ds:List D
 todo:List DI
def Vg (tt:TT) (env:Env) (id j id':Nat) (todo:List DI):Option PRj :=
 match Bh todo ([id,j],[id',id,j]) with
 | some (_,o,todo')=>match o.guard,o.dst,o.op with
  | none,none,.store t p x=>match lk tt t,DT env p,DT env x with
   | some i,some (.raw (.pointer (some ⟨b,off,none⟩))),some dx=>match Lt dx with
    | some ds=>match Nat.beq ds.length i.size,Si j ds with
     | true,true=>some ⟨b,off,ds,todo'⟩
     | _,_=>none
    | none=>none
   | _,_,_=>none
  | _,_,_=>none
 | none=>none
section
variable {P:Program} {n:Nat} {F:List Nat} {Q:DQ} {tt:TT} {env env':Env} {st st':St} {ids ids':List Nat} {k todo todo':List DI} {I J:Imm} {μ:Mu} {w:World} {a:Act} {d:D}
theorem Pr {v:Value} {es:List (List V)} (h:RepV I v (.sl es)):∃ad len cap,v = .slice ad len cap/\len<=cap/\len=es.length:=by
 cases h with
 | slnil=>exact ⟨_,_,_,rfl,B8 _,rfl⟩
 | sl0 ad=>exact ⟨_,_,_,rfl,B8 _,rfl⟩
 | sl b o len cap sz _ vs hl hc=>exact ⟨_,_,_,rfl,hc,hl⟩
theorem SD (htt:TTok P tt) {c:PA0} (h:sD tt n env todo=some c) (hk:G P n F Q c.todo (BD c.dst c.dx env) st ids):G P n F Q todo env st ids:=by
 have key:∀{todo':List DI} {o:Oper} {all:List Oper} {x y:Operand} {t e:TypeId} {dx:D} {es:List (List V)} {ti:TyI},Bh todo ([],[])=some (all,o,todo')->o.guard=none->o.op = .call { callee:=.builtin .append,args:=⟨[x,y]⟩,argTypes:=⟨[t,t]⟩ } ->
   P.underlying t=some (.slice e)->lk tt e=some ti->DT env x=some dx->DT env y=some (.imm (.sl []))->(∀I μ v,RepD I μ v dx->RepV I v (.sl es))->BB n o.dst=true->G P n F Q todo' (BD o.dst dx env) st ids->G P n F Q todo env st ids:=by
  intro todo' o all x y t e dx es ti h1 hg hop hu hi hx hy hd hdst hk;refine B9 (fr:=[]) (wr:=[]) (rd:=[]) h1 ?_ hdst (λc hc=>by rw [hop] at hc;cases hc) hk;intro I μ st1 ids1 a w hag hst hon;refine ⟨λ_=>?_,λhw=>by rw [AG hg] at hw;cases hw⟩;have hops:=Bd hon;rw [hop] at hops;have rx:=hops x (by simp [Op.operands,Call.operands]) _ hx;have ry:=(hops y (by simp [Op.operands,Call.operands]) _ hy).immInv;obtain ⟨ad,len,cap,e1,e2,_⟩:=Pr (hd _ _ _ rx);obtain ⟨ady,ly,capy,e3,e4,e5⟩:=Pr ry;obtain ⟨inf,z,z1,z2,z3,z4,z5,z6⟩:=(htt e ti hi).info;simp only [BX] at e5;subst e5;have hr:(Builtin.append_ #[t,t] o.type #[a.eval x,a.eval y]).run P w = .ok (a.eval x) w:=by
   rw [e1,e3];cases ad <;> cases ady <;> simp [Builtin.append_,run_underlying hu,sizeOf,typeInfo,z1,Builtin.lenOf,e2,Builtin.firstCells,loadCells,loadCellsFrom,storeCells]
  have hrun:(execOp a.eval o).run P w = .ok (.value (a.eval x)) w:=by
   simp only [execOp,hop,resolve,invoke,builtin,Sem.run_bind,Sem.run_pure,Result.andThen_ok,LM,Cz,HJ,hr]
  rw [hrun];exact ⟨I,μ,hst,rx,Mu.le_refl μ,Ext.refl _ _ _ _⟩
 unfold sD at h
 split at h
 ·rename_i all o todo' h1
  split at h
  ·rename_i x y t t' hg hop
   split at h
   ·rename_i e _ _ _ _ es htt' ht hx hy;have:=Cx htt';subst this
    split at h
    ·rename_i ti hi hd;cases h;exact key h1 hg hop (htt.sh ht) hi hx hy (λI μ v h=>by cases h;assumption) hd hk
    ·cases h
   ·rename_i e _ _ _ _ es htt' ht hx hy;have:=Cx htt';subst this
    split at h
    ·rename_i ti hi hd;cases h;exact key h1 hg hop (htt.sh ht) hi hx hy (λI μ v h=>h.immInv) hd hk
    ·cases h
   ·cases h
  ·cases h
 ·cases h
theorem mT {α:Type} {all rest:List Oper} {o:Oper} (f:α->D) (good:α->Prop) (hnd:∀c,o.op ≠ .defer c) (hg:o.guard=none) (hn:∀t,o.dst=some t->t<n)
  (hy:∀I μ a w,StRep I μ st ids w->D6 I μ env a o.op->∃x v,good x/\(execOp a.eval o).run P w = .ok (.value v) w/\RepD I μ v (f x))
  (h:∀x,good x->DGo P n F Q (.ops all rest::k) (BD o.dst (f x) env) st ids):DGo P n F Q (.ops all (o::rest)::k) env st ids:=by
 intro b cs I μ a w items hd hc;obtain ⟨j,is,rfl,hr,hk⟩:=H9 hd;obtain ⟨hj,hr'⟩:=D9 hr;have hon:IQ (o.looksAt all.toArray) I μ env a:=λt _ d hl=>hc.env t d hl;obtain ⟨x,v,hx,hrun,hv⟩:=hy I μ a w hc.toStRep (Bd hon);obtain ⟨p1,p2,p3⟩:=Hx (n:=n) (w:=w) (dst:=o.dst) (λt d hl=>hc.env t d hl) hc.size hn hv;have:=h x hx b cs I μ (a.put o.dst v) w (.inRegion all.toArray (List.range' (j+1) rest.length)::is) ⟨⟨rfl,j+1,hr',rfl⟩,hk⟩
  {hc.toStRep with size:=p2,env:=by cases hdst:o.dst <;> simpa [BD,hdst] using p1,defers:=by rw [p3];exact hc.defers }
 rw [p3] at this;have hlen:(o::rest).length=rest.length+1:=rfl;rw [hlen,NI];refine Fq hj (AG hg) hnd ?_;unfold Ny;rw [hrun];exact this
theorem Rw (m:Nat) {t e:TypeId} (hs:P.underlying t=some (.slice e)) (ad:Option Addr) (len cap:Nat):(Op.equalIn (m+1) t (.slice ad len cap) (.slice none 0 0)).run P w = .ok ad.isNone w:=by
 cases ad <;> simp [Op.equalIn,run_underlying hs]
theorem NY {t e:TypeId} (hs:P.underlying t=some (.slice e)) (ad:Option Addr) (len cap:Nat):(Op.equal t (.slice ad len cap) (.slice none 0 0)).run P w = .ok ad.isNone w:=Rw 9999 hs ad len cap
theorem KI {t e:TypeId} (hs:P.underlying t=some (.slice e)) (x y:Operand) (ad:Option Addr) (len cap:Nat) :
  (do eqGuard .eql t x y (.slice ad len cap) (.slice none 0 0);binOp .eql t (.slice ad len cap) (.slice none 0 0):Sem Value).run P w = .ok (.bool ad.isNone) w /\
  (do eqGuard .neq t x y (.slice ad len cap) (.slice none 0 0);binOp .neq t (.slice ad len cap) (.slice none 0 0):Sem Value).run P w = .ok (.bool (!ad.isNone)) w:=by
 constructor
 ·simp only [Sem.run_bind,Dp .eql t x y (.slice ad len cap) (.slice none 0 0) (by simp) (by simp),Result.andThen_ok,binOp,NY hs,Sem.run_pure]
 ·simp only [Sem.run_bind,Dp .neq t x y (.slice ad len cap) (.slice none 0 0) (by simp) (by simp),Result.andThen_ok,binOp,NY hs,Sem.run_pure]
theorem Kd (htt:TTok P tt) {all rest:List Oper} {o:Oper} {c:PEn} (h:wB tt n env (.ops all (o::rest)::k)=some c) (hk:∀b:Bool,(c.es≠[]->b = !c.eq)->DGo P n F Q c.todo (BD c.dst (.imm (.bool b)) env) st ids) :
  DGo P n F Q (.ops all (o::rest)::k) env st ids:=by
 unfold wB at h;simp only [Bh] at h;have hnone:∀{I:Imm} {v:Value} {es:List (List V)},RepV I v (.sl es)->∃ad len cap,v = .slice ad len cap/\(es≠[]->ad.isNone=false):=by
  intro I v es h;cases h with
  | slnil=>exact ⟨_,_,_,rfl,λh=>absurd rfl h⟩
  | sl0 ad=>exact ⟨_,_,_,rfl,λ_=>rfl⟩
  | sl b o len cap sz _ vs hl hc=>exact ⟨_,_,_,rfl,λ_=>rfl⟩
 split at h
 ·rename_i t x y t' hg hop
  split at h
  ·rename_i e _ _ _ _ es ht hx hy hd;cases h;have hn:∀t,o.dst=some t->t<n:=λt ht=>by
    unfold BB at hd;rw [ht] at hd;simpa [Ha] using hd
   refine mT (λb=>.imm (.bool b)) (λb=>es≠[]->b=false) (λc hc=>by rw [hop] at hc;cases hc) hg hn (λI μ a w hst hops=>?_) λb hb=>hk b hb;rw [hop] at hops;obtain ⟨ad,len,cap,e1,e2⟩:=hnone (hops x (by simp [Op.operands]) _ hx).immInv;have e3:a.eval y = .slice none 0 0:=by
    have:=hops y (by simp [Op.operands]) _ hy;generalize a.eval y=v at this;cases this;rfl
   refine ⟨ad.isNone,.bool ad.isNone,e2,?_,.imm _ _ (.bool _)⟩;simp only [execOp,hop,e1,e3];exact A6 (KI (htt.sh ht) x y ad len cap).1
  ·cases h
 ·rename_i t x y t' hg hop
  split at h
  ·rename_i e _ _ _ _ es ht hx hy hd;cases h;have hn:∀t,o.dst=some t->t<n:=λt ht=>by
    unfold BB at hd;rw [ht] at hd;simpa [Ha] using hd
   refine mT (λb=>.imm (.bool b)) (λb=>es≠[]->b=true) (λc hc=>by rw [hop] at hc;cases hc) hg hn (λI μ a w hst hops=>?_) λb hb=>hk b hb;rw [hop] at hops;obtain ⟨ad,len,cap,e1,e2⟩:=hnone (hops x (by simp [Op.operands]) _ hx).immInv;have e3:a.eval y = .slice none 0 0:=by
    have:=hops y (by simp [Op.operands]) _ hy;generalize a.eval y=v at this;cases this;rfl
   refine ⟨!ad.isNone,.bool (!ad.isNone),λh=>by rw [e2 h];rfl,?_,.imm _ _ (.bool _)⟩;simp only [execOp,hop,e1,e3];exact A6 (KI (htt.sh ht) x y ad len cap).2
  ·cases h
 ·cases h
theorem Oc (t j:Nat) {d0:D} {x:V} (ht:lk env t=some d0) (hd:oN d0=some x) (hx:V.one x=true) (h:DGo P n F Q todo ((t,.hv j 0)::env) ((j,some (.hp (vF x)))::st) ids'):DGo P n F Q todo env st (j::ids'):=by
 refine E2 λI μ a w hc=>?_;have hr:RepV I (a.tmps.getD t undef) x:=OC hd (hc.env t _ ht);have h1:=hr.one hx;obtain ⟨q1,q2,q3⟩:=StRep.relay (R:=[]) (new:=[(j,VU [a.tmps.getD t undef] [],.hp (vF x))]) (ids':=ids') hc.toStRep
  (λp hp b hb=>by rw [AO.1 hp] at hb;cases Cq.1 hb)
  (λp hp q hq b _ _=>by rw [AO.1 hp,AO.1 hq]) (Imm.le_refl I) hc.imm (λb o h=>.inl h)
  (λ_ p hp=>by rw [AO.1 hp];exact ⟨_,[],rfl,rfl,_,rfl,hr,h1⟩)
 refine ⟨I,_,_,_,ids',q2,λt' d hd=>?_,q3,.of_le q1,h⟩;by_cases e:t=t'
 ·subst e;rw [Ay] at hd;cases hd;exact .hv _ j 0 [a.tmps.getD t undef] [] (by simp [DP,lk]) rfl h1
 ·rw [A5 _ _ e] at hd;exact (hc.env t' d hd).mono (Imm.le_refl I) q1
theorem Wx (t id j:Nat) {len:Nat} {e:TypeId} {sz:Nat} {es:List (List V)} (ht:lk env t=some (.own id len)) (hl:lk st id=some (some (.row e sz es))) (h:DGo P n F Q todo ((t,.hv j 0)::env) ((j,some (.hp (uX e sz es)))::(id,none)::st) ids'):DGo P n F Q todo env st (j::ids'):=by
 refine E2 λI μ a w hc=>?_;obtain ⟨g,hg,xs,⟨_,hown⟩,hrep,hsz,hone,hp⟩:=hc.blk id _ hl;have hv:a.tmps.getD t undef=g:=by
  have:=hc.env t _ ht;generalize a.tmps.getD t undef=v at this;cases this with
  | own _ _ ad cap hm=>rw [hm] at hg;cases hg;rfl
 have hg1:g.oneCell'=true:=by
  rcases hown with ⟨rfl,_⟩ | ⟨b,cap,cur,rfl,_⟩ <;> rfl
 obtain ⟨bs,hP,hbs⟩:∃bs,(rI e sz es g).P [] I w bs/\∀b∈bs,Eb g b:=by
  rcases hown with ⟨rfl,h0⟩ | ⟨b,cap,cur,rfl,_,h2,h3,h4,h5,h6⟩
  ·exact ⟨[],.inl ⟨rfl,K5 h0,rfl⟩,λb hb=>by cases hb⟩
  ·rw [<- h6] at hrep;exact ⟨[b],.inr ⟨b,cap,cur,rfl,rfl,h2,h3,h4,h5,hrep,hsz,hone,hp⟩,λb hb=>by rw [AO.1 hb];rfl⟩
 obtain ⟨q1,q2,q3⟩:=StRep.relay (R:=[id]) (new:=[(j,VU [g] bs,.hp (uX e sz es))]) (ids':=ids') hc.toStRep
  (λp hp b hb=>by
   rw [AO.1 hp] at hb;exact ⟨id,_,_,by simp,hl,hg,hbs b (Cq.1 hb)⟩)
  (λp hp q hq b _ _=>by rw [AO.1 hp,AO.1 hq]) (Imm.le_refl I) hc.imm (λb o h=>.inl h)
  (λ_ p hp=>by rw [AO.1 hp];exact ⟨_,bs,rfl,_,rfl,hP⟩)
 refine ⟨I,_,_,_,ids',q2,λt' d hd=>?_,q3,.of_le q1,h⟩;by_cases e:t=t'
 ·subst e;rw [Ay] at hd;cases hd;rw [hv];exact .hv _ j 0 [g] bs (by simp [DP,lk]) rfl hg1
 ·rw [A5 _ _ e] at hd;exact (hc.env t' d hd).mono (Imm.le_refl I) q1
theorem Vo {j:Nat}:∀{ds:List D} {i:Nat} {d:D},Si j ds=true->ds[i]?=some d->(∃k,d = .hv j k)\/IT d=[]
 | [],i,d,_,h=>by simp at h
 | x::r,i,d,hn,h=>by
  cases i with
  | zero =>
   simp at h;subst h;cases x <;> simp only [Si,A1] at hn <;> first
    | exact .inl ⟨_,by rw [Cx hn.1]⟩
    | (right;revert hn;split <;> simp_all)
  | succ i =>
   refine Vo (ds:=r) (i:=i) ?_ (by simpa using h);cases x <;> simp only [Si,A1] at hn <;> exact hn.2
theorem SC (htt:TTok P tt) (id j id':Nat) {A B:Asn} (A':Asn) {c:PRj} (h:Vg tt env id j id' todo=some c) (hl:lk st id=some (some (.hp A))) (hlj:lk st j=some (some (.hp B))) (hne:id≠j) (hA:Mw A B A' j c.b c.off c.ds)
  (hk:G P n F Q c.todo env ((id',some (.hp A'))::(id,none)::(j,none)::st) ids'):G P n F Q todo env st (id'::ids'):=by
 unfold Vg at h
 split at h
 ·rename_i all o todo' h1
  split at h
  ·rename_i t p x hgd hdst hop
   split at h
   ·rename_i i b off dx ht hp hx
    split at h
    ·rename_i ds hds
     split at h
     ·rename_i hsz hnm;cases h;simp only at hA hk;have hk:G P n F Q todo' (BD o.dst .undef env) ([(id',some (.hp A')),(id,none),(j,none)]++st) ids':=by rw [hdst];exact hk
      refine B9 (fr:=[id']) (wr:=[(id',some (.hp A')),(id,none),(j,none)]) (rd:=[id,j]) h1 ?_ (by simp [BB,hdst]) (λc hc=>by rw [hop] at hc;cases hc) hk;intro I μ st1 ids1 a w hag hst hon;refine ⟨λ_=>?_,λhw=>by rw [AG hgd] at hw;cases hw⟩;have hops:=Bd hon;rw [hop] at hops;have rp:=(hops p (by simp [Op.operands]) _ hp).rawInv;obtain ⟨r1,r2⟩:=Jc hds (hops x (by simp [Op.operands]) _ hx);have hl1:Az st1 id (.hp A):=by unfold Az;rw [hag id (by simp)];exact hl
      have hl2:Az st1 j (.hp B):=by unfold Az;rw [hag j (by simp)];exact hlj
      obtain ⟨g1,hg1,us,b1,rfl,hP1⟩:=hst.blk id _ hl1;obtain ⟨g2,hg2,vs,b2,rfl,hP2⟩:=hst.blk j _ hl2;obtain ⟨k1,cur,bt,k2,k3,k4⟩:=hA us vs I w b1 b2 hP1 hP2 λb h1 h2=>hne (hst.inj id j _ _ _ _ b hl1 hl2 hg1 hg2 (Cq.2 h1) (Cq.2 h2));have hvl:(a.eval x).cells.toList.length=ds.length:=r1.1;have hs:=Cx hsz;have hrun:(execOp a.eval o).run P w = .ok .skip (w.setRow b (cur.toList.take off++(a.eval x).cells.toList++cur.toList.drop (off+(a.eval x).cells.toList.length)).toArray):=by
       simp only [execOp,hop,rp,Sem.run_bind,KR (htt t i ht) k2 (by rw [<- hs,<- hvl];simp) r2 (show off+(a.eval x).cells.toList.length<=cur.size by rw [hvl];exact k3),Result.andThen_ok,Sem.run_pure]
      rw [hrun,hvl];obtain ⟨bs,z1,z2⟩:=k4 (a.eval x).cells.toList hvl (λq c d hc hd=>by
       have hr:=r1.2 q c d hc hd;rcases Vo hnm hd with ⟨kk,rfl⟩ | hno
       ·cases hr with
        | hv _ _ _ us' bs' hm hi h1 =>
         rw [hg2] at hm;have:vs=us':=by
          simp only [VU,BT,Value.tuple.injEq,Array.mk.injEq,Ep,Value.agg.injEq,and_true] at hm;simpa using hm.1
         exact ⟨rfl,by rw [this];exact hi⟩
       ·have:RepD I noMu c d:=hr.sub λj hj=>by rw [hno] at hj;cases hj
        cases d <;> first | exact this | simp [IT] at hno) r2
      obtain ⟨p1,p2⟩:=hst.update (id:=id) (blk:=.hp A) (blk':=.hp { P:=λ_ _ w' bs'=>w'=w.setRow b (cur.toList.take off++(a.eval x).cells.toList++cur.toList.drop (off+ds.length)).toArray/\bs'=b1\/True,mono:=λ_ h=>h,loc:=λ_ _=>.inr trivial }) (g:=VU us b1) (b:=b) hl1 hg1 (Cq.2 k1) (w':=w.setRow b (cur.toList.take off++(a.eval x).cells.toList++cur.toList.drop (off+ds.length)).toArray) (setRow_size w b _) rfl rfl rfl (λk hk=>setRow_other w b k _ hk) ⟨us,b1,rfl,.inr trivial⟩;obtain ⟨q1,q2,q3⟩:=StRep.relay (R:=[id,j]) (new:=[(id',VU [] bs,.hp A')]) (ids':=ids1) p1
       (λp hp b hb=>by
        rw [AO.1 hp] at hb;rcases z1 b (Cq.1 hb) with h | h
        ·exact ⟨id,_,_,by simp,A9.2 (.inl ⟨rfl,rfl⟩),hg1,Cq.2 h⟩
        ·exact ⟨j,_,_,by simp,A9.2 (.inr ⟨λe=>hne e.symm,hl2⟩),hg2,Cq.2 h⟩)
       (λp hp q hq b _ _=>by rw [AO.1 hp,AO.1 hq]) (Imm.le_refl I) p1.imm (λb o h=>.inl h)
       (λ_ p hp=>by rw [AO.1 hp];exact ⟨[],bs,rfl,z2⟩)
      have hsame:∀i bb,Az ([(id',some (.hp A')),(id,none),(j,none)]++st1) i bb->Az (ND [(id',VU [] bs,Blk.hp A')]++(Cs [id,j]++(id,some (.hp { P:=λ_ _ w' bs'=>w'=w.setRow b (cur.toList.take off++(a.eval x).cells.toList++cur.toList.drop (off+ds.length)).toArray/\bs'=b1\/True,mono:=λ_ h=>h,loc:=λ_ _=>.inr trivial }))::st1)) i bb:=by
       intro i bb hlb;rcases A9.1 hlb with ⟨h1,h2⟩ | ⟨h1,h2⟩
       ·exact A9.2 (.inl ⟨h1,h2⟩)
       ·obtain ⟨h3,h4⟩:=BL.1 h2;obtain ⟨h5,h6⟩:=BL.1 h4;exact A9.2 (.inr ⟨h1,BL.2 ⟨h3,BL.2 ⟨h5,A9.2 (.inr ⟨h3,h6⟩)⟩⟩⟩)
      obtain ⟨y1,y2⟩:=q2.retell (st1:=[(id',some (.hp A')),(id,none),(j,none)]++st1) λi bb hlb=>⟨bb,hsame i bb hlb,λ_ h=>h⟩
      exact ⟨I,_,y1,.undef _,q1,(p2.trans q3).trans y2⟩
     ·cases h
    ·cases h
   ·cases h
  ·cases h
 ·cases h
end
end Go.Hk
namespace Go.Hk
open Go.Proofs
def oU (l:Str):Value:=.string ⟨l.toArray⟩
inductive An where
 | mk (s:Bool) (o n:Int) (x:Str) (v:Value) (ks:List An) (u:Value) (ps:List An)
 | im (s:Bool) (cs:List Value) (c:List V)
mutual
def vA:An->List V
 | .mk s o n x _ ks _ ps=>match s with
  | true=>[.int .i64 o,.int .i64 n,.str x,.sl (sX ks),.sl (sX ps)]
  | false=>[.int .i64 o,.int .i64 n,.str x,.sl (sX ks)]
 | .im _ _ c=>c
def sX:List An->List (List V)
 | []=>[]
 | a::r=>vA a::sX r
end
theorem fZ:∀l:List An,sX l=l.map vA
 | []=>rfl
 | a::r=>by simp [sX,fZ r]
@[simp] theorem vAs_length (l:List An):(sX l).length=l.length:=by rw [fZ];simp
mutual
def wI:An->Prop
 | .mk _ _ _ _ _ ks _ ps=>YM ks/\YM ps
 | .im _ _ _=>False
def YM:List An->Prop
 | []=>True
 | a::r=>wI a/\YM r
end
def Ff:Value->Nat
 | .slice (some a) _ _=>a.block
 | _=>0
def GX (v:Value):Nat->List Nat
 | 0=>[]
 | _+1=>[Ff v]
def UX (w:World) (ty:TypeId) (sz:Nat) (v:Value) (len:Nat):Prop :=
 (len=0/\(∃a c,v = .slice a 0 c)/\∀I,RepV I v (.sl [])) \/
 (0<len/\∃b cap cur,v = .slice (some ⟨b,0,none⟩) len cap/\w.heap[b]?=some (.cells cur ty (0,0))/\len<=cap/\cap<=maxLen/\cur.size=cap*sz)
def rE (w:World) (b off:Nat) (cs:List Value):Prop:=∃cur ty k,w.heap[b]?=some (.cells cur ty k)/\∀(j:Nat) (c:Value),cs[j]?=some c->cur[off+j]?=some c
theorem UW {w w':World} {ty:TypeId} {sz:Nat} {v:Value} {len:Nat} (h:∀k∈GX v len,w'.heap[k]?=w.heap[k]?) (hr:UX w ty sz v len):UX w' ty sz v len:=by
 rcases hr with hr | ⟨h0,b,cap,cur,rfl,h1,h2⟩
 ·exact .inl hr
 ·refine .inr ⟨h0,b,cap,cur,rfl,(h b ?_).trans h1,h2⟩;cases len with
  | zero=>omega
  | succ n=>simp [GX,Ff]
theorem rC {w w':World} {b off:Nat} {cs:List Value} (h:w'.heap[b]?=w.heap[b]?) (ha:rE w b off cs):rE w' b off cs:=by
 obtain ⟨cur,ty,k,h1,h2⟩:=ha;exact ⟨cur,ty,k,h.trans h1,h2⟩
theorem UV {w:World} {ty:TypeId} {sz:Nat} {v:Value} {len:Nat} (h:UX w ty sz v len):v.oneCell'=true:=by
 rcases h with ⟨_,⟨a,c,rfl⟩,_⟩ | ⟨_,b,cap,cur,rfl,_⟩ <;> rfl
theorem RepV.encStr (I:Imm) (l:List UInt8):RepV I (oU l) (.str l):=.str _ _ (by simp)
theorem MD {w:World} {b off:Nat} {cur:Array Value} {ty:TypeId} {k:Nat×Nat} {cs:List Value} (h:w.heap[b]?=some (.cells cur ty k)) :
  (w.setRow b (cur.toList.take off++cs++cur.toList.drop (off+cs.length)).toArray).heap[b]?=some (.cells (cur.toList.take off++cs++cur.toList.drop (off+cs.length)).toArray ty k):=setRow_heap w b cur _ ty k h
theorem Po {cur:List Value} {off:Nat} {cs:List Value} (hf:off+cs.length<=cur.length) (i:Nat) :
  (cur.take off++cs++cur.drop (off+cs.length))[i]?=if i<off then cur[i]? else if i<off+cs.length then cs[i-off]? else cur[i]?:=by
 rw [CE,Le,Gx,Sn (by omega)];by_cases h:i<off
 ·rw [if_pos h,if_pos h,Dr,if_pos h]
 ·rw [if_neg h,if_neg h,Le];by_cases h2:i<off+cs.length
  ·rw [if_pos h2,if_pos (by omega)]
  ·rw [if_neg h2,if_neg (by omega),EB];congr 1;omega
theorem rD {w:World} {b off:Nat} {cur:Array Value} {ty:TypeId} {k:Nat×Nat} {cs:List Value} (h:w.heap[b]?=some (.cells cur ty k)) (hf:off+cs.length<=cur.size) :
  rE (w.setRow b (cur.toList.take off++cs++cur.toList.drop (off+cs.length)).toArray) b off cs:=by
 refine ⟨_,ty,k,MD h,λj c hj=>?_⟩;have hlt:=(AJ.1 hj).1;have:=Po (cur:=cur.toList) (off:=off) (cs:=cs) (by simpa using hf) (off+j);rw [if_neg (by omega),if_pos (by omega),kE,hj] at this;simpa using this
theorem nH {w:World} {b off off1:Nat} {cur:Array Value} {ty:TypeId} {k:Nat×Nat} {cs cs1:List Value} (h:w.heap[b]?=some (.cells cur ty k)) (hf:off+cs.length<=cur.size) (ha:rE w b off1 cs1) (hd:off1+cs1.length<=off\/off+cs.length<=off1) :
  rE (w.setRow b (cur.toList.take off++cs++cur.toList.drop (off+cs.length)).toArray) b off1 cs1:=by
 obtain ⟨cur',ty',k',h1,h2⟩:=ha;rw [h] at h1;cases h1;refine ⟨_,ty,k,MD h,λj c hj=>?_⟩;have hlt:=(AJ.1 hj).1;have h3:=h2 j c hj;have:=Po (cur:=cur.toList) (off:=off) (cs:=cs) (by simpa using hf) (off1+j);rcases hd with hd | hd
 ·rw [if_pos (by omega)] at this;simpa [h3] using this
 ·rw [if_neg (by omega),if_neg (by omega)] at this;simpa [h3] using this
theorem RepV.strEq {I:Imm} {v:Value} {l:List UInt8} (h:RepV I v (.str l)):v=oU l:=by
 cases h with
 | str s _ hs =>
  subst hs;obtain ⟨⟨l⟩⟩:=s;rfl
end Go.Hk
namespace Go.Hk
section
variable {P:Program} {n:Nat} {F:List Nat} {Q:DQ} {tt:TT} {env env':Env} {st st':St} {ids ids':List Nat} {k todo todo':List DI} {I J:Imm} {μ:Mu} {w:World} {a:Act} {d:D}
theorem IG {α:Type} (id:Nat) {A:Asn} (B:α->Asn) (hl:lk st id=some (some (.hp A))) (hA:∀vs I w bs,A.P vs I w bs->∃x,(B x).P vs I w bs)
  (h:∀x,DGo P n F Q todo env ((id,some (.hp (B x)))::st) ids):DGo P n F Q todo env st ids:=by
 refine E2 λI μ a w hc=>?_;obtain ⟨g,hg,vs,bs,rfl,hP⟩:=hc.blk id _ hl;obtain ⟨x,hx⟩:=hA vs I w bs hP;have hlive:∀i b,Az ((id,some (.hp (B x)))::st) i b->(i=id/\b = .hp (B x))\/(i≠id/\Az st i b):=λi b hl=>by
  rcases A9.1 hl with ⟨rfl,rfl⟩ | h
  ·exact .inl ⟨rfl,rfl⟩
  ·exact .inr h
 have hold:∀i b,Az ((id,some (.hp (B x)))::st) i b->∃b0,Az st i b0:=λi b hl=>by
  rcases hlive i b hl with ⟨rfl,_⟩ | ⟨_,h⟩
  ·exact ⟨_,‹lk st i=_›⟩
  ·exact ⟨_,h⟩
 refine ⟨I,μ,env,_,ids,{ imm:=hc.imm,blk:=λi b hlb=>?_,apart:=λi b g k hlb hg' hk=>?_,inj:=λi j bi bj gi gj k hi hj=>?_,nodup:=hc.nodup,idsFree:=hc.idsFree },λt d hd=>hc.env t d hd,?_,Pin.refl _ _,h x⟩
 ·rcases hlive i b hlb with ⟨rfl,rfl⟩ | ⟨_,h⟩
  ·exact ⟨_,hg,vs,bs,rfl,hx⟩
  ·exact hc.blk i b h
 ·obtain ⟨b0,h0⟩:=hold i b hlb;exact hc.apart i b0 g k h0 hg' hk
 ·obtain ⟨b0,h0⟩:=hold i bi hi;obtain ⟨b1,h1⟩:=hold j bj hj;exact hc.inj i j b0 b1 gi gj k h0 h1
 ·exact { imm:=Imm.le_refl I,os:=rfl,tape:=rfl,output:=rfl,size:=B8 _,block:=λ_ _ _=>rfl,old:=λ_ _ _=>rfl
          fresh:=λb _ ⟨i,bi,g,h1,h2⟩=>let ⟨b0,q⟩:=hold i bi h1;⟨i,b0,g,q,h2⟩ }
end
end Go.Hk
namespace Go.Hk
open Go.Proofs
end Go.Hk
namespace Go.Hk
mutual
theorem OZ:∀(t:Ty) (l:Int),(Bv t:Int)<=l->0<=BQ t l
 | .mk _ _ _ ps,l,h=>by
  simp only [Bv] at h;simp only [BQ];rw [if_neg (by omega)];exact Nt ps (l-1) (by omega)
theorem Nt:∀(ts:List Ty) (l:Int),(A0 ts:Int)<=l->0<=BV ts l
 | [],l,h=>by simpa [BV,A0] using h
 | t::r,l,h=>by
  simp only [A0] at h;simp only [BV];rw [if_pos (by omega)];have h1:=OZ t l (by omega);have h2:=EJ t l h1;exact Nt r _ (by omega)
end
theorem bD (t:Ty) (l:Nat):decide (0<=BQ t l)=decide (Bv t<=l):=by
 by_cases h:Bv t<=l
 ·rw [decide_eq_true h,decide_eq_true (OZ t l (by omega))]
 ·rw [decide_eq_false h];refine decide_eq_false λh1=>h ?_;have:=EJ t l h1;omega
theorem NX (t:Ty):AH true t=IZ t:=by
 simp only [AH,IZ];rw [<- bD t 12];rfl
end Go.Hk
namespace Go.Hk
open Go.Proofs
end Go.Hk
namespace Go.Hk
theorem Wg:∀(vs pre post:List Value),post.length=vs.length->(∀v∈vs,v.oneCell'=true) ->
  Instr.fill (λi=>some (i*1,1)) (pre++post).toArray (vs.zipIdx pre.length |>.map λp=>(p.2,p.1))=some (pre++vs).toArray
 | [],pre,post,h,_=>by
  have:post=[]:=K5 h;subst this;rfl
 | v::r,pre,post,h,h1=>by
  cases post with
  | nil=>simp at h
  | cons p q =>
   have hc:=GO (h1 v (by simp));simp only [jV,Cz,Instr.fill,hc];rw [if_neg (by simp)];have ih:=Wg r (pre++[v]) q (by simpa using h) (λu hu=>h1 u (by simp [hu]));simp only [Bw,Dh,BX,CE,Db,Jp] at ih;rw [<- ih];congr 1;simp [Nat.mul_one]
def Ji (env:Env):Nat->List (Nat×Operand)->Option (List D)
 | _,[]=>some []
 | i,(j,x)::r=>match Nat.beq i j,DT env x,Ji env (i+1) r with
  | true,some d,some ds=>match d.one with
   | true=>some (d::ds)
   | false=>none
  | _,_,_=>none
structure PBa where
 ds:List D
 dst:Option Nat
 todo:List DI
section
variable {P:Program} {n:Nat} {F:List Nat} {Q:DQ} {tt:TT} {env env':Env} {st st':St} {ids ids':List Nat} {k todo todo':List DI} {I J:Imm} {μ:Mu} {w:World} {a:Act} {d:D}
theorem NB {a:Act}:∀{ps:List (Nat×Operand)} {i:Nat} {ds:List D},Ji env i ps=some ds->(∀x∈ps.map (·.2),∀d,DT env x=some d->RepD I μ (a.eval x) d) ->
  ps.map (λp=>(p.1,a.eval p.2))=((ps.map λp=>a.eval p.2).zipIdx i).map (λp=>(p.2,p.1))/\RepL I μ (ps.map λp=>a.eval p.2) ds/\∀v∈ps.map (λp=>a.eval p.2),v.oneCell'=true
 | [],i,ds,h,_=>by
  simp only [Ji,BT] at h;subst h;exact ⟨rfl,⟨rfl,λi v d h=>by simp at h⟩,λv h=>by simp at h⟩
 | (j,x)::r,i,ds,h,hx=>by
  simp only [Ji] at h
  split at h
  ·rename_i d ds' hj hd hr
   split at h
   ·rename_i h1;cases h;have hj:=Cx hj;subst hj;have hv:=hx x (by simp) d hd;obtain ⟨q1,q2,q3⟩:=NB (a:=a) hr (λy hy=>hx y (by simp at hy ⊢;exact .inr hy));refine ⟨by simp [q1],⟨by simp [q2.1],λk v d' h1 h2=>?_⟩,λv hv'=>?_⟩
    ·cases k with
     | zero=>simp at h1 h2;rw [<- h1,<- h2];exact hv
     | succ k=>exact q2.2 k v d' (by simpa using h1) (by simpa using h2)
    ·simp only [Cz,CC] at hv';rcases hv' with rfl | hv'
     ·exact hv.one h1
     ·exact q3 v hv'
   ·cases h
  ·cases h
end
end Go.Hk
namespace Go.Hk
open Go.Proofs
section
variable {n:Nat} {F:List Nat} {Q:DQ} {env env':Env} {st st':St} {ids ids':List Nat} {k todo:List DI} {ob:List Prop}
end
end Go.Hk
namespace Go.Hk
section
variable {P:Program} {n:Nat} {F:List Nat} {Q:DQ} {tt:TT} {env env':Env} {st st':St} {ids ids':List Nat} {todo:List DI} {I J:Imm} {μ:Mu} {w:World} {a:Act} {d:D}
end
end Go.Hk
namespace Go.Hk
open Go.Proofs
structure Upd (w w':World) (b off sz:Nat):Prop where
 other:∀k,k≠b->w'.heap[k]?=w.heap[k]?
 same:∀cur ty k,w.heap[b]?=some (.cells cur ty k)->∃cur',w'.heap[b]?=some (.cells cur' ty k)/\cur'.size=cur.size/\∀i,(i<off\/off+sz<=i)->cur'[i]?=cur[i]?
theorem Upd.row {w w':World} {b off sz:Nat} (h:Upd w w' b off sz) {ty:TypeId} {s:Nat} {v:Value} {len:Nat} (hr:UX w ty s v len):UX w' ty s v len:=by
 rcases hr with hr | ⟨h0,b',cap,cur,rfl,h1,h2,h3,h4⟩
 ·exact .inl hr
 ·by_cases e:b'=b
  ·subst e;obtain ⟨cur',q1,q2,_⟩:=h.same cur ty (0,0) h1;exact .inr ⟨h0,b',cap,cur',rfl,q1,h2,h3,by rw [q2,h4]⟩
  ·exact .inr ⟨h0,b',cap,cur,rfl,(h.other b' e).trans h1,h2,h3,h4⟩
theorem Upd.at {w w':World} {b off sz:Nat} (h:Upd w w' b off sz) {b1 off1:Nat} {cs:List Value} (ha:rE w b1 off1 cs) (hd:b1=b->off1+cs.length<=off\/off+sz<=off1):rE w' b1 off1 cs:=by
 obtain ⟨cur,ty,k,h1,h2⟩:=ha;by_cases e:b1=b
 ·subst e;obtain ⟨cur',q1,q2,q3⟩:=h.same cur ty k h1;refine ⟨cur',ty,k,q1,λj c hj=>?_⟩;have hlt:=(AJ.1 hj).1;rw [q3 (off1+j) (by rcases hd rfl with h | h <;> omega)];exact h2 j c hj
 ·exact ⟨cur,ty,k,(h.other b1 e).trans h1,h2⟩
def sR (l:List Int):List (List V):=l.map λx=>[.int .i64 x]
@[simp] theorem dInts_length (l:List Int):(sR l).length=l.length:=by simp [sR]
def zTm:Tm:=.mk 0 0 [] [] []
mutual
def Hq:Ty->Ty->Bool
 | .mk s n x ps,.mk s' n' x' ps'=>s == s'&&n == n'&&x == x'&&Et ps ps'
def Et:List Ty->List Ty->Bool
 | [],[]=>true
 | a::r,b::q=>Hq a b&&Et r q
 | _,_=>false
end
mutual
theorem Q3:∀a b:Ty,Hq a b=true↔a=b
 | .mk s n x ps,.mk s' n' x' ps'=>by
  simp only [Hq,A1,beq_iff_eq,Ty.mk.injEq,JZ ps ps',and_assoc]
theorem JZ:∀a b:List Ty,Et a b=true↔a=b
 | [],[]=>by simp [Et]
 | a::r,b::q=>by simp only [Et,A1,Q3 a b,JZ r q,Ep]
 | [],_::_=>by simp [Et]
 | _::_,[]=>by simp [Et]
end
theorem Nf {a b:List Ty} (h:a.length≠b.length):Et a b=false:=by
 cases he:Et a b with
 | false=>rfl
 | true=>exact absurd (congrArg List.length ((JZ a b).1 he)) h
end Go.Hk
namespace Go.Hk
def RR:V->Bool
 | .bool _ | .int .. | .str _=>true
 | _=>false
def Tl:List V->Bool
 | []=>true
 | x::r=>RR x&&Tl r
section
variable {P:Program} {I J:Imm} {μ ν:Mu} {st:St} {w:World}
theorem bW {v:Value} {x:V} (h:RR x=true) (hr:RepV J v x):RepV I v x:=by
 cases hr <;> first | (simp [RR] at h;done) | constructor <;> assumption
end
end Go.Hk
namespace Go.Hk
section
variable {P:Program} {n:Nat} {F:List Nat} {Q:DQ} {todo:List DI} {env:Env} {st:St} {ids':List Nat}
theorem Gf (t j:Nat) {e:TypeId} {sz:Nat} (hsz:0<sz) (ht:lk env t=some .nils) (h:DGo P n F Q todo ((t,.own j 0)::env) ((j,some (.row e sz []))::st) ids'):DGo P n F Q todo env st (j::ids'):=by
 refine E2 λI μ a w hc=>?_;have hv:a.tmps.getD t undef = .slice none 0 0:=by
  have:=hc.env t _ ht;generalize a.tmps.getD t undef=v at this;cases this with
  | nils=>rfl
 obtain ⟨q1,q2,q3⟩:=StRep.relay (R:=[]) (new:=[(j,.slice none 0 0,.row e sz [])]) (ids':=ids') hc.toStRep
  (λp hp b hb=>by rw [AO.1 hp] at hb;exact hb.elim)
  (λp hp q hq b _ _=>by rw [AO.1 hp,AO.1 hq]) (Imm.le_refl I) hc.imm (λb o h=>.inl h)
  (λ_ p hp=>by
   rw [AO.1 hp];exact ⟨[],World.ownsRow_nil w _ e sz,⟨rfl,λi v x h _=>by simp at h⟩,λ_ h=>by simp at h,λ_ h=>by simp at h,hsz⟩)
 refine ⟨I,_,_,_,ids',q2,λt' d hd=>?_,q3,.of_le q1,h⟩;by_cases e:t=t'
 ·subst e;rw [Ay] at hd;cases hd;rw [hv];exact .own j 0 none 0 (by simp [DP,lk])
 ·rw [A5 _ _ e] at hd;exact (hc.env t' d hd).mono (Imm.le_refl I) q1
end
end Go.Hk
namespace Go.Hk
section
variable {P:Program} {I J:Imm} {μ ν:Mu} {w:World}
theorem kP {g:Value} {e:TypeId} {sz:Nat} {es:List (List V)} (h:BlkRep I μ w g (.row e sz es)) (hle:I.le J) (hb:∀b,Eb g b->J b=w.heap[b]?):RepV J g (.sl es):=by
 obtain ⟨xs,hown,hrep,hsz,hone,hp⟩:=h;rcases hown.2 with ⟨rfl,h0⟩ | ⟨gb,cap,cur,rfl,_,hheap,hle2,hcm,hcs,htake⟩
 ·have:es=[]:=K5 h0;subst this;exact .slnil
 ·have hJg:J gb=some (.cells cur e (0,0)):=(hb gb rfl).trans hheap;have hcell:∀(i:Nat) (c:List V) (j:Nat) (x:V),es[i]?=some c->c[j]?=some x->∃v,xs[i*sz+j]?=some v/\cur[i*sz+j]?=some v/\RepV I v x/\v.oneCell'=true:=by
   intro i c j x hi hj;have h1:=Cu hsz i c j x hi hj;have hlt:i*sz+j<xs.length:=by rw [hrep.1];exact (AJ.1 h1).1
   obtain ⟨v,hv⟩:∃v,xs[i*sz+j]?=some v:=⟨_,Bi hlt⟩
   have hr:=hrep.2 _ _ _ hv h1;refine ⟨v,hv,?_,hr,?_⟩
   ·rw [<- htake,Dr] at hv
    split at hv
    ·simpa using hv
    ·cases hv
   ·have:=hone c (AF hi) x (AF hj);exact hr.one this
  refine .sl gb 0 _ cap sz es (λi j=>(cur[i*sz+j]?).getD undef) rfl hle2 hcm hsz (λi c j x hi hj=>?_) (λi c j x hi hj=>?_)
  ·obtain ⟨v,_,h2,_,h4⟩:=hcell i c j x hi hj;simp [Imm.cell,hJg,h2,h4]
  ·obtain ⟨v,_,h2,h3,_⟩:=hcell i c j x hi hj;simp only [h2,LN];exact h3.mono hle
end
end Go.Hk
namespace Go.Hk
def WL (w:World):Imm:=λb=>w.heap[b]?
def LK (k:D->Option V):List D->Option (List V)
 | []=>some []
 | d::r=>match k d,LK k r with
  | some x,some xs=>some (x::xs)
  | _,_=>none
def Ms (k:D->List Nat):List D->List Nat
 | []=>[]
 | d::r=>k d++Ms k r
def F6 (st:St):Nat->D->Option V
 | 0,_=>none
 | f+1,d=>match d with
  | .imm x=>some x
  | .nils=>some (.sl [])
  | .ip t cs off=>some (.ip t cs off)
  | .clip es=>some (.sl es)
  | .own id _=>match lk st id with
   | some (some (.row _ _ es))=>some (.sl es)
   | _=>none
  | .mapr id=>match lk st id with
   | some (some (.map kv))=>some (.mapv kv)
   | _=>none
  | .ref id off=>match lk st id with
   | some (some (.immb t _ xs))=>some (.ip t xs off)
   | some (some (.cells t _ ds))=>match LK (F6 st f) ds with
    | some xs=>some (.ip t xs off)
    | none=>none
   | _=>none
  | .agg ds=>match LK (F6 st f) ds with
   | some xs=>some (.agg xs)
   | none=>none
  | .fn g a b=>match LK (F6 st f) a,LK (F6 st f) b with
   | some xs,some ys=>some (.clo g xs ys)
   | _,_=>none
  | _=>none
def F7 (st:St):Nat->D->List Nat
 | 0,_=>[]
 | f+1,d=>match d with
  | .own id _=>[id]
  | .mapr id=>[id]
  | .ref id _=>match lk st id with
   | some (some (.cells _ _ ds))=>id::Ms (F7 st f) ds
   | _=>[id]
  | .agg ds=>Ms (F7 st f) ds
  | .fn _ a b=>Ms (F7 st f) a++Ms (F7 st f) b
  | _=>[]
structure nU where
 f:FuncId
 vs:List V
 rd:List Nat
 g:Option (Bool×Bool)
 ob:List Prop
 dst:Option Nat
 todo:List DI
def Xy (n:Nat) (st:St) (all:List Oper) (o:Oper) (env:Env) (todo:List DI) (f:FuncId) (a b:List D) (args:List Operand):Option nU :=
 match Ca all env o with
 | some g=>match HL (Am g) env args with
  | some (ds,ob)=>match LK (F6 st 6) (a++ds++b),BB n o.dst with
   | some vs,true=>match Bh todo (Ms (F7 st 6) (a++ds++b),[]) with
    | some (_,_,todo')=>match o.dst with
     | some t=>some ⟨f,vs,Ms (F7 st 6) (a++ds++b),g,ob,some t,todo'⟩
     | none=>some ⟨f,vs,Ms (F7 st 6) (a++ds++b),g,ob,none,todo'⟩
    | none=>none
   | _,_=>none
  | none=>none
 | none=>none
def iO (n:Nat) (env:Env) (st:St) (todo:List DI):Option nU :=
 match Bh todo ([],[]) with
 | some (all,o,_)=>match o.op with
  | .call { callee:=.value (.func f),args:=⟨args⟩,.. }=>Xy n st all o env todo f [] [] args
  | .call { callee:=.value (.tmp t),args:=⟨args⟩,.. }=>match lk env t with
   | some (.imm (.fn (.func f)))=>Xy n st all o env todo f [] [] args
   | some (.imm (.clo (.func f) a b))=>Xy n st all o env todo f (a.map .imm) (b.map .imm) args
   | some (.fn (.func f) a b)=>Xy n st all o env todo f a b args
   | _=>none
  | _=>none
 | none=>none
def Zx:V->Bool
 | .tup xs=>Tl xs
 | x=>RR x
section
variable {P:Program} {n:Nat} {F:List Nat} {Q:DQ} {tt:TT} {env env':Env} {st st':St} {ids ids':List Nat} {k todo todo':List DI} {I J:Imm} {μ:Mu} {w:World} {a:Act} {Pn:V->Prop} {d:D} {cx:Prop} {ob:List Prop}
theorem bV {v:Value} {x:V} (h:Zx x=true) (hr:RepV J v x):RepV I v x:=by
 cases hr with
 | tup cs xs hl hh =>
  refine .tup cs xs hl λi c x hc hx=>?_;have hm:∀{xs:List V} {i:Nat} {x:V},Tl xs=true->xs[i]?=some x->RR x=true:=by
   intro xs
   induction xs with
   | nil=>intro i x _ h;simp at h
   | cons y r ih =>
    intro i x hs h;simp only [Tl,A1] at hs;cases i with
    | zero=>simp at h;subst h;exact hs.1
    | succ i=>exact ih hs.2 (by simpa using h)
  exact bW (hm h hx) (hh i c x hc hx)
 | bool b=>exact .bool b
 | int k n=>exact .int k n
 | str s l hs=>exact .str s l hs
 | _=>simp [Zx,RR] at h
theorem HW {q:D->Option V} {μ:Mu} (hq:∀d x v,q d=some x->RepD I μ v d->RepV J v x):∀{vs:List Value} {ds:List D} {xs:List V},LK q ds=some xs->RepL I μ vs ds->RepVL J vs xs
 | [],ds,xs,h,hr=>by
  cases ds with
  | nil=>cases h;exact .nil
  | cons d ds=>simp [RepL] at hr
 | v::vs,ds,xs,h,hr=>by
  cases ds with
  | nil=>simp [RepL] at hr
  | cons d ds =>
   obtain ⟨h1,h2⟩:=hr.cons;simp only [LK] at h
   split at h
   ·cases h;exact .mk (hq _ _ _ (by assumption) h1) (HW hq (by assumption) h2)
   ·cases h
theorem RA (hst:StRep I μ st ids w):∀(f:Nat) (d:D) (x:V) (v:Value),F6 st f d=some x->RepD I μ v d->RepV (WL w) v x
 | 0,_,_,_,h,_=>by simp [F6] at h
 | f+1,d,x,v,h,hr=>by
  have hle:I.le (WL w):=λb o h=>hst.imm b o h;have ih:=RA hst f;simp only [F6] at h
  split at h
  ·cases h;exact hr.immInv.mono hle
  ·cases h;cases hr;exact .slnil
  ·cases h;exact hr.ipV.mono hle
  ·cases h;cases hr with
   | clip a len es h=>exact h.mono hle
  ·split at h
   ·rename_i hl;cases h;cases hr with
    | own id len a cap hm =>
     obtain ⟨g,hg,hb⟩:=hst.blk _ _ hl;rw [hm] at hg;cases hg;exact kP hb hle λb _=>rfl
   ·cases h
  ·split at h
   ·rename_i hl;cases h;cases hr with
    | mapr id b hm =>
     obtain ⟨g,hg,b',es,clock,rfl,h1,h2,h3,h4⟩:=hst.blk _ _ hl;rw [hm] at hg;cases hg;exact .mapv b es clock _ h1 h2 h3 (λi e p q1 q2=>(h4 i e p q1 q2).1.mono hle) (λi e p q1 q2=>(h4 i e p q1 q2).2.mono hle)
   ·cases h
  ·have fin:∀{t:TypeId} {off:Nat} {vs:Array Value} {xs:List V} {gb:Nat},v = .pointer (some ⟨gb,off,none⟩)->w.heap[gb]?=some (.cells vs t (0,0))->RepVL (WL w) vs.toList xs->(∀v∈vs.toList,v.oneCell'=true)->RepV (WL w) v (.ip t xs off):=by
    intro t off vs xs gb hv hheap hrep hone;subst hv;have:=RepV.ip (I:=WL w) gb 0 t xs off (λj=>(vs[j]?).getD undef) (λj x hx=>?_) (λj x hx=>?_)
    ·simpa using this
    ·have hj:j<vs.size:=by have:=hrep.1;have:=(AJ.1 hx).1;simp at *;omega
     have:WL w gb=some (.cells vs t (0,0)):=hheap;simp only [Imm.cell,this,Di,Ox hj,LN,true_and];exact hone _ (by simp)
    ·have hj:j<vs.size:=by have:=hrep.1;have:=(AJ.1 hx).1;simp at *;omega
     simp only [Ox hj,LN];exact hrep.2 j _ x (by simp [hj]) hx
   split at h
   ·rename_i hl;cases h;cases hr with
    | ref b id off hm =>
     obtain ⟨g,hg,hs,gb,vs,rfl,hheap,hrep,hone⟩:=hst.blk _ _ hl;rw [hm] at hg;cases hg;exact fin rfl hheap (hrep.mono hle) hone
   ·rename_i hl
    split at h
    ·rename_i xs hx;cases h;cases hr with
     | ref b id off hm =>
      obtain ⟨g,hg,hs,gb,vs,rfl,hheap,hrep,hone⟩:=hst.blk _ _ hl;rw [hm] at hg;cases hg;exact fin rfl hheap (HW ih hx hrep) hone
    ·cases h
   ·cases h
  ·split at h
   ·rename_i xs hx;cases h;cases hr with
    | agg cs ds hl h1 hh =>
     have:=HW (vs:=cs.toList) ih hx ⟨by simpa using hl,λi v d h1 h2=>hh i v d (by simpa using h1) h2⟩;exact .agg cs xs (by simpa using this.1) h1 λi c x h1 h2=>this.2 i c x (by simpa using h1) h2
   ·cases h
  ·split at h
   ·rename_i xs ys hx hy;cases h;cases hr with
    | fn _ first cap df dc hf hc h1 h2 =>
     have q1:=HW (vs:=first.toList) ih hx ⟨by simpa using hf,λi v d e1 e2=>h1 i v d (by simpa using e1) e2⟩;have q2:=HW (vs:=cap.toList) ih hy ⟨by simpa using hc,λi v d e1 e2=>h2 i v d (by simpa using e1) e2⟩;exact .clo _ first cap xs ys (by simpa using q1.1) (by simpa using q2.1) (λi c x h1 h2=>q1.2 i c x (by simpa using h1) h2) (λi c x h1 h2=>q2.2 i c x (by simpa using h1) h2)
   ·cases h
  ·cases h
theorem Agree.sub {r s:List Nat} (h:Agree r st st') (hs:∀i∈s,i∈r):Agree s st st':=λi hi=>h i (hs i hi)
theorem FK {q q':D->Option V} {r:D->List Nat} (h:∀d,Agree (r d) st st'->q' d=q d):∀{ds:List D},Agree (Ms r ds) st st'->LK q' ds=LK q ds
 | [],_=>rfl
 | d::l,ha=>by
  simp only [LK];rw [h d (ha.sub λi hi=>by simp [Ms,hi]),FK h (ha.sub λi hi=>by simp [Ms,hi])]
theorem Nv {st st':St}:∀(f:Nat) (d:D),Agree (F7 st f d) st st'->F6 st' f d=F6 st f d
 | 0,_,_=>rfl
 | f+1,d,h=>by
  have ih:=Nv (st:=st) (st':=st') f;cases d with
  | own id n =>
   simp only [F6];rw [h id (by simp [F7])]
  | mapr id =>
   simp only [F6];rw [h id (by simp [F7])]
  | ref id off =>
   have hid:lk st' id=lk st id:=h id (by simp only [F7];split <;> simp);simp only [F6];rw [hid]
   split
   ·rfl
   ·rename_i ds hl;rw [FK ih (h.sub λi hi=>by simp only [F7,hl];simp [hi])]
   ·rfl
  | agg ds =>
   simp only [F6];rw [FK ih (h.sub λi hi=>by simp only [F7];exact hi)]
  | fn g a b =>
   simp only [F6];rw [FK ih (h.sub λi hi=>by simp only [F7];simp [hi]),FK ih (h.sub λi hi=>by simp only [F7];simp [hi])]
  | _=>rfl
theorem pR {all:List Oper} {o:Oper} {f:FuncId} {das:List D} {vs:List V} {v:V} {m:Nat} {g:Option (Bool×Bool)} (hg:Ca all env o=some g) (hc:E7 P o env f das (Am g)) (hv:LK (F6 st m) das=some vs) (hs:Zx v=true)
  (hE:Am g->Al P f vs v):LD P Pn all o env st (Ms (F7 st m) das) [] [] (gD g (.imm v)):=by
 refine Dl hg λI μ st1 ids1 a w hag hst hops hcx=>?_;obtain ⟨xs,h1,h2⟩:=hc I μ a w hops hcx;rw [h2];have hv1:LK (F6 st1 m) das=some vs:=by rw [FK (Nv m) hag,hv]
 have hx:=HW (RA hst m) hv1 h1;have hst0:StRep (WL w) μ [] [] w:={ imm:=λb o h=>h,blk:=λi b h=>by simp [Az,lk] at h,apart:=λi b g k h=>by simp [Az,lk] at h,inj:=λi j bi bj gi gj k h=>by simp [Az,lk] at h,nodup:=.nil,idsFree:=λi h=>by cases h }
 have hno:∀b,¬Bg μ [] b:=λb ⟨i,bi,g,h,_⟩=>by simp [Az,lk] at h
 refine (hE hcx (WL w) μ w xs hst0 hx.imm).mono (λu w' hu=>?_) (λ_ _ h=>h.elim);obtain ⟨I',μ',r1,r2,r3,r4⟩:=hu;have hlt:∀b o,I b=some o->b<w.heap.size:=λb o h=>by
  have:=hst.imm b o h;exact (Gu.1 this).1
 refine ⟨I,μ,hst.other r4.size (λb o h=>r4.block b (hlt b o h) (hno b)) (λb ho=>r4.block b (DN hst ho) (hno b)),?_,Mu.le_refl μ,{ imm:=Imm.le_refl I,os:=r4.os,tape:=r4.tape,output:=r4.output,size:=r4.size,block:=λb hb _=>r4.block b hb (hno b),fresh:=λ_ _ h=>h,old:=λ_ _ _=>rfl }⟩;exact .imm _ _ (bV hs r1.immInv)
theorem Of {o:Oper} {t:Nat} {f:FuncId} {args:List Operand} {ts:Array TypeId} {ds:List D} {df dc:List V} (ho:o.op = .call { callee:=.value (.tmp t),args:=⟨args⟩,argTypes:=ts }) (ht:lk env t=some (.imm (.clo (.func f) df dc)))
  (ha:HL cx env args=some (ds,ob)) (hob:AB ob):E7 P o env f (df.map .imm++ds++dc.map .imm) cx:=by
 intro I μ a w hop hc;rw [ho] at hop;have hd:=Gd (I:=I) (μ:=μ) (a:=a) hc ha hob λx hx=>hop x (by simp [Op.operands,Call.operands,hx]);have hf:=(hop (.tmp t) (by simp [Op.operands,Call.operands]) _ ht).immInv;generalize hv:a.eval (.tmp t)=v at hf;cases hf with
 | clo _ first cap _ _ h1 h2 h3 h4 =>
  refine ⟨first++(args.map a.eval).toArray++cap,?_,?_⟩
  ·simp only [Ju];have q1:RepVL I first.toList df:=⟨by simpa using h1,λi v d hv hd=>h3 i v d (by simpa using hv) hd⟩
   have q2:RepVL I cap.toList dc:=⟨by simpa using h2,λi v d hv hd=>h4 i v d (by simpa using hv) hd⟩
   exact RepL.append (RepL.append q1.imm hd) q2.imm
  ·simp only [execOp,ho,resolve,hv,Deferred.ofValue,Sem.run_bind,Sem.run_pure,Result.andThen_ok,invoke];congr 3;simp
theorem iP {all:List Oper} {o:Oper} {f:FuncId} {a b:List D} {args:List Operand} {c:nU} (h:Xy n st all o env todo f a b args=some c) :
  ∃g ds ob vs todo',Ca all env o=some g/\HL (Am g) env args=some (ds,ob)/\LK (F6 st 6) (a++ds++b)=some vs/\BB n o.dst=true/\(∃p q,Bh todo (Ms (F7 st 6) (a++ds++b),[])=some (p,q,todo'))/\c=⟨f,vs,Ms (F7 st 6) (a++ds++b),g,ob,o.dst,todo'⟩:=by
 unfold Xy at h
 split at h
 ·rename_i g hg
  split at h
  ·rename_i ds ob ha
   split at h
   ·rename_i vs hv hd
    split at h
    ·rename_i p q todo' hn
     split at h
     ·rename_i t hdst;cases h;exact ⟨g,ds,ob,vs,todo',hg,ha,hv,hd,⟨p,q,hn⟩,by rw [hdst]⟩
     ·rename_i hdst;cases h;exact ⟨g,ds,ob,vs,todo',hg,ha,hv,hd,⟨p,q,hn⟩,by rw [hdst]⟩
    ·cases h
   ·cases h
  ·cases h
 ·cases h
theorem JV {f:FuncId} {vs:List V} {rd:List Nat} {g:Option (Bool×Bool)} {dst:Option Nat} {todo':List DI} {v:V} (h:iO n env st todo=some ⟨f,vs,rd,g,ob,dst,todo'⟩) (hE:Am g->Al P f vs v) (hs:Zx v=true) (hob:AB ob)
  (hk:G P n F Q todo' (BD dst (gD g (.imm v)) env) st ids):G P n F Q todo env st ids:=by
 have fin:∀{all:List Oper} {o:Oper} {f':FuncId} {a b:List D} {args:List Operand} {t:List DI},Bh todo ([],[])=some (all,o,t)->Xy n st all o env todo f' a b args=some ⟨f,vs,rd,g,ob,dst,todo'⟩->(∀c,o.op ≠ .defer c) ->
   (∀{ds:List D} {cx:Prop} {ob:List Prop},HL cx env args=some (ds,ob)->AB ob->E7 P o env f' (a++ds++b) cx)->G P n F Q todo env st ids:=by
  intro all o f' a b args t hn1 hp hnd hcalls;obtain ⟨g',ds,ob',vs',todo2,q1,q2,q3,q4,⟨p,q,q5⟩,q6⟩:=iP hp;obtain ⟨e1,e2⟩:=I3 hn1 q5;subst e1;subst e2;cases q6;exact B9 (fr:=[]) (wr:=[]) q5 (pR q1 (hcalls q2 hob) q3 hs hE) q4 hnd hk
 unfold iO at h
 split at h
 ·rename_i all o t hn1;have hnd:∀cc,o.op = .call cc->∀c,o.op ≠ .defer c:=λcc h c h'=>by rw [h] at h';cases h'
  split at h
  ·rename_i f' args ts ho;exact fin hn1 h (hnd _ ho) λha hob=>by simpa using F1 ho ha hob
  ·rename_i t' args ts ho
   split at h
   ·rename_i f' ht;exact fin hn1 h (hnd _ ho) λha hob=>by simpa using EQ ho ht ha hob
   ·rename_i f' a b ht;exact fin hn1 h (hnd _ ho) λha hob=>Of ho ht ha hob
   ·rename_i f' a b ht;exact fin hn1 h (hnd _ ho) λha hob=>HM ho ht ha hob
   ·cases h
  ·cases h
 ·cases h
end
end Go.Hk
namespace Go.Hk
mutual
def PB (id:Nat) (es:List (V×V)):D->D
 | .mapr i=>bif Nat.beq i id then .imm (.mapv es) else .mapr i
 | .agg cs=>H1 (Rk id es cs)
 | .tup cs=>.tup (Rk id es cs)
 | .fn f a b=>.fn f (Rk id es a) (Rk id es b)
 | .iface t d=>match PB id es d with
  | .imm x=>.imm (.iface t x)
  | d'=>.iface t d'
 | .guard c w d=>.guard c w (PB id es d)
 | d=>d
def Rk (id:Nat) (es:List (V×V)):List D->List D
 | []=>[]
 | d::r=>PB id es d::Rk id es r
end
def cV (id:Nat) (es:List (V×V)):Env->Env
 | []=>[]
 | (t,d)::r=>(t,PB id es d)::cV id es r
def pM (id:Nat) (es:List (V×V)):Blk->Blk
 | .cells t sz cs=>NG t sz (Rk id es cs)
 | b=>b
def Rj (id:Nat) (es:List (V×V)):St->St
 | []=>[]
 | (i,some b)::r=>(i,some (pM id es b))::Rj id es r
 | (i,none)::r=>(i,none)::Rj id es r
theorem G7 (id:Nat) (es:List (V×V)):∀l:List D,Rk id es l=l.map (PB id es)
 | []=>rfl
 | d::r=>by simp [Rk,G7 id es r]
section
variable {P:Program} {n:Nat} {F:List Nat} {Q:DQ} {tt:TT} {env:Env} {st:St} {ids:List Nat} {todo:List DI} {I J:Imm} {μ:Mu} {w:World} {id:Nat} {es:List (V×V)} {g:Value}
theorem RepD.mfr {v:Value} {d:D} (h:RepD I μ v d) (hIJ:I.le J) (hg:μ id=some g) (hr:RepV J g (.mapv es)):RepD J μ v (PB id es d):=by
 have at_:∀{l:List D} {i:Nat} {x:D},(Rk id es l)[i]?=some x->∃y,l[i]?=some y/\x=PB id es y:=by
  intro l i x hx;rw [G7,Eg] at hx;cases hl:l[i]? with
  | none=>rw [hl] at hx;cases hx
  | some y=>rw [hl] at hx;cases hx;exact ⟨y,rfl,rfl⟩
 induction h with
 | undef v=>exact .undef v
 | imm v x hx=>exact .imm v x (hx.mono hIJ)
 | nils=>exact .nils
 | ref b id off hm=>exact .ref b id off hm
 | ip b o t cs off vs hcell hrep=>exact (RepD.ip b o t cs off vs hcell hrep).mono hIJ (Mu.le_refl μ)
 | agg cs ds hl h1 _ ih =>
  have:RepD J μ (.agg cs.toList.toArray) (H1 (Rk id es ds)):=GJ ⟨by rw [G7,CW,<- hl];simp,λi c x hc hx=>by
   obtain ⟨y,hy,rfl⟩:=at_ hx;exact ih i c y (by simpa using hc) hy⟩ h1
  simpa [PB] using this
 | tup cs ds hl _ ih =>
  refine .tup cs _ (by rw [G7,CW,hl]) λi c x hc hx=>?_;obtain ⟨y,hy,rfl⟩:=at_ hx;exact ih i c y hc hy
 | own i len a cap hm=>exact .own i len a cap hm
 | elp b id len cap k sz f hm=>exact .elp b id len cap k sz f hm
 | mapr i b hm =>
  simp only [PB];cases hb:Nat.beq i id with
  | false=>exact .mapr i b hm
  | true =>
   rw [Cx hb,hg] at hm;cases hm;exact .imm _ _ hr
 | iter id b hm=>exact .iter id b hm
 | fn f first cap df dc hf hc _ _ ih1 ih2 =>
  refine .fn f first cap _ _ (by rw [G7,CW,hf]) (by rw [G7,CW,hc]) (λi c x h1 h2=>?_) (λi c x h1 h2=>?_)
  ·obtain ⟨y,hy,rfl⟩:=at_ h2;exact ih1 i c y h1 hy
  ·obtain ⟨y,hy,rfl⟩:=at_ h2;exact ih2 i c y h1 hy
 | iface t v d _ ih =>
  simp only [PB]
  split
  ·rename_i x hx;rw [hx] at ih;exact .imm _ _ (.iface t v x ih.immInv)
  ·exact .iface t v _ ih
 | guard c want v d _ hu ih=>exact .guard c want v _ ih hu
 | clip a len es hr=>exact .clip a len es (hr.mono hIJ)
 | slc b id off len cap hm hl hx=>exact .slc b id off len cap hm hl hx
 | yld b id hm=>exact .yld b id hm
 | raw v h=>exact .raw v h
 | hv v id i vs bs hm hi h1=>exact .hv v id i vs bs hm hi h1
theorem BlkRep.mfr {gb:Value} {blk:Blk} (h:BlkRep I μ w gb blk) (hIJ:I.le J) (hg:μ id=some g) (hr:RepV J g (.mapv es)):BlkRep J μ w gb (pM id es blk):=by
 cases blk with
 | cells t sz cs =>
  obtain ⟨hs,b,vs,rfl,h2,h3,h4⟩:=h;refine GI h2 ⟨by rw [G7,CW,h3.1],λi v x hv hx=>?_⟩ h4 (by rw [G7,CW,hs]);rw [G7,Eg] at hx;cases hl:cs[i]? with
  | none=>rw [hl] at hx;cases hx
  | some y=>rw [hl] at hx;cases hx;exact (h3.2 i v y hv hl).mfr hIJ hg hr
 | _=>exact h.mono hIJ (Mu.le_refl μ)
theorem MP {i:Nat} {b:Blk}:∀{st:St},Az (Rj id es st) i b->∃b0,Az st i b0/\b=pM id es b0
 | [],h=>by simp [Rj,Az,lk] at h
 | (k,some x)::r,h=>by
  simp only [Rj] at h;rcases A9.1 h with ⟨h1,h2⟩ | ⟨h1,h2⟩
  ·exact ⟨x,by unfold Az;rw [h1,Ay],h2⟩
  ·obtain ⟨b0,q1,q2⟩:=MP h2;exact ⟨b0,A9.2 (.inr ⟨h1,q1⟩),q2⟩
 | (k,none)::r,h=>by
  simp only [Rj] at h;obtain ⟨h1,h2⟩:=BL.1 h;obtain ⟨b0,q1,q2⟩:=MP h2;exact ⟨b0,BL.2 ⟨h1,q1⟩,q2⟩
theorem Wu (id:Nat) (hl:lk st id=some (some (.map es))) (h:DGo P n F Q todo (cV id es env) ((id,none)::Rj id es st) ids):DGo P n F Q todo env st ids:=by
 intro b cs I μ a w items hd hc;have hlive:Az st id (.map es):=hl;obtain ⟨g,hg,gb,ms,clock,rfl,hheap,hsz,hstm,hent⟩:=hc.blk id _ hlive;have hno:=(hc.apart id _ _ gb hlive hg rfl).1;obtain ⟨J,hJ,hJr,hJo⟩:∃J:Imm,I.le J/\RepV J (.map (some gb)) (.mapv es)/\(∀k o,J k=some o->(I k=some o\/(Eb (.map (some gb)) k/\w.heap[k]?=some o))):=by
  have hle':I.le (λk=>if k=gb then some (.map ms clock) else I k):=λk o h=>by
   have:k≠gb:=λe=>by rw [e,hno] at h;cases h
   simp [this,h]
  refine ⟨_,hle',.mapv gb ms clock es (by simp) hsz hstm (λi e p h1 h2=>(hent i e p h1 h2).1.mono hle') (λi e p h1 h2=>(hent i e p h1 h2).2.mono hle'),λk o h=>?_⟩;by_cases hk:k=gb
  ·subst hk;simp at h;subst h;exact .inr ⟨rfl,hheap⟩
  ·simp [hk] at h;exact .inl h
 have hst:∀i bi,Az ((id,none)::Rj id es st) i bi->i≠id/\∃b0,Az st i b0/\bi=pM id es b0:=λi bi h=>by
  obtain ⟨h1,h2⟩:=BL.1 h;exact ⟨h1,MP h2⟩
 have hE:Ext I μ st w J μ ((id,none)::Rj id es st) w :=
  {imm:=hJ,os:=rfl,tape:=rfl,output:=rfl,size:=B8 _
   block:=λ_ _ _=>rfl
   fresh:=λk _ ⟨i,bi,gi,h1,h2,h3⟩=>let ⟨_,b0,q,_⟩:=hst i bi h1;⟨i,b0,gi,q,h2,h3⟩
   old:=λk _ ho=>by
      cases hJk:J k with
      | none =>
       cases hIk:I k with
       | none=>rfl
       | some o=>rw [hJ k o hIk] at hJk;cases hJk
      | some o =>
       rcases hJo k o hJk with h | ⟨h,_⟩
       ·exact h.symm
       ·exact absurd ⟨id,_,_,hlive,hg,h⟩ ho }
 have hc':Conc n J μ (cV id es env) ((id,none)::Rj id es st) ids a w :=
  {imm:=λk o h=>(hJo k o h).elim (λh=>hc.imm k o h) λh=>h.2
   blk:=λi bi hli=>by
    obtain ⟨_,b0,h2,rfl⟩:=hst i bi hli;obtain ⟨gi,hgi,hr⟩:=hc.blk i b0 h2;exact ⟨gi,hgi,hr.mfr hJ hg hJr⟩
   apart:=λi bi gi k hli hgi hk=>by
    obtain ⟨h1,b0,h2,rfl⟩:=hst i bi hli;obtain ⟨q1,q2⟩:=hc.apart i b0 gi k h2 hgi hk;refine ⟨?_,q2⟩;cases hJk:J k with
    | none=>rfl
    | some o =>
     rcases hJo k o hJk with h | ⟨h,_⟩
     ·rw [q1] at h;cases h
     ·exact absurd (hc.inj i id b0 _ gi _ k h2 hlive hgi hg hk h) h1
   inj:=λi j bi bj gi gj k hi hj hgi hgj hki hkj=>by
    obtain ⟨_,b1,h1,rfl⟩:=hst i bi hi;obtain ⟨_,b2,h2,rfl⟩:=hst j bj hj;exact hc.inj i j b1 b2 gi gj k h1 h2 hgi hgj hki hkj
   nodup:=hc.nodup
   idsFree:=hc.idsFree
   size:=hc.size
   env:=λt d hlt=>by
    have:∀{env:Env},lk (cV id es env) t=some d->∃d0,lk env t=some d0/\d=PB id es d0:=by
     intro env
     induction env with
     | nil=>intro h;simp [cV,lk] at h
     | cons p r ih =>
      obtain ⟨s,x⟩:=p;intro h;simp only [cV] at h;by_cases hs:s=t
      ·subst hs;rw [Ay] at h;cases h;exact ⟨x,Ay _ _ _,rfl⟩
      ·rw [A5 _ _ hs] at h;rw [A5 _ _ hs];exact ih h
    obtain ⟨d0,h1,rfl⟩:=this hlt;exact (hc.env t d0 h1).mfr hJ hg hJr
   defers:=hc.defers.ext hE }
 exact (h b cs J μ a w items hd hc').mono λe' a' w' hp=>hp.back (.refl _ _) <| hE
def xM:List V->List D
 | []=>[]
 | .ip t cs off::r=>.ip t cs off::xM r
 | x::r=>.imm x::xM r
theorem ZQ:∀{xs:List Value} {vs:List V},RepL I μ xs (vs.map .imm)->RepL I μ xs (xM vs)
 | [],[],h=>h
 | [],v::vs,h=>absurd h.1 (by simp)
 | x::xs,[],h=>absurd h.1 (by simp)
 | x::xs,v::vs,h=>by
  obtain ⟨h1,h2⟩:=(show RepL I μ (x::xs) (.imm v::vs.map .imm) from h).cons;have:=ZQ h2;cases v with
  | ip t cs off=>exact .mk h1.immInv.ipD this
  | _=>exact .mk h1 this
theorem L5 {f:FuncId} {vs:List V} {v:V} (h:AK P f (xM vs) [] (.ret (.imm v) [])):Al P f vs v:=λI μ w xs hst hx=>h I μ w xs hst (ZQ hx)
def iR (n:Nat) (env:Env) (todo:List DI):Option aW :=
 match Bh todo ([],[]) with
 | some (all,o,todo')=>match o.op,Ca all env o with
  | .call { callee:=.value (.tmp t),args:=⟨args⟩,.. },some g=>match lk env t,HL (Am g) env args with
   | some (.imm (.clo (.func f) a b)),some (ds,ob)=>match KP ds,BB n o.dst with
    | some vs,true=>match o.dst with
     | some t=>some ⟨f,a++vs++b,g,ob,some t,todo'⟩
     | none=>some ⟨f,a++vs++b,g,ob,none,todo'⟩
    | _,_=>none
   | _,_=>none
  | _,_=>none
 | none=>none
theorem Pg:∀l:List V,KP (l.map .imm)=some l
 | []=>rfl
 | x::r=>by simp [KP,oN,Pg r]
theorem Jb:∀{a b:List D} {xs ys:List V},KP a=some xs->KP b=some ys->KP (a++b)=some (xs++ys)
 | [],b,xs,ys,h1,h2=>by cases h1;exact h2
 | d::r,b,xs,ys,h1,h2=>by
  simp only [KP] at h1
  split at h1
  ·rename_i x xs' hx hr;cases h1;simp [KP,hx,Jb hr h2]
  ·cases h1
theorem ON {f:FuncId} {vs:List V} {g:Option (Bool×Bool)} {ob:List Prop} {dst:Option Nat} {todo':List DI} {v:V} (h:iR n env todo=some ⟨f,vs,g,ob,dst,todo'⟩) (hE:Am g->Al P f vs v) (hob:AB ob)
  (hk:G P n F Q todo' (BD dst (gD g (.imm v)) env) st ids):G P n F Q todo env st ids:=by
 unfold iR at h
 split at h
 ·rename_i all o todo1 h1;have hnd:∀cc,o.op = .call cc->∀c,o.op ≠ .defer c:=λcc h c h'=>by rw [h] at h';cases h'
  split at h
  ·rename_i t args ts g' ho hg
   split at h
   ·rename_i f' a b ds ob' ht ha
    split at h
    ·rename_i vs' hv hd;have fin:f'=f/\a++vs'++b=vs/\g'=g/\ob'=ob/\o.dst=dst/\todo1=todo':=by
      split at h <;> (rename_i hdst;cases h;exact ⟨rfl,rfl,rfl,rfl,hdst,rfl⟩)
     obtain ⟨rfl,rfl,rfl,rfl,rfl,rfl⟩:=fin;exact B9 (fr:=[]) (wr:=[]) h1 (OK hg (Of ho ht ha hob) (Jb (Jb (Pg a) hv) (Pg b)) hE) hd (hnd _ ho) hk
    ·cases h
   ·cases h
  ·cases h
 ·cases h
end
end Go.Hk
namespace Go.Hk
def QZ (P:Program) (n:Nat) (c:Code) (env:Env) (st:St) (ids:List Nat) (env':Env) (st':St) (ids':List Nat):Prop :=
 ∀(b:Frame) (cs:List Frame) (Q:Exit->Act->World->Prop) (I:Imm) (μ:Mu) (a:Act) (w:World) (tail:List Item),Conc n I μ env st ids a w ->
  (∀I' μ' a' w',Conc n I' μ' env' st' ids' a' w'->μ.le μ'->Ext I μ st w I' μ' st' w'->Reach P b cs Q tail a' w')->Reach P b cs Q (.code c::tail) a w
def Nr (P:Program) (n:Nat) (all rest:List Oper) (env:Env) (st:St) (ids:List Nat) (env':Env) (st':St) (ids':List Nat):Prop :=
 ∀(b:Frame) (cs:List Frame) (Q:Exit->Act->World->Prop) (I:Imm) (μ:Mu) (a:Act) (w:World) (tail:List Item) (j:Nat),rest=all.drop j->Conc n I μ env st ids a w ->
  (∀I' μ' a' w',Conc n I' μ' env' st' ids' a' w'->μ.le μ'->Ext I μ st w I' μ' st' w'->Reach P b cs Q tail a' w')->Reach P b cs Q (.inRegion all.toArray (List.range' j rest.length)::tail) a w
section
variable {P:Program} {n:Nat} {tt:TT} {env env' env2 E:Env} {st st' st2 stx:St} {ids ids' ids2:List Nat} {c c':Code} {all rest:List Oper} {o:Oper} {ob:List Prop} {I:Imm} {μ:Mu} {w:World} {d:D}
theorem Mu.le_trans' {a b c:Mu} (h:a.le b) (k:b.le c):a.le c:=λi v hv=>k i v (h i v hv)
theorem Zi {rid:Nat} (h:Nr P n all all env st ids env' st' ids'):QZ P n (.region rid ⟨all⟩ false) env st ids env' st' ids':=λb cs Q I μ a w tail hc k=>by
 refine L4 ?_;have:=h b cs Q I μ a w tail 0 rfl hc k;simpa [sI] using this
theorem pC:Nr P n all [] env st ids env st ids:=λb cs Q I μ a w tail j hj hc k=>Gr (k I μ a w hc (Mu.le_refl μ) (Ext.refl _ _ _ _))
theorem tQ {rd fr:List Nat} {wr:St} (hl:LD P (λ_=>False) all o env st rd fr wr d) (hg:o.guard=none) (hnd:∀c,o.op ≠ .defer c) (hn:∀t,o.dst=some t->t<n)
  (h:Nr P n all rest (BD o.dst d env) (wr++st) ids' env' st' ids2):Nr P n all (o::rest) env st (fr++ids') env' st' ids2:=by
 intro b cs Q I μ a w tail j hr hc k;obtain ⟨hj,hr'⟩:=D9 hr;have hon:IQ (o.looksAt all.toArray) I μ env a:=λt _ d hl=>hc.env t d hl;have hlen:(o::rest).length=rest.length+1:=rfl;rw [hlen,NI];have hw:Region.wanted o (yielded all.toArray a.tmps)=true:=AG hg;obtain ⟨h1,_⟩:=hl I μ st ids' a w (λ_ _=>rfl) hc.toStRep hon;refine Fq hj hw hnd (valX.upon ((h1 hw).mono ?_ ?_))
 ·rintro v w2 ⟨I',μ',q1,q2,q4,q3⟩;obtain ⟨p1,p2,p3⟩:=Hx (n:=n) (w:=w2) (dst:=o.dst) (λt d hl=>(hc.env t d hl).mono q3.imm q4) hc.size hn q2;exact h b cs Q I' μ' (a.put o.dst v) w2 tail (j+1) hr'
   {q1 with size:=p2,env:=by cases hdst:o.dst <;> simpa [BD,hdst] using p1,defers:=by rw [p3];exact hc.defers.ext q3 }
   λI2 μ2 a2 w3 hc2 hm2 he2=>k I2 μ2 a2 w3 hc2 (Mu.le_trans' q4 hm2) (q3.trans he2)
 ·rintro chain w2 ⟨v,x,I2,q1,q2,q3,q4,q5⟩;exact q2.elim
theorem sE (htt:TTok P tt) {i:Nat} {x:Option Blk} {st1:St} {env1:Env} {ids1:List Nat} (h:Fo tt n all o env st ids = .e env1 ((i,x)::st1) ids1 ob) (hob:AB ob) (hg:o.guard=none) (hr:Nr P n all rest env1 ((i,x)::st) ids1 env' st' ids2) :
  Nr P n all (o::rest) env st ids env' st' ids2:=by
 obtain ⟨d,fr,e1,e2,e3,e4,e5,_,e7⟩:=Ss (P:=P) (Pn:=λ_=>False) htt h hob;subst e2;rw [e3] at hr;exact tQ (wr:=[(i,x)]) e7 hg e5 e4 hr
theorem aS (htt:TTok P tt) {rid:Nat} {o1 o2:Oper} {i:Nat} {x y:Option Blk} {st1 st2':St} {env1 env2:Env} {ids1 ids2:List Nat} {ob1 ob2:List Prop} (h1:Fo tt n [o1,o2] o1 env st ids = .e env1 ((i,x)::st1) ids1 ob1) (g1:o1.guard=none)
  (h2:Fo tt n [o1,o2] o2 env1 ((i,x)::st) ids1 = .e env2 ((i,y)::st2') ids2 ob2) (g2:o2.guard=none) (hob1:AB ob1) (hob2:AB ob2):QZ P n (.region rid ⟨[o1,o2]⟩ false) env st ids env2 ((i,y)::(i,x)::st) ids2 :=
 Zi (sE htt h1 hob1 g1 (sE htt h2 hob2 g2 pC))
end
end Go.Hk
namespace Go.Hk
def Mk (kp:List Nat):St->St
 | []=>[]
 | (i,b)::r=>bif EH kp i then Mk kp r else (i,b)::Mk kp r
theorem V3 {kp:List Nat} {s:St} {i:Nat}:∀{W:St},lk (Mk kp W++s) i=if i∈kp then lk s i else lk (W++s) i
 | []=>by simp [Mk]
 | (k,b)::r=>by
  have ih:=V3 (kp:=kp) (s:=s) (i:=i) (W:=r);simp only [Mk];cases hm:EH kp k with
  | true =>
   simp only [cond_true,Db];rw [ih];by_cases hi:i∈kp
   ·rw [if_pos hi,if_pos hi]
   ·rw [if_neg hi,if_neg hi,A5 _ _ (λe:k=i=>hi (by rw [<- e];exact BG.1 hm))]
  | false =>
   simp only [cond_false,Db];by_cases hk:k=i
   ·subst hk;rw [Ay,if_neg (λh=>by rw [BG.2 h] at hm;cases hm),Ay]
   ·rw [A5 _ _ hk,A5 _ _ hk,ih]
def TX (W st:St) (l:List Nat):List Nat->Prop
 | []=>True
 | i::r=>(EH l i=true/\lk W i=lk st i)/\TX W st l r
theorem NV {W st:St} {l:List Nat}:∀{kp:List Nat},TX W st l kp->∀i∈kp,i∈l/\lk W i=lk st i
 | [],_,i,h=>by cases h
 | k::r,h,i,hi=>by
  rcases CC.1 hi with rfl | hi
  ·exact ⟨BG.1 h.1.1,h.1.2⟩
  ·exact NV h.2 i hi
structure nY where
 f:FuncId
 das:List D
 g:Option (Bool×Bool)
 ob:List Prop
 dst:Option Nat
 o:Oper
 all:List Oper
def lX (n:Nat) (env:Env) (todo:List DI):Option nY :=
 match Bh todo ([],[]) with
 | some (all,o,_)=>match Ca all env o,o.op with
  | some g,.call { callee:=.value (.func f),args:=⟨args⟩,.. }=>match HL (Am g) env args,BB n o.dst with
   | some (ds,ob),true=>some ⟨f,ds,g,ob,o.dst,o,all⟩
   | _,_=>none
  | some g,.call { callee:=.value (.tmp t),args:=⟨args⟩,.. }=>match lk env t,HL (Am g) env args,BB n o.dst with
   | some (.imm (.fn (.func f))),some (ds,ob),true=>some ⟨f,ds,g,ob,o.dst,o,all⟩
   | some (.fn (.func f) df dc),some (ds,ob),true=>some ⟨f,df++ds++dc,g,ob,o.dst,o,all⟩
   | _,_,_=>none
  | _,_=>none
 | none=>none
section
variable {P:Program} {n:Nat} {F:List Nat} {Q:DQ} {tt:TT} {env env':Env} {st st' st0 st1:St} {ids ids' fr:List Nat} {k todo todo':List DI} {I J:Imm} {μ:Mu} {w:World} {a:Act} {Pn:V->Prop} {d:D} {cx:Prop} {ob:List Prop} {σ τ1:List (Nat×Nat)} {das:List D}
theorem lW {c:nY} (h:lX n env todo=some c) (hob:AB c.ob):(∀f,∃todo',Bh todo f=some (c.all,c.o,todo'))/\Ca c.all env c.o=some c.g/\E7 P c.o env c.f c.das (Am c.g)/\BB n c.dst=true/\(∀x,c.o.op ≠ .defer x)/\c.dst=c.o.dst:=by
 unfold lX at h;have hnext:∀{all:List Oper} {o:Oper} {t:List DI},Bh todo ([],[])=some (all,o,t)->∀f,∃todo',Bh todo f=some (all,o,todo'):=by
  intro all o t h f;rcases HV h with ⟨r,k,rfl,_⟩ | ⟨r,fs,k,rfl,_⟩
  ·exact ⟨_,rfl⟩
  ·exact ⟨_,rfl⟩
 split at h
 ·rename_i all o t h1
  split at h
  ·rename_i g f args ts hg ho
   split at h
   ·rename_i ds ob ha hd;cases h;exact ⟨hnext h1,hg,F1 ho ha hob,hd,(λx hx=>by rw [ho] at hx;cases hx),rfl⟩
   ·cases h
  ·rename_i g t' args ts hg ho
   split at h
   ·rename_i f ds ob ht ha hd;cases h;exact ⟨hnext h1,hg,EQ ho ht ha hob,hd,(λx hx=>by rw [ho] at hx;cases hx),rfl⟩
   ·rename_i f df dc ds ob ht ha hd;cases h;exact ⟨hnext h1,hg,HM ho ht ha hob,hd,(λx hx=>by rw [ho] at hx;cases hx),rfl⟩
   ·cases h
  ·cases h
 ·cases h
theorem kQ {all:List Oper} {o:Oper} {f:FuncId} {g:Option (Bool×Bool)} (hg:Ca all env o=some g) (hcx:Am g) (hc:E7 P o env f das (Am g)) (hE:AK P f (Fp (Ec σ) das) st0 (.ret d st1)) (hb:EI σ st st0)
  (hn:KW σ τ1 das st0 d st1 fr=true) (kp:List Nat) (hkp:TX (E9 (Bb σ++τ1) st1++Cs (Fu σ)) st (Fu σ) kp) :
  LD P Pn all o env st (Fu σ) fr (Mk kp (E9 (Bb σ++τ1) st1++Cs (Fu σ))) (gD g (Jh (Ec (Bb σ++τ1)) d)):=by
 intro I μ st2 ids1 a w hag hst hon;have hwant:=Ft hg hon;refine ⟨λ_=>?_,λhw=>by rw [hwant.2 hcx] at hw;cases hw⟩;obtain ⟨xs,h1,h2⟩:=hc I μ a w (Bd hon) hcx;have hb':=F2 hag hb;have hN:=MO hn;obtain ⟨q1,q2,q3⟩:=FP hst hb' hN.args h1;rw [h2];refine (hE I _ w xs q1 q2).mono (λu w' hu=>?_) (λ_ _ h=>h.elim);obtain ⟨I',μ',r1,r2,r3,r4⟩:=hu;obtain ⟨ν,s1,s2,s3,s4⟩:=Kj hst hb' hN r1 r2 r3 r4 q3;rw [<- JW] at s1 s4;have hsame:∀i,lk (E9 (Bb σ++τ1) st1++Cs (Fu σ)++st2) i=lk (Mk kp (E9 (Bb σ++τ1) st1++Cs (Fu σ))++st2) i:=λi=>by
  rw [V3];by_cases hi:i∈kp
  ·rw [if_pos hi];obtain ⟨k1,k2⟩:=NV hkp i hi;have hm:i∈(E9 (Bb σ++τ1) st1++Cs (Fu σ)).map (·.1):=by
    rw [C4,JA];exact BH.2 (.inr k1)
   rw [FM hm,k2,hag i k1]
  ·rw [if_neg hi]
 refine ⟨I',ν,s1.congr hsame,?_,s3,s4.congr (λ_=>rfl) hsame⟩;cases g with
 | none=>exact s2
 | some p=>exact .guard _ _ _ _ (λ_=>s2) (λhn=>absurd hcx hn)
theorem A4 {c:nY} (σ τ1:List (Nat×Nat)) (kp:List Nat) {fr:List Nat} {nm:List Nat} (h:lX n env todo=some c) (hcx:Am c.g) (hob:AB c.ob) (hE:AK P c.f (Fp (Ec σ) c.das) st0 (.ret d st1)) (hb:EI σ st st0)
  (hn:KW σ τ1 c.das st0 d st1 fr=true) (hkp:TX (E9 (Bb σ++τ1) st1++Cs (Fu σ)) st (Fu σ) kp) (hnm:(Mk kp (E9 (Bb σ++τ1) st1++Cs (Fu σ))).map (·.1)=nm)
  (h1:Bh todo (Fu σ,nm)=some (c.all,c.o,todo')) (hids:ids=fr++ids')
  (hk:G P n F Q todo' (BD c.dst (gD c.g (Jh (Ec (Bb σ++τ1)) d)) env) (Mk kp (E9 (Bb σ++τ1) st1++Cs (Fu σ))++st) ids'):G P n F Q todo env st ids:=by
 obtain ⟨_,q2,q3,q4,q5,q6⟩:=lW (P:=P) h hob;subst hids;rw [q6] at q4 hk;subst hnm;exact B9 h1 (kQ q2 hcx q3 hE hb hn kp hkp) q4 q5 hk
end
end Go.Hk
namespace Go.Hk
structure PBo where
 e:TypeId
 es:List (List V)
 sz:Nat
 ob:List Prop
 dst:Option Nat
 todo:List DI
def sB (tt:TT) (n:Nat) (env:Env) (q:Nat) (todo:List DI):Option PBo :=
 match Bh todo ([],[q]) with
 | some (_,o,todo')=>match o.guard,o.op with
  | none,.buildSlice t m ⟨parts⟩=>match lk tt t,BB n o.dst with
   | some { sh:=.sl e,.. },true=>match lk tt e with
    | some i=>match H7 True env i.size 0 parts,Nat.beq m parts.length,Nat.ble (m*i.size) 16777216,Nat.blt 0 i.size,Nat.blt 0 m with
     | some (es,o'),true,true,true,true=>some ⟨e,es,i.size,o',o.dst,todo'⟩
     | _,_,_,_,_=>none
    | none=>none
   | _,_=>none
  | _,_=>none
 | none=>none
section
variable {P:Program} {n:Nat} {F:List Nat} {Q:DQ} {tt:TT} {env env':Env} {st st' st0 st1:St} {ids ids' fr:List Nat} {k todo todo':List DI} {I J:Imm} {μ:Mu} {w:World} {a:Act} {Pn:V->Prop} {d:D} {cx:Prop} {ob:List Prop}
theorem uU (htt:TTok P tt) {o:Oper} {t e:TypeId} {i:TyI} {m:Nat} {parts:List (Nat×Operand)} (ho:o.op = .buildSlice t m ⟨parts⟩) (hu:P.underlying t=some (.slice e)) (hi:lk tt e=some i) {es:List (List V)} {o':List Prop}
  (hel:H7 True env i.size 0 parts=some (es,o')) (hob:AB o') (hn':m=parts.length) (hbig':m*i.size<=16777216) (hsz:0<i.size) (hm0:0<m) (hop:D6 I μ env a o.op) :
  ∃R:List (List Value),(execOp a.eval o).run P w = .ok (.value (.slice (some ⟨w.heap.size,0,none⟩) m m)) (w.alloc (.cells R.flatten.toArray e))/\R.length=m/\es.length=m/\(∀c∈R,c.length=i.size)/\(∀c∈es,c.length=i.size) /\
   ∀(k:Nat) (c:List Value) (x:List V),R[k]?=some c->es[k]?=some x->RepVL I c x/\∀u∈c,u.oneCell'=true:=by
 have hty:=htt e i hi;rw [ho] at hop;obtain ⟨inf,zv,hi1,hi2,_,hi4,hi5,hi6⟩:=hty.info;obtain ⟨q1,q2,q3⟩:=J8 (a:=a) (I:=I) (μ:=μ) trivial parts 0 es o' hel hob (λp hp=>hop p.2 (by simp only [Op.operands];exact Cc.2 ⟨p,hp,rfl⟩));have hz0:m*i.size≠0:=by have:=Nat.mul_pos hm0 hsz;omega
 obtain ⟨A,hA,hA1⟩:∃A:List Value,A.length=m*i.size/\(Array.range (m*i.size)).map (λk=>zv.cells[k % zv.cells.size]!)=A.toArray :=
  ⟨((Array.range (m*i.size)).map (λk=>zv.cells[k % zv.cells.size]!)).toList,by simp,rfl⟩
 obtain ⟨c1,c2,c3⟩:=Lk i.size m A hA;have hq:∀p∈(parts.map λ(p:Nat×Operand)=>(p.1,a.eval p.2)),∃seg,(Gh i.size m A)[p.1]?=some seg/\p.2.cells.size=seg.length:=by
  intro p hp;obtain ⟨q,hm,rfl⟩:=Cc.1 hp;obtain ⟨k,hk⟩:=HX hm;have h1:=q2 k q hk;have hlt:k<parts.length:=(AJ.1 hk).1;have hlt2:k<es.length:=by rw [q1];exact hlt
  obtain ⟨_,r2,_,_⟩:=q3 k q es[k] hk (Bi hlt2);have hlt3:q.1<(Gh i.size m A).length:=by rw [c2];omega
  exact ⟨_,Bi hlt3,by rw [r2,c3 _ (HZ hlt3)]⟩
 have hplace:∀k seg,(Gh i.size m A)[k]?=some seg->some (k*i.size,i.size)=some (((Gh i.size m A).take k).flatten.length,seg.length):=by
  intro k seg hs;have hlt:k<m:=by rw [<- c2];exact (AJ.1 hs).1
  rw [Bn (sz:=i.size) (λc hc'=>c3 c (LO hc')),c3 seg (AF hs)];rw [Gx,c2,Sn (by omega)]
 have hfill:=JX (λk=>some (k*i.size,i.size)) (parts.map λ(p:Nat×Operand)=>(p.1,a.eval p.2)) _ hplace hq;rw [c1] at hfill;obtain ⟨R,hR⟩:∃R,(parts.map λ(p:Nat×Operand)=>(p.1,a.eval p.2)).foldl (λs p=>s.set p.1 p.2.cells.toList) (Gh i.size m A)=R:=⟨_,rfl⟩
 rw [hR] at hfill;have hRl:R.length=m:=by rw [<- hR,E0,c2]
 have hRk:∀(k:Nat) (c:List Value),R[k]?=some c->∃p,parts[k]?=some p/\c=(a.eval p.2).cells.toList:=by
  intro k c hk;have hlt:k<parts.length:=by rw [<- hn',<- hRl];exact (AJ.1 hk).1
  have hp:parts[k]?=some parts[k]:=Bi hlt;have h1:(parts[k]).1=k:=by have:=q2 k _ hp;omega
  rw [<- hR] at hk;obtain ⟨r1,_⟩:=H6 _ _ k c hk;refine ⟨_,hp,r1 _ (Cc.2 ⟨parts[k],HZ hlt,by rw [h1]⟩) λu hu=>?_⟩;obtain ⟨q,hm,he⟩:=Cc.1 hu;simp only [AS] at he;obtain ⟨k',hk'⟩:=HX hm;have:=q2 k' q hk';have e:k'=k:=by omega
  subst e;rw [hp] at hk';have hk':=NK hk';rw [hk',<- he.2]
 refine ⟨R,?_,hRl,by omega,λc hc'=>?_,λc hc'=>?_,λk c x hk hx=>?_⟩
 ·have hno:¬m*i.size > 2 ^ 24:=by omega
  simp only [execOp,ho,Instr.buildSlice,Sem.run_bind,run_underlying hu,hty.sizeOf w,Result.andThen_ok,hno,if_false,Sem.run_pure,if_neg hz0,zeroValue,typeInfo,run_program,hi1,hi4];rw [hA1,LM,hfill];simp only [newRow,Sem.run_bind,run_newObj,Result.andThen_ok,Sem.run_pure];rfl
 ·obtain ⟨k,hk⟩:=HX hc';obtain ⟨p,hp,rfl⟩:=hRk k c hk;have hlt2:k<es.length:=by rw [q1];exact (AJ.1 hp).1
  obtain ⟨_,r2,_,_⟩:=q3 k p _ hp (Bi hlt2);simpa using r2
 ·obtain ⟨k,hk⟩:=HX hc';have hlt2:k<parts.length:=by rw [<- q1];exact (AJ.1 hk).1
  exact (q3 k _ c (Bi hlt2) hk).2.2.1
 ·obtain ⟨p,hp,rfl⟩:=hRk k c hk;obtain ⟨r1,_,_,r4⟩:=q3 k p x hp hx;exact ⟨r1,r4⟩
theorem mB (htt:TTok P tt) (q:Nat) {c:PBo} (h:sB tt n env q todo=some c) (hob:AB c.ob)
  (hk:G P n F Q c.todo (BD c.dst (.own q c.es.length) env) ((q,some (.row c.e c.sz c.es))::st) ids'):G P n F Q todo env st (q::ids'):=by
 unfold sB at h
 split at h
 ·rename_i all o todo' h1
  split at h
  ·rename_i t m parts hgd hop
   split at h
   ·rename_i e _ _ _ _ ht hd
    split at h
    ·rename_i i hi
     split at h
     ·rename_i es o' hel hm hbig hpos hm0;cases h;simp only at hob hk;have hk:G P n F Q todo' (BD o.dst (.own q es.length) env) ([(q,some (.row e i.size es))]++st) ids':=hk;refine B9 (fr:=[q]) (wr:=[(q,some (.row e i.size es))]) (rd:=[]) h1 ?_ hd (λc hc=>by rw [hop] at hc;cases hc) hk;intro I μ st1 ids1 a w hag hst hon;refine ⟨λ_=>?_,λhw=>by rw [AG hgd] at hw;cases hw⟩;have hpos:=show 0<i.size by simpa [Ha] using hpos
      obtain ⟨R,r1,r2,r3,r4,r5,r6⟩:=uU (w:=w) htt hop (htt.sh ht) hi hel hob (Cx hm) (jR hbig) hpos (by simpa [Ha] using hm0) (Bd hon);rw [r1];have hfl:RepVL I R.flatten es.flatten:=by
       refine ⟨by rw [Bn r4,Bn r5,r2,r3],λj u x hu hx=>?_⟩;have hlt:j<m*i.size:=by rw [<- r2,<- Bn r4];exact (AJ.1 hu).1
       have h1:j / i.size<m:=kI (by rw [PU];exact hlt);have h2:j % i.size<i.size:=TP _ hpos;have e1:R[j / i.size]?=some R[j / i.size]:=Bi (by omega);have e2:es[j / i.size]?=some es[j / i.size]:=Bi (by omega);obtain ⟨p1,p2⟩:=r6 _ _ _ e1 e2;have l1:=r4 _ (AF e1);have l2:=r5 _ (AF e2);have f1:=Cu r4 _ _ (j % i.size) _ e1 (Bi (by omega));have f2:=Cu r5 _ _ (j % i.size) _ e2 (Bi (by omega));have ej:j / i.size*i.size+j % i.size=j:=by rw [PU,Yg]
       rw [ej] at f1 f2;rw [f1] at hu;rw [f2] at hx;cases hu;cases hx;exact p1.2 _ _ _ (Bi (by omega)) (Bi (by omega))
      have hone:∀c∈es,∀x∈c,V.one x=true:=λc hc x hx=>by
       obtain ⟨k,hk⟩:=HX hc;obtain ⟨l,hl⟩:=HX hx;have hlt:k<R.length:=by rw [r2,<- r3];exact (AJ.1 hk).1
       obtain ⟨p1,p2⟩:=r6 k _ c (Bi hlt) hk;have hl2:l<(R[k]).length:=by rw [p1.1];exact (AJ.1 hl).1
       exact (p1.2 l _ x (Bi hl2) hl).oneV (p2 _ (HZ hl2))
      have hcm:m<=maxLen:=by
       have hb:=jR hbig;have:m*1<=m*i.size:=sJ m hpos;unfold maxLen;omega
      have hown:(w.alloc (.cells R.flatten.toArray e)).ownsRow 0 e i.size (.slice (some ⟨w.heap.size,0,none⟩) m m) es.length R.flatten:=by
       rw [r3];refine ⟨by rw [Bn r4,r2],.inr ⟨w.heap.size,m,R.flatten.toArray,rfl,AL _,Eh w _,B8 _,hcm,by simp [Bn r4,r2],?_⟩⟩;have:R.flatten.toArray.toList=R.flatten:=rfl;rw [this,CD (by rw [Bn r4,r2];exact B8 _)]
      obtain ⟨μ',q1,q2,q3,q4⟩:=StRep.renew (id':=q) (ids:=ids1) (rd:=[]) (v':=.slice (some ⟨w.heap.size,0,none⟩) m m) (blk':=.row e i.size es) hst (World.grownBy_alloc w _ none) (λb hb=>by cases hb) (λb hb=>by
       have:w.heap.size=b:=hb;subst this;exact ⟨by simp,.inl (B8 _)⟩) (λμ'=>⟨R.flatten,hown,hfl,r5,hone,hpos⟩)
      refine ⟨I,μ',q3,?_,q2,q4⟩;rw [r3];exact .own q m _ m q1
     ·cases h
    ·cases h
   ·cases h
  ·cases h
 ·cases h
end
end Go.Hk
namespace Go.Hk
section
variable {P:Program} {n:Nat} {F:List Nat} {Q:DQ} {tt:TT} {env env':Env} {st st' st0 st1:St} {ids ids' fr:List Nat} {k todo todo':List DI} {I J:Imm} {μ:Mu} {w:World} {a:Act} {Pn:V->Prop} {d:D} {cx:Prop} {ob:List Prop}
end
end Go.Hk
namespace Go.Hk
section
variable {P:Program} {n:Nat} {F:List Nat} {Q:DQ} {tt:TT} {env env':Env} {st st' st0 st1:St} {ids ids' fr:List Nat} {k todo todo':List DI} {I J:Imm} {μ:Mu} {w:World} {a:Act} {Pn:V->Prop} {d:D} {cx:Prop} {ob:List Prop}
end
end Go.Hk
namespace Go.Hk
def nlL (j:Nat):List D->List D->Prop
 | [],[]=>True
 | d::r,d'::r'=>(d=d'\/(d = .nils/\d' = .own j 0))/\nlL j r r'
 | _,_=>False
theorem Vq {j:Nat}:∀{ds ds':List D},nlL j ds ds'->ds.length=ds'.length/\∀(i:Nat) (d':D),ds'[i]?=some d'->∃d,ds[i]?=some d/\(d=d'\/(d = .nils/\d' = .own j 0))
 | [],[],_=>⟨rfl,λi d h=>by simp at h⟩
 | d::r,d'::r',h=>by
  obtain ⟨h1,h2⟩:=Vq h.2;refine ⟨by simp [h1],λi x hx=>?_⟩;cases i with
  | zero=>simp at hx;subst hx;exact ⟨d,rfl,h.1⟩
  | succ i=>exact h2 i x (by simpa using hx)
 | [],_::_,h=>h.elim
 | _::_,[],h=>h.elim
section
variable {P:Program} {n:Nat} {F:List Nat} {Q:DQ} {tt:TT} {env env':Env} {st st':St} {ids ids':List Nat} {todo:List DI}
theorem DH (k j:Nat) {e t:TypeId} {sz sz':Nat} {ds:List D} (ds':List D) (hsz:0<sz) (hk:lk st k=some (some (.cells t sz' ds))) (hcl:nlL j ds ds')
  (h:DGo P n F Q todo env ((k,some (.cells t sz' ds'))::(j,some (.row e sz []))::st) ids'):DGo P n F Q todo env st (j::ids'):=by
 refine E2 λI μ a w hc=>?_;obtain ⟨gk,hgk,_⟩:=hc.blk k _ hk;have hjk:j≠k:=λe=>by rw [<- e,hc.idsFree j (by simp)] at hgk;cases hgk
 obtain ⟨q1,q2,q3⟩:=StRep.relay (R:=[]) (new:=[(j,.slice none 0 0,.row e sz [])]) (ids':=ids') hc.toStRep
  (λp hp b hb=>by rw [AO.1 hp] at hb;exact hb.elim)
  (λp hp q hq b _ _=>by rw [AO.1 hp,AO.1 hq]) (Imm.le_refl I) hc.imm (λb o h=>.inl h)
  (λ_ p hp=>by rw [AO.1 hp];exact ⟨[],World.ownsRow_nil w 0 e sz,.nil,by simp,by simp,hsz⟩)
 have hmj:DP [(j,Value.slice none 0 0,Blk.row e sz [])] μ j=some (.slice none 0 0):=by simp [DP,lk]
 have hk2:Az ((j,some (.row e sz []))::st) k (.cells t sz' ds):=A9.2 (.inr ⟨hjk.symm,hk⟩);obtain ⟨c1,c2⟩:=Vq hcl;obtain ⟨p1,p2⟩:=q2.retell (st1:=(k,some (.cells t sz' ds'))::(j,some (.row e sz []))::st) (λi bb hlb=>by
  rcases A9.1 hlb with ⟨rfl,rfl⟩ | ⟨_,h2⟩
  ·refine ⟨_,hk2,λgb hb=>?_⟩;obtain ⟨hs,b,us,e1,e2,e3,e4⟩:=hb;refine ⟨by rw [<- c1,hs],b,us,e1,e2,⟨by rw [<- c1,e3.1],λi v y hv hy=>?_⟩,e4⟩;obtain ⟨d,y1,y2⟩:=c2 i y hy;have hr:=e3.2 i v d hv y1;rcases y2 with rfl | ⟨rfl,rfl⟩
   ·exact hr
   ·cases hr;exact .own j 0 none 0 hmj
  ·exact ⟨bb,h2,λ_ h=>h⟩)
 exact ⟨I,_,env,_,ids',p1,λt d hd=>(hc.env t d hd).mono (Imm.le_refl I) q1,q3.trans p2,.of_le q1,h⟩
end
end Go.Hk
namespace Go.Hk
section
variable {P:Program} {n:Nat} {F:List Nat} {Q:DQ} {tt:TT} {env env':Env} {st st':St} {ids ids':List Nat} {todo:List DI} {d:D} {ob:List Prop}
end
end Go.Hk
namespace Go.Hk
section
variable {P:Program} {n:Nat} {F:List Nat} {Q:DQ} {tt:TT} {env env':Env} {st st':St} {ids ids':List Nat} {todo:List DI}
end
end Go.Hk
namespace Go.Hk
section
variable {P:Program} {n:Nat} {F:List Nat} {Q:DQ} {tt:TT} {env env':Env} {st st':St} {ids ids':List Nat} {todo todo':List DI} {I:Imm} {μ:Mu}
end
end Go.Hk
namespace Go.Hk
section
variable {P:Program} {n:Nat} {F:List Nat} {Q:DQ} {todo:List DI} {env:Env} {st:St} {ids':List Nat}
end
end Go.Hk
namespace Go.Hk
section
variable {P:Program} {n:Nat} {F:List Nat} {Q:DQ} {tt:TT} {env env':Env} {st st':St} {ids ids':List Nat} {k todo todo':List DI} {I:Imm} {μ:Mu} {w:World} {a:Act} {Pn:V->Prop} {d:D} {cx:Prop} {ob:List Prop}
end
end Go.Hk
namespace Go.Hk
section
variable {P:Program} {n:Nat} {F:List Nat} {Q:DQ} {tt:TT} {env env':Env} {st st':St} {ids ids':List Nat} {k todo todo':List DI} {I:Imm} {μ:Mu} {w:World} {a:Act} {Pn:V->Prop} {d:D} {cx:Prop} {ob:List Prop}
end
end Go.Hk
namespace Go.Hk
structure wZ where
 dx:D
 es:List (List V)
 es2:List (List V)
 sz:Nat
 bytes:Nat
 dst:Option Nat
 todo:List DI
def aR:D->Option (List (List V))
 | .nils=>some []
 | .clip es=>some es
 | _=>none
def sC (tt:TT) (n:Nat) (env:Env) (todo:List DI):Option wZ :=
 match Bh todo ([],[]) with
 | some (_,o,todo')=>match o.guard,o.op with
  | none,.call { callee:=.builtin .append,args:=⟨[x,y]⟩,argTypes:=⟨[t,t']⟩ }=>match Nat.beq t t',lk tt t,DT env x,DT env y with
   | true,some { sh:=.sl e,.. },some dx,some (.imm (.sl (e1::es2)))=>match lk tt e,aR dx with
    | some i,some es=>match Nat.beq i.zero.length i.size&&Nat.blt 0 i.size,BB n o.dst with
     | true,true=>some ⟨dx,es,e1::es2,i.size,i.bytes,o.dst,todo'⟩
     | _,_=>none
    | _,_=>none
   | _,_,_,_=>none
  | _,_=>none
 | none=>none
section
variable {P:Program} {n:Nat} {F:List Nat} {Q:DQ} {tt:TT} {env env':Env} {st st':St} {ids ids':List Nat} {k todo todo':List DI} {I:Imm} {μ:Mu} {w w':World} {a:Act} {Pn:V->Prop} {d:D} {cx:Prop} {ob:List Prop}
theorem StRep.growI (hst:StRep I μ st ids w) (hg:w.grownBy w' none) {c:Nat} {o:Obj} (hc:w.heap.size<=c) (ho:w'.heap[c]?=some o):∃I',I' c=some o/\I.le I'/\StRep I' μ st ids w'/\Ext I μ st w I' μ st w':=by
 have hnew:I c=none:=by
  cases h:I c with
  | none=>rfl
  | some o'=>have:=BN (hst.imm _ _ h);omega
 have hold:∀b,b<w.heap.size->w'.heap[b]?=w.heap[b]?:=λb hb=>hg.block b hb (by simp);have hle:I.le (λb=>if b=c then some o else I b):=λb o' h=>by
  have:b≠c:=λe=>by rw [e,hnew] at h;cases h
  simp [this,h]
 refine ⟨λb=>if b=c then some o else I b,by simp,hle,?_,?_⟩
 ·refine { imm:=λb o' h=>?_,blk:=λid blk hl=>?_,apart:=λid blk g b hl hg' hb=>?_,inj:=hst.inj,nodup:=hst.nodup,idsFree:=hst.idsFree }
  ·by_cases hb:b=c
   ·subst hb;simp at h;subst h;exact ho
   ·simp [hb] at h;have:=hst.imm _ _ h;rw [hold b (BN this)];exact this
  ·obtain ⟨g,h1,h2⟩:=hst.blk id blk hl;exact ⟨g,h1,(h2.mono hle (Mu.le_refl μ)).world (λb hb=>hold b (hst.apart id blk g b hl h1 hb).2)⟩
  ·obtain ⟨h1,h2⟩:=hst.apart id blk g b hl hg' hb;have:b≠c:=by omega
   exact ⟨by simp [this,h1],XH h2 hg.size⟩
 ·exact { imm:=hle,os:=hg.os,tape:=hg.tape,output:=hg.output,size:=hg.size,block:=λb hb _=>hold b hb,fresh:=λb _ h=>h,old:=λb hb _=>if_neg (by omega) }
theorem tL {e:TypeId} {sz:Nat} {u:Value} {es:List (List V)} {xs:List Value} (h:w.ownsRow 0 e sz u es.length xs) (hr:RepVL I xs es.flatten) (hsz:∀c∈es,c.length=sz) (h1:∀v∈xs,v.oneCell'=true) {b:Nat} {o:Obj} (hb:u.ownBlock=some b) (ho:w.heap[b]?=some o) (hI:I b=some o):RepV I u (.sl es):=by
 rcases h.2 with ⟨rfl,_⟩ | ⟨g,cap,cur,rfl,_,hheap,hle,hcm,hcs,htake⟩
 ·cases hb
 ·have hb:g=b:=by simpa [Value.ownBlock] using hb
  subst hb;rw [hheap] at ho;cases ho;have hxl:=h.1;refine .sl g 0 es.length cap sz es (λi j=>(xs[i*sz+j]?).getD undef) rfl hle hcm hsz ?_ ?_
  ·intro i c j x hi hj;have hf:=Cu hsz i c j x hi hj;have hlt:i*sz+j<xs.length:=by rw [hr.1];exact (AJ.1 hf).1
   have hxs:xs[i*sz+j]?=some xs[i*sz+j]:=Bi hlt;rw [hxs,LN];refine ⟨?_,h1 _ (HZ hlt)⟩;unfold Imm.cell;rw [hI];have hcur:cur[i*sz+j]?=some xs[i*sz+j]:=by
    have e1:(cur.toList.take (es.length*sz))[i*sz+j]?=some xs[i*sz+j]:=by rw [htake];exact hxs
    have e2:=e1;rw [Dr] at e2
    split at e2
    ·simpa using e2
    ·cases e2
   simp only [Di,hcur]
  ·intro i c j x hi hj;have hf:=Cu hsz i c j x hi hj;have hlt:i*sz+j<xs.length:=by rw [hr.1];exact (AJ.1 hf).1
   have hxs:xs[i*sz+j]?=some xs[i*sz+j]:=Bi hlt;rw [hxs,LN];exact hr.2 _ _ x hxs hf
theorem eG (htt:TTok P tt) {c:wZ} (h:sC tt n env todo=some c) (hok:nK c.sz c.bytes (.clip []) c.es c.es2) (hes:∀x∈c.es,x.length=c.sz)
  (hk:G P n F Q c.todo (BD c.dst (.imm (.sl (c.es++c.es2))) env) st ids):G P n F Q todo env st ids:=by
 unfold sC at h
 split at h
 ·rename_i all o todo' hn1
  split at h
  ·rename_i x y t t' hg hop
   split at h
   ·rename_i e _ _ _ _ dx e1 es2 htt' ht hx hy;have:=Cx htt';subst this
    split at h
    ·rename_i i es hi hb
     split at h
     ·rename_i hz hd;cases h;simp only at hok hes hk;refine B9 (fr:=[]) (wr:=[]) (rd:=[]) hn1 ?_ hd (λc hc=>by rw [hop] at hc;cases hc) hk;intro I μ st1 ids1 a w hag hst hon;refine ⟨λ_=>?_,λhw=>by rw [AG hg] at hw;cases hw⟩;have hops:=Bd hon;rw [hop] at hops;have rx:=hops x (by simp [Op.operands,Call.operands]) _ hx;have ry:=(hops y (by simp [Op.operands,Call.operands]) _ hy).immInv;obtain ⟨inf,z,z1,z2,z3,z4,z5,z6⟩:=(htt e i hi).info;have hu:P.underlying t=some (.slice e):=htt.sh ht;simp only [A1,Ha] at hz;have hzl:z.cells.size=i.size:=by
       have:=(z5 I μ).1;rw [Cx hz.1] at this;simpa using this
      obtain ⟨k1,k2,k3,_⟩:=hok;have hrun:∀{u w'},(Builtin.append_ #[t,t] o.type #[a.eval x,a.eval y]).run P w = .ok u w'->(execOp a.eval o).run P w = .ok (.value u) w':=by
       intro u w' h;simp only [execOp,hop,resolve,invoke,builtin,Sem.run_bind,Sem.run_pure,Result.andThen_ok,LM,Cz,HJ,h]
      rcases OF hst.imm ry k1 hz.2 with ⟨_,e0⟩ | ⟨yb,yo,yc,news,ey,_,_,n1,n2,n3,n4,n5⟩
      ·cases e0
      have fin:∀{u:Value} {w':World} {xs:List Value},(Builtin.append_ #[t,t] o.type #[a.eval x,a.eval y]).run P w = .ok u w'->w'.ownsRow 0 e i.size u (es.length+(e1::es2).length) (xs++news)->w.grownBy w' none->(∀b,u.ownBlock=some b->w.heap.size<=b)->RepVL I xs es.flatten->(∀v∈xs,v.oneCell'=true) ->
        valX P ((execOp a.eval o).run P w) (λv w'=>∃I' μ',StRep I' μ' ([]++st1) ids1 w'/\RepD I' μ' v (.imm (.sl (es++e1::es2)))/\μ.le μ'/\Ext I μ st1 w I' μ' ([]++st1) w') (Ko (Kn Q) I μ st1 w):=by
       intro u w' xs r1 r2 r3 r4 r5 r6;rw [hrun r1];obtain ⟨b,hb,hlt⟩:∃b,u.ownBlock=some b/\b<w'.heap.size:=by
        rcases r2.2 with ⟨_,hh⟩ | ⟨g,cap,cur,rfl,_,hheap,_⟩
        ·simp at hh
        ·exact ⟨g,rfl,BN hheap⟩
       have ho:w'.heap[b]?=some w'.heap[b]:=Ox hlt;obtain ⟨I',q1,q2,q3,q4⟩:=hst.growI r3 (r4 b hb) ho;refine ⟨I',μ,q3,.imm _ _ (tL (es:=es++e1::es2) (by rw [Bw];exact r2) ?_ ?_ ?_ hb ho q1),Mu.le_refl μ,q4⟩
       ·rw [Yf];exact (r5.append n4).mono q2
       ·intro c hc;exact (BH.1 hc).elim (hes c) (k1 c)
       ·intro v hv;exact (BH.1 hv).elim (r6 v) (n3 v)
      have hnil:a.eval x = .slice none 0 0->es=[]->valX P ((execOp a.eval o).run P w) (λv w'=>∃I' μ',StRep I' μ' ([]++st1) ids1 w'/\RepD I' μ' v (.imm (.sl (es++e1::es2)))/\μ.le μ'/\Ext I μ st1 w I' μ' ([]++st1) w') (Ko (Kn Q) I μ st1 w):=λhv he=>by
       subst he;obtain ⟨v',w',q1,q2,q3,_⟩:=run_append_own (P:=P) w w.heap.size t o.type e inf z i.size i.bytes hu z1 z4 z2 z3 hzl hz.2 (.slice none 0 0) 0 [] (World.ownsRow_nil w _ e i.size) ⟨yb,yo,none⟩ (e1::es2).length yc news n1 n2 n3
        (by simpa using k2) (by simpa using k3) (B8 _)
       have q2':w'.ownsRow 0 e i.size v' (0+(e1::es2).length) ([]++news):=⟨q2.1,q2.2.imp id λ⟨g,cap,cur,a1,_,a2⟩=>⟨g,cap,cur,a1,AL _,a2⟩⟩
       exact fin (by rw [hv,ey];exact q1) q2' ⟨q3.os,q3.tape,q3.output,q3.size,λb hb _=>q3.block b hb (by simp [Value.ownBlock])⟩ (λb h=>(q2.lt b h).1) .nil (by simp)
      have hgrow:∀(ad:Addr) (cap:Nat) (xs:List Value),a.eval x = .slice (some ad) es.length cap->xs.length=es.length*i.size->(∀j u,xs[j]?=some u->w.cell? (ad.add j)=some u)->cap<es.length+(e1::es2).length->RepVL I xs es.flatten->(∀v∈xs,v.oneCell'=true) ->
        valX P ((execOp a.eval o).run P w) (λv w'=>∃I' μ',StRep I' μ' ([]++st1) ids1 w'/\RepD I' μ' v (.imm (.sl (es++e1::es2)))/\μ.le μ'/\Ext I μ st1 w I' μ' ([]++st1) w') (Ko (Kn Q) I μ st1 w):=λad cap xs hv hl hcell hlt hr h1=>by
       have hsmall:es.length+(e1::es2).length<=9223372036854775807:=by simp only [maxLen] at k2;omega
       have hr':=run_append_grow (P:=P) w t o.type e inf z hu z1 z4 ad es.length cap xs (by rw [z2];exact hl) hcell ⟨yb,yo,none⟩ (e1::es2).length yc news (by rw [z2];exact n1) n2 hlt (by omega) (by rw [z3];exact growslice_fits hlt k3);have hge:=grownCap_ge w (es.length+(e1::es2).length) cap e;have hcm:grownCap w (es.length+(e1::es2).length) cap e<=maxLen:=grownCap_le_maxLen w _ cap e k2;have hlen:(xs++news).length=(es.length+(e1::es2).length)*i.size:=by rw [Bw,hl,n1,PL]
       refine fin (by rw [hv,ey];exact hr') (xs:=xs) ⟨hlen,.inr ⟨w.heap.size,_,_,rfl,AL _,Eh w.drew _,hge,hcm,?_,?_⟩⟩ ⟨rfl,rfl,rfl,by simp,λk hk _=>CH w.drew _ hk⟩
        (λb h=>by simp [Value.ownBlock] at h;omega) hr h1
       ·simp only [Array.size_append,Ye,size_zeroCells,hzl,hl,n1,<- PL];congr 1;omega
       ·simp only [Ju,CE];rw [<- CE,<- hlen];exact Yd
      cases dx with
      | nils =>
       simp only [aR,BT] at hb;subst hb;have hv:a.eval x = .slice none 0 0:=by
        generalize a.eval x=v at rx;cases rx;rfl
       exact hnil hv rfl
      | clip es' =>
       simp only [aR,BT] at hb;subst hb;have rx':∃ad len,a.eval x = .slice ad len len/\RepV I (.slice ad len len) (.sl es'):=by
        generalize a.eval x=v at rx;cases rx with
        | clip ad len _ h=>exact ⟨ad,len,rfl,h⟩
       obtain ⟨ad,len,hv,hr⟩:=rx';rcases OF hst.imm hr hes hz.2 with ⟨⟨adx,ex⟩,e0⟩ | ⟨xb,xo,xc,xs,ex,_,_,p1,p2,p3,p4,p5⟩
       ·cases adx with
        | none=>exact hnil (hv.trans ex) e0
        | some adx =>
         subst e0;exact hgrow adx 0 [] (hv.trans ex) (by simp) (λj u h=>by simp at h) (by simp) .nil (by simp)
       ·cases ex;exact hgrow ⟨xb,xo,none⟩ _ xs hv p1 p2 (by simp) p4 p3
      | _=>simp [aR] at hb
     ·cases h
    ·cases h
   ·cases h
  ·cases h
 ·cases h
end
end Go.Hk
namespace Go.Hk
structure PCl where
 es:List (List V)
 m:Int
 m2:Int
 dst:Option Nat
 todo:List DI
def sA (tt:TT) (n:Nat) (env:Env) (todo:List DI):Option PCl :=
 match Bh todo ([],[]) with
 | some (_,o,todo')=>match o.guard,o.op with
  | none,.slice t x none (some h) (some c)=>match lk tt t,DT env x,DT env h,DT env c,BB n o.dst with
   | some { sh:=.sl e,.. },some (.imm (.sl es)),some (.imm (.int _ m)),some (.imm (.int _ m2)),true=>match lk tt e with
    | some _=>some ⟨es,m,m2,o.dst,todo'⟩
    | none=>none
   | _,_,_,_,_=>none
  | _,_=>none
 | none=>none
section
variable {P:Program} {n:Nat} {F:List Nat} {Q:DQ} {tt:TT} {env env':Env} {st st':St} {ids ids':List Nat} {k todo todo':List DI} {I:Imm} {μ:Mu} {w w':World} {a:Act}
theorem uJ (htt:TTok P tt) {c:PCl} (h:sA tt n env todo=some c) (h1:c.m=c.es.length) (h2:c.m2=c.es.length)
  (hk:G P n F Q c.todo (BD c.dst (.clip c.es) env) st ids):G P n F Q todo env st ids:=by
 unfold sA at h
 split at h
 ·rename_i all o todo' hn1
  split at h
  ·rename_i t x hh cc hg hop
   split at h
   ·rename_i e _ _ _ _ es k1 m k2 m2 ht hx hhh hcc hd
    split at h
    ·rename_i ti hti;cases h;simp only at h1 h2 hk;subst h1;subst h2;refine B9 (fr:=[]) (wr:=[]) (rd:=[]) hn1 ?_ hd (λc hc=>by rw [hop] at hc;cases hc) hk;intro I μ st1 ids1 a w hag hst hon;refine ⟨λ_=>?_,λhw=>by rw [AG hg] at hw;cases hw⟩;have hops:=Bd hon;rw [hop] at hops;have rx:=(hops x (by simp [Op.operands]) _ hx).immInv;have e1:a.eval hh = .int k1 es.length:=(hops hh (by simp [Op.operands]) _ hhh).immInv.intInv;have e2:a.eval cc = .int k2 es.length:=(hops cc (by simp [Op.operands]) _ hcc).immInv.intInv;have hb:∀(k:IntKind) (x y:Nat) (c:BoundsCode),x<=y->(Instr.sliceBound (.int k x) y c).run P w = .ok x w:=by
      intro k x y c hxy;simp [Instr.sliceBound,asIntOf,hxy]
     have hb0:∀(k:IntKind) (c:BoundsCode),(Instr.sliceBound (.int k 0) 0 c).run P w = .ok 0 w:=by
      intro k c;simp [Instr.sliceBound,asIntOf]
     have key:∃ad,(Instr.sliceAt t (a.eval x) none (some (.int k1 es.length)) (some (.int k2 es.length))).run P w = .ok (.slice ad es.length es.length) w/\RepV I (.slice ad es.length es.length) (.sl es):=by
      generalize a.eval x=v at rx;cases rx with
      | slnil=>exact ⟨none,by simp [Instr.sliceAt,run_underlying (htt.sh ht),Instr.slice,Instr.sliceBounds,hb0,(htt e ti hti).sizeOf w],.slnil⟩
      | sl0 ad=>exact ⟨ad,by simp [Instr.sliceAt,run_underlying (htt.sh ht),Instr.slice,Instr.sliceBounds,hb0,(htt e ti hti).sizeOf w],.sl0 ad⟩
      | sl b o len cap sz _ vs hl hc hm hsz hcell hrep =>
       subst hl;refine ⟨some ⟨b,o,none⟩,?_,.sl b o _ _ sz es vs rfl (B8 _) (by omega) hsz hcell hrep⟩;simp [Instr.sliceAt,run_underlying (htt.sh ht),Instr.slice,Instr.sliceBounds,hb _ _ _ _ hc,hb _ _ _ _ (B8 es.length),(htt e ti hti).sizeOf w,Hm]
     obtain ⟨ad,r1,r2⟩:=key;have hrun:(execOp a.eval o).run P w = .ok (.value (.slice ad es.length es.length)) w:=by
      simp only [execOp,hop,e1,e2,TN,ZN,Sem.run_bind,r1,Result.andThen_ok,Sem.run_pure]
     rw [hrun];exact ⟨I,μ,hst,.clip _ _ _ r2,Mu.le_refl μ,Ext.refl _ _ _ _⟩
    ·cases h
   ·cases h
  ·cases h
 ·cases h
end
end Go.Hk
namespace Go.Hk
section
variable {P:Program} {n:Nat} {F:List Nat} {Q:DQ} {tt:TT} {env env':Env} {st st':St} {ids ids':List Nat} {k todo todo':List DI} {I:Imm} {μ:Mu} {w w':World} {a:Act}
end
end Go.Hk
namespace Go.Hk
def ZV (P:Program) (t:TypeId) (m:String) (f:FuncId):Bool:=match P.info? t with
 | some i=>match i.methods.find? (·.name == m) with
  | some r=>r.path.toList.isEmpty&&(match r.func with
   | some (f',pr)=>Nat.beq f' f && !pr
   | none=>false)&&(match P.underlying t with
   | some (.pointer _)=>false
   | some _=>true
   | none=>false)
  | none=>false
 | none=>false
theorem lO {P:Program} {t:TypeId} {m:String} {f:FuncId} (h:ZV P t m f=true) (n:Nat) (v:Value) (w:World):(method (n+1) t v m).run P w = .ok (f,v) w:=by
 unfold ZV at h
 split at h
 ·rename_i i hi
  split at h
  ·rename_i r hr;simp only [A1] at h;obtain ⟨⟨h1,h2⟩,h3⟩:=h
   split at h2
   ·rename_i f' pr hf;simp only [A1,Jv] at h2;have hff:=Cx h2.1;subst hff;have hpr:=h2.2;subst hpr;have hp:r.path.toList=[]:=List.isEmpty_iff.1 h1
    split at h3
    ·cases h3
    ·rename_i u hne hu;have hrecv:∀wr,(receiverAt t (.val v) false wr).run P w = .ok v w:=λwr=>by
      unfold receiverAt;rw [Sem.run_bind,run_underlying hu,Result.andThen_ok];cases u <;> first | rfl | exact absurd rfl (hne _)
     simp only [method,typeInfo,Sem.run_bind,run_program,Result.andThen_ok,hi,hr,hp,follow,Sem.run_pure,hf,hrecv]
    ·cases h3
   ·cases h2
  ·cases h
 ·cases h
section
variable {P:Program} {n:Nat} {F:List Nat} {Q:DQ} {tt:TT} {env env':Env} {st st':St} {ids ids':List Nat} {k todo todo':List DI} {cx:Prop} {d:D} {ob ob':List Prop}
 {I:Imm} {μ:Mu} {w:World} {a:Act}
theorem R3 {o:Oper} {r:Operand} {m:String} {f:FuncId} {args:List Operand} {ts:Array TypeId} {ds:List D} {T:TypeId} {x:V} (ho:o.op = .call { callee:=.invoke r m,args:=⟨args⟩,argTypes:=ts }) (ht:DT env r=some (.imm (.iface T x)))
  (ha:HL cx env args=some (ds,ob)) (hob:AB ob) (hm:ZV P T m f=true):E7 P o env f (.imm x::ds) cx:=by
 intro I μ a w hop hc;rw [ho] at hop;have hd:=Gd (I:=I) (μ:=μ) (a:=a) hc ha hob λy hy=>hop y (by simp [Op.operands,Call.operands,hy]);have hf:=(hop r (by simp [Op.operands,Call.operands]) _ ht).immInv;generalize hv:a.eval r=v at hf;cases hf with
 | iface _ u _ hu =>
  refine ⟨#[u]++(args.map a.eval).toArray,?_,?_⟩
  ·simp only [Ju];exact .mk (.imm _ _ hu) (by simpa using hd)
  ·have hs:∃n,P.types.size+Made.depth=n+1:=⟨P.types.size+(Made.depth-1),by unfold Made.depth;omega⟩
   obtain ⟨n,hs⟩:=hs;have hme:=lO hm n u w;have hx:((#[Value.iface T u]++(args.map a.eval).toArray).extract 1 (#[Value.iface T u]++(args.map a.eval).toArray).size)=(args.map a.eval).toArray:=by
    apply Array.ext';simp [jY];exact CD (by simp)
   have h0:(#[Value.iface T u]++(args.map a.eval).toArray)[0]?=some (.iface T u):=by simp
   have e:(⟨args⟩:Array Operand).map a.eval=(args.map a.eval).toArray:=by simp
   simp only [execOp,ho,resolve,hv,e,Sem.run_bind,Sem.run_pure,Result.andThen_ok,invoke,h0,callMethod,hx,run_program,hs,hme]
structure xB where
 T:TypeId
 m:String
 vs:List V
 g:Option (Bool×Bool)
 ob:List Prop
 dst:Option Nat
 todo:List DI
def iQ (n:Nat) (env:Env) (todo:List DI):Option xB :=
 match Bh todo ([],[]) with
 | some (all,o,todo')=>match o.op,Ca all env o with
  | .call { callee:=.invoke r m,args:=⟨args⟩,.. },some g=>match DT env r,HL (Am g) env args with
   | some (.imm (.iface T x)),some (ds,ob)=>match KP (.imm x::ds),BB n o.dst with
    | some vs,true=>match o.dst with
     | some t=>some ⟨T,m,vs,g,ob,some t,todo'⟩
     | none=>some ⟨T,m,vs,g,ob,none,todo'⟩
    | _,_=>none
   | _,_=>none
  | _,_=>none
 | none=>none
theorem Ui (f:FuncId) {T:TypeId} {m:String} {vs:List V} {g:Option (Bool×Bool)} {ob:List Prop} {dst:Option Nat} {todo':List DI} {v:V} (h:iQ n env todo=some ⟨T,m,vs,g,ob,dst,todo'⟩) (hm:ZV P T m f=true) (hE:Am g->Al P f vs v) (hob:AB ob)
  (hk:G P n F Q todo' (BD dst (gD g (.imm v)) env) st ids):G P n F Q todo env st ids:=by
 unfold iQ at h
 split at h
 ·rename_i all o todo1 h1;have hnd:∀cc,o.op = .call cc->∀c,o.op ≠ .defer c:=λcc h c h'=>by rw [h] at h';cases h'
  split at h
  ·rename_i r m' args ts g' ho hg
   split at h
   ·rename_i T' x ds ob' ht ha
    split at h
    ·rename_i vs' hv hd;have fin:T'=T/\m'=m/\vs'=vs/\g'=g/\ob'=ob/\o.dst=dst/\todo1=todo':=by
      split at h <;> (rename_i hdst;cases h;exact ⟨rfl,rfl,rfl,rfl,rfl,hdst,rfl⟩)
     obtain ⟨rfl,rfl,rfl,rfl,rfl,rfl,rfl⟩:=fin;exact B9 (fr:=[]) (wr:=[]) h1 (OK hg (R3 ho ht ha hob hm) hv hE) hd (hnd _ ho) hk
    ·cases h
   ·cases h
  ·cases h
 ·cases h
end
end Go.Hk
namespace Go.Hk
section
variable {P:Program} {n:Nat} {F:List Nat} {Q:DQ} {tt:TT} {env env':Env} {st st':St} {ids ids':List Nat} {k todo todo':List DI} {I:Imm} {μ:Mu} {w w':World} {a:Act}
theorem HF:∀{ds:List D} {xs:List V},Fm ds=some xs->ds.length=xs.length
 | [],xs,h=>by cases h;rfl
 | d::r,xs,h=>by
  unfold Fm at h
  split at h
  ·rename_i e;cases e
  ·rename_i x r' e;cases e
   split at h
   ·rename_i ys hy;cases h;simp [HF hy]
   ·cases h
  ·rename_i r' e;cases e
   split at h
   ·rename_i ys hy;cases h;simp [HF hy]
   ·cases h
  ·cases h
theorem QA (k:Nat) {t:TypeId} {sz:Nat} {ds:List D} (xs:List V) (hk:lk st k=some (some (.cells t sz ds))) (hcl:Fm ds=some xs) (h:DGo P n F Q todo env ((k,some (.immb t sz xs))::st) ids):DGo P n F Q todo env st ids:=by
 refine E2 λI μ a w hc=>?_;obtain ⟨p1,p2⟩:=hc.toStRep.retell (st1:=(k,some (.immb t sz xs))::st) (λi bb hlb=>by
  rcases A9.1 hlb with ⟨rfl,rfl⟩ | ⟨_,h2⟩
  ·refine ⟨_,hk,λgb hb=>?_⟩;obtain ⟨hs,b,us,e1,e2,e3,e4⟩:=hb;exact ⟨by rw [<- HF hcl,hs],b,us,e1,e2,ER hcl e3,e4⟩
  ·exact ⟨bb,h2,λ_ h=>h⟩)
 exact ⟨I,μ,env,_,ids,p1,hc.env,p2,.refl _ _,h⟩
end
end Go.Hk
namespace Go.Hk
section
variable {P:Program} {n:Nat} {F:List Nat} {Q:DQ} {tt:TT} {env env':Env} {st st' st0 st1:St} {ids ids' fr:List Nat} {k todo todo':List DI} {I J:Imm} {μ:Mu} {w:World} {a:Act} {Pn:V->Prop}
end
end Go.Hk
namespace Go.Hk
section
variable {P:Program} {n:Nat} {F:List Nat} {Q:DQ} {env:Env} {st:St} {ids:List Nat} {todo:List DI} {ob:List Prop}
end
end Go.Hk
namespace Go.Hk
section
variable {P:Program} {n:Nat} {F:List Nat} {Q:DQ} {tt:TT} {env:Env} {st:St} {ids:List Nat} {todo:List DI}
end
end Go.Hk
namespace Go.Hk
structure PMa where
 e:TypeId
 z:List V
 sz:Nat
 bytes:Nat
 m:Int
 m2:Int
 dst:Option Nat
 todo:List DI
def vX (tt:TT) (n:Nat) (env:Env) (todo:List DI):Option PMa :=
 match Bh todo ([],[]) with
 | some (_,o,todo')=>match o.guard,o.op with
  | none,.makeSlice t l c=>match lk tt t,DT env l,DT env c with
   | some { sh:=.sl e,.. },some (.imm (.int _ m)),some (.imm (.int _ m2))=>match lk tt e,BB n o.dst with
    | some ⟨_,_,sz,bytes,zero⟩,true=>match Fm zero,Nat.blt 0 sz&&Nat.beq zero.length sz with
     | some z,true=>some ⟨e,z,sz,bytes,m,m2,o.dst,todo'⟩
     | _,_=>none
    | _,_=>none
   | _,_,_=>none
  | _,_=>none
 | _=>none
theorem Rl (z:Array Value) (m:Nat) (hz:0<z.size):madeCells z (m*z.size)=(List.replicate m z.toList).flatten.toArray:=by
 apply Array.ext
 ·simp [madeCells]
 ·intro i h1 h2;have hi:i<m*z.size:=by simpa [madeCells] using h1
  have hlt:i % z.size<z.size:=TP _ hz;simp only [madeCells,Array.getElem_map,Array.getElem_range,List.getElem_toArray];rw [getElem!_pos z (i % z.size) hlt];have key:∀(q j:Nat),j<q*z.size->(List.replicate q z.toList).flatten[j]?=z.toList[j % z.size]?:=by
   intro q
   induction q with
   | zero=>intro j hj;omega
   | succ q ih =>
    intro j hj;rw [List.replicate_succ,Jo];by_cases h:j<z.size
    ·rw [PK (by simpa using h),Nat.mod_eq_of_lt h]
    ·have e:(q+1)*z.size=q*z.size+z.size:=PJ _ _;rw [NL (by simp;omega),ih _ (by simp;omega)];congr 1;simp only [Sp];exact (Nat.mod_eq_sub_mod (by omega)).symm
  have:=key m i hi;have h3:(List.replicate m z.toList).flatten[i]?=some ((List.replicate m z.toList).flatten[i]'(by simpa using h2)):=Bi _;rw [h3] at this;rw [Bi (by simpa using hlt)] at this;simpa using (NK this).symm
section
variable {P:Program} {n:Nat} {F:List Nat} {Q:DQ} {tt:TT} {env:Env} {st:St} {ids:List Nat} {todo:List DI}
theorem Qu (htt:TTok P tt) {c:PMa} (h:vX tt n env todo=some c) (hm:c.m2=c.m) (h0:0<=c.m) (h1:(c.bytes:Int)*c.m<=281474976710656) (h2:c.m<=maxLen)
  (hk:G P n F Q c.todo (BD c.dst (.imm (.sl (List.replicate c.m.toNat c.z))) env) st ids):G P n F Q todo env st ids:=by
 unfold vX at h
 split at h
 ·rename_i o todo' hn1
  split at h
  ·rename_i t l cc hg hop
   split at h
   ·rename_i e _ _ _ _ k1 m k2 m2 ht hl hc
    split at h
    ·rename_i sh ag sz bytes zero hi hd
     split at h
     ·rename_i z hz hsz0;cases h;simp only at hm h0 h1 h2 hk;have hm:=hm.symm;subst hm;refine B9 (fr:=[]) (wr:=[]) (rd:=[]) hn1 ?_ hd (λc hc=>by rw [hop] at hc;cases hc) hk;intro I μ st1 ids1 a w hag hst hon;refine ⟨λ_=>?_,λhw=>by rw [AG hg] at hw;cases hw⟩;have hops:=Bd hon;rw [hop] at hops;have rl:=hops l (by simp [Op.operands]) _ hl;have rc:=hops cc (by simp [Op.operands]) _ hc;obtain ⟨inf,zv,i1,i2,i3,i4,i5,i6⟩:=(htt e _ hi).info;have hz1:=ER hz (i5 I μ);simp only [A1,Ha] at hsz0;have hpos:0<sz:=hsz0.1;have hsz:inf.size=sz:=i2;have hcs:zv.cells.size=sz:=by
       have:=(i5 I μ).1;rw [<- Cx hsz0.2];simpa using this
      have hby:inf.bytes=bytes:=i3;have hrun:(execOp a.eval o).run P w = .ok (.value (.slice (some ⟨w.heap.size,0,none⟩) m.toNat m.toNat)) (w.alloc (.cells (List.replicate m.toNat zv.cells.toList).flatten.toArray e)):=by
       have hs:=(htt t _ ht).sh;have hx:=run_make (P:=P) w t e inf zv hs i1 i4 k1 k2 m m h0 (Jt _) (by rw [hby];exact h1) (by simpa [maxLen] using h2);rw [hsz,<- hcs,Rl _ _ (by rw [hcs];exact hpos)] at hx;simp only [execOp,hop];generalize a.eval l=vl at rl;generalize a.eval cc=vc at rc;cases rl with
       | imm _ _ rl =>
       cases rc with
       | imm _ _ rc =>
       cases rl;cases rc;simp only [Sem.run_bind,hx,Result.andThen_ok,Sem.run_pure]
      rw [hrun];obtain ⟨I',s1,s2,s3⟩:=gT hst e sz (List.replicate m.toNat zv.cells.toList) (List.replicate m.toNat z) (by simp) (λc hc=>by rw [kD hc];simpa using hcs)
       (λc hc=>by rw [kD hc,<- hz1.1];simpa using hcs)
       (λk c x hc hx=>by
        rw [kG] at hc hx
        split at hc
        ·rename_i hq;rw [if_pos hq] at hx;cases hc;cases hx;exact ⟨hz1,i6⟩
        ·cases hc) m.toNat (by simp) (by simp [maxLen] at h2 ⊢;omega) []
      rw [IM,PO] at *;exact ⟨I',μ,s1,s2,Mu.le_refl μ,s3⟩
     ·cases h
    ·cases h
   ·cases h
  ·cases h
 ·cases h
end
end Go.Hk
namespace Go.Hk
section
variable {P:Program} {n:Nat} {F:List Nat} {Q:DQ} {tt:TT} {env env':Env} {st st':St} {ids ids':List Nat} {k todo todo':List DI} {I:Imm} {μ:Mu} {w w':World} {a:Act} {Pn:V->Prop} {d:D} {cx:Prop} {ob:List Prop}
end
end Go.Hk
namespace Go.Hk
end Go.Hk
namespace Go.Hk
open Go.Proofs
def WS:TT:=[
 (3,⟨.int .i64,false,1,8,[.imm (.int .i64 0)]⟩),
 (25,⟨.struct [(0,22),(1,3),(2,9),(3,23)],true,4,56,[.imm (.int .i64 0),.imm (.int .i64 0),.imm (.str []),.nils]⟩),
 (4,⟨.bool,false,1,1,[.imm (.bool false)]⟩),
 (23,⟨.sl 25,false,1,24,[.nils]⟩),
 (1,⟨.func,false,1,8,[.imm .nilfn]⟩),
 (9,⟨.str,false,1,16,[.imm (.str [])]⟩),
 (92,⟨.ptr 98,false,1,8,[.imm .nilp]⟩),
 (22,⟨.int .i64,false,1,8,[.imm (.int .i64 0)]⟩),
 (49,⟨.struct [(0,45),(1,3),(2,9),(3,46),(4,47)],true,5,80,[.imm (.int .i64 0),.imm (.int .i64 0),.imm (.str []),.nils,.nils]⟩),
 (118,⟨.sl 84,false,1,24,[.nils]⟩),
 (28,⟨.int .i64,false,1,8,[.imm (.int .i64 0)]⟩),
 (5,⟨.int .u8,false,1,1,[.imm (.int .u8 0)]⟩),
 (43,⟨.struct [(0,9),(1,40),(2,41)],true,3,64,[.imm (.str []),.nils,.nils]⟩),
 (120,⟨.map 3 4,false,1,8,[.imm .nilmap]⟩),
 (71,⟨.struct [(0,9),(1,9),(2,25),(6,25),(10,49)],true,15,224,[.imm (.str []),.imm (.str []),.imm (.int .i64 0),.imm (.int .i64 0),.imm (.str []),.nils,.imm (.int .i64 0),.imm (.int .i64 0),.imm (.str []),.nils,.imm (.int .i64 0),.imm (.int .i64 0),.imm (.str []),.nils,.nils]⟩),
 (145,⟨.iface,false,1,16,[.imm .niliface]⟩),
 (178,⟨.struct [(0,9),(1,23)],true,2,40,[.imm (.str []),.nils]⟩),
 (98,⟨.struct [(0,43),(3,96),(4,3),(5,23)],true,6,104,[.imm (.str []),.nils,.nils,.imm .nilmap,.imm (.int .i64 0),.nils]⟩),
 (41,⟨.sl 71,false,1,24,[.nils]⟩),
 (96,⟨.map 3 25,false,1,8,[.imm .nilmap]⟩),
 (20,⟨.iface,false,1,16,[.imm .niliface]⟩),
 (84,⟨.struct [(0,9),(1,25)],true,5,72,[.imm (.str []),.imm (.int .i64 0),.imm (.int .i64 0),.imm (.str []),.nils]⟩),
 (139,⟨.map 9 4,false,1,8,[.imm .nilmap]⟩),
 (45,⟨.int .i64,false,1,8,[.imm (.int .i64 0)]⟩),
 (182,⟨.struct [(0,180),(1,3),(2,9),(3,47)],true,4,56,[.imm (.int .i64 0),.imm (.int .i64 0),.imm (.str []),.nils]⟩),
 (26,⟨.func,false,1,8,[.imm .nilfn]⟩),
 (113,⟨.struct [(0,9),(1,111)],true,2,40,[.imm (.str []),.nils]⟩),
 (40,⟨.sl 113,false,1,24,[.nils]⟩),
 (119,⟨.ptr 123,false,1,8,[.imm .nilp]⟩),
 (64,⟨.int .i64,false,1,8,[.imm (.int .i64 0)]⟩),
 (167,⟨.struct [],true,0,0,[]⟩),
 (180,⟨.int .i64,false,1,8,[.imm (.int .i64 0)]⟩),
 (58,⟨.sl 45,false,1,24,[.nils]⟩),
 (138,⟨.map 45 4,false,1,8,[.imm .nilmap]⟩),
 (46,⟨.sl 49,false,1,24,[.nils]⟩),
 (121,⟨.map 3 3,false,1,8,[.imm .nilmap]⟩),
 (123,⟨.struct [(0,120),(1,121)],true,2,16,[.imm .nilmap,.imm .nilmap]⟩),
 (47,⟨.sl 182,false,1,24,[.nils]⟩),
 (148,⟨.struct [(0,3)],true,1,8,[.imm (.int .i64 0)]⟩),
 (149,⟨.struct [(0,3)],true,1,8,[.imm (.int .i64 0)]⟩),
 (171,⟨.struct [],true,0,0,[]⟩),
 (151,⟨.struct [],true,0,0,[]⟩),
 (202,⟨.arr 29 201,true,29,232,[.imm .nilfn,.imm .nilfn,.imm .nilfn,.imm .nilfn,.imm .nilfn,.imm .nilfn,.imm .nilfn,.imm .nilfn,.imm .nilfn,.imm .nilfn,.imm .nilfn,.imm .nilfn,.imm .nilfn,.imm .nilfn,.imm .nilfn,.imm .nilfn,.imm .nilfn,.imm .nilfn,.imm .nilfn,.imm .nilfn,.imm .nilfn,.imm .nilfn,.imm .nilfn,.imm .nilfn,.imm .nilfn,.imm .nilfn,.imm .nilfn,.imm .nilfn,.imm .nilfn]⟩),
 (111,⟨.sl 178,false,1,24,[.nils]⟩),
 (44,⟨.sl 84,false,1,24,[.nils]⟩),
 (126,⟨.func,false,1,8,[.imm .nilfn]⟩),
 (116,⟨.func,false,1,8,[.imm .nilfn]⟩),
 (174,⟨.ptr 3,false,1,8,[.imm .nilp]⟩),
 (110,⟨.func,false,1,8,[.imm .nilfn]⟩),
 (130,⟨.sl 3,false,1,24,[.nils]⟩),
 (125,⟨.func,false,1,8,[.imm .nilfn]⟩),
 (201,⟨.func,false,1,8,[.imm .nilfn]⟩),
 (258,⟨.func,false,1,8,[.imm .nilfn]⟩),
 (361,⟨.func,false,1,8,[.imm .nilfn]⟩),
 (362,⟨.ptr 5,false,1,8,[.imm .nilp]⟩)]
theorem Ah:TTok Tryz.prog WS:=.of_eq (l:=[3,25,4,23,1,9,92,22,49,118,28,5,43,120,71,145,178,98,41,96,20,84,139,45,182,26,113,40,119,64,167,180,58,138,46,121,123,47,148,149,171,151,202,111,44,126,116,174,110,130,125,201,258,361,362]) (by kernel_rfl)
section
variable {n:Nat} {F:List Nat} {Q:DQ} {env env':Env} {st st':St} {ids ids':List Nat} {k todo:List DI} {ob:List Prop}
theorem yd (path:List Pt) (h:run WS n 300 path todo env st ids [] = .at k env' st' ids' ob) (hob:AB ob) (hd:G Tryz.prog n F Q k env' st' ids'):DGo Tryz.prog n F Q todo env st ids:=KK Ah Fb 300 path h hob hd
theorem Aq (h:run WS n 300 [] todo env st ids [] = .at k env' st' ids' ob) (hd:G Tryz.prog n F Q k env' st' ids') (hob:AB ob:=by simp):DGo Tryz.prog n F Q todo env st ids:=yd [] h hob hd
theorem KM (h:run WS n 300 [] todo env st ids [] = .at k env' st' ids' ob) (hd:G Tryz.prog n F Q k env' st' ids') (hob:AB ob:=by simp [Am]):DGo Tryz.prog n F Q todo env st ids:=yd [] h hob hd
theorem yg (path:List Pt) (h:run WS n 300 path todo env st ids [] = .at k env' st' ids' ob) (hob:AB ob) (hd:G Tryz.prog n F Q k env' st' ids'):G Tryz.prog n F Q todo env st ids:=J6 Ah Fb 300 path h hob hd
theorem Ai (h:run WS n 300 [] todo env st ids [] = .at k env' st' ids' ob) (hd:G Tryz.prog n F Q k env' st' ids') (hob:AB ob:=by simp):G Tryz.prog n F Q todo env st ids:=yg [] h hob hd
theorem BU (h:run WS n 300 [] todo env st ids [] = .at k env' st' ids' ob) (hd:G Tryz.prog n F Q k env' st' ids') (hob:AB ob:=by simp [Am]):G Tryz.prog n F Q todo env st ids:=yg [] h hob hd
theorem vM (f:Nat) (h:run WS n f [] todo env st ids [] = .at k env' st' ids' ob) (hob:AB ob) (hd:G Tryz.prog n F Q k env' st' ids'):DGo Tryz.prog n F Q todo env st ids:=KK Ah Fb f [] h hob hd
theorem M5 (f:Nat) (h:run WS n f [] todo env st ids [] = .at k env' st' ids' ob) (hob:AB ob) (hd:G Tryz.prog n F Q k env' st' ids'):G Tryz.prog n F Q todo env st ids:=J6 Ah Fb f [] h hob hd
theorem yi {es:List (List V)} {m:Int} {sz:Nat} {e:TypeId} {g:Option (Bool×Bool)} {ob:List Prop} {t:Nat} {todo':List DI} {c:List V} (h:Rh WS n env todo=some ⟨es,m,sz,e,g,ob,some t,todo'⟩)
  (hc:Am g->0<=m/\es[m.toNat]?=some c/\c.length=sz) (hob:AB ob) (hk:G Tryz.prog n F Q todo' ((t,gD g (.ip e c 0))::env) st ids):G Tryz.prog n F Q todo env st ids:=H5 Ah h hc hob hk
end
def FO:V:=.iface 167 (.agg [])
theorem Fc:Al Tryz.prog 117 [.bool true] (.tup []):=by
 exact Ac Ah Tryz.func117 (by decide +kernel) rfl [1,2] rfl rfl <| yg [.a] rfl (by simp) <| BE ⟨_,AM⟩
theorem kU:AK Tryz.prog 117 [.imm (.bool false)] [] (.pan FO):=by
 exact Ac Ah Tryz.func117 (by decide +kernel) rfl [1,2] rfl rfl <| yg [.a] rfl (by simp) <| Ik rfl rfl rfl rfl
theorem Ia (b:Bool) (h:b=false):AK Tryz.prog 117 [.imm (.bool b)] [] (.pan FO):=by subst h;exact kU
theorem VD (n:Int):Al Tryz.prog 59 [.int .i64 n] (.agg (dTyc (As n))):=by
 exact Ac Ah Tryz.func59 (by decide +kernel) rfl [1,2] rfl rfl <| Ai rfl <| Ab rfl rfl rfl
theorem B2 (s:Int) (ps:List Ty):Al Tryz.prog 258 [.int .i64 s,.sl (A2 ps)] (.agg (dTyc (.mk s 0 [] ps))):=by
 exact Ac Ah Tryz.func258 (by decide +kernel) rfl [1,2] rfl rfl <| Ai rfl <| Ab rfl rfl rfl
def bQ (m:Md) (k:Int) (M P len:Nat):Blk:=.cells 98 6 [.imm (.str m.name),.imm (.sl (m.datas.map CK)),.imm (.sl (m.funs.map CG)),.mapr M,.imm (.int .i64 k),.own P len]
def UM (T:List (Int×Ty)):Blk:=.map (T.map fR)
def C8 (m:Md) (T:List (Int×Ty)) (k:Int) (S:List Ty):St:=[(1,some (bQ m k 2 3 (A2 S).length)),(2,some (UM T)),(3,some (.row 25 4 (A2 S)))]
theorem DU (T:List (Int×Ty)):∀p∈T.map fR,GA (.int .i64) p.1=true:=λp hp=>by
 obtain ⟨q,_,rfl⟩:=Cc.1 hp;rfl
theorem Ht (I:Imm):RepV I (.agg #[.int .i64 0,.int .i64 0,.string ⟨#[]⟩,.slice none 0 0]) (.agg (dTyc F5)):=.agg _ _ rfl (by decide) (λi c x h1 h2=>by
 match i,h1,h2 with
 | 0,h1,h2=>cases h1;cases h2;exact .int _ _
 | 1,h1,h2=>cases h1;cases h2;exact .int _ _
 | 2,h1,h2=>cases h1;cases h2;exact .str _ _ rfl
 | 3,h1,h2=>cases h1;cases h2;exact .slnil
 | i+4,h1,h2=>simp at h1)
theorem H4 (m:Md) (T:List (Int×Ty)) (k:Int) (S:List Ty) (hk:0<=k/\k<=1000000):AK Tryz.prog 259 [.ref 1 0] (C8 m T k S) (.ret (.imm (.agg (dTyc (As k)))) (C8 m T (k+1) S)):=by
 have e1:IntKind.i64.wrap (k+1)=k+1:=Cb (by omega) (by omega);have hH:Al Tryz.prog 59 [.int .i64 (IntKind.i64.wrap (IntKind.i64.wrap (k+1)-1))] (.agg (dTyc (As k))):=by
  rw [e1,Cb (by omega) (by omega),show k+1-1=k by omega];exact VD k
 refine Ac Ah Tryz.func259 (by decide +kernel) rfl [4,5] rfl rfl <| Ai rfl <| Af rfl hH <| Ai rfl <| Ag ⟨_,rfl,rfl,?_,AM⟩;show some (some (bQ m (IntKind.i64.wrap (k+1)) 2 3 _))=_;rw [e1]
theorem BZ (m:Md) (T:List (Int×Ty)) (k:Int) (S:List Ty) {θ:Int->Ty} (hs:Sol (B6 T) θ) (t u:Ty) (ht:Top (B6 T) t u):AK Tryz.prog 116 [.ref 1 0,.imm (.agg (dTyc t))] (C8 m T k S) (.ret (.imm (.agg (dTyc u))) (C8 m T k S)):=by
 obtain ⟨a1,a2,a3,a4⟩:=t;refine Ac Ah Tryz.func116 (by decide +kernel) rfl [4,5,6,7] rfl rfl <| Ai rfl <| Ak (λx:Ty=>[(0,.ref 1 0),(3,.ref 4 0),(4,.ref 5 0)]) (λx=>(4,some (.immb 25 4 (dTyc x)))::(5,some (.cells 25 4 [.imm (.int .i64 0),.imm (.int .i64 0),.imm (.str []),.nils]))::C8 m T k S) [6,7] (λx=>if BA x=9/\B6 T (num x)≠none then (num x).toNat+1 else 0)
  (λx=>Top (B6 T) x u) (.mk a1 a2 a3 a4) ht AD Bx rfl λx hx ih=>?_
 clear ht;obtain ⟨f,n,y,ps⟩:=x;refine Aq rfl ?_;by_cases e9:f=9
 ·subst e9;refine Aa rfl (λh=>?_) (λh=>by exfalso;simp at h);refine Aq rfl ?_;have hlk:=GK n T;cases hsb:B6 T n with
  | none =>
   rw [hsb] at hlk;have hu:Ty.mk 9 n y ps=u:=by
    cases hx with
    | stop _=>rfl
    | step _ h2 _=>rw [show num (Ty.mk 9 n y ps)=n from rfl,hsb] at h2;cases h2
   subst hu;refine C9 Ah 2 (zd:=.agg (dTyc F5)) (dr:=.imm (.tup [.agg (dTyc F5),.bool false])) rfl rfl rfl (DU T) (by simp) rfl Ht (by simp only [Fr,hlk];rfl) <| yg [] rfl (by simp;rfl) <| Aa rfl (λh=>?_) (λh=>by exfalso;simp at h);exact Aq rfl <| Ag ⟨_,Bx⟩
  | some v =>
   rw [hsb] at hlk;have hx3:Top (B6 T) v u:=by
    cases hx with
    | stop h=>have:=h rfl;rw [show num (Ty.mk 9 n y ps)=n from rfl,hsb] at this;cases this
    | step _ h2 h3=>rw [show num (Ty.mk 9 n y ps)=n from rfl,hsb] at h2;cases h2;exact h3
   have hih:=ih v (by
    rw [if_pos (show BA (Ty.mk 9 n y ps)=9/\B6 T (num (Ty.mk 9 n y ps))≠none from ⟨rfl,by rw [show num (Ty.mk 9 n y ps)=n from rfl,hsb];simp⟩)]
    split
    ·rename_i h;have:=hs.down n v hsb h.1;simp only [num] at *;omega
    ·omega) hx3
   obtain ⟨v1,v2,v3,v4⟩:=v;refine C9 Ah 2 (zd:=.agg (dTyc F5)) (dr:=.imm (.tup [.agg (dTyc (.mk v1 v2 v3 v4)),.bool true])) rfl rfl rfl (DU T) (by simp) rfl Ht (by simp only [Fr,hlk];rfl) <| yg [] rfl (by simp;rfl) <| Aa rfl (λh=>by exfalso;simp at h) (λh=>?_);exact Aq rfl <| Ae hih AD Bx rfl
 ·refine Aa rfl (λh=>by exfalso;simp at h;exact e9 h) (λh=>?_);have hu:Ty.mk f n y ps=u:=by
   cases hx with
   | stop _=>rfl
   | step h1 _ _=>exact absurd h1 e9
  subst hu;exact Aw rfl <| Aq rfl <| Ag ⟨_,Bx⟩
end Go.Hk
namespace Go.Hk
open Go.Proofs
theorem tU {β:Type} (a b:List (Nat×β)) (t:Nat):lk (a++b) t=(match lk a t with | some x=>some x | none=>lk b t):=by
 induction a with
 | nil=>rfl
 | cons p r ih=>simp only [Db,lk];split <;> simp_all
theorem TTok.app {P:Program} {a b:TT} (ha:TTok P a) (hb:TTok P b):TTok P (a++b):=λt ti h=>by
 rw [tU] at h;cases e:lk a t with
 | some x=>rw [e] at h;cases h;exact ha t _ e
 | none=>rw [e] at h;exact hb t _ h
def oK:TT:=WS++[
 (238,⟨.ptr 279,false,1,8,[.imm .nilp]⟩),
 (283,⟨.struct [(0,281),(1,9),(2,3),(3,3)],true,4,40,[.imm (.int .i64 0),.imm (.str []),.imm (.int .i64 0),.imm (.int .i64 0)]⟩),
 (275,⟨.sl 283,false,1,24,[.nils]⟩),
 (279,⟨.struct [(0,275),(1,3),(2,4)],true,3,40,[.nils,.imm (.int .i64 0),.imm (.bool false)]⟩),
 (281,⟨.int .i64,false,1,8,[.imm (.int .i64 0)]⟩),
 (73,⟨.sl 9,false,1,24,[.nils]⟩)]
theorem AE:TTok Tryz.prog oK:=TTok.app Ah (.of_eq (l:=[238,283,275,279,281,73]) (by kernel_rfl))
section
variable {n:Nat} {F:List Nat} {Q:DQ} {env env':Env} {st st':St} {ids ids':List Nat} {k todo:List DI} {ob:List Prop}
theorem jd (path:List Pt) (h:run oK n 300 path todo env st ids [] = .at k env' st' ids' ob) (hob:AB ob) (hd:G Tryz.prog n F Q k env' st' ids'):DGo Tryz.prog n F Q todo env st ids:=KK AE Fb 300 path h hob hd
theorem A3 (h:run oK n 300 [] todo env st ids [] = .at k env' st' ids' ob) (hd:G Tryz.prog n F Q k env' st' ids') (hob:AB ob:=by simp):DGo Tryz.prog n F Q todo env st ids:=jd [] h hob hd
theorem VK (h:run oK n 300 [] todo env st ids [] = .at k env' st' ids' ob) (hd:G Tryz.prog n F Q k env' st' ids') (hob:AB ob:=by simp [Am]):DGo Tryz.prog n F Q todo env st ids:=jd [] h hob hd
theorem jg (path:List Pt) (h:run oK n 300 path todo env st ids [] = .at k env' st' ids' ob) (hob:AB ob) (hd:G Tryz.prog n F Q k env' st' ids'):G Tryz.prog n F Q todo env st ids:=J6 AE Fb 300 path h hob hd
theorem Ap (h:run oK n 300 [] todo env st ids [] = .at k env' st' ids' ob) (hd:G Tryz.prog n F Q k env' st' ids') (hob:AB ob:=by simp):G Tryz.prog n F Q todo env st ids:=jg [] h hob hd
theorem Kq (h:run oK n 300 [] todo env st ids [] = .at k env' st' ids' ob) (hd:G Tryz.prog n F Q k env' st' ids') (hob:AB ob:=by simp [Am]):G Tryz.prog n F Q todo env st ids:=jg [] h hob hd
theorem jgf (f:Nat) (h:run oK n f [] todo env st ids [] = .at k env' st' ids' ob) (hob:AB ob) (hd:G Tryz.prog n F Q k env' st' ids'):G Tryz.prog n F Q todo env st ids:=J6 AE Fb f [] h hob hd
theorem ji {es:List (List V)} {m:Int} {sz:Nat} {e:TypeId} {g:Option (Bool×Bool)} {ob:List Prop} {t:Nat} {todo':List DI} {c:List V} (h:Rh oK n env todo=some ⟨es,m,sz,e,g,ob,some t,todo'⟩)
  (hc:Am g->0<=m/\es[m.toNat]?=some c/\c.length=sz) (hob:AB ob) (hk:G Tryz.prog n F Q todo' ((t,gD g (.ip e c 0))::env) st ids):G Tryz.prog n F Q todo env st ids:=H5 AE h hc hob hk
end
theorem Sr (c:UInt8):Al Tryz.prog 309 [.int .u8 c.toNat] (.bool (Rm c)):=by
 refine Ac AE Tryz.func309 (by decide +kernel) rfl [1,2] rfl rfl <| Kq rfl <| Ab rfl rfl (congrArg _ ?_);simp [Rm,UInt8.le_iff_toNat_le];norm_cast
theorem eF (c:UInt8):Al Tryz.prog 311 [.int .u8 c.toNat] (.bool (lU c)):=by
 refine Ac AE Tryz.func311 (by decide +kernel) rfl [1,2] rfl rfl <| Kq rfl <| Ab rfl rfl (congrArg _ ?_);simp [lU,UInt8.le_iff_toNat_le];norm_cast
theorem Ws (c:UInt8):Al Tryz.prog 312 [.int .u8 c.toNat] (.bool (Ml c)):=by
 refine Ac AE Tryz.func312 (by decide +kernel) rfl [1,2] rfl rfl <| Kq rfl <| Ab rfl rfl (congrArg _ ?_);simp [Ml,UInt8.le_iff_toNat_le];norm_cast
theorem bX {s:Str} {a:Nat} {d:Bool} {c:UInt8} (h:s[a]?=some c):G6 s a d=if (if d=true then Ml c else Rm c)=true then G6 s (a+1) d+1 else 0:=by
 unfold G6;rw [Av h,Rd];cases d <;> rfl
theorem hZ {s:Str} {a:Nat} {d:Bool} (h:s.length<=a):G6 s a d=0:=by
 unfold G6;rw [Br h];rfl
theorem Zy (s:Str) (a:Nat) (d:Bool):G6 s a d<=s.length-a:=by
 have h:∀(p:UInt8->Bool) (l:Str),Rd p l<=l.length:=λp l=>by
  induction l with
  | nil=>simp [Rd]
  | cons c r ih=>simp only [Rd];split <;> simp <;> omega
 have:=h (if d=true then Ml else Rm) (s.drop a);rw [IN] at this;exact this
theorem Tp (s:Str) (a:Nat) (d:Bool) (ha:a<=s.length) (hs:s.length<=1000000):Al Tryz.prog 310 [.str s,.int .i64 a,.bool d] (.int .i64 (G6 s a d)):=by
 refine Ac AE Tryz.func310 (by decide +kernel) rfl [1,2] rfl rfl <| Ap rfl <| Ak (λn:Nat=>[(7,.imm (.int .i64 n)),(0,.imm (.str s)),(1,.imm (.int .i64 a)),(2,.imm (.bool d))]) (λ_=>[]) [1,2] (λn=>s.length-n) (λn=>a<=n/\n<=s.length/\G6 s a d=n-a+G6 s n d) a
  ⟨B8 _,ha,by omega⟩ BF trivial rfl λn hn ih=>?_
 obtain ⟨hn1,hn2,hn3⟩:=hn;have hD:=Ws (s[n]?.getD 0);have hL:=Sr (s[n]?.getD 0);by_cases hlt:n<s.length
 ·obtain ⟨c,hc⟩:=Ao hlt;have hcn:s[n]?.getD 0=c:=by rw [hc];rfl
  have hgo:∀o,(if d=true then Ml c else Rm c)=o->G6 s a d=if o=true then (n+1-a)+G6 s (n+1) d else n-a:=λo h=>by
   rw [hn3,bX hc,h];split <;> omega
  rw [<- hcn] at hgo;refine jd [] rfl (by simp [Am];omega) ?_;cases d with
  | true =>
   refine Bz rfl hD <| Kq rfl <| Aj (v:=.bool false) rfl (λhc=>by simp [Am] at hc) (by simp [Am]) <| jg [] rfl (by simp [Am];grind) ?_;have:=hgo _ rfl;simp only [if_true] at this;generalize Ml (s[n]?.getD 0)=o at *;cases o with
   | true =>
    refine Aa rfl (λh=>?_) (λh=>by exfalso;simp [hlt] at h);exact A3 rfl <| Ae (ih (n+1) (by omega) ⟨by omega,by omega,by simpa using this⟩) ⟨AA (Cb (by omega) (by omega)),AD⟩ trivial rfl
   | false =>
    refine Aa rfl (λh=>by exfalso;simp at h) (λh=>?_);exact Aw rfl <| A3 rfl <| Ag ⟨_,rfl,tV (congrArg _ (by rw [this];simp;rw [Cb (by omega) (by omega)];omega)),trivial⟩
  | false =>
   refine Aj (v:=.bool false) rfl (λhc=>by simp [Am] at hc) (by simp [Am]) <| Kq rfl <| Bz rfl hL <| Kq rfl ?_;have:=hgo _ rfl;simp only [Eo,if_false] at this;generalize Rm (s[n]?.getD 0)=o at *;cases o with
   | true =>
    refine Aa rfl (λh=>?_) (λh=>by exfalso;simp [hlt] at h);exact A3 rfl <| Ae (ih (n+1) (by omega) ⟨by omega,by omega,by simpa using this⟩) ⟨AA (Cb (by omega) (by omega)),AD⟩ trivial rfl
   | false =>
    refine Aa rfl (λh=>by exfalso;simp at h) (λh=>?_);exact Aw rfl <| A3 rfl <| Ag ⟨_,rfl,tV (congrArg _ (by rw [this];simp;rw [Cb (by omega) (by omega)];omega)),trivial⟩
 ·rw [hZ (a:=n) (by omega)] at hn3;refine jd [] rfl (by simp [Am];omega) <| Aj (v:=.bool false) rfl (λhc=>by simp [Am] at hc;omega) (by simp [Am]) <| jg [] rfl (by simp [Am];omega) <| Aj (v:=.bool false) rfl (λhc=>by simp [Am] at hc;omega) (by simp [Am]) <| jg [] rfl (by simp [Am];omega) <| Aa rfl (λh=>by exfalso;simp at h) (λh=>?_);exact Aw rfl <| A3 rfl <| Ag ⟨_,rfl,tV (congrArg _ (by rw [hn3,Cb (by omega) (by omega)];omega)),trivial⟩
end Go.Hk
namespace Go.Hk
open Go.Proofs
theorem gU:Al Tryz.prog 320 [] (.sl (Gg signsL)):=by
 exact Ac AE Tryz.func320 (by decide +kernel) rfl [1] rfl rfl <| Ap rfl <| Ab rfl rfl rfl
theorem Xf {t x:Str} {l:List Str} {i:Nat} (h:l[i]?=some x):Kz t (l.drop i)=if x.length<=t.length/\t.take x.length=x then x else Kz t (l.drop (i+1)):=by rw [Av h,Kz]
theorem oS (s:Str) (a:Nat) (ha:a<=s.length) (hs:s.length<=1000000):Al Tryz.prog 315 [.str s,.int .i64 a] (.str (RP s a)):=by
 have hS:=gU;have hlen:∀x∈signsL,x.length<=2:=by decide
 have hll:signsL.length<=18:=by decide
 unfold RP;generalize signsL=l at *;refine Ac AE Tryz.func315 (by decide +kernel) rfl [1] rfl rfl <| Ap rfl <| Af rfl hS <| Ap rfl <| Ak (λi:Nat=>[(6,.imm (.int .i64 i)),(5,.imm (.sl (Gg l))),(0,.imm (.str s)),(1,.imm (.int .i64 a))]) (λ_=>[]) [1] (λi=>l.length-i) (λi=>i<=l.length/\Kz (s.drop a) l=Kz (s.drop a) (l.drop i)) 0
  ⟨AL _,rfl⟩ BF trivial rfl λi hi ih=>?_
 obtain ⟨hi1,hi2⟩:=hi;refine A3 rfl <| Aa rfl (λh=>?_) (λh=>?_)
 ·have hlt:i<l.length:=by simp at h;omega
  obtain ⟨x,hx⟩:=Ao hlt;have hg:=QH hx;have hxl:=hlen x (AF hx);rw [Xf hx] at hi2;refine A3 rfl <| ji rfl (c:=[.str x]) (λ_=>⟨by simp,by simpa using hg,by simp⟩) (by simp) <| Kq rfl <| ji rfl (c:=[.str x]) (λ_=>⟨by simp,by simpa using hg,by simp⟩) (by simp [Am]) ?_;have w1:IntKind.i64.wrap ((s.length:Int)-a)=s.length-a:=Cb (by omega) (by omega);have w2:IntKind.i64.wrap ((a:Int)+x.length)=a+x.length:=Cb (by omega) (by omega);refine jg [] rfl (by simp [Am,w1,w2];omega) <| ji rfl (c:=[.str x]) (λ_=>⟨by simp,by simpa using hg,by simp⟩) (by simp [Am]) <| jg [] rfl (by simp [Am];kernel_rfl) ?_
  have hc:(x.length<=(s.drop a).length/\(s.drop a).take x.length=x)↔((x.length:Int)<=s.length-a/\(s.drop a).take (a+x.length-a)=x):=by
   rw [IN,kE];refine and_congr ?_ Iff.rfl;omega
  have ha2:((a:Int)+(x.length:Int)).toNat=a+x.length:=by omega
  refine Aa rfl (λh=>?_) (λh=>?_)
  ·rw [w1,w2,ha2] at h;rw [if_pos (hc.2 (by simpa [and_comm] using h))] at hi2;exact A3 rfl <| ji rfl (c:=[.str x]) (λ_=>⟨by simp,by simpa using hg,by simp⟩) (by simp) <| Ap rfl <| Ag ⟨_,rfl,tV (congrArg _ hi2.symm),trivial⟩
  ·rw [w1,w2,ha2] at h;rw [if_neg (λh'=>by have:=hc.1 h';simp [this] at h;exact h h'.2)] at hi2;exact A3 rfl <| Ae (ih (i+1) (by omega) ⟨by omega,hi2⟩) ⟨AA (Cb (by omega) (by omega)),AD⟩ trivial rfl
 ·have hlt:l.length<=i:=by simp at h;omega
  rw [Br hlt] at hi2;exact Aw rfl <| A3 rfl <| Ag ⟨_,rfl,tV (congrArg _ hi2.symm),trivial⟩
theorem Wt {c:UInt8} (h:Ml c=true):48<=c.toNat/\c.toNat<=57:=by
 simp only [Ml,A1,decide_eq_true_eq,UInt8.le_iff_toNat_le] at h;exact h
theorem VM (s:Str) (a:Nat) (ha:a<s.length) (hs:s.length<=1000000) (hd:Ml (s.getD a 0)=true) (hr:G6 s a true=1):Al Tryz.prog 313 [.str s,.int .i64 a] (.int .i64 1):=by
 have hR:=Tp s a true (by omega) hs;obtain ⟨h1,h2⟩:=Wt hd;have hg:s[a]?.getD 0=s.getD a 0:=by simp
 rw [<- hg] at h1 h2;rw [hr] at hR;refine Ac AE Tryz.func313 (by decide +kernel) rfl [1] rfl rfl <| jg [] rfl (by simp;omega) <| Aa rfl (λh=>by exfalso;simp at h;omega) (λh=>?_);refine A3 rfl <| Af rfl hR <| jg [] rfl (by simp [Am];omega) <| Aa rfl (λh=>by exfalso;simp at h) (λh=>?_);exact A3 rfl <| Ag ⟨_,rfl,tV (by simp;rfl),trivial⟩
theorem X8 (c:UInt8) (hd:Ml c=true):Al Tryz.prog 314 [.str [c]] (.int .i64 ((c.toNat:Int)-48)):=by
 obtain ⟨h1,h2⟩:=Wt hd;have hw:IntKind.i64.wrap (IntKind.i64.wrap 0+IntKind.i64.wrap (IntKind.u8.wrap ((c.toNat:Int)-48)))=(c.toNat:Int)-48:=by
  obtain ⟨k,hk,e⟩:∃k:Nat,k<10/\c.toNat=48+k:=⟨c.toNat-48,by omega,by omega⟩
  rw [e];clear e h1 h2 hd;revert k;decide
 refine Ac AE Tryz.func314 (by decide +kernel) rfl [1] rfl rfl <| Ap rfl <| Aa rfl (λh=>by exfalso;simp at h;omega) (λh=>?_);refine A3 rfl <| Ak (λi:Nat=>[(4,.imm (.int .i64 i)),(3,.imm (.int .i64 (if i=0 then 0 else (c.toNat:Int)-48))),(0,.imm (.str [c]))]) (λ_=>[]) [1] (λi=>1-i) (λi=>i<=1) 0
  (AL _) AD trivial rfl λi hi ih=>?_
 rcases Nat.lt_or_ge i 1 with hlt | hge
 ·obtain rfl:i=0:=by omega
  refine A3 rfl <| Aa rfl (λh=>?_) (λh=>by exfalso;simp at h);exact A3 rfl <| Ae (ih 1 (by omega) (B8 _)) ⟨AA rfl,AA (by simp;exact hw),AI⟩ trivial rfl
 ·obtain rfl:i=1:=by omega
  refine A3 rfl <| Aa rfl (λh=>by exfalso;simp at h) (λh=>?_);exact Aw rfl <| A3 rfl <| Ag ⟨_,rfl,tV (by simp),trivial⟩
theorem Xe {s:Str} {a:Nat} {c:UInt8} (h:s[a]?=some c):E8 s a=if QR c=true then E8 s (a+1) else a:=by
 unfold E8;rw [Av h,Rd]
 split <;> omega
theorem bR {s:Str} {a:Nat} (h:s.length<=a):E8 s a=a:=by
 unfold E8;rw [Br h];rfl
theorem Zz (p:UInt8->Bool):∀l:Str,Rd p l<=l.length
 | []=>B8 _
 | c::r=>by have:=Zz p r;simp only [Rd];split <;> simp <;> omega
theorem UN (s:Str) (a:Nat) (h:a<=s.length):a<=E8 s a/\E8 s a<=s.length:=by
 unfold E8;have:=Zz QR (s.drop a);rw [IN] at this;omega
theorem WH (c:UInt8):(bif (bif (c.toNat:Int) == 32 then true else (c.toNat:Int) == 9) then true else (c.toNat:Int) == 10)=QR c:=by
 have e:∀k:UInt8,(decide (c=k))=((c.toNat:Int) == (k.toNat:Int)):=λk=>by
  rw [EU,decide_eq_true_iff,beq_iff_eq,TG,UInt8.toNat_inj]
 unfold QR;rw [e 32,e 9,e 10];show _=((c.toNat:Int) == 32||(c.toNat:Int) == 9||(c.toNat:Int) == 10);cases ((c.toNat:Int) == 32) <;> cases ((c.toNat:Int) == 9) <;> rfl
theorem Ps (s:Str) (a:Nat) (ha:a<=s.length) (hs:s.length<=1000000) (hc:s.getD (E8 s a) 0≠47):Al Tryz.prog 299 [.str s,.int .i64 a] (.int .i64 (E8 s a)):=by
 refine Ac AE Tryz.func299 (by decide +kernel) rfl [1] rfl rfl <| Ap rfl <| Ak (λn:Nat=>[(1,.imm (.int .i64 n)),(0,.imm (.str s))]) (λ_=>[]) [1] (λn=>s.length-n) (λn=>n<=s.length/\E8 s a=E8 s n) a
  ⟨ha,rfl⟩ AM trivial rfl λn hn ih=>?_
 obtain ⟨hn1,hn2⟩:=hn;refine A3 rfl <| Aa rfl (λh=>?_) (λh=>?_)
 ·have hlt:n<s.length:=by simp at h;omega
  obtain ⟨c,hcn⟩:=Ao hlt;have hcg:s.getD n 0=c:=by simp [hcn]
  have hst:=Xe hcn;refine jd [] rfl (by simp [Am];omega) <| Aa rfl (λh=>?_) (λh=>?_)
  ·have h:(bif (bif ((s.getD n 0).toNat:Int) == 32 then true else ((s.getD n 0).toNat:Int) == 9) then true else ((s.getD n 0).toNat:Int) == 10)=true:=h;rw [WH,hcg] at h;rw [if_pos h] at hst;exact A3 rfl <| Ae (ih (n+1) (by omega) ⟨by omega,by rw [hn2,hst]⟩) ⟨AA (Cb (by omega) (by omega)),AI⟩ trivial rfl
  ·have h:(bif (bif ((s.getD n 0).toNat:Int) == 32 then true else ((s.getD n 0).toNat:Int) == 9) then true else ((s.getD n 0).toNat:Int) == 10)=false:=h;rw [WH,hcg] at h;rw [if_neg (by rw [h];simp)] at hst;rw [hn2,hst,hcg] at hc;have w1:IntKind.i64.wrap ((s.length:Int)-n)=s.length-n:=Cb (by omega) (by omega);have w2:IntKind.i64.wrap ((n:Int)+2)=n+2:=Cb (by omega) (by omega);refine jd [] rfl (by simp [Am,w1,w2];omega) <| Aa rfl (λh=>?_) (λh=>?_)
   ·exfalso;rw [w1,w2,show ((n:Int)+2).toNat-(n:Int).toNat=2 by omega,show (n:Int).toNat=n from rfl,Av hcn] at h;have h2:((c::s.drop (n+1)).take 2 == [47,47])=true:=by
     cases e:(decide ((s.length:Int)-n>=2)) with
     | false=>rw [e] at h;cases h
     | true=>rw [e] at h;exact h
    simp at h2;exact hc h2.1
   ·exact A3 rfl <| Ag ⟨_,rfl,tV (by rw [hn2,hst]),trivial⟩
 ·have hge:s.length<=n:=by simp at h;omega
  rw [bR hge] at hn2;exact Aw rfl <| A3 rfl <| Ag ⟨_,rfl,tV (by rw [hn2]),trivial⟩
theorem pK (s:Str) (a:Nat) (t:Tok) (ha:a<s.length) (hs:s.length<=1000000) (h:Sj s a=some t):Al Tryz.prog 300 [.str s,.int .i64 a] (.agg (GD t)):=by
 have hL:=Sr (s.getD a 0);have hG:=eF (s.getD a 0);have hD:=Ws (s.getD a 0);unfold Sj at h;by_cases c1:Rm (s.getD a 0)=true
 ·rw [if_pos c1] at h;rw [c1] at hL;have hR:=Tp s a false (by omega) hs;have hle:=Zy s a false;have hK:=nW (SR s a (G6 s a false));generalize G6 s a false=r at *;have w1:IntKind.i64.wrap ((a:Int)+r)=a+r:=Cb (by omega) (by omega);have hx:(s.drop (a:Int).toNat).take ((IntKind.i64.wrap ((a:Int)+r)).toNat-(a:Int).toNat)=SR s a r:=by
   rw [w1,show ((a:Int)+r).toNat-(a:Int).toNat=r by omega];rfl
  have hcl:(SR s a r).length=r:=by rw [SR,Gx,IN];omega
  refine Ac AE Tryz.func300 (by decide +kernel) rfl [1,2,3] rfl rfl <| jg [] rfl (by simp;omega) <| Af rfl hL <| Ap rfl <| Aa rfl (λh=>?_) (λh=>by exfalso;simp at h);refine A3 rfl <| Af rfl hR <| jg [] rfl (by simp [w1];omega) ?_;rw [hx];generalize SR s a r=x at *;refine Af rfl hK <| Ap rfl ?_;generalize Qf x=o at *;cases o with
  | true =>
   rw [if_pos rfl] at h;cases h;refine Aa rfl (λh=>?_) (λh=>by exfalso;simp at h);exact A3 rfl <| Ab rfl rfl rfl
  | false =>
   rw [if_neg (by simp)] at h;cases h;refine Aa rfl (λh=>by exfalso;simp at h) (λh=>?_);refine A3 rfl <| Aa rfl (λh=>?_) (λh=>?_)
   ·rw [if_pos (by simp at h;omega)];exact A3 rfl <| Ab rfl rfl rfl
   ·rw [if_neg (by simp at h;omega)];exact A3 rfl <| Ab rfl rfl rfl
 have c1:Rm (s.getD a 0)=false:=by simpa using c1
 rw [if_neg (by rw [c1];simp)] at h;rw [c1] at hL;by_cases c2:lU (s.getD a 0)=true
 ·rw [if_pos c2] at h;rw [c2] at hG;have hR:=Tp s (a+1) false (by omega) hs;have hle:=Zy s (a+1) false;have hw0:IntKind.i64.wrap ((a:Int)+1)=((a+1:Nat):Int):=by rw [Cb (by omega) (by omega)];omega
  generalize G6 s (a+1) false=r at *;have w1:IntKind.i64.wrap (((a+1:Nat):Int)+r)=a+(1+r):=by rw [Cb (by omega) (by omega)];omega
  have hx:(s.drop (a:Int).toNat).take ((IntKind.i64.wrap (((a+1:Nat):Int)+r)).toNat-(a:Int).toNat)=SR s a (1+r):=by
   rw [w1,show ((a:Int)+(1+r)).toNat-(a:Int).toNat=1+r by omega];rfl
  have hcl:(SR s a (1+r)).length=1+r:=by rw [SR,Gx,IN];omega
  cases h;refine Ac AE Tryz.func300 (by decide +kernel) rfl [1,2,3] rfl rfl <| jg [] rfl (by simp;omega) <| Af rfl hL <| Ap rfl <| Aa rfl (λh=>by exfalso;simp at h) (λh=>?_);refine jd [] rfl (by simp;omega) <| Af rfl hG <| Ap rfl <| Aa rfl (λh=>?_) (λh=>by exfalso;simp at h);refine A3 rfl ?_;rw [hw0];refine Af rfl hR <| jg [] rfl (by rw [w1];simp;omega) ?_;rw [hx];generalize SR s a (1+r)=x at *;refine Aa rfl (λh=>?_) (λh=>?_)
  ·rw [if_pos (by simp at h;omega)];exact A3 rfl <| Ab rfl rfl rfl
  ·rw [if_neg (by simp at h;omega)];exact A3 rfl <| Ab rfl rfl rfl
 have c2:lU (s.getD a 0)=false:=by simpa using c2
 rw [if_neg (by rw [c2];simp)] at h;rw [c2] at hG;by_cases c3:Ml (s.getD a 0)=true
 ·rw [if_pos c3] at h;rw [c3] at hD;by_cases c4:G6 s a true=1
  ·rw [if_pos c4] at h;cases h;have hI:=VM s a ha hs c3 c4;have hN:=X8 (s.getD a 0) c3;have w1:IntKind.i64.wrap ((a:Int)+1)=a+1:=Cb (by omega) (by omega);have hx:(s.drop (a:Int).toNat).take ((IntKind.i64.wrap ((a:Int)+1)).toNat-(a:Int).toNat)=SR s a 1:=by
    rw [w1,show ((a:Int)+1).toNat-(a:Int).toNat=1 by omega];rfl
   have hc1:SR s a 1=[s.getD a 0]:=by
    obtain ⟨c,hc⟩:=Ao ha;rw [SR,Av hc];simp [hc]
   refine Ac AE Tryz.func300 (by decide +kernel) rfl [1,2,3] rfl rfl <| jg [] rfl (by simp;omega) <| Af rfl hL <| Ap rfl <| Aa rfl (λh=>by exfalso;simp at h) (λh=>?_);refine jd [] rfl (by simp;omega) <| Af rfl hG <| Ap rfl <| Aa rfl (λh=>by exfalso;simp at h) (λh=>?_);refine jd [] rfl (by simp;omega) <| Af rfl hD <| Kq rfl <| Aa rfl (λh=>?_) (λh=>by exfalso;simp at h);refine A3 rfl <| Af rfl hI <| Ap rfl <| Aa rfl (λh=>?_) (λh=>by exfalso;simp at h);refine jd [] rfl (by simp [w1];omega) ?_;rw [hx,hc1];exact Af rfl hN <| jg [] rfl (by simp;kernel_rfl) <| Ab rfl rfl rfl
  ·rw [if_neg c4] at h;cases h
 have c3:Ml (s.getD a 0)=false:=by simpa using c3
 rw [if_neg (by rw [c3];simp)] at h;rw [c3] at hD;by_cases c5:s.getD a 0=126
 ·rw [if_pos c5] at h;cases h
 ·rw [if_neg c5] at h;cases h;have hS:=oS s a (by omega) hs;have hne:((s.getD a 0).toNat:Int)≠126:=λe=>c5 (UInt8.toNat_inj.1 (TG.1 (e:_=((126:UInt8).toNat:Int))));generalize RP s a=x at *;refine Ac AE Tryz.func300 (by decide +kernel) rfl [1,2,3] rfl rfl <| jg [] rfl (by simp;omega) <| Af rfl hL <| Ap rfl <| Aa rfl (λh=>by exfalso;simp at h) (λh=>?_);refine jd [] rfl (by simp;omega) <| Af rfl hG <| Ap rfl <| Aa rfl (λh=>by exfalso;simp at h) (λh=>?_);refine jd [] rfl (by simp;omega) <| Af rfl hD <| jg [] rfl (by simp [Am];omega) <| Aa rfl (λh=>by exfalso;simp at h hne;omega) (λh=>?_);refine A3 rfl <| Af rfl hS <| Ap rfl <| Aa rfl (λh=>?_) (λh=>?_)
  ·rw [if_neg (by simpa using h)];exact A3 rfl <| Ab rfl rfl rfl
  ·rw [if_pos (by simpa using h)];exact A3 rfl <| Ab rfl rfl rfl
@[simp] theorem dTok_length (t:Tok):(GD t).length=4:=rfl
theorem uQ (l:List Tok):∀c∈l.map GD,c.length=4:=λc hc=>by obtain ⟨x,_,rfl⟩:=Cc.1 hc;rfl
theorem cR {s:Str} {a:Nat} {t:Tok} (ha:a<s.length) (h:Sj s a=some t) (hk:t.kind≠0):a+t.text.length<=s.length:=by
 have hc:∀n,(SR s a n).length<=s.length-a:=λn=>by rw [SR,Gx,IN];omega
 have hF:∀(u:Str) (l:List Str),(Kz u l).length<=u.length:=λu l=>by
  induction l with
  | nil=>simp [Kz]
  | cons x r ih=>rw [Kz];split <;> omega
 have hS:=hF (s.drop a) signsL;rw [IN] at hS;have hS:(RP s a).length<=s.length-a:=hS;unfold Sj at h
 split at h
 ·cases h;have:=hc (G6 s a false);simp only;omega
 ·split at h
  ·cases h;have:=hc (1+G6 s (a+1) false);simp only;omega
  ·split at h
   ·split at h
    ·cases h;have:=hc 1;simp only;omega
    ·cases h
   ·split at h
    ·cases h
    ·cases h;simp only;omega
theorem rK (s:Str) (l:List Tok) (hs:s.length<=1000000) (f:Nat) (hf:f<=1000000) (h:HO f s (E8 s 0)=some l):Al Tryz.prog 277 [.str s] (.tup [.sl (l.map GD),.int .i64 s.length]):=by
 have key:∀f a l,HO f s a=some l->s.getD a 0≠47:=λf a l h=>by
  cases f with
  | zero=>cases h
  | succ f =>
   rw [HO] at h;by_cases e:s.length<=a
   ·simp [K8 e]
   ·rw [if_neg e] at h;intro e2;rw [if_pos e2] at h;cases h
 have hK0:=Ps s 0 (AL _) hs (key _ _ _ h);have hle:=UN s 0 (AL _);refine Ac AE Tryz.func277 (by decide +kernel) rfl [1,2,3,4] rfl rfl <| Ap rfl <| Af rfl hK0 <| Ap rfl <| Gf (e:=283) (sz:=4) 4 1 (by decide) rfl ?_;generalize E8 s 0=a0 at *;clear hK0;refine Ak (λz:Nat×Nat×List Tok=>[(5,.imm (.int .i64 z.2.1)),(4,.own 1 (z.2.2.map GD).length),(0,.imm (.str s))]) (λz=>[(1,some (.row 283 4 (z.2.2.map GD)))]) [2,3,4] (λz=>z.1)
  (λz=>z.2.1<=s.length/\z.2.2.length+z.1=f/\∃r,HO z.1 s z.2.1=some r/\z.2.2++r=l) (f,a0,[]) ⟨hle.2,by simp,l,h,rfl⟩
  AD AI rfl λz hz ih=>?_
 obtain ⟨f,a,acc⟩:=z;obtain ⟨h1,h2,r,h3,h4⟩:=hz;simp only at h1 h2 h3 h4 ih;refine A3 rfl <| Aa rfl (λh=>?_) (λh=>?_)
 ·have hlt:a<s.length:=by simp at h;omega
  cases f with
  | zero=>cases h3
  | succ f =>
   rw [HO,if_neg (by omega)] at h3;by_cases e1:s.getD a 0=47
   ·rw [if_pos e1] at h3;cases h3
   rw [if_neg e1] at h3;cases hn:Sj s a with
   | none=>rw [hn] at h3;cases h3
   | some t =>
    rw [hn] at h3;simp only at h3;by_cases e2:t.kind=0
    ·rw [if_pos e2] at h3;cases h3
    rw [if_neg e2] at h3;cases ht:HO f s (E8 s (a+t.text.length)) with
    | none=>rw [ht] at h3;cases h3
    | some r2 =>
     rw [ht] at h3;cases h3;have hN:=pK s a t hlt hs hn;have n2:=cR hlt hn e2;have hS:=Ps s (a+t.text.length) n2 hs (key _ _ _ ht);have hsl:=UN s (a+t.text.length) n2;obtain ⟨t1,t2,t3,t4⟩:=t;simp only at e2 n2 hS hsl ht;generalize E8 s (a+t2.length)=a2 at *;refine A3 rfl <| Af rfl hN <| Ap rfl <| Aa rfl (λh=>by exfalso;simp at h;exact e2 h) (λh=>?_);refine A3 rfl <| B4 AE rfl ⟨by simp,by simp [maxLen];omega,by simp;omega,trivial⟩ ?_;have w:IntKind.i64.wrap ((a:Int)+t2.length)=((a+t2.length:Nat):Int):=by rw [Cb (by omega) (by omega)];omega
     refine Ap rfl ?_;rw [w];refine Af rfl hS <| Ap rfl <| AZ 1 3 rfl ?_;have et:(acc++[(⟨t1,t2,t3,t4⟩:Tok)]).map GD=acc.map GD++[GD ⟨t1,t2,t3,t4⟩]:=by simp
     exact Ae (ih (f,a2,acc++[⟨t1,t2,t3,t4⟩]) (Cw _) ⟨hsl.2,by simp only [Bw,Dh,BX];omega,r2,ht,by rw [CE];exact h4⟩) ⟨rfl,by rw [et];rfl,AI⟩ ⟨by rw [et];rfl,trivial⟩ rfl
 ·have hge:s.length<=a:=by simp at h;omega
  have hr:r=[]:=by
   cases f with
   | zero=>cases h3
   | succ f=>rw [HO,if_pos hge] at h3;cases h3;rfl
  subst hr;rw [IM] at h4;subst h4;exact Aw rfl <| By 1 rfl <| A3 rfl <| Ab rfl rfl rfl
theorem fI (s:Str) (l:List Tok) (hs:s.length<=8000) (f:Nat) (hf:f<=1000000) (h:HO f s (E8 s 0)=some l):Al Tryz.prog 236 [.str s] (.tup [.sl (l.map GD),.int .i64 0]):=by
 have hL:=rK s l (by omega) f hf h;refine Ac AE Tryz.func236 (by decide +kernel) rfl [1,2] rfl rfl <| Ap rfl <| Aa rfl (λh=>by exfalso;simp at h;omega) (λh=>?_);refine A3 rfl <| Af rfl hL <| Ap rfl <| Aa rfl (λh=>by exfalso;simp at h) (λh=>?_);exact A3 rfl <| Ab rfl rfl rfl
def iH (l:List Tok) (a:Nat):Blk:=.immb 279 3 [.sl (l.map GD),.int .i64 a,.bool false]
def Gs (l:List Tok) (a:Nat):St:=[(1,some (iH l a))]
theorem Z2 (s:Str) (l:List Tok) (hs:s.length<=8000) (f:Nat) (hf:f<=1000000) (h:HO f s (E8 s 0)=some l):AK Tryz.prog 170 [.imm (.str s)] [] (.ret (.tup [.ref 1 0,.imm (.int .i64 0)]) (Gs l 0)):=by
 have hT:=fI s l hs f hf h;exact Ac AE Tryz.func170 (by decide +kernel) rfl [1,2] rfl rfl <| Ap rfl <| Af rfl hT <| Ap rfl <| Ag ⟨_,AD⟩
theorem In {l:List Tok} {i:Nat} {t:Tok} (h:l[i]?=some t):(l.map GD)[i]?=some (GD t):=by simp [h]
theorem Lz (l:List Tok) (a:Nat) (x:Str):AK Tryz.prog 279 [.ref 1 0,.imm (.str x)] (Gs l a) (.ret (.imm (.bool (AQ l a x))) (Gs l a)):=by
 refine Ac AE Tryz.func279 (by decide +kernel) rfl [2,3] rfl rfl <| jg [] rfl (by simp [Am];kernel_rfl) ?_;unfold AQ;cases h:l[a]? with
 | none =>
  have hge:l.length<=a:=XP.1 h;refine Aa rfl (λh=>?_) (λh=>by exfalso;simp at h;omega);exact A3 rfl <| Ag ⟨_,AD⟩
 | some t =>
  have hlt:=(AJ.1 h).1;have hg:=In h;refine Aa rfl (λh=>by exfalso;simp at h;omega) (λh=>?_);obtain ⟨t1,t2,t3,t4⟩:=t;refine A3 rfl <| ji rfl (c:=GD ⟨t1,t2,t3,t4⟩) (λ_=>⟨by simp,by simpa using hg,by simp⟩) (by simp) <| jg [] rfl (by simp;kernel_rfl) <| Ag ⟨_,rfl,?_,AI⟩;show MA (Hw [D.imm (V.bool (bif (bif t1 == 5 then true else t1 == 3) then t2 == x else false))]) (D.imm (V.bool ((t1 == 5||t1 == 3)&&t2 == x)));cases (t1 == 5) <;> cases (t1 == 3) <;> rfl
theorem CI {l:List Tok} {a:Nat} {x:Str} (hl:l.length<=10000) (h:AQ l a x=true):AK Tryz.prog 239 [.ref 1 0,.imm (.str x)] (Gs l a) (.ret (.imm (.bool true)) (Gs l (a+1))):=by
 have hS:=Lz l a x;rw [h] at hS;have hlt:a<l.length:=by
  cases e:l[a]? with
  | none=>rw [AQ,e] at h;cases h
  | some t=>exact (AJ.1 e).1
 have w:IntKind.i64.wrap ((a:Int)+1)=((a+1:Nat):Int):=by rw [Cb (by omega) (by omega)];omega
 refine Ac AE Tryz.func239 (by decide +kernel) rfl [2,3] rfl rfl <| Ap rfl <| Ad (fr:=[]) [(1,1)] [] rfl (by simp) hS At rfl rfl rfl rfl <| Ap rfl <| Aa rfl (λh=>?_) (λh=>by exfalso;simp at h);refine A3 rfl ?_;rw [w];exact Ag ⟨_,AD⟩
theorem AY {l:List Tok} {a:Nat} {x:Str} (h:AQ l a x=false):AK Tryz.prog 239 [.ref 1 0,.imm (.str x)] (Gs l a) (.ret (.imm (.bool false)) (Gs l a)):=by
 have hS:=Lz l a x;rw [h] at hS;refine Ac AE Tryz.func239 (by decide +kernel) rfl [2,3] rfl rfl <| Ap rfl <| Ad (fr:=[]) [(1,1)] [] rfl (by simp) hS At rfl rfl rfl rfl <| Ap rfl <| Aa rfl (λh=>by exfalso;simp at h) (λh=>?_);exact A3 rfl <| Ag ⟨_,AD⟩
theorem B0 {l:List Tok} {a:Nat} {x:Str} (hl:l.length<=10000) (h:AQ l a x=true):AK Tryz.prog 237 [.ref 1 0,.imm (.str x)] (Gs l a) (.ret (.imm (.tup [])) (Gs l (a+1))):=by
 have hS:=CI hl h;refine Ac AE Tryz.func237 (by decide +kernel) rfl [2,3] rfl rfl <| Ap rfl <| Ad (fr:=[]) [(1,1)] [] rfl (by simp) hS At rfl rfl rfl rfl <| Ap rfl <| Aa rfl (λh=>by exfalso;simp at h) (λh=>?_);exact A3 rfl <| BE ⟨[],AD⟩
theorem J1 (l:List Tok) (a:Nat) (k:Int):AK Tryz.prog 278 [.ref 1 0,.imm (.int .i64 k)] (Gs l a) (.ret (.imm (.bool (Lf l a k))) (Gs l a)):=by
 refine Ac AE Tryz.func278 (by decide +kernel) rfl [2,3] rfl rfl <| Kq rfl ?_;unfold Lf;cases h:l[a]? with
 | none =>
  have hge:l.length<=a:=XP.1 h;refine ji rfl (c:=[.int .i64 0,.str [],.int .i64 0,.int .i64 0]) (λhc=>by exfalso;simp [Am] at hc;omega) (by simp [Am]) <| jg [] rfl (by simp [Am];kernel_rfl) <| Ag ⟨_,rfl,?_,AI⟩;rw [show decide ((a:Int)<((l.map GD).length:Int))=false from decide_eq_false (by simp;omega)];rfl
 | some t =>
  have hlt:=(AJ.1 h).1;have hg:=In h;obtain ⟨t1,t2,t3,t4⟩:=t;refine ji rfl (c:=GD ⟨t1,t2,t3,t4⟩) (λ_=>⟨by simp,by simpa using hg,by simp⟩) (by simp [Am]) <| jg [] rfl (by simp [Am];kernel_rfl) <| Ag ⟨_,rfl,?_,AI⟩;rw [show decide ((a:Int)<((l.map GD).length:Int))=true from decide_eq_true (by simp;omega)];rfl
theorem Du {l:List Tok} {a:Nat} {k:Int} (hl:l.length<=10000) {t:Tok} (ht:l[a]?=some t) (hk:t.kind=k):AK Tryz.prog 238 [.ref 1 0,.imm (.int .i64 k)] (Gs l a) (.ret (.imm (.agg (GD t))) (Gs l (a+1))):=by
 have hI:=J1 l a k;rw [Lf,ht] at hI;simp only [hk,beq_self_eq_true] at hI;have hlt:=(AJ.1 ht).1;have hg:=In ht;have w:IntKind.i64.wrap ((a:Int)+1)=((a+1:Nat):Int):=by rw [Cb (by omega) (by omega)];omega
 obtain ⟨t1,t2,t3,t4⟩:=t;refine Ac AE Tryz.func238 (by decide +kernel) rfl [2,3,4] rfl rfl <| Ap rfl <| Ad (fr:=[]) [(1,1)] [] rfl (by simp) hI At rfl rfl rfl rfl <| Ap rfl <| Aa rfl (λh=>by exfalso;simp at h) (λh=>?_);refine A3 rfl <| ji rfl (c:=GD ⟨t1,t2,t3,t4⟩) (λ_=>⟨by simp,by simpa using hg,by simp⟩) (by simp) <| jg [] rfl (by simp;kernel_rfl) ?_;rw [w];exact Ag ⟨_,AD⟩
theorem R7 (l:List Tok):AK Tryz.prog 172 [.ref 1 0] (Gs l l.length) (.ret (.imm (.bool true)) (Gs l l.length)):=by
 refine Ac AE Tryz.func172 (by decide +kernel) rfl [2,3] rfl rfl <| jg [] rfl (by simp [Am];kernel_rfl) <| Ag ⟨_,rfl,?_,AI⟩;rw [show ((l.length:Int) == ((l.map GD).length:Int))=true by simp];rfl
theorem DG {l:List Tok} {a:Nat} {k:Int} (h:Lf l a k=true):∃t,l[a]?=some t/\t.kind=k/\C2 l a=t.text/\xK l a=t.n:=by
 unfold Lf at h;unfold C2 xK;cases e:l[a]? with
 | none=>rw [e] at h;cases h
 | some t=>rw [e] at h;exact ⟨t,rfl,by simpa using h,rfl,rfl⟩
theorem AP {l:List Tok} {a:Nat} {s:Str} {α:Type} {r:Option α} {v:α} (h:after l a s r=some v):AQ l a s=true/\r=some v:=by
 unfold after at h
 split at h
 ·exact ⟨by assumption,h⟩
 ·cases h
theorem D5 {l:List Tok} {a:Nat} {s:List Str} {α:Type} {r:Option α} {v:α} (h:Oz l a s r=some v):(∀x∈s,AQ l a x=false)/\r=some v:=by
 unfold Oz at h
 split at h
 ·cases h
 ·rename_i h';refine ⟨λx hx=>?_,h⟩;cases e:AQ l a x with
  | false=>rfl
  | true=>exact absurd (D2.2 ⟨x,hx,e⟩) h'
theorem SU (s:Str):Al Tryz.prog 324 [.str s] (.tup [.int .i64 (E6 s).1,.int .i64 (E6 s).2]):=by
 unfold E6;refine Ac AE Tryz.func324 (by decide +kernel) rfl [1] rfl rfl <| Ap rfl ?_;by_cases c16:s=[99,101,108,108]
 ·rw [if_pos c16];subst c16;refine Aa rfl (λh=>?_) (λh=>by exfalso;simp at h);exact A3 rfl <| Ab rfl rfl rfl
 rw [if_neg c16];refine Aa rfl (λh=>by exfalso;simp at h;exact c16 h) (λh=>?_);refine A3 rfl ?_;by_cases c17:s=[103,101,116]
 ·rw [if_pos c17];subst c17;refine Aa rfl (λh=>?_) (λh=>by exfalso;simp at h);exact A3 rfl <| Ab rfl rfl rfl
 rw [if_neg c17];refine Aa rfl (λh=>by exfalso;simp at h;exact c17 h) (λh=>?_);refine A3 rfl ?_;by_cases c18:s=[112,117,116]
 ·rw [if_pos c18];subst c18;refine Aa rfl (λh=>?_) (λh=>by exfalso;simp at h);exact A3 rfl <| Ab rfl rfl rfl
 rw [if_neg c18];refine Aa rfl (λh=>by exfalso;simp at h;exact c18 h) (λh=>?_);refine A3 rfl ?_;by_cases c19:s=[115,112,97,119,110]
 ·rw [if_pos c19];subst c19;refine Aa rfl (λh=>?_) (λh=>by exfalso;simp at h);exact A3 rfl <| Ab rfl rfl rfl
 rw [if_neg c19];refine Aa rfl (λh=>by exfalso;simp at h;exact c19 h) (λh=>?_);refine A3 rfl ?_;by_cases c20:s=[106,111,105,110]
 ·rw [if_pos c20];subst c20;refine Aa rfl (λh=>?_) (λh=>by exfalso;simp at h);exact A3 rfl <| Ab rfl rfl rfl
 rw [if_neg c20];refine Aa rfl (λh=>by exfalso;simp at h;exact c20 h) (λh=>?_);refine A3 rfl ?_;by_cases c21:s=[99,104,97,110]
 ·rw [if_pos c21];subst c21;refine Aa rfl (λh=>?_) (λh=>by exfalso;simp at h);exact A3 rfl <| Ab rfl rfl rfl
 rw [if_neg c21];refine Aa rfl (λh=>by exfalso;simp at h;exact c21 h) (λh=>?_);refine A3 rfl ?_;by_cases c22:s=[115,101,110,100]
 ·rw [if_pos c22];subst c22;refine Aa rfl (λh=>?_) (λh=>by exfalso;simp at h);exact A3 rfl <| Ab rfl rfl rfl
 rw [if_neg c22];refine Aa rfl (λh=>by exfalso;simp at h;exact c22 h) (λh=>?_);refine A3 rfl ?_;by_cases c23:s=[116,97,107,101]
 ·rw [if_pos c23];subst c23;refine Aa rfl (λh=>?_) (λh=>by exfalso;simp at h);exact A3 rfl <| Ab rfl rfl rfl
 rw [if_neg c23];refine Aa rfl (λh=>by exfalso;simp at h;exact c23 h) (λh=>?_);refine A3 rfl ?_;by_cases c24:s=[111,117,116]
 ·rw [if_pos c24];subst c24;refine Aa rfl (λh=>?_) (λh=>by exfalso;simp at h);exact A3 rfl <| Ab rfl rfl rfl
 rw [if_neg c24];refine Aa rfl (λh=>by exfalso;simp at h;exact c24 h) (λh=>?_);refine A3 rfl ?_;by_cases c25:s=[105,110,112,117,116]
 ·rw [if_pos c25];subst c25;refine Aa rfl (λh=>?_) (λh=>by exfalso;simp at h);exact A3 rfl <| Ab rfl rfl rfl
 rw [if_neg c25];refine Aa rfl (λh=>by exfalso;simp at h;exact c25 h) (λh=>?_);refine A3 rfl ?_;by_cases c26:s=[114,101,115,101,116]
 ·rw [if_pos c26];subst c26;refine Aa rfl (λh=>?_) (λh=>by exfalso;simp at h);exact A3 rfl <| Ab rfl rfl rfl
 rw [if_neg c26];refine Aa rfl (λh=>by exfalso;simp at h;exact c26 h) (λh=>?_);refine A3 rfl ?_;by_cases c28:s=[112,97,117,115,101]
 ·rw [if_pos c28];subst c28;refine Aa rfl (λh=>?_) (λh=>by exfalso;simp at h);exact A3 rfl <| Ab rfl rfl rfl
 rw [if_neg c28];refine Aa rfl (λh=>by exfalso;simp at h;exact c28 h) (λh=>?_);exact A3 rfl <| Ab rfl rfl rfl
theorem fF (l:List Tok) (a:Nat):AK Tryz.prog 318 [.ref 1 0] (Gs l a) (.ret (.imm (.bool (Mt l a))) (Gs l a)):=by
 refine Ac AE Tryz.func318 (by decide +kernel) rfl [2,3] rfl rfl <| jg [] rfl (by simp [Am];kernel_rfl) ?_;unfold Mt;cases h:l[a]? with
 | none =>
  have hge:l.length<=a:=XP.1 h;refine Aa rfl (λh=>?_) (λh=>by exfalso;simp at h;omega);exact A3 rfl <| Ag ⟨_,AD⟩
 | some t =>
  have hlt:=(AJ.1 h).1;have hg:=In h;obtain ⟨t1,t2,t3,t4⟩:=t;have hC:=SU t2;simp only;generalize E6 t2=c at *;obtain ⟨c1,c2⟩:=c;refine Aa rfl (λh=>by exfalso;simp at h;omega) (λh=>?_);refine A3 rfl <| ji rfl (c:=GD ⟨t1,t2,t3,t4⟩) (λ_=>⟨by simp,by simpa using hg,by simp⟩) (by simp) <| jg [] rfl (by simp;kernel_rfl) ?_;by_cases h3:t1=3
  ·subst h3;rw [if_pos rfl];refine Aa rfl (λh=>?_) (λh=>by exfalso;simp at h);refine A3 rfl <| Af rfl hC <| Kq rfl <| Ag ⟨_,rfl,?_,AI⟩;show MA (Hw [D.imm (V.bool (bif (bif (bif !(c1 == 0) then true else t2 == rR) then true else t2 == Wh) then true else t2 == cU))]) _;rw [show decide (c1≠0) = !(c1 == 0) by by_cases e:c1=0 <;> simp [e]];cases (c1 == 0) <;> cases (t2 == rR) <;> cases (t2 == Wh) <;> cases (t2 == cU) <;> rfl
  ·rw [if_neg h3];refine Aa rfl (λh=>by exfalso;simp at h;exact h3 h) (λh=>?_);refine VK rfl <| Ag ⟨_,rfl,?_,AI⟩;show MA (Hw [D.imm (V.bool (bif !(t1 == 5) then true else t2 == [40]))]) _;rw [show decide (t1≠5) = !(t1 == 5) by by_cases e:t1=5 <;> simp [e]];cases (t1 == 5) <;> cases (t2 == [40]) <;> rfl
theorem WY (op:Int) (a b:Tm):Al Tryz.prog 244 [.int .i64 op,.agg (Bo a),.agg (Bo b)] (.agg (Bo (oJ op a b))):=by
 obtain ⟨a1,a2,a3,a4,a5⟩:=a;obtain ⟨b1,b2,b3,b4,b5⟩:=b;exact Ac AE Tryz.func244 (by decide +kernel) rfl [1,2,3] rfl rfl <| Ap rfl <| Ab rfl rfl rfl
theorem bS {l:List Tok} {a:Nat} {t:Ty} {b:Nat} (hl:l.length<=10000) (h:LB l a=some (t,b)):AK Tryz.prog 301 [.ref 1 0] (Gs l a) (.ret (.imm (.agg (dTyc t))) (Gs l b))/\AQ l b [45,62]=false:=by
 unfold LB at h;obtain ⟨hA,h⟩:=D5 h;have hA:=hA _ (AO.2 rfl);by_cases c0:AQ l a [105,110,116]=true
 ·rw [if_pos c0] at h;cases h;refine ⟨?_,hA⟩;refine Ac AE Tryz.func301 (by decide +kernel) rfl [2,3] rfl rfl <| Ap rfl <| Ad (fr:=[]) [(1,1)] [] rfl (by simp) (CI hl c0) At rfl rfl rfl rfl <| Ap rfl <| Aa rfl (λh=>?_) (λh=>by exfalso;simp at h);exact A3 rfl <| Ag ⟨_,AD⟩
 rw [if_neg c0] at h;have c0:AQ l a [105,110,116]=false:=by simpa using c0
 by_cases c1:AQ l a [98,111,111,108]=true
 ·rw [if_pos c1] at h;cases h;refine ⟨?_,hA⟩;refine Ac AE Tryz.func301 (by decide +kernel) rfl [2,3] rfl rfl <| Ap rfl <| Ad (fr:=[]) [(1,1)] [] rfl (by simp) (AY c0) At rfl rfl rfl rfl <| Ap rfl <| Aa rfl (λh=>by exfalso;simp at h) (λh=>?_);refine A3 rfl <| Ad (fr:=[]) [(1,1)] [] rfl (by simp) (CI hl c1) At rfl rfl rfl rfl <| Ap rfl <| Aa rfl (λh=>?_) (λh=>by exfalso;simp at h);exact A3 rfl <| Ag ⟨_,AD⟩
 rw [if_neg c1] at h;have c1:AQ l a [98,111,111,108]=false:=by simpa using c1
 by_cases c2:AQ l a [117,110,105,116]=true
 ·rw [if_pos c2] at h;cases h;refine ⟨?_,hA⟩;refine Ac AE Tryz.func301 (by decide +kernel) rfl [2,3] rfl rfl <| Ap rfl <| Ad (fr:=[]) [(1,1)] [] rfl (by simp) (AY c0) At rfl rfl rfl rfl <| Ap rfl <| Aa rfl (λh=>by exfalso;simp at h) (λh=>?_);refine A3 rfl <| Ad (fr:=[]) [(1,1)] [] rfl (by simp) (AY c1) At rfl rfl rfl rfl <| Ap rfl <| Aa rfl (λh=>by exfalso;simp at h) (λh=>?_);refine A3 rfl <| Ad (fr:=[]) [(1,1)] [] rfl (by simp) (CI hl c2) At rfl rfl rfl rfl <| Ap rfl <| Aa rfl (λh=>?_) (λh=>by exfalso;simp at h);exact A3 rfl <| Ag ⟨_,AD⟩
 rw [if_neg c2] at h;have c2:AQ l a [117,110,105,116]=false:=by simpa using c2
 obtain ⟨hB,h⟩:=D5 h
 split at h
 case isFalse=>cases h
 rename_i hk;obtain ⟨u,hu,hk,ht,_⟩:=DG hk;rw [ht] at h;cases h;refine ⟨?_,hA⟩;obtain ⟨u1,u2,u3,u4⟩:=u;refine Ac AE Tryz.func301 (by decide +kernel) rfl [2,3] rfl rfl <| Ap rfl <| Ad (fr:=[]) [(1,1)] [] rfl (by simp) (AY c0) At rfl rfl rfl rfl <| Ap rfl <| Aa rfl (λh=>by exfalso;simp at h) (λh=>?_);refine A3 rfl <| Ad (fr:=[]) [(1,1)] [] rfl (by simp) (AY c1) At rfl rfl rfl rfl <| Ap rfl <| Aa rfl (λh=>by exfalso;simp at h) (λh=>?_);refine A3 rfl <| Ad (fr:=[]) [(1,1)] [] rfl (by simp) (AY c2) At rfl rfl rfl rfl <| Ap rfl <| Aa rfl (λh=>by exfalso;simp at h) (λh=>?_)
 refine A3 rfl <| Ad (fr:=[]) [(1,1)] [] rfl (by simp) (AY (hB [99,101,108,108] (by simp))) At rfl rfl rfl rfl <| Ap rfl <| Aa rfl (λh=>by exfalso;simp at h) (λh=>?_);refine A3 rfl <| Ad (fr:=[]) [(1,1)] [] rfl (by simp) (AY (hB [99,104,97,110] (by simp))) At rfl rfl rfl rfl <| Ap rfl <| Aa rfl (λh=>by exfalso;simp at h) (λh=>?_);refine A3 rfl <| Ad (fr:=[]) [(1,1)] [] rfl (by simp) (AY (hB [116,97,115,107] (by simp))) At rfl rfl rfl rfl <| Ap rfl <| Aa rfl (λh=>by exfalso;simp at h) (λh=>?_);refine A3 rfl <| Ad (fr:=[]) [(1,1)] [] rfl (by simp) (AY (hB [63] (by simp))) At rfl rfl rfl rfl <| Ap rfl <| Aa rfl (λh=>by exfalso;simp at h) (λh=>?_)
 refine A3 rfl <| Ad (fr:=[]) [(1,1)] [] rfl (by simp) (AY (hB [40] (by simp))) At rfl rfl rfl rfl <| Ap rfl <| Aa rfl (λh=>by exfalso;simp at h) (λh=>?_);exact A3 rfl <| Ad (fr:=[]) [(1,1)] [] rfl (by simp) (Du hl hu hk) At rfl rfl rfl rfl <| Ap rfl <| Ag ⟨_,AD⟩
theorem Qe {l:List Tok} {a:Nat} {t:Ty} {b:Nat} (hl:l.length<=10000) (h:LB l a=some (t,b)):AK Tryz.prog 280 [.ref 1 0] (Gs l a) (.ret (.imm (.agg (dTyc t))) (Gs l b)):=by
 obtain ⟨hS,hn⟩:=bS hl h;obtain ⟨t1,t2,t3,t4⟩:=t;refine Ac AE Tryz.func280 (by decide +kernel) rfl [2,3] rfl rfl <| Ap rfl <| Ad (fr:=[]) [(1,1)] [] rfl (by simp) (hS) At rfl rfl rfl rfl <| Ap rfl <| Ad (fr:=[]) [(1,1)] [] rfl (by simp) (AY hn) At rfl rfl rfl rfl <| Ap rfl <| Aa rfl (λh=>by exfalso;simp at h) (λh=>?_);exact A3 rfl <| Ag ⟨_,AD⟩
def vB (l:List Tok) (f:Nat):Prop:=∀(a:Nat) (t:Ty) (b:Nat),X3 l f a=some (t,b)->AK Tryz.prog 325 [.ref 1 0] (Gs l a) (.ret (.imm (.agg (dTyc t))) (Gs l b))
def ptB (x:Str) (n:Nat):Blk:=.cells 182 4 [.imm (.int .i64 6),.imm (.int .i64 0),.imm (.str x),.own 4 n]
theorem cN {l:List Tok} (hl:l.length<=10000) (n:Nat) (hn:n<=1000000) (IH:∀f,f<n->vB l f):vB l n:=by
 intro a t b h;cases n with
 | zero=>simp [X3] at h
 | succ f =>
 rw [X3] at h;obtain ⟨h0,h⟩:=D5 h;have h0:=h0 _ (AO.2 rfl);by_cases c1:Lf l a 1=true
 ·rw [if_pos c1] at h;obtain ⟨u,hu,hk,ht,_⟩:=DG c1;have hI:=J1 l a 1;rw [c1] at hI;rw [ht] at h;cases h;obtain ⟨u1,u2,u3,u4⟩:=u;refine Ac AE Tryz.func325 (by decide +kernel) rfl [2,3] rfl rfl <| Ap rfl <| Ad (fr:=[]) [(1,1)] [] rfl (by simp) (AY h0) At rfl rfl rfl rfl <| Ap rfl <| Aa rfl (λh=>by exfalso;simp at h) (λh=>?_);refine A3 rfl <| Ad (fr:=[]) [(1,1)] [] rfl (by simp) (hI) At rfl rfl rfl rfl <| Ap rfl <| Aa rfl (λh=>?_) (λh=>by exfalso;simp at h);exact A3 rfl <| Ad (fr:=[]) [(1,1)] [] rfl (by simp) (Du hl hu hk) At rfl rfl rfl rfl <| Ap rfl <| Ag ⟨_,AD⟩
 rw [if_neg c1] at h;have hI1:=J1 l a 1;rw [show Lf l a 1=false by simpa using c1] at hI1
 split at h
 case isTrue=>cases h
 rename_i c4;have hI4:=J1 l a 4;rw [show Lf l a 4=false by simpa using c4] at hI4;obtain ⟨hB,h⟩:=D5 h
 split at h
 case isFalse=>cases h
 rename_i hk;obtain ⟨u,hu,hk,ht,_⟩:=DG hk;rw [ht] at h;by_cases c5:AQ l (a+1) [40]=true
 case neg =>
  rw [if_neg c5] at h;have c5:AQ l (a+1) [40]=false:=by simpa using c5
  cases h;obtain ⟨u1,u2,u3,u4⟩:=u;refine Ac AE Tryz.func325 (by decide +kernel) rfl [2,3] rfl rfl <| Ap rfl <| Ad (fr:=[]) [(1,1)] [] rfl (by simp) (AY h0) At rfl rfl rfl rfl <| Ap rfl <| Aa rfl (λh=>by exfalso;simp at h) (λh=>?_);refine A3 rfl <| Ad (fr:=[]) [(1,1)] [] rfl (by simp) (hI1) At rfl rfl rfl rfl <| Ap rfl <| Aa rfl (λh=>by exfalso;simp at h) (λh=>?_);refine A3 rfl <| Ad (fr:=[]) [(1,1)] [] rfl (by simp) (hI4) At rfl rfl rfl rfl <| Ap rfl <| Aa rfl (λh=>by exfalso;simp at h) (λh=>?_);refine A3 rfl <| Ad (fr:=[]) [(1,1)] [] rfl (by simp) (AY (hB rR (by simp))) At rfl rfl rfl rfl <| Ap rfl <| Aa rfl (λh=>by exfalso;simp at h) (λh=>?_)
  refine A3 rfl <| Ad (fr:=[]) [(1,1)] [] rfl (by simp) (AY (hB Wh (by simp))) At rfl rfl rfl rfl <| Ap rfl <| Aa rfl (λh=>by exfalso;simp at h) (λh=>?_);refine A3 rfl <| Ad (fr:=[]) [(1,1)] [] rfl (by simp) (AY (hB [40] (by simp))) At rfl rfl rfl rfl <| Ap rfl <| Aa rfl (λh=>by exfalso;simp at h) (λh=>?_);refine A3 rfl <| Ad (fr:=[]) [(1,1)] [] rfl (by simp) (Du hl hu hk) At rfl rfl rfl rfl <| Ap rfl <| Ad (fr:=[]) [(1,1)] [] rfl (by simp) (AY c5) At rfl rfl rfl rfl <| Ap rfl <| Aa rfl (λh=>by exfalso;simp at h) (λh=>?_);exact A3 rfl <| Ag ⟨_,AD⟩
 rw [if_pos c5] at h;cases hP:MJ l f [] (a+2) with
 | none=>rw [hP] at h;cases h
 | some r =>
 rw [hP] at h;cases h;obtain ⟨qs,b⟩:=r;obtain ⟨u1,u2,u3,u4⟩:=u;simp only;refine Ac AE Tryz.func325 (by decide +kernel) rfl [2,3,4,5,6,7] rfl rfl <| Ap rfl <| Ad (fr:=[]) [(1,1)] [] rfl (by simp) (AY h0) At rfl rfl rfl rfl <| Ap rfl <| Aa rfl (λh=>by exfalso;simp at h) (λh=>?_);refine A3 rfl <| Ad (fr:=[]) [(1,1)] [] rfl (by simp) (hI1) At rfl rfl rfl rfl <| Ap rfl <| Aa rfl (λh=>by exfalso;simp at h) (λh=>?_);refine A3 rfl <| Ad (fr:=[]) [(1,1)] [] rfl (by simp) (hI4) At rfl rfl rfl rfl <| Ap rfl <| Aa rfl (λh=>by exfalso;simp at h) (λh=>?_);refine A3 rfl <| Ad (fr:=[]) [(1,1)] [] rfl (by simp) (AY (hB rR (by simp))) At rfl rfl rfl rfl <| Ap rfl <| Aa rfl (λh=>by exfalso;simp at h) (λh=>?_)
 refine A3 rfl <| Ad (fr:=[]) [(1,1)] [] rfl (by simp) (AY (hB Wh (by simp))) At rfl rfl rfl rfl <| Ap rfl <| Aa rfl (λh=>by exfalso;simp at h) (λh=>?_);refine A3 rfl <| Ad (fr:=[]) [(1,1)] [] rfl (by simp) (AY (hB [40] (by simp))) At rfl rfl rfl rfl <| Ap rfl <| Aa rfl (λh=>by exfalso;simp at h) (λh=>?_);refine A3 rfl <| Ad (fr:=[]) [(1,1)] [] rfl (by simp) (Du hl hu hk) At rfl rfl rfl rfl <| Ap rfl <| Ad (fr:=[]) [(1,1)] [] rfl (by simp) (CI hl c5) At rfl rfl rfl rfl <| Ap rfl <| Aa rfl (λh=>?_) (λh=>by exfalso;simp at h)
 refine A3 rfl <| DH 3 4 (e:=182) (sz:=4) [.imm (.int .i64 6),.imm (.int .i64 0),.imm (.str u2),.own 4 0] (by decide) rfl ⟨.inl rfl,.inl rfl,.inl rfl,.inr ⟨rfl,rfl⟩,trivial⟩ <| Ak (λz:Bool×Nat×List Ty×Nat=>[(4,.imm (.bool z.1)),(0,.ref 1 0),(3,.ref 3 0),(2,.ref 2 0)]) (λz=>[(1,some (iH l z.2.2.2)),(2,some (.cells 182 4 [.imm (.int .i64 0),.imm (.int .i64 0),.imm (.str []),.nils])),(3,some (ptB u2 (A2 z.2.2.1).length)),(4,some (.row 182 4 (A2 z.2.2.1)))]) [5,6,7] (λz=>z.2.1)
  (λz=>z.2.1<=f/\z.2.2.1.length+z.2.1<=f/\if z.1=true then MJ l z.2.1 z.2.2.1 z.2.2.2=some (qs,b) else qs=z.2.2.1/\AQ l z.2.2.2 [41]=true/\b=z.2.2.2+1) (true,f,[],a+2)
  ⟨B8 _,by simp,by rw [if_pos rfl];exact hP⟩ BF BF rfl λz hz ih=>?_
 obtain ⟨more,f1,ps,a1⟩:=z;obtain ⟨z1,z3,z2⟩:=hz;simp only at z1 z2 z3 ih;refine VK rfl ?_;cases more with
 | false =>
  simp only [Eo,if_false] at z2;obtain ⟨rfl,z2,rfl⟩:=z2;refine Aa rfl (λh=>by exfalso;simp at h) (λh=>?_);exact Aw rfl <| By 4 rfl <| A3 rfl <| Ad (fr:=[]) [(1,1)] [] rfl (by simp) (B0 hl z2) At rfl rfl rfl rfl <| Ap rfl <| Ag ⟨_,AD⟩
 | true =>
  simp only [if_true] at z2;cases f1 with
  | zero=>simp [MJ] at z2
  | succ f1 =>
  rw [MJ] at z2;cases hq:X3 l f1 a1 with
  | none=>rw [hq] at z2;cases z2
  | some r =>
  rw [hq] at z2;obtain ⟨q,a2⟩:=r;simp only [Dg] at z2;have hQ:=IH f1 (by omega) a1 q a2 hq;have hap:A2 (ps++[q])=A2 ps++[dTyc q]:=by rw [Eu];rfl
  obtain ⟨q1,q2,q3,q4⟩:=q;refine Aa rfl (λh=>?_) (λh=>by exfalso;simp at h);refine A3 rfl <| Ad (fr:=[]) [(1,1)] [] rfl (by simp) (hQ) At rfl rfl rfl rfl <| Ap rfl <| B4 AE rfl ⟨by simp,by simp [maxLen];omega,by simp;omega,trivial⟩ <| Ap rfl ?_;by_cases c6:AQ l a2 [44]=true
  ·rw [if_pos c6] at z2;exact Ad (fr:=[]) [(1,1)] [] rfl (by simp) (CI hl c6) At rfl rfl rfl rfl <| Ap rfl <| AZ 4 6 rfl <| Ae (ih (true,f1,ps++[.mk q1 q2 q3 q4],a2+1) (Cw _) ⟨by simp only;omega,by simp only [Bw,Dh,BX];omega,by rw [if_pos rfl];exact z2⟩) BF ⟨rfl,rfl,by rw [hap];rfl,by rw [hap];rfl,trivial⟩ rfl
  ·rw [if_neg c6] at z2;have c6:AQ l a2 [44]=false:=by simpa using c6
   obtain ⟨z4,z2⟩:=AP z2;cases z2;exact Ad (fr:=[]) [(1,1)] [] rfl (by simp) (AY c6) At rfl rfl rfl rfl <| Ap rfl <| AZ 4 6 rfl <| Ae (ih (false,f1,ps++[.mk q1 q2 q3 q4],a2) (Cw _) ⟨by simp only;omega,by simp only [Bw,Dh,BX];omega,by rw [if_neg (by simp)];exact ⟨rfl,z4,rfl⟩⟩) BF ⟨rfl,rfl,by rw [hap];rfl,by rw [hap];rfl,trivial⟩ rfl
theorem iW {l:List Tok} (hl:l.length<=10000):∀n,n<=1000000->vB l n:=λn=>by
 induction n using Nat.strongRecOn with
 | ind n IH=>exact λhn=>cN hl n hn λf hf=>IH f hf (by omega)
def sS (l:List Tok) (f:Nat):Prop:=∀(a:Nat) (t:Tm) (b:Nat),CQ l f a=some (t,b)->AK Tryz.prog 173 [.ref 1 0] (Gs l a) (.ret (.imm (.agg (Bo t))) (Gs l b))
def wX (l:List Tok) (f:Nat):Prop:=∀(a:Nat) (t:Tm) (b:Nat),X2 l f a=some (t,b)->AK Tryz.prog 243 [.ref 1 0] (Gs l a) (.ret (.imm (.agg (Bo t))) (Gs l b))
def xG (l:List Tok) (f:Nat):Prop:=∀(a:Nat) (t:Tm) (b:Nat),X4 l f a=some (t,b)->AK Tryz.prog 302 [.ref 1 0] (Gs l a) (.ret (.imm (.agg (Bo t))) (Gs l b))
def sU (l:List Tok) (f:Nat):Prop:=∀(a:Nat) (t:Tm) (b:Nat),P7 l f a=some (t,b)->AK Tryz.prog 317 [.ref 1 0] (Gs l a) (.ret (.imm (.agg (Bo t))) (Gs l b))
def oB (l:List Tok) (f:Nat):Prop:=∀(a:Nat) (t:Tm) (b:Nat),TA l f a=some (t,b)->AK Tryz.prog 322 [.ref 1 0] (Gs l a) (.ret (.imm (.agg (Bo t))) (Gs l b))
def nO (l:List Tok) (f:Nat):Prop:=∀(n:Int) (a:Nat) (ks:List Tm) (b:Nat),KU l f n a=some (ks,b)->AK Tryz.prog 321 [.ref 1 0,.imm (.int .i64 n)] (Gs l a) (.ret (.imm (.sl (E4 ks))) (Gs l b))
structure WQ (l:List Tok) (f:Nat):Prop where
 term:sS l f
 sum:wX l f
 app:xG l f
 atom:sU l f
 cases_:oB l f
 terms:nO l f
theorem gE {l:List Tok} (hl:l.length<=10000) {op:Int} {a b:Nat} {t:Tm} (hk:Lf l a 1=true) (hs:AQ l (a+1) [61,62]=true) (hT:AK Tryz.prog 173 [.ref 1 0] (Gs l (a+2)) (.ret (.imm (.agg (Bo t))) (Gs l b))) :
  AK Tryz.prog 242 [.ref 1 0,.imm (.int .i64 op)] (Gs l a) (.ret (.imm (.agg (Bo (.mk op 0 (C2 l a) [t] [])))) (Gs l b)):=by
 obtain ⟨u,hu,hk,ht,_⟩:=DG hk;rw [ht];obtain ⟨u1,u2,u3,u4⟩:=u;obtain ⟨t1,t2,t3,t4,t5⟩:=t;exact Ac AE Tryz.func242 (by decide +kernel) rfl [2,3,4] rfl rfl <| Ap rfl <| Ad (fr:=[]) [(1,1)] [] rfl (by simp) (Du hl hu hk) At rfl rfl rfl rfl <| Ap rfl <| Ad (fr:=[]) [(1,1)] [] rfl (by simp) (B0 hl hs) At rfl rfl rfl rfl <| Ap rfl <| Ad (fr:=[]) [(1,1)] [] rfl (by simp) (hT) At rfl rfl rfl rfl <| Ap rfl <| Ag ⟨_,AD⟩
theorem bL {l:List Tok} (hl:l.length<=10000) (n:Nat) (IH:∀f,f<n->WQ l f):sS l n:=by
 intro a t b h;cases n with
 | zero=>simp [CQ] at h
 | succ f =>
 have ihT:=(IH f (Cw f)).term;have ihS:=(IH f (Cw f)).sum;clear IH;rw [CQ] at h;by_cases c1:AQ l a [102,117,110]=true
 ·rw [if_pos c1] at h
  split at h
  case isFalse=>cases h
  rename_i k1;obtain ⟨s1,h⟩:=AP h;cases hr:CQ l f (a+3) with
  | none=>rw [hr] at h;cases h
  | some r =>
  rw [hr] at h;cases h;have hU:=gE hl (op:=5) k1 s1 (ihT _ r.1 r.2 hr);obtain ⟨⟨r1,r2,r3,r4,r5⟩,rp⟩:=r;refine Ac AE Tryz.func173 (by decide +kernel) rfl [2,3] rfl rfl <| Ap rfl <| Ad (fr:=[]) [(1,1)] [] rfl (by simp) (CI hl c1) At rfl rfl rfl rfl <| Ap rfl <| Aa rfl (λh=>?_) (λh=>by exfalso;simp at h);exact A3 rfl <| Ad (fr:=[]) [(1,1)] [] rfl (by simp) (hU) At rfl rfl rfl rfl <| Ap rfl <| Ag ⟨_,AD⟩
 rw [if_neg c1] at h;have c1:AQ l a [102,117,110]=false:=by simpa using c1
 obtain ⟨c2,h⟩:=D5 h;have c2:=c2 _ (AO.2 rfl);by_cases c3:AQ l a [108,101,116]=true
 ·rw [if_pos c3] at h
  split at h
  case isFalse=>cases h
  rename_i k1;obtain ⟨s1,h⟩:=AP h;obtain ⟨w,hw,hk,hx,_⟩:=DG k1;rw [hx] at h;cases hr:CQ l f (a+3) with
  | none=>rw [hr] at h;cases h
  | some r =>
  rw [hr] at h;simp only [Dg] at h;obtain ⟨s2,h⟩:=AP h;cases hu:CQ l f (r.2+1) with
  | none=>rw [hu] at h;cases h
  | some u =>
  rw [hu] at h;cases h;have hT1:=ihT _ r.1 r.2 hr;have hT2:=ihT _ u.1 u.2 hu;obtain ⟨w1,w2,w3,w4⟩:=w;obtain ⟨⟨r1,r2,r3,r4,r5⟩,rp⟩:=r;obtain ⟨⟨u1,u2,u3,u4,u5⟩,up⟩:=u;simp only at s2 hT1 hT2 ⊢;refine Ac AE Tryz.func173 (by decide +kernel) rfl [2,3,4,5] rfl rfl <| Ap rfl <| Ad (fr:=[]) [(1,1)] [] rfl (by simp) (AY c1) At rfl rfl rfl rfl <| Ap rfl <| Aa rfl (λh=>by exfalso;simp at h) (λh=>?_);refine A3 rfl <| Ad (fr:=[]) [(1,1)] [] rfl (by simp) (AY c2) At rfl rfl rfl rfl <| Ap rfl <| Aa rfl (λh=>by exfalso;simp at h) (λh=>?_);refine A3 rfl <| Ad (fr:=[]) [(1,1)] [] rfl (by simp) (CI hl c3) At rfl rfl rfl rfl <| Ap rfl <| Aa rfl (λh=>?_) (λh=>by exfalso;simp at h)
  exact A3 rfl <| Ad (fr:=[]) [(1,1)] [] rfl (by simp) (Du hl hw hk) At rfl rfl rfl rfl <| Ap rfl <| Ad (fr:=[]) [(1,1)] [] rfl (by simp) (B0 hl s1) At rfl rfl rfl rfl <| Ap rfl <| Ad (fr:=[]) [(1,1)] [] rfl (by simp) (hT1) At rfl rfl rfl rfl <| Ap rfl <| Ad (fr:=[]) [(1,1)] [] rfl (by simp) (B0 hl s2) At rfl rfl rfl rfl <| Ap rfl <| Ad (fr:=[]) [(1,1)] [] rfl (by simp) (hT2) At rfl rfl rfl rfl <| Ap rfl <| Ag ⟨_,AD⟩
 rw [if_neg c3] at h;have c3:AQ l a [108,101,116]=false:=by simpa using c3
 by_cases c4:AQ l a [105,102]=true
 ·rw [if_pos c4] at h;cases hr:CQ l f (a+1) with
  | none=>rw [hr] at h;cases h
  | some r =>
  rw [hr] at h;simp only [Dg] at h;obtain ⟨s2,h⟩:=AP h;cases hu:CQ l f (r.2+1) with
  | none=>rw [hu] at h;cases h
  | some u =>
  rw [hu] at h;simp only [Dg] at h;obtain ⟨s3,h⟩:=AP h;cases hv:CQ l f (u.2+1) with
  | none=>rw [hv] at h;cases h
  | some v =>
  rw [hv] at h;cases h;have hT1:=ihT _ r.1 r.2 hr;have hT2:=ihT _ u.1 u.2 hu;have hT3:=ihT _ v.1 v.2 hv;obtain ⟨⟨r1,r2,r3,r4,r5⟩,rp⟩:=r;obtain ⟨⟨u1,u2,u3,u4,u5⟩,up⟩:=u;obtain ⟨⟨v1,v2,v3,v4,v5⟩,vp⟩:=v;simp only at s2 s3 hT1 hT2 hT3 ⊢;refine Ac AE Tryz.func173 (by decide +kernel) rfl [2,3,4,5] rfl rfl <| Ap rfl <| Ad (fr:=[]) [(1,1)] [] rfl (by simp) (AY c1) At rfl rfl rfl rfl <| Ap rfl <| Aa rfl (λh=>by exfalso;simp at h) (λh=>?_);refine A3 rfl <| Ad (fr:=[]) [(1,1)] [] rfl (by simp) (AY c2) At rfl rfl rfl rfl <| Ap rfl <| Aa rfl (λh=>by exfalso;simp at h) (λh=>?_)
  refine A3 rfl <| Ad (fr:=[]) [(1,1)] [] rfl (by simp) (AY c3) At rfl rfl rfl rfl <| Ap rfl <| Aa rfl (λh=>by exfalso;simp at h) (λh=>?_);refine A3 rfl <| Ad (fr:=[]) [(1,1)] [] rfl (by simp) (CI hl c4) At rfl rfl rfl rfl <| Ap rfl <| Aa rfl (λh=>?_) (λh=>by exfalso;simp at h);exact A3 rfl <| Ad (fr:=[]) [(1,1)] [] rfl (by simp) (hT1) At rfl rfl rfl rfl <| Ap rfl <| Ad (fr:=[]) [(1,1)] [] rfl (by simp) (B0 hl s2) At rfl rfl rfl rfl <| Ap rfl <| Ad (fr:=[]) [(1,1)] [] rfl (by simp) (hT2) At rfl rfl rfl rfl <| Ap rfl <| Ad (fr:=[]) [(1,1)] [] rfl (by simp) (B0 hl s3) At rfl rfl rfl rfl <| Ap rfl <| Ad (fr:=[]) [(1,1)] [] rfl (by simp) (hT3) At rfl rfl rfl rfl <| Ap rfl <| Ag ⟨_,AD⟩
 rw [if_neg c4] at h;have c4:AQ l a [105,102]=false:=by simpa using c4
 cases hr:X2 l f a with
 | none=>rw [hr] at h;cases h
 | some r =>
 rw [hr] at h;simp only [Dg] at h;have hT1:=ihS _ r.1 r.2 hr;by_cases c5:AQ l r.2 [60]=true
 ·rw [if_pos c5] at h;cases hu:X2 l f (r.2+1) with
  | none=>rw [hu] at h;cases h
  | some u =>
  rw [hu] at h;cases h;have hT2:=ihS _ u.1 u.2 hu;have hW:=WY 12 r.1 u.1;obtain ⟨⟨r1,r2,r3,r4,r5⟩,rp⟩:=r;obtain ⟨⟨u1,u2,u3,u4,u5⟩,up⟩:=u;simp only at c5 hT1 hT2 hW ⊢;refine Ac AE Tryz.func173 (by decide +kernel) rfl [2,3,4,5] rfl rfl <| Ap rfl <| Ad (fr:=[]) [(1,1)] [] rfl (by simp) (AY c1) At rfl rfl rfl rfl <| Ap rfl <| Aa rfl (λh=>by exfalso;simp at h) (λh=>?_);refine A3 rfl <| Ad (fr:=[]) [(1,1)] [] rfl (by simp) (AY c2) At rfl rfl rfl rfl <| Ap rfl <| Aa rfl (λh=>by exfalso;simp at h) (λh=>?_);refine A3 rfl <| Ad (fr:=[]) [(1,1)] [] rfl (by simp) (AY c3) At rfl rfl rfl rfl <| Ap rfl <| Aa rfl (λh=>by exfalso;simp at h) (λh=>?_)
  refine A3 rfl <| Ad (fr:=[]) [(1,1)] [] rfl (by simp) (AY c4) At rfl rfl rfl rfl <| Ap rfl <| Aa rfl (λh=>by exfalso;simp at h) (λh=>?_);refine A3 rfl <| Ad (fr:=[]) [(1,1)] [] rfl (by simp) (hT1) At rfl rfl rfl rfl <| Ap rfl <| Ad (fr:=[]) [(1,1)] [] rfl (by simp) (CI hl c5) At rfl rfl rfl rfl <| Ap rfl <| Aa rfl (λh=>?_) (λh=>by exfalso;simp at h);exact A3 rfl <| Ad (fr:=[]) [(1,1)] [] rfl (by simp) (hT2) At rfl rfl rfl rfl <| Ap rfl <| Af rfl hW <| Ap rfl <| Ag ⟨_,AD⟩
 ·rw [if_neg c5] at h;have c5:AQ l r.2 [60]=false:=by simpa using c5
  obtain ⟨c6,h⟩:=D5 h;have c6:=c6 _ (AO.2 rfl);cases h;obtain ⟨t1,t2,t3,t4,t5⟩:=t;refine Ac AE Tryz.func173 (by decide +kernel) rfl [2,3,4,5] rfl rfl <| Ap rfl <| Ad (fr:=[]) [(1,1)] [] rfl (by simp) (AY c1) At rfl rfl rfl rfl <| Ap rfl <| Aa rfl (λh=>by exfalso;simp at h) (λh=>?_);refine A3 rfl <| Ad (fr:=[]) [(1,1)] [] rfl (by simp) (AY c2) At rfl rfl rfl rfl <| Ap rfl <| Aa rfl (λh=>by exfalso;simp at h) (λh=>?_);refine A3 rfl <| Ad (fr:=[]) [(1,1)] [] rfl (by simp) (AY c3) At rfl rfl rfl rfl <| Ap rfl <| Aa rfl (λh=>by exfalso;simp at h) (λh=>?_);refine A3 rfl <| Ad (fr:=[]) [(1,1)] [] rfl (by simp) (AY c4) At rfl rfl rfl rfl <| Ap rfl <| Aa rfl (λh=>by exfalso;simp at h) (λh=>?_)
  refine A3 rfl <| Ad (fr:=[]) [(1,1)] [] rfl (by simp) (hT1) At rfl rfl rfl rfl <| Ap rfl <| Ad (fr:=[]) [(1,1)] [] rfl (by simp) (AY c5) At rfl rfl rfl rfl <| Ap rfl <| Aa rfl (λh=>by exfalso;simp at h) (λh=>?_);refine A3 rfl <| Ad (fr:=[]) [(1,1)] [] rfl (by simp) (AY c6) At rfl rfl rfl rfl <| Ap rfl <| Aa rfl (λh=>by exfalso;simp at h) (λh=>?_);exact A3 rfl <| Ag ⟨_,AD⟩
theorem P6 {l:List Tok} {a b:Nat} {t:Tm} (hA:AK Tryz.prog 302 [.ref 1 0] (Gs l a) (.ret (.imm (.agg (Bo t))) (Gs l b))) (hno:AQ l b [42]=false):AK Tryz.prog 281 [.ref 1 0] (Gs l a) (.ret (.imm (.agg (Bo t))) (Gs l b)):=by
 obtain ⟨t1,t2,t3,t4,t5⟩:=t;refine Ac AE Tryz.func281 (by decide +kernel) rfl [2,3,4] rfl rfl <| Ap rfl <| Ad (fr:=[]) [(1,1)] [] rfl (by simp) (hA) At rfl rfl rfl rfl <| Ap rfl <| Ak (λ_:Nat=>[(0,.ref 1 0),(3,.ref 3 0),(2,.ref 2 0)]) (λ_=>[(1,some (iH l b)),(2,some (.cells 49 5 [.imm (.int .i64 0),.imm (.int .i64 0),.imm (.str []),.nils,.nils])),(3,some (.immb 49 5 (Bo (.mk t1 t2 t3 t4 t5))))]) [4] (λ_=>0) (λ_=>True) 0 trivial AD AD rfl λ_ _ _=>A3 rfl <| Ad (fr:=[]) [(1,1)] [] rfl (by simp) (AY hno) At rfl rfl rfl rfl <| Ap rfl <| Aa rfl (λh=>by exfalso;simp at h) (λh=>?_);exact Aw rfl <| A3 rfl <| Ag ⟨_,AD⟩
theorem RL {l:List Tok} {f:Nat} {t:Tm} {a:Nat} {r:Tm×Nat} (h:NC l f t a=some r):AQ l a [42]=false:=by
 cases f with
 | zero=>simp [NC] at h
 | succ f=>rw [NC] at h;exact (D5 h).1 _ (AO.2 rfl)
theorem oT {l:List Tok} {a:Nat} {x:Str} (h:AQ l a x=true):a<l.length:=by
 cases e:l[a]? with
 | none=>rw [AQ,e] at h;cases h
 | some t=>exact (AJ.1 e).1
theorem gO {l:List Tok} (hl:l.length<=10000) (n:Nat) (IH:∀f,f<n->WQ l f):wX l n:=by
 intro a t b h;cases n with
 | zero=>simp [X2] at h
 | succ f =>
 rw [X2] at h;cases hr:X4 l f a with
 | none=>rw [hr] at h;cases h
 | some r =>
 rw [hr] at h;simp only [Dg] at h;have hP:=P6 ((IH f (Cw f)).app _ r.1 r.2 hr) (RL h);have IH:=λg (hg:g<=f)=>(IH g (by omega)).app;clear hr;obtain ⟨⟨r1,r2,r3,r4,r5⟩,rp⟩:=r;simp only at h hP;refine Ac AE Tryz.func243 (by decide +kernel) rfl [2,3,4,5] rfl rfl <| Ap rfl <| Ad (fr:=[]) [(1,1)] [] rfl (by simp) (hP) At rfl rfl rfl rfl <| Ap rfl ?_;clear hP;refine Ak (λ_:Nat×Tm×Nat=>[(0,.ref 1 0),(3,.ref 3 0),(2,.ref 2 0)]) (λz=>[(1,some (iH l z.2.2)),(2,some (.cells 49 5 [.imm (.int .i64 0),.imm (.int .i64 0),.imm (.str []),.nils,.nils])),(3,some (.immb 49 5 (Bo z.2.1)))]) [4,5] (λz=>z.1)
  (λz=>z.1<=f/\NC l z.1 z.2.1 z.2.2=some (t,b)) (f,.mk r1 r2 r3 r4 r5,rp) ⟨B8 _,h⟩ AD AD rfl λz hz ih=>?_
 clear h;obtain ⟨f1,⟨t1,t2,t3,t4,t5⟩,a1⟩:=z;obtain ⟨z1,z2⟩:=hz;simp only at z1 z2 ih;cases f1 with
 | zero=>simp [NC] at z2
 | succ f1 =>
 rw [NC] at z2;obtain ⟨-,z2⟩:=D5 z2;have hS:=Lz l a1 [43];by_cases c1:AQ l a1 [43]=true
 ·rw [if_pos c1] at z2;rw [c1] at hS;cases hu:X4 l f1 (a1+1) with
  | none=>rw [hu] at z2;cases z2
  | some u =>
  rw [hu] at z2;simp only [Dg] at z2;have hQ:=P6 (IH f1 (by omega) _ u.1 u.2 hu) (RL z2);have hW:=WY 9 (.mk t1 t2 t3 t4 t5) u.1;have hlt:=oT c1;have w:IntKind.i64.wrap ((a1:Int)+1)=((a1+1:Nat):Int):=by rw [Cb (by omega) (by omega)];omega
  obtain ⟨⟨u1,u2,u3,u4,u5⟩,up⟩:=u;simp only at z2 hQ hW;refine VK rfl <| A4 [(1,1)] [] [1] (fr:=[]) (nm:=[]) rfl (by simp [Am]) (by simp) (hS) At rfl ⟨⟨rfl,rfl⟩,trivial⟩ rfl rfl rfl <| Kq rfl <| OM (.imm (.bool false)) rfl (by simp [Am]) <| Kq rfl <| Aa rfl (λh=>?_) (λh=>by exfalso;simp at h);refine A3 rfl <| Ad (fr:=[]) [(1,1)] [] rfl (by simp) (hS) At rfl rfl rfl rfl <| Ap rfl <| Aa rfl (λh=>?_) (λh=>by exfalso;simp at h);refine A3 rfl ?_;rw [w];exact Ad (fr:=[]) [(1,1)] [] rfl (by simp) (hQ) At rfl rfl rfl rfl <| Ap rfl <| Af rfl hW <| Ap rfl <| Ae (ih (f1,_,up) (Cw _) ⟨by simp only;omega,z2⟩) AD AD rfl
 ·rw [if_neg c1] at z2;obtain ⟨c2,z2⟩:=D5 z2;have hS2:=Lz l a1 [45];rw [c2 _ (AO.2 rfl)] at hS2;rw [show AQ l a1 [43]=false by simpa using c1] at hS;cases z2;refine VK rfl <| A4 [(1,1)] [] [1] (fr:=[]) (nm:=[]) rfl (by simp [Am]) (by simp) (hS) At rfl ⟨⟨rfl,rfl⟩,trivial⟩ rfl rfl rfl <| Kq rfl <| A4 [(1,1)] [] [1] (fr:=[]) (nm:=[]) rfl (by simp [Am]) (by simp) (hS2) At rfl ⟨⟨rfl,rfl⟩,trivial⟩ rfl rfl rfl <| Kq rfl <| Aa rfl (λh=>by exfalso;simp at h) (λh=>?_);exact Aw rfl <| A3 rfl <| Ag ⟨_,AD⟩
theorem nJ {l:List Tok} (hl:l.length<=10000) (n:Nat) (IH:∀f,f<n->WQ l f):xG l n:=by
 intro a t b h;cases n with
 | zero=>simp [X4] at h
 | succ f =>
 rw [X4] at h;cases hr:P7 l f a with
 | none=>rw [hr] at h;cases h
 | some r =>
 rw [hr] at h;simp only [Dg] at h;have hP:=(IH f (Cw f)).atom _ r.1 r.2 hr;have IH:=λg (hg:g<=f)=>(IH g (by omega)).atom;clear hr;obtain ⟨⟨r1,r2,r3,r4,r5⟩,rp⟩:=r;simp only at h hP;refine Ac AE Tryz.func302 (by decide +kernel) rfl [2,3,4,5] rfl rfl <| Ap rfl <| Ad (fr:=[]) [(1,1)] [] rfl (by simp) (hP) At rfl rfl rfl rfl <| Ap rfl ?_;clear hP;refine Ak (λ_:Nat×Tm×Nat=>[(0,.ref 1 0),(3,.ref 3 0),(2,.ref 2 0)]) (λz=>[(1,some (iH l z.2.2)),(2,some (.cells 49 5 [.imm (.int .i64 0),.imm (.int .i64 0),.imm (.str []),.nils,.nils])),(3,some (.immb 49 5 (Bo z.2.1)))]) [4,5] (λz=>z.1)
  (λz=>z.1<=f/\Vj l z.1 z.2.1 z.2.2=some (t,b)) (f,.mk r1 r2 r3 r4 r5,rp) ⟨B8 _,h⟩ AD AD rfl λz hz ih=>?_
 clear h;obtain ⟨f1,⟨t1,t2,t3,t4,t5⟩,a1⟩:=z;obtain ⟨z1,z2⟩:=hz;simp only at z1 z2 ih;cases f1 with
 | zero=>simp [Vj] at z2
 | succ f1 =>
 rw [Vj] at z2;have hS:=fF l a1;by_cases c1:Mt l a1=true
 ·rw [if_pos c1] at z2;rw [c1] at hS;cases hu:P7 l f1 a1 with
  | none=>rw [hu] at z2;cases z2
  | some u =>
  rw [hu] at z2;simp only [Dg] at z2;have hQ:=IH f1 (by omega) _ u.1 u.2 hu;have hW:=WY 6 (.mk t1 t2 t3 t4 t5) u.1;obtain ⟨⟨u1,u2,u3,u4,u5⟩,up⟩:=u;simp only at z2 hQ hW;refine A3 rfl <| Ad (fr:=[]) [(1,1)] [] rfl (by simp) (hS) At rfl rfl rfl rfl <| Ap rfl <| Aa rfl (λh=>?_) (λh=>by exfalso;simp at h);exact A3 rfl <| Ad (fr:=[]) [(1,1)] [] rfl (by simp) (hQ) At rfl rfl rfl rfl <| Ap rfl <| Af rfl hW <| Ap rfl <| Ae (ih (f1,_,up) (Cw _) ⟨by simp only;omega,z2⟩) AD AD rfl
 ·rw [if_neg c1] at z2;rw [show Mt l a1=false by simpa using c1] at hS;cases z2;refine A3 rfl <| Ad (fr:=[]) [(1,1)] [] rfl (by simp) (hS) At rfl rfl rfl rfl <| Ap rfl <| Aa rfl (λh=>by exfalso;simp at h) (λh=>?_);exact Aw rfl <| A3 rfl <| Ag ⟨_,AD⟩
theorem fE {l:List Tok} (hl:l.length<=10000) (n:Nat) (IH:∀f,f<n->WQ l f) {u:Tok} {a:Nat} (hu:l[a]?=some u) {t:Tm} {b:Nat} (h:ZF l n a=some (t,b)):AK Tryz.prog 323 [.ref 1 0] (Gs l a) (.ret (.imm (.agg (Bo t))) (Gs l b)):=by
 cases n with
 | zero=>simp [ZF] at h
 | succ f =>
 have ihT:=(IH f (Cw f)).term;have ihL:=(IH f (Cw f)).terms;clear IH;have hx:C2 l a=u.text:=by rw [C2,hu]
 have hlt:=(AJ.1 hu).1;have hg:=In hu;have w:IntKind.i64.wrap ((a:Int)+1)=((a+1:Nat):Int):=by rw [Cb (by omega) (by omega)];omega
 have hC:=SU u.text;rw [ZF,hx] at h;obtain ⟨u1,u2,u3,u4⟩:=u;simp only at hC h;generalize E6 u2=c at *;obtain ⟨c1,c2⟩:=c;simp only at hC h
 split at h
 case isTrue=>cases h
 rename_i e1;by_cases e2:0<c2
 ·rw [if_pos e2] at h;cases hr:KU l f c2 (a+1) with
  | none=>rw [hr] at h;cases h
  | some r =>
  rw [hr] at h;cases h;have hL:=ihL _ _ r.1 r.2 hr;refine Ac AE Tryz.func323 (by decide +kernel) rfl [2,3,4,5] rfl rfl <| Ap rfl <| ji rfl (c:=GD ⟨u1,u2,u3,u4⟩) (λ_=>⟨by simp,by simpa using hg,by simp⟩) (by simp) <| Ap rfl <| Af rfl hC <| jg [] rfl (by simp;kernel_rfl) <| Aa rfl (λh=>by exfalso;simp at h;exact e1 h) (λh=>?_);refine A3 rfl ?_;rw [w];refine Aa rfl (λh=>?_) (λh=>by exfalso;simp at h;omega);exact A3 rfl <| Ad (fr:=[]) [(1,1)] [] rfl (by simp) (hL) At rfl rfl rfl rfl <| Ap rfl <| Ag ⟨_,AD⟩
 rw [if_neg e2] at h;by_cases e3:c2<0
 ·rw [if_pos e3] at h;obtain ⟨s1,h⟩:=AP h
  split at h
  case isFalse=>cases h
  rename_i k1;obtain ⟨s2,h⟩:=AP h;obtain ⟨v,hv,hk,_,hn⟩:=DG k1;rw [hn] at h;cases hr:CQ l f (a+4) with
  | none=>rw [hr] at h;cases h
  | some r =>
  rw [hr] at h;simp only [Dg] at h;obtain ⟨s3,h⟩:=AP h;cases h;have hT:=ihT _ r.1 r.2 hr;obtain ⟨v1,v2,v3,v4⟩:=v;obtain ⟨⟨r1,r2,r3,r4,r5⟩,rp⟩:=r;simp only at s3 hT ⊢;refine Ac AE Tryz.func323 (by decide +kernel) rfl [2,3,4,5] rfl rfl <| Ap rfl <| ji rfl (c:=GD ⟨u1,u2,u3,u4⟩) (λ_=>⟨by simp,by simpa using hg,by simp⟩) (by simp) <| Ap rfl <| Af rfl hC <| jg [] rfl (by simp;kernel_rfl) <| Aa rfl (λh=>by exfalso;simp at h;exact e1 h) (λh=>?_);refine A3 rfl ?_;rw [w];refine Aa rfl (λh=>by exfalso;simp at h;omega) (λh=>?_);refine A3 rfl <| Aa rfl (λh=>?_) (λh=>by exfalso;simp at h;omega)
  exact A3 rfl <| Ad (fr:=[]) [(1,1)] [] rfl (by simp) (B0 hl s1) At rfl rfl rfl rfl <| Ap rfl <| Ad (fr:=[]) [(1,1)] [] rfl (by simp) (Du hl hv hk) At rfl rfl rfl rfl <| Ap rfl <| Ad (fr:=[]) [(1,1)] [] rfl (by simp) (B0 hl s2) At rfl rfl rfl rfl <| Ap rfl <| Ad (fr:=[]) [(1,1)] [] rfl (by simp) (hT) At rfl rfl rfl rfl <| Ap rfl <| Ad (fr:=[]) [(1,1)] [] rfl (by simp) (B0 hl s3) At rfl rfl rfl rfl <| Ap rfl <| Ag ⟨_,AD⟩
 ·rw [if_neg e3] at h;cases h;refine Ac AE Tryz.func323 (by decide +kernel) rfl [2,3,4,5] rfl rfl <| Ap rfl <| ji rfl (c:=GD ⟨u1,u2,u3,u4⟩) (λ_=>⟨by simp,by simpa using hg,by simp⟩) (by simp) <| Ap rfl <| Af rfl hC <| jg [] rfl (by simp;kernel_rfl) <| Aa rfl (λh=>by exfalso;simp at h;exact e1 h) (λh=>?_);refine A3 rfl ?_;rw [w];refine Aa rfl (λh=>by exfalso;simp at h;omega) (λh=>?_);refine A3 rfl <| Aa rfl (λh=>by exfalso;simp at h;omega) (λh=>?_);exact A3 rfl <| Ag ⟨_,AD⟩
theorem fG {l:List Tok} (hl:l.length<=10000) (n:Nat) (IH:∀f,f<n->WQ l f):sU l n:=by
 intro a t b h;cases n with
 | zero=>simp [P7] at h
 | succ f =>
 have ihT:=(IH f (Cw f)).term;have ihL:=(IH f (Cw f)).terms;have ihC:=(IH f (Cw f)).cases_;have ihK:=λu hu t b h=>fE hl f (λg hg=>IH g (by omega)) (u:=u) (a:=a) hu (t:=t) (b:=b) h;clear IH;rw [P7] at h;have hI4:=J1 l a 4;by_cases k4:Lf l a 4=true
 ·rw [if_pos k4] at h;rw [k4] at hI4;obtain ⟨u,hu,hk,_,hn⟩:=DG k4;rw [hn] at h;cases h;obtain ⟨u1,u2,u3,u4⟩:=u;refine Ac AE Tryz.func317 (by decide +kernel) rfl [2,3,4] rfl rfl <| Ap rfl <| Ad (fr:=[]) [(1,1)] [] rfl (by simp) (hI4) At rfl rfl rfl rfl <| Ap rfl <| Aa rfl (λh=>?_) (λh=>by exfalso;simp at h);exact A3 rfl <| Ad (fr:=[]) [(1,1)] [] rfl (by simp) (Du hl hu hk) At rfl rfl rfl rfl <| Ap rfl <| Ag ⟨_,AD⟩
 rw [if_neg k4] at h;rw [show Lf l a 4=false by simpa using k4] at hI4;have hI1:=J1 l a 1;by_cases k1:Lf l a 1=true
 ·rw [if_pos k1] at h;rw [k1] at hI1;obtain ⟨u,hu,hk,hx,_⟩:=DG k1;rw [hx] at h;cases h;obtain ⟨u1,u2,u3,u4⟩:=u;refine Ac AE Tryz.func317 (by decide +kernel) rfl [2,3,4] rfl rfl <| Ap rfl <| Ad (fr:=[]) [(1,1)] [] rfl (by simp) (hI4) At rfl rfl rfl rfl <| Ap rfl <| Aa rfl (λh=>by exfalso;simp at h) (λh=>?_);refine A3 rfl <| Ad (fr:=[]) [(1,1)] [] rfl (by simp) (hI1) At rfl rfl rfl rfl <| Ap rfl <| Aa rfl (λh=>?_) (λh=>by exfalso;simp at h);exact A3 rfl <| Ad (fr:=[]) [(1,1)] [] rfl (by simp) (Du hl hu hk) At rfl rfl rfl rfl <| Ap rfl <| Ag ⟨_,AD⟩
 rw [if_neg k1] at h;rw [show Lf l a 1=false by simpa using k1] at hI1;have hI2:=J1 l a 2;by_cases k2:Lf l a 2=true
 ·rw [if_pos k2] at h;rw [k2] at hI2;obtain ⟨u,hu,hk,hx,_⟩:=DG k2;rw [hx] at h;have hS:=Lz l (a+1) [40];by_cases c1:AQ l (a+1) [40]=true
  ·rw [if_pos c1] at h;rw [c1] at hS;cases hr:KU l f (-1) (a+1) with
   | none=>rw [hr] at h;cases h
   | some r =>
   rw [hr] at h;cases h;have hL:=ihL _ _ r.1 r.2 hr;obtain ⟨u1,u2,u3,u4⟩:=u;refine Ac AE Tryz.func317 (by decide +kernel) rfl [2,3,4] rfl rfl <| Ap rfl <| Ad (fr:=[]) [(1,1)] [] rfl (by simp) (hI4) At rfl rfl rfl rfl <| Ap rfl <| Aa rfl (λh=>by exfalso;simp at h) (λh=>?_);refine A3 rfl <| Ad (fr:=[]) [(1,1)] [] rfl (by simp) (hI1) At rfl rfl rfl rfl <| Ap rfl <| Aa rfl (λh=>by exfalso;simp at h) (λh=>?_);refine A3 rfl <| Ad (fr:=[]) [(1,1)] [] rfl (by simp) (hI2) At rfl rfl rfl rfl <| Ap rfl <| Aa rfl (λh=>?_) (λh=>by exfalso;simp at h)
   refine A3 rfl <| Ad (fr:=[]) [(1,1)] [] rfl (by simp) (Du hl hu hk) At rfl rfl rfl rfl <| Ap rfl <| Ad (fr:=[]) [(1,1)] [] rfl (by simp) (hS) At rfl rfl rfl rfl <| Ap rfl <| Aa rfl (λh=>?_) (λh=>by exfalso;simp at h);exact A3 rfl <| Ad (fr:=[]) [(1,1)] [] rfl (by simp) (hL) At rfl rfl rfl rfl <| Ap rfl <| Ag ⟨_,AD⟩
  ·rw [if_neg c1] at h;rw [show AQ l (a+1) [40]=false by simpa using c1] at hS;cases h;obtain ⟨u1,u2,u3,u4⟩:=u;refine Ac AE Tryz.func317 (by decide +kernel) rfl [2,3,4] rfl rfl <| Ap rfl <| Ad (fr:=[]) [(1,1)] [] rfl (by simp) (hI4) At rfl rfl rfl rfl <| Ap rfl <| Aa rfl (λh=>by exfalso;simp at h) (λh=>?_);refine A3 rfl <| Ad (fr:=[]) [(1,1)] [] rfl (by simp) (hI1) At rfl rfl rfl rfl <| Ap rfl <| Aa rfl (λh=>by exfalso;simp at h) (λh=>?_);refine A3 rfl <| Ad (fr:=[]) [(1,1)] [] rfl (by simp) (hI2) At rfl rfl rfl rfl <| Ap rfl <| Aa rfl (λh=>?_) (λh=>by exfalso;simp at h)
   refine A3 rfl <| Ad (fr:=[]) [(1,1)] [] rfl (by simp) (Du hl hu hk) At rfl rfl rfl rfl <| Ap rfl <| Ad (fr:=[]) [(1,1)] [] rfl (by simp) (hS) At rfl rfl rfl rfl <| Ap rfl <| Aa rfl (λh=>by exfalso;simp at h) (λh=>?_);exact A3 rfl <| Ag ⟨_,AD⟩
 rw [if_neg k2] at h;rw [show Lf l a 2=false by simpa using k2] at hI2;obtain ⟨hB,h⟩:=D5 h;have b1:=hB rR (by simp);have b2:=hB Wh (by simp);by_cases c1:AQ l a cU=true
 ·rw [if_pos c1] at h;have hC:=ihC _ t b h;obtain ⟨t1,t2,t3,t4,t5⟩:=t;refine Ac AE Tryz.func317 (by decide +kernel) rfl [2,3,4] rfl rfl <| Ap rfl <| Ad (fr:=[]) [(1,1)] [] rfl (by simp) (hI4) At rfl rfl rfl rfl <| Ap rfl <| Aa rfl (λh=>by exfalso;simp at h) (λh=>?_);refine A3 rfl <| Ad (fr:=[]) [(1,1)] [] rfl (by simp) (hI1) At rfl rfl rfl rfl <| Ap rfl <| Aa rfl (λh=>by exfalso;simp at h) (λh=>?_);refine A3 rfl <| Ad (fr:=[]) [(1,1)] [] rfl (by simp) (hI2) At rfl rfl rfl rfl <| Ap rfl <| Aa rfl (λh=>by exfalso;simp at h) (λh=>?_);refine A3 rfl <| Ad (fr:=[]) [(1,1)] [] rfl (by simp) (AY b1) At rfl rfl rfl rfl <| Ap rfl <| Aa rfl (λh=>by exfalso;simp at h) (λh=>?_)
  refine A3 rfl <| Ad (fr:=[]) [(1,1)] [] rfl (by simp) (AY b2) At rfl rfl rfl rfl <| Ap rfl <| Aa rfl (λh=>by exfalso;simp at h) (λh=>?_);refine A3 rfl <| Ad (fr:=[]) [(1,1)] [] rfl (by simp) (CI hl c1) At rfl rfl rfl rfl <| Ap rfl <| Aa rfl (λh=>?_) (λh=>by exfalso;simp at h);exact A3 rfl <| Ad (fr:=[]) [(1,1)] [] rfl (by simp) (hC) At rfl rfl rfl rfl <| Ap rfl <| Ag ⟨_,AD⟩
 rw [if_neg c1] at h;have c1:AQ l a cU=false:=by simpa using c1
 by_cases c2:AQ l a [40]=true
 ·rw [if_pos c2] at h;obtain ⟨c3,h⟩:=D5 h;have c3:=c3 _ (AO.2 rfl);cases hr:CQ l f (a+1) with
  | none=>rw [hr] at h;cases h
  | some r =>
  rw [hr] at h;simp only [Dg] at h;obtain ⟨s1,h⟩:=AP h;cases h;have hT:=ihT _ r.1 r.2 hr;obtain ⟨⟨r1,r2,r3,r4,r5⟩,rp⟩:=r;simp only at s1 hT ⊢;refine Ac AE Tryz.func317 (by decide +kernel) rfl [2,3,4] rfl rfl <| Ap rfl <| Ad (fr:=[]) [(1,1)] [] rfl (by simp) (hI4) At rfl rfl rfl rfl <| Ap rfl <| Aa rfl (λh=>by exfalso;simp at h) (λh=>?_);refine A3 rfl <| Ad (fr:=[]) [(1,1)] [] rfl (by simp) (hI1) At rfl rfl rfl rfl <| Ap rfl <| Aa rfl (λh=>by exfalso;simp at h) (λh=>?_);refine A3 rfl <| Ad (fr:=[]) [(1,1)] [] rfl (by simp) (hI2) At rfl rfl rfl rfl <| Ap rfl <| Aa rfl (λh=>by exfalso;simp at h) (λh=>?_)
  refine A3 rfl <| Ad (fr:=[]) [(1,1)] [] rfl (by simp) (AY b1) At rfl rfl rfl rfl <| Ap rfl <| Aa rfl (λh=>by exfalso;simp at h) (λh=>?_);refine A3 rfl <| Ad (fr:=[]) [(1,1)] [] rfl (by simp) (AY b2) At rfl rfl rfl rfl <| Ap rfl <| Aa rfl (λh=>by exfalso;simp at h) (λh=>?_);refine A3 rfl <| Ad (fr:=[]) [(1,1)] [] rfl (by simp) (AY c1) At rfl rfl rfl rfl <| Ap rfl <| Aa rfl (λh=>by exfalso;simp at h) (λh=>?_);refine A3 rfl <| Ad (fr:=[]) [(1,1)] [] rfl (by simp) (CI hl c2) At rfl rfl rfl rfl <| Ap rfl <| Aa rfl (λh=>?_) (λh=>by exfalso;simp at h);refine A3 rfl <| Ad (fr:=[]) [(1,1)] [] rfl (by simp) (AY c3) At rfl rfl rfl rfl <| Ap rfl <| Aa rfl (λh=>by exfalso;simp at h) (λh=>?_)
  exact A3 rfl <| Ad (fr:=[]) [(1,1)] [] rfl (by simp) (hT) At rfl rfl rfl rfl <| Ap rfl <| Ad (fr:=[]) [(1,1)] [] rfl (by simp) (B0 hl s1) At rfl rfl rfl rfl <| Ap rfl <| Ag ⟨_,AD⟩
 rw [if_neg c2] at h;have c2:AQ l a [40]=false:=by simpa using c2
 have hI3:=J1 l a 3
 split at h
 case isFalse=>cases h
 rename_i k3;rw [k3] at hI3;obtain ⟨u,hu,_⟩:=DG k3;have hK:=ihK u hu t b h;obtain ⟨t1,t2,t3,t4,t5⟩:=t;refine Ac AE Tryz.func317 (by decide +kernel) rfl [2,3,4] rfl rfl <| Ap rfl <| Ad (fr:=[]) [(1,1)] [] rfl (by simp) (hI4) At rfl rfl rfl rfl <| Ap rfl <| Aa rfl (λh=>by exfalso;simp at h) (λh=>?_);refine A3 rfl <| Ad (fr:=[]) [(1,1)] [] rfl (by simp) (hI1) At rfl rfl rfl rfl <| Ap rfl <| Aa rfl (λh=>by exfalso;simp at h) (λh=>?_);refine A3 rfl <| Ad (fr:=[]) [(1,1)] [] rfl (by simp) (hI2) At rfl rfl rfl rfl <| Ap rfl <| Aa rfl (λh=>by exfalso;simp at h) (λh=>?_)
 refine A3 rfl <| Ad (fr:=[]) [(1,1)] [] rfl (by simp) (AY b1) At rfl rfl rfl rfl <| Ap rfl <| Aa rfl (λh=>by exfalso;simp at h) (λh=>?_);refine A3 rfl <| Ad (fr:=[]) [(1,1)] [] rfl (by simp) (AY b2) At rfl rfl rfl rfl <| Ap rfl <| Aa rfl (λh=>by exfalso;simp at h) (λh=>?_);refine A3 rfl <| Ad (fr:=[]) [(1,1)] [] rfl (by simp) (AY c1) At rfl rfl rfl rfl <| Ap rfl <| Aa rfl (λh=>by exfalso;simp at h) (λh=>?_);refine A3 rfl <| Ad (fr:=[]) [(1,1)] [] rfl (by simp) (AY c2) At rfl rfl rfl rfl <| Ap rfl <| Aa rfl (λh=>by exfalso;simp at h) (λh=>?_);refine A3 rfl <| Ad (fr:=[]) [(1,1)] [] rfl (by simp) (hI3) At rfl rfl rfl rfl <| Ap rfl <| Aa rfl (λh=>?_) (λh=>by exfalso;simp at h)
 exact A3 rfl <| Ad (fr:=[]) [(1,1)] [] rfl (by simp) (hK) At rfl rfl rfl rfl <| Ap rfl <| Ag ⟨_,AD⟩
theorem WZ {l:List Tok} (hl:l.length<=10000) (n:Nat) (hnn:n<=1000000) (IH:∀f,f<n->WQ l f):nO l n:=by
 intro k a ks b h;cases n with
 | zero=>simp [KU] at h
 | succ f =>
 rw [KU] at h;obtain ⟨s1,h⟩:=AP h;cases hr:CQ l f (a+1) with
 | none=>rw [hr] at h;cases h
 | some r =>
 rw [hr] at h;simp only [Dg] at h;have hP:=(IH f (Cw f)).term _ r.1 r.2 hr;have IH:=λg (hg:g<=f)=>(IH g (by omega)).term;clear hr;obtain ⟨⟨r1,r2,r3,r4,r5⟩,rp⟩:=r;simp only at h hP;refine Ac AE Tryz.func321 (by decide +kernel) rfl [2,3,4,5,6] rfl rfl <| Ap rfl <| Ad (fr:=[]) [(1,1)] [] rfl (by simp) (B0 hl s1) At rfl rfl rfl rfl <| Ap rfl <| Ad (fr:=[]) [(1,1)] [] rfl (by simp) (hP) At rfl rfl rfl rfl <| jgf 6 rfl (by simp) <| mB AE 3 rfl (by simp) <| Ap rfl ?_;clear hP;refine Ak (λz:Nat×List Tm×Nat=>[(0,.ref 1 0),(1,.imm (.int .i64 k)),(6,.own 3 (E4 z.2.1).length)]) (λz=>[(1,some (iH l z.2.2)),(3,some (.row 49 5 (E4 z.2.1)))]) [4,5,6] (λz=>z.1)
  (λz=>z.1+z.2.1.length<=f+1/\LA l z.1 k z.2.1 z.2.2=some (ks,b)) (f,[.mk r1 r2 r3 r4 r5],rp) ⟨by simp,h⟩ AD AM rfl λz hz ih=>?_
 clear h;obtain ⟨f1,out,a1⟩:=z;obtain ⟨z1,z2⟩:=hz;simp only at z1 z2 ih;cases f1 with
 | zero=>simp [LA] at z2
 | succ f1 =>
 rw [LA] at z2;refine VK rfl ?_;by_cases hk:k<0
 ·by_cases c1:AQ l a1 [44]=true
  ·rw [if_pos (.inl ⟨hk,c1⟩)] at z2;obtain ⟨-,z2⟩:=AP z2;cases hu:CQ l f1 (a1+1) with
   | none=>rw [hu] at z2;cases z2
   | some u =>
   rw [hu] at z2;simp only [Dg] at z2;have hT:=IH f1 (by omega) _ u.1 u.2 hu;have hap:E4 (out++[u.1])=E4 out++[Bo u.1]:=by rw [JC];rfl
   obtain ⟨⟨u1,u2,u3,u4,u5⟩,up⟩:=u;simp only at z2 hT hap;refine A4 [(1,1)] [] [] (fr:=[]) (nm:=[1,1]) rfl (by simp [Am,hk]) (by simp [Am]) (CI hl c1) At rfl trivial rfl rfl rfl <| jg [] rfl (by simp [Am];omega) <| Aa rfl (λh=>?_) (λh=>by exfalso;simp [hk] at h);refine A3 rfl <| Aa rfl (λh=>by exfalso;simp at h;omega) (λh=>?_);exact A3 rfl <| Ad (fr:=[]) [(1,1)] [] rfl (by simp) (hT) At rfl rfl rfl rfl <| Ap rfl <| B4 AE rfl ⟨by simp,by simp [maxLen];omega,by simp;omega,trivial⟩ <| Ap rfl <| AZ 3 5 rfl <| Ae (ih (f1,out++[.mk u1 u2 u3 u4 u5],up) (Cw _) ⟨by simp only [Bw,Dh,BX];omega,z2⟩) ⟨rfl,rfl,by rw [hap];rfl,trivial⟩ ⟨rfl,by rw [hap];rfl,trivial⟩ rfl
  ·have e:¬((k<0/\AQ l a1 [44]=true)\/(out.length:Int)<k):=λh=>h.elim (λh=>c1 h.2) (λh=>by omega);rw [if_neg e] at z2;have c1:AQ l a1 [44]=false:=by simpa using c1
   obtain ⟨s3,z2⟩:=AP z2;cases z2;refine A4 [(1,1)] [] [1] (fr:=[]) (nm:=[]) rfl (by simp [Am,hk]) (by simp [Am]) (AY c1) At rfl ⟨⟨rfl,rfl⟩,trivial⟩ rfl rfl rfl <| Kq rfl <| Aa rfl (λh=>by exfalso;simp at h;omega) (λh=>?_);exact Aw rfl <| By 3 rfl <| A3 rfl <| Ad (fr:=[]) [(1,1)] [] rfl (by simp) (B0 hl s3) At rfl rfl rfl rfl <| Ap rfl <| Ag ⟨_,AD⟩
 ·refine OM (.imm (.bool false)) rfl (by simp [Am];omega) <| Kq rfl ?_;by_cases c2:(out.length:Int)<k
  ·rw [if_pos (.inr c2)] at z2;obtain ⟨s3,z2⟩:=AP z2;cases hu:CQ l f1 (a1+1) with
   | none=>rw [hu] at z2;cases z2
   | some u =>
   rw [hu] at z2;simp only [Dg] at z2;have hT:=IH f1 (by omega) _ u.1 u.2 hu;have hap:E4 (out++[u.1])=E4 out++[Bo u.1]:=by rw [JC];rfl
   obtain ⟨⟨u1,u2,u3,u4,u5⟩,up⟩:=u;simp only at z2 hT hap;refine Aa rfl (λh=>?_) (λh=>by exfalso;simp at h;omega);refine A3 rfl <| Aa rfl (λh=>?_) (λh=>by exfalso;simp at h;omega);exact A3 rfl <| Ad (fr:=[]) [(1,1)] [] rfl (by simp) (B0 hl s3) At rfl rfl rfl rfl <| Ap rfl <| Ad (fr:=[]) [(1,1)] [] rfl (by simp) (hT) At rfl rfl rfl rfl <| Ap rfl <| B4 AE rfl ⟨by simp,by simp [maxLen];omega,by simp;omega,trivial⟩ <| Ap rfl <| AZ 3 5 rfl <| Ae (ih (f1,out++[.mk u1 u2 u3 u4 u5],up) (Cw _) ⟨by simp only [Bw,Dh,BX];omega,z2⟩) ⟨rfl,rfl,by rw [hap];rfl,trivial⟩ ⟨rfl,by rw [hap];rfl,trivial⟩ rfl
  ·rw [if_neg (λh=>h.elim (λh=>hk h.1) c2)] at z2;obtain ⟨s3,z2⟩:=AP z2;cases z2;refine Aa rfl (λh=>by exfalso;simp at h;omega) (λh=>?_);exact Aw rfl <| By 3 rfl <| A3 rfl <| Ad (fr:=[]) [(1,1)] [] rfl (by simp) (B0 hl s3) At rfl rfl rfl rfl <| Ap rfl <| Ag ⟨_,AD⟩
def mtB (n k:Nat):Blk:=.cells 49 5 [.imm (.int .i64 15),.imm (.int .i64 0),.imm (.str []),.own 5 n,.own 6 k]
theorem Zh {l:List Tok} (hl:l.length<=10000) (n:Nat) (hnn:n<=1000000) (IH:∀f,f<n->WQ l f):oB l n:=by
 intro a t b h;cases n with
 | zero=>simp [TA] at h
 | succ f =>
 rw [TA] at h;cases hr:CQ l f a with
 | none=>rw [hr] at h;cases h
 | some r =>
 rw [hr] at h;simp only [Dg] at h;obtain ⟨s1,h⟩:=AP h;have hP:=(IH f (Cw f)).term _ r.1 r.2 hr;have IH:=λg (hg:g<=f)=>(IH g (by omega)).term;clear hr;obtain ⟨⟨r1,r2,r3,r4,r5⟩,rp⟩:=r;simp only at h hP s1;refine Ac AE Tryz.func322 (by decide +kernel) rfl [2,3,5,4,6,7,8,9,10] rfl rfl <| Ap rfl <| Ad (fr:=[]) [(1,1)] [] rfl (by simp) (hP) At rfl rfl rfl rfl <| jgf 6 rfl (by simp) <| mB AE 5 rfl (by simp) <| Ap rfl <| Ad (fr:=[]) [(1,1)] [] rfl (by simp) (B0 hl s1) At rfl rfl rfl rfl <| Ap rfl ?_;clear hP
 refine DH 4 6 (e:=182) (sz:=4) [.imm (.int .i64 15),.imm (.int .i64 0),.imm (.str []),.own 5 1,.own 6 0] (by decide) rfl ⟨.inl rfl,.inl rfl,.inl rfl,.inl rfl,.inr ⟨rfl,rfl⟩,trivial⟩ <| Ak (λz:Bool×Nat×List Ty×List Tm×Nat=>[(5,.imm (.bool z.1)),(0,.ref 1 0),(4,.ref 4 0),(2,.ref 2 0)]) (λz=>[(1,some (iH l z.2.2.2.2)),(2,some (.cells 49 5 [.imm (.int .i64 0),.imm (.int .i64 0),.imm (.str []),.nils,.nils])),(4,some (mtB (E4 z.2.2.2.1).length (A2 z.2.2.1).length)),(5,some (.row 49 5 (E4 z.2.2.2.1))),(6,some (.row 182 4 (A2 z.2.2.1)))]) [7,8,9,10] (λz=>z.2.1)
  (λz=>z.2.1+z.2.2.1.length<=f/\z.2.1+z.2.2.2.1.length<=f+1/\if z.1=true then LC l z.2.1 z.2.2.1 z.2.2.2.1 z.2.2.2.2=some (t,b) else t = .mk 15 0 [] z.2.2.2.1 z.2.2.1/\AQ l z.2.2.2.2 [125]=true/\b=z.2.2.2.2+1) (true,f,[],[.mk r1 r2 r3 r4 r5],rp+1)
  ⟨by simp,by simp,by rw [if_pos rfl];exact h⟩ BF Bx rfl λz hz ih=>?_
 clear h;obtain ⟨more,f1,ps,ks,a1⟩:=z;obtain ⟨z1,z3,z2⟩:=hz;simp only at z1 z2 z3 ih;refine VK rfl ?_;cases more with
 | false =>
  simp only [Eo,if_false] at z2;obtain ⟨rfl,z2,rfl⟩:=z2;refine Aa rfl (λh=>by exfalso;simp at h) (λh=>?_);exact Aw rfl <| By 5 rfl <| By 6 rfl <| A3 rfl <| Ad (fr:=[]) [(1,1)] [] rfl (by simp) (B0 hl z2) At rfl rfl rfl rfl <| Ap rfl <| Ag ⟨_,AD⟩
 | true =>
  simp only [if_true] at z2;cases f1 with
  | zero=>simp [LC] at z2
  | succ f1 =>
  rw [LC] at z2;cases hq:X3 l f1 a1 with
  | none=>rw [hq] at z2;cases z2
  | some q =>
  rw [hq] at z2;simp only [Dg] at z2;obtain ⟨s2,z2⟩:=AP z2;cases hu:CQ l f1 (q.2+1) with
  | none=>rw [hu] at z2;cases z2
  | some u =>
  rw [hu] at z2;simp only [Dg] at z2;have hQ:=iW hl f1 (by omega) a1 q.1 q.2 hq;have hT:=IH f1 (by omega) _ u.1 u.2 hu;have hap:A2 (ps++[q.1])=A2 ps++[dTyc q.1]:=by rw [Eu];rfl
  have hak:E4 (ks++[u.1])=E4 ks++[Bo u.1]:=by rw [JC];rfl
  obtain ⟨⟨q1,q2,q3,q4⟩,qp⟩:=q;obtain ⟨⟨u1,u2,u3,u4,u5⟩,up⟩:=u;simp only at z2 s2 hQ hT hap hak;refine Aa rfl (λh=>?_) (λh=>by exfalso;simp at h);refine A3 rfl <| Ad (fr:=[]) [(1,1)] [] rfl (by simp) (hQ) At rfl rfl rfl rfl <| Ap rfl <| Ad (fr:=[]) [(1,1)] [] rfl (by simp) (B0 hl s2) At rfl rfl rfl rfl <| Ap rfl <| Ad (fr:=[]) [(1,1)] [] rfl (by simp) (hT) At rfl rfl rfl rfl <| Ap rfl <| B4 AE rfl ⟨by simp,by simp [maxLen];omega,by simp;omega,trivial⟩ <| Ap rfl <| B4 AE rfl ⟨by simp,by simp [maxLen];omega,by simp;omega,trivial⟩ <| Ap rfl ?_;by_cases c6:AQ l up [124]=true
  ·rw [if_pos c6] at z2;exact Ad (fr:=[]) [(1,1)] [] rfl (by simp) (CI hl c6) At rfl rfl rfl rfl <| Ap rfl <| AZ 6 9 rfl <| AZ 5 10 rfl <| Ae (ih (true,f1,ps++[.mk q1 q2 q3 q4],ks++[.mk u1 u2 u3 u4 u5],up+1) (Cw _) ⟨by simp only [Bw,Dh,BX];omega,by simp only [Bw,Dh,BX];omega,by rw [if_pos rfl];exact z2⟩) BF ⟨rfl,rfl,by rw [hap,hak];rfl,by rw [hak];rfl,by rw [hap];rfl,trivial⟩ rfl
  ·rw [if_neg c6] at z2;have c6:AQ l up [124]=false:=by simpa using c6
   obtain ⟨z4,z2⟩:=AP z2;cases z2;exact Ad (fr:=[]) [(1,1)] [] rfl (by simp) (AY c6) At rfl rfl rfl rfl <| Ap rfl <| AZ 6 9 rfl <| AZ 5 10 rfl <| Ae (ih (false,f1,ps++[.mk q1 q2 q3 q4],ks++[.mk u1 u2 u3 u4 u5],up) (Cw _) ⟨by simp only [Bw,Dh,BX];omega,by simp only [Bw,Dh,BX];omega,by rw [if_neg (by simp)];exact ⟨rfl,z4,rfl⟩⟩) BF ⟨rfl,rfl,by rw [hap,hak];rfl,by rw [hak];rfl,by rw [hap];rfl,trivial⟩ rfl
theorem ZD {l:List Tok} (hl:l.length<=10000):∀n,n<=1000000->WQ l n:=λn=>by
 induction n using Nat.strongRecOn with
 | ind n IH=>exact λhn =>
  have IH':=λf hf=>IH f hf (pP (Nat.le_of_lt hf) hn)
  ⟨bL hl n IH',gO hl n IH',nJ hl n IH',fG hl n IH',Zh hl n hn IH',WZ hl n hn IH'⟩
def wL (x:Str) (n:Nat):Blk:=.cells 113 2 [.imm (.str x),.own 4 n]
def cnB (x:Str) (n:Nat):Blk:=.cells 178 2 [.imm (.str x),.own 6 n]
theorem mV {l:List Tok} (hl:l.length<=10000) {f:Nat} (hf:f<=100000) {a:Nat} {d:Dt} {b:Nat} (h:ZE l f a=some (d,b)):AK Tryz.prog 240 [.ref 1 0] (Gs l a) (.ret (.imm (.agg (CK d))) (Gs l b)):=by
 unfold ZE at h
 split at h
 case isFalse=>cases h
 rename_i k1;obtain ⟨s1,h⟩:=AP h;obtain ⟨u,hu,hk,hx,_⟩:=DG k1;rw [hx] at h;cases hr:Sa l f [] (a+2) with
 | none=>rw [hr] at h;cases h
 | some r =>
 rw [hr] at h;cases h;obtain ⟨css,b⟩:=r;obtain ⟨u1,u2,u3,u4⟩:=u;simp only
 refine Ac AE Tryz.func240 (by decide +kernel) rfl [2,3,4,5,6,7,8,9] rfl rfl <| Ap rfl <| Ad (fr:=[]) [(1,1)] [] rfl (by simp) (Du hl hu hk) At rfl rfl rfl rfl <| Ap rfl <| Ad (fr:=[]) [(1,1)] [] rfl (by simp) (B0 hl s1) At rfl rfl rfl rfl <| Ap rfl <| DH 3 4 (e:=178) (sz:=2) [.imm (.str u2),.own 4 0] (by decide) rfl ⟨.inl rfl,.inr ⟨rfl,rfl⟩,trivial⟩ <| Ak (λz:Bool×Nat×List Cd×Nat=>[(4,.imm (.bool z.1)),(0,.ref 1 0),(3,.ref 3 0),(2,.ref 2 0)]) (λz=>[(1,some (iH l z.2.2.2)),(2,some (.cells 113 2 [.imm (.str []),.nils])),(3,some (wL u2 (z.2.2.1.map EY).length)),(4,some (.row 178 2 (z.2.2.1.map EY)))]) [5,6,7,8,9] (λz=>z.2.1)
  (λz=>z.2.1+z.2.2.1.length<=f/\if z.1=true then Sa l z.2.1 z.2.2.1 z.2.2.2=some (css,b) else css=z.2.2.1/\AQ l z.2.2.2 [59]=true/\b=z.2.2.2+1) (true,f,[],a+2)
  ⟨by simp,by rw [if_pos rfl];exact hr⟩ BF BF rfl λz hz ih=>?_
 clear hr hu k1 hx hk s1;obtain ⟨more,f1,cs,a1⟩:=z;obtain ⟨z1,z2⟩:=hz;simp only at z1 z2 ih;refine VK rfl ?_;cases more with
 | false =>
  simp only [Eo,if_false] at z2;obtain ⟨rfl,z2,rfl⟩:=z2;refine Aa rfl (λh=>by exfalso;simp at h) (λh=>?_);exact Aw rfl <| By 4 rfl <| A3 rfl <| Ad (fr:=[]) [(1,1)] [] rfl (by simp) (B0 hl z2) At rfl rfl rfl rfl <| Ap rfl <| Ag ⟨_,AD⟩
 | true =>
  simp only [if_true] at z2;cases f1 with
  | zero=>simp [Sa] at z2
  | succ f1 =>
  rw [Sa] at z2
  split at z2
  case isFalse=>cases z2
  rename_i k2;obtain ⟨v,hv,hk,hx,_⟩:=DG k2;rw [hx] at z2;obtain ⟨v1,v2,v3,v4⟩:=v;have hap:∀ts,(cs++[(⟨v2,ts⟩:Cd)]).map EY=cs.map EY++[EY ⟨v2,ts⟩]:=λts=>by simp
  simp only at z2;refine Aa rfl (λh=>?_) (λh=>by exfalso;simp at h);refine A3 rfl <| Ad (fr:=[]) [(1,1)] [] rfl (by simp) (Du hl hv hk) At rfl rfl rfl rfl <| Ap rfl ?_;by_cases c1:AQ l (a1+1) [40]=true
  ·rw [if_pos c1] at z2;cases hw:Sc l f1 [] (a1+2) with
   | none=>rw [hw] at z2;cases z2
   | some w =>
   rw [hw] at z2;obtain ⟨tss,c⟩:=w;simp only [Dg] at z2;refine Ad (fr:=[]) [(1,1)] [] rfl (by simp) (CI hl c1) At rfl rfl rfl rfl <| Ap rfl <| Aa rfl (λh=>?_) (λh=>by exfalso;simp at h);refine A3 rfl <| DH 5 6 (e:=25) (sz:=4) [.imm (.str v2),.own 6 0] (by decide) rfl ⟨.inl rfl,.inr ⟨rfl,rfl⟩,trivial⟩ <| Ak (λz:Bool×Nat×List Ty×Nat=>[(6,.imm (.bool z.1)),(0,.ref 1 0),(3,.ref 3 0),(2,.ref 2 0),(5,.ref 5 0)]) (λz=>[(1,some (iH l z.2.2.2)),(2,some (.cells 113 2 [.imm (.str []),.nils])),(3,some (wL u2 (cs.map EY).length)),(4,some (.row 178 2 (cs.map EY))),(5,some (cnB v2 (A2 z.2.2.1).length)),(6,some (.row 25 4 (A2 z.2.2.1)))]) [7,8,9] (λz=>z.2.1)
    (λz=>z.2.1+z.2.2.1.length<=f1/\if z.1=true then Sc l z.2.1 z.2.2.1 z.2.2.2=some (tss,c) else tss=z.2.2.1/\AQ l z.2.2.2 [41]=true/\c=z.2.2.2+1) (true,f1,[],a1+2)
    ⟨by simp,by rw [if_pos rfl];exact hw⟩ Bx Gq rfl λy hy jh=>?_
   clear hw;obtain ⟨more,g1,ts,a2⟩:=y;obtain ⟨y1,y2⟩:=hy;simp only at y1 y2 jh;refine VK rfl ?_;cases more with
   | false =>
    simp only [Eo,if_false] at y2;obtain ⟨rfl,y2,rfl⟩:=y2;refine Aa rfl (λh=>by exfalso;simp at h) (λh=>?_);refine Aw rfl <| By 6 rfl <| A3 rfl <| Ad (fr:=[]) [(1,1)] [] rfl (by simp) (B0 hl y2) At rfl rfl rfl rfl <| Ap rfl <| B4 AE rfl ⟨by simp,by simp [maxLen];omega,by simp;omega,trivial⟩ <| Ap rfl ?_;by_cases c6:AQ l (a2+1) [124]=true
    ·rw [if_pos c6] at z2;exact Ad (fr:=[]) [(1,1)] [] rfl (by simp) (CI hl c6) At rfl rfl rfl rfl <| Ap rfl <| AZ 4 7 rfl <| Ae (ih (true,f1,cs++[⟨v2,tss⟩],a2+1+1) (Cw _) ⟨by simp only [Bw,Dh,BX];omega,by rw [if_pos rfl];exact z2⟩) BF ⟨rfl,rfl,by rw [hap];rfl,by rw [hap];rfl,trivial⟩ rfl
    ·rw [if_neg c6] at z2;have c6:AQ l (a2+1) [124]=false:=by simpa using c6
     obtain ⟨z4,z2⟩:=AP z2;cases z2;exact Ad (fr:=[]) [(1,1)] [] rfl (by simp) (AY c6) At rfl rfl rfl rfl <| Ap rfl <| AZ 4 7 rfl <| Ae (ih (false,f1,cs++[⟨v2,tss⟩],a2+1) (Cw _) ⟨by simp only [Bw,Dh,BX];omega,by rw [if_neg (by simp)];exact ⟨rfl,z4,rfl⟩⟩) BF ⟨rfl,rfl,by rw [hap];rfl,by rw [hap];rfl,trivial⟩ rfl
   | true =>
    simp only [if_true] at y2;cases g1 with
    | zero=>simp [Sc] at y2
    | succ g1 =>
    rw [Sc] at y2;cases hq:LB l a2 with
    | none=>rw [hq] at y2;cases y2
    | some q =>
    rw [hq] at y2;simp only [Dg] at y2;have hQ:=Qe hl (t:=q.1) (b:=q.2) hq;have hat:A2 (ts++[q.1])=A2 ts++[dTyc q.1]:=by rw [Eu];rfl
    obtain ⟨⟨q1,q2,q3,q4⟩,qp⟩:=q;simp only at y2 hQ hat
    refine Aa rfl (λh=>?_) (λh=>by exfalso;simp at h);refine A3 rfl <| Ad (fr:=[]) [(1,1)] [] rfl (by simp) (hQ) At rfl rfl rfl rfl <| Ap rfl <| B4 AE rfl ⟨by simp,by simp [maxLen];omega,by simp;omega,trivial⟩ <| Ap rfl ?_;by_cases c6:AQ l qp [44]=true
    ·rw [if_pos c6] at y2;exact Ad (fr:=[]) [(1,1)] [] rfl (by simp) (CI hl c6) At rfl rfl rfl rfl <| Ap rfl <| AZ 6 8 rfl <| Ae (jh (true,g1,ts++[.mk q1 q2 q3 q4],qp+1) (Cw _) ⟨by simp only [Bw,Dh,BX];omega,by rw [if_pos rfl];exact y2⟩) Bx ⟨rfl,rfl,rfl,rfl,by rw [hat];rfl,by rw [hat];rfl,trivial⟩ rfl
    ·rw [if_neg c6] at y2;have c6:AQ l qp [44]=false:=by simpa using c6
     obtain ⟨z4,y2⟩:=AP y2;cases y2;exact Ad (fr:=[]) [(1,1)] [] rfl (by simp) (AY c6) At rfl rfl rfl rfl <| Ap rfl <| AZ 6 8 rfl <| Ae (jh (false,g1,ts++[.mk q1 q2 q3 q4],qp) (Cw _) ⟨by simp only [Bw,Dh,BX];omega,by rw [if_neg (by simp)];exact ⟨rfl,z4,rfl⟩⟩) Bx ⟨rfl,rfl,rfl,rfl,by rw [hat];rfl,by rw [hat];rfl,trivial⟩ rfl
  ·rw [if_neg c1] at z2;have c1:AQ l (a1+1) [40]=false:=by simpa using c1
   simp only [Dg] at z2;refine Ad (fr:=[]) [(1,1)] [] rfl (by simp) (AY c1) At rfl rfl rfl rfl <| Ap rfl <| Aa rfl (λh=>by exfalso;simp at h) (λh=>?_);refine A3 rfl <| B4 AE rfl ⟨by simp,by simp [maxLen];omega,by simp;omega,trivial⟩ <| Ap rfl ?_;by_cases c6:AQ l (a1+1) [124]=true
   ·rw [if_pos c6] at z2;exact Ad (fr:=[]) [(1,1)] [] rfl (by simp) (CI hl c6) At rfl rfl rfl rfl <| Ap rfl <| AZ 4 6 rfl <| Ae (ih (true,f1,cs++[⟨v2,[]⟩],a1+1+1) (Cw _) ⟨by simp only [Bw,Dh,BX];omega,by rw [if_pos rfl];exact z2⟩) BF ⟨rfl,rfl,by rw [hap];rfl,by rw [hap];rfl,trivial⟩ rfl
   ·rw [if_neg c6] at z2;have c6:AQ l (a1+1) [124]=false:=by simpa using c6
    obtain ⟨z4,z2⟩:=AP z2;cases z2;exact Ad (fr:=[]) [(1,1)] [] rfl (by simp) (AY c6) At rfl rfl rfl rfl <| Ap rfl <| AZ 4 6 rfl <| Ae (ih (false,f1,cs++[⟨v2,[]⟩],a1+1) (Cw _) ⟨by simp only [Bw,Dh,BX];omega,by rw [if_neg (by simp)];exact ⟨rfl,z4,rfl⟩⟩) BF ⟨rfl,rfl,by rw [hap];rfl,by rw [hap];rfl,trivial⟩ rfl
theorem qK {l:List Tok} (hl:l.length<=10000) {f:Nat} (hf:f<=100000) {a:Nat} {d:Fd} {b:Nat} (h:pB l f a=some (d,b)):AK Tryz.prog 241 [.ref 1 0] (Gs l a) (.ret (.imm (.agg (CG d))) (Gs l b)):=by
 unfold pB at h
 split at h
 case isFalse=>cases h
 rename_i k1;obtain ⟨s1,h⟩:=AP h
 split at h
 case isFalse=>cases h
 rename_i k2;obtain ⟨s2,h⟩:=AP h;obtain ⟨x,hx,hk,ht,_⟩:=DG k1;obtain ⟨y,hy,hk2,ht2,_⟩:=DG k2;rw [ht,ht2] at h;cases hr:LB l (a+4) with
 | none=>rw [hr] at h;cases h
 | some r =>
 rw [hr] at h;simp only [Dg] at h;obtain ⟨s3,h⟩:=AP h;obtain ⟨s4,h⟩:=AP h;cases hu:LB l (r.2+2) with
 | none=>rw [hu] at h;cases h
 | some u =>
 rw [hu] at h;simp only [Dg] at h;obtain ⟨s5,h⟩:=AP h;cases hv:CQ l f (u.2+1) with
 | none=>rw [hv] at h;cases h
 | some v =>
 rw [hv] at h;simp only [Dg] at h;obtain ⟨s6,h⟩:=AP h;cases h;have hR:=Qe hl (t:=r.1) (b:=r.2) hr;have hU:=Qe hl (t:=u.1) (b:=u.2) hu;have hV:=(ZD hl f (by omega)).term _ v.1 v.2 hv;clear hr hu hv;obtain ⟨⟨r1,r2,r3,r4⟩,rp⟩:=r;obtain ⟨⟨u1,u2,u3,u4⟩,up⟩:=u;obtain ⟨⟨v1,v2,v3,v4,v5⟩,vp⟩:=v;obtain ⟨x1,x2,x3,x4⟩:=x;obtain ⟨y1,y2,y3,y4⟩:=y;simp only at s3 s4 s5 s6 hR hU hV ⊢
 exact Ac AE Tryz.func241 (by decide +kernel) rfl [2,3] rfl rfl <| Ap rfl <| Ad (fr:=[]) [(1,1)] [] rfl (by simp) (Du hl hx hk) At rfl rfl rfl rfl <| Ap rfl <| Ad (fr:=[]) [(1,1)] [] rfl (by simp) (B0 hl s1) At rfl rfl rfl rfl <| Ap rfl <| Ad (fr:=[]) [(1,1)] [] rfl (by simp) (Du hl hy hk2) At rfl rfl rfl rfl <| Ap rfl <| Ad (fr:=[]) [(1,1)] [] rfl (by simp) (B0 hl s2) At rfl rfl rfl rfl <| Ap rfl <| Ad (fr:=[]) [(1,1)] [] rfl (by simp) (hR) At rfl rfl rfl rfl <| Ap rfl <| Ad (fr:=[]) [(1,1)] [] rfl (by simp) (B0 hl s3) At rfl rfl rfl rfl <| Ap rfl <| Ad (fr:=[]) [(1,1)] [] rfl (by simp) (B0 hl s4) At rfl rfl rfl rfl <| Ap rfl <| Ad (fr:=[]) [(1,1)] [] rfl (by simp) (hU) At rfl rfl rfl rfl <| Ap rfl <| Ad (fr:=[]) [(1,1)] [] rfl (by simp) (B0 hl s5) At rfl rfl rfl rfl <| Ap rfl <| Ad (fr:=[]) [(1,1)] [] rfl (by simp) (hV) At rfl rfl rfl rfl <| Ap rfl <| Ad (fr:=[]) [(1,1)] [] rfl (by simp) (B0 hl s6) At rfl rfl rfl rfl <| Ap rfl <| Ag ⟨_,AD⟩
def mdB (x:Str) (n:Nat):Blk:=.cells 43 3 [.imm (.str x),.own 4 n,.nils]
def mdB2 (x:Str) (n k:Nat):Blk:=.cells 43 3 [.imm (.str x),.own 4 n,.own 5 k]
theorem XC {l:List Tok} (hl:l.length<=10000) {f:Nat} (hf:f<=100000) {m:Md} {b:Nat} (h:T9 l f=some (m,b)):AK Tryz.prog 171 [.ref 1 0] (Gs l 0) (.ret (.imm (.agg (El m))) (Gs l b)):=by
 unfold T9 at h;obtain ⟨s1,h⟩:=AP h
 split at h
 case isFalse=>cases h
 rename_i k1;obtain ⟨s2,h⟩:=AP h;obtain ⟨x,hx,hk,ht,_⟩:=DG k1;rw [ht] at h;cases hr:MK l f [] 3 with
 | none=>rw [hr] at h;cases h
 | some r =>
 rw [hr] at h;simp only [Dg] at h;cases hu:RZ l f [] r.2 with
 | none=>rw [hu] at h;cases h
 | some u =>
 rw [hu] at h;simp only [Dg] at h;obtain ⟨s3,h⟩:=AP h;cases h;obtain ⟨ds,c⟩:=r;obtain ⟨fs,e⟩:=u;obtain ⟨x1,x2,x3,x4⟩:=x;simp only at hu s3 ⊢
 refine Ac AE Tryz.func171 (by decide +kernel) rfl [2,3,4,5,6,7,8] rfl rfl <| Ap rfl <| Ad (fr:=[]) [(1,1)] [] rfl (by simp) (B0 hl s1) At rfl rfl rfl rfl <| Ap rfl <| Ad (fr:=[]) [(1,1)] [] rfl (by simp) (Du hl hx hk) At rfl rfl rfl rfl <| Ap rfl <| Ad (fr:=[]) [(1,1)] [] rfl (by simp) (B0 hl s2) At rfl rfl rfl rfl <| Ap rfl <| DH 3 4 (e:=113) (sz:=2) [.imm (.str x2),.own 4 0,.nils] (by decide) rfl ⟨.inl rfl,.inr ⟨rfl,rfl⟩,.inl rfl,trivial⟩ <| Ak (λ_:Nat×List Dt×Nat=>[(0,.ref 1 0),(3,.ref 3 0),(2,.ref 2 0)]) (λz=>[(1,some (iH l z.2.2)),(2,some (.cells 43 3 [.imm (.str []),.nils,.nils])),(3,some (mdB x2 (z.2.1.map CK).length)),(4,some (.row 113 2 (z.2.1.map CK)))]) [5,6,7,8] (λz=>z.1)
  (λz=>z.1+z.2.1.length<=f/\MK l z.1 z.2.1 z.2.2=some (ds,c)) (f,[],3) ⟨by simp,hr⟩ AD BF rfl λz hz ih=>?_
 obtain ⟨f1,d1,a1⟩:=z;obtain ⟨z1,z2⟩:=hz;simp only at z1 z2 ih;cases f1 with
 | zero=>simp [MK] at z2
 | succ f1 =>
 rw [MK] at z2;refine A3 rfl ?_;by_cases c1:AQ l a1 [116,121,112,101]=true
 ·rw [if_pos c1] at z2;cases hq:ZE l f1 (a1+1) with
  | none=>rw [hq] at z2;cases z2
  | some q =>
  rw [hq] at z2;simp only [Dg] at z2;have hD:=mV hl (f:=f1) (by omega) (d:=q.1) (b:=q.2) hq;have hap:(d1++[q.1]).map CK=d1.map CK++[CK q.1]:=by simp
  obtain ⟨⟨q1,q2⟩,qp⟩:=q;simp only at z2 hD hap;refine Ad (fr:=[]) [(1,1)] [] rfl (by simp) (CI hl c1) At rfl rfl rfl rfl <| Ap rfl <| Aa rfl (λh=>?_) (λh=>by exfalso;simp at h);exact A3 rfl <| Ad (fr:=[]) [(1,1)] [] rfl (by simp) (hD) At rfl rfl rfl rfl <| Ap rfl <| B4 AE rfl ⟨by simp,by simp [maxLen];omega,by simp;omega,trivial⟩ <| Ap rfl <| AZ 4 6 rfl <| Ae (ih (f1,d1++[⟨q1,q2⟩],qp) (Cw _) ⟨by simp only [Bw,Dh,BX];omega,z2⟩) AD ⟨rfl,rfl,by rw [hap];rfl,by rw [hap];rfl,trivial⟩ rfl
 rw [if_neg c1] at z2;have c1:AQ l a1 [116,121,112,101]=false:=by simpa using c1
 cases z2;clear ih;refine Ad (fr:=[]) [(1,1)] [] rfl (by simp) (AY c1) At rfl rfl rfl rfl <| Ap rfl <| Aa rfl (λh=>by exfalso;simp at h) (λh=>?_);refine Aw rfl <| A3 rfl <| DH 3 5 (e:=71) (sz:=15) [.imm (.str x2),.own 4 (ds.map CK).length,.own 5 0] (by decide) rfl ⟨.inl rfl,.inl rfl,.inr ⟨rfl,rfl⟩,trivial⟩ <| Ak (λ_:Nat×List Fd×Nat=>[(0,.ref 1 0),(3,.ref 3 0),(2,.ref 2 0)]) (λz=>[(1,some (iH l z.2.2)),(2,some (.cells 43 3 [.imm (.str []),.nils,.nils])),(3,some (mdB2 x2 (ds.map CK).length (z.2.1.map CG).length)),(4,some (.row 113 2 (ds.map CK))),(5,some (.row 71 15 (z.2.1.map CG)))]) [6,7,8] (λz=>z.1)
  (λz=>z.1+z.2.1.length<=f/\RZ l z.1 z.2.1 z.2.2=some (fs,e)) (f,[],c) ⟨by simp,hu⟩ AD Bx rfl λz hz ih=>?_
 clear z1;obtain ⟨f2,d1,a2⟩:=z;obtain ⟨z1,z2⟩:=hz;simp only at z1 z2 ih;cases f2 with
 | zero=>simp [RZ] at z2
 | succ f2 =>
 rw [RZ] at z2;refine A3 rfl ?_;by_cases c2:AQ l a2 [102,117,110]=true
 ·rw [if_pos c2] at z2;cases hq:pB l f2 (a2+1) with
  | none=>rw [hq] at z2;cases z2
  | some q =>
  rw [hq] at z2;simp only [Dg] at z2;have hD:=qK hl (f:=f2) (by omega) (d:=q.1) (b:=q.2) hq;have hap:(d1++[q.1]).map CG=d1.map CG++[CG q.1]:=by simp
  obtain ⟨⟨q1,q2,⟨g1,g2,g3,g4⟩,⟨k1,k2,k3,k4⟩,⟨t1,t2,t3,t4,t5⟩⟩,qp⟩:=q;simp only at z2 hD hap;refine Ad (fr:=[]) [(1,1)] [] rfl (by simp) (CI hl c2) At rfl rfl rfl rfl <| Ap rfl <| Aa rfl (λh=>?_) (λh=>by exfalso;simp at h);exact A3 rfl <| Ad (fr:=[]) [(1,1)] [] rfl (by simp) (hD) At rfl rfl rfl rfl <| Ap rfl <| B4 AE rfl ⟨by simp,by simp [maxLen];omega,by simp;omega,trivial⟩ <| Ap rfl <| AZ 5 7 rfl <| Ae (ih (f2,d1++[_],qp) (Cw _) ⟨by simp only [Bw,Dh,BX];omega,z2⟩) AD ⟨rfl,rfl,by rw [hap];rfl,rfl,by rw [hap];rfl,trivial⟩ rfl
 rw [if_neg c2] at z2;have c2:AQ l a2 [102,117,110]=false:=by simpa using c2
 cases z2;clear ih;refine Ad (fr:=[]) [(1,1)] [] rfl (by simp) (AY c2) At rfl rfl rfl rfl <| Ap rfl <| Aa rfl (λh=>by exfalso;simp at h) (λh=>?_);exact Aw rfl <| By 4 rfl <| By 5 rfl <| A3 rfl <| Ad (fr:=[]) [(1,1)] [] rfl (by simp) (B0 hl s3) At rfl rfl rfl rfl <| Ap rfl <| Ag ⟨_,AD⟩
theorem IJ {s:Str} {l:List Tok} {g f:Nat} {t:Tm} (hs:s.length<=8000) (hg:g<=1000000) (ht:HO g s (E8 s 0)=some l) (hl:l.length<=10000) (hf:f<=100000) (hp:CQ l f 0=some (t,l.length)) (hc:RJ t=true) :
  Al Tryz.prog 111 [.str s] (.tup [.agg (Bo t),.int .i64 0]):=by
 have hR:=Z2 s l hs g hg ht;have hT:=(ZD hl f (by omega)).term _ _ _ hp;have hW:=R7 l;have hC:=aU t;rw [hc] at hC;obtain ⟨t1,t2,t3,t4,t5⟩:=t;refine Ac AE Tryz.func111 (by decide +kernel) rfl [2,1,3] rfl rfl <| Ap rfl <| Ad (fr:=[1]) [] [(1,1)] rfl (by simp) hR trivial rfl rfl rfl rfl <| Ap rfl <| Aa rfl (λh=>by exfalso;simp at h) (λh=>?_);refine A3 rfl <| Ad (fr:=[]) [(1,1)] [] rfl (by simp) (hT) At rfl rfl rfl rfl <| Ap rfl <| Ad (fr:=[]) [(1,1)] [] rfl (by simp) (hW) At rfl rfl rfl rfl <| Ap rfl <| Aa rfl (λh=>by exfalso;simp at h) (λh=>?_);refine A3 rfl <| Af rfl hC <| Ap rfl <| Aa rfl (λh=>by exfalso;simp at h) (λh=>?_);exact A3 rfl <| Ab rfl rfl rfl
theorem QX {s:Str} {l:List Tok} {g f:Nat} {t:Md} (hs:s.length<=8000) (hg:g<=1000000) (ht:HO g s (E8 s 0)=some l) (hl:l.length<=10000) (hf:f<=100000) (hp:T9 l f=some (t,l.length)) (hc:Ef t=true) :
  Al Tryz.prog 110 [.str s] (.tup [.agg (El t),.int .i64 0]):=by
 have hR:=Z2 s l hs g hg ht;have hT:=XC hl hf hp;have hW:=R7 l;have hC:=fL t;rw [hc] at hC;obtain ⟨t1,t2,t3⟩:=t;refine Ac AE Tryz.func110 (by decide +kernel) rfl [2,1,3] rfl rfl <| Ap rfl <| Ad (fr:=[1]) [] [(1,1)] rfl (by simp) hR trivial rfl rfl rfl rfl <| Ap rfl <| Aa rfl (λh=>by exfalso;simp at h) (λh=>?_);refine A3 rfl <| Ad (fr:=[]) [(1,1)] [] rfl (by simp) (hT) At rfl rfl rfl rfl <| Ap rfl <| Ad (fr:=[]) [(1,1)] [] rfl (by simp) (hW) At rfl rfl rfl rfl <| Ap rfl <| Aa rfl (λh=>by exfalso;simp at h) (λh=>?_);refine A3 rfl <| Af rfl hC <| Ap rfl <| Aa rfl (λh=>by exfalso;simp at h) (λh=>?_);exact A3 rfl <| Ab rfl rfl rfl
end Go.Hk
namespace Go.Hk
def aY (L:List Ty) (x:List Ty×Bool) (r:Option Sb):Prop:=x.1.length=L.length/\x.2=r.isSome/\∀σ',r=some σ'->G5 x.1=σ'
mutual
def LI:Ty->Ty->Sb->Option Sb
 | .mk f n x ps,b,σ=>if f=9 then (match σ n with | none=>some (Ej σ n b) | some v=>if Hq v b=true then some σ else none)
  else if f=BA b/\x=WR b/\ps.length=(DZ b).length then PD ps (DZ b) σ else none
def PD:List Ty->List Ty->Sb->Option Sb
 | p::ps,q::qs,σ=>match LI p q σ with
  | some σ'=>PD ps qs σ'
  | none=>none
 | _,_,σ=>some σ
end
mutual
def F4:Ty->Ty->List Ty->List Ty×Bool
 | .mk f n x ps,b,l=>if f=9 then (if BA (l.getD n.toNat F5)=0 then (l.set n.toNat b,true) else (l,Hq (l.getD n.toNat F5) b))
  else if f=BA b/\x=WR b/\ps.length=(DZ b).length then Jn ps (DZ b) l else (l,false)
def Jn:List Ty->List Ty->List Ty->List Ty×Bool
 | p::ps,q::qs,l=>if (F4 p q l).2=true then Jn ps qs (F4 p q l).1 else F4 p q l
 | _,_,l=>(l,true)
end
mutual
theorem MQ:∀(a b:Ty) (l:List Ty),Cl b=true->inB l.length a->aY l (F4 a b l) (LI a b (G5 l))
 | .mk f n x ps,b,l,hb,ha=>by
  by_cases e9:f=9
  ·subst e9;have hn:=ha.num rfl;simp only [num] at hn;obtain ⟨v,hv⟩:=Ao (l:=l) (i:=n.toNat) (by omega);have hs:=To hv;rw [show ((n.toNat:Nat):Int)=n by omega] at hs;have hd:l.getD n.toNat F5=v:=by rw [kC,hv];rfl
   rw [F4,LI,if_pos rfl,if_pos rfl,hd,hs];by_cases h0:BA v=0
   ·rw [if_pos h0,if_pos h0];exact ⟨by simp,rfl,λσ' h=>by cases h;exact OG hn (WW hb)⟩
   ·rw [if_neg h0,if_neg h0];simp only;cases Hq v b with
    | true=>exact ⟨rfl,rfl,λσ' h=>by cases h;rfl⟩
    | false=>exact ⟨rfl,rfl,λσ' h=>nomatch h⟩
  ·rw [F4,LI,if_neg e9,if_neg e9];by_cases hh:f=BA b/\x=WR b/\ps.length=(DZ b).length
   ·rw [if_pos hh,if_pos hh];exact PF ps (DZ b) l (DB hb) (λp hp=>ha.part e9 hp)
   ·rw [if_neg hh,if_neg hh];exact ⟨rfl,rfl,λσ' h=>nomatch h⟩
theorem PF:∀(ta tb:List Ty) (l:List Ty),(∀b∈tb,Cl b=true)->(∀a∈ta,inB l.length a)->aY l (Jn ta tb l) (PD ta tb (G5 l))
 | a::ta,b::tb,l,hb,ha=>by
  obtain ⟨h1,h2,h3⟩:=MQ a b l (hb b (by simp)) (ha a (by simp));rw [Jn,PD];cases hm:LI a b (G5 l) with
  | none =>
   rw [hm] at h2;rw [if_neg (by rw [h2];simp)];exact ⟨h1,h2,λσ' h=>nomatch h⟩
  | some σ1 =>
   rw [hm] at h2;rw [if_pos (by rw [h2];rfl)];have ih:=PF ta tb (F4 a b l).1 (λb' hb'=>hb b' (by simp [hb'])) (λa' ha'=>by rw [h1];exact ha a' (by simp [ha']));rw [h3 σ1 hm] at ih;exact ⟨ih.1.trans h1,ih.2.1,ih.2.2⟩
 | [],[],l,_,_=>⟨rfl,rfl,λσ' h=>by cases h;rfl⟩
 | [],_::_,l,_,_=>⟨rfl,rfl,λσ' h=>by cases h;rfl⟩
 | _::_,[],l,_,_=>⟨rfl,rfl,λσ' h=>by cases h;rfl⟩
end
theorem jO:∀(a b:Ty) (l:List Ty),Cl b=true->inB l.length a->(F4 a b l).1.length=l.length:=λa b l hb ha=>(MQ a b l hb ha).1
end Go.Hk
namespace Go.Hk
open Go.Proofs
theorem eD (f:FuncId) (aa bb:List Ty) (hq:∀(i:Nat) a b,aa[i]?=some a->bb[i]?=some b->Al Tryz.prog f [.agg (dTyc a),.agg (dTyc b)] (.bool (Hq a b))) :
  Al Tryz.prog 178 [.sl (A2 aa),.sl (A2 bb),.fn (.func f)] (.bool (Et aa bb)):=by
 refine B1 λhv=>?_;simp [CL,Fh,maxLen] at hv;refine Ac Ah Tryz.func178 (by decide +kernel) rfl [1,2,3,4] rfl rfl <| Ai rfl ?_;by_cases hl:aa.length=bb.length
 ·refine Aa rfl (λh=>by exfalso;simp at h;omega) (λh=>?_);refine Aq rfl <| Ak (λi:Nat=>[(17,.imm (.int .i64 i)),(16,.imm (.int .i64 aa.length)),(15,.imm (.sl (A2 aa))),(1,.imm (.sl (A2 bb))),(2,.imm (.fn (.func f)))]) (λ_=>[]) [1,2,3,4] (λi=>aa.length-i) (λi=>i<=aa.length/\Et aa bb=Et (aa.drop i) (bb.drop i)) 0
   ⟨AL _,rfl⟩ ⟨rfl,AA (by simp),AD⟩ trivial rfl λi hi ih=>?_
  obtain ⟨hi1,hi2⟩:=hi;refine Aq rfl <| Aa rfl (λh=>?_) (λh=>?_)
  ·have hlt:i<aa.length:=by simp at h;omega
   obtain ⟨a,ha⟩:=Ao hlt;obtain ⟨b,hb⟩:=Ao (l:=bb) (i:=i) (by omega);have hga:=A8 ha;have hgb:=A8 hb;have hQ:=hq i a b ha hb;rw [Av ha,Av hb,Et] at hi2;generalize Hq a b=o at *;obtain ⟨a1,a2,a3,a4⟩:=a;obtain ⟨b1,b2,b3,b4⟩:=b;refine Aq rfl <| yi rfl (c:=dTyc (.mk a1 a2 a3 a4)) (λ_=>⟨by simp,by simpa using hga,by simp⟩) (by simp) <| Ai rfl <| yi rfl (c:=dTyc (.mk b1 b2 b3 b4)) (λ_=>⟨by simp,by simpa using hgb,by simp⟩) (by simp) <| Ai rfl <| Af rfl hQ <| Ai rfl ?_;cases o with
   | false =>
    rw [Bool.false_and] at hi2;refine Aa rfl (λh=>?_) (λh=>by exfalso;simp at h);exact Aq rfl <| Ag ⟨_,rfl,tV (by rw [hi2]),trivial⟩
   | true =>
    rw [KZ] at hi2;refine Aa rfl (λh=>by exfalso;simp at h) (λh=>?_);exact Aq rfl <| Ae (ih (i+1) (by omega) ⟨by omega,hi2⟩) ⟨AA (Cb (by omega) (by omega)),BF⟩ trivial rfl
  ·have hlt:¬i<aa.length:=by simp at h;omega
   rw [Br (by omega),Br (by omega)] at hi2;exact Aw rfl <| Aq rfl <| Ag ⟨_,rfl,tV (by rw [hi2];rfl),trivial⟩
 ·refine Aa rfl (λh=>?_) (λh=>by exfalso;simp at h;omega);exact Aq rfl <| Ag ⟨_,rfl,tV (by rw [Nf hl]),trivial⟩
theorem V6:∀a b:Ty,Al Tryz.prog 121 [.agg (dTyc a),.agg (dTyc b)] (.bool (Hq a b))
 | .mk s n x ps,.mk s' n' x' qs=>by
  have hE:=eD 121 ps qs λi a b ha hb=>V6 a b;simp only [Hq];generalize Et ps qs=o at *;refine Ac Ah Tryz.func121 (by decide +kernel) rfl [1,2,3,4] rfl rfl <| BU rfl <| Bz rfl hE <| BU rfl <| Ab rfl rfl (congrArg _ ?_);cases o <;> cases s == s' <;> cases n == n' <;> cases x == x' <;> rfl
termination_by a=>SizeOf.sizeOf a
decreasing_by
 have:=Cn (AF ha);simp_wf;omega
theorem eC (l:List Ty) (f:FuncId) (a b:List V) (q:Ty->Bool) (hq:∀t∈l,Al Tryz.prog f (a++[.agg (dTyc t)]++b) (.bool (q t))) :
  ∃i:Int,(0<=i↔l.any q=true)/\Al Tryz.prog 245 [.sl (A2 l),.clo (.func f) a b] (.int .i64 i):=by
 obtain ⟨i,h1,h2⟩:∃i:Int,(0<=i↔l.any q=true)/\((i = -1/\l.any q=false)\/∃(k:Nat) (t:Ty),i=k/\l[k]?=some t/\q t=true/\(l.take k).any q=false):=by
  by_cases h:l.any q=true
  ·have key:∀(n:Nat),(l.take n).any q=true->∃(k:Nat) (t:Ty),l[k]?=some t/\q t=true/\(l.take k).any q=false:=λn=>by
    induction n with
    | zero=>intro h;simp at h
    | succ n ih =>
     intro h;by_cases hn:(l.take n).any q=true
     ·exact ih hn
     ·by_cases hl:n<l.length
      ·obtain ⟨t,ht⟩:=Ao hl;rw [Be ht,Hb] at h;simp only [PQ] at hn;rw [hn,TF] at h;exact ⟨n,t,ht,by simpa using h,hn⟩
      ·rw [CD (by omega)] at h hn;exact absurd h hn
   obtain ⟨k,t,k1,k2,k3⟩:=key l.length (by rw [Jr];exact h);exact ⟨k,⟨λ_=>h,λ_=>by omega⟩,.inr ⟨k,t,rfl,k1,k2,k3⟩⟩
  ·exact ⟨-1,⟨λh'=>by omega,λh'=>absurd h' h⟩,.inl ⟨rfl,by simpa using h⟩⟩
 refine ⟨i,h1,?_⟩;clear h1;refine B1 λhv=>?_;simp [CL,Fh,maxLen] at hv;refine Ac Ah Tryz.func245 (by decide +kernel) rfl [1,2] rfl rfl <| Ai rfl <| Ak (λj:Nat=>[(8,.imm (.int .i64 j)),(7,.imm (.int .i64 l.length)),(0,.imm (.sl (A2 l))),(1,.imm (.clo (.func f) a b))]) (λ_=>[]) [1,2] (λj=>l.length-j) (λj=>j<=l.length/\(l.take j).any q=false) 0
  ⟨AL _,rfl⟩ ⟨rfl,AA (by simp),AM⟩ trivial rfl λj hj ih=>?_
 obtain ⟨hj1,hj2⟩:=hj;refine Aq rfl <| Aa rfl (λh=>?_) (λh=>?_)
 ·have hlt:j<l.length:=by simp at h;omega
  obtain ⟨t,ht⟩:=Ao hlt;have hg:=A8 ht;have hQ:=hq t (AF ht);have htk:(l.take (j+1)).any q=q t:=by rw [Be ht,Hb,hj2];simp
  have hfound:q t=true->i=j:=λhqt=>by
   rcases h2 with ⟨_,h⟩ | ⟨k,u,rfl,k1,k2,k3⟩
   ·have:l.any q=true:=D2.2 ⟨t,AF ht,hqt⟩;rw [this] at h;cases h
   ·congr 1;rcases Lc k j with hc | hc | hc
    ·have:(l.take j).any q=true:=D2.2 ⟨u,D3.2 ⟨k,by rw [Dr,if_pos hc];exact k1⟩,k2⟩;rw [hj2] at this;cases this
    ·exact hc
    ·have:(l.take k).any q=true:=D2.2 ⟨t,D3.2 ⟨j,by rw [Dr,if_pos hc];exact ht⟩,hqt⟩;rw [k3] at this;cases this
  generalize q t=o at *;obtain ⟨t1,t2,t3,t4⟩:=t;refine Aq rfl <| yi rfl (c:=dTyc (.mk t1 t2 t3 t4)) (λ_=>⟨by simp,by simpa using hg,by simp⟩) (by simp) <| Ai rfl <| ON rfl (λ_=>hQ) (by simp) <| Ai rfl ?_;cases o with
  | true =>
   refine Aa rfl (λh=>?_) (λh=>by exfalso;simp at h);exact Aq rfl <| Ag ⟨_,rfl,tV (by rw [hfound rfl]),trivial⟩
  | false =>
   refine Aa rfl (λh=>by exfalso;simp at h) (λh=>?_);exact Aq rfl <| Ae (ih (j+1) (by omega) ⟨by omega,htk⟩) ⟨AA (Cb (by omega) (by omega)),AD⟩ trivial rfl
 ·have hlt:¬j<l.length:=by simp at h;omega
  rw [CD (by omega)] at hj2;have hi:i = -1:=by
   rcases h2 with ⟨h,_⟩ | ⟨k,u,_,k1,k2,_⟩
   ·exact h
   ·have:l.any q=true:=D2.2 ⟨u,AF k1,k2⟩;rw [hj2] at this;cases this
  exact Aw rfl <| Aq rfl <| Ag ⟨_,rfl,tV (by rw [hi]),trivial⟩
theorem TZ (l:List Ty) (f:FuncId) (a b:List V) (q:Ty->Bool) (hq:∀t∈l,Al Tryz.prog f (a++[.agg (dTyc t)]++b) (.bool (q t))) :
  Al Tryz.prog 174 [.sl (A2 l),.clo (.func f) a b] (.bool (l.any q)):=by
 obtain ⟨i,h1,h2⟩:=eC l f a b q hq;refine Ac Ah Tryz.func174 (by decide +kernel) rfl [1,2] rfl rfl <| Ai rfl <| Af rfl h2 <| Ai rfl <| Ab rfl rfl (congrArg _ ?_);rw [EU,<- h1];simp
theorem lJ (g:FuncId) (q:Ty->Bool) (t:Ty) (hq:Al Tryz.prog g [.agg (dTyc t)] (.bool (q t))):Al Tryz.prog 175 [.agg (dTyc t),.ip 26 [.fn (.func g)] 0] (.bool (!q t)):=by
 generalize q t=o at *;obtain ⟨t1,t2,t3,t4⟩:=t;exact L5 <| Ac Ah Tryz.func175 (by decide +kernel) rfl [2,3,4,5] rfl rfl <| Ai rfl <| Af rfl hq <| Ai rfl <| Ab rfl rfl rfl
theorem qB (l:List Ty) (g:FuncId) (q:Ty->Bool) (hq:∀t∈l,Al Tryz.prog g [.agg (dTyc t)] (.bool (q t))):Al Tryz.prog 112 [.sl (A2 l),.fn (.func g)] (.bool (l.all q)):=by
 have hC:=TZ l 175 [] [.ip 26 [.fn (.func g)] 0] (λt=>!q t) λt ht=>lJ g q t (hq t ht);refine Ac Ah Tryz.func112 (by decide +kernel) rfl [2,3,4,5] rfl rfl <| Ai rfl <| JV rfl (λ_=>hC) rfl (by simp) <| Ai rfl <| Ab rfl rfl (congrArg _ ?_);rw [EU];simp
theorem TY (t:Ty):Al Tryz.prog 113 [.agg (dTyc t)] (.bool (AH true t)):=by
 have hC:=U1 t;unfold Rv at hC;generalize AH true t=o at *;obtain ⟨t1,t2,t3,t4⟩:=t;refine Ac Ah Tryz.func113 (by decide +kernel) rfl [2,3,4,5] rfl rfl <| Ai rfl <| Af rfl hC <| Ai rfl ?_;exact Ag ⟨_,rfl,tV (by cases o <;> rfl),trivial⟩
theorem Er (l:List Ty):Al Tryz.prog 53 [.sl (A2 l)] (.bool (l.all (AH true))):=by
 have hA:=qB l 113 (AH true) λt _=>TY t;exact Ac Ah Tryz.func53 (by decide +kernel) rfl [2,3,4,5] rfl rfl <| Ai rfl <| Af rfl hA <| Ai rfl <| Ab rfl rfl rfl
end Go.Hk
namespace Go.Hk
def CS (t:Ty):Bool:=BA t == 1||BA t == 2||BA t == 3
theorem Top.srt_eq {σ:Sb} {θ:Int->Ty} (h:Sol σ θ) {t u:Ty} (ht:Top σ t u):BA (A7 θ t)=BA u:=by
 rw [ht.ap h.eq];by_cases h9:BA u=9
 ·rw [Gi h9,h.free _ (ht.end_ h9),h9];rfl
 ·obtain ⟨f,n,x,e1,_,e3⟩:=SW (θ:=θ) h9;rw [e3,e1];rfl
theorem ZJ {stay:List Int}:∀k:Nat,∃n:Nat,NthF stay k n:=by
 have big:∀k:Nat,∃n:Nat,k<=Hl stay n:=by
  intro k
  induction k with
  | zero=>exact ⟨0,AL _⟩
  | succ k ih =>
   obtain ⟨n,hn⟩:=ih;have:∃m:Nat,n<=m/\(m:Int)∉stay:=by
    obtain ⟨b,hb⟩:∃b:Int,∀x∈stay,x<=b:=by
     clear hn
     induction stay with
     | nil=>exact ⟨0,λx h=>nomatch h⟩
     | cons a r ih =>
      obtain ⟨b,hb⟩:=ih;refine ⟨max a b,λx hx=>?_⟩;rcases CC.1 hx with rfl | hx
      ·omega
      ·have:=hb x hx;omega
    refine ⟨max n (b.toNat+1),by omega,λh=>?_⟩;have:=hb _ h;omega
   obtain ⟨m,h1,h2⟩:=this;refine ⟨m+1,?_⟩;rw [CP,if_neg h2];have:=Kg (stay:=stay) h1;omega
 intro k;obtain ⟨n,hn⟩:=big (k+1)
 induction n with
 | zero=>simp [Hl] at hn
 | succ n ih =>
  by_cases hc:k+1<=Hl stay n
  ·exact ih hc
  ·rw [CP] at hn;refine ⟨n,?_,?_⟩
   ·intro hm;rw [if_pos hm] at hn;omega
   ·split at hn <;> omega
noncomputable def Ex (stay:List Int) (k:Nat):Nat:=(ZJ (stay:=stay) k).choose
theorem LF (stay:List Int) (k:Nat):NthF stay k (Ex stay k):=(ZJ (stay:=stay) k).choose_spec
theorem SS (a:Int) (r:List Int):∀n:Nat,Hl r n<=Hl (a::r) n+if 0<=a/\a<n then 1 else 0
 | 0=>by simp [Hl]
 | n+1=>by
  have ih:=SS a r n;rw [CP,CP];by_cases h1:(n:Int)∈r
  ·rw [if_pos h1,if_pos (H3 _ h1)]
   split at ih <;> split <;> omega
  ·rw [if_neg h1];by_cases h2:(n:Int)=a
   ·subst h2;rw [if_pos (PP ..),if_pos ⟨by omega,by omega⟩];rw [if_neg (by omega)] at ih;omega
   ·rw [if_neg (by simp [h1,h2])]
    split at ih <;> split <;> omega
theorem aO:∀(stay:List Int) (n:Nat),n<=Hl stay n+stay.length
 | [],n=>by
  have:Hl [] n=n:=by
   induction n with
   | zero=>rfl
   | succ n ih=>rw [CP,ih,if_neg (by simp)]
  omega
 | a::r,n=>by
  have h1:=aO r n;have h2:=SS a r n;rw [Dh]
  split at h2 <;> omega
theorem pF (stay:List Int) (k:Nat):Ex stay k<=k+stay.length:=by
 have:=aO stay (Ex stay k);rw [(LF stay k).2] at this;exact this
theorem QN {a:Int} {r:List Int} (ha:a∉r):∀n:Nat,Hl (a::r) n+(if 0<=a/\a<n then 1 else 0)<=Hl r n
 | 0=>by
  rw [if_neg (by omega)];simp [Hl]
 | n+1=>by
  have ih:=QN ha n;rw [CP,CP];by_cases h2:(n:Int)=a
  ·subst h2;rw [if_pos (PP ..),if_pos ⟨by omega,by omega⟩,if_neg ha];rw [if_neg (by omega)] at ih;omega
  ·by_cases h1:(n:Int)∈r
   ·rw [if_pos h1,if_pos (H3 _ h1)]
    split at ih <;> split <;> omega
   ·rw [if_neg h1,if_neg (by simp [h1,h2])]
    split at ih <;> split <;> omega
theorem Nl:∀{l:List Int} {n:Nat},l.Nodup->(∀x∈l,0<=x/\x<n)->l.length+Hl l n<=n
 | [],n,_,_=>by
  have:∀n,Hl [] n=n:=λn=>by
   induction n with
   | zero=>rfl
   | succ n ih=>rw [CP,ih,if_neg (by simp)]
  simp [this]
 | a::r,n,hd,hb=>by
  rw [K4] at hd;have h1:=QN hd.1 n;rw [if_pos (hb a (by simp))] at h1;have h2:=Nl hd.2 λx hx=>hb x (by simp [hx]);rw [Dh];omega
mutual
theorem SB:∀(t:Ty) (l:List Int),l.Nodup->(Dn t l).Nodup
 | .mk f n x ps,l,h=>by
  simp only [Dn]
  split
  ·split
   ·exact h
   ·rename_i hn;rw [Hc];exact ⟨h,by simp,λa ha b hb e=>by rw [AO.1 hb] at e;exact hn (e ▸ ha)⟩
  ·exact Qt ps l h
theorem Qt:∀(ts:List Ty) (l:List Int),l.Nodup->(BY ts l).Nodup
 | [],l,h=>h
 | t::r,l,h=>by simp only [BY];exact Qt r _ (SB t l h)
end
def FX:Ax->List Int->List Int
 | [],l=>l
 | p::r,l=>FX r (Dn p.2 l)
theorem Pl:∀(Γ:Ax) (p:Str×Ty) (l:List Int),FX (Γ++[p]) l=Dn p.2 (FX Γ l)
 | [],p,l=>rfl
 | q::r,p,l=>by simp only [Db,FX,Pl r p]
theorem Vv {m:Int}:∀(Γ:Ax) (l:List Int),m∈FX Γ l↔m∈l\/∃p∈Γ,m∈CA p.2
 | [],l=>by simp [FX]
 | p::r,l=>by simp only [FX,Vv r,TD];grind
theorem Pk:∀(Γ:Ax) (l:List Int),l.Nodup->(FX Γ l).Nodup
 | [],l,h=>h
 | p::r,l,h=>Pk r _ (SB p.2 l h)
theorem Xa {B:Nat} {Γ:Ax} (h:∀p∈Γ,inB B p.2):(FX Γ []).length<=B:=by
 have:=Nl (n:=B) (Pk Γ [] (by simp)) λx hx=>by
  rcases (Vv Γ []).1 hx with hx | ⟨p,hp,hx⟩
  ·cases hx
  ·exact h p hp x hx
 omega
mutual
def Uf (op:Int) (s:Str):Tm->Bool
 | .mk o _ x ks _=>(o == op&&x == s)||VZ op s ks
def VZ (op:Int) (s:Str):List Tm->Bool
 | []=>false
 | t::r=>Uf op s t||VZ op s r
end
mutual
def NZ (op:Int):Tm->Bool
 | .mk o _ _ ks _=>o == op||Li op ks
def Li (op:Int):List Tm->Bool
 | []=>false
 | t::r=>NZ op t||Li op r
end
inductive Rch (m:Md) (a:Nat):Nat->Prop
 | base:Rch m a a
 | step {j k:Nat} {f g:Fd}:Rch m a j->m.funs[j]?=some f->m.funs[k]?=some g->Uf 4 g.name f.body=true->Rch m a k
noncomputable def mS (m:Md) (a:Nat) (op:Int):Bool:=open Classical in decide (∃j f,Rch m a j/\m.funs[j]?=some f/\NZ op f.body=true)
noncomputable def qT (m:Md) (a:Nat):List Int:=((List.range 13).map λi:Nat=>16+(i:Int)).filter (mS m a)
mutual
def TC (m:Md):Ty->Bool
 | .mk f _ x ps=>if f=8 then m.datas.any (λd=>d.name == x) else Jl m ps
def Jl (m:Md):List Ty->Bool
 | []=>true
 | t::r=>TC m t&&Jl m r
end
def uR (l:List Dt):List Str:=(l.map λd=>d.cons.map (·.name)).flatten
def vN (m:Md) (n:Nat):Bool:=match m.datas[n]? with
 | some d=>(List.range d.cons.length).any λk=>match d.cons[k]? with
  | some c=>BO (uR (m.datas.take n)++(d.cons.take k).map (·.name)) c.name
  | none=>false
 | none=>false
def U5 (m:Md) (n:Nat):Bool:=match m.datas[n]? with
 | some d=>(m.datas.take n).any (λe=>e.name == d.name)||d.cons.any (λc=>!Jl m c.args)||vN m n
 | none=>false
def BodS (m:Md) (f:Fd):Prop:=∃N,C1 m f.body [(f.param,f.from_)] f.to_ N/\(∀S,C1 m f.body [(f.param,f.from_)] f.to_ S->∃η,N.map (A7 η)=S)/\N.all CS=true
noncomputable def Ku (m:Md) (f:Fd):Bool:=open Classical in decide (BodS m f)
noncomputable def U4 (m:Md) (i:Nat):Bool:=match m.funs[i]? with
 | some f=>(m.funs.take i).any (λg=>g.name == f.name) || !TC m f.from_ || !TC m f.to_ || !Ku m f
 | none=>false
def PG:Str:=[109,97,105,110]
def jP (m:Md):Bool:=m.funs.any λf=>f.name == PG&&BA f.from_ == 3
def IC (p:Nat->Bool):Nat->Nat->Option Nat
 | _,0=>none
 | i,n+1=>if p i then some i else IC p (i+1) n
noncomputable def oE (m:Md):Int×Int:=match IC (U5 m) 0 m.datas.length with
 | some i=>(1,i)
 | none=>match IC (U4 m) 0 m.funs.length with
  | some i=>(2,i)
  | none=>if jP m then (0,0) else (3,0)
theorem tP {η:Int->Ty} {t:Ty} (h:CS t=true):CS (A7 η t)=true:=by
 have h9:BA t≠9:=by intro e;simp [CS,e] at h
 obtain ⟨f,n,x,e1,_,e3⟩:=SW (θ:=η) h9;rw [e3];rw [e1] at h;exact h
open Classical in
theorem nC {m:Md} {f:Fd} {N:List Ty} (h1:C1 m f.body [(f.param,f.from_)] f.to_ N) (h2:∀S,C1 m f.body [(f.param,f.from_)] f.to_ S->∃η,N.map (A7 η)=S):Ku m f=N.all CS:=by
 unfold Ku;cases hN:N.all CS with
 | true=>exact decide_eq_true ⟨N,h1,h2,hN⟩
 | false =>
  refine decide_eq_false λ⟨N',a1,a2,a3⟩=>?_;obtain ⟨η,e⟩:=a2 N h1;have:N.all CS=true:=by
   rw [<- e,MS];rw [EV] at a3 ⊢;exact λt ht=>tP (a3 t ht)
  rw [hN] at this;cases this
open Classical in
theorem nD {m:Md} {f:Fd} (h:∀S,¬C1 m f.body [(f.param,f.from_)] f.to_ S):Ku m f=false:=by
 unfold Ku;exact decide_eq_false λ⟨N,a1,_⟩=>h N a1
theorem Zw {b:Bool} {s n:Int} {x:Str} {k:Nat} (h:Ct b s n x k=true):s≠0/\k<=3/\(s=9->b=true/\x=[]/\k=0/\0<=n/\n<=99)/\(s≠9->n=0):=by
 unfold Ct at h;by_cases h1:s=1\/s=2\/s=3
 ·rw [if_pos h1] at h;simp only [A1,beq_iff_eq] at h;refine ⟨by omega,by omega,λe=>by omega,λ_=>h.1.2⟩
 rw [if_neg h1] at h;by_cases h2:s=4
 ·rw [if_pos h2] at h;simp only [A1,beq_iff_eq] at h;refine ⟨by omega,by omega,λe=>by omega,λ_=>h.1.2⟩
 rw [if_neg h2] at h;by_cases h3:s=5\/s=6\/s=7
 ·rw [if_pos h3] at h;simp only [A1,beq_iff_eq] at h;refine ⟨by omega,by omega,λe=>by omega,λ_=>h.1.2⟩
 rw [if_neg h3] at h;by_cases h4:s=8
 ·rw [if_pos h4] at h;simp only [A1,beq_iff_eq] at h;refine ⟨by omega,by omega,λe=>by omega,λ_=>h.1.2⟩
 rw [if_neg h4] at h;by_cases h5:s=9
 ·rw [if_pos h5] at h;simp only [A1,beq_iff_eq,F9,decide_eq_true_eq] at h;refine ⟨by omega,by omega,λ_=>⟨h.1.1.1,h.1.2,by omega,by omega,by omega⟩,λe=>absurd h5 e⟩
 ·rw [if_neg h5] at h;cases h
mutual
theorem Lw {b:Bool}:∀t:Ty,C7 b t=true->Cl t=true/\inB 100 t/\(b=false->CA t=[])
 | .mk s n x ps,h=>by
  simp only [C7,A1] at h;obtain ⟨h1,h2,h3,h4⟩:=Zw h.1;obtain ⟨p1,p2,p3⟩:=RM ps h.2;by_cases e:s=9
  ·obtain ⟨q1,q2,q3,q4,q5⟩:=h3 e;have:ps=[]:=Jq.1 q3;subst this;subst q2;subst e;refine ⟨by simp [Cl,FC],λm hm=>?_,λe=>by rw [q1] at e;cases e⟩;simp [CA] at hm;omega
  ·have hn:=h4 e;subst hn;refine ⟨?_,λm hm=>?_,λhb=>?_⟩
   ·simp [Cl,e,h1,h2,p1]
   ·simp only [CA,if_neg e] at hm;exact p2 m hm
   ·simp only [CA,if_neg e];exact p3 hb
theorem RM {b:Bool}:∀l:List Ty,BW b l=true->FC l=true/\(∀m∈Dm l,0<=m/\m<100)/\(b=false->Dm l=[])
 | [],_=>by simp [FC,Dm]
 | t::r,h=>by
  simp only [BW,A1] at h;obtain ⟨a1,a2,a3⟩:=Lw t h.1;obtain ⟨b1,b2,b3⟩:=RM r h.2;refine ⟨by simp [FC,a1,b1],λm hm=>?_,λhb=>by simp [Dm,a3 hb,b3 hb]⟩;simp only [Dm,BH] at hm;exact hm.elim (a2 m) (b2 m)
end
end Go.Hk
namespace Go.Hk
open Go.Proofs
mutual
def Hp:Ty->Ty->List (Int×Ty)->List (Int×Ty)×Bool
 | .mk f n x ps,b,T=>if f=9 then (Pw T n b,match B6 T n with
   | none=>true
   | some v=>Hq v b)
  else if f=BA b/\x=WR b/\ps.length=(DZ b).length then IL ps (DZ b) T else (T,false)
def IL:List Ty->List Ty->List (Int×Ty)->List (Int×Ty)×Bool
 | p::ps,q::qs,T=>if (Hp p q T).2=true then IL ps qs (Hp p q T).1 else Hp p q T
 | _,_,T=>(T,true)
end
theorem bF {σ:Sb} {n:Int} {t:Ty} (h:σ n=some t):Ej σ n t=σ:=by
 funext m;unfold Ej
 split
 ·rename_i e;rw [e,h]
 ·rfl
mutual
theorem Sk:∀(a b:Ty) (T:List (Int×Ty)),(Hp a b T).2=(LI a b (B6 T)).isSome/\∀σ',LI a b (B6 T)=some σ'->B6 (Hp a b T).1=σ'
 | .mk f n x ps,b,T=>by
  by_cases e9:f=9
  ·rw [Hp,LI,if_pos e9,if_pos e9];cases hs:B6 T n with
   | none=>exact ⟨rfl,λσ' h=>by cases h;exact Iw b n T⟩
   | some v =>
    simp only;cases he:Hq v b with
    | false=>exact ⟨rfl,λσ' h=>nomatch h⟩
    | true =>
     refine ⟨rfl,λσ' h=>?_⟩;cases h;rw [Iw];have:=(Q3 v b).1 he;subst this;exact bF hs
  ·rw [Hp,LI,if_neg e9,if_neg e9];by_cases hh:f=BA b/\x=WR b/\ps.length=(DZ b).length
   ·rw [if_pos hh,if_pos hh];exact PE ps (DZ b) T
   ·rw [if_neg hh,if_neg hh];exact ⟨rfl,λσ' h=>nomatch h⟩
theorem PE:∀(aa bb:List Ty) (T:List (Int×Ty)),(IL aa bb T).2=(PD aa bb (B6 T)).isSome/\∀σ',PD aa bb (B6 T)=some σ'->B6 (IL aa bb T).1=σ'
 | a::aa,b::bb,T=>by
  obtain ⟨h2,h3⟩:=Sk a b T;rw [IL,PD];cases hm:LI a b (B6 T) with
  | none =>
   rw [hm] at h2;rw [if_neg (by rw [h2];simp)];exact ⟨h2,λσ' h=>nomatch h⟩
  | some σ1 =>
   rw [hm] at h2;rw [if_pos (by rw [h2];rfl)];have ih:=PE aa bb (Hp a b T).1;rw [h3 σ1 hm] at ih;exact ih
 | [],[],T=>⟨rfl,λσ' h=>by cases h;rfl⟩
 | [],_::_,T=>⟨rfl,λσ' h=>by cases h;rfl⟩
 | _::_,[],T=>⟨rfl,λσ' h=>by cases h;rfl⟩
end
theorem XF {ps qs:List Ty} {i:Nat} {p q:Ty} (hp:ps[i]?=some p) (hq:qs[i]?=some q) (T:List (Int×Ty)):IL (ps.drop i) (qs.drop i) T=if (Hp p q T).2=true then IL (ps.drop (i+1)) (qs.drop (i+1)) (Hp p q T).1 else Hp p q T:=by
 rw [Av hp,Av hq,IL]
theorem NS:∀(a b:Ty) (T:List (Int×Ty)),Cl b=true->AK Tryz.prog 60 [.imm (.agg (dTyc a)),.imm (.agg (dTyc b)),.mapr 1] [(1,some (UM T))] (.ret (.imm (.bool (Hp a b T).2)) [(1,some (UM (Hp a b T).1))])
 | .mk f n x ps,.mk g m y qs,T,hw=>by
  have hql:=Gm hw;have hqw:=DB hw;simp only [DZ] at hql hqw;refine Ac Ah Tryz.func60 (by decide +kernel) rfl [2,3,4,5] rfl rfl <| Ai rfl ?_;by_cases e9:f=9
  ·subst e9;have hr:Hp (.mk 9 n x ps) (.mk g m y qs) T=(Pw T n (.mk g m y qs),match B6 T n with
    | none=>true
    | some v=>Hq v (.mk g m y qs)):=by rw [Hp,if_pos rfl]
   rw [hr];have hst:=Jf n (.mk g m y qs) T;have hlk:=GK n T;refine Aa rfl (λh=>?_) (λh=>by exfalso;simp at h);refine Aq rfl ?_;cases hsb:B6 T n with
   | none =>
    rw [hsb] at hlk;refine C9 Ah 1 (zd:=.agg (dTyc F5)) (dr:=.imm (.tup [.agg (dTyc F5),.bool false])) rfl rfl rfl (DU T) (by simp) rfl Ht (by simp only [Fr,hlk];rfl) <| Ai rfl <| EW Ah rfl rfl rfl (DU T) <| BU rfl <| Aj (v:=.bool false) rfl (λhc=>by simp [Am] at hc) (by simp [Am]) <| BU rfl ?_;simp only [UM,<- hst];exact Ag ⟨_,AD⟩
   | some v =>
    rw [hsb] at hlk;have hS:=V6 v (.mk g m y qs)
    dsimp only
    generalize Hq v (.mk g m y qs)=o at *;obtain ⟨v1,v2,v3,v4⟩:=v;refine C9 Ah 1 (zd:=.agg (dTyc F5)) (dr:=.imm (.tup [.agg (dTyc (.mk v1 v2 v3 v4)),.bool true])) rfl rfl rfl (DU T) (by simp) rfl Ht (by simp only [Fr,hlk];rfl) <| Ai rfl <| EW Ah rfl rfl rfl (DU T) <| BU rfl <| Bz rfl hS <| BU rfl ?_;simp only [UM,<- hst];exact Ag ⟨_,AD⟩
  ·refine Aa rfl (λh=>by exfalso;simp at h;exact e9 h) (λh=>?_);refine KM rfl ?_;by_cases hh:f=g/\x=y/\ps.length=qs.length
   ·have hr:Hp (.mk f n x ps) (.mk g m y qs) T=IL ps qs T:=by rw [Hp,if_neg e9];exact if_pos hh
    rw [hr];obtain ⟨rfl,rfl,hq⟩:=hh;refine Aa rfl (λh=>by exfalso;simp at h;omega) (λh=>?_);refine Aq rfl <| Ak (λz:Nat×List (Int×Ty)=>[(55,.imm (.int .i64 z.1)),(54,.imm (.int .i64 ps.length)),(3,.ref 2 0),(4,.ref 3 0),(2,.mapr 1)]) (λz=>[(1,some (UM z.2)),(2,some (.immb 25 4 (dTyc (.mk f n x ps)))),(3,some (.immb 25 4 (dTyc (.mk f m x qs))))]) [4,5] (λz=>ps.length-z.1)
     (λz=>z.1<=ps.length/\IL ps qs T=IL (ps.drop z.1) (qs.drop z.1) z.2) (0,T)
     ⟨AL _,rfl⟩ ⟨rfl,AA (by simp),AD⟩ AD rfl λz hz ih=>?_
    obtain ⟨i,K⟩:=z;obtain ⟨hz1,hz2⟩:=hz;simp only at hz1 hz2 ih;refine Aq rfl <| Aa rfl (λh=>?_) (λh=>?_)
    ·have hlt:i<ps.length:=by simp at h;omega
     obtain ⟨p,hp⟩:=Ao hlt;obtain ⟨q,hq'⟩:=Ao (l:=qs) (i:=i) (by omega);have hgp:=A8 hp;have hgq:=A8 hq';have hI:=NS p q K (hqw q (AF hq'));rw [XF hp hq'] at hz2;have hih:=λhc=>ih (i+1,(Hp p q K).1) (by simp only;omega) ⟨by simp only;omega,hc⟩;generalize (Hp p q K)=r at *;obtain ⟨K',o⟩:=r;simp only at hz2 hI hih;obtain ⟨p1,p2,p3,p4⟩:=p;obtain ⟨q1,q2,q3,q4⟩:=q;refine Aq rfl <| yi rfl (c:=dTyc (.mk p1 p2 p3 p4)) (λ_=>⟨by simp,by simpa using hgp,by simp⟩) (by simp) <| Ai rfl <| yi rfl (c:=dTyc (.mk q1 q2 q3 q4)) (λ_=>⟨by simp,by simpa using hgq,by simp⟩) (by simp) <| Ai rfl <| Ad (fr:=[]) [(1,1)] [] rfl (by simp) hI At rfl rfl rfl rfl <| yg [] rfl (by simp;rfl) ?_;cases o with
     | false =>
      rw [if_neg (by simp)] at hz2;rw [hz2];refine Aa rfl (λh=>?_) (λh=>by exfalso;simp at h);exact Aq rfl <| Ag ⟨_,AD⟩
     | true =>
      rw [if_pos rfl] at hz2;refine Aa rfl (λh=>by exfalso;simp at h) (λh=>?_);exact Aq rfl <| Ae (hih hz2) ⟨AA (Cb (by omega) (by omega)),BF⟩ AD rfl
    ·have hlt:¬i<ps.length:=by simp at h;omega
     rw [Br (by omega)] at hz2;simp only [IL] at hz2;rw [hz2];exact Aw rfl <| Aq rfl <| Ag ⟨_,AD⟩
   ·have hr:Hp (.mk f n x ps) (.mk g m y qs) T=(T,false):=by rw [Hp,if_neg e9];exact if_neg hh
    rw [hr];refine Aa rfl (λh=>?_) (λh=>by exfalso;simp at h;grind);exact Aq rfl <| Ag ⟨_,AD⟩
termination_by a=>SizeOf.sizeOf a
decreasing_by
 have:=Cn (AF hp);simp_wf;omega
theorem LV (a b:Ty):Al Tryz.prog 14 [.agg (dTyc a),.agg (dTyc b)] (.tup [.bool (AH true a&&AH true b&&(LI a b λ_=>none).isSome),Rv (AH true a&&AH true b)]):=by
 have hK:=Er [a,b];simp only [Da,HH,HG] at hK;cases hf:AH true a&&AH true b with
 | false =>
  rw [hf] at hK;obtain ⟨a1,a2,a3,a4⟩:=a;obtain ⟨b1,b2,b3,b4⟩:=b;refine Ac Ah Tryz.func14 (by decide +kernel) rfl [1,2,3,4,5] rfl rfl <| Ai rfl <| Af rfl hK <| Ai rfl <| Aa rfl (λh=>?_) (λh=>by exfalso;simp at h);exact Aq rfl <| Ab rfl rfl rfl
 | true =>
  rw [hf] at hK;have hw:Cl b=true:=by
   simp only [A1,AH] at hf;exact (Lw b hf.2.2).1
  have hM:=NS a b [] hw;obtain ⟨h2,_⟩:=Sk a b [];rw [show B6 []=λ_=>none from rfl] at h2;rw [<- h2];generalize Hp a b []=r at *;obtain ⟨T',o⟩:=r;obtain ⟨a1,a2,a3,a4⟩:=a;obtain ⟨b1,b2,b3,b4⟩:=b;refine Ac Ah Tryz.func14 (by decide +kernel) rfl [1,2,3,4,5] rfl rfl <| Ai rfl <| Af rfl hK <| Ai rfl <| Aa rfl (λh=>by exfalso;simp at h) (λh=>?_);exact Aq rfl <| Ei rfl <| Ai rfl <| Ad (fr:=[]) [(3,1)] [] rfl (by simp) hM At rfl rfl rfl rfl <| Ai rfl <| Ab rfl rfl rfl
end Go.Hk
namespace Go.Hk
def lexT (θ:Int->Ty) (x h:Int):Prop:=Ek (θ x)<Ek (θ h)\/(Ek (θ x)=Ek (θ h)/\x<h)
theorem lexT.trans {θ:Int->Ty} {x y z:Int} (h:lexT θ x y) (h':lexT θ y z):lexT θ x z:=by
 unfold lexT at *;omega
theorem lexT.irrefl {θ:Int->Ty} {x:Int}:¬lexT θ x x:=by unfold lexT;omega
theorem Sol.below {σ:Sb} {θ:Int->Ty} (hs:Sol σ θ) {h x:Int} {t:Ty} (ht:σ h=some t) (hx:x∈CA t):lexT θ x h:=by
 have hθ:θ h=A7 θ t:=hs.eq h t ht;by_cases h9:BA t=9
 ·have e:=DC (hs.wf h t ht) h9;have hd:=hs.down h t ht h9;rw [e] at hx;simp [As,CA] at hx;refine .inr ⟨?_,by omega⟩;rw [hθ,Gi h9,hx]
 ·exact .inl (by rw [hθ];exact Zu h9 hx)
def MetOk (θ:Int->Ty) (n:Int) (t:Ty) (met:List Int):Prop:=∀h∈met,n∉CA (θ h)\/∀x∈CA t,lexT θ x h
def MetNew (θ:Int->Ty) (n:Int) (met met':List Int):Prop:=∀h∈met',h∈met\/n∉CA (θ h)
theorem MetNew.refl {θ:Int->Ty} {n:Int} (met:List Int):MetNew θ n met met:=λ_ h=>.inl h
theorem MetNew.trans {θ:Int->Ty} {n:Int} {a b c:List Int} (h:MetNew θ n a b) (h':MetNew θ n b c):MetNew θ n a c:=λx hx=>by
 rcases h' x hx with hx | hx
 ·exact h x hx
 ·exact .inr hx
theorem MetOk.part {θ:Int->Ty} {n:Int} {t p:Ty} {met:List Int} (h:MetOk θ n t met) (h9:BA t≠9) (hp:p∈DZ t):MetOk θ n p met:=λx hx=>(h x hx).imp id λhb y hy=>hb y (by
 obtain ⟨f,m,z,ps⟩:=t;simp only [BA] at h9;simp only [CA,if_neg h9];exact Jm.2 ⟨p,hp,hy⟩)
theorem MetOk.new {θ:Int->Ty} {n:Int} {t:Ty} {met met':List Int} (h:MetOk θ n t met) (h':MetNew θ n met met'):MetOk θ n t met':=λx hx=>by
 rcases h' x hx with hx | hx
 ·exact h x hx
 ·exact .inl hx
theorem MetOk.met {θ:Int->Ty} {n h:Int} {met:List Int} (hm:MetOk θ n (As h) met) (hh:h∈met):n∉CA (θ h):=by
 rcases hm h hh with h1 | h1
 ·exact h1
 ·exact absurd (h1 h (by simp [As,CA])) lexT.irrefl
theorem MetOk.next {σ:Sb} {θ:Int->Ty} (hs:Sol σ θ) {n h:Int} {t:Ty} {met:List Int} (hm:MetOk θ n (As h) met) (ht:σ h=some t):MetOk θ n t (h::met):=λx hx=>by
 rcases CC.1 hx with rfl | hx
 ·exact .inr λy hy=>hs.below ht hy
 ·exact (hm x hx).imp id λhb y hy=>(hs.below ht hy).trans (hb h (by simp [As,CA]))
end Go.Hk
namespace Go.Hk
open Go.Proofs
def D7 (l:List Int):List (V×V):=l.map λh=>(.int .i64 h,.bool true)
theorem C3 (l:List Int):∀p∈D7 l,GA (.int .i64) p.1=true:=λp hp=>by
 obtain ⟨q,_,rfl⟩:=Cc.1 hp;rfl
theorem ME (h:Int):∀l:List Int,Ga (D7 l) (.int .i64 h)=if h∈l then some (.bool true) else none
 | []=>rfl
 | x::r=>by
  have ih:=ME h r;simp only [D7,Cz,Ga,Ka] at ih ⊢;by_cases e:x=h
  ·subst e;rw [decide_eq_true rfl,if_pos (PP ..)];rfl
  ·rw [decide_eq_false e];simp only [CC];rw [ih];have e':¬h=x:=λh'=>e h'.symm;simp only [e',false_or];rfl
theorem FG (h:Int) (l:List Int):Fr false (D7 l) (.int .i64 h) (.bool false) = .imm (.bool (decide (h∈l))):=by
 simp only [Fr,ME];by_cases e:h∈l <;> simp [e]
theorem HS {h:Int}:∀{l:List Int},h∉l->Fi (D7 l) (.int .i64 h) (.bool true)=D7 (l++[h])
 | [],_=>rfl
 | x::r,hn=>by
  simp only [CC,not_or] at hn;have ih:=HS (l:=r) hn.2;simp only [D7,Cz,Fi,Ka,Db] at ih ⊢;rw [decide_eq_false (λe=>hn.1 e.symm),<- ih];rfl
def DA (m:Md) (T:List (Int×Ty)) (k:Int) (S:List Ty) (n:Int) (t:Ty) (met:List Int) (b:Bool) (met':List Int):Prop :=
 AK Tryz.prog 118 [.ref 1 0,.imm (.int .i64 n),.imm (.agg (dTyc t)),.mapr 4] (C8 m T k S++[(4,some (.map (D7 met)))]) (.ret (.imm (.bool b)) (C8 m T k S++[(4,some (.map (D7 met')))]))
theorem Xb (m:Md) (T:List (Int×Ty)) (k:Int) (S:List Ty) (n h:Int) (met:List Int) (hh:h∈met):DA m T k S n (As h) met false met:=by
 unfold DA;exact Ac Ah Tryz.func118 (by decide +kernel) rfl [5,6,7,8,9] rfl rfl <| yg [.a] rfl (by simp) <| C9 Ah 4 (z:=.bool false) (zd:=.bool false) (dr:=.imm (.bool true)) rfl rfl rfl (C3 met) (by simp) rfl (λ_=>.bool _) (by rw [FG];simp [hh]) <| yg [.a] rfl (by simp) <| Ag ⟨_,Gq⟩
theorem UH (m:Md) (T:List (Int×Ty)) (k:Int) (S:List Ty) (n:Int) (met:List Int) (hh:n∉met) (hs:B6 T n=none):DA m T k S n (As n) met true (met++[n]):=by
 unfold DA;have hlk:=GK n T;rw [hs] at hlk;have hnew:=HS hh;exact Ac Ah Tryz.func118 (by decide +kernel) rfl [5,6,7,8,9] rfl rfl <| yg [.a] rfl (by simp) <| C9 Ah 4 (z:=.bool false) (zd:=.bool false) (dr:=.imm (.bool false)) rfl rfl rfl (C3 met) (by simp) rfl (λ_=>.bool _) (by rw [FG];simp [hh]) <| yg [.a] rfl (by simp) <| EW Ah rfl rfl rfl (C3 met) <| Ai rfl <| C9 Ah 2 (zd:=.agg (dTyc F5)) (dr:=.imm (.tup [.agg (dTyc F5),.bool false])) rfl rfl rfl (DU T) (by simp) rfl Ht (by simp only [Fr,hlk];rfl) <| yg [] rfl (by simp [Am];rfl) <| OM (.imm (.bool false)) rfl (by simp [Am]) <| BU rfl <| Ag ⟨_,rfl,tV (by simp),rfl,rfl,rfl,congrArg (λx=>some (some (Blk.map x))) hnew,trivial⟩
theorem Je (m:Md) (T:List (Int×Ty)) (k:Int) (S:List Ty) (n h:Int) (met:List Int) (hh:h∉met) (hn:h≠n) (hs:B6 T h=none):DA m T k S n (As h) met false (met++[h]):=by
 unfold DA;have hlk:=GK h T;rw [hs] at hlk;have hnew:=HS hh;have hb:(h == n)=false:=by simpa using hn
 exact Ac Ah Tryz.func118 (by decide +kernel) rfl [5,6,7,8,9] rfl rfl <| yg [.a] rfl (by simp) <| C9 Ah 4 (z:=.bool false) (zd:=.bool false) (dr:=.imm (.bool false)) rfl rfl rfl (C3 met) (by simp) rfl (λ_=>.bool _) (by rw [FG];simp [hh]) <| yg [.a] rfl (by simp) <| EW Ah rfl rfl rfl (C3 met) <| Ai rfl <| C9 Ah 2 (zd:=.agg (dTyc F5)) (dr:=.imm (.tup [.agg (dTyc F5),.bool false])) rfl rfl rfl (DU T) (by simp) rfl Ht (by simp only [Fr,hlk];rfl) <| yg [] rfl (by simp [Am];rfl) <| OM (.imm (.bool false)) rfl (by simp [Am]) <| BU rfl <| Ag ⟨_,rfl,tV (by simp [hb]),rfl,rfl,rfl,congrArg (λx=>some (some (Blk.map x))) hnew,trivial⟩
theorem UI (m:Md) (T:List (Int×Ty)) (k:Int) (S:List Ty) (n h:Int) (met met':List Int) (u:Ty) (b:Bool) (hh:h∉met) (hn:h≠n) (hs:B6 T h=some u) (hC:DA m T k S n u (met++[h]) b met'):DA m T k S n (As h) met b met':=by
 unfold DA at hC ⊢;have hlk:=GK h T;rw [hs] at hlk;have hnew:=HS hh;have hb:(h == n)=false:=by simpa using hn
 obtain ⟨u1,u2,u3,u4⟩:=u;refine Ac Ah Tryz.func118 (by decide +kernel) rfl [5,6,7,8,9] rfl rfl <| yg [.a] rfl (by simp) <| C9 Ah 4 (z:=.bool false) (zd:=.bool false) (dr:=.imm (.bool false)) rfl rfl rfl (C3 met) (by simp) rfl (λ_=>.bool _) (by rw [FG];simp [hh]) <| yg [.a] rfl (by simp) <| EW Ah rfl rfl rfl (C3 met) <| Ai rfl <| C9 Ah 2 (zd:=.agg (dTyc F5)) (dr:=.imm (.tup [.agg (dTyc (.mk u1 u2 u3 u4)),.bool true])) rfl rfl rfl (DU T) (by simp) rfl Ht (by simp only [Fr,hlk];rfl) <| yg [] rfl (by simp [Am];rfl) ?_;simp only [hnew]
 exact A4 [(1,1),(2,2),(3,3),(4,4)] [] [] (fr:=[]) (nm:=[1,2,3,4,1,2,3,4]) rfl (by simp [Am,hb]) (by simp [Am]) hC Jg rfl trivial rfl rfl rfl <| BU rfl <| Ag ⟨_,rfl,tV (by simp [hb]),BF⟩
end Go.Hk
