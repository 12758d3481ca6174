/- A call that surely gives up, also in drawn regions: what comes behind it is told of a value that nothing has. (And what it stands on.) -/
import Derived.Test.YtcdpbkolkeeopaaGreatSc
import Derived.Sort.Walk0
import Derived.Laws.MakeOwn
import Derived.Test.YtcdpbkolkeeopaaGreatSb
set_option linter.all false
set_option maxRecDepth 100000
set_option maxHeartbeats 4000000
namespace Go.Hk
open Go.Proofs.Tryz
open Go.Proofs
variable {st st' st1 st0:St} {P:Program} {n sz b i off j:Nat} {env env' E:Env} {F ids ids' fr:List Nat} {Q:DQ} {todo todo' k:List DI} {tt:TT} {w w':World} {I J:Imm} {μ ν:Mu} {ob ob':List Prop} {a:Act} {d:D} {l:List Tok} {Pn:V->Prop} {cx:Prop} {e:TypeId} {θ:Int->Ty} {es:List (List V)} {o:Oper} {g:Option (Bool×Bool)} {f:FuncId} {t p:Ty} {m:Md} {v:Value} {s x:Str} {cs:List Value} {c vs:List V} {T:List (Int×Ty)} {S ps:List Ty} {das ds:List D} {α:Type} {σ τ1:List (Nat×Nat)} {h:Int} {dst:Option Nat} {A:Asn} {q:D->Option V} {ts:Array TypeId} {c':Code}
structure PA0 where
 dx:D
 dst:Option Nat
 todo:List DI
def vU (tt:TT) (n:Nat) (env:Env) (todo:List DI):Option PA0 :=
 match Bt todo ([],[]) with
 | some (_,o,todo')=>match o.guard,o.op with
  | none,.call { callee:=.builtin .append,args:=⟨[x,y]⟩,argTypes:=⟨[t,t']⟩ }=>match Nat.beq t t',lk tt t,DN env x,DN env y with
   | true,some { sh:=.sl e,.. },some (.clip es),some (.imm (.sl []))=>match lk tt e,BK n o.dst with
    | some _,true=>some ⟨.clip es,o.dst,todo'⟩
    | _,_=>none
   | true,some { sh:=.sl e,.. },some (.imm (.sl es)),some (.imm (.sl []))=>match lk tt e,BK n o.dst with
    | some _,true=>some ⟨.imm (.sl es),o.dst,todo'⟩
    | _,_=>none
   | _,_,_,_=>none
  | _,_=>none
 | none=>none
structure PEn where
 es:List (List V)
 eq:Bool
 dst:Option Nat
 todo:List DI
def zL (tt:TT) (n:Nat) (env:Env) (todo:List DI):Option PEn :=
 match Bt todo ([],[]) with
 | some (_,o,todo')=>match o.guard,o.op with
  | none,.binOp .eql t x y _=>match lk tt t,DN env x,DN env y,BK n o.dst with
   | some { sh:=.sl _,.. },some (.imm (.sl es)),some .nils,true=>some ⟨es,true,o.dst,todo'⟩
   | _,_,_,_=>none
  | none,.binOp .neq t x y _=>match lk tt t,DN env x,DN env y,BK n o.dst with
   | some { sh:=.sl _,.. },some (.imm (.sl es)),some .nils,true=>some ⟨es,false,o.dst,todo'⟩
   | _,_,_,_=>none
  | _,_=>none
 | none=>none
def yU (x:V):Asn where
 P:=λvs I _ bs=>bs=[]/\∃v,vs=[v]/\RepV I v x/\v.oneCell'=true
 mono:=λh ⟨h1,v,h2,h3,h4⟩=>⟨h1,v,h2,h3.mono h,h4⟩
 loc:=λ_ h=>h
def yP (e:TypeId) (sz:Nat) (es:List (List V)):Asn where
 P:=λvs I w bs=>∃v,vs=[v]/\(uW e sz es v).P [] I w bs
 mono:=λh ⟨v,h1,h2⟩=>⟨v,h1,(uW e sz es v).mono h h2⟩
 loc:=λh ⟨v,h1,h2⟩=>⟨v,h1,(uW e sz es v).loc h h2⟩
def hvOk (I:Imm) (j:Nat) (vs:List Value) (c:Value) (d:D):Prop:=match d with
 | .hv i k=>i=j/\vs[k]?=some c
 | d=>RepD I noMu c d
def Nt (A B:Asn) (A':Asn) (j b off:Nat) (ds:List D):Prop:=∀us vs I w b1 b2,A.P us I w b1->B.P vs I w b2->(∀b∈b1,b∉b2)->b∈b1/\∃cur t,w.heap[b]?=some (.cells cur t (0,0))/\off+ds.length<=cur.size /\
 ∀cs:List Value,cs.length=ds.length->(∀(i:Nat) (c:Value) (d:D),cs[i]?=some c->ds[i]?=some d->hvOk I j vs c d)->(∀c∈cs,c.oneCell'=true) ->
  ∃bs,(∀b∈bs,b∈b1\/b∈b2)/\A'.P [] I (w.setRow b (cur.toList.take off++cs++cur.toList.drop (off+ds.length)).toArray) bs
def Tl (j:Nat):List D->Bool
 | []=>true
 | .hv i _::r=>Nat.beq i j&&Tl j r
 | d::r=>(match J9 d with | []=>true | _=>false)&&Tl j r
structure PRj where
 b:Nat
 off:Nat
 ds:List D
 todo:List DI
def Wp (tt:TT) (env:Env) (id j id':Nat) (todo:List DI):Option PRj :=
 match Bt todo ([id,j],[id',id,j]) with
 | some (_,o,todo')=>match o.guard,o.dst,o.op with
  | none,none,.store t p x=>match lk tt t,DN env p,DN env x with
   | some i,some (.raw (.pointer (some ⟨b,off,none⟩))),some dx=>match Mi dx with
    | some ds=>match Nat.beq ds.length i.size,Tl j ds with
     | true,true=>some ⟨b,off,ds,todo'⟩
     | _,_=>none
    | none=>none
   | _,_,_=>none
  | _,_,_=>none
 | none=>none
theorem Mo (h:RepV I v (.sl es)):∃ad len cap,v = .slice ad len cap/\len<=cap/\len=es.length:=by
 cases h with
 | slnil=>exact ⟨_,_,_,rfl,BL _,rfl⟩
 | sl0 ad=>exact ⟨_,_,_,rfl,BL _,rfl⟩
 | sl b o len cap sz _ vs hl hc=>exact ⟨_,_,_,rfl,hc,hl⟩
theorem TJ (htt:TTok P tt) {c:PA0} (h:vU tt n env todo=some c) (hk:G P n F Q c.todo (BN c.dst c.dx env) st ids):G P n F Q todo env st ids:=by
 have key:∀{todo':List DI} {o:Oper} {all:List Oper} {x y:Operand} {t e:TypeId} {dx:D} {es:List (List V)} {ti:TyI},Bt todo ([],[])=some (all,o,todo')->o.guard=none->o.op = .call { callee:=.builtin .append,args:=⟨[x,y]⟩,argTypes:=⟨[t,t]⟩ } ->
   P.underlying t=some (.slice e)->lk tt e=some ti->DN env x=some dx->DN env y=some (.imm (.sl []))->(∀I μ v,RepD I μ v dx->RepV I v (.sl es))->BK n o.dst=true->G P n F Q todo' (BN o.dst dx env) st ids->G P n F Q todo env st ids:=by
  intro todo' o all x y t e dx es ti h1 hg hop hu hi hx hy hd hdst hk;refine BG (fr:=[]) (wr:=[]) (rd:=[]) h1 ?_ hdst (λc hc=>by rw [hop] at hc;cases hc) hk;intro I μ st1 ids1 a w hag hst hon;refine ⟨λ_=>?_,λhw=>by rw [AL hg] at hw;cases hw⟩;have hops:=Bm hon;rw [hop] at hops;have rx:=hops x (by simp [Op.operands,Call.operands]) _ hx;have ry:=(hops y (by simp [Op.operands,Call.operands]) _ hy).immInv;obtain ⟨ad,len,cap,e1,e2,_⟩:=Mo (hd _ _ _ rx);obtain ⟨ady,ly,capy,e3,e4,e5⟩:=Mo ry;obtain ⟨inf,z,z1,z2,z3,z4,z5,z6⟩:=(htt e ti hi).info;simp only [B5] at e5;subst e5;have hr:(Builtin.append_ #[t,t] o.type #[a.eval x,a.eval y]).run P w = .ok (a.eval x) w:=by
   rw [e1,e3];cases ad <;> cases ady <;> simp [Builtin.append_,run_underlying hu,sizeOf,typeInfo,z1,Builtin.lenOf,e2,Builtin.firstCells,loadCells,loadCellsFrom,storeCells]
  have hrun:(execOp a.eval o).run P w = .ok (.value (a.eval x)) w:=by
   simp only [execOp,hop,resolve,invoke,builtin,Sem.run_bind,Sem.run_pure,Result.andThen_ok,Lk,Cv,FB,hr]
  rw [hrun];exact ⟨I,μ,hst,rx,Mu.le_refl μ,Ext.refl _ _ _ _⟩
 unfold vU at h
 split at h
 ·rename_i all o todo' h1
  split at h
  ·rename_i x y t t' hg hop
   split at h
   ·rename_i e _ _ _ _ es htt' ht hx hy;have:=C7 htt';subst this
    split at h
    ·rename_i ti hi hd;cases h;exact key h1 hg hop (htt.sh ht) hi hx hy (λI μ v h=>by cases h;assumption) hd hk
    ·cases h
   ·rename_i e _ _ _ _ es htt' ht hx hy;have:=C7 htt';subst this
    split at h
    ·rename_i ti hi hd;cases h;exact key h1 hg hop (htt.sh ht) hi hx hy (λI μ v h=>h.immInv) hd hk
    ·cases h
   ·cases h
  ·cases h
 ·cases h
theorem pL {all rest:List Oper} (f:α->D) (good:α->Prop) (hnd:∀c,o.op ≠ .defer c) (hg:o.guard=none) (hn:∀t,o.dst=some t->t<n) (hy:∀I μ a w,StRep I μ st ids w->DG I μ env a o.op->∃x v,good x/\(execOp a.eval o).run P w = .ok (.value v) w/\RepD I μ v (f x)) (h:∀x,good x->DGo P n F Q (.ops all rest::k) (BN o.dst (f x) env) st ids):DGo P n F Q (.ops all (o::rest)::k) env st ids:=by
 intro b cs I μ a w items hd hc;obtain ⟨j,is,rfl,hr,hk⟩:=HY hd;obtain ⟨hj,hr'⟩:=DM hr;have hon:J6 (o.looksAt all.toArray) I μ env a:=λt _ d hl=>hc.env t d hl;obtain ⟨x,v,hx,hrun,hv⟩:=hy I μ a w hc.toStRep (Bm hon);obtain ⟨p1,p2,p3⟩:=HI (n:=n) (w:=w) (dst:=o.dst) (λt d hl=>hc.env t d hl) hc.size hn hv;have:=h x hx b cs I μ (a.put o.dst v) w (.inRegion all.toArray (List.range' (j+1) rest.length)::is) ⟨⟨rfl,j+1,hr',rfl⟩,hk⟩
  {hc.toStRep with size:=p2,env:=by cases hdst:o.dst <;> simpa [BN,hdst] using p1,defers:=by rw [p3];exact hc.defers }
 rw [p3] at this;have hlen:(o::rest).length=rest.length+1:=rfl;rw [hlen,OM];refine F8 hj (AL hg) hnd ?_;unfold O4;rw [hrun];exact this
theorem Sv (m:Nat) {t:TypeId} (hs:P.underlying t=some (.slice e)) (ad:Option Addr) (len cap:Nat):(Op.equalIn (m+1) t (.slice ad len cap) (.slice none 0 0)).run P w = .ok ad.isNone w:=by
 cases ad <;> simp [Op.equalIn,run_underlying hs]
theorem OY {t:TypeId} (hs:P.underlying t=some (.slice e)) (ad:Option Addr) (len cap:Nat):(Op.equal t (.slice ad len cap) (.slice none 0 0)).run P w = .ok ad.isNone w:=Sv 9999 hs ad len cap
theorem Lz {t:TypeId} (hs:P.underlying t=some (.slice e)) (x y:Operand) (ad:Option Addr) (len cap:Nat) :
  (do eqGuard .eql t x y (.slice ad len cap) (.slice none 0 0);binOp .eql t (.slice ad len cap) (.slice none 0 0):Sem Value).run P w = .ok (.bool ad.isNone) w /\
  (do eqGuard .neq t x y (.slice ad len cap) (.slice none 0 0);binOp .neq t (.slice ad len cap) (.slice none 0 0):Sem Value).run P w = .ok (.bool (!ad.isNone)) w:=by
 constructor
 ·simp only [Sem.run_bind,D3 .eql t x y (.slice ad len cap) (.slice none 0 0) (by simp) (by simp),Result.andThen_ok,binOp,OY hs,Sem.run_pure]
 ·simp only [Sem.run_bind,D3 .neq t x y (.slice ad len cap) (.slice none 0 0) (by simp) (by simp),Result.andThen_ok,binOp,OY hs,Sem.run_pure]
theorem KM (htt:TTok P tt) {all rest:List Oper} {c:PEn} (h:zL tt n env (.ops all (o::rest)::k)=some c) (hk:∀b:Bool,(c.es≠[]->b = !c.eq)->DGo P n F Q c.todo (BN c.dst (.imm (.bool b)) env) st ids) :
  DGo P n F Q (.ops all (o::rest)::k) env st ids:=by
 unfold zL at h;simp only [Bt] at h;have hnone:∀{I:Imm} {v:Value} {es:List (List V)},RepV I v (.sl es)->∃ad len cap,v = .slice ad len cap/\(es≠[]->ad.isNone=false):=by
  intro I v es h;cases h with
  | slnil=>exact ⟨_,_,_,rfl,λh=>absurd rfl h⟩
  | sl0 ad=>exact ⟨_,_,_,rfl,λ_=>rfl⟩
  | sl b o len cap sz _ vs hl hc=>exact ⟨_,_,_,rfl,λ_=>rfl⟩
 split at h
 ·rename_i t x y t' hg hop
  split at h
  ·rename_i e _ _ _ _ es ht hx hy hd;cases h;have hn:∀t,o.dst=some t->t<n:=λt ht=>by
    unfold BK at hd;rw [ht] at hd;simpa [HQ] using hd
   refine pL (λb=>.imm (.bool b)) (λb=>es≠[]->b=false) (λc hc=>by rw [hop] at hc;cases hc) hg hn (λI μ a w hst hops=>?_) λb hb=>hk b hb;rw [hop] at hops;obtain ⟨ad,len,cap,e1,e2⟩:=hnone (hops x (by simp [Op.operands]) _ hx).immInv;have e3:a.eval y = .slice none 0 0:=by
    have:=hops y (by simp [Op.operands]) _ hy;generalize a.eval y=v at this;cases this;rfl
   refine ⟨ad.isNone,.bool ad.isNone,e2,?_,.imm _ _ (.bool _)⟩;simp only [execOp,hop,e1,e3];exact A7 (Lz (htt.sh ht) x y ad len cap).1
  ·cases h
 ·rename_i t x y t' hg hop
  split at h
  ·rename_i e _ _ _ _ es ht hx hy hd;cases h;have hn:∀t,o.dst=some t->t<n:=λt ht=>by
    unfold BK at hd;rw [ht] at hd;simpa [HQ] using hd
   refine pL (λb=>.imm (.bool b)) (λb=>es≠[]->b=true) (λc hc=>by rw [hop] at hc;cases hc) hg hn (λI μ a w hst hops=>?_) λb hb=>hk b hb;rw [hop] at hops;obtain ⟨ad,len,cap,e1,e2⟩:=hnone (hops x (by simp [Op.operands]) _ hx).immInv;have e3:a.eval y = .slice none 0 0:=by
    have:=hops y (by simp [Op.operands]) _ hy;generalize a.eval y=v at this;cases this;rfl
   refine ⟨!ad.isNone,.bool (!ad.isNone),λh=>by rw [e2 h];rfl,?_,.imm _ _ (.bool _)⟩;simp only [execOp,hop,e1,e3];exact A7 (Lz (htt.sh ht) x y ad len cap).2
  ·cases h
 ·cases h
theorem Pc (t j:Nat) {d0:D} {x:V} (ht:lk env t=some d0) (hd:rF d0=some x) (hx:V.one x=true) (h:DGo P n F Q todo ((t,.hv j 0)::env) ((j,some (.hp (yU x)))::st) ids'):DGo P n F Q todo env st (j::ids'):=by
 refine EJ λI μ a w hc=>?_;have hr:RepV I (a.tmps.getD t undef) x:=PF hd (hc.env t _ ht);have h1:=hr.one hx;obtain ⟨q1,q2,q3⟩:=StRep.relay (R:=[]) (new:=[(j,Xn [a.tmps.getD t undef] [],.hp (yU x))]) (ids':=ids') hc.toStRep
  (λp hp b hb=>by rw [AN.1 hp] at hb;cases C0.1 hb)
  (λp hp q hq b _ _=>by rw [AN.1 hp,AN.1 hq]) (Imm.le_refl I) hc.imm (λb o h=>.inl h)
  (λ_ p hp=>by rw [AN.1 hp];exact ⟨_,[],rfl,rfl,_,rfl,hr,h1⟩)
 refine ⟨I,_,_,_,ids',q2,λt' d hd=>?_,q3,.of_le q1,h⟩;by_cases e:t=t'
 ·subst e;rw [Ay] at hd;cases hd;exact .hv _ j 0 [a.tmps.getD t undef] [] (by simp [Ef,lk]) rfl h1
 ·rw [A6 _ _ e] at hd;exact (hc.env t' d hd).mono (Imm.le_refl I) q1
theorem XF (t id j:Nat) {len:Nat} (ht:lk env t=some (.own id len)) (hl:lk st id=some (some (.row e sz es))) (h:DGo P n F Q todo ((t,.hv j 0)::env) ((j,some (.hp (yP e sz es)))::(id,none)::st) ids'):DGo P n F Q todo env st (j::ids'):=by
 refine EJ λI μ a w hc=>?_;obtain ⟨g,hg,xs,⟨_,hown⟩,hrep,hsz,hone,hp⟩:=hc.blk id _ hl;have hv:a.tmps.getD t undef=g:=by
  have:=hc.env t _ ht;generalize a.tmps.getD t undef=v at this;cases this with
  | own _ _ ad cap hm=>rw [hm] at hg;cases hg;rfl
 have hg1:g.oneCell'=true:=by
  rcases hown with ⟨rfl,_⟩ | ⟨b,cap,cur,rfl,_⟩ <;> rfl
 obtain ⟨bs,hP,hbs⟩:∃bs,(uW e sz es g).P [] I w bs/\∀b∈bs,En g b:=by
  rcases hown with ⟨rfl,h0⟩ | ⟨b,cap,cur,rfl,_,h2,h3,h4,h5,h6⟩
  ·exact ⟨[],.inl ⟨rfl,Ll h0,rfl⟩,λb hb=>by cases hb⟩
  ·rw [<- h6] at hrep;exact ⟨[b],.inr ⟨b,cap,cur,rfl,rfl,h2,h3,h4,h5,hrep,hsz,hone,hp⟩,λb hb=>by rw [AN.1 hb];rfl⟩
 obtain ⟨q1,q2,q3⟩:=StRep.relay (R:=[id]) (new:=[(j,Xn [g] bs,.hp (yP e sz es))]) (ids':=ids') hc.toStRep
  (λp hp b hb=>by
   rw [AN.1 hp] at hb;exact ⟨id,_,_,by simp,hl,hg,hbs b (C0.1 hb)⟩)
  (λp hp q hq b _ _=>by rw [AN.1 hp,AN.1 hq]) (Imm.le_refl I) hc.imm (λb o h=>.inl h)
  (λ_ p hp=>by rw [AN.1 hp];exact ⟨_,bs,rfl,_,rfl,hP⟩)
 refine ⟨I,_,_,_,ids',q2,λt' d hd=>?_,q3,.of_le q1,h⟩;by_cases e:t=t'
 ·subst e;rw [Ay] at hd;cases hd;rw [hv];exact .hv _ j 0 [g] bs (by simp [Ef,lk]) rfl hg1
 ·rw [A6 _ _ e] at hd;exact (hc.env t' d hd).mono (Imm.le_refl I) q1
theorem W0 {j:Nat}:∀{ds:List D} {i:Nat} {d:D},Tl j ds=true->ds[i]?=some d->(∃k,d = .hv j k)\/J9 d=[]
 | [],i,d,_,h=>by simp at h
 | x::r,i,d,hn,h=>by
  cases i with
  | zero =>
   simp at h;subst h;cases x <;> simp only [Tl,A2] at hn <;> first
    | exact .inl ⟨_,by rw [C7 hn.1]⟩
    | (right;revert hn;split <;> simp_all)
  | succ i =>
   refine W0 (ds:=r) (i:=i) ?_ (by simpa using h);cases x <;> simp only [Tl,A2] at hn <;> exact hn.2
theorem TI (htt:TTok P tt) (id j id':Nat) {B:Asn} (A':Asn) {c:PRj} (h:Wp tt env id j id' todo=some c) (hl:lk st id=some (some (.hp A))) (hlj:lk st j=some (some (.hp B))) (hne:id≠j) (hA:Nt A B A' j c.b c.off c.ds) (hk:G P n F Q c.todo env ((id',some (.hp A'))::(id,none)::(j,none)::st) ids'):G P n F Q todo env st (id'::ids'):=by
 unfold Wp at h
 split at h
 ·rename_i all o todo' h1
  split at h
  ·rename_i t p x hgd hdst hop
   split at h
   ·rename_i i b off dx ht hp hx
    split at h
    ·rename_i ds hds
     split at h
     ·rename_i hsz hnm;cases h;simp only at hA hk;have hk:G P n F Q todo' (BN o.dst .undef env) ([(id',some (.hp A')),(id,none),(j,none)]++st) ids':=by rw [hdst];exact hk
      refine BG (fr:=[id']) (wr:=[(id',some (.hp A')),(id,none),(j,none)]) (rd:=[id,j]) h1 ?_ (by simp [BK,hdst]) (λc hc=>by rw [hop] at hc;cases hc) hk;intro I μ st1 ids1 a w hag hst hon;refine ⟨λ_=>?_,λhw=>by rw [AL hgd] at hw;cases hw⟩;have hops:=Bm hon;rw [hop] at hops;have rp:=(hops p (by simp [Op.operands]) _ hp).rawInv;obtain ⟨r1,r2⟩:=JG hds (hops x (by simp [Op.operands]) _ hx);have hl1:Az st1 id (.hp A):=by unfold Az;rw [hag id (by simp)];exact hl
      have hl2:Az st1 j (.hp B):=by unfold Az;rw [hag j (by simp)];exact hlj
      obtain ⟨g1,hg1,us,b1,rfl,hP1⟩:=hst.blk id _ hl1;obtain ⟨g2,hg2,vs,b2,rfl,hP2⟩:=hst.blk j _ hl2;obtain ⟨k1,cur,bt,k2,k3,k4⟩:=hA us vs I w b1 b2 hP1 hP2 λb h1 h2=>hne (hst.inj id j _ _ _ _ b hl1 hl2 hg1 hg2 (C0.2 h1) (C0.2 h2));have hvl:(a.eval x).cells.toList.length=ds.length:=r1.1;have hs:=C7 hsz;have hrun:(execOp a.eval o).run P w = .ok .skip (w.setRow b (cur.toList.take off++(a.eval x).cells.toList++cur.toList.drop (off+(a.eval x).cells.toList.length)).toArray):=by
       simp only [execOp,hop,rp,Sem.run_bind,LB (htt t i ht) k2 (by rw [<- hs,<- hvl];simp) r2 (show off+(a.eval x).cells.toList.length<=cur.size by rw [hvl];exact k3),Result.andThen_ok,Sem.run_pure]
      rw [hrun,hvl];obtain ⟨bs,z1,z2⟩:=k4 (a.eval x).cells.toList hvl (λq c d hc hd=>by
       have hr:=r1.2 q c d hc hd;rcases W0 hnm hd with ⟨kk,rfl⟩ | hno
       ·cases hr with
        | hv _ _ _ us' bs' hm hi h1 =>
         rw [hg2] at hm;have:vs=us':=by
          simp only [Xn,Cf,Value.tuple.injEq,Array.mk.injEq,E2,Value.agg.injEq,and_true] at hm;simpa using hm.1
         exact ⟨rfl,by rw [this];exact hi⟩
       ·have:RepD I noMu c d:=hr.sub λj hj=>by rw [hno] at hj;cases hj
        cases d <;> first | exact this | simp [J9] at hno) r2
      obtain ⟨p1,p2⟩:=hst.update (id:=id) (blk:=.hp A) (blk':=.hp { P:=λ_ _ w' bs'=>w'=w.setRow b (cur.toList.take off++(a.eval x).cells.toList++cur.toList.drop (off+ds.length)).toArray/\bs'=b1\/True,mono:=λ_ h=>h,loc:=λ_ _=>.inr trivial }) (g:=Xn us b1) (b:=b) hl1 hg1 (C0.2 k1) (w':=w.setRow b (cur.toList.take off++(a.eval x).cells.toList++cur.toList.drop (off+ds.length)).toArray) (setRow_size w b _) rfl rfl rfl (λk hk=>setRow_other w b k _ hk) ⟨us,b1,rfl,.inr trivial⟩;obtain ⟨q1,q2,q3⟩:=StRep.relay (R:=[id,j]) (new:=[(id',Xn [] bs,.hp A')]) (ids':=ids1) p1
       (λp hp b hb=>by
        rw [AN.1 hp] at hb;rcases z1 b (C0.1 hb) with h | h
        ·exact ⟨id,_,_,by simp,AB.2 (.inl ⟨rfl,rfl⟩),hg1,C0.2 h⟩
        ·exact ⟨j,_,_,by simp,AB.2 (.inr ⟨λe=>hne e.symm,hl2⟩),hg2,C0.2 h⟩)
       (λp hp q hq b _ _=>by rw [AN.1 hp,AN.1 hq]) (Imm.le_refl I) p1.imm (λb o h=>.inl h)
       (λ_ p hp=>by rw [AN.1 hp];exact ⟨[],bs,rfl,z2⟩)
      have hsame:∀i bb,Az ([(id',some (.hp A')),(id,none),(j,none)]++st1) i bb->Az (OH [(id',Xn [] bs,Blk.hp A')]++(C2 [id,j]++(id,some (.hp { P:=λ_ _ w' bs'=>w'=w.setRow b (cur.toList.take off++(a.eval x).cells.toList++cur.toList.drop (off+ds.length)).toArray/\bs'=b1\/True,mono:=λ_ h=>h,loc:=λ_ _=>.inr trivial }))::st1)) i bb:=by
       intro i bb hlb;rcases AB.1 hlb with ⟨h1,h2⟩ | ⟨h1,h2⟩
       ·exact AB.2 (.inl ⟨h1,h2⟩)
       ·obtain ⟨h3,h4⟩:=BV.1 h2;obtain ⟨h5,h6⟩:=BV.1 h4;exact AB.2 (.inr ⟨h1,BV.2 ⟨h3,BV.2 ⟨h5,AB.2 (.inr ⟨h3,h6⟩)⟩⟩⟩)
      obtain ⟨y1,y2⟩:=q2.retell (st1:=[(id',some (.hp A')),(id,none),(j,none)]++st1) λi bb hlb=>⟨bb,hsame i bb hlb,λ_ h=>h⟩
      exact ⟨I,_,y1,.undef _,q1,(p2.trans q3).trans y2⟩
     ·cases h
    ·cases h
   ·cases h
  ·cases h
 ·cases h
def rO (l:Str):Value:=.string ⟨l.toArray⟩
inductive An where
 | mk (s:Bool) (o n:Int) (x:Str) (v:Value) (ks:List An) (u:Value) (ps:List An)
 | im (s:Bool) (cs:List Value) (c:List V)
mutual
def vA:An->List V
 | .mk s o n x _ ks _ ps=>match s with
  | true=>[.int .i64 o,.int .i64 n,.str x,.sl (wP ks),.sl (wP ps)]
  | false=>[.int .i64 o,.int .i64 n,.str x,.sl (wP ks)]
 | .im _ _ c=>c
def wP:List An->List (List V)
 | []=>[]
 | a::r=>vA a::wP r
end
theorem jX:∀l:List An,wP l=l.map vA
 | []=>rfl
 | a::r=>by simp [wP,jX r]
@[simp] theorem vAs_length (l:List An):(wP l).length=l.length:=by rw [jX];simp
mutual
def zU:An->Prop
 | .mk _ _ _ _ _ ks _ ps=>aB ks/\aB ps
 | .im _ _ _=>False
def aB:List An->Prop
 | []=>True
 | a::r=>zU a/\aB r
end
def F0:Value->Nat
 | .slice (some a) _ _=>a.block
 | _=>0
def Hs (v:Value):Nat->List Nat
 | 0=>[]
 | _+1=>[F0 v]
def Wg (w:World) (ty:TypeId) (sz:Nat) (v:Value) (len:Nat):Prop :=
 (len=0/\(∃a c,v = .slice a 0 c)/\∀I,RepV I v (.sl [])) \/
 (0<len/\∃b cap cur,v = .slice (some ⟨b,0,none⟩) len cap/\w.heap[b]?=some (.cells cur ty (0,0))/\len<=cap/\cap<=maxLen/\cur.size=cap*sz)
def uQ (w:World) (b off:Nat) (cs:List Value):Prop:=∃cur ty k,w.heap[b]?=some (.cells cur ty k)/\∀(j:Nat) (c:Value),cs[j]?=some c->cur[off+j]?=some c
theorem Wf {ty:TypeId} {len:Nat} (h:∀k∈Hs v len,w'.heap[k]?=w.heap[k]?) (hr:Wg w ty sz v len):Wg w' ty sz v len:=by
 rcases hr with hr | ⟨h0,b,cap,cur,rfl,h1,h2⟩
 ·exact .inl hr
 ·refine .inr ⟨h0,b,cap,cur,rfl,(h b ?_).trans h1,h2⟩;cases len with
  | zero=>omega
  | succ n=>simp [Hs,F0]
theorem uO (h:w'.heap[b]?=w.heap[b]?) (ha:uQ w b off cs):uQ w' b off cs:=by
 obtain ⟨cur,ty,k,h1,h2⟩:=ha;exact ⟨cur,ty,k,h.trans h1,h2⟩
theorem We {ty:TypeId} {len:Nat} (h:Wg w ty sz v len):v.oneCell'=true:=by
 rcases h with ⟨_,⟨a,c,rfl⟩,_⟩ | ⟨_,b,cap,cur,rfl,_⟩ <;> rfl
theorem RepV.encStr (I:Imm) (l:List UInt8):RepV I (rO l) (.str l):=.str _ _ (by simp)
theorem ND {cur:Array Value} {ty:TypeId} {k:Nat×Nat} (h:w.heap[b]?=some (.cells cur ty k)) :
  (w.setRow b (cur.toList.take off++cs++cur.toList.drop (off+cs.length)).toArray).heap[b]?=some (.cells (cur.toList.take off++cs++cur.toList.drop (off+cs.length)).toArray ty k):=setRow_heap w b cur _ ty k h
theorem Qo {cur:List Value} (hf:off+cs.length<=cur.length) (i:Nat) :
  (cur.take off++cs++cur.drop (off+cs.length))[i]?=if i<off then cur[i]? else if i<off+cs.length then cs[i-off]? else cur[i]?:=by
 rw [Cl,LO,FA,WD (by omega)];by_cases h:i<off
 ·rw [if_pos h,if_pos h,Dl,if_pos h]
 ·rw [if_neg h,if_neg h,LO];by_cases h2:i<off+cs.length
  ·rw [if_pos h2,if_pos (by omega)]
  ·rw [if_neg h2,if_neg (by omega),ES];congr 1;omega
theorem uP {cur:Array Value} {ty:TypeId} {k:Nat×Nat} (h:w.heap[b]?=some (.cells cur ty k)) (hf:off+cs.length<=cur.size) :
  uQ (w.setRow b (cur.toList.take off++cs++cur.toList.drop (off+cs.length)).toArray) b off cs:=by
 refine ⟨_,ty,k,ND h,λj c hj=>?_⟩;have hlt:=(AO.1 hj).1;have:=Qo (cur:=cur.toList) (off:=off) (cs:=cs) (by simpa using hf) (off+j);rw [if_neg (by omega),if_pos (by omega),nB,hj] at this;simpa using this
theorem qA {off1:Nat} {cur:Array Value} {ty:TypeId} {k:Nat×Nat} {cs1:List Value} (h:w.heap[b]?=some (.cells cur ty k)) (hf:off+cs.length<=cur.size) (ha:uQ w b off1 cs1) (hd:off1+cs1.length<=off\/off+cs.length<=off1) :
  uQ (w.setRow b (cur.toList.take off++cs++cur.toList.drop (off+cs.length)).toArray) b off1 cs1:=by
 obtain ⟨cur',ty',k',h1,h2⟩:=ha;rw [h] at h1;cases h1;refine ⟨_,ty,k,ND h,λj c hj=>?_⟩;have hlt:=(AO.1 hj).1;have h3:=h2 j c hj;have:=Qo (cur:=cur.toList) (off:=off) (cs:=cs) (by simpa using hf) (off1+j);rcases hd with hd | hd
 ·rw [if_pos (by omega)] at this;simpa [h3] using this
 ·rw [if_neg (by omega),if_neg (by omega)] at this;simpa [h3] using this
theorem RepV.strEq {l:List UInt8} (h:RepV I v (.str l)):v=rO l:=by
 cases h with
 | str s _ hs =>
  subst hs;obtain ⟨⟨l⟩⟩:=s;rfl
theorem Js (id:Nat) (B:α->Asn) (hl:lk st id=some (some (.hp A))) (hA:∀vs I w bs,A.P vs I w bs->∃x,(B x).P vs I w bs) (h:∀x,DGo P n F Q todo env ((id,some (.hp (B x)))::st) ids):DGo P n F Q todo env st ids:=by
 refine EJ λI μ a w hc=>?_;obtain ⟨g,hg,vs,bs,rfl,hP⟩:=hc.blk id _ hl;obtain ⟨x,hx⟩:=hA vs I w bs hP;have hlive:∀i b,Az ((id,some (.hp (B x)))::st) i b->(i=id/\b = .hp (B x))\/(i≠id/\Az st i b):=λi b hl=>by
  rcases AB.1 hl with ⟨rfl,rfl⟩ | h
  ·exact .inl ⟨rfl,rfl⟩
  ·exact .inr h
 have hold:∀i b,Az ((id,some (.hp (B x)))::st) i b->∃b0,Az st i b0:=λi b hl=>by
  rcases hlive i b hl with ⟨rfl,_⟩ | ⟨_,h⟩
  ·exact ⟨_,‹lk st i=_›⟩
  ·exact ⟨_,h⟩
 refine ⟨I,μ,env,_,ids,{ imm:=hc.imm,blk:=λi b hlb=>?_,apart:=λi b g k hlb hg' hk=>?_,inj:=λi j bi bj gi gj k hi hj=>?_,nodup:=hc.nodup,idsFree:=hc.idsFree },λt d hd=>hc.env t d hd,?_,Pin.refl _ _,h x⟩
 ·rcases hlive i b hlb with ⟨rfl,rfl⟩ | ⟨_,h⟩
  ·exact ⟨_,hg,vs,bs,rfl,hx⟩
  ·exact hc.blk i b h
 ·obtain ⟨b0,h0⟩:=hold i b hlb;exact hc.apart i b0 g k h0 hg' hk
 ·obtain ⟨b0,h0⟩:=hold i bi hi;obtain ⟨b1,h1⟩:=hold j bj hj;exact hc.inj i j b0 b1 gi gj k h0 h1
 ·exact { imm:=Imm.le_refl I,os:=rfl,tape:=rfl,output:=rfl,size:=BL _,block:=λ_ _ _=>rfl,old:=λ_ _ _=>rfl
          fresh:=λb _ ⟨i,bi,g,h1,h2⟩=>let ⟨b0,q⟩:=hold i bi h1;⟨i,b0,g,q,h2⟩ }
mutual
theorem Qb:∀(t:Ty) (l:Int),(B9 t:Int)<=l->0<=Ci t l
 | .mk _ _ _ ps,l,h=>by
  simp only [B9] at h;simp only [Ci];rw [if_neg (by omega)];exact Oz ps (l-1) (by omega)
theorem Oz:∀(ts:List Ty) (l:Int),(A1 ts:Int)<=l->0<=Cj ts l
 | [],l,h=>by simpa [Cj,A1] using h
 | t::r,l,h=>by
  simp only [A1] at h;simp only [Cj];rw [if_pos (by omega)];have h1:=Qb t l (by omega);have h2:=Fa t l h1;exact Oz r _ (by omega)
end
theorem SD (t:Ty) (l:Nat):decide (0<=Ci t l)=decide (B9 t<=l):=by
 by_cases h:B9 t<=l
 ·rw [decide_eq_true h,decide_eq_true (Qb t l (by omega))]
 ·rw [decide_eq_false h];refine decide_eq_false λh1=>h ?_;have:=Fa t l h1;omega
theorem dZ (t:Ty):AV true t=kD t:=by
 simp only [AV,kD];rw [<- SD t 12];rfl
theorem Xy:∀(vs pre post:List Value),post.length=vs.length->(∀v∈vs,v.oneCell'=true) ->
  Instr.fill (λi=>some (i*1,1)) (pre++post).toArray (vs.zipIdx pre.length |>.map λp=>(p.2,p.1))=some (pre++vs).toArray
 | [],pre,post,h,_=>by
  have:post=[]:=Ll h;subst this;rfl
 | v::r,pre,post,h,h1=>by
  cases post with
  | nil=>simp at h
  | cons p q =>
   have hc:=Hj (h1 v (by simp));simp only [mV,Cv,Instr.fill,hc];rw [if_neg (by simp)];have ih:=Xy r (pre++[v]) q (by simpa using h) (λu hu=>h1 u (by simp [hu]));simp only [AZ,Cq,B5,Cl,D0,G5] at ih;rw [<- ih];congr 1;simp [Nat.mul_one]
def JN (env:Env):Nat->List (Nat×Operand)->Option (List D)
 | _,[]=>some []
 | i,(j,x)::r=>match Nat.beq i j,DN env x,JN env (i+1) r with
  | true,some d,some ds=>match d.one with
   | true=>some (d::ds)
   | false=>none
  | _,_,_=>none
structure PBa where
 ds:List D
 dst:Option Nat
 todo:List DI
theorem OE {a:Act}:∀{ps:List (Nat×Operand)} {i:Nat} {ds:List D},JN env i ps=some ds->(∀x∈ps.map (·.2),∀d,DN env x=some d->RepD I μ (a.eval x) d) ->
  ps.map (λp=>(p.1,a.eval p.2))=((ps.map λp=>a.eval p.2).zipIdx i).map (λp=>(p.2,p.1))/\RepL I μ (ps.map λp=>a.eval p.2) ds/\∀v∈ps.map (λp=>a.eval p.2),v.oneCell'=true
 | [],i,ds,h,_=>by
  simp only [JN,Cf] at h;subst h;exact ⟨rfl,⟨rfl,λi v d h=>by simp at h⟩,λv h=>by simp at h⟩
 | (j,x)::r,i,ds,h,hx=>by
  simp only [JN] at h
  split at h
  ·rename_i d ds' hj hd hr
   split at h
   ·rename_i h1;cases h;have hj:=C7 hj;subst hj;have hv:=hx x (by simp) d hd;obtain ⟨q1,q2,q3⟩:=OE (a:=a) hr (λy hy=>hx y (by simp at hy ⊢;exact .inr hy));refine ⟨by simp [q1],⟨by simp [q2.1],λk v d' h1 h2=>?_⟩,λv hv'=>?_⟩
    ·cases k with
     | zero=>simp at h1 h2;rw [<- h1,<- h2];exact hv
     | succ k=>exact q2.2 k v d' (by simpa using h1) (by simpa using h2)
    ·simp only [Cv,CA] at hv';rcases hv' with rfl | hv'
     ·exact hv.one h1
     ·exact q3 v hv'
   ·cases h
  ·cases h
structure Upd (w w':World) (b off sz:Nat):Prop where
 other:∀k,k≠b->w'.heap[k]?=w.heap[k]?
 same:∀cur ty k,w.heap[b]?=some (.cells cur ty k)->∃cur',w'.heap[b]?=some (.cells cur' ty k)/\cur'.size=cur.size/\∀i,(i<off\/off+sz<=i)->cur'[i]?=cur[i]?
theorem Upd.row (h:Upd w w' b off sz) {ty:TypeId} {s:Nat} {len:Nat} (hr:Wg w ty s v len):Wg w' ty s v len:=by
 rcases hr with hr | ⟨h0,b',cap,cur,rfl,h1,h2,h3,h4⟩
 ·exact .inl hr
 ·by_cases e:b'=b
  ·subst e;obtain ⟨cur',q1,q2,_⟩:=h.same cur ty (0,0) h1;exact .inr ⟨h0,b',cap,cur',rfl,q1,h2,h3,by rw [q2,h4]⟩
  ·exact .inr ⟨h0,b',cap,cur,rfl,(h.other b' e).trans h1,h2,h3,h4⟩
theorem Upd.at (h:Upd w w' b off sz) {b1 off1:Nat} (ha:uQ w b1 off1 cs) (hd:b1=b->off1+cs.length<=off\/off+sz<=off1):uQ w' b1 off1 cs:=by
 obtain ⟨cur,ty,k,h1,h2⟩:=ha;by_cases e:b1=b
 ·subst e;obtain ⟨cur',q1,q2,q3⟩:=h.same cur ty k h1;refine ⟨cur',ty,k,q1,λj c hj=>?_⟩;have hlt:=(AO.1 hj).1;rw [q3 (off1+j) (by rcases hd rfl with h | h <;> omega)];exact h2 j c hj
 ·exact ⟨cur,ty,k,(h.other b1 e).trans h1,h2⟩
def wK (l:List Int):List (List V):=l.map λx=>[.int .i64 x]
@[simp] theorem dInts_length (l:List Int):(wK l).length=l.length:=by simp [wK]
def zTm:Tm:=.mk 0 0 [] [] []
mutual
def J8:Ty->Ty->Bool
 | .mk s n x ps,.mk s' n' x' ps'=>s == s'&&n == n'&&x == x'&&FL ps ps'
def FL:List Ty->List Ty->Bool
 | [],[]=>true
 | a::r,b::q=>J8 a b&&FL r q
 | _,_=>false
end
mutual
theorem Rv:∀a b:Ty,J8 a b=true↔a=b
 | .mk s n x ps,.mk s' n' x' ps'=>by
  simp only [J8,A2,beq_iff_eq,Ty.mk.injEq,Oi ps ps',and_assoc]
theorem Oi:∀a b:List Ty,FL a b=true↔a=b
 | [],[]=>by simp [FL]
 | a::r,b::q=>by simp only [FL,A2,Rv a b,Oi r q,E2]
 | [],_::_=>by simp [FL]
 | _::_,[]=>by simp [FL]
end
theorem TU {a b:List Ty} (h:a.length≠b.length):FL a b=false:=by
 cases he:FL a b with
 | false=>rfl
 | true=>exact absurd (congrArg List.length ((Oi a b).1 he)) h
def SW:V->Bool
 | .bool _ | .int .. | .str _=>true
 | _=>false
def U1:List V->Bool
 | []=>true
 | x::r=>SW x&&U1 r
theorem eW {x:V} (h:SW x=true) (hr:RepV J v x):RepV I v x:=by
 cases hr <;> first | (simp [SW] at h;done) | constructor <;> assumption
theorem HX (t j:Nat) (hsz:0<sz) (ht:lk env t=some .nils) (h:DGo P n F Q todo ((t,.own j 0)::env) ((j,some (.row e sz []))::st) ids'):DGo P n F Q todo env st (j::ids'):=by
 refine EJ λI μ a w hc=>?_;have hv:a.tmps.getD t undef = .slice none 0 0:=by
  have:=hc.env t _ ht;generalize a.tmps.getD t undef=v at this;cases this with
  | nils=>rfl
 obtain ⟨q1,q2,q3⟩:=StRep.relay (R:=[]) (new:=[(j,.slice none 0 0,.row e sz [])]) (ids':=ids') hc.toStRep
  (λp hp b hb=>by rw [AN.1 hp] at hb;exact hb.elim)
  (λp hp q hq b _ _=>by rw [AN.1 hp,AN.1 hq]) (Imm.le_refl I) hc.imm (λb o h=>.inl h)
  (λ_ p hp=>by
   rw [AN.1 hp];exact ⟨[],World.ownsRow_nil w _ e sz,⟨rfl,λi v x h _=>by simp at h⟩,λ_ h=>by simp at h,λ_ h=>by simp at h,hsz⟩)
 refine ⟨I,_,_,_,ids',q2,λt' d hd=>?_,q3,.of_le q1,h⟩;by_cases e:t=t'
 ·subst e;rw [Ay] at hd;cases hd;rw [hv];exact .own j 0 none 0 (by simp [Ef,lk])
 ·rw [A6 _ _ e] at hd;exact (hc.env t' d hd).mono (Imm.le_refl I) q1
theorem nM {g:Value} (h:BlkRep I μ w g (.row e sz es)) (hle:I.le J) (hb:∀b,En g b->J b=w.heap[b]?):RepV J g (.sl es):=by
 obtain ⟨xs,hown,hrep,hsz,hone,hp⟩:=h;rcases hown.2 with ⟨rfl,h0⟩ | ⟨gb,cap,cur,rfl,_,hheap,hle2,hcm,hcs,htake⟩
 ·have:es=[]:=Ll h0;subst this;exact .slnil
 ·have hJg:J gb=some (.cells cur e (0,0)):=(hb gb rfl).trans hheap;have hcell:∀(i:Nat) (c:List V) (j:Nat) (x:V),es[i]?=some c->c[j]?=some x->∃v,xs[i*sz+j]?=some v/\cur[i*sz+j]?=some v/\RepV I v x/\v.oneCell'=true:=by
   intro i c j x hi hj;have h1:=C4 hsz i c j x hi hj;have hlt:i*sz+j<xs.length:=by rw [hrep.1];exact (AO.1 h1).1
   obtain ⟨v,hv⟩:∃v,xs[i*sz+j]?=some v:=⟨_,Bw hlt⟩
   have hr:=hrep.2 _ _ _ hv h1;refine ⟨v,hv,?_,hr,?_⟩
   ·rw [<- htake,Dl] at hv
    split at hv
    ·simpa using hv
    ·cases hv
   ·have:=hone c (AK hi) x (AK hj);exact hr.one this
  refine .sl gb 0 _ cap sz es (λi j=>(cur[i*sz+j]?).getD undef) rfl hle2 hcm hsz (λi c j x hi hj=>?_) (λi c j x hi hj=>?_)
  ·obtain ⟨v,_,h2,_,h4⟩:=hcell i c j x hi hj;simp [Imm.cell,hJg,h2,h4]
  ·obtain ⟨v,_,h2,h3,_⟩:=hcell i c j x hi hj;simp only [h2,MB];exact h3.mono hle
def Yd (w:World):Imm:=λb=>w.heap[b]?
def M9 (k:D->Option V):List D->Option (List V)
 | []=>some []
 | d::r=>match k d,M9 k r with
  | some x,some xs=>some (x::xs)
  | _,_=>none
def Np (k:D->List Nat):List D->List Nat
 | []=>[]
 | d::r=>k d++Np k r
def FT (st:St):Nat->D->Option V
 | 0,_=>none
 | f+1,d=>match d with
  | .imm x=>some x
  | .nils=>some (.sl [])
  | .ip t cs off=>some (.ip t cs off)
  | .clip es=>some (.sl es)
  | .own id _=>match lk st id with
   | some (some (.row _ _ es))=>some (.sl es)
   | _=>none
  | .mapr id=>match lk st id with
   | some (some (.map kv))=>some (.mapv kv)
   | _=>none
  | .ref id off=>match lk st id with
   | some (some (.immb t _ xs))=>some (.ip t xs off)
   | some (some (.cells t _ ds))=>match M9 (FT st f) ds with
    | some xs=>some (.ip t xs off)
    | none=>none
   | _=>none
  | .agg ds=>match M9 (FT st f) ds with
   | some xs=>some (.agg xs)
   | none=>none
  | .fn g a b=>match M9 (FT st f) a,M9 (FT st f) b with
   | some xs,some ys=>some (.clo g xs ys)
   | _,_=>none
  | _=>none
def FU (st:St):Nat->D->List Nat
 | 0,_=>[]
 | f+1,d=>match d with
  | .own id _=>[id]
  | .mapr id=>[id]
  | .ref id _=>match lk st id with
   | some (some (.cells _ _ ds))=>id::Np (FU st f) ds
   | _=>[id]
  | .agg ds=>Np (FU st f) ds
  | .fn _ a b=>Np (FU st f) a++Np (FU st f) b
  | _=>[]
structure qN where
 f:FuncId
 vs:List V
 rd:List Nat
 g:Option (Bool×Bool)
 ob:List Prop
 dst:Option Nat
 todo:List DI
def YH (n:Nat) (st:St) (all:List Oper) (o:Oper) (env:Env) (todo:List DI) (f:FuncId) (a b:List D) (args:List Operand):Option qN :=
 match Co all env o with
 | some g=>match Ik (Ap g) env args with
  | some (ds,ob)=>match M9 (FT st 6) (a++ds++b),BK n o.dst with
   | some vs,true=>match Bt todo (Np (FU st 6) (a++ds++b),[]) with
    | some (_,_,todo')=>match o.dst with
     | some t=>some ⟨f,vs,Np (FU st 6) (a++ds++b),g,ob,some t,todo'⟩
     | none=>some ⟨f,vs,Np (FU st 6) (a++ds++b),g,ob,none,todo'⟩
    | none=>none
   | _,_=>none
  | none=>none
 | none=>none
def lN (n:Nat) (env:Env) (st:St) (todo:List DI):Option qN :=
 match Bt todo ([],[]) with
 | some (all,o,_)=>match o.op with
  | .call { callee:=.value (.func f),args:=⟨args⟩,.. }=>YH n st all o env todo f [] [] args
  | .call { callee:=.value (.tmp t),args:=⟨args⟩,.. }=>match lk env t with
   | some (.imm (.fn (.func f)))=>YH n st all o env todo f [] [] args
   | some (.imm (.clo (.func f) a b))=>YH n st all o env todo f (a.map .imm) (b.map .imm) args
   | some (.fn (.func f) a b)=>YH n st all o env todo f a b args
   | _=>none
  | _=>none
 | none=>none
def bQ:V->Bool
 | .tup xs=>U1 xs
 | x=>SW x
theorem eV {x:V} (h:bQ x=true) (hr:RepV J v x):RepV I v x:=by
 cases hr with
 | tup cs xs hl hh =>
  refine .tup cs xs hl λi c x hc hx=>?_;have hm:∀{xs:List V} {i:Nat} {x:V},U1 xs=true->xs[i]?=some x->SW x=true:=by
   intro xs
   induction xs with
   | nil=>intro i x _ h;simp at h
   | cons y r ih =>
    intro i x hs h;simp only [U1,A2] at hs;cases i with
    | zero=>simp at h;subst h;exact hs.1
    | succ i=>exact ih hs.2 (by simpa using h)
  exact eW (hm h hx) (hh i c x hc hx)
 | bool b=>exact .bool b
 | int k n=>exact .int k n
 | str s l hs=>exact .str s l hs
 | _=>simp [bQ,SW] at h
theorem I3 {q:D->Option V} {μ:Mu} (hq:∀d x v,q d=some x->RepD I μ v d->RepV J v x):∀{vs:List Value} {ds:List D} {xs:List V},M9 q ds=some xs->RepL I μ vs ds->RepVL J vs xs
 | [],ds,xs,h,hr=>by
  cases ds with
  | nil=>cases h;exact .nil
  | cons d ds=>simp [RepL] at hr
 | v::vs,ds,xs,h,hr=>by
  cases ds with
  | nil=>simp [RepL] at hr
  | cons d ds =>
   obtain ⟨h1,h2⟩:=hr.cons;simp only [M9] at h
   split at h
   ·cases h;exact .mk (hq _ _ _ (by assumption) h1) (I3 hq (by assumption) h2)
   ·cases h
theorem SG (hst:StRep I μ st ids w):∀(f:Nat) (d:D) (x:V) (v:Value),FT st f d=some x->RepD I μ v d->RepV (Yd w) v x
 | 0,_,_,_,h,_=>by simp [FT] at h
 | f+1,d,x,v,h,hr=>by
  have hle:I.le (Yd w):=λb o h=>hst.imm b o h;have ih:=SG hst f;simp only [FT] at h
  split at h
  ·cases h;exact hr.immInv.mono hle
  ·cases h;cases hr;exact .slnil
  ·cases h;exact hr.ipV.mono hle
  ·cases h;cases hr with
   | clip a len es h=>exact h.mono hle
  ·split at h
   ·rename_i hl;cases h;cases hr with
    | own id len a cap hm =>
     obtain ⟨g,hg,hb⟩:=hst.blk _ _ hl;rw [hm] at hg;cases hg;exact nM hb hle λb _=>rfl
   ·cases h
  ·split at h
   ·rename_i hl;cases h;cases hr with
    | mapr id b hm =>
     obtain ⟨g,hg,b',es,clock,rfl,h1,h2,h3,h4⟩:=hst.blk _ _ hl;rw [hm] at hg;cases hg;exact .mapv b es clock _ h1 h2 h3 (λi e p q1 q2=>(h4 i e p q1 q2).1.mono hle) (λi e p q1 q2=>(h4 i e p q1 q2).2.mono hle)
   ·cases h
  ·have fin:∀{t:TypeId} {off:Nat} {vs:Array Value} {xs:List V} {gb:Nat},v = .pointer (some ⟨gb,off,none⟩)->w.heap[gb]?=some (.cells vs t (0,0))->RepVL (Yd w) vs.toList xs->(∀v∈vs.toList,v.oneCell'=true)->RepV (Yd w) v (.ip t xs off):=by
    intro t off vs xs gb hv hheap hrep hone;subst hv;have:=RepV.ip (I:=Yd w) gb 0 t xs off (λj=>(vs[j]?).getD undef) (λj x hx=>?_) (λj x hx=>?_)
    ·simpa using this
    ·have hj:j<vs.size:=by have:=hrep.1;have:=(AO.1 hx).1;simp at *;omega
     have:Yd w gb=some (.cells vs t (0,0)):=hheap;simp only [Imm.cell,this,Dw,P2 hj,MB,true_and];exact hone _ (by simp)
    ·have hj:j<vs.size:=by have:=hrep.1;have:=(AO.1 hx).1;simp at *;omega
     simp only [P2 hj,MB];exact hrep.2 j _ x (by simp [hj]) hx
   split at h
   ·rename_i hl;cases h;cases hr with
    | ref b id off hm =>
     obtain ⟨g,hg,hs,gb,vs,rfl,hheap,hrep,hone⟩:=hst.blk _ _ hl;rw [hm] at hg;cases hg;exact fin rfl hheap (hrep.mono hle) hone
   ·rename_i hl
    split at h
    ·rename_i xs hx;cases h;cases hr with
     | ref b id off hm =>
      obtain ⟨g,hg,hs,gb,vs,rfl,hheap,hrep,hone⟩:=hst.blk _ _ hl;rw [hm] at hg;cases hg;exact fin rfl hheap (I3 ih hx hrep) hone
    ·cases h
   ·cases h
  ·split at h
   ·rename_i xs hx;cases h;cases hr with
    | agg cs ds hl h1 hh =>
     have:=I3 (vs:=cs.toList) ih hx ⟨by simpa using hl,λi v d h1 h2=>hh i v d (by simpa using h1) h2⟩;exact .agg cs xs (by simpa using this.1) h1 λi c x h1 h2=>this.2 i c x (by simpa using h1) h2
   ·cases h
  ·split at h
   ·rename_i xs ys hx hy;cases h;cases hr with
    | fn _ first cap df dc hf hc h1 h2 =>
     have q1:=I3 (vs:=first.toList) ih hx ⟨by simpa using hf,λi v d e1 e2=>h1 i v d (by simpa using e1) e2⟩;have q2:=I3 (vs:=cap.toList) ih hy ⟨by simpa using hc,λi v d e1 e2=>h2 i v d (by simpa using e1) e2⟩;exact .clo _ first cap xs ys (by simpa using q1.1) (by simpa using q2.1) (λi c x h1 h2=>q1.2 i c x (by simpa using h1) h2) (λi c x h1 h2=>q2.2 i c x (by simpa using h1) h2)
   ·cases h
  ·cases h
theorem Agree.sub {r s:List Nat} (h:Agree r st st') (hs:∀i∈s,i∈r):Agree s st st':=λi hi=>h i (hs i hi)
theorem Gi {q q':D->Option V} {r:D->List Nat} (h:∀d,Agree (r d) st st'->q' d=q d):∀{ds:List D},Agree (Np r ds) st st'->M9 q' ds=M9 q ds
 | [],_=>rfl
 | d::l,ha=>by
  simp only [M9];rw [h d (ha.sub λi hi=>by simp [Np,hi]),Gi h (ha.sub λi hi=>by simp [Np,hi])]
theorem O1 {st st':St}:∀(f:Nat) (d:D),Agree (FU st f d) st st'->FT st' f d=FT st f d
 | 0,_,_=>rfl
 | f+1,d,h=>by
  have ih:=O1 (st:=st) (st':=st') f;cases d with
  | own id n =>
   simp only [FT];rw [h id (by simp [FU])]
  | mapr id =>
   simp only [FT];rw [h id (by simp [FU])]
  | ref id off =>
   have hid:lk st' id=lk st id:=h id (by simp only [FU];split <;> simp);simp only [FT];rw [hid]
   split
   ·rfl
   ·rename_i ds hl;rw [Gi ih (h.sub λi hi=>by simp only [FU,hl];simp [hi])]
   ·rfl
  | agg ds =>
   simp only [FT];rw [Gi ih (h.sub λi hi=>by simp only [FU];exact hi)]
  | fn g a b =>
   simp only [FT];rw [Gi ih (h.sub λi hi=>by simp only [FU];simp [hi]),Gi ih (h.sub λi hi=>by simp only [FU];simp [hi])]
  | _=>rfl
theorem tA {all:List Oper} {v:V} {m:Nat} (hg:Co all env o=some g) (hc:EN P o env f das (Ap g)) (hv:M9 (FT st m) das=some vs) (hs:bQ v=true) (hE:Ap g->GL P f vs v):LD P Pn all o env st (Np (FU st m) das) [] [] (gD g (.imm v)):=by
 refine D1 hg λI μ st1 ids1 a w hag hst hops hcx=>?_;obtain ⟨xs,h1,h2⟩:=hc I μ a w hops hcx;rw [h2];have hv1:M9 (FT st1 m) das=some vs:=by rw [Gi (O1 m) hag,hv]
 have hx:=I3 (SG hst m) hv1 h1;have hst0:StRep (Yd w) μ [] [] w:={ imm:=λb o h=>h,blk:=λi b h=>by simp [Az,lk] at h,apart:=λi b g k h=>by simp [Az,lk] at h,inj:=λi j bi bj gi gj k h=>by simp [Az,lk] at h,nodup:=.nil,idsFree:=λi h=>by cases h }
 have hno:∀b,¬Bu μ [] b:=λb ⟨i,bi,g,h,_⟩=>by simp [Az,lk] at h
 refine (hE hcx (Yd w) μ w xs hst0 hx.imm).mono (λu w' hu=>?_) (λ_ _ h=>h.elim);obtain ⟨I',μ',r1,r2,r3,r4⟩:=hu;have hlt:∀b o,I b=some o->b<w.heap.size:=λb o h=>by
  have:=hst.imm b o h;exact (GH.1 this).1
 refine ⟨I,μ,hst.other r4.size (λb o h=>r4.block b (hlt b o h) (hno b)) (λb ho=>r4.block b (Ed hst ho) (hno b)),?_,Mu.le_refl μ,{ imm:=Imm.le_refl I,os:=r4.os,tape:=r4.tape,output:=r4.output,size:=r4.size,block:=λb hb _=>r4.block b hb (hno b),fresh:=λ_ _ h=>h,old:=λ_ _ _=>rfl }⟩;exact .imm _ _ (eV hs r1.immInv)
theorem Ph {t:Nat} {args:List Operand} {df dc:List V} (ho:o.op = .call { callee:=.value (.tmp t),args:=⟨args⟩,argTypes:=ts }) (ht:lk env t=some (.imm (.clo (.func f) df dc))) (ha:Ik cx env args=some (ds,ob)) (hob:AG ob):EN P o env f (df.map .imm++ds++dc.map .imm) cx:=by
 intro I μ a w hop hc;rw [ho] at hop;have hd:=G8 (I:=I) (μ:=μ) (a:=a) hc ha hob λx hx=>hop x (by simp [Op.operands,Call.operands,hx]);have hf:=(hop (.tmp t) (by simp [Op.operands,Call.operands]) _ ht).immInv;generalize hv:a.eval (.tmp t)=v at hf;cases hf with
 | clo _ first cap _ _ h1 h2 h3 h4 =>
  refine ⟨first++(args.map a.eval).toArray++cap,?_,?_⟩
  ·simp only [JW];have q1:RepVL I first.toList df:=⟨by simpa using h1,λi v d hv hd=>h3 i v d (by simpa using hv) hd⟩
   have q2:RepVL I cap.toList dc:=⟨by simpa using h2,λi v d hv hd=>h4 i v d (by simpa using hv) hd⟩
   exact RepL.append (RepL.append q1.imm hd) q2.imm
  ·simp only [execOp,ho,resolve,hv,Deferred.ofValue,Sem.run_bind,Sem.run_pure,Result.andThen_ok,invoke];congr 3;simp
theorem lO {all:List Oper} {a b:List D} {args:List Operand} {c:qN} (h:YH n st all o env todo f a b args=some c) :
  ∃g ds ob vs todo',Co all env o=some g/\Ik (Ap g) env args=some (ds,ob)/\M9 (FT st 6) (a++ds++b)=some vs/\BK n o.dst=true/\(∃p q,Bt todo (Np (FU st 6) (a++ds++b),[])=some (p,q,todo'))/\c=⟨f,vs,Np (FU st 6) (a++ds++b),g,ob,o.dst,todo'⟩:=by
 unfold YH at h
 split at h
 ·rename_i g hg
  split at h
  ·rename_i ds ob ha
   split at h
   ·rename_i vs hv hd
    split at h
    ·rename_i p q todo' hn
     split at h
     ·rename_i t hdst;cases h;exact ⟨g,ds,ob,vs,todo',hg,ha,hv,hd,⟨p,q,hn⟩,by rw [hdst]⟩
     ·rename_i hdst;cases h;exact ⟨g,ds,ob,vs,todo',hg,ha,hv,hd,⟨p,q,hn⟩,by rw [hdst]⟩
    ·cases h
   ·cases h
  ·cases h
 ·cases h
theorem Jo {rd:List Nat} {v:V} (h:lN n env st todo=some ⟨f,vs,rd,g,ob,dst,todo'⟩) (hE:Ap g->GL P f vs v) (hs:bQ v=true) (hob:AG ob) (hk:G P n F Q todo' (BN dst (gD g (.imm v)) env) st ids):G P n F Q todo env st ids:=by
 have fin:∀{all:List Oper} {o:Oper} {f':FuncId} {a b:List D} {args:List Operand} {t:List DI},Bt todo ([],[])=some (all,o,t)->YH n st all o env todo f' a b args=some ⟨f,vs,rd,g,ob,dst,todo'⟩->(∀c,o.op ≠ .defer c) ->
   (∀{ds:List D} {cx:Prop} {ob:List Prop},Ik cx env args=some (ds,ob)->AG ob->EN P o env f' (a++ds++b) cx)->G P n F Q todo env st ids:=by
  intro all o f' a b args t hn1 hp hnd hcalls;obtain ⟨g',ds,ob',vs',todo2,q1,q2,q3,q4,⟨p,q,q5⟩,q6⟩:=lO hp;obtain ⟨e1,e2⟩:=Jc hn1 q5;subst e1;subst e2;cases q6;exact BG (fr:=[]) (wr:=[]) q5 (tA q1 (hcalls q2 hob) q3 hs hE) q4 hnd hk
 unfold lN at h
 split at h
 ·rename_i all o t hn1;have hnd:∀cc,o.op = .call cc->∀c,o.op ≠ .defer c:=λcc h c h'=>by rw [h] at h';cases h'
  split at h
  ·rename_i f' args ts ho;exact fin hn1 h (hnd _ ho) λha hob=>by simpa using FO ho ha hob
  ·rename_i t' args ts ho
   split at h
   ·rename_i f' ht;exact fin hn1 h (hnd _ ho) λha hob=>by simpa using Fo ho ht ha hob
   ·rename_i f' a b ht;exact fin hn1 h (hnd _ ho) λha hob=>Ph ho ht ha hob
   ·rename_i f' a b ht;exact fin hn1 h (hnd _ ho) λha hob=>In ho ht ha hob
   ·cases h
  ·cases h
 ·cases h
mutual
def QA (id:Nat) (es:List (V×V)):D->D
 | .mapr i=>bif Nat.beq i id then .imm (.mapv es) else .mapr i
 | .agg cs=>HM (Si id es cs)
 | .tup cs=>.tup (Si id es cs)
 | .fn f a b=>.fn f (Si id es a) (Si id es b)
 | .iface t d=>match QA id es d with
  | .imm x=>.imm (.iface t x)
  | d'=>.iface t d'
 | .guard c w d=>.guard c w (QA id es d)
 | d=>d
def Si (id:Nat) (es:List (V×V)):List D->List D
 | []=>[]
 | d::r=>QA id es d::Si id es r
end
def fS (id:Nat) (es:List (V×V)):Env->Env
 | []=>[]
 | (t,d)::r=>(t,QA id es d)::fS id es r
def sV (id:Nat) (es:List (V×V)):Blk->Blk
 | .cells t sz cs=>OK t sz (Si id es cs)
 | b=>b
def Sg (id:Nat) (es:List (V×V)):St->St
 | []=>[]
 | (i,some b)::r=>(i,some (sV id es b))::Sg id es r
 | (i,none)::r=>(i,none)::Sg id es r
theorem GT (id:Nat) (es:List (V×V)):∀l:List D,Si id es l=l.map (QA id es)
 | []=>rfl
 | d::r=>by simp [Si,GT id es r]
section
variable {id:Nat} {es:List (V×V)} {g:Value}
theorem RepD.mfr (h:RepD I μ v d) (hIJ:I.le J) (hg:μ id=some g) (hr:RepV J g (.mapv es)):RepD J μ v (QA id es d):=by
 have at_:∀{l:List D} {i:Nat} {x:D},(Si id es l)[i]?=some x->∃y,l[i]?=some y/\x=QA id es y:=by
  intro l i x hx;rw [GT,Et] at hx;cases hl:l[i]? with
  | none=>rw [hl] at hx;cases hx
  | some y=>rw [hl] at hx;cases hx;exact ⟨y,rfl,rfl⟩
 induction h with
 | undef v=>exact .undef v
 | imm v x hx=>exact .imm v x (hx.mono hIJ)
 | nils=>exact .nils
 | ref b id off hm=>exact .ref b id off hm
 | ip b o t cs off vs hcell hrep=>exact (RepD.ip b o t cs off vs hcell hrep).mono hIJ (Mu.le_refl μ)
 | agg cs ds hl h1 _ ih =>
  have:RepD J μ (.agg cs.toList.toArray) (HM (Si id es ds)):=He ⟨by rw [GT,Dh,<- hl];simp,λi c x hc hx=>by
   obtain ⟨y,hy,rfl⟩:=at_ hx;exact ih i c y (by simpa using hc) hy⟩ h1
  simpa [QA] using this
 | tup cs ds hl _ ih =>
  refine .tup cs _ (by rw [GT,Dh,hl]) λi c x hc hx=>?_;obtain ⟨y,hy,rfl⟩:=at_ hx;exact ih i c y hc hy
 | own i len a cap hm=>exact .own i len a cap hm
 | elp b id len cap k sz f hm=>exact .elp b id len cap k sz f hm
 | mapr i b hm =>
  simp only [QA];cases hb:Nat.beq i id with
  | false=>exact .mapr i b hm
  | true =>
   rw [C7 hb,hg] at hm;cases hm;exact .imm _ _ hr
 | iter id b hm=>exact .iter id b hm
 | fn f first cap df dc hf hc _ _ ih1 ih2 =>
  refine .fn f first cap _ _ (by rw [GT,Dh,hf]) (by rw [GT,Dh,hc]) (λi c x h1 h2=>?_) (λi c x h1 h2=>?_)
  ·obtain ⟨y,hy,rfl⟩:=at_ h2;exact ih1 i c y h1 hy
  ·obtain ⟨y,hy,rfl⟩:=at_ h2;exact ih2 i c y h1 hy
 | iface t v d _ ih =>
  simp only [QA]
  split
  ·rename_i x hx;rw [hx] at ih;exact .imm _ _ (.iface t v x ih.immInv)
  ·exact .iface t v _ ih
 | guard c want v d _ hu ih=>exact .guard c want v _ ih hu
 | clip a len es hr=>exact .clip a len es (hr.mono hIJ)
 | slc b id off len cap hm hl hx=>exact .slc b id off len cap hm hl hx
 | yld b id hm=>exact .yld b id hm
 | raw v h=>exact .raw v h
 | hv v id i vs bs hm hi h1=>exact .hv v id i vs bs hm hi h1
theorem BlkRep.mfr {gb:Value} {blk:Blk} (h:BlkRep I μ w gb blk) (hIJ:I.le J) (hg:μ id=some g) (hr:RepV J g (.mapv es)):BlkRep J μ w gb (sV id es blk):=by
 cases blk with
 | cells t sz cs =>
  obtain ⟨hs,b,vs,rfl,h2,h3,h4⟩:=h;refine Hd h2 ⟨by rw [GT,Dh,h3.1],λi v x hv hx=>?_⟩ h4 (by rw [GT,Dh,hs]);rw [GT,Et] at hx;cases hl:cs[i]? with
  | none=>rw [hl] at hx;cases hx
  | some y=>rw [hl] at hx;cases hx;exact (h3.2 i v y hv hl).mfr hIJ hg hr
 | _=>exact h.mono hIJ (Mu.le_refl μ)
theorem NR {i:Nat} {b:Blk}:∀{st:St},Az (Sg id es st) i b->∃b0,Az st i b0/\b=sV id es b0
 | [],h=>by simp [Sg,Az,lk] at h
 | (k,some x)::r,h=>by
  simp only [Sg] at h;rcases AB.1 h with ⟨h1,h2⟩ | ⟨h1,h2⟩
  ·exact ⟨x,by unfold Az;rw [h1,Ay],h2⟩
  ·obtain ⟨b0,q1,q2⟩:=NR h2;exact ⟨b0,AB.2 (.inr ⟨h1,q1⟩),q2⟩
 | (k,none)::r,h=>by
  simp only [Sg] at h;obtain ⟨h1,h2⟩:=BV.1 h;obtain ⟨b0,q1,q2⟩:=NR h2;exact ⟨b0,BV.2 ⟨h1,q1⟩,q2⟩
theorem XC (id:Nat) (hl:lk st id=some (some (.map es))) (h:DGo P n F Q todo (fS id es env) ((id,none)::Sg id es st) ids):DGo P n F Q todo env st ids:=by
 intro b cs I μ a w items hd hc;have hlive:Az st id (.map es):=hl;obtain ⟨g,hg,gb,ms,clock,rfl,hheap,hsz,hstm,hent⟩:=hc.blk id _ hlive;have hno:=(hc.apart id _ _ gb hlive hg rfl).1;obtain ⟨J,hJ,hJr,hJo⟩:∃J:Imm,I.le J/\RepV J (.map (some gb)) (.mapv es)/\(∀k o,J k=some o->(I k=some o\/(En (.map (some gb)) k/\w.heap[k]?=some o))):=by
  have hle':I.le (λk=>if k=gb then some (.map ms clock) else I k):=λk o h=>by
   have:k≠gb:=λe=>by rw [e,hno] at h;cases h
   simp [this,h]
  refine ⟨_,hle',.mapv gb ms clock es (by simp) hsz hstm (λi e p h1 h2=>(hent i e p h1 h2).1.mono hle') (λi e p h1 h2=>(hent i e p h1 h2).2.mono hle'),λk o h=>?_⟩;by_cases hk:k=gb
  ·subst hk;simp at h;subst h;exact .inr ⟨rfl,hheap⟩
  ·simp [hk] at h;exact .inl h
 have hst:∀i bi,Az ((id,none)::Sg id es st) i bi->i≠id/\∃b0,Az st i b0/\bi=sV id es b0:=λi bi h=>by
  obtain ⟨h1,h2⟩:=BV.1 h;exact ⟨h1,NR h2⟩
 have hE:Ext I μ st w J μ ((id,none)::Sg id es st) w :=
  {imm:=hJ,os:=rfl,tape:=rfl,output:=rfl,size:=BL _
   block:=λ_ _ _=>rfl
   fresh:=λk _ ⟨i,bi,gi,h1,h2,h3⟩=>let ⟨_,b0,q,_⟩:=hst i bi h1;⟨i,b0,gi,q,h2,h3⟩
   old:=λk _ ho=>by
      cases hJk:J k with
      | none =>
       cases hIk:I k with
       | none=>rfl
       | some o=>rw [hJ k o hIk] at hJk;cases hJk
      | some o =>
       rcases hJo k o hJk with h | ⟨h,_⟩
       ·exact h.symm
       ·exact absurd ⟨id,_,_,hlive,hg,h⟩ ho }
 have hc':Conc n J μ (fS id es env) ((id,none)::Sg id es st) ids a w :=
  {imm:=λk o h=>(hJo k o h).elim (λh=>hc.imm k o h) λh=>h.2
   blk:=λi bi hli=>by
    obtain ⟨_,b0,h2,rfl⟩:=hst i bi hli;obtain ⟨gi,hgi,hr⟩:=hc.blk i b0 h2;exact ⟨gi,hgi,hr.mfr hJ hg hJr⟩
   apart:=λi bi gi k hli hgi hk=>by
    obtain ⟨h1,b0,h2,rfl⟩:=hst i bi hli;obtain ⟨q1,q2⟩:=hc.apart i b0 gi k h2 hgi hk;refine ⟨?_,q2⟩;cases hJk:J k with
    | none=>rfl
    | some o =>
     rcases hJo k o hJk with h | ⟨h,_⟩
     ·rw [q1] at h;cases h
     ·exact absurd (hc.inj i id b0 _ gi _ k h2 hlive hgi hg hk h) h1
   inj:=λi j bi bj gi gj k hi hj hgi hgj hki hkj=>by
    obtain ⟨_,b1,h1,rfl⟩:=hst i bi hi;obtain ⟨_,b2,h2,rfl⟩:=hst j bj hj;exact hc.inj i j b1 b2 gi gj k h1 h2 hgi hgj hki hkj
   nodup:=hc.nodup
   idsFree:=hc.idsFree
   size:=hc.size
   env:=λt d hlt=>by
    have:∀{env:Env},lk (fS id es env) t=some d->∃d0,lk env t=some d0/\d=QA id es d0:=by
     intro env
     induction env with
     | nil=>intro h;simp [fS,lk] at h
     | cons p r ih =>
      obtain ⟨s,x⟩:=p;intro h;simp only [fS] at h;by_cases hs:s=t
      ·subst hs;rw [Ay] at h;cases h;exact ⟨x,Ay _ _ _,rfl⟩
      ·rw [A6 _ _ hs] at h;rw [A6 _ _ hs];exact ih h
    obtain ⟨d0,h1,rfl⟩:=this hlt;exact (hc.env t d0 h1).mfr hJ hg hJr
   defers:=hc.defers.ext hE }
 exact (h b cs J μ a w items hd hc').mono λe' a' w' hp=>hp.back (.refl _ _)<|hE
def V0:List V->List D
 | []=>[]
 | .ip t cs off::r=>.ip t cs off::V0 r
 | x::r=>.imm x::V0 r
theorem cS:∀{xs:List Value} {vs:List V},RepL I μ xs (vs.map .imm)->RepL I μ xs (V0 vs)
 | [],[],h=>h
 | [],v::vs,h=>absurd h.1 (by simp)
 | x::xs,[],h=>absurd h.1 (by simp)
 | x::xs,v::vs,h=>by
  obtain ⟨h1,h2⟩:=(show RepL I μ (x::xs) (.imm v::vs.map .imm) from h).cons;have:=cS h2;cases v with
  | ip t cs off=>exact .mk h1.immInv.ipD this
  | _=>exact .mk h1 this
theorem Mw {v:V} (h:IR P f (V0 vs) [] (.ret (.imm v) [])):GL P f vs v:=λI μ w xs hst hx=>h I μ w xs hst (cS hx)
def lS (n:Nat) (env:Env) (todo:List DI):Option dX :=
 match Bt todo ([],[]) with
 | some (all,o,todo')=>match o.op,Co all env o with
  | .call { callee:=.value (.tmp t),args:=⟨args⟩,.. },some g=>match lk env t,Ik (Ap g) env args with
   | some (.imm (.clo (.func f) a b)),some (ds,ob)=>match L9 ds,BK n o.dst with
    | some vs,true=>match o.dst with
     | some t=>some ⟨f,a++vs++b,g,ob,some t,todo'⟩
     | none=>some ⟨f,a++vs++b,g,ob,none,todo'⟩
    | _,_=>none
   | _,_=>none
  | _,_=>none
 | none=>none
theorem Qi:∀l:List V,L9 (l.map .imm)=some l
 | []=>rfl
 | x::r=>by simp [L9,rF,Qi r]
theorem JF:∀{a b:List D} {xs ys:List V},L9 a=some xs->L9 b=some ys->L9 (a++b)=some (xs++ys)
 | [],b,xs,ys,h1,h2=>by cases h1;exact h2
 | d::r,b,xs,ys,h1,h2=>by
  simp only [L9] at h1
  split at h1
  ·rename_i x xs' hx hr;cases h1;simp [L9,hx,JF hr h2]
  ·cases h1
theorem PP {g:Option (Bool×Bool)} {v:V} (h:lS n env todo=some ⟨f,vs,g,ob,dst,todo'⟩) (hE:Ap g->GL P f vs v) (hob:AG ob) (hk:G P n F Q todo' (BN dst (gD g (.imm v)) env) st ids):G P n F Q todo env st ids:=by
 unfold lS at h
 split at h
 ·rename_i all o todo1 h1;have hnd:∀cc,o.op = .call cc->∀c,o.op ≠ .defer c:=λcc h c h'=>by rw [h] at h';cases h'
  split at h
  ·rename_i t args ts g' ho hg
   split at h
   ·rename_i f' a b ds ob' ht ha
    split at h
    ·rename_i vs' hv hd;have fin:f'=f/\a++vs'++b=vs/\g'=g/\ob'=ob/\o.dst=dst/\todo1=todo':=by
      split at h <;> (rename_i hdst;cases h;exact ⟨rfl,rfl,rfl,rfl,hdst,rfl⟩)
     obtain ⟨rfl,rfl,rfl,rfl,rfl,rfl⟩:=fin;exact BG (fr:=[]) (wr:=[]) h1 (PL hg (Ph ho ht ha hob) (JF (JF (Qi a) hv) (Qi b)) hE) hd (hnd _ ho) hk
    ·cases h
   ·cases h
  ·cases h
 ·cases h
end
def RU (P:Program) (n:Nat) (c:Code) (env:Env) (st:St) (ids:List Nat) (env':Env) (st':St) (ids':List Nat):Prop :=
 ∀(b:Frame) (cs:List Frame) (Q:Exit->Act->World->Prop) (I:Imm) (μ:Mu) (a:Act) (w:World) (tail:List Item),Conc n I μ env st ids a w ->
  (∀I' μ' a' w',Conc n I' μ' env' st' ids' a' w'->μ.le μ'->Ext I μ st w I' μ' st' w'->Reach P b cs Q tail a' w')->Reach P b cs Q (.code c::tail) a w
def Ov (P:Program) (n:Nat) (all rest:List Oper) (env:Env) (st:St) (ids:List Nat) (env':Env) (st':St) (ids':List Nat):Prop :=
 ∀(b:Frame) (cs:List Frame) (Q:Exit->Act->World->Prop) (I:Imm) (μ:Mu) (a:Act) (w:World) (tail:List Item) (j:Nat),rest=all.drop j->Conc n I μ env st ids a w ->
  (∀I' μ' a' w',Conc n I' μ' env' st' ids' a' w'->μ.le μ'->Ext I μ st w I' μ' st' w'->Reach P b cs Q tail a' w')->Reach P b cs Q (.inRegion all.toArray (List.range' j rest.length)::tail) a w
section
variable {env2:Env} {st2 stx:St} {ids2:List Nat} {c:Code} {all rest:List Oper}
theorem Mu.le_trans' {a b c:Mu} (h:a.le b) (k:b.le c):a.le c:=λi v hv=>k i v (h i v hv)
theorem bA {rid:Nat} (h:Ov P n all all env st ids env' st' ids'):RU P n (.region rid ⟨all⟩ false) env st ids env' st' ids':=λb cs Q I μ a w tail hc k=>by
 refine Mv ?_;have:=h b cs Q I μ a w tail 0 rfl hc k;simpa [vZ] using this
theorem sL:Ov P n all [] env st ids env st ids:=λb cs Q I μ a w tail j hj hc k=>GF (k I μ a w hc (Mu.le_refl μ) (Ext.refl _ _ _ _))
theorem xM {rd:List Nat} {wr:St} (hl:LD P (λ_=>False) all o env st rd fr wr d) (hg:o.guard=none) (hnd:∀c,o.op ≠ .defer c) (hn:∀t,o.dst=some t->t<n) (h:Ov P n all rest (BN o.dst d env) (wr++st) ids' env' st' ids2):Ov P n all (o::rest) env st (fr++ids') env' st' ids2:=by
 intro b cs Q I μ a w tail j hr hc k;obtain ⟨hj,hr'⟩:=DM hr;have hon:J6 (o.looksAt all.toArray) I μ env a:=λt _ d hl=>hc.env t d hl;have hlen:(o::rest).length=rest.length+1:=rfl;rw [hlen,OM];have hw:Region.wanted o (yielded all.toArray a.tmps)=true:=AL hg;obtain ⟨h1,_⟩:=hl I μ st ids' a w (λ_ _=>rfl) hc.toStRep hon;refine F8 hj hw hnd (valX.upon ((h1 hw).mono ?_ ?_))
 ·rintro v w2 ⟨I',μ',q1,q2,q4,q3⟩;obtain ⟨p1,p2,p3⟩:=HI (n:=n) (w:=w2) (dst:=o.dst) (λt d hl=>(hc.env t d hl).mono q3.imm q4) hc.size hn q2;exact h b cs Q I' μ' (a.put o.dst v) w2 tail (j+1) hr'
   {q1 with size:=p2,env:=by cases hdst:o.dst <;> simpa [BN,hdst] using p1,defers:=by rw [p3];exact hc.defers.ext q3 }
   λI2 μ2 a2 w3 hc2 hm2 he2=>k I2 μ2 a2 w3 hc2 (Mu.le_trans' q4 hm2) (q3.trans he2)
 ·rintro chain w2 ⟨v,x,I2,q1,q2,q3,q4,q5⟩;exact q2.elim
theorem vV (htt:TTok P tt) {x:Option Blk} {env1:Env} {ids1:List Nat} (h:F5 tt n all o env st ids = .e env1 ((i,x)::st1) ids1 ob) (hob:AG ob) (hg:o.guard=none) (hr:Ov P n all rest env1 ((i,x)::st) ids1 env' st' ids2) :
  Ov P n all (o::rest) env st ids env' st' ids2:=by
 obtain ⟨d,fr,e1,e2,e3,e4,e5,_,e7⟩:=Tw (P:=P) (Pn:=λ_=>False) htt h hob;subst e2;rw [e3] at hr;exact xM (wr:=[(i,x)]) e7 hg e5 e4 hr
theorem dT (htt:TTok P tt) {rid:Nat} {o1 o2:Oper} {x y:Option Blk} {st2':St} {env1 env2:Env} {ids1 ids2:List Nat} {ob1 ob2:List Prop} (h1:F5 tt n [o1,o2] o1 env st ids = .e env1 ((i,x)::st1) ids1 ob1) (g1:o1.guard=none) (h2:F5 tt n [o1,o2] o2 env1 ((i,x)::st) ids1 = .e env2 ((i,y)::st2') ids2 ob2) (g2:o2.guard=none) (hob1:AG ob1) (hob2:AG ob2):RU P n (.region rid ⟨[o1,o2]⟩ false) env st ids env2 ((i,y)::(i,x)::st) ids2 :=
 bA (vV htt h1 hob1 g1 (vV htt h2 hob2 g2 sL))
end
def Nf (kp:List Nat):St->St
 | []=>[]
 | (i,b)::r=>bif EX kp i then Nf kp r else (i,b)::Nf kp r
theorem WL {kp:List Nat} {s:St} {i:Nat}:∀{W:St},lk (Nf kp W++s) i=if i∈kp then lk s i else lk (W++s) i
 | []=>by simp [Nf]
 | (k,b)::r=>by
  have ih:=WL (kp:=kp) (s:=s) (i:=i) (W:=r);simp only [Nf];cases hm:EX kp k with
  | true =>
   simp only [cond_true,D0];rw [ih];by_cases hi:i∈kp
   ·rw [if_pos hi,if_pos hi]
   ·rw [if_neg hi,if_neg hi,A6 _ _ (λe:k=i=>hi (by rw [<- e];exact BR.1 hm))]
  | false =>
   simp only [cond_false,D0];by_cases hk:k=i
   ·subst hk;rw [Ay,if_neg (λh=>by rw [BR.2 h] at hm;cases hm),Ay]
   ·rw [A6 _ _ hk,A6 _ _ hk,ih]
def Va (W st:St) (l:List Nat):List Nat->Prop
 | []=>True
 | i::r=>(EX l i=true/\lk W i=lk st i)/\Va W st l r
theorem OX {W st:St} {l:List Nat}:∀{kp:List Nat},Va W st l kp->∀i∈kp,i∈l/\lk W i=lk st i
 | [],_,i,h=>by cases h
 | k::r,h,i,hi=>by
  rcases CA.1 hi with rfl | hi
  ·exact ⟨BR.1 h.1.1,h.1.2⟩
  ·exact OX h.2 i hi
structure qR where
 f:FuncId
 das:List D
 g:Option (Bool×Bool)
 ob:List Prop
 dst:Option Nat
 o:Oper
 all:List Oper
def oR (n:Nat) (env:Env) (todo:List DI):Option qR :=
 match Bt todo ([],[]) with
 | some (all,o,_)=>match Co all env o,o.op with
  | some g,.call { callee:=.value (.func f),args:=⟨args⟩,.. }=>match Ik (Ap g) env args,BK n o.dst with
   | some (ds,ob),true=>some ⟨f,ds,g,ob,o.dst,o,all⟩
   | _,_=>none
  | some g,.call { callee:=.value (.tmp t),args:=⟨args⟩,.. }=>match lk env t,Ik (Ap g) env args,BK n o.dst with
   | some (.imm (.fn (.func f))),some (ds,ob),true=>some ⟨f,ds,g,ob,o.dst,o,all⟩
   | some (.fn (.func f) df dc),some (ds,ob),true=>some ⟨f,df++ds++dc,g,ob,o.dst,o,all⟩
   | _,_,_=>none
  | _,_=>none
 | none=>none
theorem oQ {c:qR} (h:oR n env todo=some c) (hob:AG c.ob):(∀f,∃todo',Bt todo f=some (c.all,c.o,todo'))/\Co c.all env c.o=some c.g/\EN P c.o env c.f c.das (Ap c.g)/\BK n c.dst=true/\(∀x,c.o.op ≠ .defer x)/\c.dst=c.o.dst:=by
 unfold oR at h;have hnext:∀{all:List Oper} {o:Oper} {t:List DI},Bt todo ([],[])=some (all,o,t)->∀f,∃todo',Bt todo f=some (all,o,todo'):=by
  intro all o t h f;rcases I1 h with ⟨r,k,rfl,_⟩ | ⟨r,fs,k,rfl,_⟩
  ·exact ⟨_,rfl⟩
  ·exact ⟨_,rfl⟩
 split at h
 ·rename_i all o t h1
  split at h
  ·rename_i g f args ts hg ho
   split at h
   ·rename_i ds ob ha hd;cases h;exact ⟨hnext h1,hg,FO ho ha hob,hd,(λx hx=>by rw [ho] at hx;cases hx),rfl⟩
   ·cases h
  ·rename_i g t' args ts hg ho
   split at h
   ·rename_i f ds ob ht ha hd;cases h;exact ⟨hnext h1,hg,Fo ho ht ha hob,hd,(λx hx=>by rw [ho] at hx;cases hx),rfl⟩
   ·rename_i f df dc ds ob ht ha hd;cases h;exact ⟨hnext h1,hg,In ho ht ha hob,hd,(λx hx=>by rw [ho] at hx;cases hx),rfl⟩
   ·cases h
  ·cases h
 ·cases h
theorem nN {all:List Oper} (hg:Co all env o=some g) (hcx:Ap g) (hc:EN P o env f das (Ap g)) (hE:IR P f (F7 (Ep σ) das) st0 (.ret d st1)) (hb:EZ σ st st0) (hn:LH σ τ1 das st0 d st1 fr=true) (kp:List Nat) (hkp:Va (EQ (Br σ++τ1) st1++C2 (FH σ)) st (FH σ) kp) :
  LD P Pn all o env st (FH σ) fr (Nf kp (EQ (Br σ++τ1) st1++C2 (FH σ))) (gD g (JL (Ep (Br σ++τ1)) d)):=by
 intro I μ st2 ids1 a w hag hst hon;have hwant:=FF hg hon;refine ⟨λ_=>?_,λhw=>by rw [hwant.2 hcx] at hw;cases hw⟩;obtain ⟨xs,h1,h2⟩:=hc I μ a w (Bm hon) hcx;have hb':=FP hag hb;have hN:=NQ hn;obtain ⟨q1,q2,q3⟩:=Gp hst hb' hN.args h1;rw [h2];refine (hE I _ w xs q1 q2).mono (λu w' hu=>?_) (λ_ _ h=>h.elim);obtain ⟨I',μ',r1,r2,r3,r4⟩:=hu;obtain ⟨ν,s1,s2,s3,s4⟩:=KT hst hb' hN r1 r2 r3 r4 q3;rw [<- KG] at s1 s4;have hsame:∀i,lk (EQ (Br σ++τ1) st1++C2 (FH σ)++st2) i=lk (Nf kp (EQ (Br σ++τ1) st1++C2 (FH σ))++st2) i:=λi=>by
  rw [WL];by_cases hi:i∈kp
  ·rw [if_pos hi];obtain ⟨k1,k2⟩:=OX hkp i hi;have hm:i∈(EQ (Br σ++τ1) st1++C2 (FH σ)).map (·.1):=by
    rw [CL,Ko];exact BU.2 (.inr k1)
   rw [Gl hm,k2,hag i k1]
  ·rw [if_neg hi]
 refine ⟨I',ν,s1.congr hsame,?_,s3,s4.congr (λ_=>rfl) hsame⟩;cases g with
 | none=>exact s2
 | some p=>exact .guard _ _ _ _ (λ_=>s2) (λhn=>absurd hcx hn)
theorem A4 {c:qR} (σ τ1:List (Nat×Nat)) (kp:List Nat) {nm:List Nat} (h:oR n env todo=some c) (hcx:Ap c.g) (hob:AG c.ob) (hE:IR P c.f (F7 (Ep σ) c.das) st0 (.ret d st1)) (hb:EZ σ st st0) (hn:LH σ τ1 c.das st0 d st1 fr=true) (hkp:Va (EQ (Br σ++τ1) st1++C2 (FH σ)) st (FH σ) kp) (hnm:(Nf kp (EQ (Br σ++τ1) st1++C2 (FH σ))).map (·.1)=nm) (h1:Bt todo (FH σ,nm)=some (c.all,c.o,todo')) (hids:ids=fr++ids') (hk:G P n F Q todo' (BN c.dst (gD c.g (JL (Ep (Br σ++τ1)) d)) env) (Nf kp (EQ (Br σ++τ1) st1++C2 (FH σ))++st) ids'):G P n F Q todo env st ids:=by
 obtain ⟨_,q2,q3,q4,q5,q6⟩:=oQ (P:=P) h hob;subst hids;rw [q6] at q4 hk;subst hnm;exact BG h1 (nN q2 hcx q3 hE hb hn kp hkp) q4 q5 hk
structure PBo where
 e:TypeId
 es:List (List V)
 sz:Nat
 ob:List Prop
 dst:Option Nat
 todo:List DI
def vS (tt:TT) (n:Nat) (env:Env) (q:Nat) (todo:List DI):Option PBo :=
 match Bt todo ([],[q]) with
 | some (_,o,todo')=>match o.guard,o.op with
  | none,.buildSlice t m ⟨parts⟩=>match lk tt t,BK n o.dst with
   | some { sh:=.sl e,.. },true=>match lk tt e with
    | some i=>match HV True env i.size 0 parts,Nat.beq m parts.length,Nat.ble (m*i.size) 16777216,Nat.blt 0 i.size,Nat.blt 0 m with
     | some (es,o'),true,true,true,true=>some ⟨e,es,i.size,o',o.dst,todo'⟩
     | _,_,_,_,_=>none
    | none=>none
   | _,_=>none
  | _,_=>none
 | none=>none
theorem yN (htt:TTok P tt) {t:TypeId} {i:TyI} {m:Nat} {parts:List (Nat×Operand)} (ho:o.op = .buildSlice t m ⟨parts⟩) (hu:P.underlying t=some (.slice e)) (hi:lk tt e=some i) {o':List Prop} (hel:HV True env i.size 0 parts=some (es,o')) (hob:AG o') (hn':m=parts.length) (hbig':m*i.size<=16777216) (hsz:0<i.size) (hm0:0<m) (hop:DG I μ env a o.op) :
  ∃R:List (List Value),(execOp a.eval o).run P w = .ok (.value (.slice (some ⟨w.heap.size,0,none⟩) m m)) (w.alloc (.cells R.flatten.toArray e))/\R.length=m/\es.length=m/\(∀c∈R,c.length=i.size)/\(∀c∈es,c.length=i.size) /\
   ∀(k:Nat) (c:List Value) (x:List V),R[k]?=some c->es[k]?=some x->RepVL I c x/\∀u∈c,u.oneCell'=true:=by
 have hty:=htt e i hi;rw [ho] at hop;obtain ⟨inf,zv,hi1,hi2,_,hi4,hi5,hi6⟩:=hty.info;obtain ⟨q1,q2,q3⟩:=Km (a:=a) (I:=I) (μ:=μ) trivial parts 0 es o' hel hob (λp hp=>hop p.2 (by simp only [Op.operands];exact Cc.2 ⟨p,hp,rfl⟩));have hz0:m*i.size≠0:=by have:=Nat.mul_pos hm0 hsz;omega
 obtain ⟨A,hA,hA1⟩:∃A:List Value,A.length=m*i.size/\(Array.range (m*i.size)).map (λk=>zv.cells[k % zv.cells.size]!)=A.toArray :=
  ⟨((Array.range (m*i.size)).map (λk=>zv.cells[k % zv.cells.size]!)).toList,by simp,rfl⟩
 obtain ⟨c1,c2,c3⟩:=LX i.size m A hA;have hq:∀p∈(parts.map λ(p:Nat×Operand)=>(p.1,a.eval p.2)),∃seg,(GA i.size m A)[p.1]?=some seg/\p.2.cells.size=seg.length:=by
  intro p hp;obtain ⟨q,hm,rfl⟩:=Cc.1 hp;obtain ⟨k,hk⟩:=I4 hm;have h1:=q2 k q hk;have hlt:k<parts.length:=(AO.1 hk).1;have hlt2:k<es.length:=by rw [q1];exact hlt
  obtain ⟨_,r2,_,_⟩:=q3 k q es[k] hk (Bw hlt2);have hlt3:q.1<(GA i.size m A).length:=by rw [c2];omega
  exact ⟨_,Bw hlt3,by rw [r2,c3 _ (I6 hlt3)]⟩
 have hplace:∀k seg,(GA i.size m A)[k]?=some seg->some (k*i.size,i.size)=some (((GA i.size m A).take k).flatten.length,seg.length):=by
  intro k seg hs;have hlt:k<m:=by rw [<- c2];exact (AO.1 hs).1
  rw [B4 (sz:=i.size) (λc hc'=>c3 c (Lo hc')),c3 seg (AK hs)];rw [FA,c2,WD (by omega)]
 have hfill:=KH (λk=>some (k*i.size,i.size)) (parts.map λ(p:Nat×Operand)=>(p.1,a.eval p.2)) _ hplace hq;rw [c1] at hfill;obtain ⟨R,hR⟩:∃R,(parts.map λ(p:Nat×Operand)=>(p.1,a.eval p.2)).foldl (λs p=>s.set p.1 p.2.cells.toList) (GA i.size m A)=R:=⟨_,rfl⟩
 rw [hR] at hfill;have hRl:R.length=m:=by rw [<- hR,EH,c2]
 have hRk:∀(k:Nat) (c:List Value),R[k]?=some c->∃p,parts[k]?=some p/\c=(a.eval p.2).cells.toList:=by
  intro k c hk;have hlt:k<parts.length:=by rw [<- hn',<- hRl];exact (AO.1 hk).1
  have hp:parts[k]?=some parts[k]:=Bw hlt;have h1:(parts[k]).1=k:=by have:=q2 k _ hp;omega
  rw [<- hR] at hk;obtain ⟨r1,_⟩:=HU _ _ k c hk;refine ⟨_,hp,r1 _ (Cc.2 ⟨parts[k],I6 hlt,by rw [h1]⟩) λu hu=>?_⟩;obtain ⟨q,hm,he⟩:=Cc.1 hu;simp only [Bc] at he;obtain ⟨k',hk'⟩:=I4 hm;have:=q2 k' q hk';have e:k'=k:=by omega
  subst e;rw [hp] at hk';have hk':=QF hk';rw [hk',<- he.2]
 refine ⟨R,?_,hRl,by omega,λc hc'=>?_,λc hc'=>?_,λk c x hk hx=>?_⟩
 ·have hno:¬m*i.size > 2 ^ 24:=by omega
  simp only [execOp,ho,Instr.buildSlice,Sem.run_bind,run_underlying hu,hty.sizeOf w,Result.andThen_ok,hno,if_false,Sem.run_pure,if_neg hz0,zeroValue,typeInfo,run_program,hi1,hi4];rw [hA1,Lk,hfill];simp only [newRow,Sem.run_bind,run_newObj,Result.andThen_ok,Sem.run_pure];rfl
 ·obtain ⟨k,hk⟩:=I4 hc';obtain ⟨p,hp,rfl⟩:=hRk k c hk;have hlt2:k<es.length:=by rw [q1];exact (AO.1 hp).1
  obtain ⟨_,r2,_,_⟩:=q3 k p _ hp (Bw hlt2);simpa using r2
 ·obtain ⟨k,hk⟩:=I4 hc';have hlt2:k<parts.length:=by rw [<- q1];exact (AO.1 hk).1
  exact (q3 k _ c (Bw hlt2) hk).2.2.1
 ·obtain ⟨p,hp,rfl⟩:=hRk k c hk;obtain ⟨r1,_,_,r4⟩:=q3 k p x hp hx;exact ⟨r1,r4⟩
theorem oV (htt:TTok P tt) (q:Nat) {c:PBo} (h:vS tt n env q todo=some c) (hob:AG c.ob)
  (hk:G P n F Q c.todo (BN c.dst (.own q c.es.length) env) ((q,some (.row c.e c.sz c.es))::st) ids'):G P n F Q todo env st (q::ids'):=by
 unfold vS at h
 split at h
 ·rename_i all o todo' h1
  split at h
  ·rename_i t m parts hgd hop
   split at h
   ·rename_i e _ _ _ _ ht hd
    split at h
    ·rename_i i hi
     split at h
     ·rename_i es o' hel hm hbig hpos hm0;cases h;simp only at hob hk;have hk:G P n F Q todo' (BN o.dst (.own q es.length) env) ([(q,some (.row e i.size es))]++st) ids':=hk;refine BG (fr:=[q]) (wr:=[(q,some (.row e i.size es))]) (rd:=[]) h1 ?_ hd (λc hc=>by rw [hop] at hc;cases hc) hk;intro I μ st1 ids1 a w hag hst hon;refine ⟨λ_=>?_,λhw=>by rw [AL hgd] at hw;cases hw⟩;have hpos:=show 0<i.size by simpa [HQ] using hpos
      obtain ⟨R,r1,r2,r3,r4,r5,r6⟩:=yN (w:=w) htt hop (htt.sh ht) hi hel hob (C7 hm) (mR hbig) hpos (by simpa [HQ] using hm0) (Bm hon);rw [r1];have hfl:RepVL I R.flatten es.flatten:=by
       refine ⟨by rw [B4 r4,B4 r5,r2,r3],λj u x hu hx=>?_⟩;have hlt:j<m*i.size:=by rw [<- r2,<- B4 r4];exact (AO.1 hu).1
       have h1:j / i.size<m:=nE (by rw [QQ];exact hlt);have h2:j % i.size<i.size:=LR _ hpos;have e1:R[j / i.size]?=some R[j / i.size]:=Bw (by omega);have e2:es[j / i.size]?=some es[j / i.size]:=Bw (by omega);obtain ⟨p1,p2⟩:=r6 _ _ _ e1 e2;have l1:=r4 _ (AK e1);have l2:=r5 _ (AK e2);have f1:=C4 r4 _ _ (j % i.size) _ e1 (Bw (by omega));have f2:=C4 r5 _ _ (j % i.size) _ e2 (Bw (by omega));have ej:j / i.size*i.size+j % i.size=j:=by rw [QQ,Zv]
       rw [ej] at f1 f2;rw [f1] at hu;rw [f2] at hx;cases hu;cases hx;exact p1.2 _ _ _ (Bw (by omega)) (Bw (by omega))
      have hone:∀c∈es,∀x∈c,V.one x=true:=λc hc x hx=>by
       obtain ⟨k,hk⟩:=I4 hc;obtain ⟨l,hl⟩:=I4 hx;have hlt:k<R.length:=by rw [r2,<- r3];exact (AO.1 hk).1
       obtain ⟨p1,p2⟩:=r6 k _ c (Bw hlt) hk;have hl2:l<(R[k]).length:=by rw [p1.1];exact (AO.1 hl).1
       exact (p1.2 l _ x (Bw hl2) hl).oneV (p2 _ (I6 hl2))
      have hcm:m<=maxLen:=by
       have hb:=mR hbig;have:m*1<=m*i.size:=zep m hpos;unfold maxLen;omega
      have hown:(w.alloc (.cells R.flatten.toArray e)).ownsRow 0 e i.size (.slice (some ⟨w.heap.size,0,none⟩) m m) es.length R.flatten:=by
       rw [r3];refine ⟨by rw [B4 r4,r2],.inr ⟨w.heap.size,m,R.flatten.toArray,rfl,AF _,Eu w _,BL _,hcm,by simp [B4 r4,r2],?_⟩⟩;have:R.flatten.toArray.toList=R.flatten:=rfl;rw [this,CQ (by rw [B4 r4,r2];exact BL _)]
      obtain ⟨μ',q1,q2,q3,q4⟩:=StRep.renew (id':=q) (ids:=ids1) (rd:=[]) (v':=.slice (some ⟨w.heap.size,0,none⟩) m m) (blk':=.row e i.size es) hst (World.grownBy_alloc w _ none) (λb hb=>by cases hb) (λb hb=>by
       have:w.heap.size=b:=hb;subst this;exact ⟨by simp,.inl (BL _)⟩) (λμ'=>⟨R.flatten,hown,hfl,r5,hone,hpos⟩)
      refine ⟨I,μ',q3,?_,q2,q4⟩;rw [r3];exact .own q m _ m q1
     ·cases h
    ·cases h
   ·cases h
  ·cases h
 ·cases h
def nlL (j:Nat):List D->List D->Prop
 | [],[]=>True
 | d::r,d'::r'=>(d=d'\/(d = .nils/\d' = .own j 0))/\nlL j r r'
 | _,_=>False
theorem W2 {j:Nat}:∀{ds ds':List D},nlL j ds ds'->ds.length=ds'.length/\∀(i:Nat) (d':D),ds'[i]?=some d'->∃d,ds[i]?=some d/\(d=d'\/(d = .nils/\d' = .own j 0))
 | [],[],_=>⟨rfl,λi d h=>by simp at h⟩
 | d::r,d'::r',h=>by
  obtain ⟨h1,h2⟩:=W2 h.2;refine ⟨by simp [h1],λi x hx=>?_⟩;cases i with
  | zero=>simp at hx;subst hx;exact ⟨d,rfl,h.1⟩
  | succ i=>exact h2 i x (by simpa using hx)
 | [],_::_,h=>h.elim
 | _::_,[],h=>h.elim
theorem DV (k j:Nat) {t:TypeId} {sz':Nat} (ds':List D) (hsz:0<sz) (hk:lk st k=some (some (.cells t sz' ds))) (hcl:nlL j ds ds') (h:DGo P n F Q todo env ((k,some (.cells t sz' ds'))::(j,some (.row e sz []))::st) ids'):DGo P n F Q todo env st (j::ids'):=by
 refine EJ λI μ a w hc=>?_;obtain ⟨gk,hgk,_⟩:=hc.blk k _ hk;have hjk:j≠k:=λe=>by rw [<- e,hc.idsFree j (by simp)] at hgk;cases hgk
 obtain ⟨q1,q2,q3⟩:=StRep.relay (R:=[]) (new:=[(j,.slice none 0 0,.row e sz [])]) (ids':=ids') hc.toStRep
  (λp hp b hb=>by rw [AN.1 hp] at hb;exact hb.elim)
  (λp hp q hq b _ _=>by rw [AN.1 hp,AN.1 hq]) (Imm.le_refl I) hc.imm (λb o h=>.inl h)
  (λ_ p hp=>by rw [AN.1 hp];exact ⟨[],World.ownsRow_nil w 0 e sz,.nil,by simp,by simp,hsz⟩)
 have hmj:Ef [(j,Value.slice none 0 0,Blk.row e sz [])] μ j=some (.slice none 0 0):=by simp [Ef,lk]
 have hk2:Az ((j,some (.row e sz []))::st) k (.cells t sz' ds):=AB.2 (.inr ⟨hjk.symm,hk⟩);obtain ⟨c1,c2⟩:=W2 hcl;obtain ⟨p1,p2⟩:=q2.retell (st1:=(k,some (.cells t sz' ds'))::(j,some (.row e sz []))::st) (λi bb hlb=>by
  rcases AB.1 hlb with ⟨rfl,rfl⟩ | ⟨_,h2⟩
  ·refine ⟨_,hk2,λgb hb=>?_⟩;obtain ⟨hs,b,us,e1,e2,e3,e4⟩:=hb;refine ⟨by rw [<- c1,hs],b,us,e1,e2,⟨by rw [<- c1,e3.1],λi v y hv hy=>?_⟩,e4⟩;obtain ⟨d,y1,y2⟩:=c2 i y hy;have hr:=e3.2 i v d hv y1;rcases y2 with rfl | ⟨rfl,rfl⟩
   ·exact hr
   ·cases hr;exact .own j 0 none 0 hmj
  ·exact ⟨bb,h2,λ_ h=>h⟩)
 exact ⟨I,_,env,_,ids',p1,λt d hd=>(hc.env t d hd).mono (Imm.le_refl I) q1,q3.trans p2,.of_le q1,h⟩
structure zal where
 dx:D
 es:List (List V)
 es2:List (List V)
 sz:Nat
 bytes:Nat
 dst:Option Nat
 todo:List DI
def dS:D->Option (List (List V))
 | .nils=>some []
 | .clip es=>some es
 | _=>none
def vT (tt:TT) (n:Nat) (env:Env) (todo:List DI):Option zal :=
 match Bt todo ([],[]) with
 | some (_,o,todo')=>match o.guard,o.op with
  | none,.call { callee:=.builtin .append,args:=⟨[x,y]⟩,argTypes:=⟨[t,t']⟩ }=>match Nat.beq t t',lk tt t,DN env x,DN env y with
   | true,some { sh:=.sl e,.. },some dx,some (.imm (.sl (e1::es2)))=>match lk tt e,dS dx with
    | some i,some es=>match Nat.beq i.zero.length i.size&&Nat.blt 0 i.size,BK n o.dst with
     | true,true=>some ⟨dx,es,e1::es2,i.size,i.bytes,o.dst,todo'⟩
     | _,_=>none
    | _,_=>none
   | _,_,_,_=>none
  | _,_=>none
 | none=>none
theorem StRep.growI (hst:StRep I μ st ids w) (hg:w.grownBy w' none) {c:Nat} {o:Obj} (hc:w.heap.size<=c) (ho:w'.heap[c]?=some o):∃I',I' c=some o/\I.le I'/\StRep I' μ st ids w'/\Ext I μ st w I' μ st w':=by
 have hnew:I c=none:=by
  cases h:I c with
  | none=>rfl
  | some o'=>have:=BZ (hst.imm _ _ h);omega
 have hold:∀b,b<w.heap.size->w'.heap[b]?=w.heap[b]?:=λb hb=>hg.block b hb (by simp);have hle:I.le (λb=>if b=c then some o else I b):=λb o' h=>by
  have:b≠c:=λe=>by rw [e,hnew] at h;cases h
  simp [this,h]
 refine ⟨λb=>if b=c then some o else I b,by simp,hle,?_,?_⟩
 ·refine { imm:=λb o' h=>?_,blk:=λid blk hl=>?_,apart:=λid blk g b hl hg' hb=>?_,inj:=hst.inj,nodup:=hst.nodup,idsFree:=hst.idsFree }
  ·by_cases hb:b=c
   ·subst hb;simp at h;subst h;exact ho
   ·simp [hb] at h;have:=hst.imm _ _ h;rw [hold b (BZ this)];exact this
  ·obtain ⟨g,h1,h2⟩:=hst.blk id blk hl;exact ⟨g,h1,(h2.mono hle (Mu.le_refl μ)).world (λb hb=>hold b (hst.apart id blk g b hl h1 hb).2)⟩
  ·obtain ⟨h1,h2⟩:=hst.apart id blk g b hl hg' hb;have:b≠c:=by omega
   exact ⟨by simp [this,h1],YZ h2 hg.size⟩
 ·exact { imm:=hle,os:=hg.os,tape:=hg.tape,output:=hg.output,size:=hg.size,block:=λb hb _=>hold b hb,fresh:=λb _ h=>h,old:=λb hb _=>if_neg (by omega) }
theorem xJ {u:Value} {xs:List Value} (h:w.ownsRow 0 e sz u es.length xs) (hr:RepVL I xs es.flatten) (hsz:∀c∈es,c.length=sz) (h1:∀v∈xs,v.oneCell'=true) {o:Obj} (hb:u.ownBlock=some b) (ho:w.heap[b]?=some o) (hI:I b=some o):RepV I u (.sl es):=by
 rcases h.2 with ⟨rfl,_⟩ | ⟨g,cap,cur,rfl,_,hheap,hle,hcm,hcs,htake⟩
 ·cases hb
 ·have hb:g=b:=by simpa [Value.ownBlock] using hb
  subst hb;rw [hheap] at ho;cases ho;have hxl:=h.1;refine .sl g 0 es.length cap sz es (λi j=>(xs[i*sz+j]?).getD undef) rfl hle hcm hsz ?_ ?_
  ·intro i c j x hi hj;have hf:=C4 hsz i c j x hi hj;have hlt:i*sz+j<xs.length:=by rw [hr.1];exact (AO.1 hf).1
   have hxs:xs[i*sz+j]?=some xs[i*sz+j]:=Bw hlt;rw [hxs,MB];refine ⟨?_,h1 _ (I6 hlt)⟩;unfold Imm.cell;rw [hI];have hcur:cur[i*sz+j]?=some xs[i*sz+j]:=by
    have e1:(cur.toList.take (es.length*sz))[i*sz+j]?=some xs[i*sz+j]:=by rw [htake];exact hxs
    have e2:=e1;rw [Dl] at e2
    split at e2
    ·simpa using e2
    ·cases e2
   simp only [Dw,hcur]
  ·intro i c j x hi hj;have hf:=C4 hsz i c j x hi hj;have hlt:i*sz+j<xs.length:=by rw [hr.1];exact (AO.1 hf).1
   have hxs:xs[i*sz+j]?=some xs[i*sz+j]:=Bw hlt;rw [hxs,MB];exact hr.2 _ _ x hxs hf
theorem iD (htt:TTok P tt) {c:zal} (h:vT tt n env todo=some c) (hok:qD c.sz c.bytes (.clip []) c.es c.es2) (hes:∀x∈c.es,x.length=c.sz)
  (hk:G P n F Q c.todo (BN c.dst (.imm (.sl (c.es++c.es2))) env) st ids):G P n F Q todo env st ids:=by
 unfold vT at h
 split at h
 ·rename_i all o todo' hn1
  split at h
  ·rename_i x y t t' hg hop
   split at h
   ·rename_i e _ _ _ _ dx e1 es2 htt' ht hx hy;have:=C7 htt';subst this
    split at h
    ·rename_i i es hi hb
     split at h
     ·rename_i hz hd;cases h;simp only at hok hes hk;refine BG (fr:=[]) (wr:=[]) (rd:=[]) hn1 ?_ hd (λc hc=>by rw [hop] at hc;cases hc) hk;intro I μ st1 ids1 a w hag hst hon;refine ⟨λ_=>?_,λhw=>by rw [AL hg] at hw;cases hw⟩;have hops:=Bm hon;rw [hop] at hops;have rx:=hops x (by simp [Op.operands,Call.operands]) _ hx;have ry:=(hops y (by simp [Op.operands,Call.operands]) _ hy).immInv;obtain ⟨inf,z,z1,z2,z3,z4,z5,z6⟩:=(htt e i hi).info;have hu:P.underlying t=some (.slice e):=htt.sh ht;simp only [A2,HQ] at hz;have hzl:z.cells.size=i.size:=by
       have:=(z5 I μ).1;rw [C7 hz.1] at this;simpa using this
      obtain ⟨k1,k2,k3,_⟩:=hok;have hrun:∀{u w'},(Builtin.append_ #[t,t] o.type #[a.eval x,a.eval y]).run P w = .ok u w'->(execOp a.eval o).run P w = .ok (.value u) w':=by
       intro u w' h;simp only [execOp,hop,resolve,invoke,builtin,Sem.run_bind,Sem.run_pure,Result.andThen_ok,Lk,Cv,FB,h]
      rcases PI hst.imm ry k1 hz.2 with ⟨_,e0⟩ | ⟨yb,yo,yc,news,ey,_,_,n1,n2,n3,n4,n5⟩
      ·cases e0
      have fin:∀{u:Value} {w':World} {xs:List Value},(Builtin.append_ #[t,t] o.type #[a.eval x,a.eval y]).run P w = .ok u w'->w'.ownsRow 0 e i.size u (es.length+(e1::es2).length) (xs++news)->w.grownBy w' none->(∀b,u.ownBlock=some b->w.heap.size<=b)->RepVL I xs es.flatten->(∀v∈xs,v.oneCell'=true) ->
        valX P ((execOp a.eval o).run P w) (λv w'=>∃I' μ',StRep I' μ' ([]++st1) ids1 w'/\RepD I' μ' v (.imm (.sl (es++e1::es2)))/\μ.le μ'/\Ext I μ st1 w I' μ' ([]++st1) w') (KZ (KY Q) I μ st1 w):=by
       intro u w' xs r1 r2 r3 r4 r5 r6;rw [hrun r1];obtain ⟨b,hb,hlt⟩:∃b,u.ownBlock=some b/\b<w'.heap.size:=by
        rcases r2.2 with ⟨_,hh⟩ | ⟨g,cap,cur,rfl,_,hheap,_⟩
        ·simp at hh
        ·exact ⟨g,rfl,BZ hheap⟩
       have ho:w'.heap[b]?=some w'.heap[b]:=P2 hlt;obtain ⟨I',q1,q2,q3,q4⟩:=hst.growI r3 (r4 b hb) ho;refine ⟨I',μ,q3,.imm _ _ (xJ (es:=es++e1::es2) (by rw [AZ];exact r2) ?_ ?_ ?_ hb ho q1),Mu.le_refl μ,q4⟩
       ·rw [Zu];exact (r5.append n4).mono q2
       ·intro c hc;exact (BU.1 hc).elim (hes c) (k1 c)
       ·intro v hv;exact (BU.1 hv).elim (r6 v) (n3 v)
      have hnil:a.eval x = .slice none 0 0->es=[]->valX P ((execOp a.eval o).run P w) (λv w'=>∃I' μ',StRep I' μ' ([]++st1) ids1 w'/\RepD I' μ' v (.imm (.sl (es++e1::es2)))/\μ.le μ'/\Ext I μ st1 w I' μ' ([]++st1) w') (KZ (KY Q) I μ st1 w):=λhv he=>by
       subst he;obtain ⟨v',w',q1,q2,q3,_⟩:=run_append_own (P:=P) w w.heap.size t o.type e inf z i.size i.bytes hu z1 z4 z2 z3 hzl hz.2 (.slice none 0 0) 0 [] (World.ownsRow_nil w _ e i.size) ⟨yb,yo,none⟩ (e1::es2).length yc news n1 n2 n3
        (by simpa using k2) (by simpa using k3) (BL _)
       have q2':w'.ownsRow 0 e i.size v' (0+(e1::es2).length) ([]++news):=⟨q2.1,q2.2.imp id λ⟨g,cap,cur,a1,_,a2⟩=>⟨g,cap,cur,a1,AF _,a2⟩⟩
       exact fin (by rw [hv,ey];exact q1) q2' ⟨q3.os,q3.tape,q3.output,q3.size,λb hb _=>q3.block b hb (by simp [Value.ownBlock])⟩ (λb h=>(q2.lt b h).1) .nil (by simp)
      have hgrow:∀(ad:Addr) (cap:Nat) (xs:List Value),a.eval x = .slice (some ad) es.length cap->xs.length=es.length*i.size->(∀j u,xs[j]?=some u->w.cell? (ad.add j)=some u)->cap<es.length+(e1::es2).length->RepVL I xs es.flatten->(∀v∈xs,v.oneCell'=true) ->
        valX P ((execOp a.eval o).run P w) (λv w'=>∃I' μ',StRep I' μ' ([]++st1) ids1 w'/\RepD I' μ' v (.imm (.sl (es++e1::es2)))/\μ.le μ'/\Ext I μ st1 w I' μ' ([]++st1) w') (KZ (KY Q) I μ st1 w):=λad cap xs hv hl hcell hlt hr h1=>by
       have hsmall:es.length+(e1::es2).length<=9223372036854775807:=by simp only [maxLen] at k2;omega
       have hr':=run_append_grow (P:=P) w t o.type e inf z hu z1 z4 ad es.length cap xs (by rw [z2];exact hl) hcell ⟨yb,yo,none⟩ (e1::es2).length yc news (by rw [z2];exact n1) n2 hlt (by omega) (by rw [z3];exact growslice_fits hlt k3);have hge:=grownCap_ge w (es.length+(e1::es2).length) cap e;have hcm:grownCap w (es.length+(e1::es2).length) cap e<=maxLen:=grownCap_le_maxLen w _ cap e k2;have hlen:(xs++news).length=(es.length+(e1::es2).length)*i.size:=by rw [AZ,hl,n1,QH]
       refine fin (by rw [hv,ey];exact hr') (xs:=xs) ⟨hlen,.inr ⟨w.heap.size,_,_,rfl,AF _,Eu w.drew _,hge,hcm,?_,?_⟩⟩ ⟨rfl,rfl,rfl,by simp,λk hk _=>CR w.drew _ hk⟩
        (λb h=>by simp [Value.ownBlock] at h;omega) hr h1
       ·simp only [Array.size_append,Zt,size_zeroCells,hzl,hl,n1,<- QH];congr 1;omega
       ·simp only [JW,Cl];rw [<- Cl,<- hlen];exact Zs
      cases dx with
      | nils =>
       simp only [dS,Cf] at hb;subst hb;have hv:a.eval x = .slice none 0 0:=by
        generalize a.eval x=v at rx;cases rx;rfl
       exact hnil hv rfl
      | clip es' =>
       simp only [dS,Cf] at hb;subst hb;have rx':∃ad len,a.eval x = .slice ad len len/\RepV I (.slice ad len len) (.sl es'):=by
        generalize a.eval x=v at rx;cases rx with
        | clip ad len _ h=>exact ⟨ad,len,rfl,h⟩
       obtain ⟨ad,len,hv,hr⟩:=rx';rcases PI hst.imm hr hes hz.2 with ⟨⟨adx,ex⟩,e0⟩ | ⟨xb,xo,xc,xs,ex,_,_,p1,p2,p3,p4,p5⟩
       ·cases adx with
        | none=>exact hnil (hv.trans ex) e0
        | some adx =>
         subst e0;exact hgrow adx 0 [] (hv.trans ex) (by simp) (λj u h=>by simp at h) (by simp) .nil (by simp)
       ·cases ex;exact hgrow ⟨xb,xo,none⟩ _ xs hv p1 p2 (by simp) p4 p3
      | _=>simp [dS] at hb
     ·cases h
    ·cases h
   ·cases h
  ·cases h
 ·cases h
structure PCl where
 es:List (List V)
 m:Int
 m2:Int
 dst:Option Nat
 todo:List DI
def vR (tt:TT) (n:Nat) (env:Env) (todo:List DI):Option PCl :=
 match Bt todo ([],[]) with
 | some (_,o,todo')=>match o.guard,o.op with
  | none,.slice t x none (some h) (some c)=>match lk tt t,DN env x,DN env h,DN env c,BK n o.dst with
   | some { sh:=.sl e,.. },some (.imm (.sl es)),some (.imm (.int _ m)),some (.imm (.int _ m2)),true=>match lk tt e with
    | some _=>some ⟨es,m,m2,o.dst,todo'⟩
    | none=>none
   | _,_,_,_,_=>none
  | _,_=>none
 | none=>none
theorem yD (htt:TTok P tt) {c:PCl} (h:vR tt n env todo=some c) (h1:c.m=c.es.length) (h2:c.m2=c.es.length)
  (hk:G P n F Q c.todo (BN c.dst (.clip c.es) env) st ids):G P n F Q todo env st ids:=by
 unfold vR at h
 split at h
 ·rename_i all o todo' hn1
  split at h
  ·rename_i t x hh cc hg hop
   split at h
   ·rename_i e _ _ _ _ es k1 m k2 m2 ht hx hhh hcc hd
    split at h
    ·rename_i ti hti;cases h;simp only at h1 h2 hk;subst h1;subst h2;refine BG (fr:=[]) (wr:=[]) (rd:=[]) hn1 ?_ hd (λc hc=>by rw [hop] at hc;cases hc) hk;intro I μ st1 ids1 a w hag hst hon;refine ⟨λ_=>?_,λhw=>by rw [AL hg] at hw;cases hw⟩;have hops:=Bm hon;rw [hop] at hops;have rx:=(hops x (by simp [Op.operands]) _ hx).immInv;have e1:a.eval hh = .int k1 es.length:=(hops hh (by simp [Op.operands]) _ hhh).immInv.intInv;have e2:a.eval cc = .int k2 es.length:=(hops cc (by simp [Op.operands]) _ hcc).immInv.intInv;have hb:∀(k:IntKind) (x y:Nat) (c:BoundsCode),x<=y->(Instr.sliceBound (.int k x) y c).run P w = .ok x w:=by
      intro k x y c hxy;simp [Instr.sliceBound,asIntOf,hxy]
     have hb0:∀(k:IntKind) (c:BoundsCode),(Instr.sliceBound (.int k 0) 0 c).run P w = .ok 0 w:=by
      intro k c;simp [Instr.sliceBound,asIntOf]
     have key:∃ad,(Instr.sliceAt t (a.eval x) none (some (.int k1 es.length)) (some (.int k2 es.length))).run P w = .ok (.slice ad es.length es.length) w/\RepV I (.slice ad es.length es.length) (.sl es):=by
      generalize a.eval x=v at rx;cases rx with
      | slnil=>exact ⟨none,by simp [Instr.sliceAt,run_underlying (htt.sh ht),Instr.slice,Instr.sliceBounds,hb0,(htt e ti hti).sizeOf w],.slnil⟩
      | sl0 ad=>exact ⟨ad,by simp [Instr.sliceAt,run_underlying (htt.sh ht),Instr.slice,Instr.sliceBounds,hb0,(htt e ti hti).sizeOf w],.sl0 ad⟩
      | sl b o len cap sz _ vs hl hc hm hsz hcell hrep =>
       subst hl;refine ⟨some ⟨b,o,none⟩,?_,.sl b o _ _ sz es vs rfl (BL _) (by omega) hsz hcell hrep⟩;simp [Instr.sliceAt,run_underlying (htt.sh ht),Instr.slice,Instr.sliceBounds,hb _ _ _ _ hc,hb _ _ _ _ (BL es.length),(htt e ti hti).sizeOf w,H5]
     obtain ⟨ad,r1,r2⟩:=key;have hrun:(execOp a.eval o).run P w = .ok (.value (.slice ad es.length es.length)) w:=by
      simp only [execOp,hop,e1,e2,UT,cP,Sem.run_bind,r1,Result.andThen_ok,Sem.run_pure]
     rw [hrun];exact ⟨I,μ,hst,.clip _ _ _ r2,Mu.le_refl μ,Ext.refl _ _ _ _⟩
    ·cases h
   ·cases h
  ·cases h
 ·cases h
def cW (P:Program) (t:TypeId) (m:String) (f:FuncId):Bool:=match P.info? t with
 | some i=>match i.methods.find? (·.name == m) with
  | some r=>r.path.toList.isEmpty&&(match r.func with
   | some (f',pr)=>Nat.beq f' f && !pr
   | none=>false)&&(match P.underlying t with
   | some (.pointer _)=>false
   | some _=>true
   | none=>false)
  | none=>false
 | none=>false
theorem oJ {t:TypeId} {m:String} (h:cW P t m f=true) (n:Nat) (v:Value) (w:World):(method (n+1) t v m).run P w = .ok (f,v) w:=by
 unfold cW at h
 split at h
 ·rename_i i hi
  split at h
  ·rename_i r hr;simp only [A2] at h;obtain ⟨⟨h1,h2⟩,h3⟩:=h
   split at h2
   ·rename_i f' pr hf;simp only [A2,JX] at h2;have hff:=C7 h2.1;subst hff;have hpr:=h2.2;subst hpr;have hp:r.path.toList=[]:=List.isEmpty_iff.1 h1
    split at h3
    ·cases h3
    ·rename_i u hne hu;have hrecv:∀wr,(receiverAt t (.val v) false wr).run P w = .ok v w:=λwr=>by
      unfold receiverAt;rw [Sem.run_bind,run_underlying hu,Result.andThen_ok];cases u <;> first | rfl | exact absurd rfl (hne _)
     simp only [method,typeInfo,Sem.run_bind,run_program,Result.andThen_ok,hi,hr,hp,follow,Sem.run_pure,hf,hrecv]
    ·cases h3
   ·cases h2
  ·cases h
 ·cases h
theorem S7 {r:Operand} {m:String} {args:List Operand} {T:TypeId} {x:V} (ho:o.op = .call { callee:=.invoke r m,args:=⟨args⟩,argTypes:=ts }) (ht:DN env r=some (.imm (.iface T x))) (ha:Ik cx env args=some (ds,ob)) (hob:AG ob) (hm:cW P T m f=true):EN P o env f (.imm x::ds) cx:=by
 intro I μ a w hop hc;rw [ho] at hop;have hd:=G8 (I:=I) (μ:=μ) (a:=a) hc ha hob λy hy=>hop y (by simp [Op.operands,Call.operands,hy]);have hf:=(hop r (by simp [Op.operands,Call.operands]) _ ht).immInv;generalize hv:a.eval r=v at hf;cases hf with
 | iface _ u _ hu =>
  refine ⟨#[u]++(args.map a.eval).toArray,?_,?_⟩
  ·simp only [JW];exact .mk (.imm _ _ hu) (by simpa using hd)
  ·have hs:∃n,P.types.size+Made.depth=n+1:=⟨P.types.size+(Made.depth-1),by unfold Made.depth;omega⟩
   obtain ⟨n,hs⟩:=hs;have hme:=oJ hm n u w;have hx:((#[Value.iface T u]++(args.map a.eval).toArray).extract 1 (#[Value.iface T u]++(args.map a.eval).toArray).size)=(args.map a.eval).toArray:=by
    apply Array.ext';simp [mX];exact CQ (by simp)
   have h0:(#[Value.iface T u]++(args.map a.eval).toArray)[0]?=some (.iface T u):=by simp
   have e:(⟨args⟩:Array Operand).map a.eval=(args.map a.eval).toArray:=by simp
   simp only [execOp,ho,resolve,hv,e,Sem.run_bind,Sem.run_pure,Result.andThen_ok,invoke,h0,callMethod,hx,run_program,hs,hme]
structure zan where
 T:TypeId
 m:String
 vs:List V
 g:Option (Bool×Bool)
 ob:List Prop
 dst:Option Nat
 todo:List DI
def lQ (n:Nat) (env:Env) (todo:List DI):Option zan :=
 match Bt todo ([],[]) with
 | some (all,o,todo')=>match o.op,Co all env o with
  | .call { callee:=.invoke r m,args:=⟨args⟩,.. },some g=>match DN env r,Ik (Ap g) env args with
   | some (.imm (.iface T x)),some (ds,ob)=>match L9 (.imm x::ds),BK n o.dst with
    | some vs,true=>match o.dst with
     | some t=>some ⟨T,m,vs,g,ob,some t,todo'⟩
     | none=>some ⟨T,m,vs,g,ob,none,todo'⟩
    | _,_=>none
   | _,_=>none
  | _,_=>none
 | none=>none
theorem Vo (f:FuncId) {T:TypeId} {m:String} {v:V} (h:lQ n env todo=some ⟨T,m,vs,g,ob,dst,todo'⟩) (hm:cW P T m f=true) (hE:Ap g->GL P f vs v) (hob:AG ob) (hk:G P n F Q todo' (BN dst (gD g (.imm v)) env) st ids):G P n F Q todo env st ids:=by
 unfold lQ at h
 split at h
 ·rename_i all o todo1 h1;have hnd:∀cc,o.op = .call cc->∀c,o.op ≠ .defer c:=λcc h c h'=>by rw [h] at h';cases h'
  split at h
  ·rename_i r m' args ts g' ho hg
   split at h
   ·rename_i T' x ds ob' ht ha
    split at h
    ·rename_i vs' hv hd;have fin:T'=T/\m'=m/\vs'=vs/\g'=g/\ob'=ob/\o.dst=dst/\todo1=todo':=by
      split at h <;> (rename_i hdst;cases h;exact ⟨rfl,rfl,rfl,rfl,rfl,hdst,rfl⟩)
     obtain ⟨rfl,rfl,rfl,rfl,rfl,rfl,rfl⟩:=fin;exact BG (fr:=[]) (wr:=[]) h1 (PL hg (S7 ho ht ha hob hm) hv hE) hd (hnd _ ho) hk
    ·cases h
   ·cases h
  ·cases h
 ·cases h
theorem If:∀{ds:List D} {xs:List V},Ga ds=some xs->ds.length=xs.length
 | [],xs,h=>by cases h;rfl
 | d::r,xs,h=>by
  unfold Ga at h
  split at h
  ·rename_i e;cases e
  ·rename_i x r' e;cases e
   split at h
   ·rename_i ys hy;cases h;simp [If hy]
   ·cases h
  ·rename_i r' e;cases e
   split at h
   ·rename_i ys hy;cases h;simp [If hy]
   ·cases h
  ·cases h
theorem R5 (k:Nat) {t:TypeId} (xs:List V) (hk:lk st k=some (some (.cells t sz ds))) (hcl:Ga ds=some xs) (h:DGo P n F Q todo env ((k,some (.immb t sz xs))::st) ids):DGo P n F Q todo env st ids:=by
 refine EJ λI μ a w hc=>?_;obtain ⟨p1,p2⟩:=hc.toStRep.retell (st1:=(k,some (.immb t sz xs))::st) (λi bb hlb=>by
  rcases AB.1 hlb with ⟨rfl,rfl⟩ | ⟨_,h2⟩
  ·refine ⟨_,hk,λgb hb=>?_⟩;obtain ⟨hs,b,us,e1,e2,e3,e4⟩:=hb;exact ⟨by rw [<- If hcl,hs],b,us,e1,e2,FZ hcl e3,e4⟩
  ·exact ⟨bb,h2,λ_ h=>h⟩)
 exact ⟨I,μ,env,_,ids,p1,hc.env,p2,.refl _ _,h⟩
structure PMa where
 e:TypeId
 z:List V
 sz:Nat
 bytes:Nat
 m:Int
 m2:Int
 dst:Option Nat
 todo:List DI
def UK (tt:TT) (n:Nat) (env:Env) (todo:List DI):Option PMa :=
 match Bt todo ([],[]) with
 | some (_,o,todo')=>match o.guard,o.op with
  | none,.makeSlice t l c=>match lk tt t,DN env l,DN env c with
   | some { sh:=.sl e,.. },some (.imm (.int _ m)),some (.imm (.int _ m2))=>match lk tt e,BK n o.dst with
    | some ⟨_,_,sz,bytes,zero⟩,true=>match Ga zero,Nat.blt 0 sz&&Nat.beq zero.length sz with
     | some z,true=>some ⟨e,z,sz,bytes,m,m2,o.dst,todo'⟩
     | _,_=>none
    | _,_=>none
   | _,_,_=>none
  | _,_=>none
 | _=>none
theorem ID (z:Array Value) (m:Nat) (hz:0<z.size):madeCells z (m*z.size)=(List.replicate m z.toList).flatten.toArray:=by
 apply Array.ext
 ·simp [madeCells]
 ·intro i h1 h2;have hi:i<m*z.size:=by simpa [madeCells] using h1
  have hlt:i % z.size<z.size:=LR _ hz;simp only [madeCells,Array.getElem_map,Array.getElem_range,List.getElem_toArray];rw [getElem!_pos z (i % z.size) hlt];have key:∀(q j:Nat),j<q*z.size->(List.replicate q z.toList).flatten[j]?=z.toList[j % z.size]?:=by
   intro q
   induction q with
   | zero=>intro j hj;omega
   | succ q ih =>
    intro j hj;rw [List.replicate_succ,JT];by_cases h:j<z.size
    ·rw [Tt (by simpa using h),Nat.mod_eq_of_lt h]
    ·have e:(q+1)*z.size=q*z.size+z.size:=Ts _ _;rw [QG (by simp;omega),ih _ (by simp;omega)];congr 1;simp only [WI];exact (Nat.mod_eq_sub_mod (by omega)).symm
  have:=key m i hi;have h3:(List.replicate m z.toList).flatten[i]?=some ((List.replicate m z.toList).flatten[i]'(by simpa using h2)):=Bw _;rw [h3] at this;rw [Bw (by simpa using hlt)] at this;simpa using (QF this).symm
theorem OG (htt:TTok P tt) {c:PMa} (h:UK tt n env todo=some c) (hm:c.m2=c.m) (h0:0<=c.m) (h1:(c.bytes:Int)*c.m<=281474976710656) (h2:c.m<=maxLen)
  (hk:G P n F Q c.todo (BN c.dst (.imm (.sl (List.replicate c.m.toNat c.z))) env) st ids):G P n F Q todo env st ids:=by
 unfold UK at h
 split at h
 ·rename_i o todo' hn1
  split at h
  ·rename_i t l cc hg hop
   split at h
   ·rename_i e _ _ _ _ k1 m k2 m2 ht hl hc
    split at h
    ·rename_i sh ag sz bytes zero hi hd
     split at h
     ·rename_i z hz hsz0;cases h;simp only at hm h0 h1 h2 hk;have hm:=hm.symm;subst hm;refine BG (fr:=[]) (wr:=[]) (rd:=[]) hn1 ?_ hd (λc hc=>by rw [hop] at hc;cases hc) hk;intro I μ st1 ids1 a w hag hst hon;refine ⟨λ_=>?_,λhw=>by rw [AL hg] at hw;cases hw⟩;have hops:=Bm hon;rw [hop] at hops;have rl:=hops l (by simp [Op.operands]) _ hl;have rc:=hops cc (by simp [Op.operands]) _ hc;obtain ⟨inf,zv,i1,i2,i3,i4,i5,i6⟩:=(htt e _ hi).info;have hz1:=FZ hz (i5 I μ);simp only [A2,HQ] at hsz0;have hpos:0<sz:=hsz0.1;have hsz:inf.size=sz:=i2;have hcs:zv.cells.size=sz:=by
       have:=(i5 I μ).1;rw [<- C7 hsz0.2];simpa using this
      have hby:inf.bytes=bytes:=i3;have hrun:(execOp a.eval o).run P w = .ok (.value (.slice (some ⟨w.heap.size,0,none⟩) m.toNat m.toNat)) (w.alloc (.cells (List.replicate m.toNat zv.cells.toList).flatten.toArray e)):=by
       have hs:=(htt t _ ht).sh;have hx:=run_make (P:=P) w t e inf zv hs i1 i4 k1 k2 m m h0 (JV _) (by rw [hby];exact h1) (by simpa [maxLen] using h2);rw [hsz,<- hcs,ID _ _ (by rw [hcs];exact hpos)] at hx;simp only [execOp,hop];generalize a.eval l=vl at rl;generalize a.eval cc=vc at rc;cases rl with
       | imm _ _ rl =>
       cases rc with
       | imm _ _ rc =>
       cases rl;cases rc;simp only [Sem.run_bind,hx,Result.andThen_ok,Sem.run_pure]
      rw [hrun];obtain ⟨I',s1,s2,s3⟩:=xC hst e sz (List.replicate m.toNat zv.cells.toList) (List.replicate m.toNat z) (by simp) (λc hc=>by rw [Gj hc];simpa using hcs)
       (λc hc=>by rw [Gj hc,<- hz1.1];simpa using hcs)
       (λk c x hc hx=>by
        rw [RR] at hc hx
        split at hc
        ·rename_i hq;rw [if_pos hq] at hx;cases hc;cases hx;exact ⟨hz1,i6⟩
        ·cases hc) m.toNat (by simp) (by simp [maxLen] at h2 ⊢;omega) []
      rw [HP,Ih] at *;exact ⟨I',μ,s1,s2,Mu.le_refl μ,s3⟩
     ·cases h
    ·cases h
   ·cases h
  ·cases h
 ·cases h
def Yj:TT:=[
 (3,⟨.int .i64,false,1,8,[.imm (.int .i64 0)]⟩),
 (25,⟨.struct [(0,22),(1,3),(2,9),(3,23)],true,4,56,[.imm (.int .i64 0),.imm (.int .i64 0),.imm (.str []),.nils]⟩),
 (4,⟨.bool,false,1,1,[.imm (.bool false)]⟩),
 (23,⟨.sl 25,false,1,24,[.nils]⟩),
 (1,⟨.func,false,1,8,[.imm .nilfn]⟩),
 (9,⟨.str,false,1,16,[.imm (.str [])]⟩),
 (92,⟨.ptr 98,false,1,8,[.imm .nilp]⟩),
 (22,⟨.int .i64,false,1,8,[.imm (.int .i64 0)]⟩),
 (49,⟨.struct [(0,45),(1,3),(2,9),(3,46),(4,47)],true,5,80,[.imm (.int .i64 0),.imm (.int .i64 0),.imm (.str []),.nils,.nils]⟩),
 (118,⟨.sl 84,false,1,24,[.nils]⟩),
 (28,⟨.int .i64,false,1,8,[.imm (.int .i64 0)]⟩),
 (5,⟨.int .u8,false,1,1,[.imm (.int .u8 0)]⟩),
 (43,⟨.struct [(0,9),(1,40),(2,41)],true,3,64,[.imm (.str []),.nils,.nils]⟩),
 (120,⟨.map 3 4,false,1,8,[.imm .nilmap]⟩),
 (71,⟨.struct [(0,9),(1,9),(2,25),(6,25),(10,49)],true,15,224,[.imm (.str []),.imm (.str []),.imm (.int .i64 0),.imm (.int .i64 0),.imm (.str []),.nils,.imm (.int .i64 0),.imm (.int .i64 0),.imm (.str []),.nils,.imm (.int .i64 0),.imm (.int .i64 0),.imm (.str []),.nils,.nils]⟩),
 (145,⟨.iface,false,1,16,[.imm .niliface]⟩),
 (178,⟨.struct [(0,9),(1,23)],true,2,40,[.imm (.str []),.nils]⟩),
 (98,⟨.struct [(0,43),(3,96),(4,3),(5,23)],true,6,104,[.imm (.str []),.nils,.nils,.imm .nilmap,.imm (.int .i64 0),.nils]⟩),
 (41,⟨.sl 71,false,1,24,[.nils]⟩),
 (96,⟨.map 3 25,false,1,8,[.imm .nilmap]⟩),
 (20,⟨.iface,false,1,16,[.imm .niliface]⟩),
 (84,⟨.struct [(0,9),(1,25)],true,5,72,[.imm (.str []),.imm (.int .i64 0),.imm (.int .i64 0),.imm (.str []),.nils]⟩),
 (139,⟨.map 9 4,false,1,8,[.imm .nilmap]⟩),
 (45,⟨.int .i64,false,1,8,[.imm (.int .i64 0)]⟩),
 (182,⟨.struct [(0,180),(1,3),(2,9),(3,47)],true,4,56,[.imm (.int .i64 0),.imm (.int .i64 0),.imm (.str []),.nils]⟩),
 (26,⟨.func,false,1,8,[.imm .nilfn]⟩),
 (113,⟨.struct [(0,9),(1,111)],true,2,40,[.imm (.str []),.nils]⟩),
 (40,⟨.sl 113,false,1,24,[.nils]⟩),
 (119,⟨.ptr 123,false,1,8,[.imm .nilp]⟩),
 (64,⟨.int .i64,false,1,8,[.imm (.int .i64 0)]⟩),
 (167,⟨.struct [],true,0,0,[]⟩),
 (180,⟨.int .i64,false,1,8,[.imm (.int .i64 0)]⟩),
 (58,⟨.sl 45,false,1,24,[.nils]⟩),
 (138,⟨.map 45 4,false,1,8,[.imm .nilmap]⟩),
 (46,⟨.sl 49,false,1,24,[.nils]⟩),
 (121,⟨.map 3 3,false,1,8,[.imm .nilmap]⟩),
 (123,⟨.struct [(0,120),(1,121)],true,2,16,[.imm .nilmap,.imm .nilmap]⟩),
 (47,⟨.sl 182,false,1,24,[.nils]⟩),
 (148,⟨.struct [(0,3)],true,1,8,[.imm (.int .i64 0)]⟩),
 (149,⟨.struct [(0,3)],true,1,8,[.imm (.int .i64 0)]⟩),
 (171,⟨.struct [],true,0,0,[]⟩),
 (151,⟨.struct [],true,0,0,[]⟩),
 (202,⟨.arr 29 201,true,29,232,[.imm .nilfn,.imm .nilfn,.imm .nilfn,.imm .nilfn,.imm .nilfn,.imm .nilfn,.imm .nilfn,.imm .nilfn,.imm .nilfn,.imm .nilfn,.imm .nilfn,.imm .nilfn,.imm .nilfn,.imm .nilfn,.imm .nilfn,.imm .nilfn,.imm .nilfn,.imm .nilfn,.imm .nilfn,.imm .nilfn,.imm .nilfn,.imm .nilfn,.imm .nilfn,.imm .nilfn,.imm .nilfn,.imm .nilfn,.imm .nilfn,.imm .nilfn,.imm .nilfn]⟩),
 (111,⟨.sl 178,false,1,24,[.nils]⟩),
 (44,⟨.sl 84,false,1,24,[.nils]⟩),
 (126,⟨.func,false,1,8,[.imm .nilfn]⟩),
 (116,⟨.func,false,1,8,[.imm .nilfn]⟩),
 (174,⟨.ptr 3,false,1,8,[.imm .nilp]⟩),
 (110,⟨.func,false,1,8,[.imm .nilfn]⟩),
 (130,⟨.sl 3,false,1,24,[.nils]⟩),
 (125,⟨.func,false,1,8,[.imm .nilfn]⟩),
 (201,⟨.func,false,1,8,[.imm .nilfn]⟩),
 (258,⟨.func,false,1,8,[.imm .nilfn]⟩),
 (361,⟨.func,false,1,8,[.imm .nilfn]⟩),
 (362,⟨.ptr 5,false,1,8,[.imm .nilp]⟩)]
theorem Ah:TTok prog Yj:=.of_eq (l:=[3,25,4,23,1,9,92,22,49,118,28,5,43,120,71,145,178,98,41,96,20,84,139,45,182,26,113,40,119,64,167,180,58,138,46,121,123,47,148,149,171,151,202,111,44,126,116,174,110,130,125,201,258,361,362]) (by kernel_rfl)
theorem yd (path:List Pt) (h:run Yj n 300 path todo env st ids [] = .at k env' st' ids' ob) (hob:AG ob) (hd:Tq1 n F Q k env' st' ids'):Tq2 n F Q todo env st ids:=L4 Ah Fh 300 path h hob hd
theorem Av (h:run Yj n 300 [] todo env st ids [] = .at k env' st' ids' ob) (hd:Tq1 n F Q k env' st' ids') (hob:AG ob:=by simp):Tq2 n F Q todo env st ids:=yd [] h hob hd
theorem Pu (h:run Yj n 300 [] todo env st ids [] = .at k env' st' ids' ob) (hd:Tq1 n F Q k env' st' ids') (hob:AG ob:=by simp [Ap]):Tq2 n F Q todo env st ids:=yd [] h hob hd
theorem yg (path:List Pt) (h:run Yj n 300 path todo env st ids [] = .at k env' st' ids' ob) (hob:AG ob) (hd:Tq1 n F Q k env' st' ids'):Tq1 n F Q todo env st ids:=J4 Ah Fh 300 path h hob hd
theorem Ai (h:run Yj n 300 [] todo env st ids [] = .at k env' st' ids' ob) (hd:Tq1 n F Q k env' st' ids') (hob:AG ob:=by simp):Tq1 n F Q todo env st ids:=yg [] h hob hd
theorem CW (h:run Yj n 300 [] todo env st ids [] = .at k env' st' ids' ob) (hd:Tq1 n F Q k env' st' ids') (hob:AG ob:=by simp [Ap]):Tq1 n F Q todo env st ids:=yg [] h hob hd
theorem yZ (f:Nat) (h:run Yj n f [] todo env st ids [] = .at k env' st' ids' ob) (hob:AG ob) (hd:Tq1 n F Q k env' st' ids'):Tq2 n F Q todo env st ids:=L4 Ah Fh f [] h hob hd
theorem N0 (f:Nat) (h:run Yj n f [] todo env st ids [] = .at k env' st' ids' ob) (hob:AG ob) (hd:Tq1 n F Q k env' st' ids'):Tq1 n F Q todo env st ids:=J4 Ah Fh f [] h hob hd
theorem yi {m:Int} {t:Nat} (h:Se Yj n env todo=some ⟨es,m,sz,e,g,ob,some t,todo'⟩) (hc:Ap g->0<=m/\es[m.toNat]?=some c/\c.length=sz) (hob:AG ob) (hk:Tq1 n F Q todo' ((t,gD g (.ip e c 0))::env) st ids):Tq1 n F Q todo env st ids:=HT Ah h hc hob hk
theorem HA {t:Nat} (h:Se Yj n env todo=some ⟨es,(i:Int),sz,e,g,ob,some t,todo'⟩) (hg:es[i]?=some c) (hk:Tq1 n F Q todo' ((t,gD g (.ip e c 0))::env) st ids) (hl:c.length=sz:=by simp) (hob:AG ob:=by simp):Tq1 n F Q todo env st ids:=yi h (λ_=>⟨by omega,by simpa using hg,hl⟩) hob hk
theorem yizc {t:Nat} (h:Se Yj n env todo=some ⟨es,(i:Int),sz,e,g,ob,some t,todo'⟩) (hg:es[i]?=some c) (hk:Tq1 n F Q todo' ((t,gD g (.ip e c 0))::env) st ids) (hl:c.length=sz:=by simp) (hob:AG ob:=by simp [Ap]):Tq1 n F Q todo env st ids:=yi h (λ_=>⟨by omega,by simpa using hg,hl⟩) hob hk
def Gn:V:=.iface 167 (.agg [])
theorem Fx:Tq3 117 [.bool true] (.tup []):=by
 exact AQ Ah func117 rfl [1,2]<|yg [.a] rfl (by simp)<|BP ⟨_,AD⟩
theorem nQ:Tq4 117 [.imm (.bool false)] [] (.pan Gn):=by
 exact AQ Ah func117 rfl [1,2]<|yg [.a] rfl (by simp)<|IK rfl rfl rfl rfl
theorem I7 (b:Bool) (h:b=false):Tq4 117 [.imm (.bool b)] [] (.pan Gn):=by subst h;exact nQ
theorem WU (n:Int):Tq3 59 [.int .i64 n] (.agg (dTyc (Ao n))):=by
 exact AQ Ah func59 rfl [1,2]<|Ai rfl<|Ab rfl rfl rfl
theorem BC (s:Int) (ps:List Ty):Tq3 258 [.int .i64 s,.sl (dTys ps)] (.agg (dTyc (.mk s 0 [] ps))):=by
 exact AQ Ah func258 rfl [1,2]<|Ai rfl<|Ab rfl rfl rfl
def eQ (m:Md) (k:Int) (M P len:Nat):Blk:=.cells 98 6 [.imm (.str m.name),.imm (.sl (m.datas.map BE)),.imm (.sl (m.funs.map Cg)),.mapr M,.imm (.int .i64 k),.own P len]
def VR (T:List (Int×Ty)):Blk:=.map (T.map jO)
def CI (m:Md) (T:List (Int×Ty)) (k:Int) (S:List Ty):St:=[(1,some (eQ m k 2 3 (dTys S).length)),(2,some (VR T)),(3,some (.row 25 4 (dTys S)))]
theorem Ei (T:List (Int×Ty)):∀p∈T.map jO,GV (.int .i64) p.1=true:=λp hp=>by
 obtain ⟨q,_,rfl⟩:=Cc.1 hp;rfl
theorem HD (I:Imm):RepV I (.agg #[.int .i64 0,.int .i64 0,.string ⟨#[]⟩,.slice none 0 0]) (.agg (dTyc Dr)):=.agg _ _ rfl (by decide) (λi c x h1 h2=>by
 match i,h1,h2 with
 | 0,h1,h2=>cases h1;cases h2;exact .int _ _
 | 1,h1,h2=>cases h1;cases h2;exact .int _ _
 | 2,h1,h2=>cases h1;cases h2;exact .str _ _ rfl
 | 3,h1,h2=>cases h1;cases h2;exact .slnil
 | i+4,h1,h2=>simp at h1)
theorem HS (m:Md) (T:List (Int×Ty)) (k:Int) (S:List Ty) (hk:0<=k/\k<=1000000):Tq4 259 [.ref 1 0] (CI m T k S) (.ret (.imm (.agg (dTyc (Ao k)))) (CI m T (k+1) S)):=by
 have e1:IntKind.i64.wrap (k+1)=k+1:=BW (by omega) (by omega);have hH:Tq3 59 [.int .i64 (IntKind.i64.wrap (IntKind.i64.wrap (k+1)-1))] (.agg (dTyc (Ao k))):=by
  rw [e1,BW (by omega) (by omega),show k+1-1=k by omega];exact WU k
 refine AQ Ah func259 rfl [4,5]<|Ai rfl<|Ad rfl hH<|Ai rfl<|Ag ⟨_,rfl,rfl,?_,AD⟩;show some (some (eQ m (IntKind.i64.wrap (k+1)) 2 3 _))=_;rw [e1]
theorem Cn (m:Md) (T:List (Int×Ty)) (k:Int) (S:List Ty) (hs:Sol (BH T) θ) (t u:Ty) (ht:Top (BH T) t u):Tq4 116 [.ref 1 0,.imm (.agg (dTyc t))] (CI m T k S) (.ret (.imm (.agg (dTyc u))) (CI m T k S)):=by
 obtain ⟨a1,a2,a3,a4⟩:=t;refine AQ Ah func116 rfl [4,5,6,7]<|Ai rfl<|Ak (λx:Ty=>[(0,.ref 1 0),(3,.ref 4 0),(4,.ref 5 0)]) (λx=>(4,some (.immb 25 4 (dTyc x)))::(5,some (.cells 25 4 [.imm (.int .i64 0),.imm (.int .i64 0),.imm (.str []),.nils]))::CI m T k S) [6,7] (λx=>if BQ x=9/\BH T (num x)≠none then (num x).toNat+1 else 0)
  (λx=>Top (BH T) x u) (.mk a1 a2 a3 a4) ht AH BA rfl λx hx ih=>?_
 clear ht;obtain ⟨f,n,y,ps⟩:=x;refine Av rfl ?_;by_cases e9:f=9
 ·subst e9;refine R6 rfl λh=>Av rfl ?_;have hlk:=Hf n T;cases hsb:BH T n with
  | none =>
   rw [hsb] at hlk;have hu:Ty.mk 9 n y ps=u:=by
    cases hx with
    | stop _=>rfl
    | step _ h2 _=>rw [show num (Ty.mk 9 n y ps)=n from rfl,hsb] at h2;cases h2
   subst hu;exact CJ Ah 2 (zd:=.agg (dTyc Dr)) (dr:=.imm (.tup [.agg (dTyc Dr),.bool false])) rfl rfl rfl (Ei T) (by simp) rfl HD (by simp only [FC,hlk];rfl)<|yg [] rfl (by simp;rfl)<|R6 rfl λh=>Av rfl<|Ag ⟨_,BA⟩
  | some v =>
   rw [hsb] at hlk;have hx3:Top (BH T) v u:=by
    cases hx with
    | stop h=>have:=h rfl;rw [show num (Ty.mk 9 n y ps)=n from rfl,hsb] at this;cases this
    | step _ h2 h3=>rw [show num (Ty.mk 9 n y ps)=n from rfl,hsb] at h2;cases h2;exact h3
   have hih:=ih v (by
    rw [if_pos (show BQ (Ty.mk 9 n y ps)=9/\BH T (num (Ty.mk 9 n y ps))≠none from ⟨rfl,by rw [show num (Ty.mk 9 n y ps)=n from rfl,hsb];simp⟩)]
    split
    ·rename_i h;have:=hs.down n v hsb h.1;simp only [num] at *;omega
    ·omega) hx3
   obtain ⟨v1,v2,v3,v4⟩:=v;exact CJ Ah 2 (zd:=.agg (dTyc Dr)) (dr:=.imm (.tup [.agg (dTyc (.mk v1 v2 v3 v4)),.bool true])) rfl rfl rfl (Ei T) (by simp) rfl HD (by simp only [FC,hlk];rfl)<|yg [] rfl (by simp;rfl)<|R7 rfl λh=>Av rfl<|Ae hih AH BA rfl
 ·refine Aa rfl (λh=>by exfalso;simp at h;exact e9 h) (λh=>?_);have hu:Ty.mk f n y ps=u:=by
   cases hx with
   | stop _=>rfl
   | step h1 _ _=>exact absurd h1 e9
  subst hu;exact At rfl<|Av rfl<|Ag ⟨_,BA⟩
theorem xP {β:Type} (a b:List (Nat×β)) (t:Nat):lk (a++b) t=(match lk a t with | some x=>some x | none=>lk b t):=by
 induction a with
 | nil=>rfl
 | cons p r ih=>simp only [D0,lk];split <;> simp_all
theorem TTok.app {a b:TT} (ha:TTok P a) (hb:TTok P b):TTok P (a++b):=λt ti h=>by
 rw [xP] at h;cases e:lk a t with
 | some x=>rw [e] at h;cases h;exact ha t _ e
 | none=>rw [e] at h;exact hb t _ h
def rC:TT:=Yj++[
 (238,⟨.ptr 279,false,1,8,[.imm .nilp]⟩),
 (283,⟨.struct [(0,281),(1,9),(2,3),(3,3)],true,4,40,[.imm (.int .i64 0),.imm (.str []),.imm (.int .i64 0),.imm (.int .i64 0)]⟩),
 (275,⟨.sl 283,false,1,24,[.nils]⟩),
 (279,⟨.struct [(0,275),(1,3),(2,4)],true,3,40,[.nils,.imm (.int .i64 0),.imm (.bool false)]⟩),
 (281,⟨.int .i64,false,1,8,[.imm (.int .i64 0)]⟩),
 (73,⟨.sl 9,false,1,24,[.nils]⟩)]
theorem AJ:TTok prog rC:=TTok.app Ah (.of_eq (l:=[238,283,275,279,281,73]) (by kernel_rfl))
theorem jd (path:List Pt) (h:run rC n 300 path todo env st ids [] = .at k env' st' ids' ob) (hob:AG ob) (hd:Tq1 n F Q k env' st' ids'):Tq2 n F Q todo env st ids:=L4 AJ Fh 300 path h hob hd
theorem A3 (h:run rC n 300 [] todo env st ids [] = .at k env' st' ids' ob) (hd:Tq1 n F Q k env' st' ids') (hob:AG ob:=by simp):Tq2 n F Q todo env st ids:=jd [] h hob hd
theorem Xb (h:run rC n 300 [] todo env st ids [] = .at k env' st' ids' ob) (hd:Tq1 n F Q k env' st' ids') (hob:AG ob:=by simp [Ap]):Tq2 n F Q todo env st ids:=jd [] h hob hd
theorem jg (path:List Pt) (h:run rC n 300 path todo env st ids [] = .at k env' st' ids' ob) (hob:AG ob) (hd:Tq1 n F Q k env' st' ids'):Tq1 n F Q todo env st ids:=J4 AJ Fh 300 path h hob hd
theorem Aq (h:run rC n 300 [] todo env st ids [] = .at k env' st' ids' ob) (hd:Tq1 n F Q k env' st' ids') (hob:AG ob:=by simp):Tq1 n F Q todo env st ids:=jg [] h hob hd
theorem La (h:run rC n 300 [] todo env st ids [] = .at k env' st' ids' ob) (hd:Tq1 n F Q k env' st' ids') (hob:AG ob:=by simp [Ap]):Tq1 n F Q todo env st ids:=jg [] h hob hd
theorem jgf (f:Nat) (h:run rC n f [] todo env st ids [] = .at k env' st' ids' ob) (hob:AG ob) (hd:Tq1 n F Q k env' st' ids'):Tq1 n F Q todo env st ids:=J4 AJ Fh f [] h hob hd
theorem ji {m:Int} {t:Nat} (h:Se rC n env todo=some ⟨es,m,sz,e,g,ob,some t,todo'⟩) (hc:Ap g->0<=m/\es[m.toNat]?=some c/\c.length=sz) (hob:AG ob) (hk:Tq1 n F Q todo' ((t,gD g (.ip e c 0))::env) st ids):Tq1 n F Q todo env st ids:=HT AJ h hc hob hk
theorem TB {t:Nat} (h:Se rC n env todo=some ⟨es,(i:Int),sz,e,g,ob,some t,todo'⟩) (hg:es[i]?=some c) (hk:Tq1 n F Q todo' ((t,gD g (.ip e c 0))::env) st ids) (hl:c.length=sz:=by simp) (hob:AG ob:=by simp):Tq1 n F Q todo env st ids:=ji h (λ_=>⟨by omega,by simpa using hg,hl⟩) hob hk
theorem zes {t:Nat} (h:Se rC n env todo=some ⟨es,(i:Int),sz,e,g,ob,some t,todo'⟩) (hg:es[i]?=some c) (hk:Tq1 n F Q todo' ((t,gD g (.ip e c 0))::env) st ids) (hl:c.length=sz:=by simp) (hob:AG ob:=by simp [Ap]):Tq1 n F Q todo env st ids:=ji h (λ_=>⟨by omega,by simpa using hg,hl⟩) hob hk
theorem Tv (c:UInt8):Tq3 309 [.int .u8 c.toNat] (.bool (Sj c)):=by
 refine AQ AJ func309 rfl [1,2]<|La rfl<|Ab rfl rfl (congrArg _ ?_);simp [Sj,UInt8.le_iff_toNat_le];norm_cast
theorem iC (c:UInt8):Tq3 311 [.int .u8 c.toNat] (.bool (oO c)):=by
 refine AQ AJ func311 rfl [1,2]<|La rfl<|Ab rfl rfl (congrArg _ ?_);simp [oO,UInt8.le_iff_toNat_le];norm_cast
theorem XA (c:UInt8):Tq3 312 [.int .u8 c.toNat] (.bool (Ng c)):=by
 refine AQ AJ func312 rfl [1,2]<|La rfl<|Ab rfl rfl (congrArg _ ?_);simp [Ng,UInt8.le_iff_toNat_le];norm_cast
theorem eX {a:Nat} {d:Bool} {c:UInt8} (h:s[a]?=some c):GQ s a d=if (if d=true then Ng c else Sj c)=true then GQ s (a+1) d+1 else 0:=by
 unfold GQ;rw [As h,Sa];cases d <;> rfl
theorem kX {a:Nat} {d:Bool} (h:s.length<=a):GQ s a d=0:=by
 unfold GQ;rw [Bh h];rfl
theorem bR (s:Str) (a:Nat) (d:Bool):GQ s a d<=s.length-a:=by
 have h:∀(p:UInt8->Bool) (l:Str),Sa p l<=l.length:=λp l=>by
  induction l with
  | nil=>simp [Sa]
  | cons c r ih=>simp only [Sa];split <;> simp <;> omega
 have:=h (if d=true then Ng else Sj) (s.drop a);rw [J2] at this;exact this
theorem U4 (s:Str) (a:Nat) (d:Bool) (ha:a<=s.length) (hs:s.length<=1000000):Tq3 310 [.str s,.int .i64 a,.bool d] (.int .i64 (GQ s a d)):=by
 refine AQ AJ func310 rfl [1,2]<|Aq rfl<|Ak (λn:Nat=>[(7,.imm (.int .i64 n)),(0,.imm (.str s)),(1,.imm (.int .i64 a)),(2,.imm (.bool d))]) (λ_=>[]) [1,2] (λn=>s.length-n) (λn=>a<=n/\n<=s.length/\GQ s a d=n-a+GQ s n d) a
  ⟨BL _,ha,by omega⟩ BJ trivial rfl λn hn ih=>?_
 obtain ⟨hn1,hn2,hn3⟩:=hn;have hD:=XA (s[n]?.getD 0);have hL:=Tv (s[n]?.getD 0);by_cases hlt:n<s.length
 ·obtain ⟨c,hc⟩:=Am hlt;have hcn:s[n]?.getD 0=c:=by rw [hc];rfl
  have hgo:∀o,(if d=true then Ng c else Sj c)=o->GQ s a d=if o=true then (n+1-a)+GQ s (n+1) d else n-a:=λo h=>by
   rw [hn3,eX hc,h];split <;> omega
  rw [<- hcn] at hgo;refine jd [] rfl (by simp [Ap];omega) ?_;cases d with
  | true =>
   refine Ce rfl hD<|La rfl<|Aj (v:=.bool false) rfl (λhc=>by simp [Ap] at hc) (by simp [Ap])<|jg [] rfl (by simp [Ap];grind) ?_;have:=hgo _ rfl;simp only [if_true] at this;generalize Ng (s[n]?.getD 0)=o at *;cases o with
   | true =>
    refine Aa rfl (λh=>?_) (λh=>by exfalso;simp [hlt] at h);exact A3 rfl<|Ae (ih (n+1) (by omega) ⟨by omega,by omega,by simpa using this⟩) ⟨M6,AH⟩ trivial rfl
   | false =>
    exact R7 rfl λh=>At rfl<|A3 rfl<|Ag ⟨_,rfl,tV (congrArg _ (by rw [this];simp;rw [BW (by omega) (by omega)];omega)),trivial⟩
  | false =>
   refine Aj (v:=.bool false) rfl (λhc=>by simp [Ap] at hc) (by simp [Ap])<|La rfl<|Ce rfl hL<|La rfl ?_;have:=hgo _ rfl;simp only [E1,if_false] at this;generalize Sj (s[n]?.getD 0)=o at *;cases o with
   | true =>
    refine Aa rfl (λh=>?_) (λh=>by exfalso;simp [hlt] at h);exact A3 rfl<|Ae (ih (n+1) (by omega) ⟨by omega,by omega,by simpa using this⟩) ⟨M6,AH⟩ trivial rfl
   | false =>
    exact R7 rfl λh=>At rfl<|A3 rfl<|Ag ⟨_,rfl,tV (congrArg _ (by rw [this];simp;rw [BW (by omega) (by omega)];omega)),trivial⟩
 ·rw [kX (a:=n) (by omega)] at hn3;exact jd [] rfl (by simp [Ap];omega)<|Aj (v:=.bool false) rfl (λhc=>by simp [Ap] at hc;omega) (by simp [Ap])<|jg [] rfl (by simp [Ap];omega)<|Aj (v:=.bool false) rfl (λhc=>by simp [Ap] at hc;omega) (by simp [Ap])<|jg [] rfl (by simp [Ap];omega)<|R7 rfl λh=>At rfl<|A3 rfl<|Ag ⟨_,rfl,tV (congrArg _ (by rw [hn3,BW (by omega) (by omega)];omega)),trivial⟩
theorem kT:Tq3 320 [] (.sl (E6 signsL)):=by
 exact AQ AJ func320 rfl [1]<|Aq rfl<|Ab rfl rfl rfl
theorem Yw {t:Str} {l:List Str} (h:l[i]?=some x):Lg t (l.drop i)=if x.length<=t.length/\t.take x.length=x then x else Lg t (l.drop (i+1)):=by rw [As h,Lg]
theorem rK (s:Str) (a:Nat) (ha:a<=s.length) (hs:s.length<=1000000):Tq3 315 [.str s,.int .i64 a] (.str (ST s a)):=by
 have hS:=kT;have hlen:∀x∈signsL,x.length<=2:=by decide
 have hll:signsL.length<=18:=by decide
 unfold ST;generalize signsL=l at *;refine AQ AJ func315 rfl [1]<|Aq rfl<|Ad rfl hS<|Aq rfl<|Ak (λi:Nat=>[(6,.imm (.int .i64 i)),(5,.imm (.sl (E6 l))),(0,.imm (.str s)),(1,.imm (.int .i64 a))]) (λ_=>[]) [1] (λi=>l.length-i) (λi=>i<=l.length/\Lg (s.drop a) l=Lg (s.drop a) (l.drop i)) 0
  ⟨AF _,rfl⟩ BJ trivial rfl λi hi ih=>?_
 obtain ⟨hi1,hi2⟩:=hi;refine A3 rfl<|Aa rfl (λh=>?_) (λh=>?_)
 ·have hlt:i<l.length:=by simp at h;omega
  obtain ⟨x,hx⟩:=Am hlt;have hg:=RD hx;have hxl:=hlen x (AK hx);rw [Yw hx] at hi2;refine A3 rfl<|TB rfl hg<|La rfl<|zes rfl hg ?_;have w1:IntKind.i64.wrap ((s.length:Int)-a)=s.length-a:=BW (by omega) (by omega);have w2:IntKind.i64.wrap ((a:Int)+x.length)=a+x.length:=BW (by omega) (by omega);refine jg [] rfl (by simp [Ap,w1,w2];omega)<|zes rfl hg<|jg [] rfl (by simp [Ap];kernel_rfl) ?_;have hc:(x.length<=(s.drop a).length/\(s.drop a).take x.length=x)↔((x.length:Int)<=s.length-a/\(s.drop a).take (a+x.length-a)=x):=by
   rw [J2,nB];refine and_congr ?_ Iff.rfl;omega
  have ha2:((a:Int)+(x.length:Int)).toNat=a+x.length:=by omega
  refine Aa rfl (λh=>?_) (λh=>?_)
  ·rw [w1,w2,ha2] at h;rw [if_pos (hc.2 (by simpa [and_comm] using h))] at hi2;exact A3 rfl<|TB rfl hg<|Aq rfl<|Ag ⟨_,rfl,tV (congrArg _ hi2.symm),trivial⟩
  ·rw [w1,w2,ha2] at h;rw [if_neg (λh'=>by have:=hc.1 h';simp [this] at h;exact h h'.2)] at hi2;exact A3 rfl<|Ae (ih (i+1) (by omega) ⟨by omega,hi2⟩) ⟨M6,AH⟩ trivial rfl
 ·have hlt:l.length<=i:=by simp at h;omega
  rw [Bh hlt] at hi2;exact At rfl<|A3 rfl<|Ag ⟨_,rfl,tV (congrArg _ hi2.symm),trivial⟩
theorem XB {c:UInt8} (h:Ng c=true):48<=c.toNat/\c.toNat<=57:=by
 simp only [Ng,A2,decide_eq_true_eq,UInt8.le_iff_toNat_le] at h;exact h
theorem Xd (s:Str) (a:Nat) (ha:a<s.length) (hs:s.length<=1000000) (hd:Ng (s.getD a 0)=true) (hr:GQ s a true=1):Tq3 313 [.str s,.int .i64 a] (.int .i64 1):=by
 have hR:=U4 s a true (by omega) hs;obtain ⟨h1,h2⟩:=XB hd;have hg:s[a]?.getD 0=s.getD a 0:=by simp
 rw [<- hg] at h1 h2;rw [hr] at hR;refine AQ AJ func313 rfl [1]<|jg [] rfl (by simp;omega)<|Aa rfl (λh=>by exfalso;simp at h;omega) (λh=>?_);exact A3 rfl<|Ad rfl hR<|jg [] rfl (by simp [Ap];omega)<|R7 rfl λh=>A3 rfl<|Ag ⟨_,rfl,tV (by simp;rfl),trivial⟩
theorem YR (c:UInt8) (hd:Ng c=true):Tq3 314 [.str [c]] (.int .i64 ((c.toNat:Int)-48)):=by
 obtain ⟨h1,h2⟩:=XB hd;have hw:IntKind.i64.wrap (IntKind.i64.wrap 0+IntKind.i64.wrap (IntKind.u8.wrap ((c.toNat:Int)-48)))=(c.toNat:Int)-48:=by
  obtain ⟨k,hk,e⟩:∃k:Nat,k<10/\c.toNat=48+k:=⟨c.toNat-48,by omega,by omega⟩
  rw [e];clear e h1 h2 hd;revert k;decide
 refine AQ AJ func314 rfl [1]<|Aq rfl<|Aa rfl (λh=>by exfalso;simp at h;omega) (λh=>?_);refine A3 rfl<|Ak (λi:Nat=>[(4,.imm (.int .i64 i)),(3,.imm (.int .i64 (if i=0 then 0 else (c.toNat:Int)-48))),(0,.imm (.str [c]))]) (λ_=>[]) [1] (λi=>1-i) (λi=>i<=1) 0
  (AF _) AH trivial rfl λi hi ih=>?_
 rcases Nat.lt_or_ge i 1 with hlt | hge
 ·obtain rfl:i=0:=by omega
  exact A3 rfl<|R6 rfl λh=>A3 rfl<|Ae (ih 1 (by omega) (BL _)) ⟨A8 rfl,A8 (by simp;exact hw),AC⟩ trivial rfl
 ·obtain rfl:i=1:=by omega
  exact A3 rfl<|R7 rfl λh=>At rfl<|A3 rfl<|Ag ⟨_,rfl,tV (by simp),trivial⟩
theorem Yv {a:Nat} {c:UInt8} (h:s[a]?=some c):EO s a=if RM c=true then EO s (a+1) else a:=by
 unfold EO;rw [As h,Sa]
 split <;> omega
theorem eR {a:Nat} (h:s.length<=a):EO s a=a:=by
 unfold EO;rw [Bh h];rfl
theorem bS (p:UInt8->Bool):∀l:Str,Sa p l<=l.length
 | []=>BL _
 | c::r=>by have:=bS p r;simp only [Sa];split <;> simp <;> omega
theorem VS (s:Str) (a:Nat) (h:a<=s.length):a<=EO s a/\EO s a<=s.length:=by
 unfold EO;have:=bS RM (s.drop a);rw [J2] at this;omega
theorem XX (c:UInt8):(bif (bif (c.toNat:Int) == 32 then true else (c.toNat:Int) == 9) then true else (c.toNat:Int) == 10)=RM c:=by
 have e:∀k:UInt8,(decide (c=k))=((c.toNat:Int) == (k.toNat:Int)):=λk=>by
  rw [EY,decide_eq_true_iff,beq_iff_eq,L3,UInt8.toNat_inj]
 unfold RM;rw [e 32,e 9,e 10];show _=((c.toNat:Int) == 32||(c.toNat:Int) == 9||(c.toNat:Int) == 10);cases ((c.toNat:Int) == 32) <;> cases ((c.toNat:Int) == 9) <;> rfl
theorem Qq (s:Str) (a:Nat) (ha:a<=s.length) (hs:s.length<=1000000) (hc:s.getD (EO s a) 0≠47):Tq3 299 [.str s,.int .i64 a] (.int .i64 (EO s a)):=by
 refine AQ AJ func299 rfl [1]<|Aq rfl<|Ak (λn:Nat=>[(1,.imm (.int .i64 n)),(0,.imm (.str s))]) (λ_=>[]) [1] (λn=>s.length-n) (λn=>n<=s.length/\EO s a=EO s n) a
  ⟨ha,rfl⟩ AD trivial rfl λn hn ih=>?_
 obtain ⟨hn1,hn2⟩:=hn;refine A3 rfl<|Aa rfl (λh=>?_) (λh=>?_)
 ·have hlt:n<s.length:=by simp at h;omega
  obtain ⟨c,hcn⟩:=Am hlt;have hcg:s.getD n 0=c:=by simp [hcn]
  have hst:=Yv hcn;refine jd [] rfl (by simp [Ap];omega)<|Aa rfl (λh=>?_) (λh=>?_)
  ·have h:(bif (bif ((s.getD n 0).toNat:Int) == 32 then true else ((s.getD n 0).toNat:Int) == 9) then true else ((s.getD n 0).toNat:Int) == 10)=true:=h;rw [XX,hcg] at h;rw [if_pos h] at hst;exact A3 rfl<|Ae (ih (n+1) (by omega) ⟨by omega,by rw [hn2,hst]⟩) ⟨M6,AC⟩ trivial rfl
  ·have h:(bif (bif ((s.getD n 0).toNat:Int) == 32 then true else ((s.getD n 0).toNat:Int) == 9) then true else ((s.getD n 0).toNat:Int) == 10)=false:=h;rw [XX,hcg] at h;rw [if_neg (by rw [h];simp)] at hst;rw [hn2,hst,hcg] at hc;have w1:IntKind.i64.wrap ((s.length:Int)-n)=s.length-n:=BW (by omega) (by omega);have w2:IntKind.i64.wrap ((n:Int)+2)=n+2:=BW (by omega) (by omega);refine jd [] rfl (by simp [Ap,w1,w2];omega)<|Aa rfl (λh=>?_) (λh=>?_)
   ·exfalso;rw [w1,w2,show ((n:Int)+2).toNat-(n:Int).toNat=2 by omega,show (n:Int).toNat=n from rfl,As hcn] at h;have h2:((c::s.drop (n+1)).take 2 == [47,47])=true:=by
     cases e:(decide ((s.length:Int)-n>=2)) with
     | false=>rw [e] at h;cases h
     | true=>rw [e] at h;exact h
    simp at h2;exact hc h2.1
   ·exact A3 rfl<|Ag ⟨_,rfl,tV (by rw [hn2,hst]),trivial⟩
 ·have hge:s.length<=n:=by simp at h;omega
  rw [eR hge] at hn2;exact At rfl<|A3 rfl<|Ag ⟨_,rfl,tV (by rw [hn2]),trivial⟩
theorem sS (s:Str) (a:Nat) (t:Tok) (ha:a<s.length) (hs:s.length<=1000000) (h:Tn s a=some t):Tq3 300 [.str s,.int .i64 a] (.agg (GY t)):=by
 have hL:=Tv (s.getD a 0);have hG:=iC (s.getD a 0);have hD:=XA (s.getD a 0);unfold Tn at h;by_cases c1:Sj (s.getD a 0)=true
 ·rw [if_pos c1] at h;rw [c1] at hL;have hR:=U4 s a false (by omega) hs;have hle:=bR s a false;have hK:=qP (Ua s a (GQ s a false));generalize GQ s a false=r at *;have w1:IntKind.i64.wrap ((a:Int)+r)=a+r:=BW (by omega) (by omega);have hx:(s.drop (a:Int).toNat).take ((IntKind.i64.wrap ((a:Int)+r)).toNat-(a:Int).toNat)=Ua s a r:=by
   rw [w1,show ((a:Int)+r).toNat-(a:Int).toNat=r by omega];rfl
  have hcl:(Ua s a r).length=r:=by rw [Ua,FA,J2];omega
  refine AQ AJ func300 rfl [1,2,3]<|jg [] rfl (by simp;omega)<|Ad rfl hL<|Aq rfl<|R6 rfl λh=>A3 rfl<|Ad rfl hR<|jg [] rfl (by simp [w1];omega) ?_;rw [hx];generalize Ua s a r=x at *;refine Ad rfl hK<|Aq rfl ?_;generalize Ra x=o at *;cases o with
  | true =>
   rw [if_pos rfl] at h;cases h;exact R6 rfl λh=>A3 rfl<|Ab rfl rfl rfl
  | false =>
   rw [if_neg (by simp)] at h;cases h;refine R7 rfl λh=>A3 rfl<|Aa rfl (λh=>?_) (λh=>?_)
   ·rw [if_pos (by simp at h;omega)];exact A3 rfl<|Ab rfl rfl rfl
   ·rw [if_neg (by simp at h;omega)];exact A3 rfl<|Ab rfl rfl rfl
 have c1:Sj (s.getD a 0)=false:=by simpa using c1
 rw [if_neg (by rw [c1];simp)] at h;rw [c1] at hL;by_cases c2:oO (s.getD a 0)=true
 ·rw [if_pos c2] at h;rw [c2] at hG;have hR:=U4 s (a+1) false (by omega) hs;have hle:=bR s (a+1) false;have hw0:IntKind.i64.wrap ((a:Int)+1)=((a+1:Nat):Int):=by rw [BW (by omega) (by omega)];omega
  generalize GQ s (a+1) false=r at *;have w1:IntKind.i64.wrap (((a+1:Nat):Int)+r)=a+(1+r):=by rw [BW (by omega) (by omega)];omega
  have hx:(s.drop (a:Int).toNat).take ((IntKind.i64.wrap (((a+1:Nat):Int)+r)).toNat-(a:Int).toNat)=Ua s a (1+r):=by
   rw [w1,show ((a:Int)+(1+r)).toNat-(a:Int).toNat=1+r by omega];rfl
  have hcl:(Ua s a (1+r)).length=1+r:=by rw [Ua,FA,J2];omega
  cases h;refine AQ AJ func300 rfl [1,2,3]<|jg [] rfl (by simp;omega)<|Ad rfl hL<|Aq rfl<|R7 rfl λh=>jd [] rfl (by simp;omega)<|Ad rfl hG<|Aq rfl<|R6 rfl λh=>A3 rfl ?_;rw [hw0];refine Ad rfl hR<|jg [] rfl (by rw [w1];simp;omega) ?_;rw [hx];generalize Ua s a (1+r)=x at *;refine Aa rfl (λh=>?_) (λh=>?_)
  ·rw [if_pos (by simp at h;omega)];exact A3 rfl<|Ab rfl rfl rfl
  ·rw [if_neg (by simp at h;omega)];exact A3 rfl<|Ab rfl rfl rfl
 have c2:oO (s.getD a 0)=false:=by simpa using c2
 rw [if_neg (by rw [c2];simp)] at h;rw [c2] at hG;by_cases c3:Ng (s.getD a 0)=true
 ·rw [if_pos c3] at h;rw [c3] at hD;by_cases c4:GQ s a true=1
  ·rw [if_pos c4] at h;cases h;have hI:=Xd s a ha hs c3 c4;have hN:=YR (s.getD a 0) c3;have w1:IntKind.i64.wrap ((a:Int)+1)=a+1:=BW (by omega) (by omega);have hx:(s.drop (a:Int).toNat).take ((IntKind.i64.wrap ((a:Int)+1)).toNat-(a:Int).toNat)=Ua s a 1:=by
    rw [w1,show ((a:Int)+1).toNat-(a:Int).toNat=1 by omega];rfl
   have hc1:Ua s a 1=[s.getD a 0]:=by
    obtain ⟨c,hc⟩:=Am ha;rw [Ua,As hc];simp [hc]
   refine AQ AJ func300 rfl [1,2,3]<|jg [] rfl (by simp;omega)<|Ad rfl hL<|Aq rfl<|R7 rfl λh=>jd [] rfl (by simp;omega)<|Ad rfl hG<|Aq rfl<|R7 rfl λh=>jd [] rfl (by simp;omega)<|Ad rfl hD<|La rfl<|R6 rfl λh=>A3 rfl<|Ad rfl hI<|Aq rfl<|R6 rfl λh=>jd [] rfl (by simp [w1];omega) ?_;rw [hx,hc1];exact Ad rfl hN<|jg [] rfl (by simp;kernel_rfl)<|Ab rfl rfl rfl
  ·rw [if_neg c4] at h;cases h
 have c3:Ng (s.getD a 0)=false:=by simpa using c3
 rw [if_neg (by rw [c3];simp)] at h;rw [c3] at hD;by_cases c5:s.getD a 0=126
 ·rw [if_pos c5] at h;cases h
 ·rw [if_neg c5] at h;cases h;have hS:=rK s a (by omega) hs;have hne:((s.getD a 0).toNat:Int)≠126:=λe=>c5 (UInt8.toNat_inj.1 (L3.1 (e:_=((126:UInt8).toNat:Int))));generalize ST s a=x at *;refine AQ AJ func300 rfl [1,2,3]<|jg [] rfl (by simp;omega)<|Ad rfl hL<|Aq rfl<|R7 rfl λh=>jd [] rfl (by simp;omega)<|Ad rfl hG<|Aq rfl<|R7 rfl λh=>jd [] rfl (by simp;omega)<|Ad rfl hD<|jg [] rfl (by simp [Ap];omega)<|Aa rfl (λh=>by exfalso;simp at h hne;omega) (λh=>?_);refine A3 rfl<|Ad rfl hS<|Aq rfl<|Aa rfl (λh=>?_) (λh=>?_)
  ·rw [if_neg (by simpa using h)];exact A3 rfl<|Ab rfl rfl rfl
  ·rw [if_pos (by simpa using h)];exact A3 rfl<|Ab rfl rfl rfl
@[simp] theorem dTok_length (t:Tok):(GY t).length=4:=rfl
theorem yK (l:List Tok):∀c∈l.map GY,c.length=4:=λc hc=>by obtain ⟨x,_,rfl⟩:=Cc.1 hc;rfl
theorem fP {a:Nat} {t:Tok} (ha:a<s.length) (h:Tn s a=some t) (hk:t.kind≠0):a+t.text.length<=s.length:=by
 have hc:∀n,(Ua s a n).length<=s.length-a:=λn=>by rw [Ua,FA,J2];omega
 have hF:∀(u:Str) (l:List Str),(Lg u l).length<=u.length:=λu l=>by
  induction l with
  | nil=>simp [Lg]
  | cons x r ih=>rw [Lg];split <;> omega
 have hS:=hF (s.drop a) signsL;rw [J2] at hS;have hS:(ST s a).length<=s.length-a:=hS;unfold Tn at h
 split at h
 ·cases h;have:=hc (GQ s a false);simp only;omega
 ·split at h
  ·cases h;have:=hc (1+GQ s (a+1) false);simp only;omega
  ·split at h
   ·split at h
    ·cases h;have:=hc 1;simp only;omega
    ·cases h
   ·split at h
    ·cases h
    ·cases h;simp only;omega
theorem uZ (s:Str) (l:List Tok) (hs:s.length<=1000000) (f:Nat) (hf:f<=1000000) (h:Iu f s (EO s 0)=some l):Tq3 277 [.str s] (.tup [.sl (l.map GY),.int .i64 s.length]):=by
 have key:∀f a l,Iu f s a=some l->s.getD a 0≠47:=λf a l h=>by
  cases f with
  | zero=>cases h
  | succ f =>
   rw [Iu] at h;by_cases e:s.length<=a
   ·simp [Lp e]
   ·rw [if_neg e] at h;intro e2;rw [if_pos e2] at h;cases h
 have hK0:=Qq s 0 (AF _) hs (key _ _ _ h);have hle:=VS s 0 (AF _);refine AQ AJ func277 rfl [1,2,3,4]<|Aq rfl<|Ad rfl hK0<|Aq rfl<|HX (e:=283) (sz:=4) 4 1 (by decide) rfl ?_;generalize EO s 0=a0 at *;clear hK0;refine Ak (λz:Nat×Nat×List Tok=>[(5,.imm (.int .i64 z.2.1)),(4,.own 1 (z.2.2.map GY).length),(0,.imm (.str s))]) (λz=>[(1,some (.row 283 4 (z.2.2.map GY)))]) [2,3,4] (λz=>z.1)
  (λz=>z.2.1<=s.length/\z.2.2.length+z.1=f/\∃r,Iu z.1 s z.2.1=some r/\z.2.2++r=l) (f,a0,[]) ⟨hle.2,by simp,l,h,rfl⟩
  AH AC rfl λz hz ih=>?_
 obtain ⟨f,a,acc⟩:=z;obtain ⟨h1,h2,r,h3,h4⟩:=hz;simp only at h1 h2 h3 h4 ih;refine A3 rfl<|Aa rfl (λh=>?_) (λh=>?_)
 ·have hlt:a<s.length:=by simp at h;omega
  cases f with
  | zero=>cases h3
  | succ f =>
   rw [Iu,if_neg (by omega)] at h3;by_cases e1:s.getD a 0=47
   ·rw [if_pos e1] at h3;cases h3
   rw [if_neg e1] at h3;cases hn:Tn s a with
   | none=>rw [hn] at h3;cases h3
   | some t =>
    rw [hn] at h3;simp only at h3;by_cases e2:t.kind=0
    ·rw [if_pos e2] at h3;cases h3
    rw [if_neg e2] at h3;cases ht:Iu f s (EO s (a+t.text.length)) with
    | none=>rw [ht] at h3;cases h3
    | some r2 =>
     rw [ht] at h3;cases h3;have hN:=sS s a t hlt hs hn;have n2:=fP hlt hn e2;have hS:=Qq s (a+t.text.length) n2 hs (key _ _ _ ht);have hsl:=VS s (a+t.text.length) n2;obtain ⟨t1,t2,t3,t4⟩:=t;simp only at e2 n2 hS hsl ht;generalize EO s (a+t2.length)=a2 at *;refine A3 rfl<|Ad rfl hN<|Aq rfl<|Aa rfl (λh=>by exfalso;simp at h;exact e2 h) (λh=>?_);refine A3 rfl<|Bn AJ rfl ⟨by simp,by simp [maxLen];omega,by simp;omega,trivial⟩ ?_;have w:IntKind.i64.wrap ((a:Int)+t2.length)=((a+t2.length:Nat):Int):=by rw [BW (by omega) (by omega)];omega
     refine Aq rfl ?_;rw [w];refine Ad rfl hS<|Aq rfl<|Bo 1 3 rfl ?_;have et:(acc++[(⟨t1,t2,t3,t4⟩:Tok)]).map GY=acc.map GY++[GY ⟨t1,t2,t3,t4⟩]:=by simp
     exact Ae (ih (f,a2,acc++[⟨t1,t2,t3,t4⟩]) (Je _) ⟨hsl.2,by simp only [AZ,Cq,B5];omega,r2,ht,by rw [Cl];exact h4⟩) ⟨rfl,by rw [et];rfl,AC⟩ ⟨by rw [et];rfl,trivial⟩ rfl
 ·have hge:s.length<=a:=by simp at h;omega
  have hr:r=[]:=by
   cases f with
   | zero=>cases h3
   | succ f=>rw [Iu,if_pos hge] at h3;cases h3;rfl
  subst hr;rw [HP] at h4;subst h4;exact At rfl<|Bv 1 rfl<|A3 rfl<|Ab rfl rfl rfl
theorem jF (s:Str) (l:List Tok) (hs:s.length<=8000) (f:Nat) (hf:f<=1000000) (h:Iu f s (EO s 0)=some l):Tq3 236 [.str s] (.tup [.sl (l.map GY),.int .i64 0]):=by
 have hL:=uZ s l (by omega) f hf h;refine AQ AJ func236 rfl [1,2]<|Aq rfl<|Aa rfl (λh=>by exfalso;simp at h;omega) (λh=>?_);exact A3 rfl<|Ad rfl hL<|Aq rfl<|R7 rfl λh=>A3 rfl<|Ab rfl rfl rfl
def lG (l:List Tok) (a:Nat):Blk:=.immb 279 3 [.sl (l.map GY),.int .i64 a,.bool false]
def GG (l:List Tok) (a:Nat):St:=[(1,some (lG l a))]
theorem bW (s:Str) (l:List Tok) (hs:s.length<=8000) (f:Nat) (hf:f<=1000000) (h:Iu f s (EO s 0)=some l):Tq4 170 [.imm (.str s)] [] (.ret (.tup [.ref 1 0,.imm (.int .i64 0)]) (GG l 0)):=by
 have hT:=jF s l hs f hf h;exact AQ AJ func170 rfl [1,2]<|Aq rfl<|Ad rfl hT<|Aq rfl<|Ag ⟨_,AH⟩
theorem IN {t:Tok} (h:l[i]?=some t):(l.map GY)[i]?=some (GY t):=by simp [h]
theorem Mp (l:List Tok) (a:Nat) (x:Str):Tq4 279 [.ref 1 0,.imm (.str x)] (GG l a) (.ret (.imm (.bool (AY l a x))) (GG l a)):=by
 refine AQ AJ func279 rfl [2,3]<|jg [] rfl (by simp [Ap];kernel_rfl) ?_;unfold AY;cases h:l[a]? with
 | none =>
  have hge:l.length<=a:=Jd.1 h;refine Aa rfl (λh=>?_) (λh=>by exfalso;simp at h;omega);exact A3 rfl<|Ag ⟨_,AH⟩
 | some t =>
  have hlt:=(AO.1 h).1;have hg:=IN h;refine Aa rfl (λh=>by exfalso;simp at h;omega) (λh=>?_);obtain ⟨t1,t2,t3,t4⟩:=t;refine A3 rfl<|TB rfl hg<|jg [] rfl (by simp;kernel_rfl)<|Ag ⟨_,rfl,?_,AC⟩;show zab (HH [D.imm (V.bool (bif (bif t1 == 5 then true else t1 == 3) then t2 == x else false))]) (D.imm (V.bool ((t1 == 5||t1 == 3)&&t2 == x)));cases (t1 == 5) <;> cases (t1 == 3) <;> rfl
theorem CT {a:Nat} (hl:l.length<=10000) (h:AY l a x=true):Tq4 239 [.ref 1 0,.imm (.str x)] (GG l a) (.ret (.imm (.bool true)) (GG l (a+1))):=by
 have hS:=Mp l a x;rw [h] at hS;have hlt:a<l.length:=by
  cases e:l[a]? with
  | none=>rw [AY,e] at h;cases h
  | some t=>exact (AO.1 e).1
 have w:IntKind.i64.wrap ((a:Int)+1)=((a+1:Nat):Int):=by rw [BW (by omega) (by omega)];omega
 refine AQ AJ func239 rfl [2,3]<|Aq rfl<|C8 rfl hS Aw rfl<|Aq rfl<|R6 rfl λh=>A3 rfl ?_;rw [w];exact Ag ⟨_,AH⟩
theorem Bj {a:Nat} (h:AY l a x=false):Tq4 239 [.ref 1 0,.imm (.str x)] (GG l a) (.ret (.imm (.bool false)) (GG l a)):=by
 have hS:=Mp l a x;rw [h] at hS;exact AQ AJ func239 rfl [2,3]<|Aq rfl<|C8 rfl hS Aw rfl<|Aq rfl<|R7 rfl λh=>A3 rfl<|Ag ⟨_,AH⟩
theorem BB {a:Nat} (hl:l.length<=10000) (h:AY l a x=true):Tq4 237 [.ref 1 0,.imm (.str x)] (GG l a) (.ret (.imm (.tup [])) (GG l (a+1))):=by
 have hS:=CT hl h;exact AQ AJ func237 rfl [2,3]<|Aq rfl<|C8 rfl hS Aw rfl<|Aq rfl<|R7 rfl λh=>A3 rfl<|BP ⟨[],AH⟩
theorem Kd (l:List Tok) (a:Nat) (k:Int):Tq4 278 [.ref 1 0,.imm (.int .i64 k)] (GG l a) (.ret (.imm (.bool (LQ l a k))) (GG l a)):=by
 refine AQ AJ func278 rfl [2,3]<|La rfl ?_;unfold LQ;cases h:l[a]? with
 | none =>
  have hge:l.length<=a:=Jd.1 h;refine ji rfl (c:=[.int .i64 0,.str [],.int .i64 0,.int .i64 0]) (λhc=>by exfalso;simp [Ap] at hc;omega) (by simp [Ap])<|jg [] rfl (by simp [Ap];kernel_rfl)<|Ag ⟨_,rfl,?_,AC⟩;rw [show decide ((a:Int)<((l.map GY).length:Int))=false from decide_eq_false (by simp;omega)];rfl
 | some t =>
  have hlt:=(AO.1 h).1;have hg:=IN h;obtain ⟨t1,t2,t3,t4⟩:=t;refine zes rfl hg<|jg [] rfl (by simp [Ap];kernel_rfl)<|Ag ⟨_,rfl,?_,AC⟩;rw [show decide ((a:Int)<((l.map GY).length:Int))=true from decide_eq_true (by simp;omega)];rfl
theorem D5 {a:Nat} {k:Int} (hl:l.length<=10000) {t:Tok} (ht:l[a]?=some t) (hk:t.kind=k):Tq4 238 [.ref 1 0,.imm (.int .i64 k)] (GG l a) (.ret (.imm (.agg (GY t))) (GG l (a+1))):=by
 have hI:=Kd l a k;rw [LQ,ht] at hI;simp only [hk,beq_self_eq_true] at hI;have hlt:=(AO.1 ht).1;have hg:=IN ht;have w:IntKind.i64.wrap ((a:Int)+1)=((a+1:Nat):Int):=by rw [BW (by omega) (by omega)];omega
 obtain ⟨t1,t2,t3,t4⟩:=t;refine AQ AJ func238 rfl [2,3,4]<|Aq rfl<|C8 rfl hI Aw rfl<|Aq rfl<|R7 rfl λh=>A3 rfl<|TB rfl hg<|jg [] rfl (by simp;kernel_rfl) ?_;rw [w];exact Ag ⟨_,AH⟩
theorem SC (l:List Tok):Tq4 172 [.ref 1 0] (GG l l.length) (.ret (.imm (.bool true)) (GG l l.length)):=by
 refine AQ AJ func172 rfl [2,3]<|jg [] rfl (by simp [Ap];kernel_rfl)<|Ag ⟨_,rfl,?_,AC⟩;rw [show ((l.length:Int) == ((l.map GY).length:Int))=true by simp];rfl
theorem DT {a:Nat} {k:Int} (h:LQ l a k=true):∃t,l[a]?=some t/\t.kind=k/\CD l a=t.text/\Vm l a=t.n:=by
 unfold LQ at h;unfold CD Vm;cases e:l[a]? with
 | none=>rw [e] at h;cases h
 | some t=>rw [e] at h;exact ⟨t,rfl,by simpa using h,rfl,rfl⟩
theorem AX {a:Nat} {r:Option α} {v:α} (h:after l a s r=some v):AY l a s=true/\r=some v:=by
 unfold after at h
 split at h
 ·exact ⟨by assumption,h⟩
 ·cases h
theorem DF {a:Nat} {s:List Str} {r:Option α} {v:α} (h:P3 l a s r=some v):(∀x∈s,AY l a x=false)/\r=some v:=by
 unfold P3 at h
 split at h
 ·cases h
 ·rename_i h';refine ⟨λx hx=>?_,h⟩;cases e:AY l a x with
  | false=>rfl
  | true=>exact absurd (Ze.2 ⟨x,hx,e⟩) h'
theorem Ue (s:Str):Tq3 324 [.str s] (.tup [.int .i64 (EM s).1,.int .i64 (EM s).2]):=by
 unfold EM;refine AQ AJ func324 rfl [1]<|Aq rfl ?_;by_cases c16:s=[99,101,108,108]
 ·rw [if_pos c16];subst c16;exact R6 rfl λh=>A3 rfl<|Ab rfl rfl rfl
 rw [if_neg c16];refine Aa rfl (λh=>by exfalso;simp at h;exact c16 h) (λh=>?_);refine A3 rfl ?_;by_cases c17:s=[103,101,116]
 ·rw [if_pos c17];subst c17;exact R6 rfl λh=>A3 rfl<|Ab rfl rfl rfl
 rw [if_neg c17];refine Aa rfl (λh=>by exfalso;simp at h;exact c17 h) (λh=>?_);refine A3 rfl ?_;by_cases c18:s=[112,117,116]
 ·rw [if_pos c18];subst c18;exact R6 rfl λh=>A3 rfl<|Ab rfl rfl rfl
 rw [if_neg c18];refine Aa rfl (λh=>by exfalso;simp at h;exact c18 h) (λh=>?_);refine A3 rfl ?_;by_cases c19:s=[115,112,97,119,110]
 ·rw [if_pos c19];subst c19;exact R6 rfl λh=>A3 rfl<|Ab rfl rfl rfl
 rw [if_neg c19];refine Aa rfl (λh=>by exfalso;simp at h;exact c19 h) (λh=>?_);refine A3 rfl ?_;by_cases c20:s=[106,111,105,110]
 ·rw [if_pos c20];subst c20;exact R6 rfl λh=>A3 rfl<|Ab rfl rfl rfl
 rw [if_neg c20];refine Aa rfl (λh=>by exfalso;simp at h;exact c20 h) (λh=>?_);refine A3 rfl ?_;by_cases c21:s=[99,104,97,110]
 ·rw [if_pos c21];subst c21;exact R6 rfl λh=>A3 rfl<|Ab rfl rfl rfl
 rw [if_neg c21];refine Aa rfl (λh=>by exfalso;simp at h;exact c21 h) (λh=>?_);refine A3 rfl ?_;by_cases c22:s=[115,101,110,100]
 ·rw [if_pos c22];subst c22;exact R6 rfl λh=>A3 rfl<|Ab rfl rfl rfl
 rw [if_neg c22];refine Aa rfl (λh=>by exfalso;simp at h;exact c22 h) (λh=>?_);refine A3 rfl ?_;by_cases c23:s=[116,97,107,101]
 ·rw [if_pos c23];subst c23;exact R6 rfl λh=>A3 rfl<|Ab rfl rfl rfl
 rw [if_neg c23];refine Aa rfl (λh=>by exfalso;simp at h;exact c23 h) (λh=>?_);refine A3 rfl ?_;by_cases c24:s=[111,117,116]
 ·rw [if_pos c24];subst c24;exact R6 rfl λh=>A3 rfl<|Ab rfl rfl rfl
 rw [if_neg c24];refine Aa rfl (λh=>by exfalso;simp at h;exact c24 h) (λh=>?_);refine A3 rfl ?_;by_cases c25:s=[105,110,112,117,116]
 ·rw [if_pos c25];subst c25;exact R6 rfl λh=>A3 rfl<|Ab rfl rfl rfl
 rw [if_neg c25];refine Aa rfl (λh=>by exfalso;simp at h;exact c25 h) (λh=>?_);refine A3 rfl ?_;by_cases c26:s=[114,101,115,101,116]
 ·rw [if_pos c26];subst c26;exact R6 rfl λh=>A3 rfl<|Ab rfl rfl rfl
 rw [if_neg c26];refine Aa rfl (λh=>by exfalso;simp at h;exact c26 h) (λh=>?_);refine A3 rfl ?_;by_cases c28:s=[112,97,117,115,101]
 ·rw [if_pos c28];subst c28;exact R6 rfl λh=>A3 rfl<|Ab rfl rfl rfl
 rw [if_neg c28];refine Aa rfl (λh=>by exfalso;simp at h;exact c28 h) (λh=>?_);exact A3 rfl<|Ab rfl rfl rfl
theorem jC (l:List Tok) (a:Nat):Tq4 318 [.ref 1 0] (GG l a) (.ret (.imm (.bool (Nq l a))) (GG l a)):=by
 refine AQ AJ func318 rfl [2,3]<|jg [] rfl (by simp [Ap];kernel_rfl) ?_;unfold Nq;cases h:l[a]? with
 | none =>
  have hge:l.length<=a:=Jd.1 h;refine Aa rfl (λh=>?_) (λh=>by exfalso;simp at h;omega);exact A3 rfl<|Ag ⟨_,AH⟩
 | some t =>
  have hlt:=(AO.1 h).1;have hg:=IN h;obtain ⟨t1,t2,t3,t4⟩:=t;have hC:=Ue t2;simp only;generalize EM t2=c at *;obtain ⟨c1,c2⟩:=c;refine Aa rfl (λh=>by exfalso;simp at h;omega) (λh=>?_);refine A3 rfl<|TB rfl hg<|jg [] rfl (by simp;kernel_rfl) ?_;by_cases h3:t1=3
  ·subst h3;rw [if_pos rfl];refine R6 rfl λh=>A3 rfl<|Ad rfl hC<|La rfl<|Ag ⟨_,rfl,?_,AC⟩;show zab (HH [D.imm (V.bool (bif (bif (bif !(c1 == 0) then true else t2 == vI) then true else t2 == Xz) then true else t2 == fR))]) _;rw [show decide (c1≠0) = !(c1 == 0) by by_cases e:c1=0 <;> simp [e]];cases (c1 == 0) <;> cases (t2 == vI) <;> cases (t2 == Xz) <;> cases (t2 == fR) <;> rfl
  ·rw [if_neg h3];refine Aa rfl (λh=>by exfalso;simp at h;exact h3 h) (λh=>?_);refine Xb rfl<|Ag ⟨_,rfl,?_,AC⟩;show zab (HH [D.imm (V.bool (bif !(t1 == 5) then true else t2 == [40]))]) _;rw [show decide (t1≠5) = !(t1 == 5) by by_cases e:t1=5 <;> simp [e]];cases (t1 == 5) <;> cases (t2 == [40]) <;> rfl
theorem Yo (op:Int) (a b:Tm):Tq3 244 [.int .i64 op,.agg (Al a),.agg (Al b)] (.agg (Al (zeg op a b))):=by
 obtain ⟨a1,a2,a3,a4,a5⟩:=a;obtain ⟨b1,b2,b3,b4,b5⟩:=b;exact AQ AJ func244 rfl [1,2,3]<|Aq rfl<|Ab rfl rfl rfl
theorem eS {a:Nat} (hl:l.length<=10000) (h:M1 l a=some (t,b)):Tq4 301 [.ref 1 0] (GG l a) (.ret (.imm (.agg (dTyc t))) (GG l b))/\AY l b [45,62]=false:=by
 unfold M1 at h;obtain ⟨hA,h⟩:=DF h;have hA:=hA _ (AN.2 rfl);by_cases c0:AY l a [105,110,116]=true
 ·rw [if_pos c0] at h;cases h;refine ⟨?_,hA⟩;exact AQ AJ func301 rfl [2,3]<|Aq rfl<|C8 rfl (CT hl c0) Aw rfl<|Aq rfl<|R6 rfl λh=>A3 rfl<|Ag ⟨_,AH⟩
 rw [if_neg c0] at h;have c0:AY l a [105,110,116]=false:=by simpa using c0
 by_cases c1:AY l a [98,111,111,108]=true
 ·rw [if_pos c1] at h;cases h;refine ⟨?_,hA⟩;exact AQ AJ func301 rfl [2,3]<|Aq rfl<|C8 rfl (Bj c0) Aw rfl<|Aq rfl<|R7 rfl λh=>A3 rfl<|C8 rfl (CT hl c1) Aw rfl<|Aq rfl<|R6 rfl λh=>A3 rfl<|Ag ⟨_,AH⟩
 rw [if_neg c1] at h;have c1:AY l a [98,111,111,108]=false:=by simpa using c1
 by_cases c2:AY l a [117,110,105,116]=true
 ·rw [if_pos c2] at h;cases h;refine ⟨?_,hA⟩;exact AQ AJ func301 rfl [2,3]<|Aq rfl<|C8 rfl (Bj c0) Aw rfl<|Aq rfl<|R7 rfl λh=>A3 rfl<|C8 rfl (Bj c1) Aw rfl<|Aq rfl<|R7 rfl λh=>A3 rfl<|C8 rfl (CT hl c2) Aw rfl<|Aq rfl<|R6 rfl λh=>A3 rfl<|Ag ⟨_,AH⟩
 rw [if_neg c2] at h;have c2:AY l a [117,110,105,116]=false:=by simpa using c2
 obtain ⟨hB,h⟩:=DF h
 split at h
 case isFalse=>cases h
 rename_i hk;obtain ⟨u,hu,hk,ht,_⟩:=DT hk;rw [ht] at h;cases h;refine ⟨?_,hA⟩;obtain ⟨u1,u2,u3,u4⟩:=u
 exact AQ AJ func301 rfl [2,3]<|Aq rfl<|C8 rfl (Bj c0) Aw rfl<|Aq rfl<|R7 rfl λh=>A3 rfl<|C8 rfl (Bj c1) Aw rfl<|Aq rfl<|R7 rfl λh=>A3 rfl<|C8 rfl (Bj c2) Aw rfl<|Aq rfl<|R7 rfl λh=>A3 rfl<|C8 rfl (Bj (hB [99,101,108,108] (by simp))) Aw rfl<|Aq rfl<|R7 rfl λh=>A3 rfl<|C8 rfl (Bj (hB [99,104,97,110] (by simp))) Aw rfl<|Aq rfl<|R7 rfl λh=>A3 rfl<|C8 rfl (Bj (hB [116,97,115,107] (by simp))) Aw rfl<|Aq rfl<|R7 rfl λh=>A3 rfl<|C8 rfl (Bj (hB [63] (by simp))) Aw rfl<|Aq rfl<|R7 rfl λh=>A3 rfl<|C8 rfl (Bj (hB [40] (by simp))) Aw rfl<|Aq rfl<|R7 rfl λh=>A3 rfl<|C8 rfl (D5 hl hu hk) Aw rfl<|Aq rfl<|Ag ⟨_,AH⟩
theorem QZ {a:Nat} (hl:l.length<=10000) (h:M1 l a=some (t,b)):Tq4 280 [.ref 1 0] (GG l a) (.ret (.imm (.agg (dTyc t))) (GG l b)):=by
 obtain ⟨hS,hn⟩:=eS hl h;obtain ⟨t1,t2,t3,t4⟩:=t;exact AQ AJ func280 rfl [2,3]<|Aq rfl<|C8 rfl (hS) Aw rfl<|Aq rfl<|C8 rfl (Bj hn) Aw rfl<|Aq rfl<|R7 rfl λh=>A3 rfl<|Ag ⟨_,AH⟩
def yS (l:List Tok) (f:Nat):Prop:=∀(a:Nat) (t:Ty) (b:Nat),YM l f a=some (t,b)->Tq4 325 [.ref 1 0] (GG l a) (.ret (.imm (.agg (dTyc t))) (GG l b))
def ptB (x:Str) (n:Nat):Blk:=.cells 182 4 [.imm (.int .i64 6),.imm (.int .i64 0),.imm (.str x),.own 4 n]
theorem fM (hl:l.length<=10000) (n:Nat) (hn:n<=1000000) (IH:∀f,f<n->yS l f):yS l n:=by
 intro a t b h;cases n with
 | zero=>simp [YM] at h
 | succ f =>
 rw [YM] at h;obtain ⟨h0,h⟩:=DF h;have h0:=h0 _ (AN.2 rfl);by_cases c1:LQ l a 1=true
 ·rw [if_pos c1] at h;obtain ⟨u,hu,hk,ht,_⟩:=DT c1;have hI:=Kd l a 1;rw [c1] at hI;rw [ht] at h;cases h;obtain ⟨u1,u2,u3,u4⟩:=u;exact AQ AJ func325 rfl [2,3]<|Aq rfl<|C8 rfl (Bj h0) Aw rfl<|Aq rfl<|R7 rfl λh=>A3 rfl<|C8 rfl (hI) Aw rfl<|Aq rfl<|R6 rfl λh=>A3 rfl<|C8 rfl (D5 hl hu hk) Aw rfl<|Aq rfl<|Ag ⟨_,AH⟩
 rw [if_neg c1] at h;have hI1:=Kd l a 1;rw [show LQ l a 1=false by simpa using c1] at hI1
 split at h
 case isTrue=>cases h
 rename_i c4;have hI4:=Kd l a 4;rw [show LQ l a 4=false by simpa using c4] at hI4;obtain ⟨hB,h⟩:=DF h
 split at h
 case isFalse=>cases h
 rename_i hk;obtain ⟨u,hu,hk,ht,_⟩:=DT hk;rw [ht] at h;by_cases c5:AY l (a+1) [40]=true
 case neg =>
  rw [if_neg c5] at h;have c5:AY l (a+1) [40]=false:=by simpa using c5
  cases h;obtain ⟨u1,u2,u3,u4⟩:=u;exact AQ AJ func325 rfl [2,3]<|Aq rfl<|C8 rfl (Bj h0) Aw rfl<|Aq rfl<|R7 rfl λh=>A3 rfl<|C8 rfl (hI1) Aw rfl<|Aq rfl<|R7 rfl λh=>A3 rfl<|C8 rfl (hI4) Aw rfl<|Aq rfl<|R7 rfl λh=>A3 rfl<|C8 rfl (Bj (hB vI (by simp))) Aw rfl<|Aq rfl<|R7 rfl λh=>A3 rfl<|C8 rfl (Bj (hB Xz (by simp))) Aw rfl<|Aq rfl<|R7 rfl λh=>A3 rfl<|C8 rfl (Bj (hB [40] (by simp))) Aw rfl<|Aq rfl<|R7 rfl λh=>A3 rfl<|C8 rfl (D5 hl hu hk) Aw rfl<|Aq rfl<|C8 rfl (Bj c5) Aw rfl<|Aq rfl<|R7 rfl λh=>A3 rfl<|Ag ⟨_,AH⟩
 rw [if_pos c5] at h;cases hP:NK l f [] (a+2) with
 | none=>rw [hP] at h;cases h
 | some r =>
 rw [hP] at h;cases h;obtain ⟨qs,b⟩:=r;obtain ⟨u1,u2,u3,u4⟩:=u;simp only
 refine AQ AJ func325 rfl [2,3,4,5,6,7]<|Aq rfl<|C8 rfl (Bj h0) Aw rfl<|Aq rfl<|R7 rfl λh=>A3 rfl<|C8 rfl (hI1) Aw rfl<|Aq rfl<|R7 rfl λh=>A3 rfl<|C8 rfl (hI4) Aw rfl<|Aq rfl<|R7 rfl λh=>A3 rfl<|C8 rfl (Bj (hB vI (by simp))) Aw rfl<|Aq rfl<|R7 rfl λh=>A3 rfl<|C8 rfl (Bj (hB Xz (by simp))) Aw rfl<|Aq rfl<|R7 rfl λh=>A3 rfl<|C8 rfl (Bj (hB [40] (by simp))) Aw rfl<|Aq rfl<|R7 rfl λh=>A3 rfl<|C8 rfl (D5 hl hu hk) Aw rfl<|Aq rfl<|C8 rfl (CT hl c5) Aw rfl<|Aq rfl<|R6 rfl λh=>A3 rfl<|DV 3 4 (e:=182) (sz:=4) [.imm (.int .i64 6),.imm (.int .i64 0),.imm (.str u2),.own 4 0] (by decide) rfl ⟨.inl rfl,.inl rfl,.inl rfl,.inr ⟨rfl,rfl⟩,trivial⟩<|Ak (λz:Bool×Nat×List Ty×Nat=>[(4,.imm (.bool z.1)),(0,.ref 1 0),(3,.ref 3 0),(2,.ref 2 0)]) (λz=>[(1,some (lG l z.2.2.2)),(2,some (.cells 182 4 [.imm (.int .i64 0),.imm (.int .i64 0),.imm (.str []),.nils])),(3,some (ptB u2 (dTys z.2.2.1).length)),(4,some (.row 182 4 (dTys z.2.2.1)))]) [5,6,7] (λz=>z.2.1)
  (λz=>z.2.1<=f/\z.2.2.1.length+z.2.1<=f/\if z.1=true then NK l z.2.1 z.2.2.1 z.2.2.2=some (qs,b) else qs=z.2.2.1/\AY l z.2.2.2 [41]=true/\b=z.2.2.2+1) (true,f,[],a+2)
  ⟨BL _,by simp,by rw [if_pos rfl];exact hP⟩ BJ BJ rfl λz hz ih=>?_
 obtain ⟨more,f1,ps,a1⟩:=z;obtain ⟨z1,z3,z2⟩:=hz;simp only at z1 z2 z3 ih;refine Xb rfl ?_;cases more with
 | false =>
  simp only [E1,if_false] at z2;obtain ⟨rfl,z2,rfl⟩:=z2;exact R7 rfl λh=>At rfl<|Bv 4 rfl<|A3 rfl<|C8 rfl (BB hl z2) Aw rfl<|Aq rfl<|Ag ⟨_,AH⟩
 | true =>
  simp only [if_true] at z2;cases f1 with
  | zero=>simp [NK] at z2
  | succ f1 =>
  rw [NK] at z2;cases hq:YM l f1 a1 with
  | none=>rw [hq] at z2;cases z2
  | some r =>
  rw [hq] at z2;obtain ⟨q,a2⟩:=r;simp only [Dv] at z2;have hQ:=IH f1 (by omega) a1 q a2 hq;have hap:dTys (ps++[q])=dTys ps++[dTyc q]:=by rw [E4];rfl
  obtain ⟨q1,q2,q3,q4⟩:=q;refine R6 rfl λh=>A3 rfl<|C8 rfl (hQ) Aw rfl<|Aq rfl<|Bn AJ rfl ⟨by simp,by simp [maxLen];omega,by simp;omega,trivial⟩<|Aq rfl ?_;by_cases c6:AY l a2 [44]=true
  ·rw [if_pos c6] at z2;exact C8 rfl (CT hl c6) Aw rfl<|Aq rfl<|Bo 4 6 rfl<|Ae (ih (true,f1,ps++[.mk q1 q2 q3 q4],a2+1) (Je _) ⟨by simp only;omega,by simp only [AZ,Cq,B5];omega,by rw [if_pos rfl];exact z2⟩) BJ ⟨rfl,rfl,by rw [hap];rfl,by rw [hap];rfl,trivial⟩ rfl
  ·rw [if_neg c6] at z2;have c6:AY l a2 [44]=false:=by simpa using c6
   obtain ⟨z4,z2⟩:=AX z2;cases z2;exact C8 rfl (Bj c6) Aw rfl<|Aq rfl<|Bo 4 6 rfl<|Ae (ih (false,f1,ps++[.mk q1 q2 q3 q4],a2) (Je _) ⟨by simp only;omega,by simp only [AZ,Cq,B5];omega,by rw [if_neg (by simp)];exact ⟨rfl,z4,rfl⟩⟩) BJ ⟨rfl,rfl,by rw [hap];rfl,by rw [hap];rfl,trivial⟩ rfl
theorem lV (hl:l.length<=10000):∀n,n<=1000000->yS l n:=λn=>by
 induction n using Nat.strongRecOn with
 | ind n IH=>exact λhn=>fM hl n hn λf hf=>IH f hf (by omega)
def wL (l:List Tok) (f:Nat):Prop:=∀(a:Nat) (t:Tm) (b:Nat),Dg l f a=some (t,b)->Tq4 173 [.ref 1 0] (GG l a) (.ret (.imm (.agg (Al t))) (GG l b))
def zaj (l:List Tok) (f:Nat):Prop:=∀(a:Nat) (t:Tm) (b:Nat),YL l f a=some (t,b)->Tq4 243 [.ref 1 0] (GG l a) (.ret (.imm (.agg (Al t))) (GG l b))
def zas (l:List Tok) (f:Nat):Prop:=∀(a:Nat) (t:Tm) (b:Nat),YN l f a=some (t,b)->Tq4 302 [.ref 1 0] (GG l a) (.ret (.imm (.agg (Al t))) (GG l b))
def wN (l:List Tok) (f:Nat):Prop:=∀(a:Nat) (t:Tm) (b:Nat),Q4 l f a=some (t,b)->Tq4 317 [.ref 1 0] (GG l a) (.ret (.imm (.agg (Al t))) (GG l b))
def qT (l:List Tok) (f:Nat):Prop:=∀(a:Nat) (t:Tm) (b:Nat),UH l f a=some (t,b)->Tq4 322 [.ref 1 0] (GG l a) (.ret (.imm (.agg (Al t))) (GG l b))
def qH (l:List Tok) (f:Nat):Prop:=∀(n:Int) (a:Nat) (ks:List Tm) (b:Nat),LF l f n a=some (ks,b)->Tq4 321 [.ref 1 0,.imm (.int .i64 n)] (GG l a) (.ret (.imm (.sl (Dq ks))) (GG l b))
structure Yi (l:List Tok) (f:Nat):Prop where
 term:wL l f
 sum:zaj l f
 app:zas l f
 atom:wN l f
 cases_:qT l f
 terms:qH l f
theorem kC (hl:l.length<=10000) {op:Int} {a:Nat} {t:Tm} (hk:LQ l a 1=true) (hs:AY l (a+1) [61,62]=true) (hT:Tq4 173 [.ref 1 0] (GG l (a+2)) (.ret (.imm (.agg (Al t))) (GG l b))) :
  Tq4 242 [.ref 1 0,.imm (.int .i64 op)] (GG l a) (.ret (.imm (.agg (Al (.mk op 0 (CD l a) [t] [])))) (GG l b)):=by
 obtain ⟨u,hu,hk,ht,_⟩:=DT hk;rw [ht];obtain ⟨u1,u2,u3,u4⟩:=u;obtain ⟨t1,t2,t3,t4,t5⟩:=t;exact AQ AJ func242 rfl [2,3,4]<|Aq rfl<|C8 rfl (D5 hl hu hk) Aw rfl<|Aq rfl<|C8 rfl (BB hl hs) Aw rfl<|Aq rfl<|C8 rfl (hT) Aw rfl<|Aq rfl<|Ag ⟨_,AH⟩
theorem eL (hl:l.length<=10000) (n:Nat) (IH:∀f,f<n->Yi l f):wL l n:=by
 intro a t b h;cases n with
 | zero=>simp [Dg] at h
 | succ f =>
 have ihT:=(IH f (Je f)).term;have ihS:=(IH f (Je f)).sum;clear IH;rw [Dg] at h;by_cases c1:AY l a [102,117,110]=true
 ·rw [if_pos c1] at h
  split at h
  case isFalse=>cases h
  rename_i k1;obtain ⟨s1,h⟩:=AX h;cases hr:Dg l f (a+3) with
  | none=>rw [hr] at h;cases h
  | some r =>
  rw [hr] at h;cases h;have hU:=kC hl (op:=5) k1 s1 (ihT _ r.1 r.2 hr);obtain ⟨⟨r1,r2,r3,r4,r5⟩,rp⟩:=r;exact AQ AJ func173 rfl [2,3]<|Aq rfl<|C8 rfl (CT hl c1) Aw rfl<|Aq rfl<|R6 rfl λh=>A3 rfl<|C8 rfl (hU) Aw rfl<|Aq rfl<|Ag ⟨_,AH⟩
 rw [if_neg c1] at h;have c1:AY l a [102,117,110]=false:=by simpa using c1
 obtain ⟨c2,h⟩:=DF h;have c2:=c2 _ (AN.2 rfl);by_cases c3:AY l a [108,101,116]=true
 ·rw [if_pos c3] at h
  split at h
  case isFalse=>cases h
  rename_i k1;obtain ⟨s1,h⟩:=AX h;obtain ⟨w,hw,hk,hx,_⟩:=DT k1;rw [hx] at h;cases hr:Dg l f (a+3) with
  | none=>rw [hr] at h;cases h
  | some r =>
  rw [hr] at h;simp only [Dv] at h;obtain ⟨s2,h⟩:=AX h;cases hu:Dg l f (r.2+1) with
  | none=>rw [hu] at h;cases h
  | some u =>
  rw [hu] at h;cases h;have hT1:=ihT _ r.1 r.2 hr;have hT2:=ihT _ u.1 u.2 hu;obtain ⟨w1,w2,w3,w4⟩:=w;obtain ⟨⟨r1,r2,r3,r4,r5⟩,rp⟩:=r;obtain ⟨⟨u1,u2,u3,u4,u5⟩,up⟩:=u;simp only at s2 hT1 hT2 ⊢;exact AQ AJ func173 rfl [2,3,4,5]<|Aq rfl<|C8 rfl (Bj c1) Aw rfl<|Aq rfl<|R7 rfl λh=>A3 rfl<|C8 rfl (Bj c2) Aw rfl<|Aq rfl<|R7 rfl λh=>A3 rfl<|C8 rfl (CT hl c3) Aw rfl<|Aq rfl<|R6 rfl λh=>A3 rfl<|C8 rfl (D5 hl hw hk) Aw rfl<|Aq rfl<|C8 rfl (BB hl s1) Aw rfl<|Aq rfl<|C8 rfl (hT1) Aw rfl<|Aq rfl<|C8 rfl (BB hl s2) Aw rfl<|Aq rfl<|C8 rfl (hT2) Aw rfl<|Aq rfl<|Ag ⟨_,AH⟩
 rw [if_neg c3] at h;have c3:AY l a [108,101,116]=false:=by simpa using c3
 by_cases c4:AY l a [105,102]=true
 ·rw [if_pos c4] at h;cases hr:Dg l f (a+1) with
  | none=>rw [hr] at h;cases h
  | some r =>
  rw [hr] at h;simp only [Dv] at h;obtain ⟨s2,h⟩:=AX h;cases hu:Dg l f (r.2+1) with
  | none=>rw [hu] at h;cases h
  | some u =>
  rw [hu] at h;simp only [Dv] at h;obtain ⟨s3,h⟩:=AX h;cases hv:Dg l f (u.2+1) with
  | none=>rw [hv] at h;cases h
  | some v =>
  rw [hv] at h;cases h;have hT1:=ihT _ r.1 r.2 hr;have hT2:=ihT _ u.1 u.2 hu;have hT3:=ihT _ v.1 v.2 hv;obtain ⟨⟨r1,r2,r3,r4,r5⟩,rp⟩:=r;obtain ⟨⟨u1,u2,u3,u4,u5⟩,up⟩:=u;obtain ⟨⟨v1,v2,v3,v4,v5⟩,vp⟩:=v;simp only at s2 s3 hT1 hT2 hT3 ⊢;exact AQ AJ func173 rfl [2,3,4,5]<|Aq rfl<|C8 rfl (Bj c1) Aw rfl<|Aq rfl<|R7 rfl λh=>A3 rfl<|C8 rfl (Bj c2) Aw rfl<|Aq rfl<|R7 rfl λh=>A3 rfl<|C8 rfl (Bj c3) Aw rfl<|Aq rfl<|R7 rfl λh=>A3 rfl<|C8 rfl (CT hl c4) Aw rfl<|Aq rfl<|R6 rfl λh=>A3 rfl<|C8 rfl (hT1) Aw rfl<|Aq rfl<|C8 rfl (BB hl s2) Aw rfl<|Aq rfl<|C8 rfl (hT2) Aw rfl<|Aq rfl<|C8 rfl (BB hl s3) Aw rfl<|Aq rfl<|C8 rfl (hT3) Aw rfl<|Aq rfl<|Ag ⟨_,AH⟩
 rw [if_neg c4] at h;have c4:AY l a [105,102]=false:=by simpa using c4
 cases hr:YL l f a with
 | none=>rw [hr] at h;cases h
 | some r =>
 rw [hr] at h;simp only [Dv] at h;have hT1:=ihS _ r.1 r.2 hr;by_cases c5:AY l r.2 [60]=true
 ·rw [if_pos c5] at h;cases hu:YL l f (r.2+1) with
  | none=>rw [hu] at h;cases h
  | some u =>
  rw [hu] at h;cases h;have hT2:=ihS _ u.1 u.2 hu;have hW:=Yo 12 r.1 u.1;obtain ⟨⟨r1,r2,r3,r4,r5⟩,rp⟩:=r;obtain ⟨⟨u1,u2,u3,u4,u5⟩,up⟩:=u;simp only at c5 hT1 hT2 hW ⊢;exact AQ AJ func173 rfl [2,3,4,5]<|Aq rfl<|C8 rfl (Bj c1) Aw rfl<|Aq rfl<|R7 rfl λh=>A3 rfl<|C8 rfl (Bj c2) Aw rfl<|Aq rfl<|R7 rfl λh=>A3 rfl<|C8 rfl (Bj c3) Aw rfl<|Aq rfl<|R7 rfl λh=>A3 rfl<|C8 rfl (Bj c4) Aw rfl<|Aq rfl<|R7 rfl λh=>A3 rfl<|C8 rfl (hT1) Aw rfl<|Aq rfl<|C8 rfl (CT hl c5) Aw rfl<|Aq rfl<|R6 rfl λh=>A3 rfl<|C8 rfl (hT2) Aw rfl<|Aq rfl<|Ad rfl hW<|Aq rfl<|Ag ⟨_,AH⟩
 ·rw [if_neg c5] at h;have c5:AY l r.2 [60]=false:=by simpa using c5
  obtain ⟨c6,h⟩:=DF h;have c6:=c6 _ (AN.2 rfl);cases h;obtain ⟨t1,t2,t3,t4,t5⟩:=t;exact AQ AJ func173 rfl [2,3,4,5]<|Aq rfl<|C8 rfl (Bj c1) Aw rfl<|Aq rfl<|R7 rfl λh=>A3 rfl<|C8 rfl (Bj c2) Aw rfl<|Aq rfl<|R7 rfl λh=>A3 rfl<|C8 rfl (Bj c3) Aw rfl<|Aq rfl<|R7 rfl λh=>A3 rfl<|C8 rfl (Bj c4) Aw rfl<|Aq rfl<|R7 rfl λh=>A3 rfl<|C8 rfl (hT1) Aw rfl<|Aq rfl<|C8 rfl (Bj c5) Aw rfl<|Aq rfl<|R7 rfl λh=>A3 rfl<|C8 rfl (Bj c6) Aw rfl<|Aq rfl<|R7 rfl λh=>A3 rfl<|Ag ⟨_,AH⟩
theorem Q2 {a:Nat} {t:Tm} (hA:Tq4 302 [.ref 1 0] (GG l a) (.ret (.imm (.agg (Al t))) (GG l b))) (hno:AY l b [42]=false):Tq4 281 [.ref 1 0] (GG l a) (.ret (.imm (.agg (Al t))) (GG l b)):=by
 obtain ⟨t1,t2,t3,t4,t5⟩:=t;exact AQ AJ func281 rfl [2,3,4]<|Aq rfl<|C8 rfl (hA) Aw rfl<|Aq rfl<|Ak (λ_:Nat=>[(0,.ref 1 0),(3,.ref 3 0),(2,.ref 2 0)]) (λ_=>[(1,some (lG l b)),(2,some (.cells 49 5 [.imm (.int .i64 0),.imm (.int .i64 0),.imm (.str []),.nils,.nils])),(3,some (.immb 49 5 (Al (.mk t1 t2 t3 t4 t5))))]) [4] (λ_=>0) (λ_=>True) 0 trivial AH AH rfl λ_ _ _=>A3 rfl<|C8 rfl (Bj hno) Aw rfl<|Aq rfl<|R7 rfl λh=>At rfl<|A3 rfl<|Ag ⟨_,AH⟩
theorem SP {f:Nat} {t:Tm} {a:Nat} {r:Tm×Nat} (h:OF l f t a=some r):AY l a [42]=false:=by
 cases f with
 | zero=>simp [OF] at h
 | succ f=>rw [OF] at h;exact (DF h).1 _ (AN.2 rfl)
theorem rL {a:Nat} (h:AY l a x=true):a<l.length:=by
 cases e:l[a]? with
 | none=>rw [AY,e] at h;cases h
 | some t=>exact (AO.1 e).1
theorem kN (hl:l.length<=10000) (n:Nat) (IH:∀f,f<n->Yi l f):zaj l n:=by
 intro a t b h;cases n with
 | zero=>simp [YL] at h
 | succ f =>
 rw [YL] at h;cases hr:YN l f a with
 | none=>rw [hr] at h;cases h
 | some r =>
 rw [hr] at h;simp only [Dv] at h;have hP:=Q2 ((IH f (Je f)).app _ r.1 r.2 hr) (SP h);have IH:=λg (hg:g<=f)=>(IH g (by omega)).app;clear hr;obtain ⟨⟨r1,r2,r3,r4,r5⟩,rp⟩:=r;simp only at h hP;refine AQ AJ func243 rfl [2,3,4,5]<|Aq rfl<|C8 rfl (hP) Aw rfl<|Aq rfl ?_;clear hP;refine Ak (λ_:Nat×Tm×Nat=>[(0,.ref 1 0),(3,.ref 3 0),(2,.ref 2 0)]) (λz=>[(1,some (lG l z.2.2)),(2,some (.cells 49 5 [.imm (.int .i64 0),.imm (.int .i64 0),.imm (.str []),.nils,.nils])),(3,some (.immb 49 5 (Al z.2.1)))]) [4,5] (λz=>z.1)
  (λz=>z.1<=f/\OF l z.1 z.2.1 z.2.2=some (t,b)) (f,.mk r1 r2 r3 r4 r5,rp) ⟨BL _,h⟩ AH AH rfl λz hz ih=>?_
 clear h;obtain ⟨f1,⟨t1,t2,t3,t4,t5⟩,a1⟩:=z;obtain ⟨z1,z2⟩:=hz;simp only at z1 z2 ih;cases f1 with
 | zero=>simp [OF] at z2
 | succ f1 =>
 rw [OF] at z2;obtain ⟨-,z2⟩:=DF z2;have hS:=Mp l a1 [43];by_cases c1:AY l a1 [43]=true
 ·rw [if_pos c1] at z2;rw [c1] at hS;cases hu:YN l f1 (a1+1) with
  | none=>rw [hu] at z2;cases z2
  | some u =>
  rw [hu] at z2;simp only [Dv] at z2;have hQ:=Q2 (IH f1 (by omega) _ u.1 u.2 hu) (SP z2);have hW:=Yo 9 (.mk t1 t2 t3 t4 t5) u.1;have hlt:=rL c1;have w:IntKind.i64.wrap ((a1:Int)+1)=((a1+1:Nat):Int):=by rw [BW (by omega) (by omega)];omega
  obtain ⟨⟨u1,u2,u3,u4,u5⟩,up⟩:=u;simp only at z2 hQ hW;refine Xb rfl<|A4 [(1,1)] [] [1] (fr:=[]) (nm:=[]) rfl (by simp [Ap]) (by simp) (hS) Aw rfl ⟨⟨rfl,rfl⟩,trivial⟩ rfl rfl rfl<|La rfl<|PO (.imm (.bool false)) rfl (by simp [Ap])<|La rfl<|R6 rfl λh=>A3 rfl<|C8 rfl (hS) Aw rfl<|Aq rfl<|R6 rfl λh=>A3 rfl ?_;rw [w];exact C8 rfl (hQ) Aw rfl<|Aq rfl<|Ad rfl hW<|Aq rfl<|Ae (ih (f1,_,up) (Je _) ⟨by simp only;omega,z2⟩) AH AH rfl
 ·rw [if_neg c1] at z2;obtain ⟨c2,z2⟩:=DF z2;have hS2:=Mp l a1 [45];rw [c2 _ (AN.2 rfl)] at hS2;rw [show AY l a1 [43]=false by simpa using c1] at hS;cases z2;exact Xb rfl<|A4 [(1,1)] [] [1] (fr:=[]) (nm:=[]) rfl (by simp [Ap]) (by simp) (hS) Aw rfl ⟨⟨rfl,rfl⟩,trivial⟩ rfl rfl rfl<|La rfl<|A4 [(1,1)] [] [1] (fr:=[]) (nm:=[]) rfl (by simp [Ap]) (by simp) (hS2) Aw rfl ⟨⟨rfl,rfl⟩,trivial⟩ rfl rfl rfl<|La rfl<|R7 rfl λh=>At rfl<|A3 rfl<|Ag ⟨_,AH⟩
theorem qC (hl:l.length<=10000) (n:Nat) (IH:∀f,f<n->Yi l f):zas l n:=by
 intro a t b h;cases n with
 | zero=>simp [YN] at h
 | succ f =>
 rw [YN] at h;cases hr:Q4 l f a with
 | none=>rw [hr] at h;cases h
 | some r =>
 rw [hr] at h;simp only [Dv] at h;have hP:=(IH f (Je f)).atom _ r.1 r.2 hr;have IH:=λg (hg:g<=f)=>(IH g (by omega)).atom;clear hr;obtain ⟨⟨r1,r2,r3,r4,r5⟩,rp⟩:=r;simp only at h hP;refine AQ AJ func302 rfl [2,3,4,5]<|Aq rfl<|C8 rfl (hP) Aw rfl<|Aq rfl ?_;clear hP;refine Ak (λ_:Nat×Tm×Nat=>[(0,.ref 1 0),(3,.ref 3 0),(2,.ref 2 0)]) (λz=>[(1,some (lG l z.2.2)),(2,some (.cells 49 5 [.imm (.int .i64 0),.imm (.int .i64 0),.imm (.str []),.nils,.nils])),(3,some (.immb 49 5 (Al z.2.1)))]) [4,5] (λz=>z.1)
  (λz=>z.1<=f/\Wv l z.1 z.2.1 z.2.2=some (t,b)) (f,.mk r1 r2 r3 r4 r5,rp) ⟨BL _,h⟩ AH AH rfl λz hz ih=>?_
 clear h;obtain ⟨f1,⟨t1,t2,t3,t4,t5⟩,a1⟩:=z;obtain ⟨z1,z2⟩:=hz;simp only at z1 z2 ih;cases f1 with
 | zero=>simp [Wv] at z2
 | succ f1 =>
 rw [Wv] at z2;have hS:=jC l a1;by_cases c1:Nq l a1=true
 ·rw [if_pos c1] at z2;rw [c1] at hS;cases hu:Q4 l f1 a1 with
  | none=>rw [hu] at z2;cases z2
  | some u =>
  rw [hu] at z2;simp only [Dv] at z2;have hQ:=IH f1 (by omega) _ u.1 u.2 hu;have hW:=Yo 6 (.mk t1 t2 t3 t4 t5) u.1;obtain ⟨⟨u1,u2,u3,u4,u5⟩,up⟩:=u;simp only at z2 hQ hW;exact A3 rfl<|C8 rfl (hS) Aw rfl<|Aq rfl<|R6 rfl λh=>A3 rfl<|C8 rfl (hQ) Aw rfl<|Aq rfl<|Ad rfl hW<|Aq rfl<|Ae (ih (f1,_,up) (Je _) ⟨by simp only;omega,z2⟩) AH AH rfl
 ·rw [if_neg c1] at z2;rw [show Nq l a1=false by simpa using c1] at hS;cases z2;exact A3 rfl<|C8 rfl (hS) Aw rfl<|Aq rfl<|R7 rfl λh=>At rfl<|A3 rfl<|Ag ⟨_,AH⟩
theorem jB (hl:l.length<=10000) (n:Nat) (IH:∀f,f<n->Yi l f) {u:Tok} {a:Nat} (hu:l[a]?=some u) {t:Tm} (h:cH l n a=some (t,b)):Tq4 323 [.ref 1 0] (GG l a) (.ret (.imm (.agg (Al t))) (GG l b)):=by
 cases n with
 | zero=>simp [cH] at h
 | succ f =>
 have ihT:=(IH f (Je f)).term;have ihL:=(IH f (Je f)).terms;clear IH;have hx:CD l a=u.text:=by rw [CD,hu]
 have hlt:=(AO.1 hu).1;have hg:=IN hu;have w:IntKind.i64.wrap ((a:Int)+1)=((a+1:Nat):Int):=by rw [BW (by omega) (by omega)];omega
 have hC:=Ue u.text;rw [cH,hx] at h;obtain ⟨u1,u2,u3,u4⟩:=u;simp only at hC h;generalize EM u2=c at *;obtain ⟨c1,c2⟩:=c;simp only at hC h
 split at h
 case isTrue=>cases h
 rename_i e1;by_cases e2:0<c2
 ·rw [if_pos e2] at h;cases hr:LF l f c2 (a+1) with
  | none=>rw [hr] at h;cases h
  | some r =>
  rw [hr] at h;cases h;have hL:=ihL _ _ r.1 r.2 hr;refine AQ AJ func323 rfl [2,3,4,5]<|Aq rfl<|TB rfl hg<|Aq rfl<|Ad rfl hC<|jg [] rfl (by simp;kernel_rfl)<|Aa rfl (λh=>by exfalso;simp at h;exact e1 h) (λh=>?_);refine A3 rfl ?_;rw [w];refine Aa rfl (λh=>?_) (λh=>by exfalso;simp at h;omega);exact A3 rfl<|C8 rfl (hL) Aw rfl<|Aq rfl<|Ag ⟨_,AH⟩
 rw [if_neg e2] at h;by_cases e3:c2<0
 ·rw [if_pos e3] at h;obtain ⟨s1,h⟩:=AX h
  split at h
  case isFalse=>cases h
  rename_i k1;obtain ⟨s2,h⟩:=AX h;obtain ⟨v,hv,hk,_,hn⟩:=DT k1;rw [hn] at h;cases hr:Dg l f (a+4) with
  | none=>rw [hr] at h;cases h
  | some r =>
  rw [hr] at h;simp only [Dv] at h;obtain ⟨s3,h⟩:=AX h;cases h;have hT:=ihT _ r.1 r.2 hr;obtain ⟨v1,v2,v3,v4⟩:=v;obtain ⟨⟨r1,r2,r3,r4,r5⟩,rp⟩:=r;simp only at s3 hT ⊢;refine AQ AJ func323 rfl [2,3,4,5]<|Aq rfl<|TB rfl hg<|Aq rfl<|Ad rfl hC<|jg [] rfl (by simp;kernel_rfl)<|Aa rfl (λh=>by exfalso;simp at h;exact e1 h) (λh=>?_);refine A3 rfl ?_;rw [w];refine Aa rfl (λh=>by exfalso;simp at h;omega) (λh=>?_);refine A3 rfl<|Aa rfl (λh=>?_) (λh=>by exfalso;simp at h;omega);exact A3 rfl<|C8 rfl (BB hl s1) Aw rfl<|Aq rfl<|C8 rfl (D5 hl hv hk) Aw rfl<|Aq rfl<|C8 rfl (BB hl s2) Aw rfl<|Aq rfl<|C8 rfl (hT) Aw rfl<|Aq rfl<|C8 rfl (BB hl s3) Aw rfl<|Aq rfl<|Ag ⟨_,AH⟩
 ·rw [if_neg e3] at h;cases h;refine AQ AJ func323 rfl [2,3,4,5]<|Aq rfl<|TB rfl hg<|Aq rfl<|Ad rfl hC<|jg [] rfl (by simp;kernel_rfl)<|Aa rfl (λh=>by exfalso;simp at h;exact e1 h) (λh=>?_);refine A3 rfl ?_;rw [w];refine Aa rfl (λh=>by exfalso;simp at h;omega) (λh=>?_);refine A3 rfl<|Aa rfl (λh=>by exfalso;simp at h;omega) (λh=>?_);exact A3 rfl<|Ag ⟨_,AH⟩
theorem jD (hl:l.length<=10000) (n:Nat) (IH:∀f,f<n->Yi l f):wN l n:=by
 intro a t b h;cases n with
 | zero=>simp [Q4] at h
 | succ f =>
 have ihT:=(IH f (Je f)).term;have ihL:=(IH f (Je f)).terms;have ihC:=(IH f (Je f)).cases_;have ihK:=λu hu t b h=>jB hl f (λg hg=>IH g (by omega)) (u:=u) (a:=a) hu (t:=t) (b:=b) h;clear IH;rw [Q4] at h;have hI4:=Kd l a 4;by_cases k4:LQ l a 4=true
 ·rw [if_pos k4] at h;rw [k4] at hI4;obtain ⟨u,hu,hk,_,hn⟩:=DT k4;rw [hn] at h;cases h;obtain ⟨u1,u2,u3,u4⟩:=u;exact AQ AJ func317 rfl [2,3,4]<|Aq rfl<|C8 rfl (hI4) Aw rfl<|Aq rfl<|R6 rfl λh=>A3 rfl<|C8 rfl (D5 hl hu hk) Aw rfl<|Aq rfl<|Ag ⟨_,AH⟩
 rw [if_neg k4] at h;rw [show LQ l a 4=false by simpa using k4] at hI4;have hI1:=Kd l a 1;by_cases k1:LQ l a 1=true
 ·rw [if_pos k1] at h;rw [k1] at hI1;obtain ⟨u,hu,hk,hx,_⟩:=DT k1;rw [hx] at h;cases h;obtain ⟨u1,u2,u3,u4⟩:=u;exact AQ AJ func317 rfl [2,3,4]<|Aq rfl<|C8 rfl (hI4) Aw rfl<|Aq rfl<|R7 rfl λh=>A3 rfl<|C8 rfl (hI1) Aw rfl<|Aq rfl<|R6 rfl λh=>A3 rfl<|C8 rfl (D5 hl hu hk) Aw rfl<|Aq rfl<|Ag ⟨_,AH⟩
 rw [if_neg k1] at h;rw [show LQ l a 1=false by simpa using k1] at hI1;have hI2:=Kd l a 2;by_cases k2:LQ l a 2=true
 ·rw [if_pos k2] at h;rw [k2] at hI2;obtain ⟨u,hu,hk,hx,_⟩:=DT k2;rw [hx] at h;have hS:=Mp l (a+1) [40];by_cases c1:AY l (a+1) [40]=true
  ·rw [if_pos c1] at h;rw [c1] at hS;cases hr:LF l f (-1) (a+1) with
   | none=>rw [hr] at h;cases h
   | some r =>
   rw [hr] at h;cases h;have hL:=ihL _ _ r.1 r.2 hr;obtain ⟨u1,u2,u3,u4⟩:=u;exact AQ AJ func317 rfl [2,3,4]<|Aq rfl<|C8 rfl (hI4) Aw rfl<|Aq rfl<|R7 rfl λh=>A3 rfl<|C8 rfl (hI1) Aw rfl<|Aq rfl<|R7 rfl λh=>A3 rfl<|C8 rfl (hI2) Aw rfl<|Aq rfl<|R6 rfl λh=>A3 rfl<|C8 rfl (D5 hl hu hk) Aw rfl<|Aq rfl<|C8 rfl (hS) Aw rfl<|Aq rfl<|R6 rfl λh=>A3 rfl<|C8 rfl (hL) Aw rfl<|Aq rfl<|Ag ⟨_,AH⟩
  ·rw [if_neg c1] at h;rw [show AY l (a+1) [40]=false by simpa using c1] at hS;cases h;obtain ⟨u1,u2,u3,u4⟩:=u;exact AQ AJ func317 rfl [2,3,4]<|Aq rfl<|C8 rfl (hI4) Aw rfl<|Aq rfl<|R7 rfl λh=>A3 rfl<|C8 rfl (hI1) Aw rfl<|Aq rfl<|R7 rfl λh=>A3 rfl<|C8 rfl (hI2) Aw rfl<|Aq rfl<|R6 rfl λh=>A3 rfl<|C8 rfl (D5 hl hu hk) Aw rfl<|Aq rfl<|C8 rfl (hS) Aw rfl<|Aq rfl<|R7 rfl λh=>A3 rfl<|Ag ⟨_,AH⟩
 rw [if_neg k2] at h;rw [show LQ l a 2=false by simpa using k2] at hI2;obtain ⟨hB,h⟩:=DF h;have b1:=hB vI (by simp);have b2:=hB Xz (by simp);by_cases c1:AY l a fR=true
 ·rw [if_pos c1] at h;have hC:=ihC _ t b h;obtain ⟨t1,t2,t3,t4,t5⟩:=t;exact AQ AJ func317 rfl [2,3,4]<|Aq rfl<|C8 rfl (hI4) Aw rfl<|Aq rfl<|R7 rfl λh=>A3 rfl<|C8 rfl (hI1) Aw rfl<|Aq rfl<|R7 rfl λh=>A3 rfl<|C8 rfl (hI2) Aw rfl<|Aq rfl<|R7 rfl λh=>A3 rfl<|C8 rfl (Bj b1) Aw rfl<|Aq rfl<|R7 rfl λh=>A3 rfl<|C8 rfl (Bj b2) Aw rfl<|Aq rfl<|R7 rfl λh=>A3 rfl<|C8 rfl (CT hl c1) Aw rfl<|Aq rfl<|R6 rfl λh=>A3 rfl<|C8 rfl (hC) Aw rfl<|Aq rfl<|Ag ⟨_,AH⟩
 rw [if_neg c1] at h;have c1:AY l a fR=false:=by simpa using c1
 by_cases c2:AY l a [40]=true
 ·rw [if_pos c2] at h;obtain ⟨c3,h⟩:=DF h;have c3:=c3 _ (AN.2 rfl);cases hr:Dg l f (a+1) with
  | none=>rw [hr] at h;cases h
  | some r =>
  rw [hr] at h;simp only [Dv] at h;obtain ⟨s1,h⟩:=AX h;cases h;have hT:=ihT _ r.1 r.2 hr;obtain ⟨⟨r1,r2,r3,r4,r5⟩,rp⟩:=r;simp only at s1 hT ⊢;exact AQ AJ func317 rfl [2,3,4]<|Aq rfl<|C8 rfl (hI4) Aw rfl<|Aq rfl<|R7 rfl λh=>A3 rfl<|C8 rfl (hI1) Aw rfl<|Aq rfl<|R7 rfl λh=>A3 rfl<|C8 rfl (hI2) Aw rfl<|Aq rfl<|R7 rfl λh=>A3 rfl<|C8 rfl (Bj b1) Aw rfl<|Aq rfl<|R7 rfl λh=>A3 rfl<|C8 rfl (Bj b2) Aw rfl<|Aq rfl<|R7 rfl λh=>A3 rfl<|C8 rfl (Bj c1) Aw rfl<|Aq rfl<|R7 rfl λh=>A3 rfl<|C8 rfl (CT hl c2) Aw rfl<|Aq rfl<|R6 rfl λh=>A3 rfl<|C8 rfl (Bj c3) Aw rfl<|Aq rfl<|R7 rfl λh=>A3 rfl<|C8 rfl (hT) Aw rfl<|Aq rfl<|C8 rfl (BB hl s1) Aw rfl<|Aq rfl<|Ag ⟨_,AH⟩
 rw [if_neg c2] at h;have c2:AY l a [40]=false:=by simpa using c2
 have hI3:=Kd l a 3
 split at h
 case isFalse=>cases h
 rename_i k3;rw [k3] at hI3;obtain ⟨u,hu,_⟩:=DT k3;have hK:=ihK u hu t b h;obtain ⟨t1,t2,t3,t4,t5⟩:=t;exact AQ AJ func317 rfl [2,3,4]<|Aq rfl<|C8 rfl (hI4) Aw rfl<|Aq rfl<|R7 rfl λh=>A3 rfl<|C8 rfl (hI1) Aw rfl<|Aq rfl<|R7 rfl λh=>A3 rfl<|C8 rfl (hI2) Aw rfl<|Aq rfl<|R7 rfl λh=>A3 rfl<|C8 rfl (Bj b1) Aw rfl<|Aq rfl<|R7 rfl λh=>A3 rfl<|C8 rfl (Bj b2) Aw rfl<|Aq rfl<|R7 rfl λh=>A3 rfl<|C8 rfl (Bj c1) Aw rfl<|Aq rfl<|R7 rfl λh=>A3 rfl<|C8 rfl (Bj c2) Aw rfl<|Aq rfl<|R7 rfl λh=>A3 rfl<|C8 rfl (hI3) Aw rfl<|Aq rfl<|R6 rfl λh=>A3 rfl<|C8 rfl (hK) Aw rfl<|Aq rfl<|Ag ⟨_,AH⟩
theorem Yq (hl:l.length<=10000) (n:Nat) (hnn:n<=1000000) (IH:∀f,f<n->Yi l f):qH l n:=by
 intro k a ks b h;cases n with
 | zero=>simp [LF] at h
 | succ f =>
 rw [LF] at h;obtain ⟨s1,h⟩:=AX h;cases hr:Dg l f (a+1) with
 | none=>rw [hr] at h;cases h
 | some r =>
 rw [hr] at h;simp only [Dv] at h;have hP:=(IH f (Je f)).term _ r.1 r.2 hr;have IH:=λg (hg:g<=f)=>(IH g (by omega)).term;clear hr;obtain ⟨⟨r1,r2,r3,r4,r5⟩,rp⟩:=r;simp only at h hP;refine AQ AJ func321 rfl [2,3,4,5,6]<|Aq rfl<|C8 rfl (BB hl s1) Aw rfl<|Aq rfl<|C8 rfl (hP) Aw rfl<|jgf 6 rfl (by simp)<|oV AJ 3 rfl (by simp)<|Aq rfl ?_;clear hP;refine Ak (λz:Nat×List Tm×Nat=>[(0,.ref 1 0),(1,.imm (.int .i64 k)),(6,.own 3 (Dq z.2.1).length)]) (λz=>[(1,some (lG l z.2.2)),(3,some (.row 49 5 (Dq z.2.1)))]) [4,5,6] (λz=>z.1)
  (λz=>z.1+z.2.1.length<=f+1/\M0 l z.1 k z.2.1 z.2.2=some (ks,b)) (f,[.mk r1 r2 r3 r4 r5],rp) ⟨by simp,h⟩ AH AD rfl λz hz ih=>?_
 clear h;obtain ⟨f1,out,a1⟩:=z;obtain ⟨z1,z2⟩:=hz;simp only at z1 z2 ih;cases f1 with
 | zero=>simp [M0] at z2
 | succ f1 =>
 rw [M0] at z2;refine Xb rfl ?_;by_cases hk:k<0
 ·by_cases c1:AY l a1 [44]=true
  ·rw [if_pos (.inl ⟨hk,c1⟩)] at z2;obtain ⟨-,z2⟩:=AX z2;cases hu:Dg l f1 (a1+1) with
   | none=>rw [hu] at z2;cases z2
   | some u =>
   rw [hu] at z2;simp only [Dv] at z2;have hT:=IH f1 (by omega) _ u.1 u.2 hu;have hap:Dq (out++[u.1])=Dq out++[Al u.1]:=by rw [Kq];rfl
   obtain ⟨⟨u1,u2,u3,u4,u5⟩,up⟩:=u;simp only at z2 hT hap;refine A4 [(1,1)] [] [] (fr:=[]) (nm:=[1,1]) rfl (by simp [Ap,hk]) (by simp [Ap]) (CT hl c1) Aw rfl trivial rfl rfl rfl<|jg [] rfl (by simp [Ap];omega)<|Aa rfl (λh=>?_) (λh=>by exfalso;simp [hk] at h);refine A3 rfl<|Aa rfl (λh=>by exfalso;simp at h;omega) (λh=>?_);exact A3 rfl<|C8 rfl (hT) Aw rfl<|Aq rfl<|Bn AJ rfl ⟨by simp,by simp [maxLen];omega,by simp;omega,trivial⟩<|Aq rfl<|Bo 3 5 rfl<|Ae (ih (f1,out++[.mk u1 u2 u3 u4 u5],up) (Je _) ⟨by simp only [AZ,Cq,B5];omega,z2⟩) ⟨rfl,rfl,by rw [hap];rfl,trivial⟩ ⟨rfl,by rw [hap];rfl,trivial⟩ rfl
  ·have e:¬((k<0/\AY l a1 [44]=true)\/(out.length:Int)<k):=λh=>h.elim (λh=>c1 h.2) (λh=>by omega);rw [if_neg e] at z2;have c1:AY l a1 [44]=false:=by simpa using c1
   obtain ⟨s3,z2⟩:=AX z2;cases z2;refine A4 [(1,1)] [] [1] (fr:=[]) (nm:=[]) rfl (by simp [Ap,hk]) (by simp [Ap]) (Bj c1) Aw rfl ⟨⟨rfl,rfl⟩,trivial⟩ rfl rfl rfl<|La rfl<|Aa rfl (λh=>by exfalso;simp at h;omega) (λh=>?_);exact At rfl<|Bv 3 rfl<|A3 rfl<|C8 rfl (BB hl s3) Aw rfl<|Aq rfl<|Ag ⟨_,AH⟩
 ·refine PO (.imm (.bool false)) rfl (by simp [Ap];omega)<|La rfl ?_;by_cases c2:(out.length:Int)<k
  ·rw [if_pos (.inr c2)] at z2;obtain ⟨s3,z2⟩:=AX z2;cases hu:Dg l f1 (a1+1) with
   | none=>rw [hu] at z2;cases z2
   | some u =>
   rw [hu] at z2;simp only [Dv] at z2;have hT:=IH f1 (by omega) _ u.1 u.2 hu;have hap:Dq (out++[u.1])=Dq out++[Al u.1]:=by rw [Kq];rfl
   obtain ⟨⟨u1,u2,u3,u4,u5⟩,up⟩:=u;simp only at z2 hT hap;refine Aa rfl (λh=>?_) (λh=>by exfalso;simp at h;omega);refine A3 rfl<|Aa rfl (λh=>?_) (λh=>by exfalso;simp at h;omega);exact A3 rfl<|C8 rfl (BB hl s3) Aw rfl<|Aq rfl<|C8 rfl (hT) Aw rfl<|Aq rfl<|Bn AJ rfl ⟨by simp,by simp [maxLen];omega,by simp;omega,trivial⟩<|Aq rfl<|Bo 3 5 rfl<|Ae (ih (f1,out++[.mk u1 u2 u3 u4 u5],up) (Je _) ⟨by simp only [AZ,Cq,B5];omega,z2⟩) ⟨rfl,rfl,by rw [hap];rfl,trivial⟩ ⟨rfl,by rw [hap];rfl,trivial⟩ rfl
  ·rw [if_neg (λh=>h.elim (λh=>hk h.1) c2)] at z2;obtain ⟨s3,z2⟩:=AX z2;cases z2;refine Aa rfl (λh=>by exfalso;simp at h;omega) (λh=>?_);exact At rfl<|Bv 3 rfl<|A3 rfl<|C8 rfl (BB hl s3) Aw rfl<|Aq rfl<|Ag ⟨_,AH⟩
def mtB (n k:Nat):Blk:=.cells 49 5 [.imm (.int .i64 15),.imm (.int .i64 0),.imm (.str []),.own 5 n,.own 6 k]
theorem aV (hl:l.length<=10000) (n:Nat) (hnn:n<=1000000) (IH:∀f,f<n->Yi l f):qT l n:=by
 intro a t b h;cases n with
 | zero=>simp [UH] at h
 | succ f =>
 rw [UH] at h;cases hr:Dg l f a with
 | none=>rw [hr] at h;cases h
 | some r =>
 rw [hr] at h;simp only [Dv] at h;obtain ⟨s1,h⟩:=AX h;have hP:=(IH f (Je f)).term _ r.1 r.2 hr;have IH:=λg (hg:g<=f)=>(IH g (by omega)).term;clear hr;obtain ⟨⟨r1,r2,r3,r4,r5⟩,rp⟩:=r;simp only at h hP s1;refine AQ AJ func322 rfl [2,3,5,4,6,7,8,9,10]<|Aq rfl<|C8 rfl (hP) Aw rfl<|jgf 6 rfl (by simp)<|oV AJ 5 rfl (by simp)<|Aq rfl<|C8 rfl (BB hl s1) Aw rfl<|Aq rfl ?_;clear hP
 refine DV 4 6 (e:=182) (sz:=4) [.imm (.int .i64 15),.imm (.int .i64 0),.imm (.str []),.own 5 1,.own 6 0] (by decide) rfl ⟨.inl rfl,.inl rfl,.inl rfl,.inl rfl,.inr ⟨rfl,rfl⟩,trivial⟩<|Ak (λz:Bool×Nat×List Ty×List Tm×Nat=>[(5,.imm (.bool z.1)),(0,.ref 1 0),(4,.ref 4 0),(2,.ref 2 0)]) (λz=>[(1,some (lG l z.2.2.2.2)),(2,some (.cells 49 5 [.imm (.int .i64 0),.imm (.int .i64 0),.imm (.str []),.nils,.nils])),(4,some (mtB (Dq z.2.2.2.1).length (dTys z.2.2.1).length)),(5,some (.row 49 5 (Dq z.2.2.2.1))),(6,some (.row 182 4 (dTys z.2.2.1)))]) [7,8,9,10] (λz=>z.2.1)
  (λz=>z.2.1+z.2.2.1.length<=f/\z.2.1+z.2.2.2.1.length<=f+1/\if z.1=true then M2 l z.2.1 z.2.2.1 z.2.2.2.1 z.2.2.2.2=some (t,b) else t = .mk 15 0 [] z.2.2.2.1 z.2.2.1/\AY l z.2.2.2.2 [125]=true/\b=z.2.2.2.2+1) (true,f,[],[.mk r1 r2 r3 r4 r5],rp+1)
  ⟨by simp,by simp,by rw [if_pos rfl];exact h⟩ BJ BA rfl λz hz ih=>?_
 clear h;obtain ⟨more,f1,ps,ks,a1⟩:=z;obtain ⟨z1,z3,z2⟩:=hz;simp only at z1 z2 z3 ih;refine Xb rfl ?_;cases more with
 | false =>
  simp only [E1,if_false] at z2;obtain ⟨rfl,z2,rfl⟩:=z2;exact R7 rfl λh=>At rfl<|Bv 5 rfl<|Bv 6 rfl<|A3 rfl<|C8 rfl (BB hl z2) Aw rfl<|Aq rfl<|Ag ⟨_,AH⟩
 | true =>
  simp only [if_true] at z2;cases f1 with
  | zero=>simp [M2] at z2
  | succ f1 =>
  rw [M2] at z2;cases hq:YM l f1 a1 with
  | none=>rw [hq] at z2;cases z2
  | some q =>
  rw [hq] at z2;simp only [Dv] at z2;obtain ⟨s2,z2⟩:=AX z2;cases hu:Dg l f1 (q.2+1) with
  | none=>rw [hu] at z2;cases z2
  | some u =>
  rw [hu] at z2;simp only [Dv] at z2;have hQ:=lV hl f1 (by omega) a1 q.1 q.2 hq;have hT:=IH f1 (by omega) _ u.1 u.2 hu;have hap:dTys (ps++[q.1])=dTys ps++[dTyc q.1]:=by rw [E4];rfl
  have hak:Dq (ks++[u.1])=Dq ks++[Al u.1]:=by rw [Kq];rfl
  obtain ⟨⟨q1,q2,q3,q4⟩,qp⟩:=q;obtain ⟨⟨u1,u2,u3,u4,u5⟩,up⟩:=u;simp only at z2 s2 hQ hT hap hak;refine R6 rfl λh=>A3 rfl<|C8 rfl (hQ) Aw rfl<|Aq rfl<|C8 rfl (BB hl s2) Aw rfl<|Aq rfl<|C8 rfl (hT) Aw rfl<|Aq rfl<|Bn AJ rfl ⟨by simp,by simp [maxLen];omega,by simp;omega,trivial⟩<|Aq rfl<|Bn AJ rfl ⟨by simp,by simp [maxLen];omega,by simp;omega,trivial⟩<|Aq rfl ?_;by_cases c6:AY l up [124]=true
  ·rw [if_pos c6] at z2;exact C8 rfl (CT hl c6) Aw rfl<|Aq rfl<|Bo 6 9 rfl<|Bo 5 10 rfl<|Ae (ih (true,f1,ps++[.mk q1 q2 q3 q4],ks++[.mk u1 u2 u3 u4 u5],up+1) (Je _) ⟨by simp only [AZ,Cq,B5];omega,by simp only [AZ,Cq,B5];omega,by rw [if_pos rfl];exact z2⟩) BJ ⟨rfl,rfl,by rw [hap,hak];rfl,by rw [hak];rfl,by rw [hap];rfl,trivial⟩ rfl
  ·rw [if_neg c6] at z2;have c6:AY l up [124]=false:=by simpa using c6
   obtain ⟨z4,z2⟩:=AX z2;cases z2;exact C8 rfl (Bj c6) Aw rfl<|Aq rfl<|Bo 6 9 rfl<|Bo 5 10 rfl<|Ae (ih (false,f1,ps++[.mk q1 q2 q3 q4],ks++[.mk u1 u2 u3 u4 u5],up) (Je _) ⟨by simp only [AZ,Cq,B5];omega,by simp only [AZ,Cq,B5];omega,by rw [if_neg (by simp)];exact ⟨rfl,z4,rfl⟩⟩) BJ ⟨rfl,rfl,by rw [hap,hak];rfl,by rw [hak];rfl,by rw [hap];rfl,trivial⟩ rfl
theorem cF (hl:l.length<=10000):∀n,n<=1000000->Yi l n:=λn=>by
 induction n using Nat.strongRecOn with
 | ind n IH=>exact λhn =>
  have IH':=λf hf=>IH f hf (sY (Nat.le_of_lt hf) hn)
  ⟨eL hl n IH',kN hl n IH',qC hl n IH',jD hl n IH',aV hl n hn IH',Yq hl n hn IH'⟩
def zX (x:Str) (n:Nat):Blk:=.cells 113 2 [.imm (.str x),.own 4 n]
def cnB (x:Str) (n:Nat):Blk:=.cells 178 2 [.imm (.str x),.own 6 n]
theorem pN (hl:l.length<=10000) {f:Nat} (hf:f<=100000) {a:Nat} {d:Dt} (h:cG l f a=some (d,b)):Tq4 240 [.ref 1 0] (GG l a) (.ret (.imm (.agg (BE d))) (GG l b)):=by
 unfold cG at h
 split at h
 case isFalse=>cases h
 rename_i k1;obtain ⟨s1,h⟩:=AX h;obtain ⟨u,hu,hk,hx,_⟩:=DT k1;rw [hx] at h;cases hr:Tf l f [] (a+2) with
 | none=>rw [hr] at h;cases h
 | some r =>
 rw [hr] at h;cases h;obtain ⟨css,b⟩:=r;obtain ⟨u1,u2,u3,u4⟩:=u;simp only;refine AQ AJ func240 rfl [2,3,4,5,6,7,8,9]<|Aq rfl<|C8 rfl (D5 hl hu hk) Aw rfl<|Aq rfl<|C8 rfl (BB hl s1) Aw rfl<|Aq rfl<|DV 3 4 (e:=178) (sz:=2) [.imm (.str u2),.own 4 0] (by decide) rfl ⟨.inl rfl,.inr ⟨rfl,rfl⟩,trivial⟩<|Ak (λz:Bool×Nat×List Cd×Nat=>[(4,.imm (.bool z.1)),(0,.ref 1 0),(3,.ref 3 0),(2,.ref 2 0)]) (λz=>[(1,some (lG l z.2.2.2)),(2,some (.cells 113 2 [.imm (.str []),.nils])),(3,some (zX u2 (z.2.2.1.map CK).length)),(4,some (.row 178 2 (z.2.2.1.map CK)))]) [5,6,7,8,9] (λz=>z.2.1)
  (λz=>z.2.1+z.2.2.1.length<=f/\if z.1=true then Tf l z.2.1 z.2.2.1 z.2.2.2=some (css,b) else css=z.2.2.1/\AY l z.2.2.2 [59]=true/\b=z.2.2.2+1) (true,f,[],a+2)
  ⟨by simp,by rw [if_pos rfl];exact hr⟩ BJ BJ rfl λz hz ih=>?_
 clear hr hu k1 hx hk s1;obtain ⟨more,f1,cs,a1⟩:=z;obtain ⟨z1,z2⟩:=hz;simp only at z1 z2 ih;refine Xb rfl ?_;cases more with
 | false =>
  simp only [E1,if_false] at z2;obtain ⟨rfl,z2,rfl⟩:=z2;exact R7 rfl λh=>At rfl<|Bv 4 rfl<|A3 rfl<|C8 rfl (BB hl z2) Aw rfl<|Aq rfl<|Ag ⟨_,AH⟩
 | true =>
  simp only [if_true] at z2;cases f1 with
  | zero=>simp [Tf] at z2
  | succ f1 =>
  rw [Tf] at z2
  split at z2
  case isFalse=>cases z2
  rename_i k2;obtain ⟨v,hv,hk,hx,_⟩:=DT k2;rw [hx] at z2;obtain ⟨v1,v2,v3,v4⟩:=v;have hap:∀ts,(cs++[(⟨v2,ts⟩:Cd)]).map CK=cs.map CK++[CK ⟨v2,ts⟩]:=λts=>by simp
  simp only at z2;refine R6 rfl λh=>A3 rfl<|C8 rfl (D5 hl hv hk) Aw rfl<|Aq rfl ?_;by_cases c1:AY l (a1+1) [40]=true
  ·rw [if_pos c1] at z2;cases hw:Tg l f1 [] (a1+2) with
   | none=>rw [hw] at z2;cases z2
   | some w =>
   rw [hw] at z2;obtain ⟨tss,c⟩:=w;simp only [Dv] at z2;refine C8 rfl (CT hl c1) Aw rfl<|Aq rfl<|R6 rfl λh=>A3 rfl<|DV 5 6 (e:=25) (sz:=4) [.imm (.str v2),.own 6 0] (by decide) rfl ⟨.inl rfl,.inr ⟨rfl,rfl⟩,trivial⟩<|Ak (λz:Bool×Nat×List Ty×Nat=>[(6,.imm (.bool z.1)),(0,.ref 1 0),(3,.ref 3 0),(2,.ref 2 0),(5,.ref 5 0)]) (λz=>[(1,some (lG l z.2.2.2)),(2,some (.cells 113 2 [.imm (.str []),.nils])),(3,some (zX u2 (cs.map CK).length)),(4,some (.row 178 2 (cs.map CK))),(5,some (cnB v2 (dTys z.2.2.1).length)),(6,some (.row 25 4 (dTys z.2.2.1)))]) [7,8,9] (λz=>z.2.1)
    (λz=>z.2.1+z.2.2.1.length<=f1/\if z.1=true then Tg l z.2.1 z.2.2.1 z.2.2.2=some (tss,c) else tss=z.2.2.1/\AY l z.2.2.2 [41]=true/\c=z.2.2.2+1) (true,f1,[],a1+2)
    ⟨by simp,by rw [if_pos rfl];exact hw⟩ BA GE rfl λy hy jh=>?_
   clear hw;obtain ⟨more,g1,ts,a2⟩:=y;obtain ⟨y1,y2⟩:=hy;simp only at y1 y2 jh;refine Xb rfl ?_;cases more with
   | false =>
    simp only [E1,if_false] at y2;obtain ⟨rfl,y2,rfl⟩:=y2;refine R7 rfl λh=>At rfl<|Bv 6 rfl<|A3 rfl<|C8 rfl (BB hl y2) Aw rfl<|Aq rfl<|Bn AJ rfl ⟨by simp,by simp [maxLen];omega,by simp;omega,trivial⟩<|Aq rfl ?_;by_cases c6:AY l (a2+1) [124]=true
    ·rw [if_pos c6] at z2;exact C8 rfl (CT hl c6) Aw rfl<|Aq rfl<|Bo 4 7 rfl<|Ae (ih (true,f1,cs++[⟨v2,tss⟩],a2+1+1) (Je _) ⟨by simp only [AZ,Cq,B5];omega,by rw [if_pos rfl];exact z2⟩) BJ ⟨rfl,rfl,by rw [hap];rfl,by rw [hap];rfl,trivial⟩ rfl
    ·rw [if_neg c6] at z2;have c6:AY l (a2+1) [124]=false:=by simpa using c6
     obtain ⟨z4,z2⟩:=AX z2;cases z2;exact C8 rfl (Bj c6) Aw rfl<|Aq rfl<|Bo 4 7 rfl<|Ae (ih (false,f1,cs++[⟨v2,tss⟩],a2+1) (Je _) ⟨by simp only [AZ,Cq,B5];omega,by rw [if_neg (by simp)];exact ⟨rfl,z4,rfl⟩⟩) BJ ⟨rfl,rfl,by rw [hap];rfl,by rw [hap];rfl,trivial⟩ rfl
   | true =>
    simp only [if_true] at y2;cases g1 with
    | zero=>simp [Tg] at y2
    | succ g1 =>
    rw [Tg] at y2;cases hq:M1 l a2 with
    | none=>rw [hq] at y2;cases y2
    | some q =>
    rw [hq] at y2;simp only [Dv] at y2;have hQ:=QZ hl (t:=q.1) (b:=q.2) hq;have hat:dTys (ts++[q.1])=dTys ts++[dTyc q.1]:=by rw [E4];rfl
    obtain ⟨⟨q1,q2,q3,q4⟩,qp⟩:=q;simp only at y2 hQ hat
    refine R6 rfl λh=>A3 rfl<|C8 rfl (hQ) Aw rfl<|Aq rfl<|Bn AJ rfl ⟨by simp,by simp [maxLen];omega,by simp;omega,trivial⟩<|Aq rfl ?_;by_cases c6:AY l qp [44]=true
    ·rw [if_pos c6] at y2;exact C8 rfl (CT hl c6) Aw rfl<|Aq rfl<|Bo 6 8 rfl<|Ae (jh (true,g1,ts++[.mk q1 q2 q3 q4],qp+1) (Je _) ⟨by simp only [AZ,Cq,B5];omega,by rw [if_pos rfl];exact y2⟩) BA ⟨rfl,rfl,rfl,rfl,by rw [hat];rfl,by rw [hat];rfl,trivial⟩ rfl
    ·rw [if_neg c6] at y2;have c6:AY l qp [44]=false:=by simpa using c6
     obtain ⟨z4,y2⟩:=AX y2;cases y2;exact C8 rfl (Bj c6) Aw rfl<|Aq rfl<|Bo 6 8 rfl<|Ae (jh (false,g1,ts++[.mk q1 q2 q3 q4],qp) (Je _) ⟨by simp only [AZ,Cq,B5];omega,by rw [if_neg (by simp)];exact ⟨rfl,z4,rfl⟩⟩) BA ⟨rfl,rfl,rfl,rfl,by rw [hat];rfl,by rw [hat];rfl,trivial⟩ rfl
  ·rw [if_neg c1] at z2;have c1:AY l (a1+1) [40]=false:=by simpa using c1
   simp only [Dv] at z2;refine C8 rfl (Bj c1) Aw rfl<|Aq rfl<|R7 rfl λh=>A3 rfl<|Bn AJ rfl ⟨by simp,by simp [maxLen];omega,by simp;omega,trivial⟩<|Aq rfl ?_;by_cases c6:AY l (a1+1) [124]=true
   ·rw [if_pos c6] at z2;exact C8 rfl (CT hl c6) Aw rfl<|Aq rfl<|Bo 4 6 rfl<|Ae (ih (true,f1,cs++[⟨v2,[]⟩],a1+1+1) (Je _) ⟨by simp only [AZ,Cq,B5];omega,by rw [if_pos rfl];exact z2⟩) BJ ⟨rfl,rfl,by rw [hap];rfl,by rw [hap];rfl,trivial⟩ rfl
   ·rw [if_neg c6] at z2;have c6:AY l (a1+1) [124]=false:=by simpa using c6
    obtain ⟨z4,z2⟩:=AX z2;cases z2;exact C8 rfl (Bj c6) Aw rfl<|Aq rfl<|Bo 4 6 rfl<|Ae (ih (false,f1,cs++[⟨v2,[]⟩],a1+1) (Je _) ⟨by simp only [AZ,Cq,B5];omega,by rw [if_neg (by simp)];exact ⟨rfl,z4,rfl⟩⟩) BJ ⟨rfl,rfl,by rw [hap];rfl,by rw [hap];rfl,trivial⟩ rfl
theorem tT (hl:l.length<=10000) {f:Nat} (hf:f<=100000) {a:Nat} {d:Fd} (h:sK l f a=some (d,b)):Tq4 241 [.ref 1 0] (GG l a) (.ret (.imm (.agg (Cg d))) (GG l b)):=by
 unfold sK at h
 split at h
 case isFalse=>cases h
 rename_i k1;obtain ⟨s1,h⟩:=AX h
 split at h
 case isFalse=>cases h
 rename_i k2;obtain ⟨s2,h⟩:=AX h;obtain ⟨x,hx,hk,ht,_⟩:=DT k1;obtain ⟨y,hy,hk2,ht2,_⟩:=DT k2;rw [ht,ht2] at h;cases hr:M1 l (a+4) with
 | none=>rw [hr] at h;cases h
 | some r =>
 rw [hr] at h;simp only [Dv] at h;obtain ⟨s3,h⟩:=AX h;obtain ⟨s4,h⟩:=AX h;cases hu:M1 l (r.2+2) with
 | none=>rw [hu] at h;cases h
 | some u =>
 rw [hu] at h;simp only [Dv] at h;obtain ⟨s5,h⟩:=AX h;cases hv:Dg l f (u.2+1) with
 | none=>rw [hv] at h;cases h
 | some v =>
 rw [hv] at h;simp only [Dv] at h;obtain ⟨s6,h⟩:=AX h;cases h;have hR:=QZ hl (t:=r.1) (b:=r.2) hr;have hU:=QZ hl (t:=u.1) (b:=u.2) hu;have hV:=(cF hl f (by omega)).term _ v.1 v.2 hv;clear hr hu hv;obtain ⟨⟨r1,r2,r3,r4⟩,rp⟩:=r;obtain ⟨⟨u1,u2,u3,u4⟩,up⟩:=u;obtain ⟨⟨v1,v2,v3,v4,v5⟩,vp⟩:=v;obtain ⟨x1,x2,x3,x4⟩:=x;obtain ⟨y1,y2,y3,y4⟩:=y;simp only at s3 s4 s5 s6 hR hU hV ⊢
 exact AQ AJ func241 rfl [2,3]<|Aq rfl<|C8 rfl (D5 hl hx hk) Aw rfl<|Aq rfl<|C8 rfl (BB hl s1) Aw rfl<|Aq rfl<|C8 rfl (D5 hl hy hk2) Aw rfl<|Aq rfl<|C8 rfl (BB hl s2) Aw rfl<|Aq rfl<|C8 rfl (hR) Aw rfl<|Aq rfl<|C8 rfl (BB hl s3) Aw rfl<|Aq rfl<|C8 rfl (BB hl s4) Aw rfl<|Aq rfl<|C8 rfl (hU) Aw rfl<|Aq rfl<|C8 rfl (BB hl s5) Aw rfl<|Aq rfl<|C8 rfl (hV) Aw rfl<|Aq rfl<|C8 rfl (BB hl s6) Aw rfl<|Aq rfl<|Ag ⟨_,AH⟩
def mdB (x:Str) (n:Nat):Blk:=.cells 43 3 [.imm (.str x),.own 4 n,.nils]
def mdB2 (x:Str) (n k:Nat):Blk:=.cells 43 3 [.imm (.str x),.own 4 n,.own 5 k]
theorem YV (hl:l.length<=10000) {f:Nat} (hf:f<=100000) (h:UG l f=some (m,b)):Tq4 171 [.ref 1 0] (GG l 0) (.ret (.imm (.agg (Du m))) (GG l b)):=by
 unfold UG at h;obtain ⟨s1,h⟩:=AX h
 split at h
 case isFalse=>cases h
 rename_i k1;obtain ⟨s2,h⟩:=AX h;obtain ⟨x,hx,hk,ht,_⟩:=DT k1;rw [ht] at h;cases hr:NL l f [] 3 with
 | none=>rw [hr] at h;cases h
 | some r =>
 rw [hr] at h;simp only [Dv] at h;cases hu:Te l f [] r.2 with
 | none=>rw [hu] at h;cases h
 | some u =>
 rw [hu] at h;simp only [Dv] at h;obtain ⟨s3,h⟩:=AX h;cases h;obtain ⟨ds,c⟩:=r;obtain ⟨fs,e⟩:=u;obtain ⟨x1,x2,x3,x4⟩:=x;simp only at hu s3 ⊢;refine AQ AJ func171 rfl [2,3,4,5,6,7,8]<|Aq rfl<|C8 rfl (BB hl s1) Aw rfl<|Aq rfl<|C8 rfl (D5 hl hx hk) Aw rfl<|Aq rfl<|C8 rfl (BB hl s2) Aw rfl<|Aq rfl<|DV 3 4 (e:=113) (sz:=2) [.imm (.str x2),.own 4 0,.nils] (by decide) rfl ⟨.inl rfl,.inr ⟨rfl,rfl⟩,.inl rfl,trivial⟩<|Ak (λ_:Nat×List Dt×Nat=>[(0,.ref 1 0),(3,.ref 3 0),(2,.ref 2 0)]) (λz=>[(1,some (lG l z.2.2)),(2,some (.cells 43 3 [.imm (.str []),.nils,.nils])),(3,some (mdB x2 (z.2.1.map BE).length)),(4,some (.row 113 2 (z.2.1.map BE)))]) [5,6,7,8] (λz=>z.1)
  (λz=>z.1+z.2.1.length<=f/\NL l z.1 z.2.1 z.2.2=some (ds,c)) (f,[],3) ⟨by simp,hr⟩ AH BJ rfl λz hz ih=>?_
 obtain ⟨f1,d1,a1⟩:=z;obtain ⟨z1,z2⟩:=hz;simp only at z1 z2 ih;cases f1 with
 | zero=>simp [NL] at z2
 | succ f1 =>
 rw [NL] at z2;refine A3 rfl ?_;by_cases c1:AY l a1 [116,121,112,101]=true
 ·rw [if_pos c1] at z2;cases hq:cG l f1 (a1+1) with
  | none=>rw [hq] at z2;cases z2
  | some q =>
  rw [hq] at z2;simp only [Dv] at z2;have hD:=pN hl (f:=f1) (by omega) (d:=q.1) (b:=q.2) hq;have hap:(d1++[q.1]).map BE=d1.map BE++[BE q.1]:=by simp
  obtain ⟨⟨q1,q2⟩,qp⟩:=q;simp only at z2 hD hap;exact C8 rfl (CT hl c1) Aw rfl<|Aq rfl<|R6 rfl λh=>A3 rfl<|C8 rfl (hD) Aw rfl<|Aq rfl<|Bn AJ rfl ⟨by simp,by simp [maxLen];omega,by simp;omega,trivial⟩<|Aq rfl<|Bo 4 6 rfl<|Ae (ih (f1,d1++[⟨q1,q2⟩],qp) (Je _) ⟨by simp only [AZ,Cq,B5];omega,z2⟩) AH ⟨rfl,rfl,by rw [hap];rfl,by rw [hap];rfl,trivial⟩ rfl
 rw [if_neg c1] at z2;have c1:AY l a1 [116,121,112,101]=false:=by simpa using c1
 cases z2;clear ih;refine C8 rfl (Bj c1) Aw rfl<|Aq rfl<|R7 rfl λh=>At rfl<|A3 rfl<|DV 3 5 (e:=71) (sz:=15) [.imm (.str x2),.own 4 (ds.map BE).length,.own 5 0] (by decide) rfl ⟨.inl rfl,.inl rfl,.inr ⟨rfl,rfl⟩,trivial⟩<|Ak (λ_:Nat×List Fd×Nat=>[(0,.ref 1 0),(3,.ref 3 0),(2,.ref 2 0)]) (λz=>[(1,some (lG l z.2.2)),(2,some (.cells 43 3 [.imm (.str []),.nils,.nils])),(3,some (mdB2 x2 (ds.map BE).length (z.2.1.map Cg).length)),(4,some (.row 113 2 (ds.map BE))),(5,some (.row 71 15 (z.2.1.map Cg)))]) [6,7,8] (λz=>z.1)
  (λz=>z.1+z.2.1.length<=f/\Te l z.1 z.2.1 z.2.2=some (fs,e)) (f,[],c) ⟨by simp,hu⟩ AH BA rfl λz hz ih=>?_
 clear z1;obtain ⟨f2,d1,a2⟩:=z;obtain ⟨z1,z2⟩:=hz;simp only at z1 z2 ih;cases f2 with
 | zero=>simp [Te] at z2
 | succ f2 =>
 rw [Te] at z2;refine A3 rfl ?_;by_cases c2:AY l a2 [102,117,110]=true
 ·rw [if_pos c2] at z2;cases hq:sK l f2 (a2+1) with
  | none=>rw [hq] at z2;cases z2
  | some q =>
  rw [hq] at z2;simp only [Dv] at z2;have hD:=tT hl (f:=f2) (by omega) (d:=q.1) (b:=q.2) hq;have hap:(d1++[q.1]).map Cg=d1.map Cg++[Cg q.1]:=by simp
  obtain ⟨⟨q1,q2,⟨g1,g2,g3,g4⟩,⟨k1,k2,k3,k4⟩,⟨t1,t2,t3,t4,t5⟩⟩,qp⟩:=q;simp only at z2 hD hap;exact C8 rfl (CT hl c2) Aw rfl<|Aq rfl<|R6 rfl λh=>A3 rfl<|C8 rfl (hD) Aw rfl<|Aq rfl<|Bn AJ rfl ⟨by simp,by simp [maxLen];omega,by simp;omega,trivial⟩<|Aq rfl<|Bo 5 7 rfl<|Ae (ih (f2,d1++[_],qp) (Je _) ⟨by simp only [AZ,Cq,B5];omega,z2⟩) AH ⟨rfl,rfl,by rw [hap];rfl,rfl,by rw [hap];rfl,trivial⟩ rfl
 rw [if_neg c2] at z2;have c2:AY l a2 [102,117,110]=false:=by simpa using c2
 cases z2;clear ih;exact C8 rfl (Bj c2) Aw rfl<|Aq rfl<|R7 rfl λh=>At rfl<|Bv 4 rfl<|Bv 5 rfl<|A3 rfl<|C8 rfl (BB hl s3) Aw rfl<|Aq rfl<|Ag ⟨_,AH⟩
theorem Jy {g f:Nat} {t:Tm} (hs:s.length<=8000) (hg:g<=1000000) (ht:Iu g s (EO s 0)=some l) (hl:l.length<=10000) (hf:f<=100000) (hp:Dg l f 0=some (t,l.length)) (hc:O5 t=true) :
  Tq3 111 [.str s] (.tup [.agg (Al t),.int .i64 0]):=by
 have hR:=bW s l hs g hg ht;have hT:=(cF hl f (by omega)).term _ _ _ hp;have hW:=SC l;have hC:=dV t;rw [hc] at hC;obtain ⟨t1,t2,t3,t4,t5⟩:=t;exact AQ AJ func111 rfl [2,1,3]<|Aq rfl<|Jf [1] [] [(1,1)] rfl hR trivial rfl rfl<|Aq rfl<|R7 rfl λh=>A3 rfl<|C8 rfl (hT) Aw rfl<|Aq rfl<|C8 rfl (hW) Aw rfl<|Aq rfl<|R7 rfl λh=>A3 rfl<|Ad rfl hC<|Aq rfl<|R7 rfl λh=>A3 rfl<|Ab rfl rfl rfl
theorem RS {g f:Nat} {t:Md} (hs:s.length<=8000) (hg:g<=1000000) (ht:Iu g s (EO s 0)=some l) (hl:l.length<=10000) (hf:f<=100000) (hp:UG l f=some (t,l.length)) (hc:D6 t=true) :
  Tq3 110 [.str s] (.tup [.agg (Du t),.int .i64 0]):=by
 have hR:=bW s l hs g hg ht;have hT:=YV hl hf hp;have hW:=SC l;have hC:=Uh t;rw [hc] at hC;obtain ⟨t1,t2,t3⟩:=t;exact AQ AJ func110 rfl [2,1,3]<|Aq rfl<|Jf [1] [] [(1,1)] rfl hR trivial rfl rfl<|Aq rfl<|R7 rfl λh=>A3 rfl<|C8 rfl (hT) Aw rfl<|Aq rfl<|C8 rfl (hW) Aw rfl<|Aq rfl<|R7 rfl λh=>A3 rfl<|Ad rfl hC<|Aq rfl<|R7 rfl λh=>A3 rfl<|Ab rfl rfl rfl
def Q9 (L:List Ty) (x:List Ty×Bool) (r:Option Sb):Prop:=x.1.length=L.length/\x.2=r.isSome/\∀σ',r=some σ'->Fk x.1=σ'
mutual
def WB:Ty->Ty->Sb->Option Sb
 | .mk f n x ps,b,σ=>if f=9 then (match σ n with | none=>some (Ew σ n b) | some v=>if J8 v b=true then some σ else none)
  else if f=BQ b/\x=jM b/\ps.length=(Ff b).length then WA ps (Ff b) σ else none
def WA:List Ty->List Ty->Sb->Option Sb
 | p::ps,q::qs,σ=>match WB p q σ with
  | some σ'=>WA ps qs σ'
  | none=>none
 | _,_,σ=>some σ
end
mutual
def Dz:Ty->Ty->List Ty->List Ty×Bool
 | .mk f n x ps,b,l=>if f=9 then (if BQ (l.getD n.toNat Dr)=0 then (l.set n.toNat b,true) else (l,J8 (l.getD n.toNat Dr) b))
  else if f=BQ b/\x=jM b/\ps.length=(Ff b).length then EA ps (Ff b) l else (l,false)
def EA:List Ty->List Ty->List Ty->List Ty×Bool
 | p::ps,q::qs,l=>if (Dz p q l).2=true then EA ps qs (Dz p q l).1 else Dz p q l
 | _,_,l=>(l,true)
end
mutual
theorem FM:∀(a b:Ty) (l:List Ty),C9 b=true->inB l.length a->Q9 l (Dz a b l) (WB a b (Fk l))
 | .mk f n x ps,b,l,hb,ha=>by
  by_cases e9:f=9
  ·subst e9;have hn:=ha.num rfl;simp only [num] at hn;obtain ⟨v,hv⟩:=Am (l:=l) (i:=n.toNat) (by omega);have hs:=rN hv;rw [show ((n.toNat:Nat):Int)=n by omega] at hs;have hd:l.getD n.toNat Dr=v:=by rw [I8,hv];rfl
   rw [Dz,WB,if_pos rfl,if_pos rfl,hd,hs];by_cases h0:BQ v=0
   ·rw [if_pos h0,if_pos h0];exact ⟨by simp,rfl,λσ' h=>by cases h;exact U3 hn (jT hb)⟩
   ·rw [if_neg h0,if_neg h0];simp only;cases J8 v b with
    | true=>exact ⟨rfl,rfl,λσ' h=>by cases h;rfl⟩
    | false=>exact ⟨rfl,rfl,λσ' h=>nomatch h⟩
  ·rw [Dz,WB,if_neg e9,if_neg e9];by_cases hh:f=BQ b/\x=jM b/\ps.length=(Ff b).length
   ·rw [if_pos hh,if_pos hh];exact Ig ps (Ff b) l (EU hb) (λp hp=>ha.part e9 hp)
   ·rw [if_neg hh,if_neg hh];exact ⟨rfl,rfl,λσ' h=>nomatch h⟩
theorem Ig:∀(ta tb:List Ty) (l:List Ty),(∀b∈tb,C9 b=true)->(∀a∈ta,inB l.length a)->Q9 l (EA ta tb l) (WA ta tb (Fk l))
 | a::ta,b::tb,l,hb,ha=>by
  obtain ⟨h1,h2,h3⟩:=FM a b l (hb b (by simp)) (ha a (by simp));rw [EA,WA];cases hm:WB a b (Fk l) with
  | none =>
   rw [hm] at h2;rw [if_neg (by rw [h2];simp)];exact ⟨h1,h2,λσ' h=>nomatch h⟩
  | some σ1 =>
   rw [hm] at h2;rw [if_pos (by rw [h2];rfl)];have ih:=Ig ta tb (Dz a b l).1 (λb' hb'=>hb b' (by simp [hb'])) (λa' ha'=>by rw [h1];exact ha a' (by simp [ha']));rw [h3 σ1 hm] at ih;exact ⟨ih.1.trans h1,ih.2.1,ih.2.2⟩
 | [],[],l,_,_=>⟨rfl,rfl,λσ' h=>by cases h;rfl⟩
 | [],_::_,l,_,_=>⟨rfl,rfl,λσ' h=>by cases h;rfl⟩
 | _::_,[],l,_,_=>⟨rfl,rfl,λσ' h=>by cases h;rfl⟩
end
theorem QK:∀(a b:Ty) (l:List Ty),C9 b=true->inB l.length a->(Dz a b l).1.length=l.length:=λa b l hb ha=>(FM a b l hb ha).1
theorem hZ (f:FuncId) (aa bb:List Ty) (hq:∀(i:Nat) a b,aa[i]?=some a->bb[i]?=some b->Tq3 f [.agg (dTyc a),.agg (dTyc b)] (.bool (J8 a b))) :
  Tq3 178 [.sl (dTys aa),.sl (dTys bb),.fn (.func f)] (.bool (FL aa bb)):=by
 refine Bl λhv=>?_;simp [Cx,Ez,maxLen] at hv;refine AQ Ah func178 rfl [1,2,3,4]<|Ai rfl ?_;by_cases hl:aa.length=bb.length
 ·refine Aa rfl (λh=>by exfalso;simp at h;omega) (λh=>?_);refine Av rfl<|Ak (λi:Nat=>[(17,.imm (.int .i64 i)),(16,.imm (.int .i64 aa.length)),(15,.imm (.sl (dTys aa))),(1,.imm (.sl (dTys bb))),(2,.imm (.fn (.func f)))]) (λ_=>[]) [1,2,3,4] (λi=>aa.length-i) (λi=>i<=aa.length/\FL aa bb=FL (aa.drop i) (bb.drop i)) 0
   ⟨AF _,rfl⟩ ⟨rfl,A8 (by simp),AH⟩ trivial rfl λi hi ih=>?_
  obtain ⟨hi1,hi2⟩:=hi;refine Av rfl<|Aa rfl (λh=>?_) (λh=>?_)
  ·have hlt:i<aa.length:=by simp at h;omega
   obtain ⟨a,ha⟩:=Am hlt;obtain ⟨b,hb⟩:=Am (l:=bb) (i:=i) (by omega);have hga:=AA ha;have hgb:=AA hb;have hQ:=hq i a b ha hb;rw [As ha,As hb,FL] at hi2;generalize J8 a b=o at *;obtain ⟨a1,a2,a3,a4⟩:=a;obtain ⟨b1,b2,b3,b4⟩:=b;refine Av rfl<|HA rfl hga<|Ai rfl<|HA rfl hgb<|Ai rfl<|Ad rfl hQ<|Ai rfl ?_;cases o with
   | false =>
    rw [Bool.false_and] at hi2;exact R6 rfl λh=>Av rfl<|Ag ⟨_,rfl,tV (by rw [hi2]),trivial⟩
   | true =>
    rw [JU] at hi2;exact R7 rfl λh=>Av rfl<|Ae (ih (i+1) (by omega) ⟨by omega,hi2⟩) ⟨M6,BJ⟩ trivial rfl
  ·have hlt:¬i<aa.length:=by simp at h;omega
   rw [Bh (by omega),Bh (by omega)] at hi2;exact At rfl<|Av rfl<|Ag ⟨_,rfl,tV (by rw [hi2];rfl),trivial⟩
 ·refine Aa rfl (λh=>?_) (λh=>by exfalso;simp at h;omega);exact Av rfl<|Ag ⟨_,rfl,tV (by rw [TU hl]),trivial⟩
theorem WM:∀a b:Ty,Tq3 121 [.agg (dTyc a),.agg (dTyc b)] (.bool (J8 a b))
 | .mk s n x ps,.mk s' n' x' qs=>by
  have hE:=hZ 121 ps qs λi a b ha hb=>WM a b;simp only [J8];generalize FL ps qs=o at *;refine AQ Ah func121 rfl [1,2,3,4]<|CW rfl<|Ce rfl hE<|CW rfl<|Ab rfl rfl (congrArg _ ?_);cases o <;> cases s == s' <;> cases n == n' <;> cases x == x' <;> rfl
termination_by a=>SizeOf.sizeOf a
decreasing_by
 have:=Ct (AK ha);simp_wf;omega
theorem gZ (l:List Ty) (f:FuncId) (a b:List V) (q:Ty->Bool) (hq:∀t∈l,Tq3 f (a++[.agg (dTyc t)]++b) (.bool (q t))) :
  ∃i:Int,(0<=i↔l.any q=true)/\Tq3 245 [.sl (dTys l),.clo (.func f) a b] (.int .i64 i):=by
 obtain ⟨i,h1,h2⟩:∃i:Int,(0<=i↔l.any q=true)/\((i = -1/\l.any q=false)\/∃(k:Nat) (t:Ty),i=k/\l[k]?=some t/\q t=true/\(l.take k).any q=false):=by
  by_cases h:l.any q=true
  ·have key:∀(n:Nat),(l.take n).any q=true->∃(k:Nat) (t:Ty),l[k]?=some t/\q t=true/\(l.take k).any q=false:=λn=>by
    induction n with
    | zero=>intro h;simp at h
    | succ n ih =>
     intro h;by_cases hn:(l.take n).any q=true
     ·exact ih hn
     ·by_cases hl:n<l.length
      ·obtain ⟨t,ht⟩:=Am hl;rw [Bk ht,DU] at h;simp only [QN] at hn;rw [hn,JP] at h;exact ⟨n,t,ht,by simpa using h,hn⟩
      ·rw [CQ (by omega)] at h hn;exact absurd h hn
   obtain ⟨k,t,k1,k2,k3⟩:=key l.length (by rw [E0];exact h);exact ⟨k,⟨λ_=>h,λ_=>by omega⟩,.inr ⟨k,t,rfl,k1,k2,k3⟩⟩
  ·exact ⟨-1,⟨λh'=>by omega,λh'=>absurd h' h⟩,.inl ⟨rfl,by simpa using h⟩⟩
 refine ⟨i,h1,?_⟩;clear h1;refine Bl λhv=>?_;simp [Cx,Ez,maxLen] at hv;refine AQ Ah func245 rfl [1,2]<|Ai rfl<|Ak (λj:Nat=>[(8,.imm (.int .i64 j)),(7,.imm (.int .i64 l.length)),(0,.imm (.sl (dTys l))),(1,.imm (.clo (.func f) a b))]) (λ_=>[]) [1,2] (λj=>l.length-j) (λj=>j<=l.length/\(l.take j).any q=false) 0
  ⟨AF _,rfl⟩ ⟨rfl,A8 (by simp),AD⟩ trivial rfl λj hj ih=>?_
 obtain ⟨hj1,hj2⟩:=hj;refine Av rfl<|Aa rfl (λh=>?_) (λh=>?_)
 ·have hlt:j<l.length:=by simp at h;omega
  obtain ⟨t,ht⟩:=Am hlt;have hg:=AA ht;have hQ:=hq t (AK ht);have htk:(l.take (j+1)).any q=q t:=by rw [Bk ht,DU,hj2];simp
  have hfound:q t=true->i=j:=λhqt=>by
   rcases h2 with ⟨_,h⟩ | ⟨k,u,rfl,k1,k2,k3⟩
   ·have:l.any q=true:=Ze.2 ⟨t,AK ht,hqt⟩;rw [this] at h;cases h
   ·congr 1;rcases LM k j with hc | hc | hc
    ·have:(l.take j).any q=true:=Ze.2 ⟨u,DE.2 ⟨k,by rw [Dl,if_pos hc];exact k1⟩,k2⟩;rw [hj2] at this;cases this
    ·exact hc
    ·have:(l.take k).any q=true:=Ze.2 ⟨t,DE.2 ⟨j,by rw [Dl,if_pos hc];exact ht⟩,hqt⟩;rw [k3] at this;cases this
  generalize q t=o at *;obtain ⟨t1,t2,t3,t4⟩:=t;refine Av rfl<|HA rfl hg<|Ai rfl<|PP rfl (λ_=>hQ) (by simp)<|Ai rfl ?_;cases o with
  | true =>
   exact R6 rfl λh=>Av rfl<|Ag ⟨_,rfl,tV (by rw [hfound rfl]),trivial⟩
  | false =>
   exact R7 rfl λh=>Av rfl<|Ae (ih (j+1) (by omega) ⟨by omega,htk⟩) ⟨M6,AH⟩ trivial rfl
 ·have hlt:¬j<l.length:=by simp at h;omega
  rw [CQ (by omega)] at hj2;have hi:i = -1:=by
   rcases h2 with ⟨h,_⟩ | ⟨k,u,_,k1,k2,_⟩
   ·exact h
   ·have:l.any q=true:=Ze.2 ⟨u,AK k1,k2⟩;rw [hj2] at this;cases this
  exact At rfl<|Av rfl<|Ag ⟨_,rfl,tV (by rw [hi]),trivial⟩
theorem Vd (l:List Ty) (f:FuncId) (a b:List V) (q:Ty->Bool) (hq:∀t∈l,Tq3 f (a++[.agg (dTyc t)]++b) (.bool (q t))) :
  Tq3 174 [.sl (dTys l),.clo (.func f) a b] (.bool (l.any q)):=by
 obtain ⟨i,h1,h2⟩:=gZ l f a b q hq;refine AQ Ah func174 rfl [1,2]<|Ai rfl<|Ad rfl h2<|Ai rfl<|Ab rfl rfl (congrArg _ ?_);rw [EY,<- h1];simp
theorem oF (g:FuncId) (q:Ty->Bool) (t:Ty) (hq:Tq3 g [.agg (dTyc t)] (.bool (q t))):Tq3 175 [.agg (dTyc t),.ip 26 [.fn (.func g)] 0] (.bool (!q t)):=by
 generalize q t=o at *;obtain ⟨t1,t2,t3,t4⟩:=t;exact Mw<|AQ Ah func175 rfl [2,3,4,5]<|Ai rfl<|Ad rfl hq<|Ai rfl<|Ab rfl rfl rfl
theorem tK (l:List Ty) (g:FuncId) (q:Ty->Bool) (hq:∀t∈l,Tq3 g [.agg (dTyc t)] (.bool (q t))):Tq3 112 [.sl (dTys l),.fn (.func g)] (.bool (l.all q)):=by
 have hC:=Vd l 175 [] [.ip 26 [.fn (.func g)] 0] (λt=>!q t) λt ht=>oF g q t (hq t ht);refine AQ Ah func112 rfl [2,3,4,5]<|Ai rfl<|Jo rfl (λ_=>hC) rfl (by simp)<|Ai rfl<|Ab rfl rfl (congrArg _ ?_);rw [EY];simp
theorem Vb (t:Ty):Tq3 113 [.agg (dTyc t)] (.bool (AV true t)):=by
 have hC:=V8 t;unfold Su at hC;generalize AV true t=o at *;obtain ⟨t1,t2,t3,t4⟩:=t;refine AQ Ah func113 rfl [2,3,4,5]<|Ai rfl<|Ad rfl hC<|Ai rfl ?_;exact Ag ⟨_,rfl,tV (by cases o <;> rfl),trivial⟩
theorem Fz (l:List Ty):Tq3 53 [.sl (dTys l)] (.bool (l.all (AV true))):=by
 have hA:=tK l 113 (AV true) λt _=>Vb t;exact AQ Ah func53 rfl [2,3,4,5]<|Ai rfl<|Ad rfl hA<|Ai rfl<|Ab rfl rfl rfl
def Df (t:Ty):Bool:=BQ t == 1||BQ t == 2||BQ t == 3
theorem Top.srt_eq {σ:Sb} (h:Sol σ θ) {u:Ty} (ht:Top σ t u):BQ (A9 θ t)=BQ u:=by
 rw [ht.ap h.eq];by_cases h9:BQ u=9
 ·rw [GK h9,h.free _ (ht.end_ h9),h9];rfl
 ·obtain ⟨f,n,x,e1,_,e3⟩:=Ya (θ:=θ) h9;rw [e3,e1];rfl
theorem cL {stay:List Int}:∀k:Nat,∃n:Nat,NthF stay k n:=by
 have big:∀k:Nat,∃n:Nat,k<=H4 stay n:=by
  intro k
  induction k with
  | zero=>exact ⟨0,AF _⟩
  | succ k ih =>
   obtain ⟨n,hn⟩:=ih;have:∃m:Nat,n<=m/\(m:Int)∉stay:=by
    obtain ⟨b,hb⟩:∃b:Int,∀x∈stay,x<=b:=by
     clear hn
     induction stay with
     | nil=>exact ⟨0,λx h=>nomatch h⟩
     | cons a r ih =>
      obtain ⟨b,hb⟩:=ih;refine ⟨max a b,λx hx=>?_⟩;rcases CA.1 hx with rfl | hx
      ·omega
      ·have:=hb x hx;omega
    refine ⟨max n (b.toNat+1),by omega,λh=>?_⟩;have:=hb _ h;omega
   obtain ⟨m,h1,h2⟩:=this;refine ⟨m+1,?_⟩;rw [De,if_neg h2];have:=KQ (stay:=stay) h1;omega
 intro k;obtain ⟨n,hn⟩:=big (k+1)
 induction n with
 | zero=>simp [H4] at hn
 | succ n ih =>
  by_cases hc:k+1<=H4 stay n
  ·exact ih hc
  ·rw [De] at hn;refine ⟨n,?_,?_⟩
   ·intro hm;rw [if_pos hm] at hn;omega
   ·split at hn <;> omega
noncomputable def EC (stay:List Int) (k:Nat):Nat:=(cL (stay:=stay) k).choose
theorem M4 (stay:List Int) (k:Nat):NthF stay k (EC stay k):=(cL (stay:=stay) k).choose_spec
theorem Uc (a:Int) (r:List Int):∀n:Nat,H4 r n<=H4 (a::r) n+if 0<=a/\a<n then 1 else 0
 | 0=>by simp [H4]
 | n+1=>by
  have ih:=Uc a r n;rw [De,De];by_cases h1:(n:Int)∈r
  ·rw [if_pos h1,if_pos (HR _ h1)]
   split at ih <;> split <;> omega
  ·rw [if_neg h1];by_cases h2:(n:Int)=a
   ·subst h2;rw [if_pos (QM ..),if_pos ⟨by omega,by omega⟩];rw [if_neg (by omega)] at ih;omega
   ·rw [if_neg (by simp [h1,h2])]
    split at ih <;> split <;> omega
theorem dP:∀(stay:List Int) (n:Nat),n<=H4 stay n+stay.length
 | [],n=>by
  have:H4 [] n=n:=by
   induction n with
   | zero=>rfl
   | succ n ih=>rw [De,ih,if_neg (by simp)]
  omega
 | a::r,n=>by
  have h1:=dP r n;have h2:=Uc a r n;rw [Cq]
  split at h2 <;> omega
theorem sO (stay:List Int) (k:Nat):EC stay k<=k+stay.length:=by
 have:=dP stay (EC stay k);rw [(M4 stay k).2] at this;exact this
theorem RH {a:Int} {r:List Int} (ha:a∉r):∀n:Nat,H4 (a::r) n+(if 0<=a/\a<n then 1 else 0)<=H4 r n
 | 0=>by
  rw [if_neg (by omega)];simp [H4]
 | n+1=>by
  have ih:=RH ha n;rw [De,De];by_cases h2:(n:Int)=a
  ·subst h2;rw [if_pos (QM ..),if_pos ⟨by omega,by omega⟩,if_neg ha];rw [if_neg (by omega)] at ih;omega
  ·by_cases h1:(n:Int)∈r
   ·rw [if_pos h1,if_pos (HR _ h1)]
    split at ih <;> split <;> omega
   ·rw [if_neg h1,if_neg (by simp [h1,h2])]
    split at ih <;> split <;> omega
theorem Oo:∀{l:List Int} {n:Nat},l.Nodup->(∀x∈l,0<=x/\x<n)->l.length+H4 l n<=n
 | [],n,_,_=>by
  have:∀n,H4 [] n=n:=λn=>by
   induction n with
   | zero=>rfl
   | succ n ih=>rw [De,ih,if_neg (by simp)]
  simp [this]
 | a::r,n,hd,hb=>by
  rw [Lj] at hd;have h1:=RH hd.1 n;rw [if_pos (hb a (by simp))] at h1;have h2:=Oo hd.2 λx hx=>hb x (by simp [hx]);rw [Cq];omega
mutual
theorem TH:∀(t:Ty) (l:List Int),l.Nodup->(D2 t l).Nodup
 | .mk f n x ps,l,h=>by
  simp only [D2]
  split
  ·split
   ·exact h
   ·rename_i hn;rw [Hu];exact ⟨h,by simp,λa ha b hb e=>by rw [AN.1 hb] at e;exact hn (e ▸ ha)⟩
  ·exact Rm ps l h
theorem Rm:∀(ts:List Ty) (l:List Int),l.Nodup->(Cm ts l).Nodup
 | [],l,h=>h
 | t::r,l,h=>by simp only [Cm];exact Rm r _ (TH t l h)
end
def Gz:Au->List Int->List Int
 | [],l=>l
 | p::r,l=>Gz r (D2 p.2 l)
theorem Qm:∀(Γ:Au) (p:Str×Ty) (l:List Int),Gz (Γ++[p]) l=D2 p.2 (Gz Γ l)
 | [],p,l=>rfl
 | q::r,p,l=>by simp only [D0,Gz,Qm r p]
theorem W7 {m:Int}:∀(Γ:Au) (l:List Int),m∈Gz Γ l↔m∈l\/∃p∈Γ,m∈CO p.2
 | [],l=>by simp [Gz]
 | p::r,l=>by simp only [Gz,W7 r,UJ];grind
theorem Ql:∀(Γ:Au) (l:List Int),l.Nodup->(Gz Γ l).Nodup
 | [],l,h=>h
 | p::r,l,h=>Ql r _ (TH p.2 l h)
theorem Yr {B:Nat} {Γ:Au} (h:∀p∈Γ,inB B p.2):(Gz Γ []).length<=B:=by
 have:=Oo (n:=B) (Ql Γ [] (by simp)) λx hx=>by
  rcases (W7 Γ []).1 hx with hx | ⟨p,hp,hx⟩
  ·cases hx
  ·exact h p hp x hx
 omega
mutual
def Vk (op:Int) (s:Str):Tm->Bool
 | .mk o _ x ks _=>(o == op&&x == s)||Xr op s ks
def Xr (op:Int) (s:Str):List Tm->Bool
 | []=>false
 | t::r=>Vk op s t||Xr op s r
end
mutual
def OZ (op:Int):Tm->Bool
 | .mk o _ _ ks _=>o == op||LU op ks
def LU (op:Int):List Tm->Bool
 | []=>false
 | t::r=>OZ op t||LU op r
end
inductive Rch (m:Md) (a:Nat):Nat->Prop
 | base:Rch m a a
 | step {j k:Nat} {f g:Fd}:Rch m a j->m.funs[j]?=some f->m.funs[k]?=some g->Vk 4 g.name f.body=true->Rch m a k
noncomputable def pK (m:Md) (a:Nat) (op:Int):Bool:=open Classical in decide (∃j f,Rch m a j/\m.funs[j]?=some f/\OZ op f.body=true)
noncomputable def uD (m:Md) (a:Nat):List Int:=((List.range 13).map λi:Nat=>16+(i:Int)).filter (pK m a)
mutual
def JR (m:Md):Ty->Bool
 | .mk f _ x ps=>if f=8 then m.datas.any (λd=>d.name == x) else Fw m ps
def Fw (m:Md):List Ty->Bool
 | []=>true
 | t::r=>JR m t&&Fw m r
end
def Pf (l:List Dt):List Str:=(l.map λd=>d.cons.map (·.name)).flatten
def Yp (m:Md) (n:Nat):Bool:=match m.datas[n]? with
 | some d=>(List.range d.cons.length).any λk=>match d.cons[k]? with
  | some c=>BS (Pf (m.datas.take n)++(d.cons.take k).map (·.name)) c.name
  | none=>false
 | none=>false
def Mc (m:Md) (n:Nat):Bool:=match m.datas[n]? with
 | some d=>(m.datas.take n).any (λe=>e.name == d.name)||d.cons.any (λc=>!Fw m c.args)||Yp m n
 | none=>false
def BodS (m:Md) (f:Fd):Prop:=∃N,CC m f.body [(f.param,f.from_)] f.to_ N/\(∀S,CC m f.body [(f.param,f.from_)] f.to_ S->∃η,N.map (A9 η)=S)/\N.all Df=true
noncomputable def Io (m:Md) (f:Fd):Bool:=open Classical in decide (BodS m f)
noncomputable def N6 (m:Md) (i:Nat):Bool:=match m.funs[i]? with
 | some f=>(m.funs.take i).any (λg=>g.name == f.name) || !JR m f.from_ || !JR m f.to_ || !Io m f
 | none=>false
def HO:Str:=[109,97,105,110]
def WC (m:Md):Bool:=m.funs.any λf=>f.name == HO&&BQ f.from_ == 3
def GX (p:Nat->Bool):Nat->Nat->Option Nat
 | _,0=>none
 | i,n+1=>if p i then some i else GX p (i+1) n
noncomputable def RW (m:Md):Int×Int:=match GX (Mc m) 0 m.datas.length with
 | some i=>(1,i)
 | none=>match GX (N6 m) 0 m.funs.length with
  | some i=>(2,i)
  | none=>if WC m then (0,0) else (3,0)
theorem xL {η:Int->Ty} (h:Df t=true):Df (A9 η t)=true:=by
 have h9:BQ t≠9:=by intro e;simp [Df,e] at h
 obtain ⟨f,n,x,e1,_,e3⟩:=Ya (θ:=η) h9;rw [e3];rw [e1] at h;exact h
open Classical in
theorem aW {f:Fd} {N:List Ty} (h1:CC m f.body [(f.param,f.from_)] f.to_ N) (h2:∀S,CC m f.body [(f.param,f.from_)] f.to_ S->∃η,N.map (A9 η)=S):Io m f=N.all Df:=by
 unfold Io;cases hN:N.all Df with
 | true=>exact decide_eq_true ⟨N,h1,h2,hN⟩
 | false =>
  refine decide_eq_false λ⟨N',a1,a2,a3⟩=>?_;obtain ⟨η,e⟩:=a2 N h1;have:N.all Df=true:=by
   rw [<- e,NT];rw [Eo] at a3 ⊢;exact λt ht=>xL (a3 t ht)
  rw [hN] at this;cases this
open Classical in
theorem aX {f:Fd} (h:∀S,¬CC m f.body [(f.param,f.from_)] f.to_ S):Io m f=false:=by
 unfold Io;exact decide_eq_false λ⟨N,a1,_⟩=>h N a1
theorem bP {b:Bool} {s n:Int} {k:Nat} (h:C3 b s n x k=true):s≠0/\k<=3/\(s=9->b=true/\x=[]/\k=0/\0<=n/\n<=99)/\(s≠9->n=0):=by
 unfold C3 at h;by_cases h1:s=1\/s=2\/s=3
 ·rw [if_pos h1] at h;simp only [A2,beq_iff_eq] at h;refine ⟨by omega,by omega,λe=>by omega,λ_=>h.1.2⟩
 rw [if_neg h1] at h;by_cases h2:s=4
 ·rw [if_pos h2] at h;simp only [A2,beq_iff_eq] at h;refine ⟨by omega,by omega,λe=>by omega,λ_=>h.1.2⟩
 rw [if_neg h2] at h;by_cases h3:s=5\/s=6\/s=7
 ·rw [if_pos h3] at h;simp only [A2,beq_iff_eq] at h;refine ⟨by omega,by omega,λe=>by omega,λ_=>h.1.2⟩
 rw [if_neg h3] at h;by_cases h4:s=8
 ·rw [if_pos h4] at h;simp only [A2,beq_iff_eq] at h;refine ⟨by omega,by omega,λe=>by omega,λ_=>h.1.2⟩
 rw [if_neg h4] at h;by_cases h5:s=9
 ·rw [if_pos h5] at h;simp only [A2,beq_iff_eq,D4,decide_eq_true_eq] at h;refine ⟨by omega,by omega,λ_=>⟨h.1.1.1,h.1.2,by omega,by omega,by omega⟩,λe=>absurd h5 e⟩
 ·rw [if_neg h5] at h;cases h
mutual
theorem Ml {b:Bool}:∀t:Ty,CP b t=true->C9 t=true/\inB 100 t/\(b=false->CO t=[])
 | .mk s n x ps,h=>by
  simp only [CP,A2] at h;obtain ⟨h1,h2,h3,h4⟩:=bP h.1;obtain ⟨p1,p2,p3⟩:=SQ ps h.2;by_cases e:s=9
  ·obtain ⟨q1,q2,q3,q4,q5⟩:=h3 e;have:ps=[]:=FJ.1 q3;subst this;subst q2;subst e;refine ⟨by simp [C9,Gw],λm hm=>?_,λe=>by rw [q1] at e;cases e⟩;simp [CO] at hm;omega
  ·have hn:=h4 e;subst hn;refine ⟨?_,λm hm=>?_,λhb=>?_⟩
   ·simp [C9,e,h1,h2,p1]
   ·simp only [CO,if_neg e] at hm;exact p2 m hm
   ·simp only [CO,if_neg e];exact p3 hb
theorem SQ {b:Bool}:∀l:List Ty,Ck b l=true->Gw l=true/\(∀m∈DK l,0<=m/\m<100)/\(b=false->DK l=[])
 | [],_=>by simp [Gw,DK]
 | t::r,h=>by
  simp only [Ck,A2] at h;obtain ⟨a1,a2,a3⟩:=Ml t h.1;obtain ⟨b1,b2,b3⟩:=SQ r h.2;refine ⟨by simp [Gw,a1,b1],λm hm=>?_,λhb=>by simp [DK,a3 hb,b3 hb]⟩;simp only [DK,BU] at hm;exact hm.elim (a2 m) (b2 m)
end
mutual
def H9:Ty->Ty->List (Int×Ty)->List (Int×Ty)×Bool
 | .mk f n x ps,b,T=>if f=9 then (Qt T n b,match BH T n with
   | none=>true
   | some v=>J8 v b)
  else if f=BQ b/\x=jM b/\ps.length=(Ff b).length then J1 ps (Ff b) T else (T,false)
def J1:List Ty->List Ty->List (Int×Ty)->List (Int×Ty)×Bool
 | p::ps,q::qs,T=>if (H9 p q T).2=true then J1 ps qs (H9 p q T).1 else H9 p q T
 | _,_,T=>(T,true)
end
theorem eF {σ:Sb} {n:Int} (h:σ n=some t):Ew σ n t=σ:=by
 funext m;unfold Ew
 split
 ·rename_i e;rw [e,h]
 ·rfl
mutual
theorem To:∀(a b:Ty) (T:List (Int×Ty)),(H9 a b T).2=(WB a b (BH T)).isSome/\∀σ',WB a b (BH T)=some σ'->BH (H9 a b T).1=σ'
 | .mk f n x ps,b,T=>by
  by_cases e9:f=9
  ·rw [H9,WB,if_pos e9,if_pos e9];cases hs:BH T n with
   | none=>exact ⟨rfl,λσ' h=>by cases h;exact IW b n T⟩
   | some v =>
    simp only;cases he:J8 v b with
    | false=>exact ⟨rfl,λσ' h=>nomatch h⟩
    | true =>
     refine ⟨rfl,λσ' h=>?_⟩;cases h;rw [IW];have:=(Rv v b).1 he;subst this;exact eF hs
  ·rw [H9,WB,if_neg e9,if_neg e9];by_cases hh:f=BQ b/\x=jM b/\ps.length=(Ff b).length
   ·rw [if_pos hh,if_pos hh];exact QC ps (Ff b) T
   ·rw [if_neg hh,if_neg hh];exact ⟨rfl,λσ' h=>nomatch h⟩
theorem QC:∀(aa bb:List Ty) (T:List (Int×Ty)),(J1 aa bb T).2=(WA aa bb (BH T)).isSome/\∀σ',WA aa bb (BH T)=some σ'->BH (J1 aa bb T).1=σ'
 | a::aa,b::bb,T=>by
  obtain ⟨h2,h3⟩:=To a b T;rw [J1,WA];cases hm:WB a b (BH T) with
  | none =>
   rw [hm] at h2;rw [if_neg (by rw [h2];simp)];exact ⟨h2,λσ' h=>nomatch h⟩
  | some σ1 =>
   rw [hm] at h2;rw [if_pos (by rw [h2];rfl)];have ih:=QC aa bb (H9 a b T).1;rw [h3 σ1 hm] at ih;exact ih
 | [],[],T=>⟨rfl,λσ' h=>by cases h;rfl⟩
 | [],_::_,T=>⟨rfl,λσ' h=>by cases h;rfl⟩
 | _::_,[],T=>⟨rfl,λσ' h=>by cases h;rfl⟩
end
theorem YY {qs:List Ty} {q:Ty} (hp:ps[i]?=some p) (hq:qs[i]?=some q) (T:List (Int×Ty)):J1 (ps.drop i) (qs.drop i) T=if (H9 p q T).2=true then J1 (ps.drop (i+1)) (qs.drop (i+1)) (H9 p q T).1 else H9 p q T:=by
 rw [As hp,As hq,J1]
theorem OU:∀(a b:Ty) (T:List (Int×Ty)),C9 b=true->Tq4 60 [.imm (.agg (dTyc a)),.imm (.agg (dTyc b)),.mapr 1] [(1,some (VR T))] (.ret (.imm (.bool (H9 a b T).2)) [(1,some (VR (H9 a b T).1))])
 | .mk f n x ps,.mk g m y qs,T,hw=>by
  have hql:=Ie hw;have hqw:=EU hw;simp only [Ff] at hql hqw;refine AQ Ah func60 rfl [2,3,4,5]<|Ai rfl ?_;by_cases e9:f=9
  ·subst e9;have hr:H9 (.mk 9 n x ps) (.mk g m y qs) T=(Qt T n (.mk g m y qs),match BH T n with
    | none=>true
    | some v=>J8 v (.mk g m y qs)):=by rw [H9,if_pos rfl]
   rw [hr];have hst:=JJ n (.mk g m y qs) T;have hlk:=Hf n T;refine R6 rfl λh=>Av rfl ?_;cases hsb:BH T n with
   | none =>
    rw [hsb] at hlk;refine CJ Ah 1 (zd:=.agg (dTyc Dr)) (dr:=.imm (.tup [.agg (dTyc Dr),.bool false])) rfl rfl rfl (Ei T) (by simp) rfl HD (by simp only [FC,hlk];rfl)<|Ai rfl<|Fs Ah rfl rfl rfl (Ei T)<|CW rfl<|Aj (v:=.bool false) rfl (λhc=>by simp [Ap] at hc) (by simp [Ap])<|CW rfl ?_;simp only [VR,<- hst];exact Ag ⟨_,AH⟩
   | some v =>
    rw [hsb] at hlk;have hS:=WM v (.mk g m y qs)
    dsimp only
    generalize J8 v (.mk g m y qs)=o at *;obtain ⟨v1,v2,v3,v4⟩:=v;refine CJ Ah 1 (zd:=.agg (dTyc Dr)) (dr:=.imm (.tup [.agg (dTyc (.mk v1 v2 v3 v4)),.bool true])) rfl rfl rfl (Ei T) (by simp) rfl HD (by simp only [FC,hlk];rfl)<|Ai rfl<|Fs Ah rfl rfl rfl (Ei T)<|CW rfl<|Ce rfl hS<|CW rfl ?_;simp only [VR,<- hst];exact Ag ⟨_,AH⟩
  ·refine Aa rfl (λh=>by exfalso;simp at h;exact e9 h) (λh=>?_);refine Pu rfl ?_;by_cases hh:f=g/\x=y/\ps.length=qs.length
   ·have hr:H9 (.mk f n x ps) (.mk g m y qs) T=J1 ps qs T:=by rw [H9,if_neg e9];exact if_pos hh
    rw [hr];obtain ⟨rfl,rfl,hq⟩:=hh;refine Aa rfl (λh=>by exfalso;simp at h;omega) (λh=>?_);refine Av rfl<|Ak (λz:Nat×List (Int×Ty)=>[(55,.imm (.int .i64 z.1)),(54,.imm (.int .i64 ps.length)),(3,.ref 2 0),(4,.ref 3 0),(2,.mapr 1)]) (λz=>[(1,some (VR z.2)),(2,some (.immb 25 4 (dTyc (.mk f n x ps)))),(3,some (.immb 25 4 (dTyc (.mk f m x qs))))]) [4,5] (λz=>ps.length-z.1)
     (λz=>z.1<=ps.length/\J1 ps qs T=J1 (ps.drop z.1) (qs.drop z.1) z.2) (0,T)
     ⟨AF _,rfl⟩ ⟨rfl,A8 (by simp),AH⟩ AH rfl λz hz ih=>?_
    obtain ⟨i,K⟩:=z;obtain ⟨hz1,hz2⟩:=hz;simp only at hz1 hz2 ih;refine Av rfl<|Aa rfl (λh=>?_) (λh=>?_)
    ·have hlt:i<ps.length:=by simp at h;omega
     obtain ⟨p,hp⟩:=Am hlt;obtain ⟨q,hq'⟩:=Am (l:=qs) (i:=i) (by omega);have hgp:=AA hp;have hgq:=AA hq';have hI:=OU p q K (hqw q (AK hq'));rw [YY hp hq'] at hz2;have hih:=λhc=>ih (i+1,(H9 p q K).1) (by simp only;omega) ⟨by simp only;omega,hc⟩;generalize (H9 p q K)=r at *;obtain ⟨K',o⟩:=r;simp only at hz2 hI hih;obtain ⟨p1,p2,p3,p4⟩:=p;obtain ⟨q1,q2,q3,q4⟩:=q;refine Av rfl<|HA rfl hgp<|Ai rfl<|HA rfl hgq<|Ai rfl<|C8 rfl hI Aw rfl<|yg [] rfl (by simp;rfl) ?_;cases o with
     | false =>
      rw [if_neg (by simp)] at hz2;rw [hz2];exact R6 rfl λh=>Av rfl<|Ag ⟨_,AH⟩
     | true =>
      rw [if_pos rfl] at hz2;exact R7 rfl λh=>Av rfl<|Ae (hih hz2) ⟨M6,BJ⟩ AH rfl
    ·have hlt:¬i<ps.length:=by simp at h;omega
     rw [Bh (by omega)] at hz2;simp only [J1] at hz2;rw [hz2];exact At rfl<|Av rfl<|Ag ⟨_,AH⟩
   ·have hr:H9 (.mk f n x ps) (.mk g m y qs) T=(T,false):=by rw [H9,if_neg e9];exact if_neg hh
    rw [hr];refine Aa rfl (λh=>?_) (λh=>by exfalso;simp at h;grind);exact Av rfl<|Ag ⟨_,AH⟩
termination_by a=>SizeOf.sizeOf a
decreasing_by
 have:=Ct (AK hp);simp_wf;omega
theorem Vc (a b:Ty):Tq3 14 [.agg (dTyc a),.agg (dTyc b)] (.tup [.bool (AV true a&&AV true b&&(WB a b λ_=>none).isSome),Su (AV true a&&AV true b)]):=by
 have hK:=Fz [a,b];simp only [Zi,LI,uL] at hK;cases hf:AV true a&&AV true b with
 | false =>
  rw [hf] at hK;obtain ⟨a1,a2,a3,a4⟩:=a;obtain ⟨b1,b2,b3,b4⟩:=b;exact AQ Ah func14 rfl [1,2,3,4,5]<|Ai rfl<|Ad rfl hK<|Ai rfl<|R6 rfl λh=>Av rfl<|Ab rfl rfl rfl
 | true =>
  rw [hf] at hK;have hw:C9 b=true:=by
   simp only [A2,AV] at hf;exact (Ml b hf.2.2).1
  have hM:=OU a b [] hw;obtain ⟨h2,_⟩:=To a b [];rw [show BH []=λ_=>none from rfl] at h2;rw [<- h2];generalize H9 a b []=r at *;obtain ⟨T',o⟩:=r;obtain ⟨a1,a2,a3,a4⟩:=a;obtain ⟨b1,b2,b3,b4⟩:=b;exact AQ Ah func14 rfl [1,2,3,4,5]<|Ai rfl<|Ad rfl hK<|Ai rfl<|R7 rfl λh=>Av rfl<|Ev rfl<|Ai rfl<|Jf [] [(3,1)] [] rfl hM Aw rfl rfl<|Ai rfl<|Ab rfl rfl rfl
def lexT (θ:Int->Ty) (x h:Int):Prop:=DH (θ x)<DH (θ h)\/(DH (θ x)=DH (θ h)/\x<h)
theorem lexT.trans {x y z:Int} (h:lexT θ x y) (h':lexT θ y z):lexT θ x z:=by
 unfold lexT at *;omega
theorem lexT.irrefl {x:Int}:¬lexT θ x x:=by unfold lexT;omega
theorem Sol.below {σ:Sb} (hs:Sol σ θ) {x:Int} (ht:σ h=some t) (hx:x∈CO t):lexT θ x h:=by
 have hθ:θ h=A9 θ t:=hs.eq h t ht;by_cases h9:BQ t=9
 ·have e:=E7 (hs.wf h t ht) h9;have hd:=hs.down h t ht h9;rw [e] at hx;simp [Ao,CO] at hx;refine .inr ⟨?_,by omega⟩;rw [hθ,GK h9,hx]
 ·exact .inl (by rw [hθ];exact bO h9 hx)
def MetOk (θ:Int->Ty) (n:Int) (t:Ty) (met:List Int):Prop:=∀h∈met,n∉CO (θ h)\/∀x∈CO t,lexT θ x h
def MetNew (θ:Int->Ty) (n:Int) (met met':List Int):Prop:=∀h∈met',h∈met\/n∉CO (θ h)
theorem MetNew.refl {n:Int} (met:List Int):MetNew θ n met met:=λ_ h=>.inl h
theorem MetNew.trans {n:Int} {a b c:List Int} (h:MetNew θ n a b) (h':MetNew θ n b c):MetNew θ n a c:=λx hx=>by
 rcases h' x hx with hx | hx
 ·exact h x hx
 ·exact .inr hx
theorem MetOk.part {n:Int} {met:List Int} (h:MetOk θ n t met) (h9:BQ t≠9) (hp:p∈Ff t):MetOk θ n p met:=λx hx=>(h x hx).imp id λhb y hy=>hb y (by
 obtain ⟨f,m,z,ps⟩:=t;simp only [BQ] at h9;simp only [CO,if_neg h9];exact JS.2 ⟨p,hp,hy⟩)
theorem MetOk.new {n:Int} {met met':List Int} (h:MetOk θ n t met) (h':MetNew θ n met met'):MetOk θ n t met':=λx hx=>by
 rcases h' x hx with hx | hx
 ·exact h x hx
 ·exact .inl hx
theorem MetOk.met {n:Int} {met:List Int} (hm:MetOk θ n (Ao h) met) (hh:h∈met):n∉CO (θ h):=by
 rcases hm h hh with h1 | h1
 ·exact h1
 ·exact absurd (h1 h (by simp [Ao,CO])) lexT.irrefl
theorem MetOk.next {σ:Sb} (hs:Sol σ θ) {n:Int} {met:List Int} (hm:MetOk θ n (Ao h) met) (ht:σ h=some t):MetOk θ n t (h::met):=λx hx=>by
 rcases CA.1 hx with rfl | hx
 ·exact .inr λy hy=>hs.below ht hy
 ·exact (hm x hx).imp id λhb y hy=>(hs.below ht hy).trans (hb h (by simp [Ao,CO]))
def DJ (l:List Int):List (V×V):=l.map λh=>(.int .i64 h,.bool true)
theorem CE (l:List Int):∀p∈DJ l,GV (.int .i64) p.1=true:=λp hp=>by
 obtain ⟨q,_,rfl⟩:=Cc.1 hp;rfl
theorem NE (h:Int):∀l:List Int,G6 (DJ l) (.int .i64 h)=if h∈l then some (.bool true) else none
 | []=>rfl
 | x::r=>by
  have ih:=NE h r;simp only [DJ,Cv,G6,KJ] at ih ⊢;by_cases e:x=h
  ·subst e;rw [decide_eq_true rfl,if_pos (QM ..)];rfl
  ·rw [decide_eq_false e];simp only [CA];rw [ih];have e':¬h=x:=λh'=>e h'.symm;simp only [e',false_or];rfl
theorem Gc (h:Int) (l:List Int):FC false (DJ l) (.int .i64 h) (.bool false) = .imm (.bool (decide (h∈l))):=by
 simp only [FC,NE];by_cases e:h∈l <;> simp [e]
theorem Iy {h:Int}:∀{l:List Int},h∉l->F2 (DJ l) (.int .i64 h) (.bool true)=DJ (l++[h])
 | [],_=>rfl
 | x::r,hn=>by
  simp only [CA,not_or] at hn;have ih:=Iy (l:=r) hn.2;simp only [DJ,Cv,F2,KJ,D0] at ih ⊢;rw [decide_eq_false (λe=>hn.1 e.symm),<- ih];rfl
def DO (m:Md) (T:List (Int×Ty)) (k:Int) (S:List Ty) (n:Int) (t:Ty) (met:List Int) (b:Bool) (met':List Int):Prop :=
 Tq4 118 [.ref 1 0,.imm (.int .i64 n),.imm (.agg (dTyc t)),.mapr 4] (CI m T k S++[(4,some (.map (DJ met)))]) (.ret (.imm (.bool b)) (CI m T k S++[(4,some (.map (DJ met')))]))
theorem Ys (m:Md) (T:List (Int×Ty)) (k:Int) (S:List Ty) (n h:Int) (met:List Int) (hh:h∈met):DO m T k S n (Ao h) met false met:=by
 unfold DO;exact AQ Ah func118 rfl [5,6,7,8,9]<|yg [.a] rfl (by simp)<|CJ Ah 4 (z:=.bool false) (zd:=.bool false) (dr:=.imm (.bool true)) rfl rfl rfl (CE met) (by simp) rfl (λ_=>.bool _) (by rw [Gc];simp [hh])<|yg [.a] rfl (by simp)<|Ag ⟨_,GE⟩
theorem VL (m:Md) (T:List (Int×Ty)) (k:Int) (S:List Ty) (n:Int) (met:List Int) (hh:n∉met) (hs:BH T n=none):DO m T k S n (Ao n) met true (met++[n]):=by
 unfold DO;have hlk:=Hf n T;rw [hs] at hlk;have hnew:=Iy hh;exact AQ Ah func118 rfl [5,6,7,8,9]<|yg [.a] rfl (by simp)<|CJ Ah 4 (z:=.bool false) (zd:=.bool false) (dr:=.imm (.bool false)) rfl rfl rfl (CE met) (by simp) rfl (λ_=>.bool _) (by rw [Gc];simp [hh])<|yg [.a] rfl (by simp)<|Fs Ah rfl rfl rfl (CE met)<|Ai rfl<|CJ Ah 2 (zd:=.agg (dTyc Dr)) (dr:=.imm (.tup [.agg (dTyc Dr),.bool false])) rfl rfl rfl (Ei T) (by simp) rfl HD (by simp only [FC,hlk];rfl)<|yg [] rfl (by simp [Ap];rfl)<|PO (.imm (.bool false)) rfl (by simp [Ap])<|CW rfl<|Ag ⟨_,rfl,tV (by simp),rfl,rfl,rfl,congrArg (λx=>some (some (Blk.map x))) hnew,trivial⟩
theorem JI (m:Md) (T:List (Int×Ty)) (k:Int) (S:List Ty) (n h:Int) (met:List Int) (hh:h∉met) (hn:h≠n) (hs:BH T h=none):DO m T k S n (Ao h) met false (met++[h]):=by
 unfold DO;have hlk:=Hf h T;rw [hs] at hlk;have hnew:=Iy hh;have hb:(h == n)=false:=by simpa using hn
 exact AQ Ah func118 rfl [5,6,7,8,9]<|yg [.a] rfl (by simp)<|CJ Ah 4 (z:=.bool false) (zd:=.bool false) (dr:=.imm (.bool false)) rfl rfl rfl (CE met) (by simp) rfl (λ_=>.bool _) (by rw [Gc];simp [hh])<|yg [.a] rfl (by simp)<|Fs Ah rfl rfl rfl (CE met)<|Ai rfl<|CJ Ah 2 (zd:=.agg (dTyc Dr)) (dr:=.imm (.tup [.agg (dTyc Dr),.bool false])) rfl rfl rfl (Ei T) (by simp) rfl HD (by simp only [FC,hlk];rfl)<|yg [] rfl (by simp [Ap];rfl)<|PO (.imm (.bool false)) rfl (by simp [Ap])<|CW rfl<|Ag ⟨_,rfl,tV (by simp [hb]),rfl,rfl,rfl,congrArg (λx=>some (some (Blk.map x))) hnew,trivial⟩
theorem VM (m:Md) (T:List (Int×Ty)) (k:Int) (S:List Ty) (n h:Int) (met met':List Int) (u:Ty) (b:Bool) (hh:h∉met) (hn:h≠n) (hs:BH T h=some u) (hC:DO m T k S n u (met++[h]) b met'):DO m T k S n (Ao h) met b met':=by
 unfold DO at hC ⊢;have hlk:=Hf h T;rw [hs] at hlk;have hnew:=Iy hh;have hb:(h == n)=false:=by simpa using hn
 obtain ⟨u1,u2,u3,u4⟩:=u;refine AQ Ah func118 rfl [5,6,7,8,9]<|yg [.a] rfl (by simp)<|CJ Ah 4 (z:=.bool false) (zd:=.bool false) (dr:=.imm (.bool false)) rfl rfl rfl (CE met) (by simp) rfl (λ_=>.bool _) (by rw [Gc];simp [hh])<|yg [.a] rfl (by simp)<|Fs Ah rfl rfl rfl (CE met)<|Ai rfl<|CJ Ah 2 (zd:=.agg (dTyc Dr)) (dr:=.imm (.tup [.agg (dTyc (.mk u1 u2 u3 u4)),.bool true])) rfl rfl rfl (Ei T) (by simp) rfl HD (by simp only [FC,hlk];rfl)<|yg [] rfl (by simp [Ap];rfl) ?_;simp only [hnew];exact A4 [(1,1),(2,2),(3,3),(4,4)] [] [] (fr:=[]) (nm:=[1,2,3,4,1,2,3,4]) rfl (by simp [Ap,hb]) (by simp [Ap]) hC JK rfl trivial rfl rfl rfl<|CW rfl<|Ag ⟨_,rfl,tV (by simp [hb]),BJ⟩
def bxS (n:Int):St:=[(5,some (.cells 92 1 [.ref 1 0])),(6,some (.immb 3 1 [.int .i64 n])),(7,some (.cells 120 1 [.mapr 4]))]
def xB (m:Md) (T:List (Int×Ty)) (k:Int) (S:List Ty) (n:Int) (met:List Int):St:=CI m T k S++[(4,some (.map (DJ met)))]++bxS n
theorem Yt {k:Int} {n:Int} {met met':List Int} {b:Bool} (hC:DO m T k S n t met b met') :
  Tq4 177 [.imm (.agg (dTyc t)),.ref 5 0,.ref 6 0,.ref 7 0] (xB m T k S n met) (.ret (.imm (.bool b)) (xB m T k S n met')):=by
 unfold DO at hC;obtain ⟨t1,t2,t3,t4⟩:=t;exact AQ Ah func177 rfl [8,9]<|Ai rfl<|A4 [(1,1),(2,2),(3,3),(4,4)] [] [] (fr:=[]) (nm:=[1,2,3,4,1,2,3,4]) rfl trivial (by simp) hC JK rfl trivial rfl rfl rfl<|Ai rfl<|Ag ⟨_,Y0⟩
def Pm (m:Md) (T:List (Int×Ty)) (k:Int) (S:List Ty) (n:Int):List Ty->List Int->Bool->List Int->Prop
 | [],met,b,met'=>b=false/\met'=met
 | t::r,met,b,met'=>∃b1 met1,DO m T k S n t met b1 met1/\if b1=true then b=true/\met'=met1 else Pm m T k S n r met1 b met'
def Nu (m:Md) (T:List (Int×Ty)) (k:Int) (S:List Ty) (n:Int):Nat->List Ty->List Int->Int->List Int->Prop
 | _,[],met,i,met'=>i = -1/\met'=met
 | j,t::r,met,i,met'=>∃b1 met1,DO m T k S n t met b1 met1/\if b1=true then i=j/\met'=met1 else Nu m T k S n (j+1) r met1 i met'
theorem kQ {m:Md} {T:List (Int×Ty)} {k:Int} {S:List Ty} {n:Int}:∀{ps:List Ty} (j:Nat) {met met':List Int} {b:Bool},Pm m T k S n ps met b met'->∃i:Int,(0<=i↔b=true)/\Nu m T k S n j ps met i met'
 | [],j,met,met',b,h=>by
  obtain ⟨h1,h2⟩:=h;refine ⟨-1,⟨λh=>by omega,λh=>by rw [h1] at h;cases h⟩,?_⟩;rw [Nu];exact ⟨rfl,h2⟩
 | t::r,j,met,met',b,h=>by
  rw [Pm] at h;obtain ⟨b1,met1,h1,h2⟩:=h;cases b1 with
  | true =>
   rw [if_pos rfl] at h2;refine ⟨j,⟨λ_=>h2.1,λ_=>by omega⟩,?_⟩;rw [Nu];refine ⟨true,met1,h1,?_⟩;rw [if_pos rfl];exact ⟨rfl,h2.2⟩
  | false =>
   rw [if_neg (by simp)] at h2;obtain ⟨i,i1,i2⟩:=kQ (j+1) h2;refine ⟨i,i1,?_⟩;rw [Nu];refine ⟨false,met1,h1,?_⟩;rw [if_neg (by simp)];exact i2
theorem ZS {k:Int} {n:Int} {met met':List Int} {i:Int} (hl:ps.length<=3) (hC:Nu m T k S n 0 ps met i met') :
  Tq4 245 [.imm (.sl (dTys ps)),.fn (.func 177) [] [.ref 5 0,.ref 6 0,.ref 7 0]] (xB m T k S n met) (.ret (.imm (.int .i64 i)) (xB m T k S n met')):=by
 refine AQ Ah func245 rfl [8,9]<|Ai rfl<|Ak (λz:Nat×List Int=>[(8,.imm (.int .i64 z.1)),(7,.imm (.int .i64 ps.length)),(0,.imm (.sl (dTys ps))),(1,.fn (.func 177) [] [.ref 5 0,.ref 6 0,.ref 7 0])]) (λz=>xB m T k S n z.2) [8,9] (λz=>ps.length-z.1) (λz=>z.1<=ps.length/\Nu m T k S n z.1 (ps.drop z.1) z.2 i met') (0,met)
  ⟨AF _,hC⟩ ⟨rfl,A8 (by simp),AD⟩ F6 rfl λz hz ih=>?_
 clear hC;obtain ⟨j,K⟩:=z;obtain ⟨hj1,hj2⟩:=hz;simp only at hj1 hj2 ih;refine Av rfl<|Aa rfl (λh=>?_) (λh=>?_)
 ·have hlt:j<ps.length:=by simp at h;omega
  obtain ⟨t,ht⟩:=Am hlt;have hg:=AA ht;rw [As ht,Nu] at hj2;obtain ⟨b1,K1,h1,h2⟩:=hj2;have hQ:=Yt h1;obtain ⟨t1,t2,t3,t4⟩:=t;refine Av rfl<|HA rfl hg<|Ai rfl<|Jf [] [(1,1),(2,2),(3,3),(4,4),(5,5),(6,6),(7,7)] [] rfl hQ Wb rfl rfl<|Ai rfl ?_;cases b1 with
  | true =>
   rw [if_pos rfl] at h2;obtain ⟨e1,e2⟩:=h2;subst e1;subst e2;exact R6 rfl λh=>Av rfl<|Ag ⟨_,Y0⟩
  | false =>
   rw [if_neg (by simp)] at h2;exact R7 rfl λh=>Av rfl<|Ae (ih (j+1,K1) (by simp only;omega) ⟨by simp only;omega,h2⟩) ⟨M6,AH⟩ F6 rfl
 ·have hlt:¬j<ps.length:=by simp at h;omega
  rw [Bh (by omega),Nu] at hj2;obtain ⟨e1,e2⟩:=hj2;subst e1;subst e2;exact At rfl<|Av rfl<|Ag ⟨_,Y0⟩
theorem Sl {k:Int} {n:Int} {met met':List Int} {b:Bool} (hl:ps.length<=3) (hC:Pm m T k S n ps met b met') :
  Tq4 174 [.imm (.sl (dTys ps)),.fn (.func 177) [] [.ref 5 0,.ref 6 0,.ref 7 0]] (xB m T k S n met) (.ret (.imm (.bool b)) (xB m T k S n met')):=by
 obtain ⟨i,h1,h2⟩:=kQ 0 hC;have hI:=ZS hl h2;have hb:decide (0<=i)=b:=by rw [EY,decide_eq_true_iff];exact h1
 refine AQ Ah func174 rfl [8,9]<|Ai rfl<|Jf [] [(1,1),(2,2),(3,3),(4,4),(5,5),(6,6),(7,7)] [] rfl hI Wb rfl rfl<|Ai rfl<|Ag ⟨_,rfl,tV ?_,F6⟩;rw [<- hb]
theorem Uw {k:Int} {n:Int} {f n':Int} {met met':List Int} {b:Bool} (h9:f≠9) (hl:ps.length<=3) (hC:Pm m T k S n ps met b met'):DO m T k S n (.mk f n' x ps) met b met':=by
 have hI:=Sl hl hC;unfold DO;refine AQ Ah func118 rfl [5,6,7,8,9]<|Ai rfl<|Aa rfl (λh=>by exfalso;simp at h;exact h9 h) (λh=>?_);exact Av rfl<|Jf [] [(1,1),(2,2),(3,3),(4,4),(5,5),(6,6),(8,7)] [] rfl hI Wb rfl rfl<|Ai rfl<|Ag ⟨_,GE⟩
theorem VK {P0:Ty->Prop} {m:Md} {T:List (Int×Ty)} {k:Int} {S:List Ty} {n:Int} {θ:Int->Ty} (hP:∀(p:Ty) (met:List Int),P0 p->MetOk θ n p met->∃b met',DO m T k S n p met b met'/\b=decide (n∈CO (A9 θ p))/\(b=false->MetNew θ n met met')) :
  ∀(ps:List Ty) (met:List Int),(∀p∈ps,P0 p)->(∀p∈ps,MetOk θ n p met)->∃b met',Pm m T k S n ps met b met'/\b=decide (n∈DK (Db θ ps))/\(b=false->MetNew θ n met met')
 | [],met,_,_=>⟨false,met,⟨rfl,rfl⟩,by simp [Db,DK],λ_=>MetNew.refl met⟩
 | p::r,met,h0,hm=>by
  obtain ⟨b1,met1,c1,e1,n1⟩:=hP p met (h0 p (by simp)) (hm p (by simp));cases b1 with
  | true =>
   refine ⟨true,met1,?_,?_,λh=>nomatch h⟩
   ·rw [Pm];refine ⟨true,met1,c1,?_⟩;rw [if_pos rfl];exact ⟨rfl,rfl⟩
   ·have:n∈CO (A9 θ p):=of_decide_eq_true e1.symm;simp [Db,DK,this]
  | false =>
   obtain ⟨b,met',c2,e2,n2⟩:=VK hP r met1 (λq hq=>h0 q (by simp [hq])) (λq hq=>(hm q (by simp [hq])).new (n1 rfl));have hn:n∉CO (A9 θ p):=of_decide_eq_false e1.symm;refine ⟨b,met',?_,?_,λh=>(n1 rfl).trans (n2 h)⟩
   ·rw [Pm];refine ⟨false,met1,c1,?_⟩;rw [if_neg (by simp)];exact c2
   ·rw [e2];simp [Db,DK,hn]
theorem Qn (m:Md) (T:List (Int×Ty)) (k:Int) (S:List Ty) {n:Int} (hs:Sol (BH T) θ) (hn:BH T n=none):∀(s:Nat) (t:Ty) (met:List Int),DH (A9 θ t)<=s->C9 t=true->MetOk θ n t met->∃b met',DO m T k S n t met b met'/\b=decide (n∈CO (A9 θ t))/\(b=false->MetNew θ n met met'):=by
 intro s
 induction s with
 | zero=>intro t met h;have:=HE (A9 θ t);omega
 | succ s IH =>
 intro t met hN hw hm;have node:∀(t:Ty) (met:List Int),BQ t≠9->DH (A9 θ t)<=s+1->C9 t=true->MetOk θ n t met->∃b met',DO m T k S n t met b met'/\b=decide (n∈CO (A9 θ t))/\(b=false->MetNew θ n met met'):=λt met h9 hN hw hm=>by
  obtain ⟨b,met',c,e,hnew⟩:=VK (P0:=λp=>DH (A9 θ p)<=s/\C9 p=true) (m:=m) (T:=T) (k:=k) (S:=S) (λp met hp hmp=>IH p met hp.1 hp.2 hmp) (Ff t) met
   (λp hp=>⟨by have:=Uu (θ:=θ) h9 hp;omega,EU hw p hp⟩) (λp hp=>hm.part h9 hp)
  have hl:=Ie hw;obtain ⟨f,n',x,ps⟩:=t;simp only [BQ] at h9;refine ⟨b,met',Uw h9 hl c,?_,hnew⟩;rw [e];have hi:n∈CO (A9 θ (.mk f n' x ps))↔n∈DK (Db θ ps):=by simp only [A9,CO,if_neg h9]
  exact decide_eq_decide.2 hi.symm
 by_cases h9:BQ t=9
 ·-- holes,one after the other
  have step:∀(h:Int) (met:List Int),(∀h' met,0<=h'->h'<h->DH (θ h')<=s+1->MetOk θ n (Ao h') met->∃b met',DO m T k S n (Ao h') met b met'/\b=decide (n∈CO (θ h'))/\(b=false->MetNew θ n met met')) ->
    DH (θ h)<=s+1->MetOk θ n (Ao h) met->∃b met',DO m T k S n (Ao h) met b met'/\b=decide (n∈CO (θ h))/\(b=false->MetNew θ n met met'):=λh met hrec hN hm=>by
   by_cases hh:h∈met
   ·exact ⟨false,met,Ys m T k S n h met hh,(decide_eq_false (hm.met hh)).symm,λ_=>MetNew.refl met⟩
   by_cases hnn:h=n
   ·subst hnn;refine ⟨true,met++[h],VL m T k S h met hh hn,?_,λh=>nomatch h⟩;rw [hs.free h hn];simp [Ao,CO]
   have hadd:n∉CO (θ h)->MetNew θ n met (met++[h]):=λhx y hy=>by
    rcases BU.1 hy with hy | hy
    ·exact .inl hy
    ·rw [AN.1 hy];exact .inr hx
   cases hsb:BH T h with
   | none =>
    have hx:n∉CO (θ h):=by rw [hs.free h hsb];simp [Ao,CO];exact λe=>hnn e.symm
    exact ⟨false,met++[h],JI m T k S n h met hh hnn hsb,(decide_eq_false hx).symm,λ_=>hadd hx⟩
   | some u =>
    have hθ:θ h=A9 θ u:=hs.eq h u hsb;have hwu:=hs.wf h u hsb;have hmu:MetOk θ n u (met++[h]):=λy hy=>hm.next hs hsb y (by
     rcases BU.1 hy with hy | hy
     ·exact HR _ hy
     ·rw [AN.1 hy];exact QM ..)
    have hrest:∃b met',DO m T k S n u (met++[h]) b met'/\b=decide (n∈CO (A9 θ u))/\(b=false->MetNew θ n (met++[h]) met'):=by
     by_cases hu9:BQ u=9
     ·have hd:=hs.down h u hsb hu9;have eu:=E7 hwu hu9;rw [GK hu9];rw [eu] at hmu ⊢;have h':=hrec (num u) (met++[h]) hd.1 hd.2 (by rw [hθ,GK hu9] at hN;exact hN) hmu;exact h'
     ·exact node u (met++[h]) hu9 (by rw [<- hθ];exact hN) hwu hmu
    obtain ⟨b,met',c,e,hnew⟩:=hrest;refine ⟨b,met',VM m T k S n h met met' u b hh hnn hsb c,by rw [hθ];exact e,λhb=>?_⟩;have hx:n∉CO (θ h):=by
     rw [hθ];subst hb;exact of_decide_eq_false e.symm
    exact (hadd hx).trans (hnew hb)
  have key:∀(j:Nat) (h:Int) (met:List Int),(0<=h->h<j)->DH (θ h)<=s+1->MetOk θ n (Ao h) met->∃b met',DO m T k S n (Ao h) met b met'/\b=decide (n∈CO (θ h))/\(b=false->MetNew θ n met met'):=by
   intro j
   induction j with
   | zero =>
    intro h met hj hN hm;exact step h met (λh' _ h1 h2=>by omega) hN hm
   | succ j ih =>
    intro h met hj hN hm;exact step h met (λh' met h1 h2 h3 h4=>ih h' met (λ_=>by omega) h3 h4) hN hm
  have et:=E7 hw h9;rw [GK h9] at hN ⊢;rw [et] at hm ⊢;exact key ((num t).toNat+1) (num t) met (λ_=>by omega) hN hm
 ·exact node t met h9 hN hw hm
def SF:D:=.slc 0 0 1 0
theorem By (t:Nat) (h:lk env t=some SF):DGo P n F Q todo env st ids:=by
 intro b cs I μ a w items hd hc;have hv:=hc.env t _ h;generalize a.tmps.getD t undef=v at hv;cases hv;omega
theorem QV {all:List Oper} {x:V} (hg:o.guard=none) (hc:EN P o env f das True) (hE:IR P f (F7 (Ep σ) das) st0 (.pan x)) (hb:EZ σ st st0) (hn:Di σ (Br σ) (I0 das)=true) (hq:Pn x) :
  LD P Pn all o env st (FH σ) [] [] d:=by
 intro I μ st2 ids1 a w hag hst hon;refine ⟨λ_=>?_,λhw=>by rw [AL hg] at hw;cases hw⟩;obtain ⟨xs,h1,h2⟩:=hc I μ a w (Bm hon) trivial;have hb':=FP hag hb;obtain ⟨p1,p2,p3⟩:=Gp hst hb' hn h1;rw [h2];refine (hE I _ w xs p1 p2).mono (λ_ _ h=>h.elim) λchain w' hp=>?_;obtain ⟨v,y,I',r1,r2,r3,r4,r5⟩:=hp;subst r2;have hE':Ext I μ st2 w I' μ [] w':={ imm:=r5.imm,os:=r5.os,tape:=r5.tape,output:=r5.output,size:=r5.size,block:=λb hb ho=>r5.block b hb (λh=>ho (p3 b h)),fresh:=λb hb ⟨i,bi,g,h1,_⟩=>by simp [Az,lk] at h1,old:=λb hb ho=>r5.old b hb (λh=>ho (p3 b h)) }
 exact ⟨v,y,I',r1,hq,r3,r4,hE'⟩
theorem Bd {c:Uj} {x:V} (σ:List (Nat×Nat)) (h:TY n env todo=some c) (hob:AG c.ob) (hE:IR P c.f (F7 (Ep σ) c.das) st0 (.pan x)) (hb:EZ σ st st0) (hn:Di σ (Br σ) (I0 c.das)=true) (hq:KY Q x)
  (h1:Bt todo (FH σ,[])=some (c.all,c.o,todo')) (hk:G P n F Q todo' (BN c.dst SF env) st ids):G P n F Q todo env st ids:=by
 obtain ⟨_,q2,q3,q4,q5,q6⟩:=Nd (P:=P) h hob;rw [q6] at q4 hk;exact BG (fr:=[]) (wr:=[]) h1 (QV q2 q3 hE hb hn hq) q4 q5 hk
end Go.Hk
